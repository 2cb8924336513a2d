import Derived.Test.YtalicdpocgomkaaDoorHash19
namespace Go.Proofs.YtalicdpocgomkaaDoor
open Go.RowKit Go.Dx

theorem toList_ne {x y : ByteArray} (h : x ≠ y) : (x.toList == y.toList) = false := beq_eq_false_iff_ne.2 fun e => h (str_inj.1 (by rw [← Lib.toList_data, ← Lib.toList_data]; exact e))
theorem append_none (x : ByteArray) : x ++ ⟨#[]⟩ = x := by
  apply str_inj.1
  simp
set_option maxRecDepth 100000 in
set_option maxHeartbeats 2000000 in
theorem walk_Equal (x y : ByteArray) (hx : x.size ≤ reachBytes) (hy : y.size ≤ reachBytes) (w : World) (hL : Laid w) :
    Calls Tryd.prog 9 #[.string x, .string y] w fun e w' => e = .returned (.bool true) ∧ Below w.heap.size w w' := by
  unfold reachBytes at hx hy
  have b0 : Below w.heap.size w w ∧ w.heap.size ≤ w.heap.size := ⟨Below.refl _ _, Nat.le_refl _⟩
  have ec := append_none x
  have EC := hide ec
  clear ec
  by_cases q1 : 400 < x.size
  · go_enter Tryd.func9, Tryd.ntmps9
    go_wp2_with (go_at_call 10; refine (law2_sanity w hL).mono ?_; rintro e w1 ⟨rfl, hb⟩)
    go_ret
    exact ⟨rfl, hb⟩
  by_cases q2 : 400 < y.size
  · go_enter Tryd.func9, Tryd.ntmps9
    go_wp2_with (go_at_call 10; refine (law2_sanity w hL).mono ?_; rintro e w1 ⟨rfl, hb⟩)
    go_ret
    exact ⟨rfl, hb⟩
  by_cases hxy : x = y
  · subst hxy
    go_enter Tryd.func9, Tryd.ntmps9
    go_wp2_with fail
    refine (law2_sanity w hL).mono ?_
    rintro e w1 ⟨rfl, h1⟩
    have b1 := bnext b0 h1
    clear h1 b0
    go_wp2_with fail
    refine (equal_at (b := true) (decide_eq_true rfl) (by omega)).mono ?_
    rintro e w2 ⟨rfl, h1⟩
    have b2 := bnext b1 h1
    clear h1 b1
    go_wp2_with fail
    refine (equal_at (b := true) (decide_eq_true rfl) (by omega)).mono ?_
    rintro e w3 ⟨rfl, h1⟩
    have b3 := bnext b2 h1
    clear h1 b2
    go_wp2_with fail
    refine (equal_at (b := true) (decide_eq_true EC.out.symm) (by omega)).mono ?_
    rintro e w4 ⟨rfl, h1⟩
    have b4 := bnext b3 h1
    clear h1 b3
    go_wp2_with fail
    go_ret
    exact ⟨rfl, b4.1⟩
  · have hne := toList_ne hxy
    have HXY := hide hxy
    clear hxy
    go_enter Tryd.func9, Tryd.ntmps9
    go_wp2_with fail
    refine (law2_sanity w hL).mono ?_
    rintro e w1 ⟨rfl, h1⟩
    have b1 := bnext b0 h1
    clear h1 b0
    go_wp2_with fail
    refine (equal_at (b := false) (decide_eq_false HXY.out) (by omega)).mono ?_
    rintro e w2 ⟨rfl, h1⟩
    have b2 := bnext b1 h1
    clear h1 b1
    go_wp2_with fail
    refine (equal_at (b := false) (decide_eq_false (fun e => HXY.out e.symm)) (by omega)).mono ?_
    rintro e w3 ⟨rfl, h1⟩
    have b3 := bnext b2 h1
    clear h1 b2
    go_wp2_with fail
    refine (equal_at (b := true) (decide_eq_true EC.out.symm) (by omega)).mono ?_
    rintro e w4 ⟨rfl, h1⟩
    have b4 := bnext b3 h1
    clear h1 b3
    go_wp2_with fail
    go_ret
    exact ⟨rfl, b4.1⟩
end Go.Proofs.YtalicdpocgomkaaDoor
