/- The contracts of the functions that the law reaches, joined into one text. -/
import Derived.Test.YtblgmjnkllkhbaaDoorBaseSBaseE
set_option linter.unusedVariables false
set_option linter.unusedSimpArgs false

/- the text SL1 -/
section
/- Chapter 03: the walk of SignDigitsCross. -/
set_option linter.unusedVariables false
namespace Go.Proofs.YtblgmjnkllkhbaaDoor
open Go.RowKit Go.Dx
def anyLt (f g : Nat → Nat) : Nat → Bool
  | 0 => false
  | n + 1 => anyLt f g n || decide (f n < g n)
theorem anyLt_false {f g : Nat → Nat} : ∀ n, anyLt f g n = false → ∀ j, j < n → g j ≤ f j
  | 0, _, j, hj => by omega
  | n + 1, h, j, hj => by
    rw [anyLt, Bool.or_eq_false_iff] at h
    by_cases e : j = n
    · subst e
      have := of_decide_eq_false h.2
      omega
    · exact anyLt_false n h.1 j (by omega)
theorem flags_true {a b : List UInt8} (ha : a.length = 16) (hb : b.length = 16) : (decide (a = b) || (anyLt (dgs a) (dgs b) 68 && anyLt (dgs b) (dgs a) 68)) = true := by
  by_cases e : a = b
  · rw [decide_eq_true e]; rfl
  · have h1 : anyLt (dgs a) (dgs b) 68 = true := by
      rcases Bool.eq_false_or_eq_true (anyLt (dgs a) (dgs b) 68) with h | h
      · exact h
      · exact absurd (cross_le ha hb (anyLt_false 68 h)) e
    have h2 : anyLt (dgs b) (dgs a) 68 = true := by
      rcases Bool.eq_false_or_eq_true (anyLt (dgs b) (dgs a) 68) with h | h
      · exact h
      · exact absurd (cross_le hb ha (anyLt_false 68 h)).symm e
    rw [h1, h2]; simp
set_option maxRecDepth 100000 in
set_option maxHeartbeats 4000000 in
theorem walk_Cross (a b : List UInt8) (hA : a.length = 16) (hB : b.length = 16) (w : World) (hL : Laid w) :
    Calls Tryd.prog 7 #[.agg (a.map B8).toArray, .agg (b.map B8).toArray] w fun e w' => e = .returned (.bool true) ∧ Below w.heap.size w w' := by
  have HS := hide (law3_sanity w hL)
  have hA := hide hA
  have hB := hide hB
  have hT := hide (flags_true hA.out hB.out)
  have hzA : Hid ((Tryd.prog.info? 23).map (·.size) = some (a.map B8).length) := hide (by rw [List.length_map, hA.out]; exact size_dig')
  have hzB : Hid ((Tryd.prog.info? 23).map (·.size) = some (b.map B8).length) := hide (by rw [List.length_map, hB.out]; exact size_dig')
  go_enter Tryd.func7, Tryd.ntmps7
  go_wp2_with fail
  obtain ⟨w1, Ga, Gb, hw1, e1, e2, xa, xb, b1, l1, l2⟩ := allocs2 w (a.map B8) (b.map B8) 23 23
  have hL1 := hide (hL.below b1)
  rw [← e2, ← hw1, ← e1]
  clear hw1 e1 e2 hL HS
  refine (law3_sanity w1 hL1.out).mono ?_
  rintro e w2 ⟨rfl, h2⟩
  have xa := xa.under h2
  have xb := xb.under h2
  have b2 := b1.trans (h2.mono b1.size)
  clear h2 b1 hL1
  go_wp2_with (with_reducible refine load_box 12 23 _ 23 Ga 0 (a.map B8) (a.map B8) isAgg_dig hzA.out xa rfl (fun j u hj => by rw [Nat.zero_add]; exact hj) ?_)
  refine (sg_Digits a hA.out _).mono ?_
  rintro e w3 ⟨bx, rfl, xx, hbx, h3⟩
  have xa := xa.under h3
  have xb := xb.under h3
  have b3 := b2.trans (h3.mono b2.size)
  clear h3 b2 hbx
  go_wp2_with (with_reducible refine load_box 14 23 _ 23 Gb 0 (b.map B8) (b.map B8) isAgg_dig hzB.out xb rfl (fun j u hj => by rw [Nat.zero_add]; exact hj) ?_)
  refine (sg_Digits b hB.out _).mono ?_
  rintro e w4 ⟨by', rfl, xy, hby, h4⟩
  have xa := xa.under h4
  have xb := xb.under h4
  have xx := xx.under h4
  have b4 := b3.trans (h4.mono b3.size)
  clear h4 b3 hby
  obtain ⟨la, hla⟩ : ∃ l, Hid (((List.range 68).map fun j => (dgs a j : Int)) = l) := ⟨_, rfl⟩
  obtain ⟨lb, hlb⟩ : ∃ l, Hid (((List.range 68).map fun j => (dgs b j : Int)) = l) := ⟨_, rfl⟩
  have ga : Hid (∀ j : Nat, j < 68 → la[j]? = some (dgs a j : Int)) := hide (fun j hj => by rw [← hla.out, List.getElem?_map, List.getElem?_range hj]; rfl)
  have gb : Hid (∀ j : Nat, j < 68 → lb[j]? = some (dgs b j : Int)) := hide (fun j hj => by rw [← hlb.out, List.getElem?_map, List.getElem?_range hj]; rfl)
  rw [hla.out] at xx
  rw [hlb.out] at xy
  go_wp2_with fail
  go_loopg [8, 9, 10] 68 (fun gh p q v w' => ∃ k : Nat, k ≤ 68 ∧ gh = 68 - k ∧ p = .bool (anyLt (dgs a) (dgs b) k) ∧ q = .bool (anyLt (dgs b) (dgs a) k) ∧ v = .int .i64 (k : Int) ∧ Below w4.heap.size w4 w')
  case atStart => exact ⟨0, by omega, by omega, rfl, rfl, rfl, Below.refl _ _⟩
  case round =>
    obtain ⟨k, hk, hg, rfl, rfl, rfl, hb⟩ := hrel
    have HG := hide hg
    clear hg
    by_cases hlt : k < 68
    · obtain ⟨x, hx⟩ : ∃ x, Hid (dgs a k = x) := ⟨_, rfl⟩
      obtain ⟨y, hy⟩ : ∃ y, Hid (dgs b k = y) := ⟨_, rfl⟩
      have q1 : wr.cell? ⟨bx, k, none⟩ = some (I64 (x : Int)) := (xx.under hb).at_ (by rw [List.getElem?_map, ga.out k hlt, hx.out]; rfl)
      have q2 : wr.cell? ⟨by', k, none⟩ = some (I64 (y : Int)) := (xy.under hb).at_ (by rw [List.getElem?_map, gb.out k hlt, hy.out]; rfl)
      have hs1 : Hid (anyLt (dgs a) (dgs b) (k + 1) = (anyLt (dgs a) (dgs b) k || decide ((x : Int) < (y : Int)))) := hide (by rw [anyLt, hx.out, hy.out]; congr 1; exact decide_eq_decide.2 (by omega))
      have hs2 : Hid (anyLt (dgs b) (dgs a) (k + 1) = (anyLt (dgs b) (dgs a) k || decide ((y : Int) < (x : Int)))) := hide (by rw [anyLt, hx.out, hy.out]; congr 1; exact decide_eq_decide.2 (by omega))
      obtain ⟨f1, hf1⟩ : ∃ f, Hid (anyLt (dgs a) (dgs b) k = f) := ⟨_, rfl⟩
      obtain ⟨f2, hf2⟩ : ∃ f, Hid (anyLt (dgs b) (dgs a) k = f) := ⟨_, rfl⟩
      rw [hf1.out, hf2.out]
      rw [hf1.out] at hs1
      rw [hf2.out] at hs2
      have d0 : decide ((k : Int) < 68) = true := decide_eq_true (by omega)
      obtain ⟨t1, ht1⟩ : ∃ t, decide ((x : Int) < (y : Int)) = t := ⟨_, rfl⟩
      obtain ⟨t2, ht2⟩ : ∃ t, decide ((y : Int) < (x : Int)) = t := ⟨_, rfl⟩
      rw [ht1] at hs1
      rw [ht2] at hs2
      have ht3 : decide (x < y) = t1 := by rw [← ht1]; exact decide_eq_decide.2 (by omega)
      have ht4 : decide (y < x) = t2 := by rw [← ht2]; exact decide_eq_decide.2 (by omega)
      have hn1 : Hid (∀ n : Nat, (wr.drewN n).cell? ⟨by', k, none⟩ = some (I64 (y : Int))) := hide (fun n => q2)
      have hn2 : Hid (∀ n : Nat, (wr.drewN n).cell? ⟨bx, k, none⟩ = some (I64 (x : Int))) := hide (fun n => q1)
      have hbN : Hid (∀ m, Below w4.heap.size w4 (wr.drewN m)) := hide (fun m => belowN hb m)
      clear hf1 hf2
      cases f1 <;> cases f2 <;>
      · go_wp2_with fail
        go_quiet (fail)
        go_wp2_with fail
        try go_quiet (fail)
        try go_wp2_with fail
        go_roundg (68 - (k + 1))
        case measure => have := HG.out; omega
        case rel => exact ⟨k + 1, by omega, rfl, by rw [hs1.out]; first | rfl | exact congrArg Value.bool ht3 | exact congrArg Value.bool ht1, by rw [hs2.out]; first | rfl | exact congrArg Value.bool ht4 | exact congrArg Value.bool ht2, by go_num, by first | exact belowN (belowN hb _) _ | exact belowN hb _⟩
    · obtain rfl : k = 68 := by omega
      have zb := b4.trans (hb.mono b4.size)
      have ya := xa.under hb
      have yb := xb.under hb
      obtain ⟨f1, hf1⟩ : ∃ f, Hid (anyLt (dgs a) (dgs b) 68 = f) := ⟨_, rfl⟩
      obtain ⟨f2, hf2⟩ : ∃ f, Hid (anyLt (dgs b) (dgs a) 68 = f) := ⟨_, rfl⟩
      rw [hf1.out, hf2.out]
      obtain ⟨t, ht⟩ : ∃ t, Hid (decide (a = b) = t) := ⟨_, rfl⟩
      have hall : Hid ((t || (f1 && f2)) = true) := hide (by rw [← ht.out, ← hf1.out, ← hf2.out]; exact hT.out)
      clear hf1 hf2 hb xa xb xx xy
      go_wp2_with (first
        | (with_reducible refine load_box_g 54 23 _ 23 Ga 0 (a.map B8) (a.map B8) isAgg_dig hzA.out ya rfl (fun j u hj => by rw [Nat.zero_add]; exact hj) rfl ?_)
        | (with_reducible refine load_box_g 55 23 _ 23 Gb 0 (b.map B8) (b.map B8) isAgg_dig hzB.out yb rfl (fun j u hj => by rw [Nat.zero_add]; exact hj) rfl ?_)
        | (with_reducible refine eql_bytes_g 56 23 _ _ _ _ Tryd.underlying23 Tryd.underlying5 size_u8 guard_dig a b rfl rfl hA.out hB.out rfl ?_; refine shold ?_))
      refine hide ?_
      rw [ht.out]
      have hall := hall.out
      cases t
      · cases f1
        · simp at hall
        · cases f2
          · simp at hall
          · go_wp2_with fail
            go_ret
            exact ⟨rfl, zb⟩
      · go_wp2_with fail
        go_ret
        exact ⟨rfl, zb⟩
end Go.Proofs.YtblgmjnkllkhbaaDoor
end
