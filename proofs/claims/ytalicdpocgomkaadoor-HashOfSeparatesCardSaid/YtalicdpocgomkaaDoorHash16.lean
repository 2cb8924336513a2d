import Derived.Test.YtalicdpocgomkaaDoorHash15
namespace Go.Proofs.YtalicdpocgomkaaDoor
open Go.RowKit Go.Dx

/-- the key's bytes, at most 64 -/
def keyL (k : List UInt8) : List UInt8 := if 64 < k.length then sha k else k
theorem keyL_len (k : List UInt8) : (keyL k).length ≤ 64 := by
  unfold keyL
  split
  · rw [sha_len]; omega
  · omega
def pad64 (k : List UInt8) : List UInt8 := k ++ List.replicate (64 - k.length) 0
theorem pad64_len {k : List UInt8} (h : k.length ≤ 64) : (pad64 k).length = 64 := by unfold pad64; rw [List.length_append, List.length_replicate]; omega
def padK (k : List UInt8) (c : UInt8) : List UInt8 := (pad64 k).map (· ^^^ c)
theorem padK_len {k : List UInt8} (h : k.length ≤ 64) (c : UInt8) : (padK k c).length = 64 := by unfold padK; rw [List.length_map, pad64_len h]
def macL (k t : List UInt8) : List UInt8 := sha (padK (keyL k) 0x5c ++ sha (padK (keyL k) 0x36 ++ t))
/-- the first i bytes combined -/
def xorA (p : List UInt8) (c : UInt8) (i : Nat) : List UInt8 := (p.take i).map (· ^^^ c) ++ p.drop i
theorem xorA_zero (p : List UInt8) (c : UInt8) : xorA p c 0 = p := by simp [xorA]
theorem xorA_all {p : List UInt8} {i : Nat} (h : p.length = i) (c : UInt8) : xorA p c i = p.map (· ^^^ c) := by unfold xorA; rw [List.take_of_length_le (by omega), List.drop_eq_nil_of_le (by omega), List.append_nil]
theorem xorA_get {p : List UInt8} {c : UInt8} {i : Nat} {x : UInt8} (h : p[i]? = some x) : (xorA p c i)[i]? = some x := by
  have hl := (List.getElem?_eq_some_iff.1 h).1
  unfold xorA
  rw [List.getElem?_append_right (by rw [List.length_map, List.length_take]; omega), List.length_map, List.length_take, List.getElem?_drop, ← h]
  congr 1
  omega
theorem xorA_set {p : List UInt8} {c : UInt8} {i : Nat} {x : UInt8} (h : p[i]? = some x) : ((xorA p c i).map B8).set i (B8 (x ^^^ c)) = (xorA p c (i + 1)).map B8 := by
  have hl := (List.getElem?_eq_some_iff.1 h).1
  have e : (xorA p c i).set i (x ^^^ c) = xorA p c (i + 1) := by
    unfold xorA
    rw [List.set_append_right _ _ (by rw [List.length_map, List.length_take]; omega), List.length_map, List.length_take, show i - min i p.length = 0 by omega, List.drop_eq_getElem_cons hl, List.set_cons_zero,
      take_next h, List.map_append, List.append_assoc]
    rfl
  rw [← List.map_set, e]
def zero64 : List UInt8 := List.replicate 64 0
theorem zero_64 (W : World) : (zeroValue 31).run Tryd.prog W = .ok (.agg (zero64.map B8).toArray) W := by kernel_rfl
theorem zero64_len : (zero64.map B8).length = 64 := by unfold zero64; rw [List.length_map, List.length_replicate]
theorem pad64_box (k : List UInt8) : (zero64.map B8).take 0 ++ k.map B8 ++ (zero64.map B8).drop (0 + k.length) = (pad64 k).map B8 := by
  unfold pad64 zero64
  rw [List.take_zero, List.nil_append, Nat.zero_add, List.map_append, ← List.map_drop, List.drop_replicate]
set_option maxRecDepth 100000 in
set_option maxHeartbeats 2000000 in
theorem padded_fn (c : UInt8) (key : ByteArray) (hk : key.size ≤ 64) (B : Nat) (w : World) (hB : Box w B 9 [.string key]) :
    Calls Tryd.prog 31 #[B8 c, .pointer (some ⟨B, 0, none⟩)] w fun e w' => e = .returned (.string ⟨(padK key.data.toList c).toArray⟩) ∧ Below w.heap.size w w' := by
  have h64 := zero_64
  have hkl : key.data.toList.length = key.size := Array.length_toList
  have HKL := hide hkl
  have hpb := pad64_box key.data.toList
  obtain ⟨Z, hZ⟩ : ∃ Z, Hid (zero64.map B8 = Z) := ⟨_, rfl⟩
  rw [hZ.out] at h64 hpb
  have hZl : Z.length = 64 := by rw [← hZ.out, zero64_len]
  have HZl := hide hZl
  have Hpb := hide hpb
  obtain ⟨p0, hp0⟩ : ∃ p, Hid (pad64 key.data.toList = p) := ⟨_, rfl⟩
  have hpl : p0.length = 64 := by rw [← hp0.out, pad64_len (by omega)]
  have Hpl := hide hpl
  clear hkl hpb hZl hpl
  go_enter Tryd.func31, Tryd.ntmps31
  go_wp2_with fail
  have x4 : Box (w.alloc (.cells Z.toArray 31)) w.heap.size 31 Z := Box.new w _ _
  have xB : Box (w.alloc (.cells Z.toArray 31)) B 9 [.string key] := hB.alloc _
  have b1 : Below w.heap.size w (w.alloc (.cells Z.toArray 31)) := (Below.refl _ _).alloc (Nat.le_refl _) _
  generalize w.alloc (.cells Z.toArray 31) = w1 at *
  have hcell : ∀ q : OnTop w1, q.v.cell? ⟨B, 0, none⟩ = some (.string key) := fun q => (xB.under q.h).at_ rfl
  have hcell := hide hcell
  refine wp_region_below_tail 2 (by kernel_rfl) (by kernel_rfl) ?_
  simp only [List.take_succ_cons, List.take_zero, List.drop_succ_cons, List.drop_zero]
  refine quiet_cut_var 6 31 5 64 _ none none Tryd.underlying31 size_u8 w.heap.size 0 rfl 0 64 (.inl ⟨rfl, rfl⟩) (.inl ⟨rfl, rfl⟩) (by omega) (by omega) (by omega) ?_
  simp only [Act.put, List.setIfInBounds_toArray, List.set_cons_succ, List.set_cons_zero]
  refine quiet_in (.string key) rfl (by rintro w' ⟨q, rfl⟩; have h := hcell.out q; simp [execOp, Act.eval, go_sem, h]) ?_
  simp only [Act.put, List.setIfInBounds_toArray, List.set_cons_succ, List.set_cons_zero]
  refine wpQuiet_nil ?_
  rintro w5 ⟨q, rfl⟩
  refine copy_str (o := ⟨some 8, _, _, _, _, _⟩) rfl _ _ 22 9 rfl 5 Tryd.underlying22 size_u8 w.heap.size 0 _ _ 31 Z (x4.under q.h) (by rfl) key (by rfl) key.size (by omega) (by rw [HZl.out]; omega) ?_
  intro w3 x5 hg3 hs3
  have e1 : key.data.toList.take key.size = key.data.toList := List.take_of_length_le (by rw [HKL.out]; exact Nat.le_refl _)
  rw [e1, ← HKL.out, Hpb.out, hp0.out] at x5
  have b3 : Below w.heap.size w w3 := (b1.trans (q.h.mono b1.size)).grown hg3 (by have := q.h.size; have := b1.size; omega) (fun k hk => by cases hk; exact Nat.le_refl _)
  clear e1 hg3 hs3 b1 x4 xB hcell Hpb
  obtain ⟨G, hG⟩ : ∃ G, G = w.heap.size := ⟨_, rfl⟩
  rw [← hG] at x5 b3 ⊢
  have HG := hide hG
  clear hG
  have x5 : Box w3 G 31 ((xorA p0 c 0).map B8) := by rw [xorA_zero]; exact x5
  go_wp2_with fail
  go_loopg [9] 64 (fun g i w' => ∃ k : Nat, k ≤ 64 ∧ g = 64 - k ∧ i = .int .i64 k ∧ Box w' G 31 ((xorA p0 c k).map B8) ∧ Below G w w')
  case atStart => exact ⟨0, by omega, by omega, rfl, x5, b3⟩
  case round =>
    clear x5 b3
    obtain ⟨k, hk, hg, rfl, x5, b3⟩ := hrel
    have HN := hide hg
    clear hg
    by_cases hlt : k < 64
    · obtain ⟨u, hu⟩ : ∃ u, p0[k]? = some u := ⟨p0[k]'(by rw [Hpl.out]; exact hlt), by simp⟩
      have q0 : wr.cell? ⟨G, k, none⟩ = some (B8 u) := x5.at_ (box_at (xorA_get hu))
      have f0 := x5.free k
      have HU := hide hu
      clear hu
      go_wp2_with fail
      go_roundg (64 - (k + 1))
      case measure => have := HN.out; omega
      case rel =>
        refine ⟨k + 1, by omega, rfl, by go_num, ?_, b3.setCell (by simp) _⟩
        have h := x5.put k (B8 (u ^^^ c))
        rw [xorA_set HU.out] at h
        rw [x_xor]
        exact h
    · obtain rfl : k = 64 := by omega
      rw [xorA_all Hpl.out] at x5
      have s5 := x5.sl 0 64 64 1 ((p0.map (· ^^^ c)).map B8) (by rw [List.length_map, List.length_map, Hpl.out]) (Nat.le_refl _) (by decide) (fun j u h => by rw [Nat.zero_add]; exact h)
      go_wp2_with (first
        | (with_reducible refine cut_var 19 31 5 64 _ _ _ Tryd.underlying31 size_u8 G 0 rfl 0 64 (.inl ⟨rfl, rfl⟩) (.inl ⟨rfl, rfl⟩) (by omega) (by omega) (by omega) ?_)
        | (with_reducible refine to_str 20 _ _ _ _ (p0.map (· ^^^ c)) rfl s5 ?_))
      go_ret
      exact ⟨by unfold padK; rw [hp0.out]; rfl, by rw [← HG.out]; exact b3⟩
end Go.Proofs.YtalicdpocgomkaaDoor
