import Derived.Test.YtalicdpocgomkaaWire13
namespace Go.Proofs.Ytalicdpocgomkaa
open Go.RowKit Go.Dx

theorem guard_dig : Try.prog.eqGuardType Try.prog.depth 116 = false := by kernel_rfl
/-- digest number k -/
def digAt (f : List UInt8) (k : Nat) : List UInt8 := (f.drop (k * 16)).take 16
theorem digAt_len {f : List UInt8} {n k : Nat} (h : f.length = n * 16) (hk : k < n) : (digAt f k).length = 16 := by unfold digAt; rw [List.length_take, List.length_drop]; omega
theorem digAt_step {f1 f2 : List UInt8} {k : Nat} (h : f1.take (k * 16) = f2.take (k * 16)) : (digAt f1 k = digAt f2 k ↔ f1.take ((k + 1) * 16) = f2.take ((k + 1) * 16)) := by
  rw [Nat.add_mul, Nat.one_mul, List.take_add, List.take_add, h]
  unfold digAt
  exact ⟨fun e => by rw [e], fun e => List.append_cancel_left e⟩
theorem dig_cells {w : World} {b o n c : Nat} {f : List UInt8} (h : Sl w 16 (some ⟨b, o, none⟩) n c (f.map B8)) (k : Nat) : ∀ j u, ((digAt f k).map B8)[j]? = some u → w.cell? ((⟨b, o + k * 16, none⟩ : Addr).add j) = some u := by
  intro j u hj
  unfold digAt at hj
  rw [List.map_take, List.map_drop, List.getElem?_take] at hj
  split at hj
  · rw [List.getElem?_drop] at hj
    have := h.cell _ rfl _ _ hj
    rw [Addr.add_lit] at this ⊢
    rw [Nat.add_assoc]; exact this
  · cases hj

set_option maxHeartbeats 400000 in
theorem ref_SameDigests (f1 f2 : List UInt8) (a1 a2 : Option Addr) (n1 n2 c1 c2 : Nat) (w : World) (h1 : Sl w 16 a1 n1 c1 (f1.map B8)) (h2 : Sl w 16 a2 n2 c2 (f2.map B8)) :
    Calls Try.prog 78 #[.slice a1 n1 c1, .slice a2 n2 c2] w (Still (.bool (decide (f1 = f2))) w) := by
  have hf1 : f1.length = n1 * 16 := by have := h1.len; simpa using this
  have hf2 : f2.length = n2 * 16 := by have := h2.len; simpa using this
  have hm1 := Nat.le_trans h1.le h1.cap
  have hm2 := Nat.le_trans h2.le h2.cap
  unfold maxLen at hm1 hm2
  have HF1 := hide hf1
  have HF2 := hide hf2
  clear hf1 hf2
  by_cases hlen : n1 = n2
  · subst hlen
    have hb : ((n1 : Int) != (n1 : Int)) = false := by simp
    go_enter Try.func78, Try.ntmps78
    go_wp2
    go_loopg [5] n1 (fun g i w' => ∃ (k n : Nat), k ≤ n1 ∧ g = n1 - k ∧ f1.take (k * 16) = f2.take (k * 16) ∧ i = .int .i64 k ∧ w' = w.drewN n)
    case atStart => exact ⟨0, 0, by omega, by omega, by simp, rfl, rfl⟩
    case round =>
      obtain ⟨k, nq, hk, hg, ht, rfl, rfl⟩ := hrel
      have HG := hide hg
      have HT := hide ht
      clear hg ht
      by_cases hkl : k < n1
      · obtain ⟨b1, o1, rfl, hb1, hc1⟩ := h1.ex (by simp; have := HF1.out; omega)
        obtain ⟨b2, o2, rfl, hb2, hc2⟩ := h2.ex (by simp; have := HF2.out; omega)
        have HX := hide (digAt_step HT.out)
        have HC1 := hide (dig_cells h1 k)
        have HC2 := hide (dig_cells h2 k)
        have HL1 := hide (digAt_len HF1.out hkl)
        have HL2 := hide (digAt_len HF2.out hkl)
        clear hc1 hc2
        obtain ⟨r, HR⟩ : ∃ r, Hid (r = decide (digAt f1 k = digAt f2 k)) := ⟨_, rfl⟩
        go_wp2
        refine wp_region_quiet_lit (by kernel_rfl) (by kernel_rfl) ?_
        repeat (go_big_quiet_step (fail))
        refine quiet_load_agg 20 116 _ 16 size_dig _ _ Try.underlying116 _ rfl ((digAt f1 k).map B8) (by rw [List.length_map]; exact HL1.out) HC1.out ?_
        simp only [Act.put, List.setIfInBounds_toArray, List.set_cons_succ, List.set_cons_zero]
        repeat (go_big_quiet_step (fail))
        refine quiet_load_agg 24 116 _ 16 size_dig _ _ Try.underlying116 _ rfl ((digAt f2 k).map B8) (by rw [List.length_map]; exact HL2.out) HC2.out ?_
        refine quiet_neq_bytes 25 116 _ _ _ 16 Try.underlying116 Try.underlying5 size_u8 guard_dig (digAt f1 k) (digAt f2 k) rfl rfl HL1.out HL2.out ?_
        rw [← HR.out]
        simp only [Act.put, List.setIfInBounds_toArray, List.set_cons_succ, List.set_cons_zero]
        refine wpQuiet_nil ?_
        rintro _ ⟨nq2, rfl⟩
        cases r with
        | true =>
          have HE : Hid (f1.take ((k + 1) * 16) = f2.take ((k + 1) * 16)) := HX.out.1 (of_decide_eq_true HR.out.symm)
          go_wp2
          go_roundg (n1 - (k + 1))
          case measure => have := HG.out; omega
          case rel => exact ⟨k + 1, _, by omega, rfl, HE.out, by go_num, by first | rfl | exact World.drewN_drewN _ _ _⟩
        | false =>
          have HE : Hid (decide (f1 = f2) = false) := decide_eq_false fun e => of_decide_eq_false HR.out.symm (HX.out.2 (by rw [e]))
          go_wp2
          go_ret
          exact ⟨by rw [HE.out]; rfl, _, World.drewN_drewN _ _ _⟩
      · obtain rfl : k = n1 := by omega
        go_wp2
        go_ret
        have : f1 = f2 := by have := HT.out; rw [List.take_of_length_le (by have := HF1.out; omega), List.take_of_length_le (by have := HF2.out; omega)] at this; exact this
        exact ⟨by rw [decide_eq_true this]; rfl, _, rfl⟩
  · have hb := neq_nat hlen
    have HN := hide (decide_eq_false (fun e : f1 = f2 => hlen (by have h1 := HF1.out; have h2 := HF2.out; rw [e] at h1; omega)))
    clear hlen
    go_enter Try.func78, Try.ntmps78
    go_wp2
    go_ret
    exact ⟨by rw [HN.out]; rfl, 0, rfl⟩
end Go.Proofs.Ytalicdpocgomkaa
