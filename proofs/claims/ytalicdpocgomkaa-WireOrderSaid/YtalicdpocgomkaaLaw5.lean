import Derived.Test.YtalicdpocgomkaaLaw1
import Derived.Test.YtalicdpocgomkaaPure9
import Derived.Test.YtalicdpocgomkaaOps4
namespace Go.Proofs.Ytalicdpocgomkaa
open Go.RowKit Go.Dx

theorem cv_str {a : Option Addr} {n c : Nat} {l : List UInt8} {w : World} (hs : Sl w 1 a n c (l.map B8)) : (convert 23 9 (.slice a n c)).run Try.prog w = .ok (.string ⟨l.toArray⟩) w := by
  obtain rfl := hs.n_eq
  cases a with
  | some p => exact run_convert_bytes_back w 23 9 5 p c l Try.underlying23 Try.underlying5 Try.underlying9 (fun j hj => hs.cell p rfl j _ (by simp [hj]))
  | none =>
    have := hs.nil rfl
    have := hs.le
    have hl : l = [] := List.eq_nil_of_length_eq_zero (by omega)
    subst hl
    simp [convert, run_underlying Try.underlying23, run_underlying Try.underlying9, run_underlying Try.underlying5, Conv.bytesToString]
    rfl

set_option maxHeartbeats 1000000 in
theorem walk_Order (m n : Int) (m0 : -9223372036854775808 ≤ m) (m1 : m ≤ 9223372036854775807) (n0 : -9223372036854775808 ≤ n) (n1 : n ≤ 9223372036854775807) (w : World) :
    Calls Try.prog 11 #[.int .i64 m, .int .i64 n] w fun e w' => e = .returned (.bool true) ∧ Below w.heap.size w w' := by
  have hm := fun w => wire_Int m m0 m1 w
  have hn := fun w => wire_Int n n0 n1 w
  have HLT := ord_lt m0 m1 n0 n1
  have HEQ := ord_eq m0 m1 n0 n1
  have HBE : (m == n) = decide (m = n) := by rw [Bool.eq_iff_iff]; simp
  have HPB := hide (ord_pre m0 m1 n0 n1)
  clear m0 m1 n0 n1
  generalize encInt m = A at *
  generalize encInt n = B at *
  have hA : (ByteArray.mk A.toArray).size = A.length := by show A.toArray.size = _; simp
  have hB : (ByteArray.mk B.toArray).size = B.length := by show B.toArray.size = _; simp
  rw [← hA, ← hB] at HPB
  clear hA hB
  have hm' := hide hm
  have hn' := hide hn
  clear hm hn
  generalize hSA : ByteArray.mk A.toArray = SA at *
  generalize hSB : ByteArray.mk B.toArray = SB at *
  have hSA' := hide hSA
  have hSB' := hide hSB
  clear hSA hSB
  go_enter Try.func11, Try.ntmps11
  go_upto_region 1 with fail
  go_cut [5, 6] from 8 to 13 (fun x y w' => x = .string SA ∧ y = .string SB ∧ Below w.heap.size w w' ∧ w.heap.size ≤ w'.heap.size)
  case first =>
    clear HLT HEQ HPB
    go_wp2_with fail
    go_region_with (first
      | (go_at_call_of 58 m; refine (hm'.out _).mono ?_; rintro e w1 ⟨a1, c1, rfl, ho1, hb1⟩; have cv1 := cv_str ho1.sl; try (have cv2 := cv_str (ho2.sl.below hb1)))
      | (go_at_call_of 58 n; refine (hn'.out _).mono ?_; rintro e w2 ⟨a2, c2, rfl, ho2, hb2⟩; have cv2 := cv_str ho2.sl; try (have cv1 := cv_str (ho1.sl.below hb2))))
    all_goals go_wp2_with fail
    all_goals go_meet
    all_goals first
      | exact ⟨by rw [hSA'.out], by rw [hSB'.out], (undrew hb1).trans (hb2.mono hb1.size), Nat.le_trans hb1.size hb2.size⟩
      | exact ⟨by rw [hSA'.out], by rw [hSB'.out], (undrew hb2).trans (hb1.mono hb2.size), Nat.le_trans hb2.size hb1.size⟩
  case rest =>
    obtain ⟨rfl, rfl, hb, hsz⟩ := hcut
    have hb' := hide hb
    clear hb
    by_cases hmin : SB.size < SA.size
    · have HP : ((SA.extract 0 SB.size).toList == SB.toList) = decide (m = n) := by have h := HPB.out SB.size (by omega); simpa using h
      go_wp2_with fail
      refine wp_region_below (by kernel_rfl) (by kernel_rfl) ?_
      go_big_quiet_step ((go_at_call 57; refine onTop_call (law1_sanity _)))
      repeat (go_big_quiet_step (fail))
      refine quiet_at (.bool (decide (m < n))) rfl (fun w => by simp [go_sem]) ?_
      simp only [Act.put, List.setIfInBounds_toArray, List.set_cons_succ, List.set_cons_zero]
      repeat (go_big_quiet_step (fail))
      refine quiet_at (.bool (decide (m < n))) rfl (fun w => by simp [go_sem, HLT]) ?_
      simp only [Act.put, List.setIfInBounds_toArray, List.set_cons_succ, List.set_cons_zero]
      refine quiet_at (.bool true) rfl (fun w => by simp [go_sem]) ?_
      simp only [Act.put, List.setIfInBounds_toArray, List.set_cons_succ, List.set_cons_zero]
      refine quiet_at (.bool true) rfl (fun w => by simp [go_sem]) ?_
      simp only [Act.put, List.setIfInBounds_toArray, List.set_cons_succ, List.set_cons_zero]
      repeat (go_big_quiet_step (fail))
      refine quiet_at (.bool (decide (m = n))) rfl (fun w => by simp [go_sem, HBE]) ?_
      simp only [Act.put, List.setIfInBounds_toArray, List.set_cons_succ, List.set_cons_zero]
      repeat (go_big_quiet_step (fail))
      refine quiet_at (.bool (decide (m = n))) rfl (fun w => by simp [go_sem, HEQ]) ?_
      simp only [Act.put, List.setIfInBounds_toArray, List.set_cons_succ, List.set_cons_zero]
      refine quiet_at (.bool true) rfl (fun w => by simp [go_sem]) ?_
      simp only [Act.put, List.setIfInBounds_toArray, List.set_cons_succ, List.set_cons_zero]
      refine quiet_at (.bool true) rfl (fun w => by simp [go_sem]) ?_
      simp only [Act.put, List.setIfInBounds_toArray, List.set_cons_succ, List.set_cons_zero]
      repeat (go_big_quiet_step (fail))
      refine quiet_at (.string (SA.extract 0 SB.size)) rfl (fun w => by simp [go_sem, Nat.le_of_lt hmin]) ?_
      simp only [Act.put, List.setIfInBounds_toArray, List.set_cons_succ, List.set_cons_zero]
      repeat (go_big_quiet_step (fail))
      refine quiet_at (.string (SB.extract 0 SB.size)) rfl (fun w => by simp [go_sem]) ?_
      simp only [Act.put, List.setIfInBounds_toArray, List.set_cons_succ, List.set_cons_zero]
      refine quiet_at (.bool (decide (m = n))) rfl (fun w => by simp [go_sem, HP]) ?_
      simp only [Act.put, List.setIfInBounds_toArray, List.set_cons_succ, List.set_cons_zero]
      repeat (go_big_quiet_step (fail))
      refine quiet_at (.bool (decide (m = n))) rfl (fun w => by simp [go_sem, HBE]) ?_
      simp only [Act.put, List.setIfInBounds_toArray, List.set_cons_succ, List.set_cons_zero]
      refine quiet_at (.bool true) rfl (fun w => by simp [go_sem]) ?_
      simp only [Act.put, List.setIfInBounds_toArray, List.set_cons_succ, List.set_cons_zero]
      refine quiet_at (.bool true) rfl (fun w => by simp [go_sem]) ?_
      simp only [Act.put, List.setIfInBounds_toArray, List.set_cons_succ, List.set_cons_zero]
      repeat (go_big_quiet_step (fail))
      refine wpQuiet_nil ?_
      rintro w' ⟨p, rfl⟩
      go_wp2_with fail
      go_ret
      exact ⟨rfl, hb'.out.trans (p.h.mono hsz)⟩
    · have HP : (SA.toList == (SB.extract 0 SA.size).toList) = decide (m = n) := by have h := HPB.out SA.size (by omega); simpa using h
      go_wp2_with fail
      refine wp_region_below (by kernel_rfl) (by kernel_rfl) ?_
      go_big_quiet_step ((go_at_call 57; refine onTop_call (law1_sanity _)))
      repeat (go_big_quiet_step (fail))
      refine quiet_at (.bool (decide (m < n))) rfl (fun w => by simp [go_sem]) ?_
      simp only [Act.put, List.setIfInBounds_toArray, List.set_cons_succ, List.set_cons_zero]
      repeat (go_big_quiet_step (fail))
      refine quiet_at (.bool (decide (m < n))) rfl (fun w => by simp [go_sem, HLT]) ?_
      simp only [Act.put, List.setIfInBounds_toArray, List.set_cons_succ, List.set_cons_zero]
      refine quiet_at (.bool true) rfl (fun w => by simp [go_sem]) ?_
      simp only [Act.put, List.setIfInBounds_toArray, List.set_cons_succ, List.set_cons_zero]
      refine quiet_at (.bool true) rfl (fun w => by simp [go_sem]) ?_
      simp only [Act.put, List.setIfInBounds_toArray, List.set_cons_succ, List.set_cons_zero]
      repeat (go_big_quiet_step (fail))
      refine quiet_at (.bool (decide (m = n))) rfl (fun w => by simp [go_sem, HBE]) ?_
      simp only [Act.put, List.setIfInBounds_toArray, List.set_cons_succ, List.set_cons_zero]
      repeat (go_big_quiet_step (fail))
      refine quiet_at (.bool (decide (m = n))) rfl (fun w => by simp [go_sem, HEQ]) ?_
      simp only [Act.put, List.setIfInBounds_toArray, List.set_cons_succ, List.set_cons_zero]
      refine quiet_at (.bool true) rfl (fun w => by simp [go_sem]) ?_
      simp only [Act.put, List.setIfInBounds_toArray, List.set_cons_succ, List.set_cons_zero]
      refine quiet_at (.bool true) rfl (fun w => by simp [go_sem]) ?_
      simp only [Act.put, List.setIfInBounds_toArray, List.set_cons_succ, List.set_cons_zero]
      repeat (go_big_quiet_step (fail))
      refine quiet_at (.string (SA.extract 0 SA.size)) rfl (fun w => by simp [go_sem]) ?_
      simp only [Act.put, List.setIfInBounds_toArray, List.set_cons_succ, List.set_cons_zero]
      repeat (go_big_quiet_step (fail))
      refine quiet_at (.string (SB.extract 0 SA.size)) rfl (fun w => by simp [go_sem, Nat.le_of_not_lt hmin]) ?_
      simp only [Act.put, List.setIfInBounds_toArray, List.set_cons_succ, List.set_cons_zero]
      refine quiet_at (.bool (decide (m = n))) rfl (fun w => by simp [go_sem, HP]) ?_
      simp only [Act.put, List.setIfInBounds_toArray, List.set_cons_succ, List.set_cons_zero]
      repeat (go_big_quiet_step (fail))
      refine quiet_at (.bool (decide (m = n))) rfl (fun w => by simp [go_sem, HBE]) ?_
      simp only [Act.put, List.setIfInBounds_toArray, List.set_cons_succ, List.set_cons_zero]
      refine quiet_at (.bool true) rfl (fun w => by simp [go_sem]) ?_
      simp only [Act.put, List.setIfInBounds_toArray, List.set_cons_succ, List.set_cons_zero]
      refine quiet_at (.bool true) rfl (fun w => by simp [go_sem]) ?_
      simp only [Act.put, List.setIfInBounds_toArray, List.set_cons_succ, List.set_cons_zero]
      repeat (go_big_quiet_step (fail))
      refine wpQuiet_nil ?_
      rintro w' ⟨p, rfl⟩
      go_wp2_with fail
      go_ret
      exact ⟨rfl, hb'.out.trans (p.h.mono hsz)⟩
end Go.Proofs.Ytalicdpocgomkaa
