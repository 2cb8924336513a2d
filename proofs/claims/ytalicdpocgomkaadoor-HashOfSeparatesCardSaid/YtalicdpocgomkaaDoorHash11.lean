import Derived.Test.YtalicdpocgomkaaDoorHash10
namespace Go.Proofs.YtalicdpocgomkaaDoor
open Go.RowKit Go.Dx

theorem sha_len (m : List UInt8) : (sha m).length = 32 := by unfold sha; exact bytesOf_length _ _
set_option maxRecDepth 100000 in
set_option maxHeartbeats 2000000 in
theorem hsum_any (l : List UInt8) (hl : l.length ≤ 100000000) (a : Option Addr) (n c : Nat) (w : World) (hL : Laid w) (hs : Sl w 1 a n c (l.map B8)) :
    Calls Tryd.prog 11 #[.slice a n c] w fun e w' => e = .returned (.agg ((sha l).map B8).toArray) ∧ Below w.heap.size w w' := by
  have h32 := zero_32
  obtain ⟨Z, hZ⟩ : ∃ Z, Hid (zero32.map B8 = Z) := ⟨_, rfl⟩
  rw [hZ.out] at h32
  go_enter Tryd.func11, Tryd.ntmps11
  go_wp2_with fail
  have x2 : Box (w.alloc (.cells Z.toArray 24)) w.heap.size 24 Z := Box.new w _ _
  have b1 : Below w.heap.size w (w.alloc (.cells Z.toArray 24)) := (Below.refl _ _).alloc (Nat.le_refl _) _
  have hL1 := hL.below b1
  have hs1 := hs.below b1
  clear hL hs h32
  generalize w.alloc (.cells Z.toArray 24) = w1 at *
  have hzs : (Tryd.prog.info? 24).map (·.size) = some ((sha l).map B8).length := by rw [List.length_map, sha_len]; exact size_32
  refine wp_region_below_tail 5 (by kernel_rfl) (by kernel_rfl) ?_
  simp only [List.take_succ_cons, List.take_zero, List.drop_succ_cons, List.drop_zero]
  go_big_quiet_step ((go_at_call 14; refine onTop_call (Begin_at _)))
  refine quiet_in (.slice a n c) rfl (fun w' _ => by kernel_rfl) ?_
  simp only [Act.put, List.setIfInBounds_toArray, List.set_cons_succ, List.set_cons_zero]
  refine quiet_conv_str 5 22 9 _ 5 Tryd.underlying22 Tryd.underlying5 Tryd.underlying9 a n c l rfl (by rintro w' ⟨q, rfl⟩; exact hs1.below q.h) ?_
  simp only [Act.put, List.setIfInBounds_toArray, List.set_cons_succ, List.set_cons_zero]
  go_big_quiet_step ((go_at_call 15; refine onTop_call (add_at (m := []) (r := l) rfl (by omega) _ (hL1.below (OnTop.h _)))))
  go_big_quiet_step ((go_at_call 17; refine onTop_call (ssum_any l (by omega) _ (hL1.below (OnTop.h _)))))
  refine wpQuiet_nil ?_
  rintro w5 ⟨q, rfl⟩
  refine store_all 24 _ _ 24 w.heap.size Z ((sha l).map B8) (.agg ((sha l).map B8).toArray) hzs (x2.under q.h) (by rfl) (by rfl) rfl (by rw [List.length_map, sha_len, ← hZ.out, zero32_len]) (one_map _ (fun _ => rfl) _) ?_
  intro w6 y2 hg6 hs6
  go_wp2_with fail
  exact bodyPost_ret (run_results_cell rfl rfl isAgg_32 hzs y2) rfl ⟨rfl, (b1.trans (q.h.mono (Nat.le_of_lt x2.lt))).grown hg6 (Nat.le_of_lt (x2.under q.h).lt) (fun k hk => by cases hk; exact Nat.le_refl _)⟩
end Go.Proofs.YtalicdpocgomkaaDoor
