import Derived.Test.YtalicdpocgomkaaDoorHash2
import Derived.Test.YtalicdpocgomkaaDoorHashP
import Derived.Test.YtalicdpocgomkaaDoorBox
namespace Go.Proofs.YtalicdpocgomkaaDoor
open Go.RowKit Go.Dx

theorem isAgg_64 : IsAgg Tryd.prog 54 := .inl ⟨_, _, Tryd.underlying54⟩
theorem size_64 : (Tryd.prog.info? 54).map (·.size) = some 64 := by kernel_rfl
theorem box_zero (w : World) (us : Array Value) (t : TypeId) (b : Nat) (hb : b = w.heap.size) (l : List UInt32) (hus : us.toList = l.map W32) : Box (w.alloc (.cells us t)) b t (l.map W32) := by
  subst hb; rw [← hus]; exact Box.new w t us
theorem box_zero2 (w w2 : World) (us : Array Value) (t : TypeId) (o : Obj) (hw : w2 = (w.alloc (.cells us t)).alloc o) (l : List UInt32) (hus : us.toList = l.map W32) : Box w2 w.heap.size t (l.map W32) := by
  subst hw; exact (box_zero w us t _ rfl l hus).alloc o
theorem warr_zero (l : List UInt8) : warr l 0 = List.replicate 64 0 := rfl

set_option maxRecDepth 100000 in
set_option maxHeartbeats 4000000 in
theorem words_any (l : List UInt8) (a : Option Addr) (c : Nat) (w : World) (hs : Sl w 1 a 64 c (l.map B8)) :
    Calls Tryd.prog 28 #[.slice a 64 c] w fun e w' => e = .returned (.agg ((wl l 64).map W32).toArray) ∧ Below w.heap.size w w' := by
  have hl : l.length = 64 := hs.n_eq.symm
  have HL := hide hl
  clear hl
  go_enter Tryd.func28, Tryd.ntmps28
  go_wp2
  go_loopg [4] 16 (fun g i w' => ∃ t : Nat, t ≤ 16 ∧ g = 16 - t ∧ i = .int .i64 t ∧ Box w' (w.heap.size + 1) 54 ((warr l t).map W32) ∧ Box w' w.heap.size 54 ((List.replicate 64 (0 : UInt32)).map W32) ∧ Below w.heap.size w w')
  case atStart =>
    refine ⟨0, by omega, by omega, rfl, box_zero _ _ _ _ (by simp) _ rfl, box_zero2 w _ _ _ _ rfl _ rfl, ((Below.refl _ _).alloc (Nat.le_refl _) _).alloc (by simp) _⟩
  case round =>
    obtain ⟨t, ht, hg, rfl, hx3, hx2, hb⟩ := hrel
    have HG := hide hg
    clear hg
    by_cases hlt : t < 16
    · obtain ⟨b, off, rfl, hbs, hcell⟩ := (hs.below hb).ex (by simp [HL.out])
      obtain ⟨p0, h0⟩ : ∃ p, p = 4 * t := ⟨_, rfl⟩
      obtain ⟨p1, h1⟩ : ∃ p, p = 4 * t + 1 := ⟨_, rfl⟩
      obtain ⟨p2, h2⟩ : ∃ p, p = 4 * t + 2 := ⟨_, rfl⟩
      obtain ⟨p3, h3⟩ : ∃ p, p = 4 * t + 3 := ⟨_, rfl⟩
      obtain ⟨x0, q0⟩ : ∃ x, l[p0]? = some x := ⟨l[p0]'(by have := HL.out; omega), by simp⟩
      obtain ⟨x1, q1⟩ : ∃ x, l[p1]? = some x := ⟨l[p1]'(by have := HL.out; omega), by simp⟩
      obtain ⟨x2, q2⟩ : ∃ x, l[p2]? = some x := ⟨l[p2]'(by have := HL.out; omega), by simp⟩
      obtain ⟨x3, q3⟩ : ∃ x, l[p3]? = some x := ⟨l[p3]'(by have := HL.out; omega), by simp⟩
      have c0 : wr.cell? ⟨b, off + p0, none⟩ = some (B8 x0) := hcell _ _ (by rw [List.getElem?_map, q0]; rfl)
      have c1 : wr.cell? ⟨b, off + p1, none⟩ = some (B8 x1) := hcell _ _ (by rw [List.getElem?_map, q1]; rfl)
      have c2 : wr.cell? ⟨b, off + p2, none⟩ = some (B8 x2) := hcell _ _ (by rw [List.getElem?_map, q2]; rfl)
      have c3 : wr.cell? ⟨b, off + p3, none⟩ = some (B8 x3) := hcell _ _ (by rw [List.getElem?_map, q3]; rfl)
      have d0 : wr.cell? ⟨w.heap.size + 1, t, none⟩ = some (W32 0) := hx3.at_ (by rw [List.getElem?_map, warr_at l (by omega)]; rfl)
      have f0 := hx3.free t
      have HN : Hid (be4 x0 x1 x2 x3 = wnext l (wl l t) t) := by
        show _ = _
        unfold wnext
        rw [if_pos hlt, ← h1, ← h2, ← h3, ← h0, List.getD_eq_getElem?_getD, List.getD_eq_getElem?_getD, List.getD_eq_getElem?_getD, List.getD_eq_getElem?_getD, q0, q1, q2, q3]
        rfl
      have e0 : 4 * (t : Int) = (p0 : Int) := by omega
      have e1 : (p0 : Int) + 1 = (p1 : Int) := by omega
      have e2 : (p0 : Int) + 2 = (p2 : Int) := by omega
      have e3 : (p0 : Int) + 3 = (p3 : Int) := by omega
      have z0 : IntKind.i64.wrap (p0 : Int) = (p0 : Int) := IntWalk.i64_in _ (by omega)
      have z1 : IntKind.i64.wrap (p1 : Int) = (p1 : Int) := IntWalk.i64_in _ (by omega)
      have z2 : IntKind.i64.wrap (p2 : Int) = (p2 : Int) := IntWalk.i64_in _ (by omega)
      have z3 : IntKind.i64.wrap (p3 : Int) = (p3 : Int) := IntWalk.i64_in _ (by omega)
      have m0 : p0 < 64 := by omega
      have m1 : p1 < 64 := by omega
      have m2 : p2 < 64 := by omega
      have m3 : p3 < 64 := by omega
      have it : (t : Int) < 64 := by omega
      have i0 : (p0 : Int) < 64 := by omega
      have i1 : (p1 : Int) < 64 := by omega
      have i2 : (p2 : Int) < 64 := by omega
      have i3 : (p3 : Int) < 64 := by omega
      clear hcell q0 q1 q2 q3 h0 h1 h2 h3
      go_wp2
      go_still_tail 35, (by kernel_rfl)
      change wpList _ _ _ _ _ wr.drew
      go_wp2
      go_roundg (16 - (t + 1))
      case measure => have := HG.out; omega
      case rel =>
        refine ⟨t + 1, by omega, rfl, by go_num, ?_, ?_, ?_⟩
        · rw [be4_or', HN.out]
          have h := hx3.put t (W32 (wnext l (wl l t) t))
          rw [box_set, warr_next l (by omega)] at h
          exact h.drew
        · exact (hx2.far (by simp) _).drew
        · exact (hb.setCell (p := ⟨w.heap.size + 1, t, none⟩) (Nat.le_succ _) _).drew
    · obtain rfl : t = 16 := by omega
      clear HG
      go_wp2
      obtain ⟨wo, rfl⟩ : ∃ wo : World, wo = wr := ⟨_, rfl⟩
      go_loopg [5] 48 (fun g i w' => ∃ t : Nat, 16 ≤ t ∧ t ≤ 64 ∧ g = 64 - t ∧ i = .int .i64 t ∧ Box w' (w.heap.size + 1) 54 ((warr l t).map W32) ∧ Box w' w.heap.size 54 ((List.replicate 64 (0 : UInt32)).map W32) ∧ Below w.heap.size w w')
      case atStart => exact ⟨16, by omega, by omega, by omega, rfl, hx3, hx2, hb⟩
      case round =>
        clear hx3 hx2 hb
        obtain ⟨t, ht0, ht, hg, rfl, hx3, hx2, hb⟩ := hrel
        have HG := hide hg
        clear hg
        by_cases hlt : t < 64
        · obtain ⟨u0, h0⟩ : ∃ p, p = t - 16 := ⟨_, rfl⟩
          obtain ⟨u1, h1⟩ : ∃ p, p = t - 15 := ⟨_, rfl⟩
          obtain ⟨u7, h7⟩ : ∃ p, p = t - 7 := ⟨_, rfl⟩
          obtain ⟨u2, h2⟩ : ∃ p, p = t - 2 := ⟨_, rfl⟩
          obtain ⟨x0, g0⟩ : ∃ x, x = (wl l t).getD u0 0 := ⟨_, rfl⟩
          obtain ⟨x1, g1⟩ : ∃ x, x = (wl l t).getD u1 0 := ⟨_, rfl⟩
          obtain ⟨x7, g7⟩ : ∃ x, x = (wl l t).getD u7 0 := ⟨_, rfl⟩
          obtain ⟨x2, g2⟩ : ∃ x, x = (wl l t).getD u2 0 := ⟨_, rfl⟩
          have c0 : wr.cell? ⟨w.heap.size + 1, u0, none⟩ = some (W32 x0) := hx3.at_ (by rw [g0]; exact box_at (warr_get l (by omega)))
          have c1 : wr.cell? ⟨w.heap.size + 1, u1, none⟩ = some (W32 x1) := hx3.at_ (by rw [g1]; exact box_at (warr_get l (by omega)))
          have c7 : wr.cell? ⟨w.heap.size + 1, u7, none⟩ = some (W32 x7) := hx3.at_ (by rw [g7]; exact box_at (warr_get l (by omega)))
          have c2 : wr.cell? ⟨w.heap.size + 1, u2, none⟩ = some (W32 x2) := hx3.at_ (by rw [g2]; exact box_at (warr_get l (by omega)))
          have d0 : wr.cell? ⟨w.heap.size + 1, t, none⟩ = some (W32 0) := hx3.at_ (box_at (warr_at l (by omega)))
          have f0 := hx3.free t
          have HN : Hid (x0 + sig0 x1 + x7 + sig1 x2 = wnext l (wl l t) t) := by
            show _ = _
            unfold wnext
            rw [if_neg (by omega), ← h0, ← h1, ← h7, ← h2, ← g0, ← g1, ← g7, ← g2]
          have e0 : (t : Int) - 16 = (u0 : Int) := by omega
          have e1 : (t : Int) - 15 = (u1 : Int) := by omega
          have e7 : (t : Int) - 7 = (u7 : Int) := by omega
          have e2 : (t : Int) - 2 = (u2 : Int) := by omega
          have z0 : IntKind.i64.wrap (u0 : Int) = (u0 : Int) := IntWalk.i64_in _ (by omega)
          have z1 : IntKind.i64.wrap (u1 : Int) = (u1 : Int) := IntWalk.i64_in _ (by omega)
          have z7 : IntKind.i64.wrap (u7 : Int) = (u7 : Int) := IntWalk.i64_in _ (by omega)
          have z2 : IntKind.i64.wrap (u2 : Int) = (u2 : Int) := IntWalk.i64_in _ (by omega)
          have it : (t : Int) < 64 := by omega
          have i0 : (u0 : Int) < 64 := by omega
          have i1 : (u1 : Int) < 64 := by omega
          have i7 : (u7 : Int) < 64 := by omega
          have i2 : (u2 : Int) < 64 := by omega
          clear h0 h1 h7 h2 g0 g1 g7 g2
          go_wp2
          go_quiet (first | (go_at_call_of 29 (Value.int IntKind.i64 7); exact Calls.quiet_of (rotr_c _ 7 7 rfl (by omega) (by omega) _)) | (go_at_call_of 29 (Value.int IntKind.i64 18); exact Calls.quiet_of (rotr_c _ 18 18 rfl (by omega) (by omega) _)))
          go_wp2
          go_quiet (first | (go_at_call_of 29 (Value.int IntKind.i64 17); exact quiet_more (rotr_c _ 17 17 rfl (by omega) (by omega) _)) | (go_at_call_of 29 (Value.int IntKind.i64 19); exact quiet_more (rotr_c _ 19 19 rfl (by omega) (by omega) _)))
          go_wp2
          refine wp_region_still_tail 15 (by kernel_rfl) (by kernel_rfl) ?_
          change wpStill _ _ (World.drew _) _ _ _
          simp only [List.take_succ_cons, List.take_zero, List.drop_succ_cons, List.drop_zero]
          repeat still_step
          refine wpStill_nil ?_
          change wpList _ _ _ _ _ (World.drew _)
          go_wp2
          go_roundg (64 - (t + 1))
          case measure => have := HG.out; omega
          case rel =>
            refine ⟨t + 1, by omega, by omega, rfl, by go_num, ?_, ?_, ?_⟩
            · rw [sig0_raw, sig1_raw]
              rw [w_add4, HN.out]
              have h := hx3.put t (W32 (wnext l (wl l t) t))
              rw [box_set, warr_next l (by omega)] at h
              exact h
            · exact (hx2.far (by simp) _)
            · exact (belowN hb _).setCell (p := ⟨w.heap.size + 1, t, none⟩) (Nat.le_succ _) _
        · obtain rfl : t = 64 := by omega
          obtain ⟨ws, hws⟩ : ∃ ws, Hid (wl l 64 = ws) := ⟨_, rfl⟩
          have hwl : ws.length = 64 := by rw [← hws.out]; exact wl_length l 64
          rw [warr_all, hws.out] at hx3
          have hz : (Tryd.prog.info? 54).map (·.size) = some (ws.map W32).length := by rw [List.length_map, hwl]; exact size_64
          have hz2 := hide hz
          have hl2 := hide (show (ws.map W32).length = ((List.replicate 64 (0 : UInt32)).map W32).length by rw [List.length_map, List.length_map, List.length_replicate, hwl])
          clear hz hwl
          go_wp2_with (first
            | (with_reducible refine load_box 100 54 _ 54 _ 0 _ (ws.map W32) isAgg_64 hz2.out hx3 rfl (fun j u hj => by rw [Nat.zero_add]; exact hj) ?_)
            | (with_reducible refine store_all 54 _ _ 54 _ _ (ws.map W32) _ hz2.out hx2 rfl rfl rfl hl2.out (one_map _ (fun _ => rfl) _) ?_; intro w5 hx5 hg5 hs5))
          refine bodyPost_ret (run_results_cell rfl rfl isAgg_64 hz2.out hx5) rfl ⟨by rw [hws.out], hb.grown hg5 (hb.size) (fun k hk => by cases hk; exact Nat.le_refl _)⟩
end Go.Proofs.YtalicdpocgomkaaDoor
