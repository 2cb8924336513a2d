import Derived.Test.YtalicdpocgomkaaDoorHash3
namespace Go.Proofs.YtalicdpocgomkaaDoor
open Go.RowKit Go.Dx

theorem be4_val (l : List UInt8) (p : Nat) (h : p + 3 < l.length) : be4 (l.getD p 0) (l.getD (p + 1) 0) (l.getD (p + 2) 0) (l.getD (p + 3) 0) = UInt32.ofNat (val ((l.drop p).take 4)) := by
  have e : (l.drop p).take 4 = [l[p], l[p + 1], l[p + 2], l[p + 3]] := by
    apply List.ext_getElem
    · simp; omega
    · intro i h1 h2
      have : i = 0 ∨ i = 1 ∨ i = 2 ∨ i = 3 := by simp at h2; omega
      rcases this with rfl | rfl | rfl | rfl <;> simp
  rw [e, List.getD_eq_getElem?_getD, List.getD_eq_getElem?_getD, List.getD_eq_getElem?_getD, List.getD_eq_getElem?_getD, List.getElem?_eq_getElem (by omega), List.getElem?_eq_getElem (by omega), List.getElem?_eq_getElem (by omega), List.getElem?_eq_getElem (by omega)]
  simp only [Option.getD_some, be4, val, List.foldl_cons, List.foldl_nil]
  congr 1
  omega
theorem warr_same (b : List UInt8) {t : Nat} (h : t < 64) : (warr b t).set t 0 = warr b t := by
  have h1 := warr_at b h
  apply List.ext_getElem?
  intro i
  rw [List.getElem?_set]
  split
  · rename_i e; subst e
    rw [if_pos (by rw [warr_length b (by omega)]; exact h), h1]
  · rfl
set_option maxRecDepth 100000 in
set_option maxHeartbeats 4000000 in
theorem schedule_any (l : List UInt8) (a : Option Addr) (c : Nat) (w : World) (hs : Sl w 1 a 64 c (l.map B8)) :
    Calls Tryd.prog 36 #[.slice a 64 c] w fun e w' => e = .returned (.agg ((wl l 64).map W32).toArray) ∧ Below w.heap.size w w' := by
  have hl : l.length = 64 := hs.n_eq.symm
  have HL := hide hl
  clear hl
  go_enter Tryd.func36, Tryd.ntmps36
  go_wp2
  go_loopg [11] 64 (fun g i w' => ∃ t : Nat, t ≤ 64 ∧ g = 64 - t ∧ i = .int .i64 t ∧ Box w' (w.heap.size + 1) 54 ((warr l t).map W32) ∧ Box w' w.heap.size 54 ((List.replicate 64 (0 : UInt32)).map W32) ∧ Below w.heap.size w w')
  case atStart =>
    refine ⟨0, by omega, by omega, rfl, box_zero _ _ _ _ (by simp) _ rfl, box_zero2 w _ _ _ _ rfl _ rfl, ((Below.refl _ _).alloc (Nat.le_refl _) _).alloc (by simp) _⟩
  case round =>
    obtain ⟨t, ht, hg, rfl, hx3, hx2, hb⟩ := hrel
    have HG := hide hg
    clear hg
    have it64 : (t : Int) ≤ 64 := by omega
    by_cases hlt : t < 16
    · obtain ⟨b0, o0, rfl, hb0, _⟩ := hs.ex (by simp [HL.out])
      have hs1 := hs.below hb
      have hp : 4 * t + 4 ≤ 64 := by omega
      go_wp2_with (with_reducible refine cut_b 22 _ _ _ _ _ _ _ rfl hs1 _ _ _ _ (4 * t) (4 * t + 4) rfl rfl (by omega) (by omega) (by omega) (by omega) ?_; intro a2 hs2 hblk)
      obtain ⟨bs, hbs⟩ : ∃ bs, Hid ((l.drop (4 * t)).take (4 * t + 4 - 4 * t) = bs) := ⟨_, rfl⟩
      rw [hbs.out] at hs2
      have hbl : bs.length = 4 := by rw [← hbs.out, List.length_take, List.length_drop, HL.out]; omega
      obtain ⟨b, off, rfl, hbb, hcell⟩ := hs2.ex (by simp [hbl])
      obtain ⟨q, hq, hqb⟩ := hblk _ rfl
      injection hq with hq
      subst hq
      have hqb : b0 = b := hqb
      subst hqb
      have HN : Hid (UInt32.ofNat (val bs) = wnext l (wl l t) t) := by
        show _ = _
        unfold wnext
        rw [if_pos hlt, be4_val l (4 * t) (by rw [HL.out]; omega), ← hbs.out, show 4 * t + 4 - 4 * t = 4 by omega]
      have hcw : ∀ j u, (bs.map B8)[j]? = some u → w.cell? ⟨b0, off + j, none⟩ = some u := fun j u hj => by rw [← hcell j u hj, hb.cell hb0]
      have hcw := hide hcw
      have hbl := hide hbl
      clear hcell hblk hs2 hbb
      obtain ⟨wo, rfl⟩ : ∃ wo : World, wo = wr := ⟨_, rfl⟩
      go_loopg [24] 4 (fun g i w' => ∃ k : Nat, k ≤ 4 ∧ g = 4 - k ∧ i = .int .i64 k ∧ Box w' (w.heap.size + 1) 54 (((warr l t).set t (UInt32.ofNat (val (bs.take k)))).map W32) ∧ Box w' w.heap.size 54 ((List.replicate 64 (0 : UInt32)).map W32) ∧ Below w.heap.size w w')
      case atStart =>
        refine ⟨0, by omega, by omega, rfl, ?_, hx2, hb⟩
        rw [List.take_zero, show UInt32.ofNat (val []) = 0 from rfl, warr_same l (by omega)]
        exact hx3
      case round =>
        clear hx3 hx2 hb hs1
        obtain ⟨k, hk, hg2, rfl, hx3, hx2, hb⟩ := hrel
        have HG2 := hide hg2
        clear hg2
        by_cases hkl : k < 4
        · obtain ⟨x, hx⟩ : ∃ x, bs[k]? = some x := ⟨bs[k]'(by rw [hbl.out]; exact hkl), by simp⟩
          have c0 : wr.cell? ⟨b0, off + k, none⟩ = some (B8 x) := by rw [hb.cell hb0]; exact hcw.out k _ (by rw [List.getElem?_map, hx]; rfl)
          obtain ⟨y, hy⟩ : ∃ y, Hid (UInt32.ofNat (val (bs.take k)) = y) := ⟨_, rfl⟩
          have hv : val (bs.take k) < 16777216 := Nat.lt_of_lt_of_le (val_lt _) (Nat.le_trans (Nat.pow_le_pow_right (by omega) (show (bs.take k).length ≤ 3 by rw [List.length_take]; omega)) (by decide))
          have hyn : y.toNat = val (bs.take k) := by rw [← hy.out, UInt32.toNat_ofNat']; omega
          have hy24 : y.toNat < 16777216 := by omega
          have HE : Hid (UInt32.ofNat (y.toNat * 256 + x.toNat) = UInt32.ofNat (val (bs.take (k + 1)))) := by
            show _ = _
            rw [List.take_add_one, hx, Option.toList_some, val_snoc, hyn, Nat.mul_comm]
          rw [hy.out] at hx3
          have d0 : wr.cell? ⟨w.heap.size + 1, t, none⟩ = some (W32 y) := hx3.at_ (box_at (by rw [List.getElem?_set_self (by rw [warr_length l (by omega)]; omega)]))
          have f0 := hx3.free t
          have hx8 := UInt8.toNat_lt x
          clear hx hyn hv
          go_wp2
          go_roundg (4 - (k + 1))
          case measure => have := HG2.out; omega
          case rel =>
            refine ⟨k + 1, by omega, rfl, by go_num, ?_, hx2.far (by simp) _, hb.setCell (p := ⟨w.heap.size + 1, t, none⟩) (Nat.le_succ _) _⟩
            rw [sh8n y x hy24, HE.out]
            have h := hx3.put t (W32 (UInt32.ofNat (val (bs.take (k + 1)))))
            rw [box_set, List.set_set] at h
            exact h
        · obtain rfl : k = 4 := by omega
          rw [List.take_of_length_le (by rw [hbl.out]; omega), HN.out, warr_next l (by omega)] at hx3
          go_wp2
          go_roundg (64 - (t + 1))
          case measure => have := HG.out; omega
          case rel => exact ⟨t + 1, by omega, rfl, by go_num, hx3, hx2, hb⟩
    · by_cases hlt2 : t < 64
      · obtain ⟨u0, h0⟩ : ∃ p, p = t - 16 := ⟨_, rfl⟩
        obtain ⟨u1, h1⟩ : ∃ p, p = t - 15 := ⟨_, rfl⟩
        obtain ⟨u7, h7⟩ : ∃ p, p = t - 7 := ⟨_, rfl⟩
        obtain ⟨u2, h2⟩ : ∃ p, p = t - 2 := ⟨_, rfl⟩
        obtain ⟨x0, g0⟩ : ∃ x, x = (wl l t).getD u0 0 := ⟨_, rfl⟩
        obtain ⟨x1, g1⟩ : ∃ x, x = (wl l t).getD u1 0 := ⟨_, rfl⟩
        obtain ⟨x7, g7⟩ : ∃ x, x = (wl l t).getD u7 0 := ⟨_, rfl⟩
        obtain ⟨x2, g2⟩ : ∃ x, x = (wl l t).getD u2 0 := ⟨_, rfl⟩
        have c0 : wr.cell? ⟨w.heap.size + 1, u0, none⟩ = some (W32 x0) := hx3.at_ (by rw [g0]; exact box_at (warr_get l (by omega)))
        have c1 : wr.cell? ⟨w.heap.size + 1, u1, none⟩ = some (W32 x1) := hx3.at_ (by rw [g1]; exact box_at (warr_get l (by omega)))
        have c7 : wr.cell? ⟨w.heap.size + 1, u7, none⟩ = some (W32 x7) := hx3.at_ (by rw [g7]; exact box_at (warr_get l (by omega)))
        have c2 : wr.cell? ⟨w.heap.size + 1, u2, none⟩ = some (W32 x2) := hx3.at_ (by rw [g2]; exact box_at (warr_get l (by omega)))
        have d0 : wr.cell? ⟨w.heap.size + 1, t, none⟩ = some (W32 0) := hx3.at_ (box_at (warr_at l (by omega)))
        have f0 := hx3.free t
        have HN : Hid (x0 + sig0 x1 + x7 + sig1 x2 = wnext l (wl l t) t) := by
          show _ = _
          unfold wnext
          rw [if_neg (by omega), ← h0, ← h1, ← h7, ← h2, ← g0, ← g1, ← g7, ← g2]
        have e0 : (t : Int) - 16 = (u0 : Int) := by omega
        have e1 : (t : Int) - 15 = (u1 : Int) := by omega
        have e7 : (t : Int) - 7 = (u7 : Int) := by omega
        have e2 : (t : Int) - 2 = (u2 : Int) := by omega
        have z0 : IntKind.i64.wrap (u0 : Int) = (u0 : Int) := IntWalk.i64_in _ (by omega)
        have z1 : IntKind.i64.wrap (u1 : Int) = (u1 : Int) := IntWalk.i64_in _ (by omega)
        have z7 : IntKind.i64.wrap (u7 : Int) = (u7 : Int) := IntWalk.i64_in _ (by omega)
        have z2 : IntKind.i64.wrap (u2 : Int) = (u2 : Int) := IntWalk.i64_in _ (by omega)
        have it : (t : Int) < 64 := by omega
        have i0 : (u0 : Int) < 64 := by omega
        have i1 : (u1 : Int) < 64 := by omega
        have i7 : (u7 : Int) < 64 := by omega
        have i2 : (u2 : Int) < 64 := by omega
        clear h0 h1 h7 h2 g0 g1 g7 g2
        go_wp2
        go_quiet (fail)
        go_wp2_with fail
        refine (rotl_c _ 7 _ rfl (by omega) (by omega) _).mono ?_
        rintro e w' ⟨rfl, rfl⟩
        go_wp2_with fail
        refine (rotl_c _ 18 _ rfl (by omega) (by omega) _).mono ?_
        rintro e w' ⟨rfl, rfl⟩
        go_wp2_with fail
        refine (rotl_c _ 17 _ rfl (by omega) (by omega) _).mono ?_
        rintro e w' ⟨rfl, rfl⟩
        go_wp2_with fail
        refine (rotl_c _ 19 _ rfl (by omega) (by omega) _).mono ?_
        rintro e w' ⟨rfl, rfl⟩
        go_wp2_with fail
        refine wp_region_still_tail 15 (by kernel_rfl) (by kernel_rfl) ?_
        change wpStill _ _ (World.drew _) _ _ _
        simp only [List.take_succ_cons, List.take_zero, List.drop_succ_cons, List.drop_zero]
        repeat still_step
        refine wpStill_nil ?_
        change wpList _ _ _ _ _ (World.drew _)
        go_wp2
        go_roundg (64 - (t + 1))
        case measure => have := HG.out; omega
        case rel =>
          refine ⟨t + 1, by omega, rfl, by go_num, ?_, hx2.far (by simp) _, (belowN hb _).setCell (p := ⟨w.heap.size + 1, t, none⟩) (Nat.le_succ _) _⟩
          rw [sig0_raw, sig1_raw, w_add4, HN.out]
          have h := hx3.put t (W32 (wnext l (wl l t) t))
          rw [box_set, warr_next l (by omega)] at h
          exact h
      · obtain rfl : t = 64 := by omega
        obtain ⟨ws, hws⟩ : ∃ ws, Hid (wl l 64 = ws) := ⟨_, rfl⟩
        have hwl : ws.length = 64 := by rw [← hws.out]; exact wl_length l 64
        rw [warr_all, hws.out] at hx3
        have hz : (Tryd.prog.info? 54).map (·.size) = some (ws.map W32).length := by rw [List.length_map, hwl]; exact size_64
        have hz2 := hide hz
        have hl2 := hide (show (ws.map W32).length = ((List.replicate 64 (0 : UInt32)).map W32).length by rw [List.length_map, List.length_map, List.length_replicate, hwl])
        clear hz hwl
        go_wp2_with (first
          | (with_reducible refine load_box 78 54 _ 54 _ 0 _ (ws.map W32) isAgg_64 hz2.out hx3 rfl (fun j u hj => by rw [Nat.zero_add]; exact hj) ?_)
          | (with_reducible refine store_all 54 _ _ 54 _ _ (ws.map W32) _ hz2.out hx2 rfl rfl rfl hl2.out (one_map _ (fun _ => rfl) _) ?_; intro w5 hx5 hg5 hs5))
        refine bodyPost_ret (run_results_cell rfl rfl isAgg_64 hz2.out hx5) rfl ⟨by rw [hws.out], hb.grown hg5 (hb.size) (fun k hk => by cases hk; exact Nat.le_refl _)⟩
end Go.Proofs.YtalicdpocgomkaaDoor
