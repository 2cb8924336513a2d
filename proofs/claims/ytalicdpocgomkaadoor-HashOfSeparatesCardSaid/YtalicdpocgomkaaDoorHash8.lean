import Derived.Test.YtalicdpocgomkaaDoorHash7
namespace Go.Proofs.YtalicdpocgomkaaDoor
open Go.RowKit Go.Dx

theorem mix_raw (x : UInt32) (i j k : Nat) : bits .xor .u32 (bits .xor .u32 ((ror x i).toNat : Int) ((ror x j).toNat : Int)) ((ror x k).toNat : Int) = ((mix3 x i j k).toNat : Int) := by rw [w_xor, w_xor]; rfl
theorem size_32 : (Tryd.prog.info? 24).map (·.size) = some 32 := by kernel_rfl
theorem isAgg_32 : IsAgg Tryd.prog 24 := .inl ⟨_, _, Tryd.underlying24⟩
theorem byte_put (ws : List UInt32) (x : UInt32) (t : Nat) (h : ws[t / 4]? = some x) : Value.int .u8 ((x.toNat : Int) / 2 ^ (24 - 8 * (t % 4)) % 256) = B8 (wbyte ws t) := by
  unfold wbyte
  rw [List.getD_eq_getElem?_getD, h]
  show Value.int .u8 _ = Value.int .u8 _
  congr 1
theorem bytes_next (ws : List UInt32) (t : Nat) (h : t < 32) : ((bytesOf ws t ++ List.replicate (32 - t) 0).map B8).set t (B8 (wbyte ws t)) = (bytesOf ws (t + 1) ++ List.replicate (32 - (t + 1)) 0).map B8 := by
  obtain ⟨d, hd⟩ : ∃ d, 32 - t = d + 1 := ⟨31 - t, by omega⟩
  have e : 32 - (t + 1) = d := by omega
  rw [bytesOf_succ, hd, e, ← List.map_set, List.set_append_right _ _ (by rw [bytesOf_length]; exact Nat.le_refl _), bytesOf_length, Nat.sub_self, List.replicate_succ, List.set_cons_zero, List.append_assoc]
  rfl
theorem pad_len (m : List UInt8) : (pad m).length % 64 = 0 := by
  unfold pad padTail
  simp only [List.length_append, List.length_replicate, lenB_length, List.length_singleton]
  unfold padN
  omega
theorem pad_ge (m : List UInt8) : m.length + 9 ≤ (pad m).length ∧ (pad m).length ≤ m.length + 72 := by
  unfold pad padTail
  simp only [List.length_append, List.length_replicate, lenB_length, List.length_singleton]
  unfold padN
  omega
set_option maxRecDepth 100000 in
set_option maxHeartbeats 2000000 in
theorem ref_Sum (l : List UInt8) (hl : l.length ≤ 100000000) (a : Option Addr) (n c : Nat) (w : World) (hL : LaidR w) (hs : Sl w 1 a n c (l.map B8)) :
    Calls Tryd.prog 12 #[.slice a n c] w fun e w' => e = .returned (.agg ((sha l).map B8).toArray) ∧ Below w.heap.size w w' := by
  obtain ⟨M, hM⟩ : ∃ M, Hid (pad l = M) := ⟨_, rfl⟩
  have m0 := pad_len l
  have m1 := pad_ge l
  have hP := hide fun (a : Option Addr) (n c : Nat) (w : World) (hs : Sl w 1 a n c (l.map B8)) => padded_any l (by omega) a n c w hs
  rw [hM.out] at m0 m1 hP
  obtain ⟨N, hN⟩ : ∃ N, M.length = 64 * N := ⟨M.length / 64, by omega⟩
  have hN1 : N ≤ 2000000 := by omega
  have hNb := hide hN
  rw [hN] at hP
  have h8 := build_h0
  generalize hH0 : H0.list.map W32 = L0 at *
  have hH0 := hide hH0
  clear m0 m1 hN
  go_enter Tryd.func12, Tryd.ntmps12
  go_wp2_with (with_reducible refine hold_build ?_)
  refine hide ?_
  refine val_at rfl (.agg L0.toArray) (by simp [execOp, Act.eval, h8]) ?_
  go_wp2_with (with_reducible refine hold_store ?_)
  refine hide ?_
  have L8 : L0.length = 8 := by rw [← hH0.out]; rfl
  have hz8 : (Tryd.prog.info? 30).map (·.size) = some L0.length := by rw [L8]; exact size_8
  have hO8 : ∀ u ∈ L0, u.oneCell' = true := by rw [← hH0.out]; exact one_map _ (fun _ => rfl) _
  refine store_all 30 _ _ 30 _ _ L0 (.agg L0.toArray) hz8 (box_next w _ _ _) (by rfl) (by rfl) rfl (by rw [L8]; exact Eq.refl 8) hO8 ?_
  intro w2 x3 hg2 hs2
  have x2 : Box w2 w.heap.size 24 (zero32.map B8) := ((Box.new w 24 ((zero32.map B8).toArray)).alloc _).grown hg2 (by simp)
  have b2 : Below w.heap.size w w2 := (((Below.refl _ _).alloc (Nat.le_refl _) _).alloc (by simp) _).grown hg2 (by simp; omega) (fun k hk => by cases hk; omega)
  have hL2 := hL.below b2
  have hs2' := hs.below b2
  obtain ⟨B, hB⟩ : ∃ B, B = w.heap.size := ⟨_, rfl⟩
  rw [← hB] at b2 x2 x3 ⊢
  have HB := hide hB
  have hz8 := hide hz8
  have L8 := hide L8
  have hL0 := hide hL
  clear hg2 hs2 hB h8 hO8 hL hs
  have hlt2 := x2.lt
  go_wp2_with fail
  refine (hP.out _ _ _ _ hs2').mono ?_
  rintro e w3 ⟨a4, c4, rfl, o4, h3⟩
  have o4 := o4.mono (B' := B + 2) x3.lt
  have x2 := x2.under h3
  have x3 := x3.under h3
  have hL3 := hL2.below h3
  have b3 := b2.trans (h3.mono (Nat.le_of_lt hlt2))
  clear h3 b2 hs2' hP hL2
  clear hlt2
  go_wp2_with fail
  obtain ⟨KS, hKS⟩ : ∃ KS, Hid (K256 = KS) := ⟨_, rfl⟩
  have hKl := hide (show KS.length = 64 by rw [← hKS.out]; rfl)
  go_loopg [5] N (fun g i w' => ∃ k : Nat, k ≤ N ∧ g = N - k ∧ i = .int .i64 ((64 * k : Nat) : Int) ∧ Box w' (B + 1) 30 ((blocks M k).list.map W32) ∧ Box w' B 24 (zero32.map B8) ∧ Own w' (B + 2) 5 1 a4 (64 * N) c4 (M.map B8) ∧ LaidR w' ∧ Below B w w')
  case atStart => exact ⟨0, by omega, by omega, rfl, by rw [show blocks M 0 = H0 from rfl, hH0.out]; exact x3, x2, o4, hL3, b3⟩
  case round =>
    clear x2 x3 o4 hL3 b3
    obtain ⟨k, hk, hg, rfl, x3, x2, o4, hL3, b3⟩ := hrel
    have HG := hide hg
    clear hg
    by_cases hlt : k < N
    · obtain ⟨p, hp⟩ : ∃ p, p = 64 * k := ⟨_, rfl⟩
      rw [← hp]
      have hp1 : p + 64 ≤ 64 * N := by omega
      have HP := hide hp
      clear hp
      go_wp2_with (with_reducible refine cut_b 33 _ _ _ _ _ _ _ rfl o4.sl _ _ _ _ p (p + 64) rfl rfl (by omega) (by omega) (by omega) (by omega) ?_; intro a5 s5 _)
      obtain ⟨bl, hbl⟩ : ∃ bl, Hid ((M.drop p).take (p + 64 - p) = bl) := ⟨_, rfl⟩
      have e64 : p + 64 - p = 64 := by omega
      rw [hbl.out] at s5
      rw [e64] at s5
      obtain ⟨ws, hws⟩ : ∃ ws, Hid (wl bl 64 = ws) := ⟨_, rfl⟩
      have hwl : ws.length = 64 := by rw [← hws.out]; exact wl_length bl 64
      have hC := words_any bl a5 (c4 - p) wr s5
      rw [hws.out] at hC
      have hzw : (Tryd.prog.info? 54).map (·.size) = some (ws.map W32).length := by rw [List.length_map, hwl]; exact size_64
      have hlw : (ws.map W32).length = ((List.replicate 64 (0 : UInt32)).map W32).length := by rw [List.length_map, List.length_map, List.length_replicate, hwl]
      have hzw := hide hzw
      have hlw := hide hlw
      have hwl := hide hwl
      clear s5 e64
      have hBw := Nat.le_of_lt x2.lt
      refine hC.mono ?_
      rintro e w6 ⟨rfl, h6⟩
      have x2 := x2.under h6
      have x3 := x3.under h6
      have o4 := o4.below h6
      have hL3 := hL3.below h6
      have b3 := b3.trans (h6.mono hBw)
      clear h6 hC
      go_wp2_with (with_reducible refine hold_store ?_)
      refine hide ?_
      refine store_all 54 _ _ 54 _ _ (ws.map W32) (.agg (ws.map W32).toArray) hzw.out (box_zero _ _ _ _ rfl (List.replicate 64 (0 : UInt32)) rfl) (by rfl) (by rfl) rfl hlw.out (one_map _ (fun _ => rfl) _) ?_
      intro w7 x6 hg7 hs7
      have hg6 : B + 1 < w6.heap.size := x3.lt
      have x2 := (x2.alloc (.cells ((List.replicate 64 (0 : UInt32)).map W32).toArray 54)).grown hg7 (by simp; omega)
      have x3 := (x3.alloc (.cells ((List.replicate 64 (0 : UInt32)).map W32).toArray 54)).grown hg7 (by simp; omega)
      have b67 : Below w6.heap.size w6 w7 := ((Below.refl _ _).alloc (Nat.le_refl _) _).grown hg7 (by simp) (fun k hk => by cases hk; exact Nat.le_refl _)
      have o4 := o4.below b67
      have hL3 := hL3.below b67
      have b3 := b3.trans (b67.mono (by omega))
      obtain ⟨g6, hg6'⟩ : ∃ g, g = w6.heap.size := ⟨_, rfl⟩
      rw [← hg6'] at x6 ⊢
      clear hg7 hs7 b67 hg6 hg6'
      obtain ⟨s, hs⟩ : ∃ s, Hid (blocks M k = s) := ⟨_, rfl⟩
      rw [hs.out] at x3
      obtain ⟨s0, s1, s2, s3, s4, s5, s6, s7⟩ := s
      have x3 : Box w7 (B + 1) 30 [W32 s0, W32 s1, W32 s2, W32 s3, W32 s4, W32 s5, W32 s6, W32 s7] := x3
      have q0 : w7.cell? ⟨B + 1, 0, none⟩ = some (W32 s0) := x3.at_ rfl
      have q1 : w7.cell? ⟨B + 1, 1, none⟩ = some (W32 s1) := x3.at_ rfl
      have q2 : w7.cell? ⟨B + 1, 2, none⟩ = some (W32 s2) := x3.at_ rfl
      have q3 : w7.cell? ⟨B + 1, 3, none⟩ = some (W32 s3) := x3.at_ rfl
      have q4 : w7.cell? ⟨B + 1, 4, none⟩ = some (W32 s4) := x3.at_ rfl
      have q5 : w7.cell? ⟨B + 1, 5, none⟩ = some (W32 s5) := x3.at_ rfl
      have q6 : w7.cell? ⟨B + 1, 6, none⟩ = some (W32 s6) := x3.at_ rfl
      have q7 : w7.cell? ⟨B + 1, 7, none⟩ = some (W32 s7) := x3.at_ rfl
      go_wp2_with fail
      go_quiet (fail)
      go_wp2_with fail
      have y3 := x3
      have y2 := x2
      have y4 := o4
      have yL := hL3
      have yb := b3
      have hKa := hL3.a
      rw [hKS.out] at hKa
      have hKa := hide hKa
      clear q0 q1 q2 q3 q4 q5 q6 q7
      obtain ⟨wo, rfl⟩ : ∃ wo : World, wo = wr := ⟨_, rfl⟩
      go_loopg [7, 8, 9, 10, 11, 12, 13, 14, 15] 64 (fun g y7 y8 y9 y10 y11 y12 y13 y14 i w' => ∃ (t m : Nat), t ≤ 64 ∧ g = 64 - t ∧ (∃ r, rnds KS ws ⟨s0, s1, s2, s3, s4, s5, s6, s7⟩ t = r ∧ y7 = W32 r.a ∧ y8 = W32 r.b ∧ y9 = W32 r.c ∧ y10 = W32 r.d ∧ y11 = W32 r.e ∧ y12 = W32 r.f ∧ y13 = W32 r.g ∧ y14 = W32 r.h) ∧ i = .int .i64 t ∧ w' = w7.drewN m)
      case atStart => exact ⟨0, _, by omega, by omega, ⟨_, rfl, rfl, rfl, rfl, rfl, rfl, rfl, rfl, rfl⟩, rfl, rfl⟩
      case round =>
        obtain ⟨t, m, ht, hg, ⟨r, hr, rfl, rfl, rfl, rfl, rfl, rfl, rfl, rfl⟩, rfl, rfl⟩ := hrel
        have HG2 := hide hg
        have HR := hide hr
        clear hg hr
        obtain ⟨a0, b0, c0, d0, e0, f0, g0, h0⟩ := r
        by_cases hlt2 : t < 64
        · obtain ⟨kk, hk2⟩ : ∃ k, KS[t]? = some k := ⟨KS[t]'(by rw [hKl.out]; exact hlt2), by simp⟩
          obtain ⟨wt, hwt⟩ : ∃ k, ws[t]? = some k := ⟨ws[t]'(by rw [hwl.out]; exact hlt2), by simp⟩
          have q8 : w7.cell? ⟨g6, t, none⟩ = some (W32 wt) := x6.at_ (box_at hwt)
          have q9 : w7.cell? ⟨0, t, none⟩ = some (W32 kk) := hKa.out t kk hk2
          have it : (t : Int) < 64 := by omega
          have HN : Hid (rnds KS ws ⟨s0, s1, s2, s3, s4, s5, s6, s7⟩ (t + 1) = rnd ⟨a0, b0, c0, d0, e0, f0, g0, h0⟩ kk wt) := by
            show _ = _
            rw [rnds, HR.out, List.getD_eq_getElem?_getD, List.getD_eq_getElem?_getD, hk2, hwt]
            rfl
          clear hk2 hwt
          go_wp2_with fail
          go_cut [16] from 55 to 81 (fun x w' => x = W32 (h0 + mix3 e0 6 11 25 + ((e0 &&& f0) ^^^ ((e0 ^^^ (-1)) &&& g0)) + kk + wt) ∧ ∃ n, w' = w7.drewN n)
          case first =>
            go_quiet (first | (go_at_call_of 29 (Value.int IntKind.i64 6); exact quiet_more (rotr_c _ 6 6 rfl (by decide) (by decide) _)) | (go_at_call_of 29 (Value.int IntKind.i64 11); exact quiet_more (rotr_c _ 11 11 rfl (by decide) (by decide) _)) | (go_at_call_of 29 (Value.int IntKind.i64 25); exact quiet_more (rotr_c _ 25 25 rfl (by decide) (by decide) _)))
            go_wp2_with fail
            go_meet
            refine ⟨val_w ?_, _, World.drewN_drewN _ _ _⟩
            rw [mix_raw, ch_raw']
            exact sum_x _ _ _ _ _
          case rest =>
            obtain ⟨rfl, n2, rfl⟩ := hcut
            generalize hX : h0 + mix3 e0 6 11 25 + ((e0 &&& f0) ^^^ ((e0 ^^^ (-1)) &&& g0)) + kk + wt = X
            have hX := hide hX
            go_wp2_with fail
            refine (rotr_c _ 2 2 rfl (by decide) (by decide) _).mono ?_
            rintro e w' ⟨rfl, n3, rfl⟩
            go_wp2_with fail
            refine (rotr_c _ 13 13 rfl (by decide) (by decide) _).mono ?_
            rintro e w' ⟨rfl, n4, rfl⟩
            go_wp2_with fail
            refine (rotr_c _ 22 22 rfl (by decide) (by decide) _).mono ?_
            rintro e w' ⟨rfl, n5, rfl⟩
            go_wp2_with fail
            go_roundg (64 - (t + 1))
            case measure => have := HG2.out; omega
            case rel =>
              refine ⟨t + 1, _, by omega, rfl, ⟨_, HN.out, val_w ?_, rfl, rfl, rfl, val_w ?_, rfl, rfl, rfl⟩, by go_num, rfl⟩
              · rw [mix_raw, maj_raw, w_add', w_add', ← hX.out]
                rfl
              · rw [w_add', ← hX.out]
                rfl
        · obtain rfl : t = 64 := by omega
          have q0 : w7.cell? ⟨B + 1, 0, none⟩ = some (W32 s0) := y3.at_ rfl
          have q1 : w7.cell? ⟨B + 1, 1, none⟩ = some (W32 s1) := y3.at_ rfl
          have q2 : w7.cell? ⟨B + 1, 2, none⟩ = some (W32 s2) := y3.at_ rfl
          have q3 : w7.cell? ⟨B + 1, 3, none⟩ = some (W32 s3) := y3.at_ rfl
          have q4 : w7.cell? ⟨B + 1, 4, none⟩ = some (W32 s4) := y3.at_ rfl
          have q5 : w7.cell? ⟨B + 1, 5, none⟩ = some (W32 s5) := y3.at_ rfl
          have q6 : w7.cell? ⟨B + 1, 6, none⟩ = some (W32 s6) := y3.at_ rfl
          have q7 : w7.cell? ⟨B + 1, 7, none⟩ = some (W32 s7) := y3.at_ rfl
          go_wp2_with (with_reducible refine hold_store ?_)
          refine hide ?_
          refine store_all 30 _ _ 30 (B + 1) _ [W32 (s0 + a0), W32 (s1 + b0), W32 (s2 + c0), W32 (s3 + d0), W32 (s4 + e0), W32 (s5 + f0), W32 (s6 + g0), W32 (s7 + h0)] _ size_8 (y3.drewN m) rfl rfl (by show #[_, _, _, _, _, _, _, _] = _; rw [w_add', w_add', w_add', w_add', w_add', w_add', w_add', w_add']) (Eq.refl 8) (by simp [Value.oneCell']) ?_
          intro w8 z3 hg8 hs8
          go_wp2_with fail
          go_roundg (N - (k + 1))
          case measure => have := HG.out; omega
          case rel =>
            have hd : ∀ n, Below B w7 (w7.drewN n) := fun n => ⟨(Below.refl B w7).os, (Below.refl B w7).tape, (Below.refl B w7).output, (Below.refl B w7).size, fun _ _ => rfl⟩
            have hb78 : Below B w7 w8 := (hd m).grown hg8 (by have := y2.lt; simp; omega) (fun k hk => by cases hk; omega)
            have y4 : Own (w7.drewN m) (B + 2) 5 1 a4 (64 * N) c4 (M.map B8) := y4
            refine ⟨k + 1, by omega, rfl, by have := HP.out; go_num, ?_, ?_, ?_, ?_, ?_⟩
            · have e1 : blocks M (k + 1) = comp (blocks M k) ((M.drop (64 * k)).take 64) := rfl
              have e2 : p + 64 - p = 64 := by omega
              have e3 := hbl.out
              rw [e2, HP.out] at e3
              rw [e1, hs.out, e3]
              unfold comp
              rw [hws.out, hKS.out, HR.out]
              exact z3
            · exact (y2.drewN m).grown hg8 (by simp)
            · exact y4.kept hg8 (fun q hq hc => by subst hq; have := y4.base.1; have := Option.some.inj hc; omega)
            · exact hL0.out.mono (yb.trans hb78) (Nat.le_of_eq HB.out.symm)
            · exact yb.trans hb78
    · have hkn : k = N := by omega
      subst hkn
      obtain ⟨S8, hS8⟩ : ∃ L, Hid ((blocks M k).list = L) := ⟨_, rfl⟩
      have hl8 := hide (show S8.length = 8 by rw [← hS8.out]; exact mix3_lists _)
      rw [hS8.out] at x3
      go_wp2_with fail
      have y3 := x3.alloc (.cells ((zero32.map B8).toArray) 24)
      have y2 := x2.alloc (.cells ((zero32.map B8).toArray) 24)
      have yb := b3.alloc (Nat.le_of_lt x2.lt) (.cells ((zero32.map B8).toArray) 24)
      have y5 := Box.new wr 24 ((zero32.map B8).toArray)
      obtain ⟨G, hG⟩ : ∃ G, G = wr.heap.size := ⟨_, rfl⟩
      have hBG : B + 1 < G := by rw [hG]; exact x3.lt
      rw [← hG] at y5 ⊢
      clear hG x2 x3 b3 o4 hL3
      go_loopg [19] 32 (fun g i w' => ∃ t : Nat, t ≤ 32 ∧ g = 32 - t ∧ i = .int .i64 t ∧ Box w' G 24 ((bytesOf S8 t ++ List.replicate (32 - t) 0).map B8) ∧ Box w' (B + 1) 30 (S8.map W32) ∧ Box w' B 24 (zero32.map B8) ∧ Below B w w')
      case atStart => exact ⟨0, by omega, by omega, rfl, y5, y3, y2, yb⟩
      case round =>
        clear y5 y3 y2 yb
        obtain ⟨t, ht, hg, rfl, y5, y3, y2, yb⟩ := hrel
        have HG3 := hide hg
        clear hg
        by_cases hlt : t < 32
        · obtain ⟨x, hx⟩ : ∃ x, S8[t / 4]? = some x := ⟨S8[t / 4]'(by rw [hl8.out]; omega), by simp⟩
          have q0 : wr.cell? ⟨B + 1, t / 4, none⟩ = some (W32 x) := y3.at_ (box_at hx)
          have d0 : wr.cell? ⟨G, t, none⟩ = some (B8 0) := y5.at_ (by rw [List.getElem?_map, List.getElem?_append_right (by rw [bytesOf_length]; exact Nat.le_refl _), bytesOf_length, List.getElem?_replicate, if_pos (by omega)]; rfl)
          have f0 := y5.free t
          have HX := hide hx
          clear hx
          go_wp2_with fail
          go_roundg (32 - (t + 1))
          case measure => have := HG3.out; omega
          case rel =>
            refine ⟨t + 1, by omega, rfl, by go_num, ?_, y3.far (by simp; omega) _, y2.far (by simp; omega) _, yb.setCell (by simp; omega) _⟩
            have h := y5.put t (B8 (wbyte S8 t))
            rw [byte_put S8 x t HX.out]
            rw [bytes_next S8 t hlt] at h
            exact h
        · obtain rfl : t = 32 := by omega
          have y6 : Box wr G 24 ((bytesOf S8 32).map B8) := by simpa only [Nat.sub_self, List.replicate_zero, List.append_nil] using y5
          have hz32 : (Tryd.prog.info? 24).map (·.size) = some ((bytesOf S8 32).map B8).length := by rw [List.length_map, bytesOf_length]; exact size_32
          have hz32' := hide hz32
          have hs32 := hide hS8
          clear y5
          go_wp2_with (first
            | (with_reducible refine load_box 163 24 _ 24 _ 0 _ ((bytesOf S8 32).map B8) isAgg_32 hz32'.out y6 rfl (fun j u hj => by rw [Nat.zero_add]; exact hj) ?_)
            | (with_reducible refine hold_store ?_))
          refine hide ?_
          refine store_all 24 _ _ 24 B _ ((bytesOf S8 32).map B8) (.agg ((bytesOf S8 32).map B8).toArray) hz32'.out y2 (by rfl) (by rfl) rfl (by rw [List.length_map, bytesOf_length]; exact Eq.refl 32) (one_map _ (fun _ => rfl) _) ?_
          intro w9 z2 hg9 hs9
          go_wp2_with fail
          refine bodyPost_ret (run_results_cell rfl rfl isAgg_32 hz32'.out z2) rfl ⟨?_, ?_⟩
          · unfold sha
            rw [hM.out, hNb.out, show 64 * k / 64 = k by omega, hS8.out]
          · rw [← HB.out]
            exact yb.grown hg9 (Nat.le_of_lt y2.lt) (fun k hk => by cases hk; omega)
end Go.Proofs.YtalicdpocgomkaaDoor
