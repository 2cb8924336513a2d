import Derived.Test.YtalicdpocgomkaaDoorHash4
namespace Go.Proofs.YtalicdpocgomkaaDoor
open Go.RowKit Go.Dx

theorem box_next (w : World) (o : Obj) (us : Array Value) (t : TypeId) : Box ((w.alloc o).alloc (.cells us t)) (w.heap.size + 1) t us.toList := by
  have h := Box.new (w.alloc o) t us
  simpa using h
/-- the program's package-level table holds the round constants -/
structure Laid (w : World) : Prop where
  b : ∀ j u, K256[j]? = some u → w.cell? ⟨1, j, none⟩ = some (W32 u)
theorem Laid.below {w w' : World} (h : Laid w) (hb : Below w.heap.size w w') : Laid w' :=
  ⟨fun j u hj => by rw [hb.cell (World.block_lt_of_cell? w _ (h.b j u hj))]; exact h.b j u hj⟩
theorem Laid.mono {w w' : World} {B : Nat} (h : Laid w) (hb : Below B w w') (hB : w.heap.size ≤ B) : Laid w' := h.below (hb.mono hB)
/-- .. and the reference's -/
structure LaidR (w : World) : Prop where
  a : ∀ j u, K256[j]? = some u → w.cell? ⟨0, j, none⟩ = some (W32 u)
theorem LaidR.below {w w' : World} (h : LaidR w) (hb : Below w.heap.size w w') : LaidR w' :=
  ⟨fun j u hj => by rw [hb.cell (World.block_lt_of_cell? w _ (h.a j u hj))]; exact h.a j u hj⟩
theorem LaidR.mono {w w' : World} {B : Nat} (h : LaidR w) (hb : Below B w w') (hB : w.heap.size ≤ B) : LaidR w' := h.below (hb.mono hB)
theorem hold_store {P : Program} {w : World} {ops : Array Oper} {rest : List Oper} {act : Act} {Q : Exit → Act → World → Prop} {dst : Option Tmp} {t ty : TypeId} {x y : Operand} {pos : String} {after : Array Edge} {g : Option (Nat × Bool)}
    (h : Hid (wpList P ops Q ({ dst := dst, op := .store t x y, type := ty, pos := pos, after := after, guard := g } :: rest) act w)) : wpList P ops Q ({ dst := dst, op := .store t x y, type := ty, pos := pos, after := after, guard := g } :: rest) act w := h
theorem size_u32 : (Tryd.prog.info? 29).map (·.size) = some 1 := by kernel_rfl
theorem size_8 : (Tryd.prog.info? 30).map (·.size) = some 8 := by kernel_rfl
theorem size_4 : (Tryd.prog.info? 63).map (·.size) = some 4 := by kernel_rfl
theorem isAgg_8 : IsAgg Tryd.prog 30 := .inl ⟨_, _, Tryd.underlying30⟩
theorem isAgg_4 : IsAgg Tryd.prog 63 := .inl ⟨_, _, Tryd.underlying63⟩
set_option maxRecDepth 100000 in
set_option maxHeartbeats 4000000 in
theorem compress_any (s : St) (l : List UInt8) (a : Option Addr) (c : Nat) (w : World) (hL : Laid w) (hs : Sl w 1 a 64 c (l.map B8)) :
    Calls Tryd.prog 30 #[.agg (s.list.map W32).toArray, .slice a 64 c] w fun e w' => e = .returned (.agg ((comp s l).list.map W32).toArray) ∧ Below w.heap.size w w' := by
  obtain ⟨ws, hws⟩ : ∃ ws, Hid (wl l 64 = ws) := ⟨_, rfl⟩
  have hC := hide (schedule_any l a c)
  rw [hws.out] at hC
  have hwl : ws.length = 64 := by rw [← hws.out]; exact wl_length l 64
  obtain ⟨s0, s1, s2, s3, s4, s5, s6, s7⟩ := s
  have hz : (Tryd.prog.info? 54).map (·.size) = some (ws.map W32).length := by rw [List.length_map, hwl]; exact size_64
  have hz2 := hide hz
  have hl2 := hide (show (ws.map W32).length = ((List.replicate 64 (0 : UInt32)).map W32).length by rw [List.length_map, List.length_map, List.length_replicate, hwl])
  have hwl := hide hwl
  clear hz
  simp only [St.list, List.map_cons, List.map_nil]
  go_enter Tryd.func30, Tryd.ntmps30
  go_wp2_with fail
  refine (hC.out _ ((hs.alloc _).alloc _)).mono ?_
  rintro e w1 ⟨rfl, h1⟩
  have b1 : Below w.heap.size w w1 := (((Below.refl _ _).alloc (Nat.le_refl _) _).alloc (by simp) _).trans (h1.mono (by simp; omega))
  have x2 : Box w1 w.heap.size 30 [W32 s0, W32 s1, W32 s2, W32 s3, W32 s4, W32 s5, W32 s6, W32 s7] := (((Box.new w _ _)).alloc _).under h1
  have hsz : w.heap.size + 2 ≤ w1.heap.size := by have := h1.size; simp at this; omega
  have x4 : Box w1 (w.heap.size + 1) 30 ((List.replicate 8 (0 : UInt32)).map W32) := (box_zero _ _ _ _ (by simp) _ rfl).under h1
  have hL1 := hL.mono b1 (Nat.le_refl _)
  clear h1 hL hs hC
  go_wp2_with (first
    | (with_reducible refine store_all 54 _ _ 54 _ _ (ws.map W32) _ hz2.out (box_zero _ _ _ _ rfl (List.replicate 64 (0 : UInt32)) rfl) rfl rfl rfl hl2.out (one_map _ (fun _ => rfl) _) ?_; intro w2 x5 hg2 hs2))
  have b2 : Below w.heap.size w w2 := (b1.alloc (by omega) _).grown hg2 (by simp; omega) (fun k hk => by cases hk; omega)
  have x2 := (x2.alloc (.cells ((List.replicate 64 (0 : UInt32)).map W32).toArray 54)).grown hg2 (by simp; omega)
  have x4 := (x4.alloc (.cells ((List.replicate 64 (0 : UInt32)).map W32).toArray 54)).grown hg2 (by simp; omega)
  have hsz2 : w1.heap.size + 1 ≤ w2.heap.size := by have := hg2.size; simp at this; omega
  have hL2 : Laid w2 := hL1.below (((Below.refl _ _).alloc (Nat.le_refl _) _).grown hg2 (by simp) (fun k hk => by cases hk; omega))
  obtain ⟨B, hB⟩ : ∃ B, B = w.heap.size := ⟨_, rfl⟩
  obtain ⟨g5, hg5⟩ : ∃ g, g = w1.heap.size := ⟨_, rfl⟩
  rw [← hB] at b2 x2 x4 hsz ⊢
  rw [← hg5] at x5 hsz hsz2 ⊢
  have HB := hide hB
  clear hg2 b1 hB hg5 hs2
  have c0 : w2.cell? ⟨B, 0, none⟩ = some (W32 s0) := x2.at_ rfl
  have c1 : w2.cell? ⟨B, 1, none⟩ = some (W32 s1) := x2.at_ rfl
  have c2 : w2.cell? ⟨B, 2, none⟩ = some (W32 s2) := x2.at_ rfl
  have c3 : w2.cell? ⟨B, 3, none⟩ = some (W32 s3) := x2.at_ rfl
  have c4 : w2.cell? ⟨B, 4, none⟩ = some (W32 s4) := x2.at_ rfl
  have c5 : w2.cell? ⟨B, 5, none⟩ = some (W32 s5) := x2.at_ rfl
  have c6 : w2.cell? ⟨B, 6, none⟩ = some (W32 s6) := x2.at_ rfl
  have c7 : w2.cell? ⟨B, 7, none⟩ = some (W32 s7) := x2.at_ rfl
  have hBlt : B < w2.heap.size := by omega
  have n1 : w2.heap.size ≠ B := by omega
  have n2 : w2.heap.size + 1 ≠ B := by omega
  have n3 : B ≠ w2.heap.size := by omega
  have n4 : B ≠ w2.heap.size + 1 := by omega
  have ha1 : ∀ W : World, (Instr.arrayAt 63 (.slice (some ⟨B, 0, none⟩) 4 8)).run Tryd.prog W = .ok (.pointer (some ⟨B, 0, none⟩)) W := fun W => by simp [Instr.arrayAt, run_underlying Tryd.underlying63]
  have ha2 : ∀ W : World, (Instr.arrayAt 63 (.slice (some ⟨B, 4, none⟩) 4 4)).run Tryd.prog W = .ok (.pointer (some ⟨B, 4, none⟩)) W := fun W => by simp [Instr.arrayAt, run_underlying Tryd.underlying63]
  go_cut [6, 7] from 15 to 20 (fun p q w' => ∃ g6 g7, p = .pointer (some ⟨g6, 0, none⟩) ∧ q = .pointer (some ⟨g7, 0, none⟩) ∧ g6 ≠ g7 ∧ g5 < g6 ∧ g5 < g7 ∧ Box w' g6 63 [W32 s0, W32 s1, W32 s2, W32 s3] ∧ Box w' g7 63 [W32 s4, W32 s5, W32 s6, W32 s7] ∧ Below w2.heap.size w2 w')
  case first =>
    go_region
    all_goals go_wp2_with fail
    all_goals go_meet
    · exact ⟨w2.heap.size, w2.heap.size + 1, rfl, rfl, by omega, by omega, by omega, ((Box.new w2 _ _).alloc _).drew, (box_next w2 _ _ _).drew, (((Below.refl _ _).alloc (Nat.le_refl _) _).alloc (by simp) _).drew⟩
    · exact ⟨w2.heap.size + 1, w2.heap.size, rfl, rfl, by omega, by omega, by omega, (box_next w2 _ _ _).drew, ((Box.new w2 _ _).alloc _).drew, (((Below.refl _ _).alloc (Nat.le_refl _) _).alloc (by simp) _).drew⟩
  case rest =>
    obtain ⟨g6, g7, rfl, rfl, hne, h6, h7, x6, x7, hb3⟩ := hcut
    have x2 := x2.under hb3
    have x4 := x4.under hb3
    have x5 := x5.under hb3
    have hL3 := hL2.below hb3
    have b3 := b2.trans (hb3.mono (by omega))
    clear c0 c1 c2 c3 c4 c5 c6 c7 ha1 ha2 n1 n2 n3 n4 hBlt b2 hL2 hb3 hL1
    obtain ⟨KS, hKS⟩ : ∃ KS, Hid (K256 = KS) := ⟨_, rfl⟩
    have hKl := hide (show KS.length = 64 by rw [← hKS.out]; rfl)
    have hKb := hide hL3.b
    rw [hKS.out] at hKb
    have hKz := hide (show (KS.map W32).length = 64 by rw [List.length_map, hKl.out])
    clear hL3
    go_wp2_with (with_reducible refine load_agg 21 54 _ 64 size_64 _ _ Tryd.underlying54 ⟨1, 0, none⟩ rfl (KS.map W32) hKz.out (fun j u hj => by rw [Addr.add_lit, Nat.zero_add]; rw [List.getElem?_map] at hj; obtain ⟨q, hq, rfl⟩ := Option.map_eq_some_iff.1 hj; exact hKb.out j q hq) ?_)
    go_loopg [22] 64 (fun g i w' => ∃ t : Nat, t ≤ 64 ∧ g = 64 - t ∧ i = .int .i64 t ∧ (∃ r, rnds KS ws ⟨s0, s1, s2, s3, s4, s5, s6, s7⟩ t = r ∧ Box w' g6 63 [W32 r.a, W32 r.b, W32 r.c, W32 r.d] ∧ Box w' g7 63 [W32 r.e, W32 r.f, W32 r.g, W32 r.h]) ∧ Box w' B 30 [W32 s0, W32 s1, W32 s2, W32 s3, W32 s4, W32 s5, W32 s6, W32 s7] ∧ Box w' (B + 1) 30 ((List.replicate 8 (0 : UInt32)).map W32) ∧ Box w' g5 54 (ws.map W32) ∧ Below B w w')
    case atStart => exact ⟨0, by omega, by omega, rfl, ⟨_, rfl, x6, x7⟩, x2, x4, x5, b3⟩
    case round =>
      clear x2 x4 x5 x6 x7 b3
      obtain ⟨t, ht, hg, rfl, ⟨r, hr, x6, x7⟩, x2, x4, x5, b3⟩ := hrel
      have HG := hide hg
      have HR := hide hr
      clear hg hr
      obtain ⟨a0, b0, c0, d0, e0, f0, g0, h0⟩ := r
      simp only at x6 x7
      by_cases hlt : t < 64
      · obtain ⟨kk, hk⟩ : ∃ k, KS[t]? = some k := ⟨KS[t]'(by rw [hKl.out]; exact hlt), by simp⟩
        obtain ⟨wt, hwt⟩ : ∃ k, ws[t]? = some k := ⟨ws[t]'(by rw [hwl.out]; exact hlt), by simp⟩
        have q0 : wr.cell? ⟨g6, 0, none⟩ = some (W32 a0) := x6.at_ rfl
        have q1 : wr.cell? ⟨g6, 1, none⟩ = some (W32 b0) := x6.at_ rfl
        have q2 : wr.cell? ⟨g6, 2, none⟩ = some (W32 c0) := x6.at_ rfl
        have q3 : wr.cell? ⟨g6, 3, none⟩ = some (W32 d0) := x6.at_ rfl
        have q4 : wr.cell? ⟨g7, 0, none⟩ = some (W32 e0) := x7.at_ rfl
        have q5 : wr.cell? ⟨g7, 1, none⟩ = some (W32 f0) := x7.at_ rfl
        have q6 : wr.cell? ⟨g7, 2, none⟩ = some (W32 g0) := x7.at_ rfl
        have q7 : wr.cell? ⟨g7, 3, none⟩ = some (W32 h0) := x7.at_ rfl
        have q8 : wr.cell? ⟨g5, t, none⟩ = some (W32 wt) := x5.at_ (box_at hwt)
        have it : (t : Int) < 64 := by omega
        have HN : Hid (rnds KS ws ⟨s0, s1, s2, s3, s4, s5, s6, s7⟩ (t + 1) = rnd ⟨a0, b0, c0, d0, e0, f0, g0, h0⟩ kk wt) := by
          show _ = _
          rw [rnds, HR.out, List.getD_eq_getElem?_getD, List.getD_eq_getElem?_getD, hk, hwt]
          rfl
        have hk := hide hk
        have hwt := hide hwt
        go_wp2_with (with_reducible refine index_val 25 54 29 _ _ _ Tryd.underlying54 (by kernel_rfl) (fun W => by kernel_rfl) (KS.map W32) rfl _ t rfl hlt (W32 kk) (box_at hk.out) ?_)
        have hns := not_raw
        go_cut [10] from 26 to 50 (fun x w' => x = W32 (h0 + mix3 e0 6 11 25 + ((e0 &&& f0) ^^^ ((e0 ^^^ (-1)) &&& g0)) + kk + wt) ∧ ∃ n, w' = wr.drewN n)
        case first =>
          go_quiet ((go_at_call 37; exact quiet_left (mix_6 _ _)))
          go_wp2_with fail
          go_meet
          exact ⟨val_w (by rw [ch_raw]; exact sum_x _ _ _ _ _), _, rfl⟩
        case rest =>
          obtain ⟨rfl, n1, rfl⟩ := hcut
          go_wp2_with fail
          go_cut [11] from 51 to 71 (fun x w' => x = W32 (mix3 a0 2 13 22 + ((a0 &&& b0) ^^^ (a0 &&& c0) ^^^ (b0 &&& c0))) ∧ ∃ n, w' = wr.drewN n)
          case first =>
            go_quiet ((go_at_call 37; exact quiet_left2 (mix_2 _ _)))
            go_wp2_with fail
            go_meet
            exact ⟨val_w (by rw [maj_raw]; exact w_add' _ _), _, World.drewN_drewN _ _ _⟩
          case rest =>
            obtain ⟨rfl, n2, rfl⟩ := hcut
            clear hns
            generalize hX : h0 + mix3 e0 6 11 25 + ((e0 &&& f0) ^^^ ((e0 ^^^ (-1)) &&& g0)) + kk + wt = X
            generalize hY : mix3 a0 2 13 22 + ((a0 &&& b0) ^^^ (a0 &&& c0) ^^^ (b0 &&& c0)) = Y
            have hX := hide hX
            have hY := hide hY
            go_wp2_with (with_reducible refine hold_store ?_)
            refine hide ?_
            refine store_all 63 _ _ 63 g7 _ [W32 (d0 + X), W32 e0, W32 f0, W32 g0] _ size_4 (x7.drewN n2) rfl rfl (by show #[_, _, _, _] = _; rw [w_add']) (Eq.refl 4) (by simp [Value.oneCell']) ?_
            intro w8 y7 hg8 hs8
            have y6 := (x6.drewN n2).grown hg8 (by simp; exact hne)
            have p0 : w8.cell? ⟨g6, 0, none⟩ = some (W32 a0) := y6.at_ rfl
            have p1 : w8.cell? ⟨g6, 1, none⟩ = some (W32 b0) := y6.at_ rfl
            have p2 : w8.cell? ⟨g6, 2, none⟩ = some (W32 c0) := y6.at_ rfl
            go_wp2_with (with_reducible refine hold_store ?_)
            refine hide ?_
            refine store_all 63 _ _ 63 g6 _ [W32 (X + Y), W32 a0, W32 b0, W32 c0] _ size_4 y6 rfl rfl (by show #[_, _, _, _] = _; rw [w_add']) (Eq.refl 4) (by simp [Value.oneCell']) ?_
            intro w9 z6 hg9 hs9
            go_wp2_with fail
            go_roundg (64 - (t + 1))
            case measure => have := HG.out; omega
            case rel =>
              have z7 := y7.grown hg9 (by simp; exact Ne.symm hne)
              have z2 := ((x2.drewN n2).grown hg8 (by simp; omega)).grown hg9 (by simp; omega)
              have z4 := ((x4.drewN n2).grown hg8 (by simp; omega)).grown hg9 (by simp; omega)
              have z5 := ((x5.drewN n2).grown hg8 (by simp; omega)).grown hg9 (by simp; omega)
              have bb := ((belowN b3 n2).grown hg8 (Nat.le_of_lt (x2.drewN n2).lt) (fun k hk => by cases hk; omega)).grown hg9 (Nat.le_of_lt ((x2.drewN n2).grown hg8 (by simp; omega)).lt) (fun k hk => by cases hk; omega)
              refine ⟨t + 1, by omega, rfl, by go_num, ⟨_, HN.out, ?_, ?_⟩, z2, z4, z5, bb⟩
              · rw [← hX.out, ← hY.out] at z6; exact z6
              · rw [← hX.out] at z7; exact z7
      · obtain rfl : t = 64 := by omega
        clear HG hKb hKz hKl
        go_wp2
        obtain ⟨wo, rfl⟩ : ∃ wo : World, wo = wr := ⟨_, rfl⟩
        go_loopg [94] 4 (fun g i w' => ∃ k : Nat, k ≤ 4 ∧ g = 4 - k ∧ i = .int .i64 k ∧ (k = 0 ∧ Box w' B 30 [W32 s0, W32 s1, W32 s2, W32 s3, W32 s4, W32 s5, W32 s6, W32 s7] ∨ k = 1 ∧ Box w' B 30 [W32 (s0 + a0), W32 s1, W32 s2, W32 s3, W32 (s4 + e0), W32 s5, W32 s6, W32 s7] ∨ k = 2 ∧ Box w' B 30 [W32 (s0 + a0), W32 (s1 + b0), W32 s2, W32 s3, W32 (s4 + e0), W32 (s5 + f0), W32 s6, W32 s7] ∨ k = 3 ∧ Box w' B 30 [W32 (s0 + a0), W32 (s1 + b0), W32 (s2 + c0), W32 s3, W32 (s4 + e0), W32 (s5 + f0), W32 (s6 + g0), W32 s7] ∨ k = 4 ∧ Box w' B 30 [W32 (s0 + a0), W32 (s1 + b0), W32 (s2 + c0), W32 (s3 + d0), W32 (s4 + e0), W32 (s5 + f0), W32 (s6 + g0), W32 (s7 + h0)]) ∧ Box w' (B + 1) 30 ((List.replicate 8 (0 : UInt32)).map W32) ∧ Box w' g6 63 [W32 a0, W32 b0, W32 c0, W32 d0] ∧ Box w' g7 63 [W32 e0, W32 f0, W32 g0, W32 h0] ∧ Below B w w')
        case atStart => exact ⟨0, by omega, by omega, rfl, .inl ⟨rfl, x2⟩, x4, x6, x7, b3⟩
        case round =>
          clear x2 x4 x5 x6 x7 b3
          obtain ⟨k, hk, hg, rfl, hx2, x4, x6, x7, b3⟩ := hrel
          have HG := hide hg
          clear hg
          rcases hx2 with ⟨rfl, x2⟩ | ⟨rfl, x2⟩ | ⟨rfl, x2⟩ | ⟨rfl, x2⟩ | ⟨rfl, x2⟩
          · have q0 : wr.cell? ⟨B, 0, none⟩ = some (W32 s0) := x2.at_ rfl
            have q1 : wr.cell? ⟨g6, 0, none⟩ = some (W32 a0) := x6.at_ rfl
            go_wp2
            refine wp_region_still_tail 8 (by kernel_rfl) (by kernel_rfl) ?_
            change wpStill _ _ (World.drew _) _ _ _
            simp only [List.take_succ_cons, List.take_zero, List.drop_succ_cons, List.drop_zero]
            repeat still_step
            refine wpStill_nil ?_
            change wpList _ _ _ _ _ (World.drew _)
            refine store_cell 29 _ _ 30 B 0 _ (W32 (s0 + a0)) size_u32 x2.drew rfl (by rw [← val_w (w_add' _ _)]; rfl) rfl rfl (by simp) ?_
            intro w8 y2 hg8 hs8
            have y2 : Box w8 B 30 [W32 (s0 + a0), W32 s1, W32 s2, W32 s3, W32 s4, W32 s5, W32 s6, W32 s7] := y2
            have y4 := x4.drew.grown hg8 (by simp)
            have y6 := x6.drew.grown hg8 (by simp; omega)
            have y7 := x7.drew.grown hg8 (by simp; omega)
            have c3 := b3.drew.grown hg8 (Nat.le_of_lt x2.lt) (fun k hk => by cases hk; omega)
            have q2 : w8.cell? ⟨B, 4, none⟩ = some (W32 s4) := y2.at_ rfl
            have q3 : w8.cell? ⟨g7, 0, none⟩ = some (W32 e0) := y7.at_ rfl
            have zk : IntKind.i64.wrap 4 = 4 := by decide
            go_wp2
            refine wp_region_still_tail 9 (by kernel_rfl) (by kernel_rfl) ?_
            change wpStill _ _ (World.drew _) _ _ _
            simp only [List.take_succ_cons, List.take_zero, List.drop_succ_cons, List.drop_zero]
            repeat still_step
            refine wpStill_nil ?_
            change wpList _ _ _ _ _ (World.drew _)
            refine store_cell 29 _ _ 30 B 4 _ (W32 (s4 + e0)) size_u32 y2.drew rfl (by rw [← val_w (w_add' _ _)]; rfl) rfl rfl (by simp) ?_
            intro w9 z2 hg9 hs9
            have z2 : Box w9 B 30 [W32 (s0 + a0), W32 s1, W32 s2, W32 s3, W32 (s4 + e0), W32 s5, W32 s6, W32 s7] := z2
            go_wp2
            go_roundg (4 - 1)
            case measure => have := HG.out; omega
            case rel => exact ⟨1, by omega, rfl, by go_num, by first | exact .inr (.inl ⟨rfl, z2⟩) | exact .inr (.inr (.inl ⟨rfl, z2⟩)) | exact .inr (.inr (.inr (.inl ⟨rfl, z2⟩))) | exact .inr (.inr (.inr (.inr ⟨rfl, z2⟩))), y4.drew.grown hg9 (by simp), y6.drew.grown hg9 (by simp; omega), y7.drew.grown hg9 (by simp; omega), c3.drew.grown hg9 (Nat.le_of_lt y2.lt) (fun k hk => by cases hk; omega)⟩
          · have q0 : wr.cell? ⟨B, 1, none⟩ = some (W32 s1) := x2.at_ rfl
            have q1 : wr.cell? ⟨g6, 1, none⟩ = some (W32 b0) := x6.at_ rfl
            go_wp2
            refine wp_region_still_tail 8 (by kernel_rfl) (by kernel_rfl) ?_
            change wpStill _ _ (World.drew _) _ _ _
            simp only [List.take_succ_cons, List.take_zero, List.drop_succ_cons, List.drop_zero]
            repeat still_step
            refine wpStill_nil ?_
            change wpList _ _ _ _ _ (World.drew _)
            refine store_cell 29 _ _ 30 B 1 _ (W32 (s1 + b0)) size_u32 x2.drew rfl (by rw [← val_w (w_add' _ _)]; rfl) rfl rfl (by simp) ?_
            intro w8 y2 hg8 hs8
            have y2 : Box w8 B 30 [W32 (s0 + a0), W32 (s1 + b0), W32 s2, W32 s3, W32 (s4 + e0), W32 s5, W32 s6, W32 s7] := y2
            have y4 := x4.drew.grown hg8 (by simp)
            have y6 := x6.drew.grown hg8 (by simp; omega)
            have y7 := x7.drew.grown hg8 (by simp; omega)
            have c3 := b3.drew.grown hg8 (Nat.le_of_lt x2.lt) (fun k hk => by cases hk; omega)
            have q2 : w8.cell? ⟨B, 5, none⟩ = some (W32 s5) := y2.at_ rfl
            have q3 : w8.cell? ⟨g7, 1, none⟩ = some (W32 f0) := y7.at_ rfl
            have zk : IntKind.i64.wrap 5 = 5 := by decide
            go_wp2
            refine wp_region_still_tail 9 (by kernel_rfl) (by kernel_rfl) ?_
            change wpStill _ _ (World.drew _) _ _ _
            simp only [List.take_succ_cons, List.take_zero, List.drop_succ_cons, List.drop_zero]
            repeat still_step
            refine wpStill_nil ?_
            change wpList _ _ _ _ _ (World.drew _)
            refine store_cell 29 _ _ 30 B 5 _ (W32 (s5 + f0)) size_u32 y2.drew rfl (by rw [← val_w (w_add' _ _)]; rfl) rfl rfl (by simp) ?_
            intro w9 z2 hg9 hs9
            have z2 : Box w9 B 30 [W32 (s0 + a0), W32 (s1 + b0), W32 s2, W32 s3, W32 (s4 + e0), W32 (s5 + f0), W32 s6, W32 s7] := z2
            go_wp2
            go_roundg (4 - 2)
            case measure => have := HG.out; omega
            case rel => exact ⟨2, by omega, rfl, by go_num, by first | exact .inr (.inl ⟨rfl, z2⟩) | exact .inr (.inr (.inl ⟨rfl, z2⟩)) | exact .inr (.inr (.inr (.inl ⟨rfl, z2⟩))) | exact .inr (.inr (.inr (.inr ⟨rfl, z2⟩))), y4.drew.grown hg9 (by simp), y6.drew.grown hg9 (by simp; omega), y7.drew.grown hg9 (by simp; omega), c3.drew.grown hg9 (Nat.le_of_lt y2.lt) (fun k hk => by cases hk; omega)⟩
          · have q0 : wr.cell? ⟨B, 2, none⟩ = some (W32 s2) := x2.at_ rfl
            have q1 : wr.cell? ⟨g6, 2, none⟩ = some (W32 c0) := x6.at_ rfl
            go_wp2
            refine wp_region_still_tail 8 (by kernel_rfl) (by kernel_rfl) ?_
            change wpStill _ _ (World.drew _) _ _ _
            simp only [List.take_succ_cons, List.take_zero, List.drop_succ_cons, List.drop_zero]
            repeat still_step
            refine wpStill_nil ?_
            change wpList _ _ _ _ _ (World.drew _)
            refine store_cell 29 _ _ 30 B 2 _ (W32 (s2 + c0)) size_u32 x2.drew rfl (by rw [← val_w (w_add' _ _)]; rfl) rfl rfl (by simp) ?_
            intro w8 y2 hg8 hs8
            have y2 : Box w8 B 30 [W32 (s0 + a0), W32 (s1 + b0), W32 (s2 + c0), W32 s3, W32 (s4 + e0), W32 (s5 + f0), W32 s6, W32 s7] := y2
            have y4 := x4.drew.grown hg8 (by simp)
            have y6 := x6.drew.grown hg8 (by simp; omega)
            have y7 := x7.drew.grown hg8 (by simp; omega)
            have c3 := b3.drew.grown hg8 (Nat.le_of_lt x2.lt) (fun k hk => by cases hk; omega)
            have q2 : w8.cell? ⟨B, 6, none⟩ = some (W32 s6) := y2.at_ rfl
            have q3 : w8.cell? ⟨g7, 2, none⟩ = some (W32 g0) := y7.at_ rfl
            have zk : IntKind.i64.wrap 6 = 6 := by decide
            go_wp2
            refine wp_region_still_tail 9 (by kernel_rfl) (by kernel_rfl) ?_
            change wpStill _ _ (World.drew _) _ _ _
            simp only [List.take_succ_cons, List.take_zero, List.drop_succ_cons, List.drop_zero]
            repeat still_step
            refine wpStill_nil ?_
            change wpList _ _ _ _ _ (World.drew _)
            refine store_cell 29 _ _ 30 B 6 _ (W32 (s6 + g0)) size_u32 y2.drew rfl (by rw [← val_w (w_add' _ _)]; rfl) rfl rfl (by simp) ?_
            intro w9 z2 hg9 hs9
            have z2 : Box w9 B 30 [W32 (s0 + a0), W32 (s1 + b0), W32 (s2 + c0), W32 s3, W32 (s4 + e0), W32 (s5 + f0), W32 (s6 + g0), W32 s7] := z2
            go_wp2
            go_roundg (4 - 3)
            case measure => have := HG.out; omega
            case rel => exact ⟨3, by omega, rfl, by go_num, by first | exact .inr (.inl ⟨rfl, z2⟩) | exact .inr (.inr (.inl ⟨rfl, z2⟩)) | exact .inr (.inr (.inr (.inl ⟨rfl, z2⟩))) | exact .inr (.inr (.inr (.inr ⟨rfl, z2⟩))), y4.drew.grown hg9 (by simp), y6.drew.grown hg9 (by simp; omega), y7.drew.grown hg9 (by simp; omega), c3.drew.grown hg9 (Nat.le_of_lt y2.lt) (fun k hk => by cases hk; omega)⟩
          · have q0 : wr.cell? ⟨B, 3, none⟩ = some (W32 s3) := x2.at_ rfl
            have q1 : wr.cell? ⟨g6, 3, none⟩ = some (W32 d0) := x6.at_ rfl
            go_wp2
            refine wp_region_still_tail 8 (by kernel_rfl) (by kernel_rfl) ?_
            change wpStill _ _ (World.drew _) _ _ _
            simp only [List.take_succ_cons, List.take_zero, List.drop_succ_cons, List.drop_zero]
            repeat still_step
            refine wpStill_nil ?_
            change wpList _ _ _ _ _ (World.drew _)
            refine store_cell 29 _ _ 30 B 3 _ (W32 (s3 + d0)) size_u32 x2.drew rfl (by rw [← val_w (w_add' _ _)]; rfl) rfl rfl (by simp) ?_
            intro w8 y2 hg8 hs8
            have y2 : Box w8 B 30 [W32 (s0 + a0), W32 (s1 + b0), W32 (s2 + c0), W32 (s3 + d0), W32 (s4 + e0), W32 (s5 + f0), W32 (s6 + g0), W32 s7] := y2
            have y4 := x4.drew.grown hg8 (by simp)
            have y6 := x6.drew.grown hg8 (by simp; omega)
            have y7 := x7.drew.grown hg8 (by simp; omega)
            have c3 := b3.drew.grown hg8 (Nat.le_of_lt x2.lt) (fun k hk => by cases hk; omega)
            have q2 : w8.cell? ⟨B, 7, none⟩ = some (W32 s7) := y2.at_ rfl
            have q3 : w8.cell? ⟨g7, 3, none⟩ = some (W32 h0) := y7.at_ rfl
            have zk : IntKind.i64.wrap 7 = 7 := by decide
            go_wp2
            refine wp_region_still_tail 9 (by kernel_rfl) (by kernel_rfl) ?_
            change wpStill _ _ (World.drew _) _ _ _
            simp only [List.take_succ_cons, List.take_zero, List.drop_succ_cons, List.drop_zero]
            repeat still_step
            refine wpStill_nil ?_
            change wpList _ _ _ _ _ (World.drew _)
            refine store_cell 29 _ _ 30 B 7 _ (W32 (s7 + h0)) size_u32 y2.drew rfl (by rw [← val_w (w_add' _ _)]; rfl) rfl rfl (by simp) ?_
            intro w9 z2 hg9 hs9
            have z2 : Box w9 B 30 [W32 (s0 + a0), W32 (s1 + b0), W32 (s2 + c0), W32 (s3 + d0), W32 (s4 + e0), W32 (s5 + f0), W32 (s6 + g0), W32 (s7 + h0)] := z2
            go_wp2
            go_roundg (4 - 4)
            case measure => have := HG.out; omega
            case rel => exact ⟨4, by omega, rfl, by go_num, by first | exact .inr (.inl ⟨rfl, z2⟩) | exact .inr (.inr (.inl ⟨rfl, z2⟩)) | exact .inr (.inr (.inr (.inl ⟨rfl, z2⟩))) | exact .inr (.inr (.inr (.inr ⟨rfl, z2⟩))), y4.drew.grown hg9 (by simp), y6.drew.grown hg9 (by simp; omega), y7.drew.grown hg9 (by simp; omega), c3.drew.grown hg9 (Nat.le_of_lt y2.lt) (fun k hk => by cases hk; omega)⟩
          · have hz8 : (Tryd.prog.info? 30).map (·.size) = some ([W32 (s0 + a0), W32 (s1 + b0), W32 (s2 + c0), W32 (s3 + d0), W32 (s4 + e0), W32 (s5 + f0), W32 (s6 + g0), W32 (s7 + h0)]).length := size_8
            go_wp2_with (first
              | (with_reducible refine load_box 115 30 _ 30 _ 0 _ [W32 (s0 + a0), W32 (s1 + b0), W32 (s2 + c0), W32 (s3 + d0), W32 (s4 + e0), W32 (s5 + f0), W32 (s6 + g0), W32 (s7 + h0)] isAgg_8 hz8 x2 rfl (fun j u hj => by rw [Nat.zero_add]; exact hj) ?_)
              | (with_reducible refine store_all 30 _ _ 30 _ _ [W32 (s0 + a0), W32 (s1 + b0), W32 (s2 + c0), W32 (s3 + d0), W32 (s4 + e0), W32 (s5 + f0), W32 (s6 + g0), W32 (s7 + h0)] _ hz8 x4 rfl rfl rfl (Eq.refl 8) (by simp [Value.oneCell']) ?_; intro w5 x5 hg5 hs5))
            refine bodyPost_ret (run_results_cell rfl rfl isAgg_8 hz8 x5) rfl ⟨?_, by rw [← HB.out]; exact b3.grown hg5 (Nat.le_of_lt x2.lt) (fun k hk => by cases hk; omega)⟩
            unfold comp
            rw [hws.out, hKS.out, HR.out]
            rfl
end Go.Proofs.YtalicdpocgomkaaDoor
