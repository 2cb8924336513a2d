/- The contracts of the functions that the law reaches, joined into one text. -/
import Derived.Test.YtblgmjnkllkhbaaDoorBaseSBaseA
import Derived.StillTail
import Derived.Deep.Quiet
import Derived.Lib.Strings
import Derived.Laws.BitsAllLaws
set_option linter.unusedVariables false
set_option linter.unusedSimpArgs false

/- the text Hash5 -/
section
namespace Go.Proofs.YtblgmjnkllkhbaaDoor
open Go.RowKit Go.Dx

theorem box_next (w : World) (o : Obj) (us : Array Value) (t : TypeId) : Box ((w.alloc o).alloc (.cells us t)) (w.heap.size + 1) t us.toList := by
  have h := Box.new (w.alloc o) t us
  simpa using h
/-- the program's package-level table holds the round constants -/
structure Laid (w : World) : Prop where
  b : ∀ j u, K256[j]? = some u → w.cell? ⟨1, j, none⟩ = some (W32 u)
theorem Laid.below {w w' : World} (h : Laid w) (hb : Below w.heap.size w w') : Laid w' :=
  ⟨fun j u hj => by rw [hb.cell (World.block_lt_of_cell? w _ (h.b j u hj))]; exact h.b j u hj⟩
theorem Laid.mono {w w' : World} {B : Nat} (h : Laid w) (hb : Below B w w') (hB : w.heap.size ≤ B) : Laid w' := h.below (hb.mono hB)
/-- .. and the reference's -/
structure LaidR (w : World) : Prop where
  a : ∀ j u, K256[j]? = some u → w.cell? ⟨0, j, none⟩ = some (W32 u)
theorem LaidR.below {w w' : World} (h : LaidR w) (hb : Below w.heap.size w w') : LaidR w' :=
  ⟨fun j u hj => by rw [hb.cell (World.block_lt_of_cell? w _ (h.a j u hj))]; exact h.a j u hj⟩
theorem LaidR.mono {w w' : World} {B : Nat} (h : LaidR w) (hb : Below B w w') (hB : w.heap.size ≤ B) : LaidR w' := h.below (hb.mono hB)
theorem hold_store {P : Program} {w : World} {ops : Array Oper} {rest : List Oper} {act : Act} {Q : Exit → Act → World → Prop} {dst : Option Tmp} {t ty : TypeId} {x y : Operand} {pos : String} {after : Array Edge} {g : Option (Nat × Bool)}
    (h : Hid (wpList P ops Q ({ dst := dst, op := .store t x y, type := ty, pos := pos, after := after, guard := g } :: rest) act w)) : wpList P ops Q ({ dst := dst, op := .store t x y, type := ty, pos := pos, after := after, guard := g } :: rest) act w := h
theorem size_u32 : (Tryd.prog.info? 81).map (·.size) = some 1 := by kernel_rfl
theorem size_8 : (Tryd.prog.info? 82).map (·.size) = some 8 := by kernel_rfl
theorem size_4 : (Tryd.prog.info? 106).map (·.size) = some 4 := by kernel_rfl
theorem isAgg_8 : IsAgg Tryd.prog 82 := .inl ⟨_, _, Tryd.underlying82⟩
theorem isAgg_4 : IsAgg Tryd.prog 106 := .inl ⟨_, _, Tryd.underlying106⟩
set_option maxRecDepth 100000 in
set_option maxHeartbeats 4000000 in
theorem compress_any (s : St) (l : List UInt8) (a : Option Addr) (c : Nat) (w : World) (hL : Laid w) (hs : Sl w 1 a 64 c (l.map B8)) :
    Calls Tryd.prog 67 #[.agg (s.list.map W32).toArray, .slice a 64 c] w fun e w' => e = .returned (.agg ((comp s l).list.map W32).toArray) ∧ Below w.heap.size w w' := by
  obtain ⟨ws, hws⟩ : ∃ ws, Hid (wl l 64 = ws) := ⟨_, rfl⟩
  have hC := hide (schedule_any l a c)
  rw [hws.out] at hC
  have hwl : ws.length = 64 := by rw [← hws.out]; exact wl_length l 64
  obtain ⟨s0, s1, s2, s3, s4, s5, s6, s7⟩ := s
  have hz : (Tryd.prog.info? 103).map (·.size) = some (ws.map W32).length := by rw [List.length_map, hwl]; exact size_64
  have hz2 := hide hz
  have hl2 := hide (show (ws.map W32).length = ((List.replicate 64 (0 : UInt32)).map W32).length by rw [List.length_map, List.length_map, List.length_replicate, hwl])
  have hwl := hide hwl
  clear hz
  simp only [St.list, List.map_cons, List.map_nil]
  go_enter Tryd.func67, Tryd.ntmps67
  go_wp2_with fail
  refine (hC.out _ ((hs.alloc _).alloc _)).mono ?_
  rintro e w1 ⟨rfl, h1⟩
  have b1 : Below w.heap.size w w1 := (((Below.refl _ _).alloc (Nat.le_refl _) _).alloc (by simp) _).trans (h1.mono (by simp; omega))
  have x2 : Box w1 w.heap.size 82 [W32 s0, W32 s1, W32 s2, W32 s3, W32 s4, W32 s5, W32 s6, W32 s7] := (((Box.new w _ _)).alloc _).under h1
  have hsz : w.heap.size + 2 ≤ w1.heap.size := by have := h1.size; simp at this; omega
  have x4 : Box w1 (w.heap.size + 1) 82 ((List.replicate 8 (0 : UInt32)).map W32) := (box_zero _ _ _ _ (by simp) _ rfl).under h1
  have hL1 := hL.mono b1 (Nat.le_refl _)
  clear h1 hL hs hC
  go_wp2_with (first
    | (with_reducible refine store_all 103 _ _ 103 _ _ (ws.map W32) _ hz2.out (box_zero _ _ _ _ rfl (List.replicate 64 (0 : UInt32)) rfl) rfl rfl rfl hl2.out (one_map _ (fun _ => rfl) _) ?_; intro w2 x5 hg2 hs2))
  have b2 : Below w.heap.size w w2 := (b1.alloc (by omega) _).grown hg2 (by simp; omega) (fun k hk => by cases hk; omega)
  have x2 := (x2.alloc (.cells ((List.replicate 64 (0 : UInt32)).map W32).toArray 103)).grown hg2 (by simp; omega)
  have x4 := (x4.alloc (.cells ((List.replicate 64 (0 : UInt32)).map W32).toArray 103)).grown hg2 (by simp; omega)
  have hsz2 : w1.heap.size + 1 ≤ w2.heap.size := by have := hg2.size; simp at this; omega
  have hL2 : Laid w2 := hL1.below (((Below.refl _ _).alloc (Nat.le_refl _) _).grown hg2 (by simp) (fun k hk => by cases hk; omega))
  obtain ⟨B, hB⟩ : ∃ B, B = w.heap.size := ⟨_, rfl⟩
  obtain ⟨g5, hg5⟩ : ∃ g, g = w1.heap.size := ⟨_, rfl⟩
  rw [← hB] at b2 x2 x4 hsz ⊢
  rw [← hg5] at x5 hsz hsz2 ⊢
  have HB := hide hB
  clear hg2 b1 hB hg5 hs2
  have c0 : w2.cell? ⟨B, 0, none⟩ = some (W32 s0) := x2.at_ rfl
  have c1 : w2.cell? ⟨B, 1, none⟩ = some (W32 s1) := x2.at_ rfl
  have c2 : w2.cell? ⟨B, 2, none⟩ = some (W32 s2) := x2.at_ rfl
  have c3 : w2.cell? ⟨B, 3, none⟩ = some (W32 s3) := x2.at_ rfl
  have c4 : w2.cell? ⟨B, 4, none⟩ = some (W32 s4) := x2.at_ rfl
  have c5 : w2.cell? ⟨B, 5, none⟩ = some (W32 s5) := x2.at_ rfl
  have c6 : w2.cell? ⟨B, 6, none⟩ = some (W32 s6) := x2.at_ rfl
  have c7 : w2.cell? ⟨B, 7, none⟩ = some (W32 s7) := x2.at_ rfl
  have hBlt : B < w2.heap.size := by omega
  have n1 : w2.heap.size ≠ B := by omega
  have n2 : w2.heap.size + 1 ≠ B := by omega
  have n3 : B ≠ w2.heap.size := by omega
  have n4 : B ≠ w2.heap.size + 1 := by omega
  have ha1 : ∀ W : World, (Instr.arrayAt 106 (.slice (some ⟨B, 0, none⟩) 4 8)).run Tryd.prog W = .ok (.pointer (some ⟨B, 0, none⟩)) W := fun W => by simp [Instr.arrayAt, run_underlying Tryd.underlying106]
  have ha2 : ∀ W : World, (Instr.arrayAt 106 (.slice (some ⟨B, 4, none⟩) 4 4)).run Tryd.prog W = .ok (.pointer (some ⟨B, 4, none⟩)) W := fun W => by simp [Instr.arrayAt, run_underlying Tryd.underlying106]
  go_cut [6, 7] from 15 to 20 (fun p q w' => ∃ g6 g7, p = .pointer (some ⟨g6, 0, none⟩) ∧ q = .pointer (some ⟨g7, 0, none⟩) ∧ g6 ≠ g7 ∧ g5 < g6 ∧ g5 < g7 ∧ Box w' g6 106 [W32 s0, W32 s1, W32 s2, W32 s3] ∧ Box w' g7 106 [W32 s4, W32 s5, W32 s6, W32 s7] ∧ Below w2.heap.size w2 w')
  case first =>
    go_region
    all_goals go_wp2_with fail
    all_goals go_meet
    · exact ⟨w2.heap.size, w2.heap.size + 1, rfl, rfl, by omega, by omega, by omega, ((Box.new w2 _ _).alloc _).drew, (box_next w2 _ _ _).drew, (((Below.refl _ _).alloc (Nat.le_refl _) _).alloc (by simp) _).drew⟩
    · exact ⟨w2.heap.size + 1, w2.heap.size, rfl, rfl, by omega, by omega, by omega, (box_next w2 _ _ _).drew, ((Box.new w2 _ _).alloc _).drew, (((Below.refl _ _).alloc (Nat.le_refl _) _).alloc (by simp) _).drew⟩
  case rest =>
    obtain ⟨g6, g7, rfl, rfl, hne, h6, h7, x6, x7, hb3⟩ := hcut
    have x2 := x2.under hb3
    have x4 := x4.under hb3
    have x5 := x5.under hb3
    have hL3 := hL2.below hb3
    have b3 := b2.trans (hb3.mono (by omega))
    clear c0 c1 c2 c3 c4 c5 c6 c7 ha1 ha2 n1 n2 n3 n4 hBlt b2 hL2 hb3 hL1
    obtain ⟨KS, hKS⟩ : ∃ KS, Hid (K256 = KS) := ⟨_, rfl⟩
    have hKl := hide (show KS.length = 64 by rw [← hKS.out]; rfl)
    have hKb := hide hL3.b
    rw [hKS.out] at hKb
    have hKz := hide (show (KS.map W32).length = 64 by rw [List.length_map, hKl.out])
    clear hL3
    go_wp2_with (with_reducible refine load_agg 21 103 _ 64 size_64 _ _ Tryd.underlying103 ⟨1, 0, none⟩ rfl (KS.map W32) hKz.out (fun j u hj => by rw [Addr.add_lit, Nat.zero_add]; rw [List.getElem?_map] at hj; obtain ⟨q, hq, rfl⟩ := Option.map_eq_some_iff.1 hj; exact hKb.out j q hq) ?_)
    go_loopg [22] 64 (fun g i w' => ∃ t : Nat, t ≤ 64 ∧ g = 64 - t ∧ i = .int .i64 t ∧ (∃ r, rnds KS ws ⟨s0, s1, s2, s3, s4, s5, s6, s7⟩ t = r ∧ Box w' g6 106 [W32 r.a, W32 r.b, W32 r.c, W32 r.d] ∧ Box w' g7 106 [W32 r.e, W32 r.f, W32 r.g, W32 r.h]) ∧ Box w' B 82 [W32 s0, W32 s1, W32 s2, W32 s3, W32 s4, W32 s5, W32 s6, W32 s7] ∧ Box w' (B + 1) 82 ((List.replicate 8 (0 : UInt32)).map W32) ∧ Box w' g5 103 (ws.map W32) ∧ Below B w w')
    case atStart => exact ⟨0, by omega, by omega, rfl, ⟨_, rfl, x6, x7⟩, x2, x4, x5, b3⟩
    case round =>
      clear x2 x4 x5 x6 x7 b3
      obtain ⟨t, ht, hg, rfl, ⟨r, hr, x6, x7⟩, x2, x4, x5, b3⟩ := hrel
      have HG := hide hg
      have HR := hide hr
      clear hg hr
      obtain ⟨a0, b0, c0, d0, e0, f0, g0, h0⟩ := r
      simp only at x6 x7
      by_cases hlt : t < 64
      · obtain ⟨kk, hk⟩ : ∃ k, KS[t]? = some k := ⟨KS[t]'(by rw [hKl.out]; exact hlt), by simp⟩
        obtain ⟨wt, hwt⟩ : ∃ k, ws[t]? = some k := ⟨ws[t]'(by rw [hwl.out]; exact hlt), by simp⟩
        have q0 : wr.cell? ⟨g6, 0, none⟩ = some (W32 a0) := x6.at_ rfl
        have q1 : wr.cell? ⟨g6, 1, none⟩ = some (W32 b0) := x6.at_ rfl
        have q2 : wr.cell? ⟨g6, 2, none⟩ = some (W32 c0) := x6.at_ rfl
        have q3 : wr.cell? ⟨g6, 3, none⟩ = some (W32 d0) := x6.at_ rfl
        have q4 : wr.cell? ⟨g7, 0, none⟩ = some (W32 e0) := x7.at_ rfl
        have q5 : wr.cell? ⟨g7, 1, none⟩ = some (W32 f0) := x7.at_ rfl
        have q6 : wr.cell? ⟨g7, 2, none⟩ = some (W32 g0) := x7.at_ rfl
        have q7 : wr.cell? ⟨g7, 3, none⟩ = some (W32 h0) := x7.at_ rfl
        have q8 : wr.cell? ⟨g5, t, none⟩ = some (W32 wt) := x5.at_ (box_at hwt)
        have it : (t : Int) < 64 := by omega
        have HN : Hid (rnds KS ws ⟨s0, s1, s2, s3, s4, s5, s6, s7⟩ (t + 1) = rnd ⟨a0, b0, c0, d0, e0, f0, g0, h0⟩ kk wt) := by
          show _ = _
          rw [rnds, HR.out, List.getD_eq_getElem?_getD, List.getD_eq_getElem?_getD, hk, hwt]
          rfl
        have hk := hide hk
        have hwt := hide hwt
        go_wp2_with (with_reducible refine index_val 25 103 81 _ _ _ Tryd.underlying103 (by kernel_rfl) (fun W => by kernel_rfl) (KS.map W32) rfl _ t rfl hlt (W32 kk) (box_at hk.out) ?_)
        have hns := not_raw
        go_cut [10] from 26 to 50 (fun x w' => x = W32 (h0 + mix3 e0 6 11 25 + ((e0 &&& f0) ^^^ ((e0 ^^^ (-1)) &&& g0)) + kk + wt) ∧ ∃ n, w' = wr.drewN n)
        case first =>
          go_quiet ((go_at_call 73; exact quiet_left (mix_6 _ _)))
          go_wp2_with fail
          go_meet
          exact ⟨val_w (by rw [ch_raw]; exact sum_x _ _ _ _ _), _, rfl⟩
        case rest =>
          obtain ⟨rfl, n1, rfl⟩ := hcut
          go_wp2_with fail
          go_cut [11] from 51 to 71 (fun x w' => x = W32 (mix3 a0 2 13 22 + ((a0 &&& b0) ^^^ (a0 &&& c0) ^^^ (b0 &&& c0))) ∧ ∃ n, w' = wr.drewN n)
          case first =>
            go_quiet ((go_at_call 73; exact quiet_left2 (mix_2 _ _)))
            go_wp2_with fail
            go_meet
            exact ⟨val_w (by rw [maj_raw]; exact w_add' _ _), _, World.drewN_drewN _ _ _⟩
          case rest =>
            obtain ⟨rfl, n2, rfl⟩ := hcut
            clear hns
            generalize hX : h0 + mix3 e0 6 11 25 + ((e0 &&& f0) ^^^ ((e0 ^^^ (-1)) &&& g0)) + kk + wt = X
            generalize hY : mix3 a0 2 13 22 + ((a0 &&& b0) ^^^ (a0 &&& c0) ^^^ (b0 &&& c0)) = Y
            have hX := hide hX
            have hY := hide hY
            go_wp2_with (with_reducible refine hold_store ?_)
            refine hide ?_
            refine store_all 106 _ _ 106 g7 _ [W32 (d0 + X), W32 e0, W32 f0, W32 g0] _ size_4 (x7.drewN n2) rfl rfl (by show #[_, _, _, _] = _; rw [w_add']) (Eq.refl 4) (by simp [Value.oneCell']) ?_
            intro w8 y7 hg8 hs8
            have y6 := (x6.drewN n2).grown hg8 (by simp; exact hne)
            have p0 : w8.cell? ⟨g6, 0, none⟩ = some (W32 a0) := y6.at_ rfl
            have p1 : w8.cell? ⟨g6, 1, none⟩ = some (W32 b0) := y6.at_ rfl
            have p2 : w8.cell? ⟨g6, 2, none⟩ = some (W32 c0) := y6.at_ rfl
            go_wp2_with (with_reducible refine hold_store ?_)
            refine hide ?_
            refine store_all 106 _ _ 106 g6 _ [W32 (X + Y), W32 a0, W32 b0, W32 c0] _ size_4 y6 rfl rfl (by show #[_, _, _, _] = _; rw [w_add']) (Eq.refl 4) (by simp [Value.oneCell']) ?_
            intro w9 z6 hg9 hs9
            go_wp2_with fail
            go_roundg (64 - (t + 1))
            case measure => have := HG.out; omega
            case rel =>
              have z7 := y7.grown hg9 (by simp; exact Ne.symm hne)
              have z2 := ((x2.drewN n2).grown hg8 (by simp; omega)).grown hg9 (by simp; omega)
              have z4 := ((x4.drewN n2).grown hg8 (by simp; omega)).grown hg9 (by simp; omega)
              have z5 := ((x5.drewN n2).grown hg8 (by simp; omega)).grown hg9 (by simp; omega)
              have bb := ((belowN b3 n2).grown hg8 (Nat.le_of_lt (x2.drewN n2).lt) (fun k hk => by cases hk; omega)).grown hg9 (Nat.le_of_lt ((x2.drewN n2).grown hg8 (by simp; omega)).lt) (fun k hk => by cases hk; omega)
              refine ⟨t + 1, by omega, rfl, by go_num, ⟨_, HN.out, ?_, ?_⟩, z2, z4, z5, bb⟩
              · rw [← hX.out, ← hY.out] at z6; exact z6
              · rw [← hX.out] at z7; exact z7
      · obtain rfl : t = 64 := by omega
        clear HG hKb hKz hKl
        go_wp2
        obtain ⟨wo, rfl⟩ : ∃ wo : World, wo = wr := ⟨_, rfl⟩
        go_loopg [94] 4 (fun g i w' => ∃ k : Nat, k ≤ 4 ∧ g = 4 - k ∧ i = .int .i64 k ∧ (k = 0 ∧ Box w' B 82 [W32 s0, W32 s1, W32 s2, W32 s3, W32 s4, W32 s5, W32 s6, W32 s7] ∨ k = 1 ∧ Box w' B 82 [W32 (s0 + a0), W32 s1, W32 s2, W32 s3, W32 (s4 + e0), W32 s5, W32 s6, W32 s7] ∨ k = 2 ∧ Box w' B 82 [W32 (s0 + a0), W32 (s1 + b0), W32 s2, W32 s3, W32 (s4 + e0), W32 (s5 + f0), W32 s6, W32 s7] ∨ k = 3 ∧ Box w' B 82 [W32 (s0 + a0), W32 (s1 + b0), W32 (s2 + c0), W32 s3, W32 (s4 + e0), W32 (s5 + f0), W32 (s6 + g0), W32 s7] ∨ k = 4 ∧ Box w' B 82 [W32 (s0 + a0), W32 (s1 + b0), W32 (s2 + c0), W32 (s3 + d0), W32 (s4 + e0), W32 (s5 + f0), W32 (s6 + g0), W32 (s7 + h0)]) ∧ Box w' (B + 1) 82 ((List.replicate 8 (0 : UInt32)).map W32) ∧ Box w' g6 106 [W32 a0, W32 b0, W32 c0, W32 d0] ∧ Box w' g7 106 [W32 e0, W32 f0, W32 g0, W32 h0] ∧ Below B w w')
        case atStart => exact ⟨0, by omega, by omega, rfl, .inl ⟨rfl, x2⟩, x4, x6, x7, b3⟩
        case round =>
          clear x2 x4 x5 x6 x7 b3
          obtain ⟨k, hk, hg, rfl, hx2, x4, x6, x7, b3⟩ := hrel
          have HG := hide hg
          clear hg
          rcases hx2 with ⟨rfl, x2⟩ | ⟨rfl, x2⟩ | ⟨rfl, x2⟩ | ⟨rfl, x2⟩ | ⟨rfl, x2⟩
          · have q0 : wr.cell? ⟨B, 0, none⟩ = some (W32 s0) := x2.at_ rfl
            have q1 : wr.cell? ⟨g6, 0, none⟩ = some (W32 a0) := x6.at_ rfl
            go_wp2
            refine wp_region_still_tail 8 (by kernel_rfl) (by kernel_rfl) ?_
            change wpStill _ _ (World.drew _) _ _ _
            simp only [List.take_succ_cons, List.take_zero, List.drop_succ_cons, List.drop_zero]
            repeat still_step
            refine wpStill_nil ?_
            change wpList _ _ _ _ _ (World.drew _)
            refine store_cell 81 _ _ 82 B 0 _ (W32 (s0 + a0)) size_u32 x2.drew rfl (by rw [← val_w (w_add' _ _)]; rfl) rfl rfl (by simp) ?_
            intro w8 y2 hg8 hs8
            have y2 : Box w8 B 82 [W32 (s0 + a0), W32 s1, W32 s2, W32 s3, W32 s4, W32 s5, W32 s6, W32 s7] := y2
            have y4 := x4.drew.grown hg8 (by simp)
            have y6 := x6.drew.grown hg8 (by simp; omega)
            have y7 := x7.drew.grown hg8 (by simp; omega)
            have c3 := b3.drew.grown hg8 (Nat.le_of_lt x2.lt) (fun k hk => by cases hk; omega)
            have q2 : w8.cell? ⟨B, 4, none⟩ = some (W32 s4) := y2.at_ rfl
            have q3 : w8.cell? ⟨g7, 0, none⟩ = some (W32 e0) := y7.at_ rfl
            have zk : IntKind.i64.wrap 4 = 4 := by decide
            go_wp2
            refine wp_region_still_tail 9 (by kernel_rfl) (by kernel_rfl) ?_
            change wpStill _ _ (World.drew _) _ _ _
            simp only [List.take_succ_cons, List.take_zero, List.drop_succ_cons, List.drop_zero]
            repeat still_step
            refine wpStill_nil ?_
            change wpList _ _ _ _ _ (World.drew _)
            refine store_cell 81 _ _ 82 B 4 _ (W32 (s4 + e0)) size_u32 y2.drew rfl (by rw [← val_w (w_add' _ _)]; rfl) rfl rfl (by simp) ?_
            intro w9 z2 hg9 hs9
            have z2 : Box w9 B 82 [W32 (s0 + a0), W32 s1, W32 s2, W32 s3, W32 (s4 + e0), W32 s5, W32 s6, W32 s7] := z2
            go_wp2
            go_roundg (4 - 1)
            case measure => have := HG.out; omega
            case rel => exact ⟨1, by omega, rfl, by go_num, by first | exact .inr (.inl ⟨rfl, z2⟩) | exact .inr (.inr (.inl ⟨rfl, z2⟩)) | exact .inr (.inr (.inr (.inl ⟨rfl, z2⟩))) | exact .inr (.inr (.inr (.inr ⟨rfl, z2⟩))), y4.drew.grown hg9 (by simp), y6.drew.grown hg9 (by simp; omega), y7.drew.grown hg9 (by simp; omega), c3.drew.grown hg9 (Nat.le_of_lt y2.lt) (fun k hk => by cases hk; omega)⟩
          · have q0 : wr.cell? ⟨B, 1, none⟩ = some (W32 s1) := x2.at_ rfl
            have q1 : wr.cell? ⟨g6, 1, none⟩ = some (W32 b0) := x6.at_ rfl
            go_wp2
            refine wp_region_still_tail 8 (by kernel_rfl) (by kernel_rfl) ?_
            change wpStill _ _ (World.drew _) _ _ _
            simp only [List.take_succ_cons, List.take_zero, List.drop_succ_cons, List.drop_zero]
            repeat still_step
            refine wpStill_nil ?_
            change wpList _ _ _ _ _ (World.drew _)
            refine store_cell 81 _ _ 82 B 1 _ (W32 (s1 + b0)) size_u32 x2.drew rfl (by rw [← val_w (w_add' _ _)]; rfl) rfl rfl (by simp) ?_
            intro w8 y2 hg8 hs8
            have y2 : Box w8 B 82 [W32 (s0 + a0), W32 (s1 + b0), W32 s2, W32 s3, W32 (s4 + e0), W32 s5, W32 s6, W32 s7] := y2
            have y4 := x4.drew.grown hg8 (by simp)
            have y6 := x6.drew.grown hg8 (by simp; omega)
            have y7 := x7.drew.grown hg8 (by simp; omega)
            have c3 := b3.drew.grown hg8 (Nat.le_of_lt x2.lt) (fun k hk => by cases hk; omega)
            have q2 : w8.cell? ⟨B, 5, none⟩ = some (W32 s5) := y2.at_ rfl
            have q3 : w8.cell? ⟨g7, 1, none⟩ = some (W32 f0) := y7.at_ rfl
            have zk : IntKind.i64.wrap 5 = 5 := by decide
            go_wp2
            refine wp_region_still_tail 9 (by kernel_rfl) (by kernel_rfl) ?_
            change wpStill _ _ (World.drew _) _ _ _
            simp only [List.take_succ_cons, List.take_zero, List.drop_succ_cons, List.drop_zero]
            repeat still_step
            refine wpStill_nil ?_
            change wpList _ _ _ _ _ (World.drew _)
            refine store_cell 81 _ _ 82 B 5 _ (W32 (s5 + f0)) size_u32 y2.drew rfl (by rw [← val_w (w_add' _ _)]; rfl) rfl rfl (by simp) ?_
            intro w9 z2 hg9 hs9
            have z2 : Box w9 B 82 [W32 (s0 + a0), W32 (s1 + b0), W32 s2, W32 s3, W32 (s4 + e0), W32 (s5 + f0), W32 s6, W32 s7] := z2
            go_wp2
            go_roundg (4 - 2)
            case measure => have := HG.out; omega
            case rel => exact ⟨2, by omega, rfl, by go_num, by first | exact .inr (.inl ⟨rfl, z2⟩) | exact .inr (.inr (.inl ⟨rfl, z2⟩)) | exact .inr (.inr (.inr (.inl ⟨rfl, z2⟩))) | exact .inr (.inr (.inr (.inr ⟨rfl, z2⟩))), y4.drew.grown hg9 (by simp), y6.drew.grown hg9 (by simp; omega), y7.drew.grown hg9 (by simp; omega), c3.drew.grown hg9 (Nat.le_of_lt y2.lt) (fun k hk => by cases hk; omega)⟩
          · have q0 : wr.cell? ⟨B, 2, none⟩ = some (W32 s2) := x2.at_ rfl
            have q1 : wr.cell? ⟨g6, 2, none⟩ = some (W32 c0) := x6.at_ rfl
            go_wp2
            refine wp_region_still_tail 8 (by kernel_rfl) (by kernel_rfl) ?_
            change wpStill _ _ (World.drew _) _ _ _
            simp only [List.take_succ_cons, List.take_zero, List.drop_succ_cons, List.drop_zero]
            repeat still_step
            refine wpStill_nil ?_
            change wpList _ _ _ _ _ (World.drew _)
            refine store_cell 81 _ _ 82 B 2 _ (W32 (s2 + c0)) size_u32 x2.drew rfl (by rw [← val_w (w_add' _ _)]; rfl) rfl rfl (by simp) ?_
            intro w8 y2 hg8 hs8
            have y2 : Box w8 B 82 [W32 (s0 + a0), W32 (s1 + b0), W32 (s2 + c0), W32 s3, W32 (s4 + e0), W32 (s5 + f0), W32 s6, W32 s7] := y2
            have y4 := x4.drew.grown hg8 (by simp)
            have y6 := x6.drew.grown hg8 (by simp; omega)
            have y7 := x7.drew.grown hg8 (by simp; omega)
            have c3 := b3.drew.grown hg8 (Nat.le_of_lt x2.lt) (fun k hk => by cases hk; omega)
            have q2 : w8.cell? ⟨B, 6, none⟩ = some (W32 s6) := y2.at_ rfl
            have q3 : w8.cell? ⟨g7, 2, none⟩ = some (W32 g0) := y7.at_ rfl
            have zk : IntKind.i64.wrap 6 = 6 := by decide
            go_wp2
            refine wp_region_still_tail 9 (by kernel_rfl) (by kernel_rfl) ?_
            change wpStill _ _ (World.drew _) _ _ _
            simp only [List.take_succ_cons, List.take_zero, List.drop_succ_cons, List.drop_zero]
            repeat still_step
            refine wpStill_nil ?_
            change wpList _ _ _ _ _ (World.drew _)
            refine store_cell 81 _ _ 82 B 6 _ (W32 (s6 + g0)) size_u32 y2.drew rfl (by rw [← val_w (w_add' _ _)]; rfl) rfl rfl (by simp) ?_
            intro w9 z2 hg9 hs9
            have z2 : Box w9 B 82 [W32 (s0 + a0), W32 (s1 + b0), W32 (s2 + c0), W32 s3, W32 (s4 + e0), W32 (s5 + f0), W32 (s6 + g0), W32 s7] := z2
            go_wp2
            go_roundg (4 - 3)
            case measure => have := HG.out; omega
            case rel => exact ⟨3, by omega, rfl, by go_num, by first | exact .inr (.inl ⟨rfl, z2⟩) | exact .inr (.inr (.inl ⟨rfl, z2⟩)) | exact .inr (.inr (.inr (.inl ⟨rfl, z2⟩))) | exact .inr (.inr (.inr (.inr ⟨rfl, z2⟩))), y4.drew.grown hg9 (by simp), y6.drew.grown hg9 (by simp; omega), y7.drew.grown hg9 (by simp; omega), c3.drew.grown hg9 (Nat.le_of_lt y2.lt) (fun k hk => by cases hk; omega)⟩
          · have q0 : wr.cell? ⟨B, 3, none⟩ = some (W32 s3) := x2.at_ rfl
            have q1 : wr.cell? ⟨g6, 3, none⟩ = some (W32 d0) := x6.at_ rfl
            go_wp2
            refine wp_region_still_tail 8 (by kernel_rfl) (by kernel_rfl) ?_
            change wpStill _ _ (World.drew _) _ _ _
            simp only [List.take_succ_cons, List.take_zero, List.drop_succ_cons, List.drop_zero]
            repeat still_step
            refine wpStill_nil ?_
            change wpList _ _ _ _ _ (World.drew _)
            refine store_cell 81 _ _ 82 B 3 _ (W32 (s3 + d0)) size_u32 x2.drew rfl (by rw [← val_w (w_add' _ _)]; rfl) rfl rfl (by simp) ?_
            intro w8 y2 hg8 hs8
            have y2 : Box w8 B 82 [W32 (s0 + a0), W32 (s1 + b0), W32 (s2 + c0), W32 (s3 + d0), W32 (s4 + e0), W32 (s5 + f0), W32 (s6 + g0), W32 s7] := y2
            have y4 := x4.drew.grown hg8 (by simp)
            have y6 := x6.drew.grown hg8 (by simp; omega)
            have y7 := x7.drew.grown hg8 (by simp; omega)
            have c3 := b3.drew.grown hg8 (Nat.le_of_lt x2.lt) (fun k hk => by cases hk; omega)
            have q2 : w8.cell? ⟨B, 7, none⟩ = some (W32 s7) := y2.at_ rfl
            have q3 : w8.cell? ⟨g7, 3, none⟩ = some (W32 h0) := y7.at_ rfl
            have zk : IntKind.i64.wrap 7 = 7 := by decide
            go_wp2
            refine wp_region_still_tail 9 (by kernel_rfl) (by kernel_rfl) ?_
            change wpStill _ _ (World.drew _) _ _ _
            simp only [List.take_succ_cons, List.take_zero, List.drop_succ_cons, List.drop_zero]
            repeat still_step
            refine wpStill_nil ?_
            change wpList _ _ _ _ _ (World.drew _)
            refine store_cell 81 _ _ 82 B 7 _ (W32 (s7 + h0)) size_u32 y2.drew rfl (by rw [← val_w (w_add' _ _)]; rfl) rfl rfl (by simp) ?_
            intro w9 z2 hg9 hs9
            have z2 : Box w9 B 82 [W32 (s0 + a0), W32 (s1 + b0), W32 (s2 + c0), W32 (s3 + d0), W32 (s4 + e0), W32 (s5 + f0), W32 (s6 + g0), W32 (s7 + h0)] := z2
            go_wp2
            go_roundg (4 - 4)
            case measure => have := HG.out; omega
            case rel => exact ⟨4, by omega, rfl, by go_num, by first | exact .inr (.inl ⟨rfl, z2⟩) | exact .inr (.inr (.inl ⟨rfl, z2⟩)) | exact .inr (.inr (.inr (.inl ⟨rfl, z2⟩))) | exact .inr (.inr (.inr (.inr ⟨rfl, z2⟩))), y4.drew.grown hg9 (by simp), y6.drew.grown hg9 (by simp; omega), y7.drew.grown hg9 (by simp; omega), c3.drew.grown hg9 (Nat.le_of_lt y2.lt) (fun k hk => by cases hk; omega)⟩
          · have hz8 : (Tryd.prog.info? 82).map (·.size) = some ([W32 (s0 + a0), W32 (s1 + b0), W32 (s2 + c0), W32 (s3 + d0), W32 (s4 + e0), W32 (s5 + f0), W32 (s6 + g0), W32 (s7 + h0)]).length := size_8
            go_wp2_with (first
              | (with_reducible refine load_box 115 82 _ 82 _ 0 _ [W32 (s0 + a0), W32 (s1 + b0), W32 (s2 + c0), W32 (s3 + d0), W32 (s4 + e0), W32 (s5 + f0), W32 (s6 + g0), W32 (s7 + h0)] isAgg_8 hz8 x2 rfl (fun j u hj => by rw [Nat.zero_add]; exact hj) ?_)
              | (with_reducible refine store_all 82 _ _ 82 _ _ [W32 (s0 + a0), W32 (s1 + b0), W32 (s2 + c0), W32 (s3 + d0), W32 (s4 + e0), W32 (s5 + f0), W32 (s6 + g0), W32 (s7 + h0)] _ hz8 x4 rfl rfl rfl (Eq.refl 8) (by simp [Value.oneCell']) ?_; intro w5 x5 hg5 hs5))
            refine bodyPost_ret (run_results_cell rfl rfl isAgg_8 hz8 x5) rfl ⟨?_, by rw [← HB.out]; exact b3.grown hg5 (Nat.le_of_lt x2.lt) (fun k hk => by cases hk; omega)⟩
            unfold comp
            rw [hws.out, hKS.out, HR.out]
            rfl
end Go.Proofs.YtblgmjnkllkhbaaDoor
end

/- the text Hash6 -/
section
namespace Go.Proofs.YtblgmjnkllkhbaaDoor
open Go.RowKit Go.Dx

/-- the zeros behind a message of n bytes and the mark -/
def padN (n : Nat) : Nat := (119 - n % 64) % 64
def lenByte (n i : Nat) : UInt8 := UInt8.ofNat (8 * n / 2 ^ (56 - 8 * i))
/-- the length in bits, its first k bytes of eight -/
def lenB (n k : Nat) : List UInt8 := (List.range k).map (lenByte n)
theorem lenB_succ (n k : Nat) : lenB n (k + 1) = lenB n k ++ [lenByte n k] := by simp [lenB, List.range_succ]
theorem lenB_length (n k : Nat) : (lenB n k).length = k := by simp [lenB]
/-- the padding behind a message of n bytes -/
def padTail (n : Nat) : List UInt8 := [128] ++ List.replicate (padN n) 0 ++ lenB n 8
def pad (m : List UInt8) : List UInt8 := m ++ padTail m.length
theorem lenByte_int (n i j : Nat) (hj : j = 56 - 8 * i) : (8 * (n : Int)) / 2 ^ j % 256 = ((lenByte n i).toNat : Int) := by
  subst hj
  unfold lenByte
  rw [UInt8.toNat_ofNat']
  simp
set_option maxRecDepth 100000 in
set_option maxHeartbeats 1000000 in
theorem padded_any (l : List UInt8) (hl : l.length ≤ 1000000000) (a : Option Addr) (n c : Nat) (w : World) (hs : Sl w 1 a n c (l.map B8)) :
    Calls Tryd.prog 69 #[.slice a n c] w (Gives 5 1 (pad l).length ((pad l).map B8) w) := by
  obtain rfl := hs.n_eq
  obtain ⟨N, hN⟩ : ∃ N, N = l.length := ⟨_, rfl⟩
  rw [← hN] at hs hl ⊢
  have HN := hide hN
  clear hN
  have oA := Own.built w w.heap.size 5 1 0 #[] (Nat.le_refl _) rfl (Nat.zero_le _)
  have b1 : Below w.heap.size w (w.alloc (.cells #[] 5)) := (Below.refl _ _).alloc (Nat.le_refl _) _
  go_enter Tryd.func69, Tryd.ntmps69
  go_wp2_with (first
    | (at_builtin; refine app_bs (o := ⟨some 8, _, _, _, _, _⟩) rfl _ _ rfl w w.heap.size _ _ _ _ rfl oA _ _ _ _ rfl (hs.alloc _) (by omega) (by simp) b1 ?_; intro a3 c3 w3 oB hg3 hb3; rw [Nat.zero_add] at oB)
    | (at_builtin; refine app_b (o := ⟨some 11, _, _, _, _, _⟩) rfl _ _ rfl w w.heap.size _ _ _ _ rfl oB _ rfl (by omega) hb3.size hb3 ?_; intro a4 c4 w4 oC hg4 hb4))
  have oC : Own w4 w.heap.size 5 1 a4 (N + 1) c4 ((l ++ [128] ++ List.replicate 0 0).map B8) := by
    have oC : Own w4 w.heap.size 5 1 a4 (N + 1) c4 ([] ++ l.map B8 ++ [B8 128]) := oC
    simpa using oC
  clear hg3 hg4 hb3 oB oA b1
  go_loopg [3] (padN N) (fun g x w' => ∃ (M : Nat) (a : Option Addr) (c : Nat), N + 1 ≤ M ∧ M ≤ N + 1 + padN N ∧ g = padN N - (M - N - 1) ∧ x = .slice a M c ∧ Own w' w.heap.size 5 1 a M c ((l ++ [128] ++ List.replicate (M - N - 1) 0).map B8) ∧ Below w.heap.size w w')
  case atStart => exact ⟨N + 1, a4, c4, by omega, by omega, by omega, rfl, by rw [show N + 1 - N - 1 = 0 by omega]; exact oC, hb4⟩
  case round =>
    obtain ⟨M, a5, c5, hM0, hM1, hg, rfl, oC, hb⟩ := hrel
    have HG := hide hg
    clear hg
    have hp : padN N ≤ 63 := by unfold padN; omega
    by_cases hlt : M < N + 1 + padN N
    · have ht : ((M : Int) % 64 != 56) = true := by
        unfold padN at hlt
        simp
        omega
      go_wp2_with (at_builtin; refine app_b (o := ⟨some 18, _, _, _, _, _⟩) rfl _ _ rfl w w.heap.size _ _ _ _ rfl oC _ rfl (by omega) hb.size hb ?_; intro a6 c6 w6 oD hg6 hb6)
      go_roundg (padN N - (M + 1 - N - 1))
      case measure => have := HG.out; omega
      case rel =>
        refine ⟨M + 1, a6, c6, by omega, by omega, by omega, rfl, ?_, hb6⟩
        rw [show M + 1 - N - 1 = (M - N - 1) + 1 by omega, List.replicate_succ']
        have oD : Own w6 w.heap.size 5 1 a6 (M + 1) c6 ((l ++ [128] ++ List.replicate (M - N - 1) 0).map B8 ++ [B8 0]) := oD
        simpa using oD
    · have hM : M = N + 1 + padN N := by omega
      have ht : ((M : Int) % 64 != 56) = false := by
        unfold padN at hM
        simp
        omega
      have e1 : M - N - 1 = padN N := by omega
      rw [e1] at oC
      have HM := hide hM
      clear hM e1 HG hlt
      go_wp2
      obtain ⟨wo, rfl⟩ : ∃ wo : World, wo = wr := ⟨_, rfl⟩
      go_loopg [3, 5] 8 (fun g x i w' => ∃ (k : Nat) (a : Option Addr) (c : Nat), k ≤ 8 ∧ g = 8 - k ∧ i = .int .i64 k ∧ x = .slice a (M + k) c ∧ Own w' w.heap.size 5 1 a (M + k) c ((l ++ [128] ++ List.replicate (padN N) 0 ++ lenB N k).map B8) ∧ Below w.heap.size w w')
      case atStart => exact ⟨0, a5, c5, by omega, by omega, rfl, rfl, by simpa [lenB] using oC, hb⟩
      case round =>
        clear oC hb
        obtain ⟨k, a6, c6, hk, hg, rfl, rfl, oC, hb⟩ := hrel
        have HG := hide hg
        clear hg
        by_cases hlt : k < 8
        · go_wp2_with (at_builtin; refine app_b (o := ⟨some 35, _, _, _, _, _⟩) rfl _ _ rfl w w.heap.size _ _ _ _ rfl oC _ rfl (by omega) hb.size hb ?_; intro a7 c7 w7 oD hg7 hb7)
          go_roundg (8 - (k + 1))
          case measure => have := HG.out; omega
          case rel =>
            refine ⟨k + 1, a7, c7, by omega, rfl, by go_num, rfl, ?_, hb7⟩
            rw [lenByte_int N k _ rfl] at oD
            rw [lenB_succ, ← List.append_assoc, List.map_append]
            exact oD
        · obtain rfl : k = 8 := by omega
          have e : pad l = l ++ [128] ++ List.replicate (padN N) 0 ++ lenB N 8 := by unfold pad padTail; rw [← HN.out]; simp
          have el : (pad l).length = M + 8 := by
            rw [e]
            simp only [List.length_append, List.length_replicate, lenB_length, List.length_singleton]
            have := HM.out
            have := HN.out
            omega
          have el := hide el
          have e := hide e
          go_wp2
          go_ret
          unfold Gives
          rw [el.out, e.out]
          exact ⟨a6, c6, rfl, oC, hb⟩
end Go.Proofs.YtblgmjnkllkhbaaDoor
end

/- the text Hash7 -/
section
namespace Go.Proofs.YtblgmjnkllkhbaaDoor
open Go.RowKit Go.Dx

/-- a word's byte -/
def wbyte (ws : List UInt32) (i : Nat) : UInt8 := UInt8.ofNat ((ws.getD (i / 4) 0).toNat / 2 ^ (24 - 8 * (i % 4)))
def bytesOf (ws : List UInt32) (k : Nat) : List UInt8 := (List.range k).map (wbyte ws)
theorem bytesOf_succ (ws : List UInt32) (k : Nat) : bytesOf ws (k + 1) = bytesOf ws k ++ [wbyte ws k] := by simp [bytesOf, List.range_succ]
theorem bytesOf_length (ws : List UInt32) (k : Nat) : (bytesOf ws k).length = k := by simp [bytesOf]
def sha (m : List UInt8) : List UInt8 := bytesOf (blocks (pad m) ((pad m).length / 64)).list 32
def zero32 : List UInt8 := List.replicate 32 0
/-- a stream: the hash value, the last block with what stands behind its bytes, the length -/
def strm (s : St) (blk : List UInt8) (n : Nat) : List Value := s.list.map W32 ++ blk.map B8 ++ [Value.int .u64 (n : Int)]
theorem strm_length (s : St) {blk : List UInt8} (h : blk.length = 64) (n : Nat) : (strm s blk n).length = 73 := by simp [strm, St.list, h]
theorem size_strm : (Tryd.prog.info? 85).map (·.size) = some 73 := by kernel_rfl
theorem isAgg_strm : IsAgg Tryd.prog 85 := .inr ⟨_, Tryd.underlying85⟩
def Z0 : St := ⟨0, 0, 0, 0, 0, 0, 0, 0⟩
theorem zero_strm (W : World) : (zeroValue 85).run Tryd.prog W = .ok (.agg (strm Z0 (List.replicate 64 0) 0).toArray) W := by kernel_rfl
theorem build_h0 (W : World) : (Instr.build 82 #[(0, .int .u32 1779033703), (1, .int .u32 3144134277), (2, .int .u32 1013904242), (3, .int .u32 2773480762), (4, .int .u32 1359893119), (5, .int .u32 2600822924), (6, .int .u32 528734635), (7, .int .u32 1541459225)]).run Tryd.prog W = .ok (.agg (H0.list.map W32).toArray) W := by kernel_rfl
theorem build_strm (W : World) : (Instr.build 85 #[(0, .agg (H0.list.map W32).toArray)]).run Tryd.prog W = .ok (.agg (strm H0 (List.replicate 64 0) 0).toArray) W := by kernel_rfl
set_option maxRecDepth 100000 in
set_option maxHeartbeats 1000000 in
theorem begin_any (w : World) : Calls Tryd.prog 52 #[] w fun e w' => e = .returned (.agg (strm H0 (List.replicate 64 0) 0).toArray) ∧ Below w.heap.size w w' := by
  have h1 := build_h0
  have h2 := build_strm
  have h3 := zero_strm
  have k1 : (strm H0 (List.replicate 64 0) 0).length = 73 := strm_length _ (by simp) _
  have k2 : (strm Z0 (List.replicate 64 0) 0).length = 73 := strm_length _ (by simp) _
  have k3 : ∀ u ∈ strm H0 (List.replicate 64 0) 0, u.oneCell' = true := by
    intro u hu
    simp only [strm, List.mem_append, List.mem_map, List.mem_singleton] at hu
    rcases hu with (⟨x, _, rfl⟩ | ⟨x, _, rfl⟩) | rfl <;> rfl
  generalize strm H0 (List.replicate 64 0) 0 = S at *
  generalize strm Z0 (List.replicate 64 0) 0 = Z at *
  generalize H0.list.map W32 = L at *
  have hz : (Tryd.prog.info? 85).map (·.size) = some S.length := by rw [k1]; exact size_strm
  have hl : S.length = Z.length := by rw [k1, k2]
  have hz := hide hz
  have hl := hide hl
  have k3 := hide k3
  clear k1 k2
  go_enter Tryd.func52, Tryd.ntmps52
  go_wp2_with (with_reducible refine hold_build ?_)
  refine hide ?_
  refine val_at rfl (.agg L.toArray) (by simp [execOp, Act.eval, h1]) ?_
  go_wp2_with (with_reducible refine hold_build ?_)
  refine hide ?_
  refine val_at rfl (.agg S.toArray) (by simp [execOp, Act.eval, h2]) ?_
  go_wp2_with (with_reducible refine hold_store ?_)
  refine hide ?_
  refine store_all 85 _ _ 85 _ Z S (.agg S.toArray) hz.out (Box.new w _ _) (by rfl) (by rfl) rfl hl.out k3.out ?_
  intro w2 x2 hg hs
  go_wp2_with fail
  exact bodyPost_ret (run_results_cell rfl rfl isAgg_strm hz.out x2) rfl ⟨rfl, ((Below.refl _ _).alloc (Nat.le_refl _) _).grown hg (by simp) (fun k hk => by cases hk; exact Nat.le_refl _)⟩
end Go.Proofs.YtblgmjnkllkhbaaDoor
end

/- the text N3 -/
section
/- SHA-256 on natural numbers, for the kernel: the blocks, the hash. -/
namespace Go.Proofs.YtblgmjnkllkhbaaDoor
open Go.RowKit Go.Dx Go.Dx.NS
noncomputable def runN (M n s : Nat) : Nat := @Nat.rec (fun _ => Nat → Nat) (fun s => s) (fun n ih s => fc (compN s (Nat.mod (Nat.shiftRight M (Nat.mul 512 n)) (Nat.pow 256 64))) fun s' => ih s') n s
theorem runN_succ (M n s : Nat) : runN M (n + 1) s = runN M n (compN s ((M >>> (512 * n)) % 256 ^ 64)) := by
  show fc _ _ = _
  rw [fc_eq]
  rfl
theorem val_block (m : List UInt8) (k n : Nat) (h : m.length = 64 * (k + (n + 1))) : ((val m) >>> (512 * n)) % 256 ^ 64 = val ((m.drop (64 * k)).take 64) := by
  have e : m = m.take (64 * k) ++ ((m.drop (64 * k)).take 64 ++ (m.drop (64 * k)).drop 64) := by rw [List.take_append_drop, List.take_append_drop]
  have l1 : ((m.drop (64 * k)).take 64).length = 64 := by rw [List.length_take, List.length_drop]; omega
  have l2 : ((m.drop (64 * k)).drop 64).length = 64 * n := by rw [List.length_drop, List.length_drop]; omega
  have v1 := val_lt ((m.drop (64 * k)).take 64)
  have v2 := val_lt ((m.drop (64 * k)).drop 64)
  have ev := congrArg val e
  rw [val_append, val_append, List.length_append, l1, l2] at ev
  rw [l1] at v1
  rw [l2] at v2
  rw [ev, Nat.shiftRight_eq_div_pow]
  generalize val ((m.drop (64 * k)).take 64) = Y at *
  generalize val ((m.drop (64 * k)).drop 64) = Z at *
  generalize val (m.take (64 * k)) = X at *
  have ep : 2 ^ (512 * n) = 256 ^ (64 * n) := by rw [show (256 : Nat) = 2 ^ 8 from rfl, ← Nat.pow_mul]; congr 1; omega
  rw [ep, Nat.pow_add, ← Nat.mul_assoc, ← Nat.add_assoc, ← Nat.add_mul, Nat.add_comm, Nat.add_mul_div_right _ _ (Nat.pow_pos (by decide)), Nat.div_eq_of_lt v2, Nat.zero_add, Nat.add_comm, Nat.add_mul_mod_self_right, Nat.mod_eq_of_lt v1]
theorem runN_eq (m : List UInt8) : ∀ n k, m.length = 64 * (k + n) → runN (val m) n (pack (blocks m k)) = pack (blocks m (k + n))
  | 0, _, _ => rfl
  | n + 1, k, h => by
    have hl : ((m.drop (64 * k)).take 64).length = 64 := by rw [List.length_take, List.length_drop]; omega
    rw [runN_succ, val_block m k n h, compN_eq _ hl]
    have ih := runN_eq m n (k + 1) (by omega)
    rw [blocks] at ih
    rw [ih, show k + 1 + n = k + (n + 1) by omega]
def w4 (x : UInt32) : List UInt8 := [UInt8.ofNat (x.toNat / 2 ^ 24), UInt8.ofNat (x.toNat / 2 ^ 16), UInt8.ofNat (x.toNat / 2 ^ 8), UInt8.ofNat (x.toNat / 2 ^ 0)]
theorem val_w4 (x : UInt32) : val (w4 x) = x.toNat := by
  have := UInt32.toNat_lt x
  unfold w4 val
  simp only [List.foldl_cons, List.foldl_nil, UInt8.toNat_ofNat']
  omega
theorem w4_len (x : UInt32) : (w4 x).length = 4 := rfl
theorem val_state (s : St) : val (bytesOf s.list 32) = pack s := by
  have e : bytesOf s.list 32 = w4 s.a ++ w4 s.b ++ w4 s.c ++ w4 s.d ++ w4 s.e ++ w4 s.f ++ w4 s.g ++ w4 s.h := rfl
  rw [e]
  simp only [val_append, val_w4, w4_len]
  rfl
theorem val_zeros : ∀ k, val (List.replicate k 0) = 0
  | 0 => rfl
  | k + 1 => by rw [List.replicate_succ, val_first, val_zeros k]; simp
theorem val_lenB (n : Nat) (h : 8 * n < 18446744073709551616) : val (lenB n 8) = 8 * n := by
  have e : lenB n 8 = [lenByte n 0, lenByte n 1, lenByte n 2, lenByte n 3, lenByte n 4, lenByte n 5, lenByte n 6, lenByte n 7] := rfl
  rw [e]
  unfold val lenByte
  simp only [List.foldl_cons, List.foldl_nil, UInt8.toNat_ofNat']
  omega
theorem val_one (d : UInt8) : val [d] = d.toNat := by simp [val]
/-- the hash of the message with a value and a length -/
noncomputable def shaN (V n : Nat) : Nat :=
  fc (padN n) fun p => fc (Nat.add (Nat.mul (Nat.mul (Nat.add (Nat.mul V 256) 128) (Nat.pow 256 p)) 18446744073709551616) (Nat.mul 8 n)) fun M =>
  runN M (Nat.div (Nat.add (Nat.add n p) 9) 64) 47962653771679561900652889051773562940742041696833059450490514104358170316057
theorem pack_H0 : pack H0 = 47962653771679561900652889051773562940742041696833059450490514104358170316057 := by decide +kernel
theorem sha_nat (m : List UInt8) (h : m.length ≤ 1000000000) : val (sha m) = shaN (val m) m.length := by
  have hl : (pad m).length = m.length + padN m.length + 9 := by
    unfold pad padTail
    simp only [List.length_append, List.length_replicate, lenB_length, List.length_singleton]
    omega
  have hd : m.length + padN m.length + 9 = 64 * (0 + (m.length + padN m.length + 9) / 64) := by unfold padN; omega
  have hv : val (pad m) = (val m * 256 + 128) * 256 ^ padN m.length * 18446744073709551616 + 8 * m.length := by
    unfold pad padTail
    rw [val_append, val_append, val_append, val_lenB _ (by omega), val_zeros, val_one]
    simp only [List.length_append, List.length_replicate, lenB_length, List.length_singleton]
    have : (256 : Nat) ^ 8 = 18446744073709551616 := by decide
    rw [Nat.pow_add, Nat.pow_add, this]
    show val m * (256 ^ 1 * 256 ^ padN m.length * 18446744073709551616) + ((128 * 256 ^ padN m.length + 0) * 18446744073709551616 + 8 * m.length) = _
    generalize 256 ^ padN m.length = Q
    generalize val m = X
    rw [Nat.add_zero, ← Nat.add_assoc, Nat.pow_one, ← Nat.mul_assoc, ← Nat.mul_assoc, ← Nat.add_mul, ← Nat.add_mul]
  unfold sha shaN
  rw [fc_eq, fc_eq, val_state, hl, ← pack_H0]
  have hr := runN_eq (pad m) ((m.length + padN m.length + 9) / 64) 0 (by rw [hl]; exact hd)
  rw [hv, Nat.zero_add] at hr
  exact hr.symm
theorem val_take (l : List UInt8) (n : Nat) (h : n ≤ l.length) : val (l.take n) = val l / 256 ^ (l.length - n) := by
  have e := congrArg val (List.take_append_drop n l).symm
  rw [val_append, List.length_drop] at e
  have hd := val_lt (l.drop n)
  rw [List.length_drop] at hd
  rw [e, Nat.add_comm, Nat.add_mul_div_right _ _ (Nat.pow_pos (by decide)), Nat.div_eq_of_lt hd, Nat.zero_add]
theorem val_inj : ∀ {a b : List UInt8}, a.length = b.length → val a = val b → a = b
  | [], [], _, _ => rfl
  | x :: a, y :: b, h, e => by
    have h' : a.length = b.length := by simpa using h
    rw [val_first, val_first, h'] at e
    have la := val_lt a
    have lb := val_lt b
    rw [h'] at la
    generalize 256 ^ b.length = Q at *
    have hx : x.toNat = y.toNat := by
      have h1 := congrArg (· / Q) e
      have hQ : 0 < Q := by omega
      simpa [Nat.mul_comm x.toNat, Nat.mul_comm y.toNat, Nat.mul_add_div hQ, Nat.div_eq_of_lt la, Nat.div_eq_of_lt lb] using h1
    have hv : val a = val b := by rw [hx] at e; omega
    rw [UInt8.toNat_inj.1 hx, val_inj h' hv]
/-- the hash's first 16 bytes -/
noncomputable def ofN (V n : Nat) : Nat := Nat.shiftRight (shaN V n) 128
theorem sha16 (m : List UInt8) (h : m.length ≤ 1000000000) (hs : (sha m).length = 32) : val ((sha m).take 16) = ofN (val m) m.length := by
  rw [val_take _ _ (by omega), sha_nat m h, hs]
  unfold ofN
  show _ = shaN (val m) m.length >>> 128
  rw [Nat.shiftRight_eq_div_pow]
end Go.Proofs.YtblgmjnkllkhbaaDoor
end

/- the text Hash8 -/
section
namespace Go.Proofs.YtblgmjnkllkhbaaDoor
open Go.RowKit Go.Dx

theorem mix_raw (x : UInt32) (i j k : Nat) : bits .xor .u32 (bits .xor .u32 ((ror x i).toNat : Int) ((ror x j).toNat : Int)) ((ror x k).toNat : Int) = ((mix3 x i j k).toNat : Int) := by rw [w_xor, w_xor]; rfl
theorem size_32 : (Tryd.prog.info? 89).map (·.size) = some 32 := by kernel_rfl
theorem isAgg_32 : IsAgg Tryd.prog 89 := .inl ⟨_, _, Tryd.underlying89⟩
theorem byte_put (ws : List UInt32) (x : UInt32) (t : Nat) (h : ws[t / 4]? = some x) : Value.int .u8 ((x.toNat : Int) / 2 ^ (24 - 8 * (t % 4)) % 256) = B8 (wbyte ws t) := by
  unfold wbyte
  rw [List.getD_eq_getElem?_getD, h]
  show Value.int .u8 _ = Value.int .u8 _
  congr 1
theorem bytes_next (ws : List UInt32) (t : Nat) (h : t < 32) : ((bytesOf ws t ++ List.replicate (32 - t) 0).map B8).set t (B8 (wbyte ws t)) = (bytesOf ws (t + 1) ++ List.replicate (32 - (t + 1)) 0).map B8 := by
  obtain ⟨d, hd⟩ : ∃ d, 32 - t = d + 1 := ⟨31 - t, by omega⟩
  have e : 32 - (t + 1) = d := by omega
  rw [bytesOf_succ, hd, e, ← List.map_set, List.set_append_right _ _ (by rw [bytesOf_length]; exact Nat.le_refl _), bytesOf_length, Nat.sub_self, List.replicate_succ, List.set_cons_zero, List.append_assoc]
  rfl
theorem pad_len (m : List UInt8) : (pad m).length % 64 = 0 := by
  unfold pad padTail
  simp only [List.length_append, List.length_replicate, lenB_length, List.length_singleton]
  unfold padN
  omega
theorem pad_ge (m : List UInt8) : m.length + 9 ≤ (pad m).length ∧ (pad m).length ≤ m.length + 72 := by
  unfold pad padTail
  simp only [List.length_append, List.length_replicate, lenB_length, List.length_singleton]
  unfold padN
  omega
set_option maxRecDepth 100000 in
set_option maxHeartbeats 2000000 in
theorem ref_Sum (l : List UInt8) (hl : l.length ≤ 100000000) (a : Option Addr) (n c : Nat) (w : World) (hL : LaidR w) (hs : Sl w 1 a n c (l.map B8)) :
    Calls Tryd.prog 66 #[.slice a n c] w fun e w' => e = .returned (.agg ((sha l).map B8).toArray) ∧ Below w.heap.size w w' := by
  obtain ⟨M, hM⟩ : ∃ M, Hid (pad l = M) := ⟨_, rfl⟩
  have m0 := pad_len l
  have m1 := pad_ge l
  have hP := hide fun (a : Option Addr) (n c : Nat) (w : World) (hs : Sl w 1 a n c (l.map B8)) => padded_any l (by omega) a n c w hs
  rw [hM.out] at m0 m1 hP
  obtain ⟨N, hN⟩ : ∃ N, M.length = 64 * N := ⟨M.length / 64, by omega⟩
  have hN1 : N ≤ 2000000 := by omega
  have hNb := hide hN
  rw [hN] at hP
  have h8 := build_h0
  generalize hH0 : H0.list.map W32 = L0 at *
  have hH0 := hide hH0
  clear m0 m1 hN
  go_enter Tryd.func66, Tryd.ntmps66
  go_wp2_with (with_reducible refine hold_build ?_)
  refine hide ?_
  refine val_at rfl (.agg L0.toArray) (by simp [execOp, Act.eval, h8]) ?_
  go_wp2_with (with_reducible refine hold_store ?_)
  refine hide ?_
  have L8 : L0.length = 8 := by rw [← hH0.out]; rfl
  have hz8 : (Tryd.prog.info? 82).map (·.size) = some L0.length := by rw [L8]; exact size_8
  have hO8 : ∀ u ∈ L0, u.oneCell' = true := by rw [← hH0.out]; exact one_map _ (fun _ => rfl) _
  refine store_all 82 _ _ 82 _ _ L0 (.agg L0.toArray) hz8 (box_next w _ _ _) (by rfl) (by rfl) rfl (by rw [L8]; exact Eq.refl 8) hO8 ?_
  intro w2 x3 hg2 hs2
  have x2 : Box w2 w.heap.size 89 (zero32.map B8) := ((Box.new w 89 ((zero32.map B8).toArray)).alloc _).grown hg2 (by simp)
  have b2 : Below w.heap.size w w2 := (((Below.refl _ _).alloc (Nat.le_refl _) _).alloc (by simp) _).grown hg2 (by simp; omega) (fun k hk => by cases hk; omega)
  have hL2 := hL.below b2
  have hs2' := hs.below b2
  obtain ⟨B, hB⟩ : ∃ B, B = w.heap.size := ⟨_, rfl⟩
  rw [← hB] at b2 x2 x3 ⊢
  have HB := hide hB
  have hz8 := hide hz8
  have L8 := hide L8
  have hL0 := hide hL
  clear hg2 hs2 hB h8 hO8 hL hs
  have hlt2 := x2.lt
  go_wp2_with fail
  refine (hP.out _ _ _ _ hs2').mono ?_
  rintro e w3 ⟨a4, c4, rfl, o4, h3⟩
  have o4 := o4.mono (B' := B + 2) x3.lt
  have x2 := x2.under h3
  have x3 := x3.under h3
  have hL3 := hL2.below h3
  have b3 := b2.trans (h3.mono (Nat.le_of_lt hlt2))
  clear h3 b2 hs2' hP hL2
  clear hlt2
  go_wp2_with fail
  obtain ⟨KS, hKS⟩ : ∃ KS, Hid (K256 = KS) := ⟨_, rfl⟩
  have hKl := hide (show KS.length = 64 by rw [← hKS.out]; rfl)
  go_loopg [5] N (fun g i w' => ∃ k : Nat, k ≤ N ∧ g = N - k ∧ i = .int .i64 ((64 * k : Nat) : Int) ∧ Box w' (B + 1) 82 ((blocks M k).list.map W32) ∧ Box w' B 89 (zero32.map B8) ∧ Own w' (B + 2) 5 1 a4 (64 * N) c4 (M.map B8) ∧ LaidR w' ∧ Below B w w')
  case atStart => exact ⟨0, by omega, by omega, rfl, by rw [show blocks M 0 = H0 from rfl, hH0.out]; exact x3, x2, o4, hL3, b3⟩
  case round =>
    clear x2 x3 o4 hL3 b3
    obtain ⟨k, hk, hg, rfl, x3, x2, o4, hL3, b3⟩ := hrel
    have HG := hide hg
    clear hg
    by_cases hlt : k < N
    · obtain ⟨p, hp⟩ : ∃ p, p = 64 * k := ⟨_, rfl⟩
      rw [← hp]
      have hp1 : p + 64 ≤ 64 * N := by omega
      have HP := hide hp
      clear hp
      go_wp2_with (with_reducible refine cut_b 33 _ _ _ _ _ _ _ rfl o4.sl _ _ _ _ p (p + 64) rfl rfl (by omega) (by omega) (by omega) (by omega) ?_; intro a5 s5 _)
      obtain ⟨bl, hbl⟩ : ∃ bl, Hid ((M.drop p).take (p + 64 - p) = bl) := ⟨_, rfl⟩
      have e64 : p + 64 - p = 64 := by omega
      rw [hbl.out] at s5
      rw [e64] at s5
      obtain ⟨ws, hws⟩ : ∃ ws, Hid (wl bl 64 = ws) := ⟨_, rfl⟩
      have hwl : ws.length = 64 := by rw [← hws.out]; exact wl_length bl 64
      have hC := words_any bl a5 (c4 - p) wr s5
      rw [hws.out] at hC
      have hzw : (Tryd.prog.info? 103).map (·.size) = some (ws.map W32).length := by rw [List.length_map, hwl]; exact size_64
      have hlw : (ws.map W32).length = ((List.replicate 64 (0 : UInt32)).map W32).length := by rw [List.length_map, List.length_map, List.length_replicate, hwl]
      have hzw := hide hzw
      have hlw := hide hlw
      have hwl := hide hwl
      clear s5 e64
      have hBw := Nat.le_of_lt x2.lt
      refine hC.mono ?_
      rintro e w6 ⟨rfl, h6⟩
      have x2 := x2.under h6
      have x3 := x3.under h6
      have o4 := o4.below h6
      have hL3 := hL3.below h6
      have b3 := b3.trans (h6.mono hBw)
      clear h6 hC
      go_wp2_with (with_reducible refine hold_store ?_)
      refine hide ?_
      refine store_all 103 _ _ 103 _ _ (ws.map W32) (.agg (ws.map W32).toArray) hzw.out (box_zero _ _ _ _ rfl (List.replicate 64 (0 : UInt32)) rfl) (by rfl) (by rfl) rfl hlw.out (one_map _ (fun _ => rfl) _) ?_
      intro w7 x6 hg7 hs7
      have hg6 : B + 1 < w6.heap.size := x3.lt
      have x2 := (x2.alloc (.cells ((List.replicate 64 (0 : UInt32)).map W32).toArray 103)).grown hg7 (by simp; omega)
      have x3 := (x3.alloc (.cells ((List.replicate 64 (0 : UInt32)).map W32).toArray 103)).grown hg7 (by simp; omega)
      have b67 : Below w6.heap.size w6 w7 := ((Below.refl _ _).alloc (Nat.le_refl _) _).grown hg7 (by simp) (fun k hk => by cases hk; exact Nat.le_refl _)
      have o4 := o4.below b67
      have hL3 := hL3.below b67
      have b3 := b3.trans (b67.mono (by omega))
      obtain ⟨g6, hg6'⟩ : ∃ g, g = w6.heap.size := ⟨_, rfl⟩
      rw [← hg6'] at x6 ⊢
      clear hg7 hs7 b67 hg6 hg6'
      obtain ⟨s, hs⟩ : ∃ s, Hid (blocks M k = s) := ⟨_, rfl⟩
      rw [hs.out] at x3
      obtain ⟨s0, s1, s2, s3, s4, s5, s6, s7⟩ := s
      have x3 : Box w7 (B + 1) 82 [W32 s0, W32 s1, W32 s2, W32 s3, W32 s4, W32 s5, W32 s6, W32 s7] := x3
      have q0 : w7.cell? ⟨B + 1, 0, none⟩ = some (W32 s0) := x3.at_ rfl
      have q1 : w7.cell? ⟨B + 1, 1, none⟩ = some (W32 s1) := x3.at_ rfl
      have q2 : w7.cell? ⟨B + 1, 2, none⟩ = some (W32 s2) := x3.at_ rfl
      have q3 : w7.cell? ⟨B + 1, 3, none⟩ = some (W32 s3) := x3.at_ rfl
      have q4 : w7.cell? ⟨B + 1, 4, none⟩ = some (W32 s4) := x3.at_ rfl
      have q5 : w7.cell? ⟨B + 1, 5, none⟩ = some (W32 s5) := x3.at_ rfl
      have q6 : w7.cell? ⟨B + 1, 6, none⟩ = some (W32 s6) := x3.at_ rfl
      have q7 : w7.cell? ⟨B + 1, 7, none⟩ = some (W32 s7) := x3.at_ rfl
      go_wp2_with fail
      go_quiet (fail)
      go_wp2_with fail
      have y3 := x3
      have y2 := x2
      have y4 := o4
      have yL := hL3
      have yb := b3
      have hKa := hL3.a
      rw [hKS.out] at hKa
      have hKa := hide hKa
      clear q0 q1 q2 q3 q4 q5 q6 q7
      obtain ⟨wo, rfl⟩ : ∃ wo : World, wo = wr := ⟨_, rfl⟩
      go_loopg [7, 8, 9, 10, 11, 12, 13, 14, 15] 64 (fun g y7 y8 y9 y10 y11 y12 y13 y14 i w' => ∃ (t m : Nat), t ≤ 64 ∧ g = 64 - t ∧ (∃ r, rnds KS ws ⟨s0, s1, s2, s3, s4, s5, s6, s7⟩ t = r ∧ y7 = W32 r.a ∧ y8 = W32 r.b ∧ y9 = W32 r.c ∧ y10 = W32 r.d ∧ y11 = W32 r.e ∧ y12 = W32 r.f ∧ y13 = W32 r.g ∧ y14 = W32 r.h) ∧ i = .int .i64 t ∧ w' = w7.drewN m)
      case atStart => exact ⟨0, _, by omega, by omega, ⟨_, rfl, rfl, rfl, rfl, rfl, rfl, rfl, rfl, rfl⟩, rfl, rfl⟩
      case round =>
        obtain ⟨t, m, ht, hg, ⟨r, hr, rfl, rfl, rfl, rfl, rfl, rfl, rfl, rfl⟩, rfl, rfl⟩ := hrel
        have HG2 := hide hg
        have HR := hide hr
        clear hg hr
        obtain ⟨a0, b0, c0, d0, e0, f0, g0, h0⟩ := r
        by_cases hlt2 : t < 64
        · obtain ⟨kk, hk2⟩ : ∃ k, KS[t]? = some k := ⟨KS[t]'(by rw [hKl.out]; exact hlt2), by simp⟩
          obtain ⟨wt, hwt⟩ : ∃ k, ws[t]? = some k := ⟨ws[t]'(by rw [hwl.out]; exact hlt2), by simp⟩
          have q8 : w7.cell? ⟨g6, t, none⟩ = some (W32 wt) := x6.at_ (box_at hwt)
          have q9 : w7.cell? ⟨0, t, none⟩ = some (W32 kk) := hKa.out t kk hk2
          have it : (t : Int) < 64 := by omega
          have HN : Hid (rnds KS ws ⟨s0, s1, s2, s3, s4, s5, s6, s7⟩ (t + 1) = rnd ⟨a0, b0, c0, d0, e0, f0, g0, h0⟩ kk wt) := by
            show _ = _
            rw [rnds, HR.out, List.getD_eq_getElem?_getD, List.getD_eq_getElem?_getD, hk2, hwt]
            rfl
          clear hk2 hwt
          go_wp2_with fail
          go_cut [16] from 55 to 81 (fun x w' => x = W32 (h0 + mix3 e0 6 11 25 + ((e0 &&& f0) ^^^ ((e0 ^^^ (-1)) &&& g0)) + kk + wt) ∧ ∃ n, w' = w7.drewN n)
          case first =>
            go_quiet (first | (go_at_call_of 71 (Value.int IntKind.i64 6); exact quiet_more (rotr_c _ 6 6 rfl (by decide) (by decide) _)) | (go_at_call_of 71 (Value.int IntKind.i64 11); exact quiet_more (rotr_c _ 11 11 rfl (by decide) (by decide) _)) | (go_at_call_of 71 (Value.int IntKind.i64 25); exact quiet_more (rotr_c _ 25 25 rfl (by decide) (by decide) _)))
            go_wp2_with fail
            go_meet
            refine ⟨val_w ?_, _, World.drewN_drewN _ _ _⟩
            rw [mix_raw, ch_raw']
            exact sum_x _ _ _ _ _
          case rest =>
            obtain ⟨rfl, n2, rfl⟩ := hcut
            generalize hX : h0 + mix3 e0 6 11 25 + ((e0 &&& f0) ^^^ ((e0 ^^^ (-1)) &&& g0)) + kk + wt = X
            have hX := hide hX
            go_wp2_with fail
            refine (rotr_c _ 2 2 rfl (by decide) (by decide) _).mono ?_
            rintro e w' ⟨rfl, n3, rfl⟩
            go_wp2_with fail
            refine (rotr_c _ 13 13 rfl (by decide) (by decide) _).mono ?_
            rintro e w' ⟨rfl, n4, rfl⟩
            go_wp2_with fail
            refine (rotr_c _ 22 22 rfl (by decide) (by decide) _).mono ?_
            rintro e w' ⟨rfl, n5, rfl⟩
            go_wp2_with fail
            go_roundg (64 - (t + 1))
            case measure => have := HG2.out; omega
            case rel =>
              refine ⟨t + 1, _, by omega, rfl, ⟨_, HN.out, val_w ?_, rfl, rfl, rfl, val_w ?_, rfl, rfl, rfl⟩, by go_num, rfl⟩
              · rw [mix_raw, maj_raw, w_add', w_add', ← hX.out]
                rfl
              · rw [w_add', ← hX.out]
                rfl
        · obtain rfl : t = 64 := by omega
          have q0 : w7.cell? ⟨B + 1, 0, none⟩ = some (W32 s0) := y3.at_ rfl
          have q1 : w7.cell? ⟨B + 1, 1, none⟩ = some (W32 s1) := y3.at_ rfl
          have q2 : w7.cell? ⟨B + 1, 2, none⟩ = some (W32 s2) := y3.at_ rfl
          have q3 : w7.cell? ⟨B + 1, 3, none⟩ = some (W32 s3) := y3.at_ rfl
          have q4 : w7.cell? ⟨B + 1, 4, none⟩ = some (W32 s4) := y3.at_ rfl
          have q5 : w7.cell? ⟨B + 1, 5, none⟩ = some (W32 s5) := y3.at_ rfl
          have q6 : w7.cell? ⟨B + 1, 6, none⟩ = some (W32 s6) := y3.at_ rfl
          have q7 : w7.cell? ⟨B + 1, 7, none⟩ = some (W32 s7) := y3.at_ rfl
          go_wp2_with (with_reducible refine hold_store ?_)
          refine hide ?_
          refine store_all 82 _ _ 82 (B + 1) _ [W32 (s0 + a0), W32 (s1 + b0), W32 (s2 + c0), W32 (s3 + d0), W32 (s4 + e0), W32 (s5 + f0), W32 (s6 + g0), W32 (s7 + h0)] _ size_8 (y3.drewN m) rfl rfl (by show #[_, _, _, _, _, _, _, _] = _; rw [w_add', w_add', w_add', w_add', w_add', w_add', w_add', w_add']) (Eq.refl 8) (by simp [Value.oneCell']) ?_
          intro w8 z3 hg8 hs8
          go_wp2_with fail
          go_roundg (N - (k + 1))
          case measure => have := HG.out; omega
          case rel =>
            have hd : ∀ n, Below B w7 (w7.drewN n) := fun n => ⟨(Below.refl B w7).os, (Below.refl B w7).tape, (Below.refl B w7).output, (Below.refl B w7).size, fun _ _ => rfl⟩
            have hb78 : Below B w7 w8 := (hd m).grown hg8 (by have := y2.lt; simp; omega) (fun k hk => by cases hk; omega)
            have y4 : Own (w7.drewN m) (B + 2) 5 1 a4 (64 * N) c4 (M.map B8) := y4
            refine ⟨k + 1, by omega, rfl, by have := HP.out; go_num, ?_, ?_, ?_, ?_, ?_⟩
            · have e1 : blocks M (k + 1) = comp (blocks M k) ((M.drop (64 * k)).take 64) := rfl
              have e2 : p + 64 - p = 64 := by omega
              have e3 := hbl.out
              rw [e2, HP.out] at e3
              rw [e1, hs.out, e3]
              unfold comp
              rw [hws.out, hKS.out, HR.out]
              exact z3
            · exact (y2.drewN m).grown hg8 (by simp)
            · exact y4.kept hg8 (fun q hq hc => by subst hq; have := y4.base.1; have := Option.some.inj hc; omega)
            · exact hL0.out.mono (yb.trans hb78) (Nat.le_of_eq HB.out.symm)
            · exact yb.trans hb78
    · have hkn : k = N := by omega
      subst hkn
      obtain ⟨S8, hS8⟩ : ∃ L, Hid ((blocks M k).list = L) := ⟨_, rfl⟩
      have hl8 := hide (show S8.length = 8 by rw [← hS8.out]; exact mix3_lists _)
      rw [hS8.out] at x3
      go_wp2_with fail
      have y3 := x3.alloc (.cells ((zero32.map B8).toArray) 89)
      have y2 := x2.alloc (.cells ((zero32.map B8).toArray) 89)
      have yb := b3.alloc (Nat.le_of_lt x2.lt) (.cells ((zero32.map B8).toArray) 89)
      have y5 := Box.new wr 89 ((zero32.map B8).toArray)
      obtain ⟨G, hG⟩ : ∃ G, G = wr.heap.size := ⟨_, rfl⟩
      have hBG : B + 1 < G := by rw [hG]; exact x3.lt
      rw [← hG] at y5 ⊢
      clear hG x2 x3 b3 o4 hL3
      go_loopg [19] 32 (fun g i w' => ∃ t : Nat, t ≤ 32 ∧ g = 32 - t ∧ i = .int .i64 t ∧ Box w' G 89 ((bytesOf S8 t ++ List.replicate (32 - t) 0).map B8) ∧ Box w' (B + 1) 82 (S8.map W32) ∧ Box w' B 89 (zero32.map B8) ∧ Below B w w')
      case atStart => exact ⟨0, by omega, by omega, rfl, y5, y3, y2, yb⟩
      case round =>
        clear y5 y3 y2 yb
        obtain ⟨t, ht, hg, rfl, y5, y3, y2, yb⟩ := hrel
        have HG3 := hide hg
        clear hg
        by_cases hlt : t < 32
        · obtain ⟨x, hx⟩ : ∃ x, S8[t / 4]? = some x := ⟨S8[t / 4]'(by rw [hl8.out]; omega), by simp⟩
          have q0 : wr.cell? ⟨B + 1, t / 4, none⟩ = some (W32 x) := y3.at_ (box_at hx)
          have d0 : wr.cell? ⟨G, t, none⟩ = some (B8 0) := y5.at_ (by rw [List.getElem?_map, List.getElem?_append_right (by rw [bytesOf_length]; exact Nat.le_refl _), bytesOf_length, List.getElem?_replicate, if_pos (by omega)]; rfl)
          have f0 := y5.free t
          have HX := hide hx
          clear hx
          go_wp2_with fail
          go_roundg (32 - (t + 1))
          case measure => have := HG3.out; omega
          case rel =>
            refine ⟨t + 1, by omega, rfl, by go_num, ?_, y3.far (by simp; omega) _, y2.far (by simp; omega) _, yb.setCell (by simp; omega) _⟩
            have h := y5.put t (B8 (wbyte S8 t))
            rw [byte_put S8 x t HX.out]
            rw [bytes_next S8 t hlt] at h
            exact h
        · obtain rfl : t = 32 := by omega
          have y6 : Box wr G 89 ((bytesOf S8 32).map B8) := by simpa only [Nat.sub_self, List.replicate_zero, List.append_nil] using y5
          have hz32 : (Tryd.prog.info? 89).map (·.size) = some ((bytesOf S8 32).map B8).length := by rw [List.length_map, bytesOf_length]; exact size_32
          have hz32' := hide hz32
          have hs32 := hide hS8
          clear y5
          go_wp2_with (first
            | (with_reducible refine load_box 163 89 _ 89 _ 0 _ ((bytesOf S8 32).map B8) isAgg_32 hz32'.out y6 rfl (fun j u hj => by rw [Nat.zero_add]; exact hj) ?_)
            | (with_reducible refine hold_store ?_))
          refine hide ?_
          refine store_all 89 _ _ 89 B _ ((bytesOf S8 32).map B8) (.agg ((bytesOf S8 32).map B8).toArray) hz32'.out y2 (by rfl) (by rfl) rfl (by rw [List.length_map, bytesOf_length]; exact Eq.refl 32) (one_map _ (fun _ => rfl) _) ?_
          intro w9 z2 hg9 hs9
          go_wp2_with fail
          refine bodyPost_ret (run_results_cell rfl rfl isAgg_32 hz32'.out z2) rfl ⟨?_, ?_⟩
          · unfold sha
            rw [hM.out, hNb.out, show 64 * k / 64 = k by omega, hS8.out]
          · rw [← HB.out]
            exact yb.grown hg9 (Nat.le_of_lt y2.lt) (fun k hk => by cases hk; omega)
end Go.Proofs.YtblgmjnkllkhbaaDoor
end

/- the text QTail -/
section
/- A region that draws its order: a head of quiet operations (reads, and calls that keep a class of worlds), and a tail that waits for the whole head: walked once. No program in sight. -/
set_option linter.unusedVariables false
namespace Go.Dx
section
variable {P : Program} {ops : Array Oper} {md : Region.Mode} {C : World → Prop}

def headQ (P : Program) (md : Region.Mode) (ops : Array Oper) (C : World → Prop) (n : Nat) (L : Array Bool → Act → Prop) : Nat → Array Bool → Act → Prop
  | 0, listed, a => L listed a
  | f + 1, listed, a => Region.ready md ops listed ≠ [] ∧ ∀ i ∈ Region.ready md ops listed, i < n ∧ qOp P ops C i (headQ P md ops C n L f (listed.setIfInBounds i true)) a

theorem wpAny_of_headQ {n g : Nat} {L : Array Bool → Act → Prop} {Q' : Exit → Act → World → Prop} (hL : ∀ listed a w, C w → L listed a → wpAny P md ops Q' g listed a w) :
    ∀ (f : Nat) (listed : Array Bool) (a : Act) (w : World), C w → headQ P md ops C n L f listed a → wpAny P md ops Q' (f + g) listed a w
  | 0, listed, a, w, hw, h => by rw [Nat.zero_add]; exact hL _ _ _ hw h
  | f + 1, listed, a, w, hw, h => by
    rw [show f + 1 + g = (f + g) + 1 by omega]
    exact ⟨fun h0 => absurd h0 h.1, fun i hi => wpOp_of_qOp hw (fun a' w' hw' h' => wpAny_of_headQ hL f _ a' w' hw' h') (h.2 i hi).2⟩

theorem headQ_first {n i : Nat} {oi : Oper} {v : Value} {L : Array Bool → Act → Prop} (hi : ops[i]? = some oi) (hsel : ∀ (j : Nat) (o : Oper) cs b, ops[j]? = some o → o.op ≠ .select cs b)
    (hs : Region.sinkB md ops n = true) (hc : Region.chainB md ops n = true) (hn : n < ops.size) (hin : i < n)
    (hdone : ∀ listed a, L listed a → ∀ j ∈ Region.ready md ops listed, n ≤ j) :
    ∀ (f : Nat) (listed : Array Bool) (a : Act), HeadInv md ops n listed →
      (∀ j oj, ops[j]? = some oj → j ≠ i → listed.getD j true = false → (∀ e ∈ oj.after, Region.binds md e = true → e.on ≠ i) → oi.apart ops oj = true) →
      i ∈ Region.ready md ops listed → YieldsIn P ops C oi v a →
      headQ P md ops C n L f (listed.setIfInBounds i true) (a.put oi.dst v) → headQ P md ops C n L (f + 1) listed a := by
  intro f
  induction f with
  | zero =>
    intro listed a inv _ hr hy H
    have hun := (mem_ready.1 hr).1
    refine ⟨fun h => (by rw [h] at hr; cases hr), fun j hj => ?_⟩
    have hjn : j < n := by
      rcases Nat.lt_or_ge j n with h | h
      · exact h
      · exact absurd hj (tail_waits hs hc hn inv _ i rfl hin hun j h)
    refine ⟨hjn, ?_⟩
    by_cases hji : j = i
    · subst hji; exact hy.qOp hi H
    · have := hdone _ _ H j (ready_mono hj hji)
      omega
  | succ f ih =>
    intro listed a inv hfree hr hy H
    have hun := (mem_ready.1 hr).1
    refine ⟨fun h => (by rw [h] at hr; cases hr), fun j hj => ?_⟩
    have hjn : j < n := by
      rcases Nat.lt_or_ge j n with h | h
      · exact h
      · exact absurd hj (tail_waits hs hc hn inv _ i rfl hin hun j h)
    refine ⟨hjn, ?_⟩
    by_cases hji : j = i
    · subst hji; exact hy.qOp hi H
    · have h1 := (H.2 j (ready_mono hj hji)).2
      obtain ⟨hjun, oj, hoj, hall⟩ := mem_ready.1 hj
      have hnot : ∀ e ∈ oj.after, Region.binds md e = true → e.on ≠ i := fun e he hb heq => by
        have h1 := hall e he hb
        rw [heq, getD_both hun] at h1
        cases h1
      have h2 := qOp_put hoj (hfree j oj hoj hji hjun hnot) (fun cs b => hsel i oi cs b hi) (fun cs b => hsel j oj cs b hoj) hy h1
      have hfree' : ∀ k ok, ops[k]? = some ok → k ≠ i → (listed.setIfInBounds j true).getD k true = false →
          (∀ e ∈ ok.after, Region.binds md e = true → e.on ≠ i) → oi.apart ops ok = true := fun k ok hk hki hun hno => by
        refine hfree k ok hk hki ?_ hno
        by_cases hjk : j = k
        · subst hjk; exact hjun
        · rw [getD_set_ne true hjk] at hun; exact hun
      refine qOp_mono (fun a' h3 => ih (listed.setIfInBounds j true) a' (inv.set hj hjn) hfree' (ready_mono hr (Ne.symm hji)) h3.1 ?_) h2
      rw [Array.setIfInBounds_comm _ _ hji]
      exact h3.2

theorem headQ_lex {n g : Nat} {Lq : Act → Prop} (hsel : Region.noSelect ops = true) (hs : Region.sinkB md ops n = true) (hc : Region.chainB md ops n = true) (hn : n < ops.size) :
    ∀ (l : List Oper) (k : Nat) (listed : Array Bool) (a : Act), (∀ j, j < l.length → l[j]? = ops[k + j]?) → k + l.length = n → HeadInv md ops n listed →
    Region.lexHead md ops g l.length k listed = true → wpQuiet P ops C Lq l a →
    headQ P md ops C n (fun listed' a' => Region.seqB md ops g n listed' = true ∧ Lq a') l.length listed a
  | [], k, listed, a, _, hk, _, hB, h => by
    have : k = n := by simpa using hk
    subst this
    exact ⟨by simpa [Region.lexHead] using hB, h⟩
  | o :: l, k, listed, a, hl, hk, inv, hB, h => by
    have h0 : ops[k]? = some o := by simpa using (hl 0 (by simp)).symm
    simp only [List.length_cons, Region.lexHead, Bool.and_eq_true] at hB
    obtain ⟨⟨hr, hf⟩, hB'⟩ := hB
    have hkn : k < n := by simp only [List.length_cons] at hk; omega
    have hr' : k ∈ Region.ready md ops listed := by simpa using hr
    have hst : qOp P ops C k (wpQuiet P ops C Lq l) a := by unfold qOp; simp only [h0]; exact h
    obtain ⟨v, hy, hK⟩ := yieldsIn_of_qOp h0 hst
    exact headQ_first h0 (Region.noSelect_spec hsel) hs hc hn hkn (fun listed' a' hL => seqB_ready hL.1) l.length listed a inv (Region.free_spec h0 hf) hr' hy
      (headQ_lex hsel hs hc hn l (k + 1) _ _ (fun j hj => by have := hl (j + 1) (by simp; omega); simpa [Nat.add_assoc, Nat.add_comm 1 j] using this) (by simp only [List.length_cons] at hk; omega) (inv.set hr' hkn) hB' hK)

theorem wp_region_quiet_tail {id : Nat} {Q : Exit → Act → World → Prop} {a : Act} {w : World} {l : List Oper} (n : Nat) (hm : P.follows .mixedOrders = true) (hB : Region.lexTailB .any l.toArray n = true) (hC : C w.drew)
    (h : wpQuiet P l.toArray C (fun a' => ∀ w', C w' → wpList P l.toArray Q (l.drop n) a' w') (l.take n) a) : (Code.region id l.toArray true).wp P Q a w := by
  simp only [Region.lexTailB, Bool.and_eq_true, decide_eq_true_eq] at hB
  obtain ⟨⟨⟨⟨hsel, hn⟩, hs⟩, hc⟩, hlex⟩ := hB
  have hn' : n < l.length := by simpa using hn
  have htl : (l.take n).length = n := by simp; omega
  have hdl : (l.drop n).length = l.toArray.size - n := by simp
  have inv0 : HeadInv .any l.toArray n (Array.replicate l.toArray.size false) :=
    ⟨by simp, fun j oj _ hl => (by rw [getD_replicate_false] at hl; cases hl), fun t _ ht => getD_in (by simpa using ht) (getD_replicate_false _ _)⟩
  have H := headQ_lex (md := .any) (g := l.toArray.size - n) hsel hs hc hn (l.take n) 0 _ a (fun j hj => by
    have hj' : j < n := by rw [htl] at hj; exact hj
    simp [hj']) (by simpa using htl) inv0 (by rw [htl]; exact hlex) h
  refine wp_region_any hm ?_
  have := wpAny_of_headQ (Q' := Q) (g := l.toArray.size - n) (fun listed a' w' hw' hL => by
    have := wpAny_of_seq (md := .any) (Q' := Q) (l.drop n) n listed a' w' (fun j => by simp [List.getElem?_drop]) (by rw [hdl]; exact hL.1) (hL.2 w' hw')
    rwa [hdl] at this) _ _ _ _ hC H
  rw [htl, show n + (l.toArray.size - n) = l.toArray.size by omega] at this
  exact this
/-- the same at the class 'whatever came on top of w' -/
theorem wp_region_below_tail {id : Nat} {Q : Exit → Act → World → Prop} {a : Act} {w : World} {l : List Oper} (n : Nat) (hm : P.follows .mixedOrders = true) (hB : Region.lexTailB .any l.toArray n = true)
    (h : wpQuiet P l.toArray (fun w' => ∃ p : OnTop w, w' = p.v) (fun a' => ∀ w', (∃ p : OnTop w, w' = p.v) → wpList P l.toArray Q (l.drop n) a' w') (l.take n) a) : (Code.region id l.toArray true).wp P Q a w :=
  wp_region_quiet_tail (C := fun w' => ∃ p : OnTop w, w' = p.v) n hm hB ⟨⟨w.drewN 1, Still.below 1⟩, rfl⟩ h
end
end Go.Dx
end

/- the text Box2 -/
section
/- More laws on blocks that are known whole: a copy from a string, whole loads in drawn regions. No program in sight. -/
set_option linter.unusedVariables false
set_option linter.unusedSimpArgs false
namespace Go.Dx
open Go.RowKit
section
variable {P : Program} {w : World} {ops : Array Oper} {rest : List Oper} {o : Oper} {act : Act} {Q : Exit → Act → World → Prop}
/-- 'copy(dst, s)' from a string, dst lying in a block that is known whole -/
theorem copy_str (hgd : o.guard = none) (d s : Operand) (dT sT : TypeId) (hop : o.op = .call { callee := .builtin .copy, args := #[d, s], argTypes := #[dT, sT] }) (elem : TypeId) (hu : P.underlying dT = some (.slice elem)) (hsz : (P.info? elem).map (·.size) = some 1)
    (g off dLen dCap : Nat) (t : TypeId) (old : List Value) (hb : Box w g t old) (hd : act.eval d = .slice (some ⟨g, off, none⟩) dLen dCap) (x : ByteArray) (hs : act.eval s = .string x) (k : Nat) (hk : k = min x.size dLen) (hfit : off + k ≤ old.length)
    (hK : ∀ w', Box w' g t (old.take off ++ (x.data.toList.take k).map B8 ++ old.drop (off + k)) → w.grownBy w' (some g) → w'.heap.size = w.heap.size → wpList P ops Q rest (act.put o.dst (.int .i64 (k : Int))) w') :
    wpList P ops Q (o :: rest) act w := by
  refine wpList_plain hgd fun K hK' => ?_
  have hxl : x.data.toList.length = x.size := Array.length_toList
  have hcl : ((x.data.toList.take k).map B8).length = k := by rw [List.length_map, List.length_take]; omega
  have hst := run_storeCells_at P g off t ((x.data.toList.take k).map B8) 0 old.toArray w hb (by rw [hcl]; simpa using hfit) (one_map _ (fun _ => rfl) _)
  rw [hcl] at hst
  simp only [Nat.add_zero, List.toList_toArray] at hst
  have hmin : Nat.min x.size dLen = k := hk.symm
  have hrun : (Builtin.copy_ #[dT, sT] o.type #[.slice (some ⟨g, off, none⟩) dLen dCap, .string x]).run P w = .ok (.int .i64 (k : Int)) (w.setRow g (old.take off ++ (x.data.toList.take k).map B8 ++ old.drop (off + k)).toArray) := by
    obtain ⟨i, hq, hi⟩ := Option.map_eq_some_iff.1 hsz
    simp [Builtin.copy_, run_underlying hu, Builtin.lenOf, Builtin.firstCells, sizeOf, typeInfo, hq, hmin]
    have e : List.take k (List.map (fun b : UInt8 => Value.int IntKind.u8 (b.toNat : Int)) x.data.toList) = (x.data.toList.take k).map B8 := by rw [List.map_take]
    rw [e, hst]
    simp [Result.andThen]
    rfl
  unfold Oper.wp
  simp [execOp, hop, resolve, invoke, builtin, hd, hs, hrun, Result.andThen]
  refine hK' _ _ (hK _ ?_ ⟨rfl, rfl, rfl, by simp [World.setRow], fun k _ hk => setRow_other w g k _ (fun e => hk (by rw [e]))⟩ (by simp [World.setRow]))
  have := setRow_heap w g old.toArray (old.take off ++ (x.data.toList.take k).map B8 ++ old.drop (off + k)).toArray t (0, 0) hb
  simpa [Box] using this
theorem run_cut_var {P : Program} {w : World} (t e : TypeId) (n : Nat) (ht : P.underlying t = some (.array n e)) (hsz : (P.info? e).map (·.size) = some 1) (g off l u : Nat) (lo hi : Option Value)
    (hl : lo = none ∧ l = 0 ∨ ∃ k, lo = some (.int k (l : Int))) (hu : hi = none ∧ u = n ∨ ∃ k, hi = some (.int k (u : Int))) (hlu : l ≤ u) (hun : u ≤ n) (hln : l < n) :
    (Instr.sliceAt t (.pointer (some ⟨g, off, none⟩)) lo hi none).run P w = .ok (.slice (some ⟨g, off + l, none⟩) (u - l) (n - l)) w := by
  obtain ⟨i0, hi0, hs0⟩ := Option.map_eq_some_iff.1 hsz
  have h2 : (0 : Int) ≤ l ∧ (l : Int) ≤ u := by omega
  have h3 : (0 : Int) ≤ u ∧ (u : Int) ≤ n := by omega
  have hne : ¬ n = l := by omega
  rcases hl with ⟨rfl, rfl⟩ | ⟨k1, rfl⟩ <;> rcases hu with ⟨rfl, rfl⟩ | ⟨k2, rfl⟩ <;>
    simp [Instr.sliceAt, Instr.sureAddr, Instr.sliceBounds, Instr.sliceBound, asIntOf, run_underlying ht, sizeOf, typeInfo, hi0, hs0, h2, h3, Addr.add_lit, hlu, hun, hne]
/-- 'arr[lo:hi]' of an array variable -/
theorem cut_var {ty : TypeId} {pos : String} {after : Array Edge} (d : Nat) (t e : TypeId) (n : Nat) (x : Operand) (lo hi : Option Operand) (ht : P.underlying t = some (.array n e)) (hsz : (P.info? e).map (·.size) = some 1)
    (g off : Nat) (hx : act.eval x = .pointer (some ⟨g, off, none⟩)) (l u : Nat)
    (hl : lo.map act.eval = none ∧ l = 0 ∨ ∃ k, lo.map act.eval = some (.int k (l : Int))) (hu : hi.map act.eval = none ∧ u = n ∨ ∃ k, hi.map act.eval = some (.int k (u : Int))) (hlu : l ≤ u) (hun : u ≤ n) (hln : l < n)
    (hK : wpList P ops Q rest (act.put (some d) (.slice (some ⟨g, off + l, none⟩) (u - l) (n - l))) w) :
    wpList P ops Q ({ dst := some d, op := .slice t x lo hi none, type := ty, pos := pos, after := after, guard := none } :: rest) act w := by
  refine wpList_plain rfl fun K hK' => ?_
  have hrun := run_cut_var (P := P) (w := w) t e n ht hsz g off l u (lo.map act.eval) (hi.map act.eval) hl hu hlu hun hln
  unfold Oper.wp
  simp only [execOp, Option.map_none, hx, Sem.run_bind, hrun, Result.andThen, Sem.run_pure]
  exact hK' _ _ hK
end
/-- the walk stops ahead of a copy -/
theorem hold_copy {P : Program} {w : World} {ops : Array Oper} {rest : List Oper} {act : Act} {Q : Exit → Act → World → Prop} {dst : Option Tmp} {ty : TypeId} {as_ : Array Operand} {ts : Array TypeId} {pos : String} {after : Array Edge} {g : Option (Nat × Bool)}
    (h : Hid (wpList P ops Q ({ dst := dst, op := .call { callee := .builtin .copy, args := as_, argTypes := ts }, type := ty, pos := pos, after := after, guard := g } :: rest) act w)) :
    wpList P ops Q ({ dst := dst, op := .call { callee := .builtin .copy, args := as_, argTypes := ts }, type := ty, pos := pos, after := after, guard := g } :: rest) act w := h
section quiet
variable {P : Program} {w : World} {ops : Array Oper} {rest : List Oper} {act : Act} {Q : Act → Prop} {C : World → Prop} {ty : TypeId} {pos : String} {after : Array Edge}
/-- an operation of a quiet walk whose value is known in every world of the class -/
theorem quiet_in {o : Oper} (v : Value) (hw : Region.wanted o (yielded ops act.tmps) = true) (h : ∀ w', C w' → (execOp act.eval o).run P w' = .ok (.value v) w') (hK : wpQuiet P ops C Q rest (act.put o.dst v)) : wpQuiet P ops C Q (o :: rest) act := by
  refine wpQuiet_step fun K hK' => ?_
  rw [if_pos hw]
  refine ⟨v, ?_, hK' _ hK⟩
  intro w' hC
  unfold Oper.quietAt
  rw [h w' hC]
  exact ⟨rfl, rfl⟩
/-- a call of a quiet walk -/
theorem quiet_call {o : Oper} (f : FuncId) (args : Array Value) (v : Value) (hw : Region.wanted o (yielded ops act.tmps) = true) (h : ∀ w', C w' → (execOp act.eval o).run P w' = .ok (.enter f args) w') (hc : ∀ w', C w' → Calls P f args w' (fun e w'' => e = .returned v ∧ C w''))
    (hK : wpQuiet P ops C Q rest (act.put o.dst v)) : wpQuiet P ops C Q (o :: rest) act := by
  refine wpQuiet_step fun K hK' => ?_
  rw [if_pos hw]
  refine ⟨v, ?_, hK' _ hK⟩
  intro w' hC
  unfold Oper.quietAt
  rw [h w' hC]
  exact ⟨rfl, hc w' hC⟩
/-- a whole array or struct is loaded -/
theorem quiet_load_box (d : Nat) (t : TypeId) (x : Operand) (e : TypeId) (g off : Nat) (old cs : List Value) (hag : IsAgg P t) (hsz : (P.info? t).map (·.size) = some cs.length) (hb : ∀ w', C w' → Box w' g e old) (hx : act.eval x = .pointer (some ⟨g, off, none⟩))
    (hc : ∀ j u, cs[j]? = some u → old[off + j]? = some u) (hK : wpQuiet P ops C Q rest (act.put (some d) (.agg cs.toArray))) :
    wpQuiet P ops C Q ({ dst := some d, op := .load t x, type := ty, pos := pos, after := after, guard := none } :: rest) act := by
  refine quiet_in _ (by simp [Region.wanted]) (fun w' hC => ?_) hK
  simp [execOp, hx, Instr.loadAt, Instr.sureAddr, run_loadVar_box hag hsz (hb w' hC) hc]
theorem quiet_cut_var (d : Nat) (t e : TypeId) (n : Nat) (x : Operand) (lo hi : Option Operand) (ht : P.underlying t = some (.array n e)) (hsz : (P.info? e).map (·.size) = some 1)
    (g off : Nat) (hx : act.eval x = .pointer (some ⟨g, off, none⟩)) (l u : Nat)
    (hl : lo.map act.eval = none ∧ l = 0 ∨ ∃ k, lo.map act.eval = some (.int k (l : Int))) (hu : hi.map act.eval = none ∧ u = n ∨ ∃ k, hi.map act.eval = some (.int k (u : Int))) (hlu : l ≤ u) (hun : u ≤ n) (hln : l < n)
    (hK : wpQuiet P ops C Q rest (act.put (some d) (.slice (some ⟨g, off + l, none⟩) (u - l) (n - l)))) :
    wpQuiet P ops C Q ({ dst := some d, op := .slice t x lo hi none, type := ty, pos := pos, after := after, guard := none } :: rest) act := by
  refine quiet_in _ (by simp [Region.wanted]) (fun w' hC => ?_) hK
  have hrun := run_cut_var (P := P) (w := w') t e n ht hsz g off l u (lo.map act.eval) (hi.map act.eval) hl hu hlu hun hln
  simp only [execOp, Option.map_none, hx, Sem.run_bind, hrun, Result.andThen, Sem.run_pure]
end quiet
theorem run_conv_str {P : Program} {w : World} {src dst e : TypeId} (hsr : P.underlying src = some (.slice e)) (he : P.underlying e = some (.int .u8)) (hd : P.underlying dst = some .string)
    {a : Option Addr} {n c : Nat} {l : List UInt8} (hs : Sl w 1 a n c (l.map B8)) : (convert src dst (.slice a n c)).run P w = .ok (.string ⟨l.toArray⟩) w := by
  obtain rfl := hs.n_eq
  cases a with
  | some p => exact run_convert_bytes_back w src dst e p c l hsr he hd (fun j hj => hs.cell p rfl j _ (by simp [hj]))
  | none =>
    have := hs.nil rfl
    have := hs.le
    have hl : l = [] := List.eq_nil_of_length_eq_zero (by omega)
    subst hl
    simp [convert, run_underlying hsr, run_underlying hd, run_underlying he, Conv.bytesToString]
    rfl
section quiet2
variable {P : Program} {w : World} {ops : Array Oper} {rest : List Oper} {act : Act} {Q : Act → Prop} {C : World → Prop} {ty : TypeId} {pos : String} {after : Array Edge}
theorem quiet_conv_str (d : Nat) (src dst : TypeId) (x : Operand) (e : TypeId) (hsr : P.underlying src = some (.slice e)) (he : P.underlying e = some (.int .u8)) (hd : P.underlying dst = some .string)
    (a : Option Addr) (n c : Nat) (l : List UInt8) (hx : act.eval x = .slice a n c) (hs : ∀ w', C w' → Sl w' 1 a n c (l.map B8))
    (hK : wpQuiet P ops C Q rest (act.put (some d) (.string ⟨l.toArray⟩))) :
    wpQuiet P ops C Q ({ dst := some d, op := .convert src dst x, type := ty, pos := pos, after := after, guard := none } :: rest) act := by
  refine quiet_in _ (by simp [Region.wanted]) (fun w' hC => ?_) hK
  simp [execOp, hx, run_conv_str hsr he hd (hs w' hC), Result.andThen]
end quiet2
section guarded
variable {P : Program} {w : World} {ops : Array Oper} {rest : List Oper} {act : Act} {Q : Exit → Act → World → Prop} {ty : TypeId} {pos : String} {after : Array Edge} {g : Option (Nat × Bool)}
theorem unguard_any {dst : Option Nat} {op : Op} (hw : Region.wanted { dst := dst, op := op, type := ty, pos := pos, after := after, guard := g } (yielded ops act.tmps) = true)
    (h : wpList P ops Q ({ dst := dst, op := op, type := ty, pos := pos, after := after, guard := none } :: rest) act w) :
    wpList P ops Q ({ dst := dst, op := op, type := ty, pos := pos, after := after, guard := g } :: rest) act w := by
  have h2 : Region.wanted { dst := dst, op := op, type := ty, pos := pos, after := after, guard := none } (yielded ops act.tmps) = true := rfl
  unfold wpList at h ⊢
  rw [if_pos h2] at h
  rw [if_pos hw]
  exact h
/-- a whole array or struct is loaded, guarded or not -/
theorem load_box_g (d : Nat) (t : TypeId) (x : Operand) (e : TypeId) (b off : Nat) (old cs : List Value) (hag : IsAgg P t) (hsz : (P.info? t).map (·.size) = some cs.length) (hb : Box w b e old) (hx : act.eval x = .pointer (some ⟨b, off, none⟩))
    (hc : ∀ j u, cs[j]? = some u → old[off + j]? = some u) (hw : Region.wanted { dst := some d, op := .load t x, type := ty, pos := pos, after := after, guard := g } (yielded ops act.tmps) = true)
    (hK : wpList P ops Q rest (act.put (some d) (.agg cs.toArray)) w) :
    wpList P ops Q ({ dst := some d, op := .load t x, type := ty, pos := pos, after := after, guard := g } :: rest) act w :=
  unguard_any hw (load_box d t x e b off old cs hag hsz hb hx hc hK)
/-- '==' of two arrays of bytes, guarded or not -/
theorem eql_bytes_g (d : Nat) (t : TypeId) (x y : Operand) (e n : Nat) (ht : P.underlying t = some (.array n e)) (he : P.underlying e = some (.int .u8)) (hsz : (P.info? e).map (·.size) = some 1) (hgt : P.eqGuardType P.depth t = false)
    (xs ys : List UInt8) (hx : act.eval x = .agg (xs.map B8).toArray) (hy : act.eval y = .agg (ys.map B8).toArray) (hxl : xs.length = n) (hyl : ys.length = n)
    (hw : Region.wanted { dst := some d, op := .binOp .eql t x y t, type := ty, pos := pos, after := after, guard := g } (yielded ops act.tmps) = true)
    (hK : wpList P ops Q rest (act.put (some d) (.bool (decide (xs = ys)))) w) :
    wpList P ops Q ({ dst := some d, op := .binOp .eql t x y t, type := ty, pos := pos, after := after, guard := g } :: rest) act w := by
  refine unguard_any hw (val_at rfl _ ?_ hK)
  have h1 := run_eqGuard_agg (P := P) (w := w) .eql t x y (xs.map B8).toArray (ys.map B8).toArray hgt
  have h2 := run_eql_arr (P := P) w t e n .u8 ht he hsz (xs.map fun d => (d.toNat : Int)) (ys.map fun d => (d.toNat : Int)) (by simpa using hxl) (by simpa using hyl)
  rw [← bytes_ints, ← bytes_ints] at h2
  have h3 : decide ((xs.map fun d => (d.toNat : Int)) = (ys.map fun d => (d.toNat : Int))) = decide (xs = ys) := decide_eq_decide.2 bytes_inj
  rw [h3] at h2
  simp only [execOp, hx, hy, Sem.run_bind, h1, h2, Result.andThen_ok, Sem.run_pure]
end guarded
/-- a string's bytes -/
theorem str_none {y : ByteArray} (h : y.size = 0) : y.toList.isEmpty = true := by
  rw [Lib.toList_data, List.isEmpty_iff, ← List.length_eq_zero_iff]; exact h
theorem str_some {y : ByteArray} (h : y.size ≠ 0) : y.toList.isEmpty = false := by
  rw [Lib.toList_data, Bool.eq_false_iff, ne_eq, List.isEmpty_iff, ← List.length_eq_zero_iff]; exact h
theorem ext_list (y : ByteArray) (k : Nat) : (y.extract k y.size).data.toList = y.data.toList.drop k := by
  rw [Lib.extract_data]
  apply List.take_of_length_le
  rw [List.length_drop]
  exact Nat.le_of_eq rfl
end Go.Dx
end

/- the text Hash9 -/
section
namespace Go.Proofs.YtblgmjnkllkhbaaDoor
open Go.RowKit Go.Dx

/-- the cells of the stream of a message -/
def SC (m : List UInt8) : List Value := strm (stOf m) (blkOf m) m.length
/-- the stream of a message -/
def SV (m : List UInt8) : Value := .agg (SC m).toArray
theorem SC_len (m : List UInt8) : (SC m).length = 73 := strm_length _ (blkOf_len m) _
theorem st8 (s : St) : (s.list.map W32).length = 8 := rfl
theorem tri_n {α : Type} {A B : List α} {c : α} (ha : A.length = 8) (hb : B.length = 64) : (A ++ B ++ [c])[72]? = some c := by
  rw [List.getElem?_append_right (by rw [List.length_append]; omega), List.length_append, ha, hb]; rfl
theorem tri_set {α : Type} {A B : List α} {c d : α} (ha : A.length = 8) (hb : B.length = 64) : (A ++ B ++ [c]).set 72 d = A ++ B ++ [d] := by
  rw [List.set_append_right _ _ (by rw [List.length_append]; omega), List.length_append, ha, hb]; rfl
theorem tri_put {α : Type} {A B T : List α} {c : α} {i n : Nat} (ha : A.length = 8) (hb : B.length = 64) (hn : T.length = n) (hi : i + n ≤ 64) :
    (A ++ B ++ [c]).take (8 + i) ++ T ++ (A ++ B ++ [c]).drop (8 + i + n) = A ++ (B.take i ++ T ++ B.drop (i + n)) ++ [c] := by
  have e1 : (A ++ B ++ [c]).take (8 + i) = A ++ B.take i := by
    rw [List.append_assoc, List.take_append, List.take_of_length_le (by omega), ha, Nat.add_sub_cancel_left, List.take_append_of_le_length (by omega)]
  have e2 : (A ++ B ++ [c]).drop (8 + i + n) = B.drop (i + n) ++ [c] := by
    rw [List.append_assoc, List.drop_append, List.drop_eq_nil_of_le (by omega), ha, List.nil_append, show 8 + i + n - 8 = i + n by omega, List.drop_append_of_le_length (by omega)]
  rw [e1, e2]
  simp only [List.append_assoc]
theorem tri_head {α : Type} {A B T : List α} {c : α} (ha : A.length = 8) : (A ++ B ++ [c]).take 0 ++ T ++ (A ++ B ++ [c]).drop (0 + 8) = T ++ B ++ [c] := by
  rw [List.take_zero, List.nil_append, Nat.zero_add, List.append_assoc A, List.drop_append, List.drop_eq_nil_of_le (by omega), ha, Nat.sub_self, List.drop_zero, List.nil_append, List.append_assoc]
theorem strm_put {s : St} {blk : List UInt8} {n i : Nat} {t : List UInt8} (hb : blk.length = 64) (k : Nat) (hk : t.length = k) (hi : i + k ≤ 64) :
    (strm s blk n).take (8 + i) ++ t.map B8 ++ (strm s blk n).drop (8 + i + k) = strm s (putBlk blk i t) n := by
  subst hk
  unfold strm
  rw [tri_put (st8 s) (by rw [List.length_map, hb]) (by rw [List.length_map]) hi]
  unfold putBlk
  simp only [List.map_append, List.map_take, List.map_drop]
theorem strm_n {s : St} {blk : List UInt8} {n : Nat} (hb : blk.length = 64) : (strm s blk n)[72]? = some (.int .u64 (n : Int)) := tri_n (st8 s) (by rw [List.length_map, hb])
theorem strm_setn {s : St} {blk : List UInt8} {n : Nat} (hb : blk.length = 64) (k : Nat) : (strm s blk n).set 72 (.int .u64 (k : Int)) = strm s blk k := tri_set (st8 s) (by rw [List.length_map, hb])
theorem strm_state {s : St} {blk : List UInt8} {n : Nat} (r : St) : (strm s blk n).take 0 ++ r.list.map W32 ++ (strm s blk n).drop (0 + 8) = strm r blk n := tri_head (st8 s)
theorem strm_get {s : St} {blk : List UInt8} {n : Nat} {j : Nat} {u : Value} (hj : (s.list.map W32)[j]? = some u) : (strm s blk n)[0 + j]? = some u := by
  have hl := (List.getElem?_eq_some_iff.1 hj).1
  unfold strm
  rw [Nat.zero_add, List.append_assoc, List.getElem?_append_left hl, hj]
theorem tri_mid {α : Type} {A B : List α} {c u : α} {j : Nat} (ha : A.length = 8) (hj : B[j]? = some u) : (A ++ B ++ [c])[8 + j]? = some u := by
  have hl := (List.getElem?_eq_some_iff.1 hj).1
  rw [List.append_assoc, List.getElem?_append_right (by omega), ha, Nat.add_sub_cancel_left, List.getElem?_append_left hl, hj]
theorem strm_blk {s : St} {blk : List UInt8} {n : Nat} {j : Nat} {u : Value} (hj : (blk.map B8)[j]? = some u) : (strm s blk n)[8 + j]? = some u := tri_mid (st8 s) hj
theorem strm_one (s : St) (blk : List UInt8) (n : Nat) : ∀ u ∈ strm s blk n, u.oneCell' = true := by
  intro u hu
  simp only [strm, List.mem_append, List.mem_map, List.mem_singleton] at hu
  rcases hu with (⟨x, _, rfl⟩ | ⟨x, _, rfl⟩) | rfl <;> rfl

theorem Begin_at (w : World) : Calls Tryd.prog 52 #[] w fun e w' => e = .returned (SV []) ∧ Below w.heap.size w w' := by
  have h : SV [] = .agg (strm H0 (List.replicate 64 0) 0).toArray := by unfold SV SC; rw [blkOf_nil, stOf_nil]; rfl
  rw [h]; exact begin_any w

theorem zero_SV (W : World) : (zeroValue 85).run Tryd.prog W = .ok (.agg (strm Z0 (List.replicate 64 0) 0).toArray) W := zero_strm W
set_option maxRecDepth 100000 in
set_option maxHeartbeats 2000000 in
theorem add_any (m : List UInt8) (x : ByteArray) (hm : m.length + x.size ≤ 1000000000) (w : World) (hL : Laid w) :
    Calls Tryd.prog 53 #[SV m, .string x] w fun e w' => e = .returned (SV (m ++ x.data.toList)) ∧ Below w.heap.size w w' := by
  have h3 := zero_strm
  have k2 : (strm Z0 (List.replicate 64 0) 0).length = 73 := strm_length _ (by simp) _
  generalize strm Z0 (List.replicate 64 0) 0 = Z at *
  have k2 := hide k2
  obtain ⟨S, hS⟩ : ∃ S, Hid (SC m = S) := ⟨_, rfl⟩
  unfold SV
  rw [hS.out]
  go_enter Tryd.func53, Tryd.ntmps53
  go_wp2_with fail
  have x2 : Box ((w.alloc (Obj.cells S.toArray 85)).alloc (Obj.cells Z.toArray 85)) w.heap.size 85 (SC m) := by rw [hS.out]; exact (Box.new w _ _).alloc _
  have x4 : Box ((w.alloc (Obj.cells S.toArray 85)).alloc (Obj.cells Z.toArray 85)) (w.heap.size + 1) 85 Z := box_next w _ _ _
  have b0 : Below w.heap.size w ((w.alloc (Obj.cells S.toArray 85)).alloc (Obj.cells Z.toArray 85)) := ((Below.refl _ _).alloc (Nat.le_refl _) _).alloc (by simp) _
  obtain ⟨B, hB⟩ : ∃ B, B = w.heap.size := ⟨_, rfl⟩
  rw [← hB] at x2 x4 b0 ⊢
  have HB := hide hB
  have hL0 := hide hL
  clear hB h3 hL
  generalize (w.alloc (Obj.cells S.toArray 85)).alloc (Obj.cells Z.toArray 85) = w0 at *
  have hxl := hide (show x.data.toList.length = x.size from Array.length_toList)
  go_loopg [1] x.size (fun g t w' => ∃ (c : List UInt8) (y : ByteArray), Hid (x.data.toList = c ++ y.data.toList) ∧ g = y.size ∧ c.length + y.size = x.size ∧ t = .string y ∧ Box w' B 85 (SC (m ++ c)) ∧ Box w' (B + 1) 85 Z ∧ Below B w w')
  case atStart => exact ⟨[], x, hide rfl, rfl, by simp, rfl, by rw [List.append_nil]; exact x2, x4, b0⟩
  case round =>
    clear x2 x4 b0
    obtain ⟨c, y, hc, hg, hcy, rfl, x2, x4, b0⟩ := hrel
    have HG := hide hg
    have HC := hide hcy
    have hn : (m ++ c).length ≤ 1000000000 := by rw [List.length_append]; omega
    obtain ⟨M, hM⟩ : ∃ M, Hid (m ++ c = M) := ⟨_, rfl⟩
    rw [hM.out] at x2 hn
    obtain ⟨N, hN⟩ : ∃ N, N = M.length := ⟨_, rfl⟩
    obtain ⟨p, hp⟩ : ∃ p, p = N % 64 := ⟨_, rfl⟩
    rw [← hN] at hn
    have hp63 : p ≤ 63 := by omega
    have hmod : (N : Int) % 64 = (p : Int) := by omega
    have hzM : (Tryd.prog.info? 85).map (·.size) = some (SC M).length := by rw [SC_len]; exact size_strm
    have hzM := hide hzM
    have hxs : y.size ≤ 1000000000 := by omega
    have HN := hide hN
    have HP := hide hp
    clear hg hcy hN hp
    by_cases hy : y.size = 0
    · have y0 := str_none hy
      go_wp2_with (first
        | (with_reducible refine load_box 37 85 _ 85 B 0 (SC M) (SC M) isAgg_strm hzM.out x2 rfl (fun j u hj => by rw [Nat.zero_add]; exact hj) ?_)
        | (with_reducible refine hold_store ?_))
      refine hide ?_
      refine store_all 85 _ _ 85 (B + 1) Z (SC M) (.agg (SC M).toArray) hzM.out x4 (by rfl) (by rfl) rfl (by rw [SC_len, k2.out]) (strm_one _ _ _) ?_
      intro w5 x5 hg5 hs5
      go_wp2_with fail
      refine bodyPost_ret (run_results_cell rfl rfl isAgg_strm hzM.out x5) rfl ⟨?_, ?_⟩
      · have e := hc.out
        rw [List.eq_nil_of_length_eq_zero (l := y.data.toList) hy, List.append_nil] at e
        rw [e, hM.out]
      · rw [← HB.out]
        exact b0.grown hg5 (Nat.le_of_lt x2.lt) (fun k hk => by cases hk; omega)
    · have q0 : wr.cell? ⟨B, 72, none⟩ = some (.int .u64 (N : Int)) := by rw [HN.out]; exact x2.at_ (strm_n (blkOf_len M))
      have y0 := str_some hy
      obtain ⟨k, hk⟩ : ∃ k, k = min y.size (64 - p) := ⟨_, rfl⟩
      have hk0 : k ≤ y.size := by omega
      have hk1' : 1 ≤ k := by omega
      have hk1 : k ≤ 64 - p := by omega
      have HK := hide hk
      clear hk
      have hkl : (y.data.toList.take k).length = k := by rw [List.length_take]; exact Nat.min_eq_left hk0
      obtain ⟨Y, hY⟩ : ∃ Y, Hid (y.data.toList.take k = Y) := ⟨_, rfl⟩
      rw [hY.out] at hkl
      have hkl := hide hkl
      have hkp : p + k ≤ 64 := by omega
      have hk64 : k ≤ 64 := by omega
      have nB : ∀ w3, Box w3 B 85 (strm (stOf M) (putBlk (blkOf M) p Y) N) → w3.cell? ⟨B, 72, none⟩ = some (.int .u64 (N : Int)) ∧ w3.frozen? ⟨B, 72, none⟩ = false := fun w3 h =>
        ⟨h.at_ (strm_n (by unfold putBlk; rw [List.length_append, List.length_append, List.length_take, List.length_drop, blkOf_len, hkl.out]; omega)), h.free 72⟩
      have nB := hide nB
      have hsz' : (y.extract k y.size).size = y.size - k := by
        have h := congrArg List.length (ext_list y k)
        rw [List.length_drop] at h
        exact h
      have hcat : x.data.toList = (c ++ Y) ++ (y.extract k y.size).data.toList := by
        rw [ext_list, List.append_assoc, ← hY.out, List.take_append_drop]
        exact hc.out
      have hMY : m ++ (c ++ Y) = M ++ Y := by rw [← List.append_assoc, hM.out]
      have hNk : (M ++ Y).length = N + k := by rw [List.length_append, hkl.out, HN.out]
      have hbl : (putBlk (blkOf M) p Y).length = 64 := by
        unfold putBlk; rw [List.length_append, List.length_append, List.length_take, List.length_drop, blkOf_len, hkl.out]; omega
      have hsz' := hide hsz'
      have hcat := hide hcat
      have hMY := hide hMY
      have hNk := hide hNk
      have hbl := hide hbl
      have hput : ∀ w3, Box w3 B 85 (strm (stOf M) (putBlk (blkOf M) p Y) N) → Box (w3.setCell ⟨B, 72, none⟩ (.int .u64 ((N : Int) + (k : Int)))) B 85 (strm (stOf M) (putBlk (blkOf M) p Y) (N + k)) := fun w3 h => by
        have h2 := h.put 72 (.int .u64 ((N + k : Nat) : Int))
        rw [strm_setn hbl.out (N + k), Int.natCast_add] at h2
        exact h2
      have hput := hide hput
      have hful : p + k = 64 ∨ p + k ≠ 64 := by omega
      have htest : (p + k = 64 → ((p : Int) + (k : Int) == 64) = true) ∧ (p + k ≠ 64 → ((p : Int) + (k : Int) == 64) = false) := by
        constructor
        · intro h; simp; omega
        · intro h; simp; omega
      rcases hful with hf | hf
      · have ht := htest.1 hf
        have hf := hide hf
        clear htest
        go_wp2_with (first
          | (with_reducible refine cut_var 15 83 5 64 _ _ _ Tryd.underlying83 size_u8 B 8 rfl p 64 (.inr ⟨_, rfl⟩) (.inl ⟨rfl, rfl⟩) (by omega) (by omega) (by omega) ?_)
          | (with_reducible refine hold_copy ?_))
        refine hide ?_
        (refine copy_str (o := ⟨some 17, _, _, _, _, _⟩) rfl _ _ 52 9 rfl 5 Tryd.underlying52 size_u8 B (8 + p) _ _ 85 (SC M) x2 (by rfl) y (by rfl) k HK.out (by rw [SC_len]; omega) ?_; intro w3 x3 hg3 hs3; unfold SC at x3; rw [hY.out, strm_put (blkOf_len M) k hkl.out hkp, ← HN.out] at x3; obtain ⟨q1, f1⟩ := nB.out w3 x3)
        go_wp2_with fail
        have bp := blkOf_full M Y (by rw [hkl.out, ← HN.out, ← HP.out]; exact hf.out)
        rw [← HN.out, ← HP.out] at bp
        obtain ⟨bp1, bp2⟩ := bp
        have z2 := hput.out w3 x3
        rw [bp1] at z2
        have z4 := (x4.grown hg3 (by simp)).far (p := ⟨B, 72, none⟩) (by simp) (.int .u64 ((N : Int) + (k : Int)))
        have zb := (b0.grown hg3 (Nat.le_of_lt x2.lt) (fun k hk => by cases hk; omega)).setCell (p := ⟨B, 72, none⟩) (by simp) (.int .u64 ((N : Int) + (k : Int)))
        have zL := hL0.out.mono zb (Nat.le_of_eq HB.out.symm)
        obtain ⟨D, hD⟩ : ∃ D, Hid (blkOf (M ++ Y) = D) := ⟨_, rfl⟩
        have hDl : D.length = 64 := by rw [← hD.out]; exact blkOf_len _
        rw [hD.out] at z2 bp2
        have hDl := hide hDl
        have bp2 := hide bp2
        clear bp1 x2 x3 x4 b0 q0 q1 f1 hg3 hs3 nB hput
        generalize w3.setCell ⟨B, 72, none⟩ (.int .u64 ((N : Int) + (k : Int))) = w4 at *
        refine wp_region_below_tail 6 (by kernel_rfl) (by kernel_rfl) ?_
        simp only [List.take_succ_cons, List.take_zero, List.drop_succ_cons, List.drop_zero]
        refine quiet_in (.pointer (some ⟨B, 0, none⟩)) rfl (fun w' _ => by kernel_rfl) ?_
        simp only [Act.put, List.setIfInBounds_toArray, List.set_cons_succ, List.set_cons_zero]
        refine quiet_load_box 32 82 _ 85 B 0 (strm (stOf M) D (N + k)) ((stOf M).list.map W32) isAgg_8 size_8 (by rintro w' ⟨q, rfl⟩; exact z2.under q.h) rfl (fun j u hj => strm_get hj) ?_
        simp only [Act.put, List.setIfInBounds_toArray, List.set_cons_succ, List.set_cons_zero]
        refine quiet_in (.pointer (some ⟨B, 8, none⟩)) rfl (fun w' _ => by kernel_rfl) ?_
        simp only [Act.put, List.setIfInBounds_toArray, List.set_cons_succ, List.set_cons_zero]
        refine quiet_cut_var 34 83 5 64 _ none none Tryd.underlying83 size_u8 B 8 rfl 0 64 (.inl ⟨rfl, rfl⟩) (.inl ⟨rfl, rfl⟩) (by omega) (by omega) (by omega) ?_
        simp only [Act.put, List.setIfInBounds_toArray, List.set_cons_succ, List.set_cons_zero]
        go_big_quiet_step ((go_at_call 67; refine onTop_call (compress_any (stOf M) D _ _ _ (zL.below (OnTop.h _)) ((z2.under (OnTop.h _)).sl 8 64 64 1 (D.map B8) (by rw [List.length_map, hDl.out]) (Nat.le_refl _) (by decide) (fun j u hj => strm_blk hj)))))
        refine quiet_in (.pointer (some ⟨B, 0, none⟩)) rfl (fun w' _ => by kernel_rfl) ?_
        simp only [Act.put, List.setIfInBounds_toArray, List.set_cons_succ, List.set_cons_zero]
        refine wpQuiet_nil ?_
        rintro w5 ⟨q, rfl⟩
        refine store_box 82 _ _ 85 B 0 (strm (stOf M) D (N + k)) ((comp (stOf M) D).list.map W32) (.agg ((comp (stOf M) D).list.map W32).toArray) (by rw [st8]; exact size_8) (z2.under q.h) (by rfl) (by rfl) rfl (by rw [st8, strm_length _ hDl.out]; omega) (one_map _ (fun _ => rfl) _) ?_
        intro w6 y2 hg6 hs6
        rw [st8, strm_state] at y2
        go_wp2_with fail
        go_roundg (y.extract k y.size).size
        case measure => rw [hsz'.out, HG.out]; omega
        case rel =>
          refine ⟨c ++ Y, y.extract k y.size, hcat, rfl, ?_, rfl, ?_, (z4.under q.h).grown hg6 (by simp), (zb.trans (q.h.mono (Nat.le_of_lt z2.lt))).grown hg6 (Nat.le_of_lt (z2.under q.h).lt) (fun k hk => by cases hk; omega)⟩
          · rw [List.length_append, hkl.out, hsz'.out]; have := HC.out; omega
          · unfold SC
            rw [hMY.out, hNk.out, bp2.out, hD.out]
            exact y2
      · have ht := htest.2 hf
        have hf := hide hf
        clear htest
        go_wp2_with (first
          | (with_reducible refine cut_var 15 83 5 64 _ _ _ Tryd.underlying83 size_u8 B 8 rfl p 64 (.inr ⟨_, rfl⟩) (.inl ⟨rfl, rfl⟩) (by omega) (by omega) (by omega) ?_)
          | (with_reducible refine hold_copy ?_))
        refine hide ?_
        (refine copy_str (o := ⟨some 17, _, _, _, _, _⟩) rfl _ _ 52 9 rfl 5 Tryd.underlying52 size_u8 B (8 + p) _ _ 85 (SC M) x2 (by rfl) y (by rfl) k HK.out (by rw [SC_len]; omega) ?_; intro w3 x3 hg3 hs3; unfold SC at x3; rw [hY.out, strm_put (blkOf_len M) k hkl.out hkp, ← HN.out] at x3; obtain ⟨q1, f1⟩ := nB.out w3 x3)
        go_wp2_with fail
        go_roundg (y.extract k y.size).size
        case measure => rw [hsz'.out, HG.out]; omega
        case rel =>
          have bp := blkOf_part M Y (by rw [hkl.out, ← HN.out, ← HP.out]; have := hf.out; omega)
          rw [← HN.out, ← HP.out] at bp
          obtain ⟨bp1, bp2⟩ := bp
          have z2 := hput.out w3 x3
          rw [bp1] at z2
          refine ⟨c ++ Y, y.extract k y.size, hcat, rfl, ?_, rfl, ?_, (x4.grown hg3 (by simp)).far (by simp) _, (b0.grown hg3 (Nat.le_of_lt x2.lt) (fun k hk => by cases hk; omega)).setCell (by simp) _⟩
          · rw [List.length_append, hkl.out, hsz'.out]; have := HC.out; omega
          · unfold SC
            rw [hMY.out, hNk.out, bp2]
            exact z2
end Go.Proofs.YtblgmjnkllkhbaaDoor
end

/- the text Hash10 -/
section
namespace Go.Proofs.YtblgmjnkllkhbaaDoor
open Go.RowKit Go.Dx

theorem add_at {m r : List UInt8} {x : ByteArray} (h : m ++ x.data.toList = r) (hr : r.length ≤ 1000000000) (w : World) (hL : Laid w) :
    Calls Tryd.prog 53 #[SV m, .string x] w fun e w' => e = .returned (SV r) ∧ Below w.heap.size w w' := by
  subst h
  exact add_any m x (by rw [List.length_append] at hr; exact hr) w hL
theorem pad_list (m : List UInt8) : m ++ padTail m.length = pad m := rfl
theorem padTail_len (n : Nat) : (padTail n).length = 9 + padN n := by
  unfold padTail
  simp only [List.length_append, List.length_replicate, lenB_length, List.length_singleton]
  omega
/-- the mark and k zeros -/
def padA (k : Nat) : List UInt8 := [128] ++ List.replicate k 0
theorem padA_succ (k : Nat) : padA (k + 1) = padA k ++ [0] := by unfold padA; rw [List.replicate_succ']; simp
theorem zero32_len : (zero32.map B8).length = 32 := by unfold zero32; rw [List.length_map, List.length_replicate]
theorem zero32_start (S8 : List UInt32) : zero32 = bytesOf S8 0 ++ List.replicate (32 - 0) 0 := rfl
theorem zero_32 (W : World) : (zeroValue 89).run Tryd.prog W = .ok (.agg (zero32.map B8).toArray) W := by kernel_rfl
set_option maxRecDepth 100000 in
set_option maxHeartbeats 2000000 in
theorem ssum_any (m : List UInt8) (hm : m.length ≤ 500000000) (w : World) (hL : Laid w) :
    Calls Tryd.prog 55 #[SV m] w fun e w' => e = .returned (.agg ((sha m).map B8).toArray) ∧ Below w.heap.size w w' := by
  obtain ⟨S, hS⟩ : ∃ S, Hid (SC m = S) := ⟨_, rfl⟩
  obtain ⟨N, hN⟩ : ∃ N, N = m.length := ⟨_, rfl⟩
  have h72 : S[72]? = some (.int .u64 (N : Int)) := by rw [← hS.out, hN]; exact strm_n (blkOf_len m)
  rw [← hN] at hm
  have HN := hide hN
  have h32 := zero_32
  obtain ⟨Z, hZ⟩ : ∃ Z, Hid (zero32.map B8 = Z) := ⟨_, rfl⟩
  rw [hZ.out] at h32
  unfold SV
  rw [hS.out]
  clear hN
  go_enter Tryd.func55, Tryd.ntmps55
  go_wp2_with fail
  clear h72 h32
  have x1 : Box (((w.alloc (Obj.cells S.toArray 85)).alloc (Obj.cells (Z.toArray) 89)).alloc (.cells #[.int .u8 128] 5)) w.heap.size 85 (SC m) := by rw [hS.out]; exact ((Box.new w _ _).alloc _).alloc _
  have x2 : Box (((w.alloc (Obj.cells S.toArray 85)).alloc (Obj.cells (Z.toArray) 89)).alloc (.cells #[.int .u8 128] 5)) (w.heap.size + 1) 89 Z := (box_next w _ _ _).alloc _
  have oP : Own (((w.alloc (Obj.cells S.toArray 85)).alloc (Obj.cells (Z.toArray) 89)).alloc (.cells #[.int .u8 128] 5)) (w.heap.size + 2) 5 1 (some ⟨w.heap.size + 2, 0, none⟩) 1 1 ((padA 0).map B8) := by
    have h := Own.built ((w.alloc (Obj.cells S.toArray 85)).alloc (Obj.cells (Z.toArray) 89)) (w.heap.size + 2) 5 1 1 #[.int .u8 128] (by simp) rfl (by decide)
    rw [show ((w.alloc (Obj.cells S.toArray 85)).alloc (Obj.cells (Z.toArray) 89)).heap.size = w.heap.size + 2 by simp] at h
    exact h
  have b0 : Below w.heap.size w (((w.alloc (Obj.cells S.toArray 85)).alloc (Obj.cells (Z.toArray) 89)).alloc (.cells #[.int .u8 128] 5)) := (((Below.refl _ _).alloc (Nat.le_refl _) _).alloc (by simp) _).alloc (by simp; omega) _
  have hsz : w.heap.size + 2 ≤ (((w.alloc (Obj.cells S.toArray 85)).alloc (Obj.cells (Z.toArray) 89)).alloc (.cells #[.int .u8 128] 5)).heap.size := by simp
  obtain ⟨B, hB⟩ : ∃ B, B = w.heap.size := ⟨_, rfl⟩
  rw [← hB] at x1 x2 oP b0 hsz ⊢
  have HB := hide hB
  have hL0 := hide hL
  clear hB hL
  generalize ((w.alloc (Obj.cells S.toArray 85)).alloc (Obj.cells (Z.toArray) 89)).alloc (.cells #[.int .u8 128] 5) = w0 at *
  go_loopg [4] (padN N) (fun g x w' => ∃ (M : Nat) (a : Option Addr) (c : Nat), 1 ≤ M ∧ M ≤ 1 + padN N ∧ g = padN N - (M - 1) ∧ x = .slice a M c ∧ Own w' (B + 2) 5 1 a M c ((padA (M - 1)).map B8) ∧ Below (B + 2) w0 w')
  case atStart => exact ⟨1, _, 1, by omega, by omega, by omega, rfl, oP, Below.refl _ _⟩
  case round =>
    clear oP
    obtain ⟨M, a4, c4, hM0, hM1, hg, rfl, oP, hb⟩ := hrel
    have HG := hide hg
    clear hg
    have hp : padN N ≤ 63 := by unfold padN; omega
    have q0 : wr.cell? ⟨B, 72, none⟩ = some (.int .u64 (N : Int)) := by rw [HN.out]; exact (x1.below hb (by omega)).at_ (strm_n (blkOf_len m))
    by_cases hlt : M < 1 + padN N
    · have ht : (((N : Int) + (M : Int)) % 64 != 56) = true := by
        unfold padN at hlt
        simp
        omega
      go_wp2_with (at_builtin; refine app_b (o := ⟨some 22, _, _, _, _, _⟩) rfl _ _ rfl w0 (B + 2) _ _ _ _ rfl oP _ rfl (by omega) (Nat.le_trans hsz hb.size) hb ?_; intro a6 c6 w6 oD hg6 hb6)
      go_roundg (padN N - M)
      case measure => have := HG.out; omega
      case rel =>
        refine ⟨M + 1, a6, c6, by omega, by omega, by omega, rfl, ?_, hb6⟩
        rw [show M + 1 - 1 = (M - 1) + 1 by omega, padA_succ, List.map_append]
        exact oD
    · have hM : M = 1 + padN N := by omega
      have ht : (((N : Int) + (M : Int)) % 64 != 56) = false := by
        unfold padN at hM
        simp
        omega
      have e1 : M - 1 = padN N := by omega
      rw [e1] at oP
      have HM := hide hM
      clear hM e1 HG hlt
      go_wp2_with fail
      obtain ⟨wo, rfl⟩ : ∃ wo : World, wo = wr := ⟨_, rfl⟩
      go_loopg [4, 23] 8 (fun g x i w' => ∃ (k : Nat) (a : Option Addr) (c : Nat), k ≤ 8 ∧ g = 8 - k ∧ i = .int .i64 k ∧ x = .slice a (M + k) c ∧ Own w' (B + 2) 5 1 a (M + k) c ((padA (padN N) ++ lenB N k).map B8) ∧ Below (B + 2) w0 w')
      case atStart => exact ⟨0, a4, c4, by omega, by omega, rfl, rfl, by simpa [lenB] using oP, hb⟩
      case round =>
        clear oP hb q0
        obtain ⟨k, a6, c6, hk, hg, rfl, rfl, oP, hb⟩ := hrel
        have HG := hide hg
        clear hg
        by_cases hlt : k < 8
        · go_wp2_with (at_builtin; refine app_b (o := ⟨some 34, _, _, _, _, _⟩) rfl _ _ rfl w0 (B + 2) _ _ _ _ rfl oP _ rfl (by omega) (Nat.le_trans hsz hb.size) hb ?_; intro a7 c7 w7 oD hg7 hb7)
          go_roundg (8 - (k + 1))
          case measure => have := HG.out; omega
          case rel =>
            refine ⟨k + 1, a7, c7, by omega, rfl, by go_num, rfl, ?_, hb7⟩
            rw [lenByte_int N k _ rfl] at oD
            rw [lenB_succ, ← List.append_assoc, List.map_append]
            exact oD
        · obtain rfl : k = 8 := by omega
          obtain ⟨T, hT⟩ : ∃ T, Hid (padTail N = T) := ⟨_, rfl⟩
          have e1 : padA (padN N) ++ lenB N 8 = T := by rw [← hT.out]; rfl
          rw [e1] at oP
          have hTl : T.length = M + 8 := by have h := oP.len; rw [List.length_map] at h; omega
          have hT100 : T.length ≤ 100 := by omega
          have hTl := hide hTl
          have z1 := x1.below hb (by omega)
          have z2 := x2.below hb (by omega)
          have x1lt := hide z1.lt
          have hzm : (Tryd.prog.info? 85).map (·.size) = some (SC m).length := by rw [SC_len]; exact size_strm
          have hzm := hide hzm
          have zb : Below B w wr := b0.trans (hb.mono (by omega))
          have zL := hL0.out.mono zb (Nat.le_of_eq HB.out.symm)
          have oP := oP.sl
          clear e1 hb hsz b0 x1 x2 ht hlt HG
          go_wp2_with (first
            | (with_reducible refine load_box 36 85 _ 85 B 0 (SC m) (SC m) isAgg_strm hzm.out z1 rfl (fun j u hj => by rw [Nat.zero_add]; exact hj) ?_)
            | (with_reducible refine to_str 38 _ _ _ _ T rfl oP ?_))
          obtain ⟨PM, hPM⟩ : ∃ PM, Hid (pad m = PM) := ⟨_, rfl⟩
          have hcat : m ++ (⟨T.toArray⟩ : ByteArray).data.toList = PM := by rw [← hPM.out, ← hT.out, HN.out]; rfl
          have hPl := pad_ge m
          rw [hPM.out, ← HN.out] at hPl
          have hzp : (Tryd.prog.info? 85).map (·.size) = some (SC PM).length := by rw [SC_len]; exact size_strm
          have hzp := hide hzp
          refine (add_at hcat (by omega) _ zL).mono ?_
          rintro e w3 ⟨rfl, h3⟩
          have z1 := z1.under h3
          have z2 := z2.under h3
          have zb := zb.trans (h3.mono (by have := x1lt.out; exact Nat.le_of_lt this))
          clear h3 zL oP hcat
          unfold SV
          go_wp2_with (with_reducible refine hold_store ?_)
          refine hide ?_
          refine store_all 85 _ _ 85 B (SC m) (SC PM) (.agg (SC PM).toArray) hzp.out z1 (by rfl) (by rfl) rfl (by rw [SC_len, SC_len]) (strm_one _ _ _) ?_
          intro w4 y1 hg4 hs4
          have y2 := z2.grown hg4 (by simp)
          have yb := zb.grown hg4 (Nat.le_of_lt z1.lt) (fun k hk => by cases hk; omega)
          have hG0 : B + 1 < w4.heap.size := y2.lt
          clear z1 z2 zb hg4 hs4
          have h32 := zero_32
          rw [hZ.out] at h32
          go_wp2_with fail
          clear h32
          obtain ⟨S8, hS8⟩ : ∃ L, Hid ((stOf PM).list = L) := ⟨_, rfl⟩
          have hl8 := hide (show S8.length = 8 by rw [← hS8.out]; exact mix3_lists _)
          have y5 : Box (w4.alloc (.cells Z.toArray 89)) w4.heap.size 89 ((bytesOf S8 0 ++ List.replicate (32 - 0) 0).map B8) := by rw [← zero32_start, hZ.out]; exact Box.new w4 _ _
          have y1 := y1.alloc (.cells Z.toArray 89)
          have y2 := y2.alloc (.cells Z.toArray 89)
          have yb := yb.alloc (by omega) (.cells Z.toArray 89)
          generalize w4.alloc (.cells Z.toArray 89) = w5 at *
          generalize w4.heap.size = G at *
          go_loopg [40] 32 (fun g i w' => ∃ t : Nat, t ≤ 32 ∧ g = 32 - t ∧ i = .int .i64 t ∧ Box w' G 89 ((bytesOf S8 t ++ List.replicate (32 - t) 0).map B8) ∧ Box w' B 85 (SC PM) ∧ Box w' (B + 1) 89 Z ∧ Below B w w')
          case atStart => exact ⟨0, by omega, by omega, rfl, y5, y1, y2, yb⟩
          case round =>
            clear y5 y1 y2 yb
            obtain ⟨t, ht, hg, rfl, y5, y1, y2, yb⟩ := hrel
            have HG3 := hide hg
            clear hg
            by_cases hlt : t < 32
            · obtain ⟨x, hx⟩ : ∃ x, S8[t / 4]? = some x := ⟨S8[t / 4]'(by rw [hl8.out]; omega), by simp⟩
              have q0 : wr.cell? ⟨B, t / 4, none⟩ = some (W32 x) := by
                have h := y1.at_ (strm_get (s := stOf PM) (blk := blkOf PM) (n := PM.length) (j := t / 4) (u := W32 x) (by rw [hS8.out]; exact box_at hx))
                rw [Nat.zero_add] at h
                exact h
              have d0 : wr.cell? ⟨G, t, none⟩ = some (B8 0) := y5.at_ (by rw [List.getElem?_map, List.getElem?_append_right (by rw [bytesOf_length]; exact Nat.le_refl _), bytesOf_length, List.getElem?_replicate, if_pos (by omega)]; rfl)
              have f0 := y5.free t
              have HX := hide hx
              clear hx
              go_wp2_with fail
              go_roundg (32 - (t + 1))
              case measure => have := HG3.out; omega
              case rel =>
                refine ⟨t + 1, by omega, rfl, by go_num, ?_, y1.far (by simp; omega) _, y2.far (by simp; omega) _, yb.setCell (by simp; omega) _⟩
                have h := y5.put t (B8 (wbyte S8 t))
                rw [byte_put S8 x t HX.out]
                rw [bytes_next S8 t hlt] at h
                exact h
            · obtain rfl : t = 32 := by omega
              have y6 : Box wr G 89 ((bytesOf S8 32).map B8) := by simpa only [Nat.sub_self, List.replicate_zero, List.append_nil] using y5
              have hz32 : (Tryd.prog.info? 89).map (·.size) = some ((bytesOf S8 32).map B8).length := by rw [List.length_map, bytesOf_length]; exact size_32
              have hz32' := hide hz32
              have hs32 := hide hS8
              clear y5
              go_wp2_with (first
                | (with_reducible refine load_box 57 89 _ 89 _ 0 _ ((bytesOf S8 32).map B8) isAgg_32 hz32'.out y6 rfl (fun j u hj => by rw [Nat.zero_add]; exact hj) ?_)
                | (with_reducible refine hold_store ?_))
              refine hide ?_
              refine store_all 89 _ _ 89 (B + 1) _ ((bytesOf S8 32).map B8) (.agg ((bytesOf S8 32).map B8).toArray) hz32'.out y2 (by rfl) (by rfl) rfl (by rw [List.length_map, bytesOf_length, ← hZ.out, zero32_len]) (one_map _ (fun _ => rfl) _) ?_
              intro w9 z2 hg9 hs9
              go_wp2_with fail
              refine bodyPost_ret (run_results_cell rfl rfl isAgg_32 hz32'.out z2) rfl ⟨?_, ?_⟩
              · unfold sha
                rw [hPM.out, ← hS8.out]
                rfl
              · rw [← HB.out]
                exact yb.grown hg9 (Nat.le_of_lt y1.lt) (fun k hk => by cases hk; omega)
end Go.Proofs.YtblgmjnkllkhbaaDoor
end

/- the text Hash11 -/
section
namespace Go.Proofs.YtblgmjnkllkhbaaDoor
open Go.RowKit Go.Dx

theorem sha_len (m : List UInt8) : (sha m).length = 32 := by unfold sha; exact bytesOf_length _ _
set_option maxRecDepth 100000 in
set_option maxHeartbeats 2000000 in
theorem hsum_any (l : List UInt8) (hl : l.length ≤ 100000000) (a : Option Addr) (n c : Nat) (w : World) (hL : Laid w) (hs : Sl w 1 a n c (l.map B8)) :
    Calls Tryd.prog 61 #[.slice a n c] w fun e w' => e = .returned (.agg ((sha l).map B8).toArray) ∧ Below w.heap.size w w' := by
  have h32 := zero_32
  obtain ⟨Z, hZ⟩ : ∃ Z, Hid (zero32.map B8 = Z) := ⟨_, rfl⟩
  rw [hZ.out] at h32
  go_enter Tryd.func61, Tryd.ntmps61
  go_wp2_with fail
  have x2 : Box (w.alloc (.cells Z.toArray 89)) w.heap.size 89 Z := Box.new w _ _
  have b1 : Below w.heap.size w (w.alloc (.cells Z.toArray 89)) := (Below.refl _ _).alloc (Nat.le_refl _) _
  have hL1 := hL.below b1
  have hs1 := hs.below b1
  clear hL hs h32
  generalize w.alloc (.cells Z.toArray 89) = w1 at *
  have hzs : (Tryd.prog.info? 89).map (·.size) = some ((sha l).map B8).length := by rw [List.length_map, sha_len]; exact size_32
  refine wp_region_below_tail 5 (by kernel_rfl) (by kernel_rfl) ?_
  simp only [List.take_succ_cons, List.take_zero, List.drop_succ_cons, List.drop_zero]
  go_big_quiet_step ((go_at_call 52; refine onTop_call (Begin_at _)))
  refine quiet_in (.slice a n c) rfl (fun w' _ => by kernel_rfl) ?_
  simp only [Act.put, List.setIfInBounds_toArray, List.set_cons_succ, List.set_cons_zero]
  refine quiet_conv_str 5 52 9 _ 5 Tryd.underlying52 Tryd.underlying5 Tryd.underlying9 a n c l rfl (by rintro w' ⟨q, rfl⟩; exact hs1.below q.h) ?_
  simp only [Act.put, List.setIfInBounds_toArray, List.set_cons_succ, List.set_cons_zero]
  go_big_quiet_step ((go_at_call 53; refine onTop_call (add_at (m := []) (r := l) rfl (by omega) _ (hL1.below (OnTop.h _)))))
  go_big_quiet_step ((go_at_call 55; refine onTop_call (ssum_any l (by omega) _ (hL1.below (OnTop.h _)))))
  refine wpQuiet_nil ?_
  rintro w5 ⟨q, rfl⟩
  refine store_all 89 _ _ 89 w.heap.size Z ((sha l).map B8) (.agg ((sha l).map B8).toArray) hzs (x2.under q.h) (by rfl) (by rfl) rfl (by rw [List.length_map, sha_len, ← hZ.out, zero32_len]) (one_map _ (fun _ => rfl) _) ?_
  intro w6 y2 hg6 hs6
  go_wp2_with fail
  exact bodyPost_ret (run_results_cell rfl rfl isAgg_32 hzs y2) rfl ⟨rfl, (b1.trans (q.h.mono (Nat.le_of_lt x2.lt))).grown hg6 (Nat.le_of_lt (x2.under q.h).lt) (fun k hk => by cases hk; exact Nat.le_refl _)⟩
end Go.Proofs.YtblgmjnkllkhbaaDoor
end

/- the text PureT -/
section
/- A region that draws its order: a head of operations that look at no memory, and a tail whose order is fixed: walked once. No program in sight. -/
set_option linter.unusedVariables false
namespace Go.Dx
open Go.RowKit
section
variable {P : Program} {ops : Array Oper} {md : Region.Mode}

def wpPure (P : Program) (ops : Array Oper) (K : Act → Prop) : List Oper → Act → Prop
  | [], a => K a
  | o :: rest, a => ∃ v, Yields P ops o v a ∧ wpPure P ops K rest (a.put o.dst v)
theorem pure_cons {K : Act → Prop} {o : Oper} {rest : List Oper} {a : Act} {v : Value} (hw : Region.wanted o (yielded ops a.tmps) = true) (h : ∀ w, (execOp a.eval o).run P w = .ok (.value v) w) (hK : wpPure P ops K rest (a.put o.dst v)) : wpPure P ops K (o :: rest) a :=
  ⟨v, .inl ⟨hw, h⟩, hK⟩
theorem pure_skip {K : Act → Prop} {o : Oper} {rest : List Oper} {a : Act} (hw : Region.wanted o (yielded ops a.tmps) = false) (hK : wpPure P ops K rest (a.put o.dst undef)) : wpPure P ops K (o :: rest) a :=
  ⟨undef, .inr ⟨hw, rfl⟩, hK⟩

theorem wpAny_pure {Q : Exit → Act → World → Prop} {w : World} (hQ : ∀ c a d v w, Q (.panic c) (Act.put a (some d) v) w → Q (.panic c) a w) (hs : Region.noSelect ops = true) (tl : List Oper) (n : Nat) (htl : ∀ j, tl[j]? = ops[n + j]?) :
    ∀ (l : List Oper) (k : Nat) (listed : Array Bool) (a : Act), (∀ j, j < l.length → l[j]? = ops[k + j]?) → k + l.length = n → Region.lexHead md ops tl.length l.length k listed = true →
    wpPure P ops (fun a' => wpList P ops Q tl a' w) l a → wpAny P md ops Q (l.length + tl.length) listed a w
  | [], k, listed, a, _, hk, hB, h => by
    have : k = n := by simpa using hk
    subst this
    rw [List.length_nil, Nat.zero_add]
    exact wpAny_of_seq (md := md) (Q' := Q) tl k listed a w htl (by simpa [Region.lexHead] using hB) h
  | o :: l, k, listed, a, hl, hk, hB, h => by
    have h0 : ops[k]? = some o := by simpa using (hl 0 (by simp)).symm
    simp only [List.length_cons, Region.lexHead, Bool.and_eq_true] at hB
    obtain ⟨⟨hr, hf⟩, hB'⟩ := hB
    obtain ⟨v, hy, hK⟩ := h
    rw [List.length_cons, show l.length + 1 + tl.length = (l.length + tl.length) + 1 by omega]
    exact wpAny_take h0 hs hf hr (fun c a w hq => by
      cases hdst : o.dst with
      | none => rw [hdst] at hq; exact hq
      | some d => rw [hdst] at hq; exact hQ c a d v w hq) hy
      (wpAny_pure hQ hs tl n htl l (k + 1) _ _ (fun j hj => by have := hl (j + 1) (by simp; omega); simpa [Nat.add_assoc, Nat.add_comm 1 j] using this) (by simp only [List.length_cons] at hk; omega) hB' hK)

def pureTailB (l : List Oper) (n : Nat) : Bool := Region.noSelect l.toArray && decide (n ≤ l.length) && Region.lexHead .any l.toArray (l.length - n) n 0 (Array.replicate l.length false)
theorem wp_region_pure_tail {id : Nat} {Q : Exit → Act → World → Prop} {a : Act} {w : World} {l : List Oper} (n : Nat) (hm : P.follows .mixedOrders = true) (hB : pureTailB l n = true)
    (hQ : ∀ c a d v w, Q (.panic c) (Act.put a (some d) v) w → Q (.panic c) a w)
    (h : wpPure P l.toArray (fun a' => wpList P l.toArray Q (l.drop n) a' w.drew) (l.take n) a) : (Code.region id l.toArray true).wp P Q a w := by
  simp only [pureTailB, Bool.and_eq_true, decide_eq_true_eq] at hB
  obtain ⟨⟨hsel, hn⟩, hlex⟩ := hB
  have htl : (l.take n).length = n := by simp; omega
  have hdl : (l.drop n).length = l.length - n := by simp
  refine wp_region_any hm ?_
  have := wpAny_pure (md := .any) (w := w.drew) hQ hsel (l.drop n) n (fun j => by simp [List.getElem?_drop]) (l.take n) 0 (Array.replicate l.length false) a (fun j hj => by
    have hj' : j < n := by rw [htl] at hj; exact hj
    simp [hj']) (by rw [htl, Nat.zero_add]) (by rw [htl, hdl]; exact hlex) h
  rw [htl, hdl, show n + (l.length - n) = l.toArray.size by simp; omega] at this
  have e : l.toArray.size = l.length := by simp
  rw [e] at this ⊢
  exact this
end
end Go.Dx
end

/- the text Hash12 -/
section
namespace Go.Proofs.YtblgmjnkllkhbaaDoor
open Go.RowKit Go.Dx

theorem take_next {α : Type} {l : List α} {k : Nat} {x : α} (h : l[k]? = some x) : l.take (k + 1) = l.take k ++ [x] := by rw [List.take_add_one, h]; rfl
theorem x_xor (a b : UInt8) : bits .xor .u8 (a.toNat : Int) (b.toNat : Int) = ((a ^^^ b).toNat : Int) := by
  rw [u8_xor_nat _ _ (UInt8.toNat_lt a) (UInt8.toNat_lt b), UInt8.toNat_xor]
theorem x_or (a b : UInt8) : bits .or .u8 (a.toNat : Int) (b.toNat : Int) = ((a ||| b).toNat : Int) := by
  rw [u8_or_nat _ _ (UInt8.toNat_lt a) (UInt8.toNat_lt b), UInt8.toNat_or]
theorem ret_f {p : Prop} [Decidable p] (h : ¬ p) : Ending.returned (.bool false) = .returned (.bool (decide p)) := by rw [decide_eq_false h]
theorem ret_t {p : Prop} [Decidable p] (h : p) : Ending.returned (.bool true) = .returned (.bool (decide p)) := by rw [decide_eq_true h]
theorem eq_next {α : Type} {l1 l2 : List α} {k : Nat} {a b : α} (h1 : l1[k]? = some a) (h2 : l2[k]? = some b) : (l1.take (k + 1) = l2.take (k + 1)) ↔ (l1.take k = l2.take k ∧ a = b) := by
  rw [take_next h1, take_next h2]
  constructor
  · intro h
    have := List.append_inj' h rfl
    exact ⟨this.1, by simpa using this.2⟩
  · rintro ⟨h, rfl⟩; rw [h]
theorem str_get (x : ByteArray) (k : Nat) (h : k < x.size) : x.data.toList[k]? = some (x[k]'h) := by
  rw [Array.getElem?_toList]; exact Array.getElem?_eq_getElem h
theorem str_inj {x y : ByteArray} : x.data.toList = y.data.toList ↔ x = y := ⟨WideShapes.bytes_inj, fun e => by rw [e]⟩
theorem or_xor_zero (d a b : UInt8) : (d ||| (a ^^^ b)) = 0 ↔ d = 0 ∧ a = b := by
  constructor
  · intro h
    have h1 := UInt8.or_eq_zero_iff.1 h
    exact ⟨h1.1, UInt8.xor_eq_zero_iff.1 h1.2⟩
  · rintro ⟨rfl, rfl⟩
    simp
set_option maxRecDepth 100000 in
set_option maxHeartbeats 1000000 in
theorem bytes32_any (l : List UInt8) (hl : l.length = 32) (w : World) :
    Calls Tryd.prog 65 #[.agg (l.map B8).toArray] w fun e w' => e = .returned (.string ⟨l.toArray⟩) ∧ Below w.heap.size w w' := by
  have hl := hide hl
  go_enter Tryd.func65, Tryd.ntmps65
  go_wp2_with fail
  have x1 : Box (w.alloc (Obj.cells (List.map B8 l).toArray 89)) w.heap.size 89 (l.map B8) := Box.new w _ _
  have b1 : Below w.heap.size w (w.alloc (Obj.cells (List.map B8 l).toArray 89)) := (Below.refl _ _).alloc (Nat.le_refl _) _
  obtain ⟨B, hB⟩ : ∃ B, B = w.heap.size := ⟨_, rfl⟩
  rw [← hB] at x1 b1 ⊢
  have HB := hide hB
  clear hB
  generalize w.alloc (Obj.cells (List.map B8 l).toArray 89) = w1 at *
  have h1 : B + 1 ≤ w1.heap.size := x1.lt
  go_loopg [3, 4] 32 (fun g x i w' => ∃ (k : Nat) (a : Option Addr) (c : Nat), k ≤ 32 ∧ g = 32 - k ∧ i = .int .i64 k ∧ x = .slice a k c ∧ Own w' (B + 1) 5 1 a k c ((l.take k).map B8) ∧ Below (B + 1) w1 w')
  case atStart => exact ⟨0, none, 0, by omega, by omega, rfl, rfl, Own.nil _ _ _ _, Below.refl _ _⟩
  case round =>
    obtain ⟨k, a, c, hk, hg, rfl, rfl, oP, hb⟩ := hrel
    have HG := hide hg
    clear hg
    by_cases hlt : k < 32
    · obtain ⟨u, hu⟩ : ∃ u, l[k]? = some u := ⟨l[k]'(by rw [hl.out]; exact hlt), by simp⟩
      have q0 : wr.cell? ⟨B, k, none⟩ = some (B8 u) := (x1.below hb (by omega)).at_ (box_at hu)
      have HU := hide (take_next hu)
      clear hu
      go_wp2_with (at_builtin; refine app_b (o := ⟨some 14, _, _, _, _, _⟩) rfl _ _ rfl w1 (B + 1) _ _ _ _ rfl oP _ rfl (by omega) (Nat.le_trans h1 hb.size) hb ?_; intro a7 c7 w7 oD hg7 hb7)
      go_roundg (32 - (k + 1))
      case measure => have := HG.out; omega
      case rel => exact ⟨k + 1, a7, c7, by omega, rfl, by go_num, rfl, by rw [HU.out, List.map_append]; exact oD, hb7⟩
    · obtain rfl : k = 32 := by omega
      rw [List.take_of_length_le (by rw [hl.out]; exact Nat.le_refl _)] at oP
      go_wp2_with (with_reducible refine to_str 16 _ _ _ _ l rfl oP.sl ?_)
      go_ret
      exact ⟨rfl, by rw [← HB.out]; exact b1.trans (hb.mono (by omega))⟩
set_option maxRecDepth 100000 in
set_option maxHeartbeats 1000000 in
theorem text_any (l : List UInt8) (hl : l.length = 16) (w : World) :
    Calls Tryd.prog 31 #[.agg (l.map B8).toArray] w fun e w' => e = .returned (.string ⟨l.toArray⟩) ∧ Below w.heap.size w w' := by
  have hl := hide hl
  go_enter Tryd.func31, Tryd.ntmps31
  go_wp2_with fail
  have x1 : Box (w.alloc (Obj.cells (List.map B8 l).toArray 23)) w.heap.size 23 (l.map B8) := Box.new w _ _
  have b1 : Below w.heap.size w (w.alloc (Obj.cells (List.map B8 l).toArray 23)) := (Below.refl _ _).alloc (Nat.le_refl _) _
  obtain ⟨B, hB⟩ : ∃ B, B = w.heap.size := ⟨_, rfl⟩
  rw [← hB] at x1 b1 ⊢
  have HB := hide hB
  clear hB
  generalize w.alloc (Obj.cells (List.map B8 l).toArray 23) = w1 at *
  have h1 : B + 1 ≤ w1.heap.size := x1.lt
  go_loopg [3, 4] 16 (fun g x i w' => ∃ (k : Nat) (a : Option Addr) (c : Nat), k ≤ 16 ∧ g = 16 - k ∧ i = .int .i64 k ∧ x = .slice a k c ∧ Own w' (B + 1) 5 1 a k c ((l.take k).map B8) ∧ Below (B + 1) w1 w')
  case atStart => exact ⟨0, none, 0, by omega, by omega, rfl, rfl, Own.nil _ _ _ _, Below.refl _ _⟩
  case round =>
    obtain ⟨k, a, c, hk, hg, rfl, rfl, oP, hb⟩ := hrel
    have HG := hide hg
    clear hg
    by_cases hlt : k < 16
    · obtain ⟨u, hu⟩ : ∃ u, l[k]? = some u := ⟨l[k]'(by rw [hl.out]; exact hlt), by simp⟩
      have q0 : wr.cell? ⟨B, k, none⟩ = some (B8 u) := (x1.below hb (by omega)).at_ (box_at hu)
      have HU := hide (take_next hu)
      clear hu
      go_wp2_with (at_builtin; refine app_b (o := ⟨some 14, _, _, _, _, _⟩) rfl _ _ rfl w1 (B + 1) _ _ _ _ rfl oP _ rfl (by omega) (Nat.le_trans h1 hb.size) hb ?_; intro a7 c7 w7 oD hg7 hb7)
      go_roundg (16 - (k + 1))
      case measure => have := HG.out; omega
      case rel => exact ⟨k + 1, a7, c7, by omega, rfl, by go_num, rfl, by rw [HU.out, List.map_append]; exact oD, hb7⟩
    · obtain rfl : k = 16 := by omega
      rw [List.take_of_length_le (by rw [hl.out]; exact Nat.le_refl _)] at oP
      go_wp2_with (with_reducible refine to_str 16 _ _ _ _ l rfl oP.sl ?_)
      go_ret
      exact ⟨rfl, by rw [← HB.out]; exact b1.trans (hb.mono (by omega))⟩
end Go.Proofs.YtblgmjnkllkhbaaDoor
end

/- the text WireB -/
section
/- wire.Bytes and the reference's. -/
namespace Go.Proofs.YtblgmjnkllkhbaaDoor
open Go.RowKit Go.Dx

set_option maxHeartbeats 400000 in
theorem wire_Bytes (s : ByteArray) (hs : s.size ≤ 140737488355000) (w : World) :
    Calls Tryd.prog 54 #[.string s] w (Gives 5 1 (encBytes s.data.toList).length ((encBytes s.data.toList).map B8) w) := by
  have h9 := encInt_le (s.size : Int)
  have el : (encBytes s.data.toList).length = (encInt (s.size : Int)).length + s.size := by unfold encBytes; rw [List.length_append, Array.length_toList]; rfl
  have em : (encBytes s.data.toList).map B8 = (encInt (s.size : Int)).map B8 ++ s.data.toList.map B8 := by unfold encBytes; rw [List.map_append, Array.length_toList]; rfl
  rw [el, em]
  clear el em
  go_enter Tryd.func54, Tryd.ntmps54
  go_wp2_with fail
  refine (wire_Int _ (by omega) (by omega) _).mono ?_
  rintro e w1 ⟨a, c, rfl, ho, hb⟩
  go_wp2_with (refine app_str rfl _ _ rfl w w.heap.size _ _ _ _ rfl ho _ rfl (by omega) hb.size hb ?_; intro a' c' w' ho' hgr' hb')
  go_ret
  exact ⟨a', c', rfl, ho', hb'⟩
set_option maxHeartbeats 400000 in
theorem ref_Bytes (s : ByteArray) (hs : s.size ≤ 140737488355000) (w : World) :
    Calls Tryd.prog 68 #[.string s] w (Gives 5 1 (encBytes s.data.toList).length ((encBytes s.data.toList).map B8) w) := by
  have h9 := encInt_le (s.size : Int)
  have el : (encBytes s.data.toList).length = (encInt (s.size : Int)).length + s.size := by unfold encBytes; rw [List.length_append, Array.length_toList]; rfl
  have em : (encBytes s.data.toList).map B8 = (encInt (s.size : Int)).map B8 ++ s.data.toList.map B8 := by unfold encBytes; rw [List.map_append, Array.length_toList]; rfl
  rw [el, em]
  clear el em
  go_enter Tryd.func68, Tryd.ntmps68
  go_wp2_with fail
  refine (ref_Int _ (by omega) (by omega) _).mono ?_
  rintro e w1 ⟨a, c, rfl, ho, hb⟩
  go_wp2_with (first
    | (with_reducible refine to_bytes 7 _ s rfl (by unfold maxLen; omega) ?_; intro a2 c2 w2 hs2 hb2 hp2)
    | (at_builtin; refine app_bs rfl _ _ rfl w w.heap.size _ _ _ _ rfl (ho.below hb2) _ _ _ s.data.toList rfl hs2 (by omega) (Nat.le_trans hb.size hb2.size) (hb.trans (hb2.mono hb.size)) ?_; intro a' c' w' ho' hgr' hb'))
  go_ret
  exact ⟨a', c', rfl, ho', hb'⟩

end Go.Proofs.YtblgmjnkllkhbaaDoor
end

/- the text Free -/
section
/- A region that draws its order and whose operations make memory: shown operation by operation, whatever the order. Each operation of the head leaves a value in its slot and a fact on it that stays true when memory grows; the tail waits for the whole head. No program in sight. -/
set_option linter.unusedVariables false
namespace Go.Dx
open Go.RowKit

theorem wp_both {P : Program} {o : Oper} {a : Act} {w : World} {K K' : Act → World → Prop} {Q Q' : Exit → Act → World → Prop} (h : ∀ a w, K a w → K' a w) (hp : ∀ e a w, e ≠ .normal → Q e a w → Q' e a w)
    (hh : o.wp P a w K Q) : o.wp P a w K' Q' := by
  unfold Oper.wp at *
  generalize (execOp a.eval o).run P w = r at *
  cases r with
  | ok n w' =>
    cases n <;> simp only [Oper.upon] at hh ⊢ <;>
      first
        | exact h _ _ hh
        | exact Calls.mono hh (fun e w'' he => by
            cases e <;> first
              | exact h _ _ he
              | exact hp _ _ _ (by simp) he
              | (obtain ⟨a1, w1, h1⟩ := he; exact ⟨a1, w1, hp _ _ _ (by simp) h1⟩))
        | exact Rows.mono hh (fun _ _ he => h _ _ he)
  | halt x w' => cases x <;> simp only [Oper.upon] at hh ⊢ <;> first | exact hp _ _ _ (by simp) hh | exact hh

theorem opt_bool {x : Option Value} {b : Bool} (h : x.getD undef = .bool b) : x = some (.bool b) := by
  cases x with
  | none => simp [undef] at h
  | some v => rw [← h]; rfl
/-- one operation of the head: its number, its slot, the slots that its fact speaks of, the fact -/
structure HOp where
  i : Nat
  d : Nat
  s : List Nat
  p : List Value → World → Prop

def HOp.fact (t : HOp) (a : Act) (w : World) : Prop := t.p (t.s.map fun k => a.tmps.getD k undef) w
/-- what an operation leaves -/
def OneDone (d : Nat) (a : Act) (w : World) (R : Value → World → Prop) (e : Exit) (a' : Act) (w' : World) : Prop := e = .normal ∧ ∃ v, a' = a.put (some d) v ∧ Below w.heap.size w w' ∧ R v w'

section
variable {P : Program}

def putAll (a : Act) : List (Nat × Value) → Act
  | [] => a
  | (d, v) :: l => putAll (a.put (some d) v) l
theorem putAll_defers (a : Act) : ∀ l, (putAll a l).defers = a.defers := by
  intro l
  induction l generalizing a with
  | nil => rfl
  | cons x l ih => obtain ⟨d, v⟩ := x; rw [putAll, ih]; rfl
theorem putAll_size (a : Act) : ∀ l, (putAll a l).tmps.size = a.tmps.size := by
  intro l
  induction l generalizing a with
  | nil => rfl
  | cons x l ih => obtain ⟨d, v⟩ := x; rw [putAll, ih]; simp [Act.put]
theorem put_get (a : Act) (d k : Nat) (v : Value) : (a.put (some d) v).tmps.getD k undef = if d = k ∧ d < a.tmps.size then v else a.tmps.getD k undef := by
  unfold Act.put
  simp only [Array.getD_eq_getD_getElem?, Array.getElem?_setIfInBounds]
  by_cases h : d = k
  · subst h
    by_cases h2 : d < a.tmps.size
    · simp [h2]
    · simp [h2]
  · simp [h]
theorem putAll_get (g : Nat → Value) : ∀ (L : List Nat) (a : Act) (k : Nat), (∀ d ∈ L, d < a.tmps.size) → (putAll a (L.map fun d => (d, g d))).tmps.getD k undef = if k ∈ L then g k else a.tmps.getD k undef := by
  intro L
  induction L with
  | nil => intro a k _; simp [putAll]
  | cons d L ih =>
    intro a k hs
    have hd := hs d List.mem_cons_self
    rw [List.map_cons, putAll, ih _ _ (fun e he => by simp [Act.put]; exact hs e (List.mem_cons_of_mem _ he)), put_get]
    by_cases h1 : k ∈ L
    · rw [if_pos h1, if_pos (List.mem_cons_of_mem _ h1)]
    · rw [if_neg h1]
      by_cases h2 : d = k
      · subst h2; rw [if_pos ⟨rfl, hd⟩, if_pos List.mem_cons_self]
      · rw [if_neg (fun h => h2 h.1), if_neg (fun h => by rcases List.mem_cons.1 h with h | h; exact h2 h.symm; exact h1 h)]
theorem act_ext {a b : Act} (h1 : a.defers = b.defers) (h2 : a.tmps.size = b.tmps.size) (h3 : ∀ k, a.tmps.getD k undef = b.tmps.getD k undef) : a = b := by
  obtain ⟨x, d⟩ := a
  obtain ⟨y, e⟩ := b
  simp only at h1 h2 h3
  subst h1
  congr 1
  apply Array.ext h2
  intro k hk1 hk2
  have := h3 k
  simpa [Array.getD, hk1, hk2] using this

theorem inj_nodup {α : Type} (f : α → Nat) : ∀ (T : List α), (T.map f).Nodup → ∀ t ∈ T, ∀ u ∈ T, f t = f u → t = u := by
  intro T
  induction T with
  | nil => intro _ t ht; cases ht
  | cons x T ih =>
    intro h t ht u hu e
    rw [List.map_cons, List.nodup_cons] at h
    rcases List.mem_cons.1 ht with h1 | h1 <;> rcases List.mem_cons.1 hu with h2 | h2
    · rw [h1, h2]
    · exact absurd (show f x ∈ T.map f from List.mem_map.2 ⟨u, h2, by rw [← e, h1]⟩) h.1
    · exact absurd (show f x ∈ T.map f from List.mem_map.2 ⟨t, h1, by rw [e, h2]⟩) h.1
    · exact ih h.2 t h1 u h2 e
/-- a property of each element of a list, written out -/
def All {α : Type} (R : α → Prop) : List α → Prop
  | [] => True
  | x :: l => R x ∧ All R l
theorem All.mem {α : Type} {R : α → Prop} : ∀ {l : List α}, All R l → ∀ x ∈ l, R x
  | y :: l, h, x, hx => by
    rcases List.mem_cons.1 hx with rfl | hx
    · exact h.1
    · exact All.mem h.2 x hx
/-- the conditions on the text alone -/
def headOk (l : List Oper) (n : Nat) (T : List (Nat × Nat × List Nat)) (size : Nat) : Bool :=
  let ops := l.toArray
  decide ((T.map (·.1)).Nodup) && decide (n < l.length) && Region.sinkB .any ops n && Region.chainB .any ops n && Region.seqB .any ops (l.length - n) n ((List.replicate n true ++ List.replicate (l.length - n) false).toArray) &&
  (List.range n).all (fun j => T.any fun t => t.1 == j) &&
  T.all (fun t => decide (t.1 < n) && decide (t.2.1 < size) && (match l[t.1]? with | some o => o.dst == some t.2.1 && (o.after.all fun e => !Region.binds .any e || decide (e.on < t.1)) | none => false)) &&
  T.all (fun t => T.all fun u => t.1 == u.1 || (t.2.1 != u.2.1 && (!u.2.2.contains t.2.1 || Region.waitsFor .any ops u.1 t.1)))

structure FreeInv (l : List Oper) (n : Nat) (T : List HOp) (a0 : Act) (w0 : World) (listed : Array Bool) (a : Act) (w : World) : Prop where
  inv : HeadInv .any l.toArray n listed
  defers : a.defers = a0.defers
  size : a.tmps.size = a0.tmps.size
  frame : ∀ k, (∀ t ∈ T, t.d ≠ k) → a.tmps.getD k undef = a0.tmps.getD k undef
  bel : Below w0.heap.size w0 w
  facts : ∀ t ∈ T, listed.getD t.i false = true → t.fact a w

def todo (listed : Array Bool) (n : Nat) : Nat := ((List.range n).filter fun j => !listed.getD j true).length
theorem todo_set {listed : Array Bool} {n i : Nat} (hi : i < n) (hl : listed.getD i true = false) : todo (listed.setIfInBounds i true) n + 1 = todo listed n := by
  unfold todo
  have hlt : i < listed.size := by
    rcases Nat.lt_or_ge i listed.size with h | h
    · exact h
    · simp [Array.getElem?_eq_none h] at hl
  have key : ∀ m, ((List.range m).filter fun j => !(listed.setIfInBounds i true).getD j true).length + (if i < m then 1 else 0) = ((List.range m).filter fun j => !listed.getD j true).length := by
    intro m
    induction m with
    | zero => simp
    | succ m ih =>
      rw [List.range_succ, List.filter_append, List.filter_append, List.length_append, List.length_append]
      by_cases him : i = m
      · subst him
        have e1 : (listed.setIfInBounds i true).getD i true = true := by simp [hlt]
        rw [if_neg (Nat.lt_irrefl _)] at ih
        rw [if_pos (Nat.lt_succ_self _), ← ih]
        simp only [List.filter_cons, List.filter_nil, e1, hl, Bool.not_true, Bool.not_false, Bool.false_eq_true, if_false, if_true, List.length_nil, List.length_singleton]
      · have e2 : (List.filter (fun j => !(listed.setIfInBounds i true).getD j true) [m]) = List.filter (fun j => !listed.getD j true) [m] := by simp only [List.filter_cons, List.filter_nil, getD_set_ne true him]
        rw [e2]
        by_cases h : i < m
        · rw [if_pos h] at ih; rw [if_pos (by omega)]; omega
        · rw [if_neg h] at ih; rw [if_neg (by omega)]; omega
  have := key n
  rw [if_pos hi] at this
  exact this

theorem wp_region_free {id : Nat} {Q : Exit → Act → World → Prop} {a0 : Act} {w0 : World} {l : List Oper} (n : Nat) (T : List HOp) (hm : P.follows .mixedOrders = true)
    (hB : headOk l n (T.map fun t => (t.i, t.d, t.s)) a0.tmps.size = true)
    (hmono : All (fun t : HOp => ∀ vs w w', Below w.heap.size w w' → t.p vs w → t.p vs w') T)
    (hop : All (fun t : HOp => ∀ o, l[t.i]? = some o → ∀ (a : Act) (w : World), Below w0.heap.size w0 w →
      (∀ k, (T.map (·.d)).contains k = false → a.tmps.getD k undef = a0.tmps.getD k undef) →
      (∀ (k : Nat) (u : HOp), T[k]? = some u → Region.waitsFor .any l.toArray t.i u.i = true → u.p (u.s.map fun k => a.tmps.getD k undef) w) →
      wpList P l.toArray (OneDone t.d a w fun v w' => t.p (t.s.map fun k => if t.d = k then v else a.tmps.getD k undef) w') [o] a w) T)
    (hend : ∀ (g : Nat → Value) (w : World), Below w0.heap.size w0 w → (∀ (k : Nat) (u : HOp), T[k]? = some u → u.p (u.s.map fun k => if k ∈ T.map (·.d) then g k else a0.tmps.getD k undef) w) →
      wpList P l.toArray Q (l.drop n) (putAll a0 ((T.map (·.d)).map fun d => (d, g d))) w) : (Code.region id l.toArray true).wp P Q a0 w0 := by
  simp only [headOk, Bool.and_eq_true, decide_eq_true_eq] at hB
  obtain ⟨⟨⟨⟨⟨⟨⟨hnd, hn⟩, hs⟩, hc⟩, hseq⟩, hcov⟩, hT⟩, hpair⟩ := hB
  have hnodup : ∀ t ∈ T, ∀ u ∈ T, t.i = u.i → t = u := inj_nodup (·.i) T (by rw [List.map_map] at hnd; exact hnd)
  have hn' : n < l.toArray.size := by simpa using hn
  have cover : ∀ j, j < n → ∃ t ∈ T, t.i = j := by
    intro j hj
    have h := List.all_eq_true.1 hcov j (List.mem_range.2 hj)
    obtain ⟨x, hx, he⟩ := List.any_eq_true.1 h
    obtain ⟨t, ht, rfl⟩ := List.mem_map.1 hx
    exact ⟨t, ht, by simpa using he⟩
  have own : ∀ t ∈ T, t.i < n ∧ t.d < a0.tmps.size ∧ ∃ o, l[t.i]? = some o ∧ o.dst = some t.d ∧ ∀ e ∈ o.after, Region.binds .any e = true → e.on < t.i := by
    intro t ht
    have h := List.all_eq_true.1 hT _ (List.mem_map.2 ⟨t, ht, rfl⟩)
    simp only [Bool.and_eq_true, decide_eq_true_eq] at h
    obtain ⟨⟨h1, h2⟩, h3⟩ := h
    refine ⟨h1, h2, ?_⟩
    cases ho : l[t.i]? with
    | none => rw [ho] at h3; cases h3
    | some o =>
      rw [ho] at h3
      simp only [Bool.and_eq_true, beq_iff_eq] at h3
      refine ⟨o, rfl, h3.1, fun e he hb => ?_⟩
      have := Array.all_eq_true_iff_forall_mem.1 h3.2 e he
      simpa [hb] using this
  have pair : ∀ t ∈ T, ∀ u ∈ T, t.i ≠ u.i → t.d ≠ u.d ∧ (t.d ∈ u.s → Region.waitsFor .any l.toArray u.i t.i = true) := by
    intro t ht u hu hne
    have h := List.all_eq_true.1 (List.all_eq_true.1 hpair _ (List.mem_map.2 ⟨t, ht, rfl⟩)) _ (List.mem_map.2 ⟨u, hu, rfl⟩)
    simp only [Bool.or_eq_true, beq_iff_eq, hne, false_or, Bool.and_eq_true, bne_iff_ne, ne_eq, Bool.not_eq_true'] at h
    refine ⟨h.1, fun hin => ?_⟩
    rcases h.2 with h2 | h2
    · have : u.s.contains t.d = true := by simpa using hin
      rw [this] at h2; cases h2
    · exact h2
  have key : ∀ (f : Nat) (listed : Array Bool) (a : Act) (w : World), FreeInv l n T a0 w0 listed a w → todo listed n = f → wpAny P .any l.toArray Q (f + (l.length - n)) listed a w := by
    intro f
    induction f with
    | zero =>
      intro listed a w I h0
      have hall : ∀ j, j < n → listed.getD j true = true := by
        intro j hj
        cases hb : listed.getD j true with
        | true => rfl
        | false =>
          have : j ∈ (List.range n).filter fun j => !listed.getD j true := List.mem_filter.2 ⟨List.mem_range.2 hj, by rw [hb]; rfl⟩
          unfold todo at h0
          rw [List.eq_nil_of_length_eq_zero h0] at this
          cases this
      have hlist : listed = (List.replicate n true ++ List.replicate (l.length - n) false).toArray := by
        have hsz := I.inv.size
        apply Array.ext
        · simp at hsz ⊢; omega
        · intro j h1 h2
          by_cases hj : j < n
          · have := hall j hj
            simp [Array.getD, h1] at this
            simp [this, List.getElem_append_left, hj]
          · have := I.inv.tail j (by omega) (by rw [← hsz]; exact h1)
            simp [Array.getD, h1] at this
            simp only [this, List.getElem_toArray]
            rw [List.getElem_append_right (by simp; omega)]
            simp
      have ha : a = putAll a0 ((T.map (·.d)).map fun d => (d, a.tmps.getD d undef)) := by
        have hd : ∀ d ∈ T.map (·.d), d < a0.tmps.size := by
          intro d hd
          obtain ⟨t, ht, rfl⟩ := List.mem_map.1 hd
          exact (own t ht).2.1
        refine act_ext (by rw [putAll_defers]; exact I.defers) (by rw [putAll_size]; exact I.size) (fun k => ?_)
        rw [putAll_get (fun d => a.tmps.getD d undef) _ _ _ hd]
        by_cases h : k ∈ T.map (·.d)
        · rw [if_pos h]
        · rw [if_neg h]
          exact I.frame k (fun t ht e => h (List.mem_map.2 ⟨t, ht, e⟩))
      have hfin := hend (fun d => a.tmps.getD d undef) w I.bel (fun k u hu => by
        have hu' := List.mem_of_getElem? hu
        have h1 := I.facts u hu' (by
          have := hall u.i (own u hu').1
          rcases Nat.lt_or_ge u.i listed.size with h' | h'
          · simp [h'] at this ⊢; exact this
          · have := I.inv.size; have := (own u hu').1; omega)
        unfold HOp.fact at h1
        have e : (u.s.map fun k => if k ∈ T.map (·.d) then a.tmps.getD k undef else a0.tmps.getD k undef) = u.s.map fun k => a.tmps.getD k undef := by
          apply List.map_congr_left
          intro k _
          by_cases h : k ∈ T.map (·.d)
          · rw [if_pos h]
          · rw [if_neg h]
            exact (I.frame k (fun t ht e => h (List.mem_map.2 ⟨t, ht, e⟩))).symm
        rw [e]
        exact h1)
      rw [← ha] at hfin
      rw [Nat.zero_add]
      have hseq' : Region.seqB .any l.toArray (l.drop n).length n listed = true := by rw [hlist, List.length_drop]; exact hseq
      have := wpAny_of_seq (md := .any) (Q' := Q) (l.drop n) n listed a w (fun j => by simp [List.getElem?_drop]) hseq' hfin
      rwa [List.length_drop] at this
    | succ f ih =>
      intro listed a w I hf
      have hex : ∃ j, j < n ∧ listed.getD j true = false := by
        cases hL : (List.range n).filter fun j => !listed.getD j true with
        | nil => unfold todo at hf; rw [hL] at hf; cases hf
        | cons j L =>
          have : j ∈ (List.range n).filter fun j => !listed.getD j true := by rw [hL]; exact List.mem_cons_self
          obtain ⟨h1, h2⟩ := List.mem_filter.1 this
          exact ⟨j, List.mem_range.1 h1, by simpa using h2⟩
      have hready : Region.ready .any l.toArray listed ≠ [] := by
        have hmin : ∀ m j, j ≤ m → j < n → listed.getD j true = false → ∃ i, i ∈ Region.ready .any l.toArray listed := by
          intro m
          induction m with
          | zero =>
            intro j hj hjn hjl
            have hj0 : j = 0 := by omega
            subst hj0
            obtain ⟨t, ht, hti⟩ := cover 0 hjn
            obtain ⟨_, _, o, ho, _, hb⟩ := own t ht
            rw [hti] at ho hb
            exact ⟨0, mem_ready.2 ⟨hjl, o, by simpa using ho, fun e he hbe => absurd (hb e he hbe) (by omega)⟩⟩
          | succ m ihm =>
            intro j hj hjn hjl
            obtain ⟨t, ht, hti⟩ := cover j hjn
            obtain ⟨_, _, o, ho, _, hb⟩ := own t ht
            rw [hti] at ho hb
            by_cases hall : ∀ e ∈ o.after, Region.binds .any e = true → listed.getD e.on false = true
            · exact ⟨j, mem_ready.2 ⟨hjl, o, by simpa using ho, hall⟩⟩
            · simp only [Classical.not_forall] at hall
              obtain ⟨e, he, hbe, hne⟩ := hall
              have hlt := hb e he hbe
              have hes : e.on < listed.size := by rw [I.inv.size]; simp; omega
              exact ihm e.on (by omega) (by omega) (getD_in hes (by simpa using hne))
        obtain ⟨j, hj, hjl⟩ := hex
        obtain ⟨i, hi⟩ := hmin j j (Nat.le_refl _) hj hjl
        intro h
        rw [h] at hi
        cases hi
      rw [show f + 1 + (l.length - n) = (f + (l.length - n)) + 1 by omega]
      refine ⟨fun h => absurd h hready, fun i hi => ?_⟩
      have hin : i < n := by
        rcases Nat.lt_or_ge i n with h | h
        · exact h
        · obtain ⟨j, hj, hjl⟩ := hex
          exact absurd hi (tail_waits hs hc hn' I.inv _ j rfl hj hjl i h)
      obtain ⟨t, ht, hti⟩ := cover i hin
      obtain ⟨_, htd, o, ho, hdst, _⟩ := own t ht
      obtain ⟨hil, oi, hoi, hafter⟩ := mem_ready.1 hi
      have hoo : oi = o := by rw [hti] at ho; exact Option.some.inj (hoi.symm.trans (by simpa using ho))
      subst hoo
      have H := hop.mem t ht oi ho a w I.bel (fun k hk => I.frame k (fun u hu e => by
          have : (T.map (·.d)).contains k = true := by simpa using ⟨u, hu, e⟩
          rw [this] at hk; cases hk)) (fun k u hu hw => by
        have hu' := List.mem_of_getElem? hu
        obtain ⟨oj, hoj, e, he, hb, hon⟩ := Region.waitsFor_spec hw
        have : oj = oi := by rw [hti] at hoj; exact Option.some.inj (hoj.symm.trans hoi)
        subst this
        have h1 := hafter e he hb
        rw [hon] at h1
        exact I.facts u hu' h1)
      have step : ∀ (a' : Act) (w' : World), OneDone t.d a w (fun v w' => t.p (t.s.map fun k => if t.d = k then v else a.tmps.getD k undef) w') .normal a' w' → wpAny P .any l.toArray Q (f + (l.length - n)) (listed.setIfInBounds i true) a' w' := by
        intro a' w' h
        obtain ⟨_, v, rfl, hbel, hp⟩ := h
        refine ih _ _ _ ⟨I.inv.set hi hin, I.defers, ?_, ?_, ?_, ?_⟩ ?_
        · rw [← I.size]; simp [Act.put]
        · intro k hk
          rw [put_get, if_neg (fun h => hk t ht h.1)]
          exact I.frame k hk
        · exact I.bel.trans (hbel.mono I.bel.size)
        · intro u hu hul
          by_cases hui : t.i = u.i
          · have hd : u.d = t.d ∨ True := .inr trivial
            unfold HOp.fact
            by_cases hut : u = t
            · subst hut
              have e : (u.s.map fun k => (a.put (some u.d) v).tmps.getD k undef) = u.s.map fun k => if u.d = k then v else a.tmps.getD k undef := by
                apply List.map_congr_left
                intro k _
                rw [put_get, I.size]
                by_cases hk : u.d = k
                · rw [if_pos ⟨hk, htd⟩, if_pos hk]
                · rw [if_neg (fun h => hk h.1), if_neg hk]
              rw [e]
              exact hp
            · exact absurd (hnodup t ht u hu hui).symm hut
          · unfold HOp.fact
            have hul2 : listed.getD u.i false = true := by rw [← getD_set_ne false (i := i) (j := u.i) (by rw [← hti]; exact hui)]; exact hul
            have h1 := hmono.mem u hu _ _ _ hbel (I.facts u hu hul2)
            have hnot : t.d ∉ u.s := by
              intro hin2
              have hw := (pair t ht u hu hui).2 hin2
              obtain ⟨ou, hou, e, he, hb, hon⟩ := Region.waitsFor_spec hw
              have := I.inv.closed u.i ou hou hul2 e he hb
              rw [hon, hti, getD_both hil] at this
              cases this
            have e : (u.s.map fun k => (a.put (some t.d) v).tmps.getD k undef) = u.s.map fun k => a.tmps.getD k undef := by
              apply List.map_congr_left
              intro k hk
              rw [put_get, if_neg (fun (h : t.d = k ∧ t.d < a.tmps.size) => hnot (by rw [h.1]; exact hk))]
            rw [e]
            exact h1
        · have := todo_set hin hil; omega
      unfold wpList at H
      unfold wpOp
      rw [hoi]
      simp only
      by_cases hwant : Region.wanted oi (yielded l.toArray a.tmps) = true
      · rw [if_pos hwant] at H
        rw [if_pos hwant]
        left
        rcases H with H | ⟨_, a1, w1, h1, _⟩
        · exact wp_both (fun a' w' h => step a' w' h) (fun e a' w' he h => absurd h.1 he) H
        · cases h1
      · rw [if_neg hwant] at H
        rw [if_neg hwant]
        exact step _ _ H
  refine wp_region_any hm ?_
  have inv0 : HeadInv .any l.toArray n (Array.replicate l.toArray.size false) :=
    ⟨by simp, fun j oj _ hl => (by rw [getD_replicate_false] at hl; cases hl), fun t _ ht => getD_in (by simpa using ht) (getD_replicate_false _ _)⟩
  have I0 : FreeInv l n T a0 w0 (Array.replicate l.toArray.size false) a0 { w0 with drawn := w0.drawn + 1 } :=
    ⟨inv0, rfl, rfl, fun _ _ => rfl, Still.below 1, fun t _ hl => (by rw [getD_replicate_false] at hl; cases hl)⟩
  have ht0 : todo (Array.replicate l.toArray.size false) n = n := by
    unfold todo
    rw [List.filter_eq_self.2 (fun j hj => by
      have hj' := List.mem_range.1 hj
      have : (Array.replicate l.toArray.size false).getD j true = false := getD_in (by simp; omega) (getD_replicate_false _ _)
      rw [this]; rfl), List.length_range]
  have := key n _ _ _ I0 ht0
  rwa [show n + (l.length - n) = l.toArray.size by simp; omega] at this
end
end Go.Dx
end

/- the text Hash14 -/
section
namespace Go.Proofs.YtblgmjnkllkhbaaDoor
open Go.RowKit Go.Dx

def tagB (t : Int) : UInt8 := UInt8.ofNat (t % 256).toNat
theorem tagB_int (t : Int) : t % 256 = ((tagB t).toNat : Int) := by
  unfold tagB
  rw [UInt8.toNat_ofNat']
  omega
/-- the input of a digest -/
def inputL (t : Int) (ps : List ByteArray) : List UInt8 := tagB t :: ps.flatMap fun s => encBytes s.data.toList
theorem input_next {t : Int} {ps : List ByteArray} {k : Nat} {s : ByteArray} (h : ps[k]? = some s) : inputL t (ps.take (k + 1)) = inputL t (ps.take k) ++ encBytes s.data.toList := by
  unfold inputL
  rw [take_next h, List.flatMap_append]
  simp
theorem input_len {t : Int} {ps : List ByteArray} (h : ∀ s ∈ ps, s.size ≤ 10000) : (inputL t ps).length ≤ 1 + 10009 * ps.length := by
  unfold inputL
  rw [List.length_cons]
  induction ps with
  | nil => simp
  | cons x l ih =>
    have h1 := h x List.mem_cons_self
    have h2 := encInt_le (x.data.toList.length : Int)
    have h3 : x.data.toList.length = x.size := Array.length_toList
    have h4 := ih fun y hy => h y (List.mem_cons_of_mem _ hy)
    rw [List.flatMap_cons, List.length_append, List.length_cons]
    unfold encBytes at *
    rw [List.length_append]
    omega
theorem size_dig'  : (Tryd.prog.info? 23).map (·.size) = some 16 := by kernel_rfl
theorem isAgg_dig : IsAgg Tryd.prog 23 := .inl ⟨_, _, Tryd.underlying23⟩
def zero16 : List UInt8 := List.replicate 16 0
theorem zero_16 (W : World) : (zeroValue 23).run Tryd.prog W = .ok (.agg (zero16.map B8).toArray) W := by kernel_rfl
set_option maxRecDepth 100000 in
set_option maxHeartbeats 2000000 in
theorem of_any (t : Int) (ps : List ByteArray) (hn : ps.length ≤ 1000) (hsz : ∀ s ∈ ps, s.size ≤ 10000) {a : Option Addr} {n c : Nat} {w : World} (hL : Laid w) (hs : Sl w 1 a n c (ps.map Value.string)) :
    Calls Tryd.prog 34 #[.int .i64 t, .slice a n c] w fun e w' => e = .returned (.agg (((sha (inputL t ps)).take 16).map B8).toArray) ∧ Below w.heap.size w w' := by
  obtain rfl := hs.n_eq
  have h16 := zero_16
  obtain ⟨Z, hZ⟩ : ∃ Z, Hid (zero16.map B8 = Z) := ⟨_, rfl⟩
  rw [hZ.out] at h16
  go_enter Tryd.func34, Tryd.ntmps34
  go_wp2_with fail
  have x4 : Box (w.alloc (.cells Z.toArray 23)) w.heap.size 23 Z := Box.new w _ _
  have b1 : Below w.heap.size w (w.alloc (.cells Z.toArray 23)) := (Below.refl _ _).alloc (Nat.le_refl _) _
  have hL1 := hL.below b1
  have hs1 := hs.below b1
  have x4w1 := hide x4.lt
  have hL0w := hL
  have hs0w := hs
  clear hL hs h16
  generalize w.alloc (.cells Z.toArray 23) = w1 at *
  refine wp_region_free 7 [⟨0, 9, [9], fun vs _ => vs = [SV []]⟩, ⟨1, 10, [10], fun vs _ => vs = [.int .i64 t]⟩, ⟨2, 11, [11], fun vs _ => vs = [B8 (tagB t)]⟩,
    ⟨3, 12, [12], fun vs w => ∃ g, vs = [.slice (some ⟨g, 0, none⟩) 1 1] ∧ Box w g 5 [B8 (tagB t)]⟩, ⟨4, 13, [13], fun vs _ => vs = [.string ⟨#[tagB t]⟩]⟩, ⟨5, 14, [14], fun vs _ => vs = [SV [tagB t]]⟩,
    ⟨6, 5, [5], fun vs w => ∃ g S, vs = [.pointer (some ⟨g, 0, none⟩)] ∧ Box w g 85 S ∧ S.length = 73 ∧ w1.heap.size ≤ g⟩] (by kernel_rfl) (by kernel_rfl) ?_ ?_ ?_
  · simp only [All]
    refine ⟨fun _ _ _ _ h => h, fun _ _ _ _ h => h, fun _ _ _ _ h => h, ?_, fun _ _ _ _ h => h, fun _ _ _ _ h => h, ?_, trivial⟩
    · rintro vs w2 w3 hb ⟨g, h1, h2⟩
      exact ⟨g, h1, h2.under hb⟩
    · rintro vs w2 w3 hb ⟨g, S, h1, h2, h3⟩
      exact ⟨g, S, h1, h2.under hb, h3⟩
  · simp only [All]
    refine ⟨?_, ?_, ?_, ?_, ?_, ?_, ?_, trivial⟩
    · intro o ho a' w' hb hfr hdep
      obtain rfl := Option.some.inj ho
      clear ho hfr hdep
      go_wp2_with (go_at_call 52; refine (Begin_at _).mono ?_; rintro e w2 ⟨rfl, h2⟩)
      exact ⟨rfl, _, rfl, h2, rfl⟩
    · intro o ho a' w' hb hfr hdep
      obtain rfl := Option.some.inj ho
      have g0 : a'.tmps[0]?.getD undef = .int .i64 t := by have h := hfr 0 (by kernel_rfl); simpa using h
      clear ho hfr hdep
      go_wp2_with fail
      exact ⟨rfl, _, rfl, Below.refl _ _, rfl⟩
    · intro o ho a' w' hb hfr hdep
      obtain rfl := Option.some.inj ho
      have g0 : a'.tmps[10]?.getD undef = .int .i64 t := by have h := hdep 1 _ rfl (by kernel_rfl); simpa using h
      clear ho hfr hdep
      go_wp2_with fail
      refine ⟨rfl, _, rfl, Below.refl _ _, ?_⟩
      show [Value.int .u8 (t % 256)] = [B8 (tagB t)]
      rw [tagB_int]
    · intro o ho a' w' hb hfr hdep
      obtain rfl := Option.some.inj ho
      have g0 : a'.tmps[11]?.getD undef = B8 (tagB t) := by have h := hdep 2 _ rfl (by kernel_rfl); simpa using h
      clear ho hfr hdep
      go_wp2_with fail
      refine ⟨rfl, _, rfl, (Below.refl _ _).alloc (Nat.le_refl _) _, _, rfl, Box.new _ _ _⟩
    · intro o ho a' w' hb hfr hdep
      obtain rfl := Option.some.inj ho
      obtain ⟨g, g0, x0⟩ := hdep 3 _ rfl (by kernel_rfl)
      have g0 : a'.tmps[12]?.getD undef = .slice (some ⟨g, 0, none⟩) 1 1 := by simpa using g0
      clear ho hfr hdep
      refine to_str 13 _ _ _ _ [tagB t] (by simpa [Act.eval] using g0) (x0.sl 0 1 1 1 _ rfl (Nat.le_refl _) (by decide) (fun j u h => by rw [Nat.zero_add]; exact h)) ?_
      exact ⟨rfl, _, rfl, Below.refl _ _, rfl⟩
    · intro o ho a' w' hb hfr hdep
      obtain rfl := Option.some.inj ho
      have g0 : a'.tmps[9]?.getD undef = SV [] := by have h := hdep 0 _ rfl (by kernel_rfl); simpa using h
      have g1 : a'.tmps[13]?.getD undef = .string ⟨#[tagB t]⟩ := by have h := hdep 4 _ rfl (by kernel_rfl); simpa using h
      clear ho hfr hdep
      go_wp2_with fail
      refine (add_at (m := []) (r := [tagB t]) rfl (by simp) _ (hL1.below hb)).mono ?_
      rintro e w2 ⟨rfl, h2⟩
      go_wp2_with fail
      exact ⟨rfl, _, rfl, h2, rfl⟩
    · intro o ho a' w' hb hfr hdep
      obtain rfl := Option.some.inj ho
      have h3 := zero_strm
      have k2 : (strm Z0 (List.replicate 64 0) 0).length = 73 := strm_length _ (by simp) _
      generalize strm Z0 (List.replicate 64 0) 0 = S at *
      have k2 := hide k2
      clear ho hfr hdep
      go_wp2_with fail
      exact ⟨rfl, _, rfl, (Below.refl _ _).alloc (Nat.le_refl _) _, _, S, rfl, Box.new _ _ _, k2.out, hb.size⟩
  · intro g w2 hb hp
    have p5 := hp 5 _ rfl
    obtain ⟨g5, S, p6, x5, hS, hg⟩ := hp 6 _ rfl
    clear hp
    simp at p5 p6
    simp only [List.map_cons, List.map_nil, putAll, Act.put, List.setIfInBounds_toArray, List.set_cons_succ, List.set_cons_zero, p5, p6]
    have hzs : (Tryd.prog.info? 85).map (·.size) = some (SC [tagB t]).length := by rw [SC_len]; exact size_strm
    refine store_all 85 _ _ 85 g5 S (SC [tagB t]) (.agg (SC [tagB t]).toArray) hzs x5 (by rfl) (by rfl) rfl (by rw [SC_len, hS]) (strm_one _ _ _) ?_
    intro w3 x5 hg3 hs3
    have x4 := (x4.below hb x4.lt).grown hg3 (by simp; have := x4.lt; omega)
    have b3 : Below w.heap.size w w3 := (b1.trans (hb.mono b1.size)).grown hg3 (by have := b1.size; have := hb.size; omega) (fun k hk => by cases hk; have := b1.size; omega)
    have hB5 : w.heap.size < g5 := by have := x4w1.out; omega
    have hS3 : Below w1.heap.size w1 w3 := hb.grown hg3 hb.size (fun k hk => by cases hk; exact hg)
    have hs3' := hs1.below hS3
    have hL3 := hL1.below hS3
    clear hs1 hL1 b1 hb hS3 hg hs3 p5 p6 hzs hg3
    have hB5 : w.heap.size < g5 := hB5
    have hL0 := hide hL0w
    have hs0 := hide hs0w
    obtain ⟨B, hB⟩ : ∃ B, B = w.heap.size := ⟨_, rfl⟩
    rw [← hB] at x4 b3 hB5 ⊢
    have HB := hide hB
    have hsz := hide hsz
    clear hB
    have hc1 := Nat.le_trans hs3'.le hs3'.cap
    unfold maxLen at hc1
    go_wp2_with fail
    go_loopg [17] ps.length (fun g i w' => ∃ k : Nat, k ≤ ps.length ∧ g = ps.length - k ∧ i = .int .i64 k ∧ Box w' g5 85 (SC (inputL t (ps.take k))) ∧ Box w' B 23 Z ∧ Sl w' 1 a ps.length c (ps.map Value.string) ∧ Laid w' ∧ Below B w w')
    case atStart => exact ⟨0, by omega, by omega, rfl, x5, x4, hs3', hL3, b3⟩
    case round =>
      clear x5 x4 hs3' hL3 b3
      obtain ⟨k, hk, hg, rfl, x5, x4, hs3, hL3, b3⟩ := hrel
      have HG := hide hg
      clear hg
      by_cases hlt : k < ps.length
      · obtain ⟨b, o, rfl, hb, hc⟩ := hs3.ex (by simp; omega)
        obtain ⟨s, hs⟩ : ∃ s, ps[k]? = some s := ⟨ps[k], by simp [hlt]⟩
        have hs1 : wr.cell? ⟨b, o + k, none⟩ = some (Value.string s) := hc k _ (by rw [List.getElem?_map, hs]; rfl)
        have hss := hsz.out s (List.mem_of_getElem? hs)
        have hnext := hide (input_next (t := t) hs)
        have hlen := input_len (t := t) (ps := ps.take (k + 1)) (fun s h => hsz.out s (List.mem_of_mem_take h))
        have hlen2 : (ps.take (k + 1)).length ≤ k + 1 := List.length_take_le _ _
        obtain ⟨C, hC⟩ : ∃ C, Hid (inputL t (ps.take k) = C) := ⟨_, rfl⟩
        obtain ⟨D, hD⟩ : ∃ D, Hid (inputL t (ps.take (k + 1)) = D) := ⟨_, rfl⟩
        obtain ⟨E, hE⟩ : ∃ E, Hid (encBytes s.data.toList = E) := ⟨_, rfl⟩
        rw [hC.out] at x5
        rw [hD.out] at hlen
        have hcat : C ++ E = D := by rw [← hC.out, ← hD.out, ← hE.out]; exact hnext.out.symm
        have hcat := hide hcat
        have hDl : D.length ≤ 1000000000 := by omega
        clear hc hs hlen hlen2
        go_wp2_with fail
        refine wp_region_free 5 [⟨0, 21, [21], fun vs _ => vs = [SV C]⟩, ⟨1, 22, [22], fun vs _ => vs = [.string s]⟩, ⟨2, 23, [23], fun vs w => ∃ a c, vs = [.slice a E.length c] ∧ Sl w 1 a E.length c (E.map B8)⟩,
          ⟨3, 24, [24], fun vs _ => vs = [.string ⟨E.toArray⟩]⟩, ⟨4, 25, [25], fun vs _ => vs = [SV D]⟩] (by kernel_rfl) (by kernel_rfl) ?_ ?_ ?_
        · simp only [All]
          refine ⟨fun _ _ _ _ h => h, fun _ _ _ _ h => h, ?_, fun _ _ _ _ h => h, fun _ _ _ _ h => h, trivial⟩
          rintro vs w2 w3 hb ⟨a, c, h1, h2⟩
          exact ⟨a, c, h1, h2.below hb⟩
        · simp only [All]
          refine ⟨?_, ?_, ?_, ?_, ?_, trivial⟩
          · intro o ho a' w' hb hfr hdep
            obtain rfl := Option.some.inj ho
            have g0 : a'.tmps[5]?.getD undef = .pointer (some ⟨g5, 0, none⟩) := by have h := hfr 5 (by kernel_rfl); simpa using h
            have hzs : (Tryd.prog.info? 85).map (·.size) = some (SC C).length := by rw [SC_len]; exact size_strm
            refine load_box 21 85 _ 85 g5 0 (SC C) (SC C) isAgg_strm hzs (x5.under hb) (by simpa [Act.eval] using g0) (fun j u hj => by rw [Nat.zero_add]; exact hj) ?_
            exact ⟨rfl, _, rfl, Below.refl _ _, rfl⟩
          · intro o ho a' w' hb hfr hdep
            obtain rfl := Option.some.inj ho
            have g0 : a'.tmps[7]?.getD undef = .string s := by have h := hfr 7 (by kernel_rfl); simpa using h
            clear ho hfr hdep
            go_wp2_with fail
            exact ⟨rfl, _, rfl, Below.refl _ _, rfl⟩
          · intro o ho a' w' hb hfr hdep
            obtain rfl := Option.some.inj ho
            have g0 : a'.tmps[22]?.getD undef = .string s := by have h := hdep 1 _ rfl (by kernel_rfl); simpa using h
            clear ho hfr hdep
            have hW := wire_Bytes s (by omega) w'
            rw [hE.out] at hW
            have hW := hide hW
            go_wp2_with fail
            refine hW.out.mono ?_
            rintro e w2 ⟨a2, c2, rfl, o2, h2⟩
            go_wp2_with fail
            exact ⟨rfl, _, rfl, h2, _, _, rfl, o2.sl⟩
          · intro o ho a' w' hb hfr hdep
            obtain rfl := Option.some.inj ho
            obtain ⟨a2, c2, g0, s0⟩ := hdep 2 _ rfl (by kernel_rfl)
            have g0 : a'.tmps[23]?.getD undef = .slice a2 E.length c2 := by simpa using g0
            clear ho hfr hdep
            refine to_str 24 _ _ _ _ E (by simpa [Act.eval] using g0) s0 ?_
            exact ⟨rfl, _, rfl, Below.refl _ _, rfl⟩
          · intro o ho a' w' hb hfr hdep
            obtain rfl := Option.some.inj ho
            have g0 : a'.tmps[21]?.getD undef = SV C := by have h := hdep 0 _ rfl (by kernel_rfl); simpa using h
            have g1 : a'.tmps[24]?.getD undef = .string ⟨E.toArray⟩ := by have h := hdep 3 _ rfl (by kernel_rfl); simpa using h
            clear ho hfr hdep
            go_wp2_with fail
            refine (add_at (m := C) (r := D) hcat.out hDl _ (hL3.below hb)).mono ?_
            rintro e w2 ⟨rfl, h2⟩
            go_wp2_with fail
            exact ⟨rfl, _, rfl, h2, rfl⟩
        · intro g w2 hb hp
          have p5 := hp 4 _ rfl
          clear hp
          simp at p5
          simp only [List.map_cons, List.map_nil, putAll, Act.put, List.setIfInBounds_toArray, List.set_cons_succ, List.set_cons_zero, p5]
          have hzs : (Tryd.prog.info? 85).map (·.size) = some (SC D).length := by rw [SC_len]; exact size_strm
          refine store_all 85 _ _ 85 g5 (SC C) (SC D) (.agg (SC D).toArray) hzs (x5.under hb) (by rfl) (by rfl) rfl (by rw [SC_len, SC_len]) (strm_one _ _ _) ?_
          intro w3 x6 hg6 hs6
          have hlt5 := x5.lt
          have hb6 : Below (B + 1) wr w3 := (hb.mono (by omega)).grown hg6 (by have := hb.size; omega) (fun k hk => by cases hk; omega)
          have x4 := ((x4.under hb).grown hg6 (by simp; omega))
          have hL6 := hL0.out.mono (b3.trans (hb6.mono (by omega))) (Nat.le_of_eq HB.out.symm)
          have hs6' := hs0.out.below ((b3.trans (hb6.mono (by omega))).mono (Nat.le_of_eq HB.out.symm))
          have b6 := b3.trans (hb6.mono (by omega))
          clear p5 hb hg6 hb6 hs6 hlt5
          go_wp2_with fail
          go_roundg (ps.length - (k + 1))
          case measure => have := HG.out; omega
          case rel => exact ⟨k + 1, by omega, rfl, by go_num, by rw [hD.out]; exact x6, x4, hs6', hL6, b6⟩
      · obtain rfl : k = ps.length := by omega
        rw [List.take_length] at x5
        have hlen := input_len (t := t) hsz.out
        obtain ⟨C, hC⟩ : ∃ C, Hid (inputL t ps = C) := ⟨_, rfl⟩
        rw [hC.out] at x5 hlen
        obtain ⟨R, hR⟩ : ∃ R, Hid ((sha C).map B8 = R) := ⟨_, rfl⟩
        have hRl : R.length = 32 := by rw [← hR.out, List.length_map, sha_len]
        have hR1 : ∀ u ∈ R, u.oneCell' = true := by rw [← hR.out]; exact one_map _ (fun _ => rfl) _
        have hR1 := hide hR1
        have hzR : (Tryd.prog.info? 89).map (·.size) = some R.length := by rw [hRl]; exact size_32
        have hzT : (Tryd.prog.info? 23).map (·.size) = some (R.take 16).length := by rw [List.length_take, hRl]; exact size_dig'
        have hTl : (R.take 16).length = 16 := by rw [List.length_take, hRl]; rfl
        have hZl : Z.length = 16 := by rw [← hZ.out]; rfl
        have hRl := hide hRl
        have hTl := hide hTl
        have hzR := hide hzR
        have hzT := hide hzT
        have hZl := hide hZl
        have hzs : (Tryd.prog.info? 85).map (·.size) = some (SC C).length := by rw [SC_len]; exact size_strm
        have hzs := hide hzs
        have hCl : C.length ≤ 500000000 := by omega
        have h32 := zero_32
        obtain ⟨Y, hY⟩ : ∃ Y, Hid (zero32.map B8 = Y) := ⟨_, rfl⟩
        rw [hY.out] at h32
        have hYl : Y.length = 32 := by rw [← hY.out, zero32_len]
        have hYl := hide hYl
        clear hlen hs3
        go_wp2_with (with_reducible refine load_box 27 85 _ 85 g5 0 (SC C) (SC C) isAgg_strm hzs.out x5 rfl (fun j u hj => by rw [Nat.zero_add]; exact hj) ?_)
        refine (ssum_any C hCl _ hL3).mono ?_
        rintro e w2 ⟨rfl, h2⟩
        rw [hR.out]
        have x4 := x4.under h2
        have b2 := b3.trans (h2.mono (by have := x5.lt; omega))
        clear h2 b3 hL3
        go_wp2_with (with_reducible refine hold_store ?_)
        refine hide ?_
        have hG : B < w2.heap.size := x4.lt
        refine store_all 89 _ _ 89 w2.heap.size Y R (.agg R.toArray) hzR.out (Box.new w2 _ _) (by rfl) (by rfl) rfl (by rw [hRl.out, hYl.out]) hR1.out ?_
        intro w3 x8 hg3 hs3
        have x4 := (x4.alloc (.cells Y.toArray 89)).grown hg3 (by simp; omega)
        have b3 := (b2.alloc (Nat.le_of_lt hG) (.cells Y.toArray 89)).grown hg3 (by simp; omega) (fun k hk => by cases hk; omega)
        generalize w2.heap.size = G at *
        have ha : ∀ W : World, (Instr.arrayAt 23 (.slice (some ⟨G, 0, none⟩) 16 32)).run Tryd.prog W = .ok (.pointer (some ⟨G, 0, none⟩)) W := fun W => by simp [Instr.arrayAt, run_underlying Tryd.underlying23]
        clear hg3 hs3 b2 h32
        go_wp2_with (first
          | (with_reducible refine cut_var 29 89 5 32 _ _ _ Tryd.underlying89 size_u8 G 0 rfl 0 16 (.inl ⟨rfl, rfl⟩) (.inr ⟨_, rfl⟩) (by omega) (by omega) (by omega) ?_)
          | (with_reducible refine load_box 31 23 _ 89 G 0 R (R.take 16) isAgg_dig hzT.out x8 rfl (fun j u hj => by rw [Nat.zero_add]; rw [List.getElem?_take] at hj; split at hj; exact hj; cases hj) ?_)
          | (with_reducible refine hold_store ?_))
        refine hide ?_
        refine store_all 23 _ _ 23 B Z (R.take 16) (.agg (R.take 16).toArray) hzT.out x4 (by rfl) (by rfl) rfl (by rw [hTl.out, hZl.out]) (fun u hu => hR1.out u (List.mem_of_mem_take hu)) ?_
        intro w4 x9 hg4 hs4
        go_wp2_with fail
        refine bodyPost_ret (run_results_cell rfl rfl isAgg_dig hzT.out x9) rfl ⟨?_, ?_⟩
        · rw [List.map_take, hC.out, hR.out]
        · rw [← HB.out]
          exact b3.grown hg4 (Nat.le_of_lt x4.lt) (fun k hk => by cases hk; omega)
end Go.Proofs.YtblgmjnkllkhbaaDoor
end

/- the text Hash15 -/
section
namespace Go.Proofs.YtblgmjnkllkhbaaDoor
open Go.RowKit Go.Dx

/-- the first k bytes, and zeros up to n -/
def fillA (ys : List UInt8) (n k : Nat) : List UInt8 := ys.take k ++ List.replicate (n - k) 0
theorem fill_len {ys : List UInt8} {n k : Nat} (h : n ≤ ys.length) (hk : k ≤ n) : (fillA ys n k).length = n := by unfold fillA; rw [List.length_append, List.length_take, List.length_replicate]; omega
theorem fill_get {ys : List UInt8} {n k : Nat} (h : n ≤ ys.length) (hk : k < n) : (fillA ys n k)[k]? = some 0 := by
  unfold fillA
  rw [List.getElem?_append_right (by rw [List.length_take]; omega), List.length_take, List.getElem?_replicate, if_pos (by omega)]
theorem fill_set {ys : List UInt8} {n k : Nat} (h : n ≤ ys.length) (hk : k < n) {x : UInt8} (hx : ys[k]? = some x) : ((fillA ys n k).map B8).set k (B8 x) = (fillA ys n (k + 1)).map B8 := by
  obtain ⟨d, hd⟩ : ∃ d, n - k = d + 1 := ⟨n - k - 1, by omega⟩
  have hl : (ys.take k).length = k := by rw [List.length_take]; omega
  unfold fillA
  rw [← List.map_set, hd, List.set_append_right _ _ (by omega), hl, Nat.sub_self, List.replicate_succ, List.set_cons_zero, take_next hx, show n - (k + 1) = d by omega, List.append_assoc]
  rfl
theorem fill_all {ys : List UInt8} {n : Nat} : fillA ys n n = ys.take n := by unfold fillA; rw [Nat.sub_self, List.replicate_zero, List.append_nil]
theorem build_z16 (W : World) : (Instr.build 23 #[]).run Tryd.prog W = .ok (.agg (zero16.map B8).toArray) W := by kernel_rfl

/-- the strings of a list, joined -/
def joined (l : List ByteArray) : ByteArray := l.foldl (· ++ ·) ⟨#[]⟩
theorem joined_next {l : List ByteArray} {k : Nat} {s : ByteArray} (h : l[k]? = some s) : joined (l.take (k + 1)) = joined (l.take k) ++ s := by
  unfold joined; rw [take_next h, List.foldl_append]; rfl
theorem joined_data (l : List ByteArray) : (joined l).data.toList = l.flatMap fun s => s.data.toList := by
  have h : ∀ (l : List ByteArray) (a : ByteArray), (l.foldl (· ++ ·) a).data.toList = a.data.toList ++ l.flatMap fun s => s.data.toList := by
    intro l
    induction l with
    | nil => intro a; simp
    | cons x l ih => intro a; rw [List.foldl_cons, ih, List.flatMap_cons]; simp [List.append_assoc]
  have := h l ⟨#[]⟩
  unfold joined
  rw [this]
  rfl
theorem joined_size {l : List ByteArray} (h : ∀ s ∈ l, s.size ≤ 10000) : (joined l).size ≤ 10000 * l.length := by
  have e : (joined l).size = (joined l).data.toList.length := Array.length_toList.symm
  rw [e, joined_data]
  clear e
  induction l with
  | nil => simp
  | cons x l ih =>
    have h1 := h x List.mem_cons_self
    have h3 : x.data.toList.length = x.size := Array.length_toList
    have h4 := ih fun y hy => h y (List.mem_cons_of_mem _ hy)
    rw [List.flatMap_cons, List.length_append, List.length_cons]
    omega
set_option maxRecDepth 100000 in
set_option maxHeartbeats 1000000 in
theorem input_any (t : Int) (ps : List ByteArray) (hn : ps.length ≤ 1000) (hsz : ∀ s ∈ ps, s.size ≤ 10000) {a : Option Addr} {n c : Nat} {w : World} (hs : Sl w 1 a n c (ps.map Value.string)) :
    Calls Tryd.prog 57 #[.int .i64 t, .slice a n c] w (Gives 5 1 (inputL t ps).length ((inputL t ps).map B8) w) := by
  obtain rfl := hs.n_eq
  have htb := tagB_int t
  have hsz := hide hsz
  go_enter Tryd.func57, Tryd.ntmps57
  go_wp2_with fail
  clear htb
  have oP := Own.built w w.heap.size 5 1 1 #[.int .u8 ((tagB t).toNat : Int)] (Nat.le_refl _) rfl (by decide)
  have b1 : Below w.heap.size w (w.alloc (.cells #[.int .u8 ((tagB t).toNat : Int)] 5)) := (Below.refl _ _).alloc (Nat.le_refl _) _
  have hs1 := hs.below b1
  generalize w.alloc (.cells #[.int .u8 ((tagB t).toNat : Int)] 5) = w1 at *
  go_loopg [5, 6] ps.length (fun g o i w' => ∃ (k : Nat) (a2 : Option Addr) (c2 : Nat), k ≤ ps.length ∧ g = ps.length - k ∧ i = .int .i64 k ∧ o = .slice a2 (inputL t (ps.take k)).length c2 ∧ Own w' w.heap.size 5 1 a2 (inputL t (ps.take k)).length c2 ((inputL t (ps.take k)).map B8) ∧ Below w.heap.size w w')
  case atStart => exact ⟨0, _, 1, by omega, by omega, rfl, rfl, oP, b1⟩
  case round =>
    clear oP b1 hs1
    obtain ⟨k, a2, c2, hk, hg, rfl, rfl, oP, hb⟩ := hrel
    have HG := hide hg
    clear hg
    by_cases hlt : k < ps.length
    · have hs2 := hs.below hb
      obtain ⟨b, o, rfl, hb2, hc⟩ := hs2.ex (by simp; omega)
      obtain ⟨s, hss⟩ : ∃ s, ps[k]? = some s := ⟨ps[k], by simp [hlt]⟩
      have hs3 : wr.cell? ⟨b, o + k, none⟩ = some (Value.string s) := hc k _ (by rw [List.getElem?_map, hss]; rfl)
      have hsl := hsz.out s (List.mem_of_getElem? hss)
      have hlen := input_len (t := t) (ps := ps.take k) (fun s h => hsz.out s (List.mem_of_mem_take h))
      have hlen2 : (ps.take k).length ≤ k := List.length_take_le _ _
      have hel : (encBytes s.data.toList).length ≤ 20000 := by
        have h2 := encInt_le (s.data.toList.length : Int)
        have h3 : s.data.toList.length = s.size := Array.length_toList
        unfold encBytes; rw [List.length_append]; omega
      have hnext := hide (input_next (t := t) hss)
      obtain ⟨C, hC⟩ : ∃ C, Hid (inputL t (ps.take k) = C) := ⟨_, rfl⟩
      obtain ⟨E, hE⟩ : ∃ E, Hid (encBytes s.data.toList = E) := ⟨_, rfl⟩
      rw [hC.out] at oP hlen ⊢
      rw [hE.out] at hel
      have hR := ref_Bytes s (by omega)
      rw [hE.out] at hR
      have hR := hide hR
      clear hc hss hs2
      go_wp2_with fail
      refine (hR.out _).mono ?_
      rintro e w2 ⟨a3, c3, rfl, o3, h3⟩
      have oP := oP.below h3
      have hb3 := hb.trans (h3.mono hb.size)
      have o3 := o3.sl
      clear h3 hR
      go_wp2_with (at_builtin; refine app_bs (o := ⟨some 22, _, _, _, _, _⟩) rfl _ _ rfl w w.heap.size _ _ _ _ rfl oP _ _ _ E rfl o3 (by omega) hb3.size hb3 ?_; intro a4 c4 w4 o4 hg4 hb4)
      go_roundg (ps.length - (k + 1))
      case measure => have := HG.out; omega
      case rel =>
        have e : inputL t (ps.take (k + 1)) = C ++ E := by rw [hnext.out, hC.out, hE.out]
        refine ⟨k + 1, a4, c4, by omega, rfl, by go_num, by rw [e, List.length_append], ?_, hb4⟩
        rw [e, List.length_append, List.map_append]
        exact o4
    · obtain rfl : k = ps.length := by omega
      rw [List.take_length] at oP ⊢
      generalize inputL t ps = C at *
      go_wp2_with fail
      go_ret
      exact ⟨a2, c2, rfl, oP, hb⟩
set_option maxRecDepth 100000 in
set_option maxHeartbeats 2000000 in
theorem short_any (l : List UInt8) (hl : l.length ≤ 100000000) (a : Option Addr) (n c : Nat) (w : World) (hL : LaidR w) (hs : Sl w 1 a n c (l.map B8)) :
    Calls Tryd.prog 56 #[.slice a n c] w fun e w' => e = .returned (.agg (((sha l).take 16).map B8).toArray) ∧ Below w.heap.size w w' := by
  have h16 := zero_16
  have h32 := zero_32
  have hb16 := build_z16
  obtain ⟨Z, hZ⟩ : ∃ Z, Hid (zero16.map B8 = Z) := ⟨_, rfl⟩
  obtain ⟨Y, hY⟩ : ∃ Y, Hid (zero32.map B8 = Y) := ⟨_, rfl⟩
  rw [hZ.out] at h16 hb16
  rw [hY.out] at h32
  have hYl : Y.length = 32 := by rw [← hY.out, zero32_len]
  have hZl : Z.length = 16 := by rw [← hZ.out]; rfl
  have HYl := hide hYl
  have HZl := hide hZl
  clear hYl hZl
  obtain ⟨S, hS⟩ : ∃ S, Hid (sha l = S) := ⟨_, rfl⟩
  have hSl : S.length = 32 := by rw [← hS.out, sha_len]
  have HSl := hide hSl
  clear hSl
  go_enter Tryd.func56, Tryd.ntmps56
  go_wp2_with fail
  have x2 : Box (w.alloc (.cells Z.toArray 23)) w.heap.size 23 Z := Box.new w _ _
  have b1 : Below w.heap.size w (w.alloc (.cells Z.toArray 23)) := (Below.refl _ _).alloc (Nat.le_refl _) _
  refine (ref_Sum l hl a n c _ (hL.below b1) (hs.below b1)).mono ?_
  rintro e w2 ⟨rfl, h2⟩
  rw [hS.out]
  obtain ⟨B, hB⟩ : ∃ B, B = w.heap.size := ⟨_, rfl⟩
  have x2 := x2.under h2
  have b2 := b1.trans (h2.mono b1.size)
  rw [← hB] at x2 b2 ⊢
  have HB := hide hB
  clear hB h2 b1 hL hs
  have hzS : (Tryd.prog.info? 89).map (·.size) = some (S.map B8).length := by rw [List.length_map, HSl.out]; exact size_32
  have hzZ : (Tryd.prog.info? 23).map (·.size) = some Z.length := by rw [HZl.out]; exact size_dig'
  have HzS := hide hzS
  have HzZ := hide hzZ
  have hZ1 : ∀ u ∈ Z, u.oneCell' = true := by rw [← hZ.out]; exact one_map _ (fun _ => rfl) _
  have HZ1 := hide hZ1
  clear hzS hzZ hZ1
  go_wp2_with (with_reducible refine hold_store ?_)
  refine hide ?_
  refine store_all 89 _ _ 89 w2.heap.size Y (S.map B8) (.agg (S.map B8).toArray) HzS.out (Box.new w2 _ _) (by rfl) (by rfl) rfl (by rw [List.length_map, HSl.out, HYl.out]) (one_map _ (fun _ => rfl) _) ?_
  intro w3 x3 hg3 hs3
  have hG : B < w2.heap.size := x2.lt
  have x2 := (x2.alloc (.cells Y.toArray 89)).grown hg3 (by simp; omega)
  have b3 := (b2.alloc (Nat.le_of_lt hG) (.cells Y.toArray 89)).grown hg3 (by simp; omega) (fun k hk => by cases hk; omega)
  generalize w2.heap.size = G at *
  clear hg3 hs3 b2
  go_wp2_with (with_reducible refine hold_build ?_)
  refine hide ?_
  refine val_at rfl (.agg Z.toArray) (by simp [execOp, Act.eval, hb16]) ?_
  go_wp2_with (with_reducible refine hold_store ?_)
  refine hide ?_
  refine store_all 23 _ _ 23 w3.heap.size Z Z (.agg Z.toArray) HzZ.out (Box.new w3 _ _) (by rfl) (by rfl) rfl rfl HZ1.out ?_
  intro w4 x4 hg4 hs4
  have hG3 : G < w3.heap.size := x3.lt
  have x2 := (x2.alloc (.cells Z.toArray 23)).grown hg4 (by simp; omega)
  have x3 := (x3.alloc (.cells Z.toArray 23)).grown hg4 (by simp; omega)
  have b4 := (b3.alloc (by omega) (.cells Z.toArray 23)).grown hg4 (by simp; omega) (fun k hk => by cases hk; omega)
  generalize w3.heap.size = D at *
  clear hg4 hs4 b3 h16 h32 hb16
  have x4 : Box w4 D 23 ((fillA S 16 0).map B8) := by rw [← hZ.out] at x4; exact x4
  go_wp2_with fail
  go_loopg [5] 16 (fun g i w' => ∃ k : Nat, k ≤ 16 ∧ g = 16 - k ∧ i = .int .i64 k ∧ Box w' D 23 ((fillA S 16 k).map B8) ∧ Box w' G 89 (S.map B8) ∧ Box w' B 23 Z ∧ Below B w w')
  case atStart => exact ⟨0, by omega, by omega, rfl, x4, x3, x2, b4⟩
  case round =>
    clear x4 x3 x2 b4
    obtain ⟨k, hk, hg, rfl, x4, x3, x2, b4⟩ := hrel
    have HG := hide hg
    clear hg
    by_cases hlt : k < 16
    · obtain ⟨u, hu⟩ : ∃ u, S[k]? = some u := ⟨S[k]'(by rw [HSl.out]; omega), by simp⟩
      have q0 : wr.cell? ⟨G, k, none⟩ = some (B8 u) := x3.at_ (box_at hu)
      have q1 : wr.cell? ⟨D, k, none⟩ = some (B8 0) := x4.at_ (box_at (fill_get (by rw [HSl.out]; omega) hlt))
      have f1 := x4.free k
      have HU := hide hu
      clear hu
      go_wp2_with fail
      go_roundg (16 - (k + 1))
      case measure => have := HG.out; omega
      case rel =>
        refine ⟨k + 1, by omega, rfl, by go_num, ?_, x3.far (by simp; omega) _, x2.far (by simp; omega) _, b4.setCell (by simp; omega) _⟩
        have h := x4.put k (B8 u)
        rw [fill_set (by rw [HSl.out]; omega) hlt HU.out] at h
        exact h
    · obtain rfl : k = 16 := by omega
      rw [fill_all] at x4
      have hz16 : (Tryd.prog.info? 23).map (·.size) = some ((S.take 16).map B8).length := by rw [List.length_map, List.length_take, HSl.out]; exact size_dig'
      have Hz16 := hide hz16
      clear hz16
      go_wp2_with (first
        | (with_reducible refine load_box 18 23 _ 23 D 0 _ ((S.take 16).map B8) isAgg_dig Hz16.out x4 rfl (fun j u hj => by rw [Nat.zero_add]; exact hj) ?_)
        | (with_reducible refine hold_store ?_))
      refine hide ?_
      refine store_all 23 _ _ 23 B Z ((S.take 16).map B8) (.agg ((S.take 16).map B8).toArray) Hz16.out x2 (by rfl) (by rfl) rfl (by rw [List.length_map, List.length_take, HSl.out, HZl.out]; rfl) (one_map _ (fun _ => rfl) _) ?_
      intro w9 z2 hg9 hs9
      go_wp2_with fail
      exact bodyPost_ret (run_results_cell rfl rfl isAgg_dig Hz16.out z2) rfl ⟨by rw [hS.out], by rw [← HB.out]; exact b4.grown hg9 (Nat.le_of_lt x2.lt) (fun k hk => by cases hk; omega)⟩
set_option maxRecDepth 100000 in
set_option maxHeartbeats 2000000 in
theorem rof_any (t : Int) (ps : List ByteArray) (hn : ps.length ≤ 1000) (hsz : ∀ s ∈ ps, s.size ≤ 10000) {a : Option Addr} {n c : Nat} {w : World} (hL : LaidR w) (hs : Sl w 1 a n c (ps.map Value.string)) :
    Calls Tryd.prog 35 #[.int .i64 t, .slice a n c] w fun e w' => e = .returned (.agg (((sha (inputL t ps)).take 16).map B8).toArray) ∧ Below w.heap.size w w' := by
  have h16 := zero_16
  obtain ⟨Z, hZ⟩ : ∃ Z, Hid (zero16.map B8 = Z) := ⟨_, rfl⟩
  rw [hZ.out] at h16
  have hZl : Z.length = 16 := by rw [← hZ.out]; rfl
  have HZl := hide hZl
  have hlen := input_len (t := t) hsz
  obtain ⟨C, hC⟩ : ∃ C, Hid (inputL t ps = C) := ⟨_, rfl⟩
  have hI := hide fun (w' : World) (hs : Sl w' 1 a n c (ps.map Value.string)) => input_any t ps hn hsz hs
  rw [hC.out] at hlen hI ⊢
  have hCl : C.length ≤ 100000000 := by omega
  have hz16 : (Tryd.prog.info? 23).map (·.size) = some (((sha C).take 16).map B8).length := by rw [List.length_map, List.length_take, sha_len]; exact size_dig'
  have Hz16 := hide hz16
  clear hz16 hlen hsz hZl
  go_enter Tryd.func35, Tryd.ntmps35
  go_wp2_with fail
  have x2 : Box (w.alloc (.cells Z.toArray 23)) w.heap.size 23 Z := Box.new w _ _
  have b1 : Below w.heap.size w (w.alloc (.cells Z.toArray 23)) := (Below.refl _ _).alloc (Nat.le_refl _) _
  refine (hI.out _ (hs.below b1)).mono ?_
  rintro e w2 ⟨a2, c2, rfl, o2, h2⟩
  have x2 := x2.under h2
  have b2 := b1.trans (h2.mono b1.size)
  clear h2 b1
  go_wp2_with fail
  refine (short_any C hCl _ _ _ _ (hL.below b2) o2.sl).mono ?_
  rintro e w3 ⟨rfl, h3⟩
  have x2 := x2.under h3
  have b3 := b2.trans (h3.mono b2.size)
  clear h3 b2
  go_wp2_with (with_reducible refine hold_store ?_)
  refine hide ?_
  refine store_all 23 _ _ 23 w.heap.size Z (((sha C).take 16).map B8) (.agg (((sha C).take 16).map B8).toArray) Hz16.out x2 (by rfl) (by rfl) rfl (by rw [List.length_map, List.length_take, sha_len, HZl.out]; rfl) (one_map _ (fun _ => rfl) _) ?_
  intro w9 z2 hg9 hs9
  go_wp2_with fail
  exact bodyPost_ret (run_results_cell rfl rfl isAgg_dig Hz16.out z2) rfl ⟨rfl, b3.grown hg9 (Nat.le_of_lt x2.lt) (fun k hk => by cases hk; exact Nat.le_refl _)⟩
end Go.Proofs.YtblgmjnkllkhbaaDoor
end

/- the text Hash16 -/
section
namespace Go.Proofs.YtblgmjnkllkhbaaDoor
open Go.RowKit Go.Dx

/-- the key's bytes, at most 64 -/
def keyL (k : List UInt8) : List UInt8 := if 64 < k.length then sha k else k
theorem keyL_len (k : List UInt8) : (keyL k).length ≤ 64 := by
  unfold keyL
  split
  · rw [sha_len]; omega
  · omega
def pad64 (k : List UInt8) : List UInt8 := k ++ List.replicate (64 - k.length) 0
theorem pad64_len {k : List UInt8} (h : k.length ≤ 64) : (pad64 k).length = 64 := by unfold pad64; rw [List.length_append, List.length_replicate]; omega
def padK (k : List UInt8) (c : UInt8) : List UInt8 := (pad64 k).map (· ^^^ c)
theorem padK_len {k : List UInt8} (h : k.length ≤ 64) (c : UInt8) : (padK k c).length = 64 := by unfold padK; rw [List.length_map, pad64_len h]
def macL (k t : List UInt8) : List UInt8 := sha (padK (keyL k) 0x5c ++ sha (padK (keyL k) 0x36 ++ t))
/-- the first i bytes combined -/
def xorA (p : List UInt8) (c : UInt8) (i : Nat) : List UInt8 := (p.take i).map (· ^^^ c) ++ p.drop i
theorem xorA_zero (p : List UInt8) (c : UInt8) : xorA p c 0 = p := by simp [xorA]
theorem xorA_all {p : List UInt8} {i : Nat} (h : p.length = i) (c : UInt8) : xorA p c i = p.map (· ^^^ c) := by unfold xorA; rw [List.take_of_length_le (by omega), List.drop_eq_nil_of_le (by omega), List.append_nil]
theorem xorA_get {p : List UInt8} {c : UInt8} {i : Nat} {x : UInt8} (h : p[i]? = some x) : (xorA p c i)[i]? = some x := by
  have hl := (List.getElem?_eq_some_iff.1 h).1
  unfold xorA
  rw [List.getElem?_append_right (by rw [List.length_map, List.length_take]; omega), List.length_map, List.length_take, List.getElem?_drop, ← h]
  congr 1
  omega
theorem xorA_set {p : List UInt8} {c : UInt8} {i : Nat} {x : UInt8} (h : p[i]? = some x) : ((xorA p c i).map B8).set i (B8 (x ^^^ c)) = (xorA p c (i + 1)).map B8 := by
  have hl := (List.getElem?_eq_some_iff.1 h).1
  have e : (xorA p c i).set i (x ^^^ c) = xorA p c (i + 1) := by
    unfold xorA
    rw [List.set_append_right _ _ (by rw [List.length_map, List.length_take]; omega), List.length_map, List.length_take, show i - min i p.length = 0 by omega, List.drop_eq_getElem_cons hl, List.set_cons_zero,
      take_next h, List.map_append, List.append_assoc]
    rfl
  rw [← List.map_set, e]
def zero64 : List UInt8 := List.replicate 64 0
theorem zero_64 (W : World) : (zeroValue 83).run Tryd.prog W = .ok (.agg (zero64.map B8).toArray) W := by kernel_rfl
theorem zero64_len : (zero64.map B8).length = 64 := by unfold zero64; rw [List.length_map, List.length_replicate]
theorem pad64_box (k : List UInt8) : (zero64.map B8).take 0 ++ k.map B8 ++ (zero64.map B8).drop (0 + k.length) = (pad64 k).map B8 := by
  unfold pad64 zero64
  rw [List.take_zero, List.nil_append, Nat.zero_add, List.map_append, ← List.map_drop, List.drop_replicate]
set_option maxRecDepth 100000 in
set_option maxHeartbeats 2000000 in
theorem padded_fn (c : UInt8) (key : ByteArray) (hk : key.size ≤ 64) (B : Nat) (w : World) (hB : Box w B 9 [.string key]) :
    Calls Tryd.prog 62 #[B8 c, .pointer (some ⟨B, 0, none⟩)] w fun e w' => e = .returned (.string ⟨(padK key.data.toList c).toArray⟩) ∧ Below w.heap.size w w' := by
  have h64 := zero_64
  have hkl : key.data.toList.length = key.size := Array.length_toList
  have HKL := hide hkl
  have hpb := pad64_box key.data.toList
  obtain ⟨Z, hZ⟩ : ∃ Z, Hid (zero64.map B8 = Z) := ⟨_, rfl⟩
  rw [hZ.out] at h64 hpb
  have hZl : Z.length = 64 := by rw [← hZ.out, zero64_len]
  have HZl := hide hZl
  have Hpb := hide hpb
  obtain ⟨p0, hp0⟩ : ∃ p, Hid (pad64 key.data.toList = p) := ⟨_, rfl⟩
  have hpl : p0.length = 64 := by rw [← hp0.out, pad64_len (by omega)]
  have Hpl := hide hpl
  clear hkl hpb hZl hpl
  go_enter Tryd.func62, Tryd.ntmps62
  go_wp2_with fail
  have x4 : Box (w.alloc (.cells Z.toArray 83)) w.heap.size 83 Z := Box.new w _ _
  have xB : Box (w.alloc (.cells Z.toArray 83)) B 9 [.string key] := hB.alloc _
  have b1 : Below w.heap.size w (w.alloc (.cells Z.toArray 83)) := (Below.refl _ _).alloc (Nat.le_refl _) _
  generalize w.alloc (.cells Z.toArray 83) = w1 at *
  have hcell : ∀ q : OnTop w1, q.v.cell? ⟨B, 0, none⟩ = some (.string key) := fun q => (xB.under q.h).at_ rfl
  have hcell := hide hcell
  refine wp_region_below_tail 2 (by kernel_rfl) (by kernel_rfl) ?_
  simp only [List.take_succ_cons, List.take_zero, List.drop_succ_cons, List.drop_zero]
  refine quiet_cut_var 6 83 5 64 _ none none Tryd.underlying83 size_u8 w.heap.size 0 rfl 0 64 (.inl ⟨rfl, rfl⟩) (.inl ⟨rfl, rfl⟩) (by omega) (by omega) (by omega) ?_
  simp only [Act.put, List.setIfInBounds_toArray, List.set_cons_succ, List.set_cons_zero]
  refine quiet_in (.string key) rfl (by rintro w' ⟨q, rfl⟩; have h := hcell.out q; simp [execOp, Act.eval, go_sem, h]) ?_
  simp only [Act.put, List.setIfInBounds_toArray, List.set_cons_succ, List.set_cons_zero]
  refine wpQuiet_nil ?_
  rintro w5 ⟨q, rfl⟩
  refine copy_str (o := ⟨some 8, _, _, _, _, _⟩) rfl _ _ 52 9 rfl 5 Tryd.underlying52 size_u8 w.heap.size 0 _ _ 83 Z (x4.under q.h) (by rfl) key (by rfl) key.size (by omega) (by rw [HZl.out]; omega) ?_
  intro w3 x5 hg3 hs3
  have e1 : key.data.toList.take key.size = key.data.toList := List.take_of_length_le (by rw [HKL.out]; exact Nat.le_refl _)
  rw [e1, ← HKL.out, Hpb.out, hp0.out] at x5
  have b3 : Below w.heap.size w w3 := (b1.trans (q.h.mono b1.size)).grown hg3 (by have := q.h.size; have := b1.size; omega) (fun k hk => by cases hk; exact Nat.le_refl _)
  clear e1 hg3 hs3 b1 x4 xB hcell Hpb
  obtain ⟨G, hG⟩ : ∃ G, G = w.heap.size := ⟨_, rfl⟩
  rw [← hG] at x5 b3 ⊢
  have HG := hide hG
  clear hG
  have x5 : Box w3 G 83 ((xorA p0 c 0).map B8) := by rw [xorA_zero]; exact x5
  go_wp2_with fail
  go_loopg [9] 64 (fun g i w' => ∃ k : Nat, k ≤ 64 ∧ g = 64 - k ∧ i = .int .i64 k ∧ Box w' G 83 ((xorA p0 c k).map B8) ∧ Below G w w')
  case atStart => exact ⟨0, by omega, by omega, rfl, x5, b3⟩
  case round =>
    clear x5 b3
    obtain ⟨k, hk, hg, rfl, x5, b3⟩ := hrel
    have HN := hide hg
    clear hg
    by_cases hlt : k < 64
    · obtain ⟨u, hu⟩ : ∃ u, p0[k]? = some u := ⟨p0[k]'(by rw [Hpl.out]; exact hlt), by simp⟩
      have q0 : wr.cell? ⟨G, k, none⟩ = some (B8 u) := x5.at_ (box_at (xorA_get hu))
      have f0 := x5.free k
      have HU := hide hu
      clear hu
      go_wp2_with fail
      go_roundg (64 - (k + 1))
      case measure => have := HN.out; omega
      case rel =>
        refine ⟨k + 1, by omega, rfl, by go_num, ?_, b3.setCell (by simp) _⟩
        have h := x5.put k (B8 (u ^^^ c))
        rw [xorA_set HU.out] at h
        rw [x_xor]
        exact h
    · obtain rfl : k = 64 := by omega
      rw [xorA_all Hpl.out] at x5
      have s5 := x5.sl 0 64 64 1 ((p0.map (· ^^^ c)).map B8) (by rw [List.length_map, List.length_map, Hpl.out]) (Nat.le_refl _) (by decide) (fun j u h => by rw [Nat.zero_add]; exact h)
      go_wp2_with (first
        | (with_reducible refine cut_var 19 83 5 64 _ _ _ Tryd.underlying83 size_u8 G 0 rfl 0 64 (.inl ⟨rfl, rfl⟩) (.inl ⟨rfl, rfl⟩) (by omega) (by omega) (by omega) ?_)
        | (with_reducible refine to_str 20 _ _ _ _ (p0.map (· ^^^ c)) rfl s5 ?_))
      go_ret
      exact ⟨by unfold padK; rw [hp0.out]; rfl, by rw [← HG.out]; exact b3⟩
end Go.Proofs.YtblgmjnkllkhbaaDoor
end

/- the text Hash17 -/
section
namespace Go.Proofs.YtblgmjnkllkhbaaDoor
open Go.RowKit Go.Dx

theorem pad64_get {x : ByteArray} {i : Nat} (h : i < x.size) : (pad64 x.data.toList)[i]? = some (x[i]'h) := by
  have hl : x.data.toList.length = x.size := Array.length_toList
  unfold pad64
  rw [List.getElem?_append_left (by omega), str_get]
theorem pad64_zero {x : ByteArray} {i : Nat} (h : x.size ≤ i) (h2 : i < 64) : (pad64 x.data.toList)[i]? = some 0 := by
  have hl : x.data.toList.length = x.size := Array.length_toList
  unfold pad64
  rw [List.getElem?_append_right (by omega), List.getElem?_replicate, if_pos (by omega)]
theorem padK_next {x : ByteArray} {c u : UInt8} {i : Nat} (h : (pad64 x.data.toList)[i]? = some u) : (padK x.data.toList c).take (i + 1) = (padK x.data.toList c).take i ++ [u ^^^ c] :=
  take_next (by unfold padK; rw [List.getElem?_map, h]; rfl)
set_option maxRecDepth 100000 in
set_option maxHeartbeats 2000000 in
theorem padKey_any (c : UInt8) (key : ByteArray) (hk : key.size ≤ 100000) (w : World) (hL : LaidR w) :
    Calls Tryd.prog 64 #[.string key, B8 c] w (Gives 5 1 64 ((padK (keyL key.data.toList) c).map B8) w) := by
  have hkl : key.data.toList.length = key.size := Array.length_toList
  by_cases h64 : 64 < key.size
  · have hK : keyL key.data.toList = sha key.data.toList := by unfold keyL; rw [if_pos (by omega)]
    rw [hK]
    obtain ⟨S, hS⟩ : ∃ S, Hid (sha key.data.toList = S) := ⟨_, rfl⟩
    have hSl : S.length = 32 := by rw [← hS.out, sha_len]
    have HSl := hide hSl
    have hSum := hide (ref_Sum key.data.toList (by omega))
    rw [hS.out] at hSum ⊢
    clear hK hSl hkl
    go_enter Tryd.func64, Tryd.ntmps64
    go_wp2_with (with_reducible refine to_bytes 14 _ key rfl (by unfold maxLen; omega) ?_; intro a2 c2 w2 s2 hb2 hp2)
    refine (hSum.out _ _ _ _ (hL.below hb2) s2).mono ?_
    rintro e w3 ⟨rfl, h3⟩
    have b3 := hb2.trans (h3.mono hb2.size)
    clear h3 hb2 hp2 s2
    go_wp2_with fail
    refine (bytes32_any S HSl.out _).mono ?_
    rintro e w4 ⟨rfl, h4⟩
    have b4 := b3.trans (h4.mono b3.size)
    clear h4 b3 hSum
    have hX : (⟨S.toArray⟩ : ByteArray).data.toList = S := rfl
    have hXs : (⟨S.toArray⟩ : ByteArray).size ≤ 64 := by show S.toArray.size ≤ 64; rw [List.size_toArray, HSl.out]; omega
    generalize (⟨S.toArray⟩ : ByteArray) = X at *
    have HX := hide hX
    have HXl := hide (show X.data.toList.length ≤ 64 from hXs)
    clear hX HSl hS hXs
    go_wp2_with fail
    go_loopg [6, 7] 64 (fun g o i w' => ∃ (k : Nat) (a2 : Option Addr) (c2 : Nat), k ≤ 64 ∧ g = 64 - k ∧ i = .int .i64 k ∧ o = .slice a2 k c2 ∧ Own w' w.heap.size 5 1 a2 k c2 (((padK X.data.toList c).take k).map B8) ∧ Below w.heap.size w w')
    case atStart => exact ⟨0, none, 0, by omega, by omega, rfl, rfl, Own.nil _ _ _ _, b4⟩
    case round =>
      clear b4
      obtain ⟨k, a3, c3, hk, hg, rfl, rfl, oP, hb⟩ := hrel
      have HG := hide hg
      clear hg
      by_cases hlt : k < 64
      · have i0 : (0 : Int) ≤ (k : Int) := by omega
        by_cases hX2 : k < X.size
        · have i1 : (k : Int) < (X.size : Int) := by omega
          have HN := hide (padK_next (c := c) (pad64_get hX2))
          go_wp2_with (at_builtin; refine app_b (o := ⟨some 33, _, _, _, _, _⟩) rfl _ _ rfl w w.heap.size _ _ _ _ rfl oP _ rfl (by omega) hb.size hb ?_; intro a7 c7 w7 oD hg7 hb7)
          go_roundg (64 - (k + 1))
          case measure => have := HG.out; omega
          case rel => exact ⟨k + 1, a7, c7, by omega, rfl, by go_num, rfl, by rw [HN.out, List.map_append]; rw [x_xor] at oD; exact oD, hb7⟩
        · have HN := hide (padK_next (c := c) (pad64_zero (x := X) (i := k) (by omega) hlt))
          go_wp2_with (at_builtin; refine app_b (o := ⟨some 33, _, _, _, _, _⟩) rfl _ _ rfl w w.heap.size _ _ _ _ rfl oP _ rfl (by omega) hb.size hb ?_; intro a7 c7 w7 oD hg7 hb7)
          go_roundg (64 - (k + 1))
          case measure => have := HG.out; omega
          case rel => exact ⟨k + 1, a7, c7, by omega, rfl, by go_num, rfl, by rw [HN.out, List.map_append]; have e := x_xor 0 c; have oD := oD; rw [show bits .xor .u8 0 (c.toNat : Int) = (((0 : UInt8) ^^^ c).toNat : Int) from e] at oD; exact oD, hb7⟩
      · obtain rfl : k = 64 := by omega
        have e : (padK X.data.toList c).take 64 = padK X.data.toList c := List.take_of_length_le (by rw [padK_len HXl.out]; exact Nat.le_refl _)
        rw [e] at oP
        have oP := hide oP
        clear e
        go_wp2_with fail
        go_ret
        exact ⟨a3, c3, rfl, by rw [← HX.out]; exact oP.out, hb⟩
  · have hK : keyL key.data.toList = key.data.toList := by unfold keyL; rw [if_neg (by omega)]
    rw [hK]
    clear hK
    obtain ⟨X, rfl⟩ : ∃ X, X = key := ⟨_, rfl⟩
    have HXl := hide (show X.data.toList.length ≤ 64 by omega)
    have b4 : Below w.heap.size w w := Below.refl _ _
    clear hkl
    go_enter Tryd.func64, Tryd.ntmps64
    go_wp2_with fail
    go_loopg [6, 7] 64 (fun g o i w' => ∃ (k : Nat) (a2 : Option Addr) (c2 : Nat), k ≤ 64 ∧ g = 64 - k ∧ i = .int .i64 k ∧ o = .slice a2 k c2 ∧ Own w' w.heap.size 5 1 a2 k c2 (((padK X.data.toList c).take k).map B8) ∧ Below w.heap.size w w')
    case atStart => exact ⟨0, none, 0, by omega, by omega, rfl, rfl, Own.nil _ _ _ _, b4⟩
    case round =>
      clear b4
      obtain ⟨k, a3, c3, hk, hg, rfl, rfl, oP, hb⟩ := hrel
      have HG := hide hg
      clear hg
      by_cases hlt : k < 64
      · have i0 : (0 : Int) ≤ (k : Int) := by omega
        by_cases hX2 : k < X.size
        · have i1 : (k : Int) < (X.size : Int) := by omega
          have HN := hide (padK_next (c := c) (pad64_get hX2))
          go_wp2_with (at_builtin; refine app_b (o := ⟨some 33, _, _, _, _, _⟩) rfl _ _ rfl w w.heap.size _ _ _ _ rfl oP _ rfl (by omega) hb.size hb ?_; intro a7 c7 w7 oD hg7 hb7)
          go_roundg (64 - (k + 1))
          case measure => have := HG.out; omega
          case rel => exact ⟨k + 1, a7, c7, by omega, rfl, by go_num, rfl, by rw [HN.out, List.map_append]; rw [x_xor] at oD; exact oD, hb7⟩
        · have HN := hide (padK_next (c := c) (pad64_zero (x := X) (i := k) (by omega) hlt))
          go_wp2_with (at_builtin; refine app_b (o := ⟨some 33, _, _, _, _, _⟩) rfl _ _ rfl w w.heap.size _ _ _ _ rfl oP _ rfl (by omega) hb.size hb ?_; intro a7 c7 w7 oD hg7 hb7)
          go_roundg (64 - (k + 1))
          case measure => have := HG.out; omega
          case rel => exact ⟨k + 1, a7, c7, by omega, rfl, by go_num, rfl, by rw [HN.out, List.map_append]; have e := x_xor 0 c; have oD := oD; rw [show bits .xor .u8 0 (c.toNat : Int) = (((0 : UInt8) ^^^ c).toNat : Int) from e] at oD; exact oD, hb7⟩
      · obtain rfl : k = 64 := by omega
        have e : (padK X.data.toList c).take 64 = padK X.data.toList c := List.take_of_length_le (by rw [padK_len HXl.out]; exact Nat.le_refl _)
        rw [e] at oP
        have oP := hide oP
        clear e
        go_wp2_with fail
        go_ret
        exact ⟨a3, c3, rfl, oP.out, hb⟩
set_option maxRecDepth 100000 in
set_option maxHeartbeats 2000000 in
theorem rmac_any (key text : ByteArray) (hk : key.size ≤ 100000) (ht : text.size ≤ 100000) (w : World) (hL : LaidR w) :
    Calls Tryd.prog 51 #[.string key, .string text] w fun e w' => e = .returned (.string ⟨(macL key.data.toList text.data.toList).toArray⟩) ∧ Below w.heap.size w w' := by
  have hp1 := hide (padKey_any 0x36 key hk)
  have hp2 := hide (padKey_any 0x5c key hk)
  have l1 := padK_len (keyL_len key.data.toList) 0x36
  have l2 := padK_len (keyL_len key.data.toList) 0x5c
  obtain ⟨P1, hP1⟩ : ∃ P, Hid (padK (keyL key.data.toList) 0x36 = P) := ⟨_, rfl⟩
  obtain ⟨P2, hP2⟩ : ∃ P, Hid (padK (keyL key.data.toList) 0x5c = P) := ⟨_, rfl⟩
  rw [hP1.out] at hp1 l1
  rw [hP2.out] at hp2 l2
  have htl : text.data.toList.length = text.size := Array.length_toList
  have HTL := hide htl
  have L1 := hide l1
  have L2 := hide l2
  have B36 : Value.int .u8 54 = B8 0x36 := rfl
  have B5c : Value.int .u8 92 = B8 0x5c := rfl
  have B36 := hide B36
  have B5c := hide B5c
  clear htl l1 l2
  go_enter Tryd.func51, Tryd.ntmps51
  go_wp2_with fail
  refine (hp1.out _ hL).mono ?_
  rintro e w2 ⟨a2, c2, rfl, o2, h2⟩
  go_wp2_with (at_builtin; refine app_str (o := ⟨some 11, _, _, _, _, _⟩) rfl _ _ rfl w w.heap.size _ _ _ _ rfl o2 text rfl (by omega) h2.size h2 ?_; intro a3 c3 w3 o3 hg3 h3)
  clear o2 hg3
  refine (hp2.out _ (hL.below h3)).mono ?_
  rintro e w4 ⟨a4, c4, rfl, o4, h4⟩
  have b4 := h3.trans (h4.mono h3.size)
  have o3 := o3.below h4
  have s3 : Sl w4 1 a3 (64 + text.size) c3 ((P1 ++ text.data.toList).map B8) := by rw [List.map_append]; exact o3.sl
  have o4 := o4.mono (B' := w.heap.size) h3.size
  clear h4 o3 h2
  go_wp2_with fail
  refine (ref_Sum (P1 ++ text.data.toList) (by rw [List.length_append, L1.out, HTL.out]; omega) _ _ _ _ (hL.below b4) s3).mono ?_
  rintro e w5 ⟨rfl, h5⟩
  have o4 := o4.below h5
  have b5 := b4.trans (h5.mono b4.size)
  clear h5 b4 h3 s3
  go_wp2_with fail
  refine (bytes32_any _ (sha_len _) _).mono ?_
  rintro e w6 ⟨rfl, h6⟩
  have o4 := o4.below h6
  have b6 := b5.trans (h6.mono b5.size)
  clear h6 b5
  obtain ⟨I, hI⟩ : ∃ I, Hid (sha (P1 ++ text.data.toList) = I) := ⟨_, rfl⟩
  have hIl : I.length = 32 := by rw [← hI.out, sha_len]
  have HIl := hide hIl
  rw [hI.out]
  have hXs : (⟨I.toArray⟩ : ByteArray).size = 32 := by show I.toArray.size = 32; rw [List.size_toArray, HIl.out]
  have hXd : (⟨I.toArray⟩ : ByteArray).data.toList = I := rfl
  obtain ⟨X, hX⟩ : ∃ X, Hid ((⟨I.toArray⟩ : ByteArray) = X) := ⟨_, rfl⟩
  rw [hX.out] at hXs hXd ⊢
  have HXs := hide hXs
  have hXs2 : X.size ≤ 32 := by omega
  have HXd := hide hXd
  clear hXs hXd hIl hX
  go_wp2_with (at_builtin; refine app_str (o := ⟨some 18, _, _, _, _, _⟩) rfl _ _ rfl w w.heap.size _ _ _ _ rfl o4 X rfl (by omega) b6.size b6 ?_; intro a7 c7 w7 o7 hg7 h7)
  have s7 : Sl w7 1 a7 (64 + X.size) c7 ((P2 ++ I).map B8) := by rw [List.map_append, ← HXd.out]; exact o7.sl
  clear o4 hg7 o7 b6
  refine (ref_Sum (P2 ++ I) (by rw [List.length_append, L2.out, HIl.out]; omega) _ _ _ _ (hL.below h7) s7).mono ?_
  rintro e w8 ⟨rfl, h8⟩
  have b8 := h7.trans (h8.mono h7.size)
  clear h8 h7 s7
  go_wp2_with fail
  refine (bytes32_any _ (sha_len _) _).mono ?_
  rintro e w9 ⟨rfl, h9⟩
  have b9 := b8.trans (h9.mono b8.size)
  clear h9 b8
  go_wp2_with fail
  go_ret
  exact ⟨by unfold macL; rw [hP1.out, hP2.out, hI.out]; rfl, b9⟩
end Go.Proofs.YtblgmjnkllkhbaaDoor
end
