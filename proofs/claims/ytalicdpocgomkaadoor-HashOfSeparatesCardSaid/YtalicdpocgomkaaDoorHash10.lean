import Derived.Test.YtalicdpocgomkaaDoorHash9
namespace Go.Proofs.YtalicdpocgomkaaDoor
open Go.RowKit Go.Dx

theorem add_at {m r : List UInt8} {x : ByteArray} (h : m ++ x.data.toList = r) (hr : r.length ≤ 1000000000) (w : World) (hL : Laid w) :
    Calls Tryd.prog 15 #[SV m, .string x] w fun e w' => e = .returned (SV r) ∧ Below w.heap.size w w' := by
  subst h
  exact add_any m x (by rw [List.length_append] at hr; exact hr) w hL
theorem pad_list (m : List UInt8) : m ++ padTail m.length = pad m := rfl
theorem padTail_len (n : Nat) : (padTail n).length = 9 + padN n := by
  unfold padTail
  simp only [List.length_append, List.length_replicate, lenB_length, List.length_singleton]
  omega
/-- the mark and k zeros -/
def padA (k : Nat) : List UInt8 := [128] ++ List.replicate k 0
theorem padA_succ (k : Nat) : padA (k + 1) = padA k ++ [0] := by unfold padA; rw [List.replicate_succ']; simp
theorem zero32_len : (zero32.map B8).length = 32 := by unfold zero32; rw [List.length_map, List.length_replicate]
theorem zero32_start (S8 : List UInt32) : zero32 = bytesOf S8 0 ++ List.replicate (32 - 0) 0 := rfl
theorem zero_32 (W : World) : (zeroValue 24).run Tryd.prog W = .ok (.agg (zero32.map B8).toArray) W := by kernel_rfl
set_option maxRecDepth 100000 in
set_option maxHeartbeats 2000000 in
theorem ssum_any (m : List UInt8) (hm : m.length ≤ 500000000) (w : World) (hL : Laid w) :
    Calls Tryd.prog 17 #[SV m] w fun e w' => e = .returned (.agg ((sha m).map B8).toArray) ∧ Below w.heap.size w w' := by
  obtain ⟨S, hS⟩ : ∃ S, Hid (SC m = S) := ⟨_, rfl⟩
  obtain ⟨N, hN⟩ : ∃ N, N = m.length := ⟨_, rfl⟩
  have h72 : S[72]? = some (.int .u64 (N : Int)) := by rw [← hS.out, hN]; exact strm_n (blkOf_len m)
  rw [← hN] at hm
  have HN := hide hN
  have h32 := zero_32
  obtain ⟨Z, hZ⟩ : ∃ Z, Hid (zero32.map B8 = Z) := ⟨_, rfl⟩
  rw [hZ.out] at h32
  unfold SV
  rw [hS.out]
  clear hN
  go_enter Tryd.func17, Tryd.ntmps17
  go_wp2_with fail
  clear h72 h32
  have x1 : Box (((w.alloc (Obj.cells S.toArray 34)).alloc (Obj.cells (Z.toArray) 24)).alloc (.cells #[.int .u8 128] 5)) w.heap.size 34 (SC m) := by rw [hS.out]; exact ((Box.new w _ _).alloc _).alloc _
  have x2 : Box (((w.alloc (Obj.cells S.toArray 34)).alloc (Obj.cells (Z.toArray) 24)).alloc (.cells #[.int .u8 128] 5)) (w.heap.size + 1) 24 Z := (box_next w _ _ _).alloc _
  have oP : Own (((w.alloc (Obj.cells S.toArray 34)).alloc (Obj.cells (Z.toArray) 24)).alloc (.cells #[.int .u8 128] 5)) (w.heap.size + 2) 5 1 (some ⟨w.heap.size + 2, 0, none⟩) 1 1 ((padA 0).map B8) := by
    have h := Own.built ((w.alloc (Obj.cells S.toArray 34)).alloc (Obj.cells (Z.toArray) 24)) (w.heap.size + 2) 5 1 1 #[.int .u8 128] (by simp) rfl (by decide)
    rw [show ((w.alloc (Obj.cells S.toArray 34)).alloc (Obj.cells (Z.toArray) 24)).heap.size = w.heap.size + 2 by simp] at h
    exact h
  have b0 : Below w.heap.size w (((w.alloc (Obj.cells S.toArray 34)).alloc (Obj.cells (Z.toArray) 24)).alloc (.cells #[.int .u8 128] 5)) := (((Below.refl _ _).alloc (Nat.le_refl _) _).alloc (by simp) _).alloc (by simp; omega) _
  have hsz : w.heap.size + 2 ≤ (((w.alloc (Obj.cells S.toArray 34)).alloc (Obj.cells (Z.toArray) 24)).alloc (.cells #[.int .u8 128] 5)).heap.size := by simp
  obtain ⟨B, hB⟩ : ∃ B, B = w.heap.size := ⟨_, rfl⟩
  rw [← hB] at x1 x2 oP b0 hsz ⊢
  have HB := hide hB
  have hL0 := hide hL
  clear hB hL
  generalize ((w.alloc (Obj.cells S.toArray 34)).alloc (Obj.cells (Z.toArray) 24)).alloc (.cells #[.int .u8 128] 5) = w0 at *
  go_loopg [4] (padN N) (fun g x w' => ∃ (M : Nat) (a : Option Addr) (c : Nat), 1 ≤ M ∧ M ≤ 1 + padN N ∧ g = padN N - (M - 1) ∧ x = .slice a M c ∧ Own w' (B + 2) 5 1 a M c ((padA (M - 1)).map B8) ∧ Below (B + 2) w0 w')
  case atStart => exact ⟨1, _, 1, by omega, by omega, by omega, rfl, oP, Below.refl _ _⟩
  case round =>
    clear oP
    obtain ⟨M, a4, c4, hM0, hM1, hg, rfl, oP, hb⟩ := hrel
    have HG := hide hg
    clear hg
    have hp : padN N ≤ 63 := by unfold padN; omega
    have q0 : wr.cell? ⟨B, 72, none⟩ = some (.int .u64 (N : Int)) := by rw [HN.out]; exact (x1.below hb (by omega)).at_ (strm_n (blkOf_len m))
    by_cases hlt : M < 1 + padN N
    · have ht : (((N : Int) + (M : Int)) % 64 != 56) = true := by
        unfold padN at hlt
        simp
        omega
      go_wp2_with (at_builtin; refine app_b (o := ⟨some 22, _, _, _, _, _⟩) rfl _ _ rfl w0 (B + 2) _ _ _ _ rfl oP _ rfl (by omega) (Nat.le_trans hsz hb.size) hb ?_; intro a6 c6 w6 oD hg6 hb6)
      go_roundg (padN N - M)
      case measure => have := HG.out; omega
      case rel =>
        refine ⟨M + 1, a6, c6, by omega, by omega, by omega, rfl, ?_, hb6⟩
        rw [show M + 1 - 1 = (M - 1) + 1 by omega, padA_succ, List.map_append]
        exact oD
    · have hM : M = 1 + padN N := by omega
      have ht : (((N : Int) + (M : Int)) % 64 != 56) = false := by
        unfold padN at hM
        simp
        omega
      have e1 : M - 1 = padN N := by omega
      rw [e1] at oP
      have HM := hide hM
      clear hM e1 HG hlt
      go_wp2_with fail
      obtain ⟨wo, rfl⟩ : ∃ wo : World, wo = wr := ⟨_, rfl⟩
      go_loopg [4, 23] 8 (fun g x i w' => ∃ (k : Nat) (a : Option Addr) (c : Nat), k ≤ 8 ∧ g = 8 - k ∧ i = .int .i64 k ∧ x = .slice a (M + k) c ∧ Own w' (B + 2) 5 1 a (M + k) c ((padA (padN N) ++ lenB N k).map B8) ∧ Below (B + 2) w0 w')
      case atStart => exact ⟨0, a4, c4, by omega, by omega, rfl, rfl, by simpa [lenB] using oP, hb⟩
      case round =>
        clear oP hb q0
        obtain ⟨k, a6, c6, hk, hg, rfl, rfl, oP, hb⟩ := hrel
        have HG := hide hg
        clear hg
        by_cases hlt : k < 8
        · go_wp2_with (at_builtin; refine app_b (o := ⟨some 34, _, _, _, _, _⟩) rfl _ _ rfl w0 (B + 2) _ _ _ _ rfl oP _ rfl (by omega) (Nat.le_trans hsz hb.size) hb ?_; intro a7 c7 w7 oD hg7 hb7)
          go_roundg (8 - (k + 1))
          case measure => have := HG.out; omega
          case rel =>
            refine ⟨k + 1, a7, c7, by omega, rfl, by go_num, rfl, ?_, hb7⟩
            rw [lenByte_int N k _ rfl] at oD
            rw [lenB_succ, ← List.append_assoc, List.map_append]
            exact oD
        · obtain rfl : k = 8 := by omega
          obtain ⟨T, hT⟩ : ∃ T, Hid (padTail N = T) := ⟨_, rfl⟩
          have e1 : padA (padN N) ++ lenB N 8 = T := by rw [← hT.out]; rfl
          rw [e1] at oP
          have hTl : T.length = M + 8 := by have h := oP.len; rw [List.length_map] at h; omega
          have hT100 : T.length ≤ 100 := by omega
          have hTl := hide hTl
          have z1 := x1.below hb (by omega)
          have z2 := x2.below hb (by omega)
          have x1lt := hide z1.lt
          have hzm : (Tryd.prog.info? 34).map (·.size) = some (SC m).length := by rw [SC_len]; exact size_strm
          have hzm := hide hzm
          have zb : Below B w wr := b0.trans (hb.mono (by omega))
          have zL := hL0.out.mono zb (Nat.le_of_eq HB.out.symm)
          have oP := oP.sl
          clear e1 hb hsz b0 x1 x2 ht hlt HG
          go_wp2_with (first
            | (with_reducible refine load_box 36 34 _ 34 B 0 (SC m) (SC m) isAgg_strm hzm.out z1 rfl (fun j u hj => by rw [Nat.zero_add]; exact hj) ?_)
            | (with_reducible refine to_str 38 _ _ _ _ T rfl oP ?_))
          obtain ⟨PM, hPM⟩ : ∃ PM, Hid (pad m = PM) := ⟨_, rfl⟩
          have hcat : m ++ (⟨T.toArray⟩ : ByteArray).data.toList = PM := by rw [← hPM.out, ← hT.out, HN.out]; rfl
          have hPl := pad_ge m
          rw [hPM.out, ← HN.out] at hPl
          have hzp : (Tryd.prog.info? 34).map (·.size) = some (SC PM).length := by rw [SC_len]; exact size_strm
          have hzp := hide hzp
          refine (add_at hcat (by omega) _ zL).mono ?_
          rintro e w3 ⟨rfl, h3⟩
          have z1 := z1.under h3
          have z2 := z2.under h3
          have zb := zb.trans (h3.mono (by have := x1lt.out; exact Nat.le_of_lt this))
          clear h3 zL oP hcat
          unfold SV
          go_wp2_with (with_reducible refine hold_store ?_)
          refine hide ?_
          refine store_all 34 _ _ 34 B (SC m) (SC PM) (.agg (SC PM).toArray) hzp.out z1 (by rfl) (by rfl) rfl (by rw [SC_len, SC_len]) (strm_one _ _ _) ?_
          intro w4 y1 hg4 hs4
          have y2 := z2.grown hg4 (by simp)
          have yb := zb.grown hg4 (Nat.le_of_lt z1.lt) (fun k hk => by cases hk; omega)
          have hG0 : B + 1 < w4.heap.size := y2.lt
          clear z1 z2 zb hg4 hs4
          have h32 := zero_32
          rw [hZ.out] at h32
          go_wp2_with fail
          clear h32
          obtain ⟨S8, hS8⟩ : ∃ L, Hid ((stOf PM).list = L) := ⟨_, rfl⟩
          have hl8 := hide (show S8.length = 8 by rw [← hS8.out]; exact mix3_lists _)
          have y5 : Box (w4.alloc (.cells Z.toArray 24)) w4.heap.size 24 ((bytesOf S8 0 ++ List.replicate (32 - 0) 0).map B8) := by rw [← zero32_start, hZ.out]; exact Box.new w4 _ _
          have y1 := y1.alloc (.cells Z.toArray 24)
          have y2 := y2.alloc (.cells Z.toArray 24)
          have yb := yb.alloc (by omega) (.cells Z.toArray 24)
          generalize w4.alloc (.cells Z.toArray 24) = w5 at *
          generalize w4.heap.size = G at *
          go_loopg [40] 32 (fun g i w' => ∃ t : Nat, t ≤ 32 ∧ g = 32 - t ∧ i = .int .i64 t ∧ Box w' G 24 ((bytesOf S8 t ++ List.replicate (32 - t) 0).map B8) ∧ Box w' B 34 (SC PM) ∧ Box w' (B + 1) 24 Z ∧ Below B w w')
          case atStart => exact ⟨0, by omega, by omega, rfl, y5, y1, y2, yb⟩
          case round =>
            clear y5 y1 y2 yb
            obtain ⟨t, ht, hg, rfl, y5, y1, y2, yb⟩ := hrel
            have HG3 := hide hg
            clear hg
            by_cases hlt : t < 32
            · obtain ⟨x, hx⟩ : ∃ x, S8[t / 4]? = some x := ⟨S8[t / 4]'(by rw [hl8.out]; omega), by simp⟩
              have q0 : wr.cell? ⟨B, t / 4, none⟩ = some (W32 x) := by
                have h := y1.at_ (strm_get (s := stOf PM) (blk := blkOf PM) (n := PM.length) (j := t / 4) (u := W32 x) (by rw [hS8.out]; exact box_at hx))
                rw [Nat.zero_add] at h
                exact h
              have d0 : wr.cell? ⟨G, t, none⟩ = some (B8 0) := y5.at_ (by rw [List.getElem?_map, List.getElem?_append_right (by rw [bytesOf_length]; exact Nat.le_refl _), bytesOf_length, List.getElem?_replicate, if_pos (by omega)]; rfl)
              have f0 := y5.free t
              have HX := hide hx
              clear hx
              go_wp2_with fail
              go_roundg (32 - (t + 1))
              case measure => have := HG3.out; omega
              case rel =>
                refine ⟨t + 1, by omega, rfl, by go_num, ?_, y1.far (by simp; omega) _, y2.far (by simp; omega) _, yb.setCell (by simp; omega) _⟩
                have h := y5.put t (B8 (wbyte S8 t))
                rw [byte_put S8 x t HX.out]
                rw [bytes_next S8 t hlt] at h
                exact h
            · obtain rfl : t = 32 := by omega
              have y6 : Box wr G 24 ((bytesOf S8 32).map B8) := by simpa only [Nat.sub_self, List.replicate_zero, List.append_nil] using y5
              have hz32 : (Tryd.prog.info? 24).map (·.size) = some ((bytesOf S8 32).map B8).length := by rw [List.length_map, bytesOf_length]; exact size_32
              have hz32' := hide hz32
              have hs32 := hide hS8
              clear y5
              go_wp2_with (first
                | (with_reducible refine load_box 57 24 _ 24 _ 0 _ ((bytesOf S8 32).map B8) isAgg_32 hz32'.out y6 rfl (fun j u hj => by rw [Nat.zero_add]; exact hj) ?_)
                | (with_reducible refine hold_store ?_))
              refine hide ?_
              refine store_all 24 _ _ 24 (B + 1) _ ((bytesOf S8 32).map B8) (.agg ((bytesOf S8 32).map B8).toArray) hz32'.out y2 (by rfl) (by rfl) rfl (by rw [List.length_map, bytesOf_length, ← hZ.out, zero32_len]) (one_map _ (fun _ => rfl) _) ?_
              intro w9 z2 hg9 hs9
              go_wp2_with fail
              refine bodyPost_ret (run_results_cell rfl rfl isAgg_32 hz32'.out z2) rfl ⟨?_, ?_⟩
              · unfold sha
                rw [hPM.out, ← hS8.out]
                rfl
              · rw [← HB.out]
                exact yb.grown hg9 (Nat.le_of_lt y1.lt) (fun k hk => by cases hk; omega)
end Go.Proofs.YtalicdpocgomkaaDoor
