import Derived.Test.YtalicdpocgomkaaDoorHash8
import Derived.Test.YtalicdpocgomkaaDoorBox2
namespace Go.Proofs.YtalicdpocgomkaaDoor
open Go.RowKit Go.Dx

/-- the cells of the stream of a message -/
def SC (m : List UInt8) : List Value := strm (stOf m) (blkOf m) m.length
/-- the stream of a message -/
def SV (m : List UInt8) : Value := .agg (SC m).toArray
theorem SC_len (m : List UInt8) : (SC m).length = 73 := strm_length _ (blkOf_len m) _
theorem st8 (s : St) : (s.list.map W32).length = 8 := rfl
theorem tri_n {α : Type} {A B : List α} {c : α} (ha : A.length = 8) (hb : B.length = 64) : (A ++ B ++ [c])[72]? = some c := by
  rw [List.getElem?_append_right (by rw [List.length_append]; omega), List.length_append, ha, hb]; rfl
theorem tri_set {α : Type} {A B : List α} {c d : α} (ha : A.length = 8) (hb : B.length = 64) : (A ++ B ++ [c]).set 72 d = A ++ B ++ [d] := by
  rw [List.set_append_right _ _ (by rw [List.length_append]; omega), List.length_append, ha, hb]; rfl
theorem tri_put {α : Type} {A B T : List α} {c : α} {i n : Nat} (ha : A.length = 8) (hb : B.length = 64) (hn : T.length = n) (hi : i + n ≤ 64) :
    (A ++ B ++ [c]).take (8 + i) ++ T ++ (A ++ B ++ [c]).drop (8 + i + n) = A ++ (B.take i ++ T ++ B.drop (i + n)) ++ [c] := by
  have e1 : (A ++ B ++ [c]).take (8 + i) = A ++ B.take i := by
    rw [List.append_assoc, List.take_append, List.take_of_length_le (by omega), ha, Nat.add_sub_cancel_left, List.take_append_of_le_length (by omega)]
  have e2 : (A ++ B ++ [c]).drop (8 + i + n) = B.drop (i + n) ++ [c] := by
    rw [List.append_assoc, List.drop_append, List.drop_eq_nil_of_le (by omega), ha, List.nil_append, show 8 + i + n - 8 = i + n by omega, List.drop_append_of_le_length (by omega)]
  rw [e1, e2]
  simp only [List.append_assoc]
theorem tri_head {α : Type} {A B T : List α} {c : α} (ha : A.length = 8) : (A ++ B ++ [c]).take 0 ++ T ++ (A ++ B ++ [c]).drop (0 + 8) = T ++ B ++ [c] := by
  rw [List.take_zero, List.nil_append, Nat.zero_add, List.append_assoc A, List.drop_append, List.drop_eq_nil_of_le (by omega), ha, Nat.sub_self, List.drop_zero, List.nil_append, List.append_assoc]
theorem strm_put {s : St} {blk : List UInt8} {n i : Nat} {t : List UInt8} (hb : blk.length = 64) (k : Nat) (hk : t.length = k) (hi : i + k ≤ 64) :
    (strm s blk n).take (8 + i) ++ t.map B8 ++ (strm s blk n).drop (8 + i + k) = strm s (putBlk blk i t) n := by
  subst hk
  unfold strm
  rw [tri_put (st8 s) (by rw [List.length_map, hb]) (by rw [List.length_map]) hi]
  unfold putBlk
  simp only [List.map_append, List.map_take, List.map_drop]
theorem strm_n {s : St} {blk : List UInt8} {n : Nat} (hb : blk.length = 64) : (strm s blk n)[72]? = some (.int .u64 (n : Int)) := tri_n (st8 s) (by rw [List.length_map, hb])
theorem strm_setn {s : St} {blk : List UInt8} {n : Nat} (hb : blk.length = 64) (k : Nat) : (strm s blk n).set 72 (.int .u64 (k : Int)) = strm s blk k := tri_set (st8 s) (by rw [List.length_map, hb])
theorem strm_state {s : St} {blk : List UInt8} {n : Nat} (r : St) : (strm s blk n).take 0 ++ r.list.map W32 ++ (strm s blk n).drop (0 + 8) = strm r blk n := tri_head (st8 s)
theorem strm_get {s : St} {blk : List UInt8} {n : Nat} {j : Nat} {u : Value} (hj : (s.list.map W32)[j]? = some u) : (strm s blk n)[0 + j]? = some u := by
  have hl := (List.getElem?_eq_some_iff.1 hj).1
  unfold strm
  rw [Nat.zero_add, List.append_assoc, List.getElem?_append_left hl, hj]
theorem tri_mid {α : Type} {A B : List α} {c u : α} {j : Nat} (ha : A.length = 8) (hj : B[j]? = some u) : (A ++ B ++ [c])[8 + j]? = some u := by
  have hl := (List.getElem?_eq_some_iff.1 hj).1
  rw [List.append_assoc, List.getElem?_append_right (by omega), ha, Nat.add_sub_cancel_left, List.getElem?_append_left hl, hj]
theorem strm_blk {s : St} {blk : List UInt8} {n : Nat} {j : Nat} {u : Value} (hj : (blk.map B8)[j]? = some u) : (strm s blk n)[8 + j]? = some u := tri_mid (st8 s) hj
theorem strm_one (s : St) (blk : List UInt8) (n : Nat) : ∀ u ∈ strm s blk n, u.oneCell' = true := by
  intro u hu
  simp only [strm, List.mem_append, List.mem_map, List.mem_singleton] at hu
  rcases hu with (⟨x, _, rfl⟩ | ⟨x, _, rfl⟩) | rfl <;> rfl

theorem Begin_at (w : World) : Calls Tryd.prog 14 #[] w fun e w' => e = .returned (SV []) ∧ Below w.heap.size w w' := by
  have h : SV [] = .agg (strm H0 (List.replicate 64 0) 0).toArray := by unfold SV SC; rw [blkOf_nil, stOf_nil]; rfl
  rw [h]; exact begin_any w

theorem zero_SV (W : World) : (zeroValue 34).run Tryd.prog W = .ok (.agg (strm Z0 (List.replicate 64 0) 0).toArray) W := zero_strm W
set_option maxRecDepth 100000 in
set_option maxHeartbeats 2000000 in
theorem add_any (m : List UInt8) (x : ByteArray) (hm : m.length + x.size ≤ 1000000000) (w : World) (hL : Laid w) :
    Calls Tryd.prog 15 #[SV m, .string x] w fun e w' => e = .returned (SV (m ++ x.data.toList)) ∧ Below w.heap.size w w' := by
  have h3 := zero_strm
  have k2 : (strm Z0 (List.replicate 64 0) 0).length = 73 := strm_length _ (by simp) _
  generalize strm Z0 (List.replicate 64 0) 0 = Z at *
  have k2 := hide k2
  obtain ⟨S, hS⟩ : ∃ S, Hid (SC m = S) := ⟨_, rfl⟩
  unfold SV
  rw [hS.out]
  go_enter Tryd.func15, Tryd.ntmps15
  go_wp2_with fail
  have x2 : Box ((w.alloc (Obj.cells S.toArray 34)).alloc (Obj.cells Z.toArray 34)) w.heap.size 34 (SC m) := by rw [hS.out]; exact (Box.new w _ _).alloc _
  have x4 : Box ((w.alloc (Obj.cells S.toArray 34)).alloc (Obj.cells Z.toArray 34)) (w.heap.size + 1) 34 Z := box_next w _ _ _
  have b0 : Below w.heap.size w ((w.alloc (Obj.cells S.toArray 34)).alloc (Obj.cells Z.toArray 34)) := ((Below.refl _ _).alloc (Nat.le_refl _) _).alloc (by simp) _
  obtain ⟨B, hB⟩ : ∃ B, B = w.heap.size := ⟨_, rfl⟩
  rw [← hB] at x2 x4 b0 ⊢
  have HB := hide hB
  have hL0 := hide hL
  clear hB h3 hL
  generalize (w.alloc (Obj.cells S.toArray 34)).alloc (Obj.cells Z.toArray 34) = w0 at *
  have hxl := hide (show x.data.toList.length = x.size from Array.length_toList)
  go_loopg [1] x.size (fun g t w' => ∃ (c : List UInt8) (y : ByteArray), Hid (x.data.toList = c ++ y.data.toList) ∧ g = y.size ∧ c.length + y.size = x.size ∧ t = .string y ∧ Box w' B 34 (SC (m ++ c)) ∧ Box w' (B + 1) 34 Z ∧ Below B w w')
  case atStart => exact ⟨[], x, hide rfl, rfl, by simp, rfl, by rw [List.append_nil]; exact x2, x4, b0⟩
  case round =>
    clear x2 x4 b0
    obtain ⟨c, y, hc, hg, hcy, rfl, x2, x4, b0⟩ := hrel
    have HG := hide hg
    have HC := hide hcy
    have hn : (m ++ c).length ≤ 1000000000 := by rw [List.length_append]; omega
    obtain ⟨M, hM⟩ : ∃ M, Hid (m ++ c = M) := ⟨_, rfl⟩
    rw [hM.out] at x2 hn
    obtain ⟨N, hN⟩ : ∃ N, N = M.length := ⟨_, rfl⟩
    obtain ⟨p, hp⟩ : ∃ p, p = N % 64 := ⟨_, rfl⟩
    rw [← hN] at hn
    have hp63 : p ≤ 63 := by omega
    have hmod : (N : Int) % 64 = (p : Int) := by omega
    have hzM : (Tryd.prog.info? 34).map (·.size) = some (SC M).length := by rw [SC_len]; exact size_strm
    have hzM := hide hzM
    have hxs : y.size ≤ 1000000000 := by omega
    have HN := hide hN
    have HP := hide hp
    clear hg hcy hN hp
    by_cases hy : y.size = 0
    · have y0 := str_none hy
      go_wp2_with (first
        | (with_reducible refine load_box 37 34 _ 34 B 0 (SC M) (SC M) isAgg_strm hzM.out x2 rfl (fun j u hj => by rw [Nat.zero_add]; exact hj) ?_)
        | (with_reducible refine hold_store ?_))
      refine hide ?_
      refine store_all 34 _ _ 34 (B + 1) Z (SC M) (.agg (SC M).toArray) hzM.out x4 (by rfl) (by rfl) rfl (by rw [SC_len, k2.out]) (strm_one _ _ _) ?_
      intro w5 x5 hg5 hs5
      go_wp2_with fail
      refine bodyPost_ret (run_results_cell rfl rfl isAgg_strm hzM.out x5) rfl ⟨?_, ?_⟩
      · have e := hc.out
        rw [List.eq_nil_of_length_eq_zero (l := y.data.toList) hy, List.append_nil] at e
        rw [e, hM.out]
      · rw [← HB.out]
        exact b0.grown hg5 (Nat.le_of_lt x2.lt) (fun k hk => by cases hk; omega)
    · have q0 : wr.cell? ⟨B, 72, none⟩ = some (.int .u64 (N : Int)) := by rw [HN.out]; exact x2.at_ (strm_n (blkOf_len M))
      have y0 := str_some hy
      obtain ⟨k, hk⟩ : ∃ k, k = min y.size (64 - p) := ⟨_, rfl⟩
      have hk0 : k ≤ y.size := by omega
      have hk1' : 1 ≤ k := by omega
      have hk1 : k ≤ 64 - p := by omega
      have HK := hide hk
      clear hk
      have hkl : (y.data.toList.take k).length = k := by rw [List.length_take]; exact Nat.min_eq_left hk0
      obtain ⟨Y, hY⟩ : ∃ Y, Hid (y.data.toList.take k = Y) := ⟨_, rfl⟩
      rw [hY.out] at hkl
      have hkl := hide hkl
      have hkp : p + k ≤ 64 := by omega
      have hk64 : k ≤ 64 := by omega
      have nB : ∀ w3, Box w3 B 34 (strm (stOf M) (putBlk (blkOf M) p Y) N) → w3.cell? ⟨B, 72, none⟩ = some (.int .u64 (N : Int)) ∧ w3.frozen? ⟨B, 72, none⟩ = false := fun w3 h =>
        ⟨h.at_ (strm_n (by unfold putBlk; rw [List.length_append, List.length_append, List.length_take, List.length_drop, blkOf_len, hkl.out]; omega)), h.free 72⟩
      have nB := hide nB
      have hsz' : (y.extract k y.size).size = y.size - k := by
        have h := congrArg List.length (ext_list y k)
        rw [List.length_drop] at h
        exact h
      have hcat : x.data.toList = (c ++ Y) ++ (y.extract k y.size).data.toList := by
        rw [ext_list, List.append_assoc, ← hY.out, List.take_append_drop]
        exact hc.out
      have hMY : m ++ (c ++ Y) = M ++ Y := by rw [← List.append_assoc, hM.out]
      have hNk : (M ++ Y).length = N + k := by rw [List.length_append, hkl.out, HN.out]
      have hbl : (putBlk (blkOf M) p Y).length = 64 := by
        unfold putBlk; rw [List.length_append, List.length_append, List.length_take, List.length_drop, blkOf_len, hkl.out]; omega
      have hsz' := hide hsz'
      have hcat := hide hcat
      have hMY := hide hMY
      have hNk := hide hNk
      have hbl := hide hbl
      have hput : ∀ w3, Box w3 B 34 (strm (stOf M) (putBlk (blkOf M) p Y) N) → Box (w3.setCell ⟨B, 72, none⟩ (.int .u64 ((N : Int) + (k : Int)))) B 34 (strm (stOf M) (putBlk (blkOf M) p Y) (N + k)) := fun w3 h => by
        have h2 := h.put 72 (.int .u64 ((N + k : Nat) : Int))
        rw [strm_setn hbl.out (N + k), Int.natCast_add] at h2
        exact h2
      have hput := hide hput
      have hful : p + k = 64 ∨ p + k ≠ 64 := by omega
      have htest : (p + k = 64 → ((p : Int) + (k : Int) == 64) = true) ∧ (p + k ≠ 64 → ((p : Int) + (k : Int) == 64) = false) := by
        constructor
        · intro h; simp; omega
        · intro h; simp; omega
      rcases hful with hf | hf
      · have ht := htest.1 hf
        have hf := hide hf
        clear htest
        go_wp2_with (first
          | (with_reducible refine cut_var 15 31 5 64 _ _ _ Tryd.underlying31 size_u8 B 8 rfl p 64 (.inr ⟨_, rfl⟩) (.inl ⟨rfl, rfl⟩) (by omega) (by omega) (by omega) ?_)
          | (with_reducible refine hold_copy ?_))
        refine hide ?_
        (refine copy_str (o := ⟨some 17, _, _, _, _, _⟩) rfl _ _ 22 9 rfl 5 Tryd.underlying22 size_u8 B (8 + p) _ _ 34 (SC M) x2 (by rfl) y (by rfl) k HK.out (by rw [SC_len]; omega) ?_; intro w3 x3 hg3 hs3; unfold SC at x3; rw [hY.out, strm_put (blkOf_len M) k hkl.out hkp, ← HN.out] at x3; obtain ⟨q1, f1⟩ := nB.out w3 x3)
        go_wp2_with fail
        have bp := blkOf_full M Y (by rw [hkl.out, ← HN.out, ← HP.out]; exact hf.out)
        rw [← HN.out, ← HP.out] at bp
        obtain ⟨bp1, bp2⟩ := bp
        have z2 := hput.out w3 x3
        rw [bp1] at z2
        have z4 := (x4.grown hg3 (by simp)).far (p := ⟨B, 72, none⟩) (by simp) (.int .u64 ((N : Int) + (k : Int)))
        have zb := (b0.grown hg3 (Nat.le_of_lt x2.lt) (fun k hk => by cases hk; omega)).setCell (p := ⟨B, 72, none⟩) (by simp) (.int .u64 ((N : Int) + (k : Int)))
        have zL := hL0.out.mono zb (Nat.le_of_eq HB.out.symm)
        obtain ⟨D, hD⟩ : ∃ D, Hid (blkOf (M ++ Y) = D) := ⟨_, rfl⟩
        have hDl : D.length = 64 := by rw [← hD.out]; exact blkOf_len _
        rw [hD.out] at z2 bp2
        have hDl := hide hDl
        have bp2 := hide bp2
        clear bp1 x2 x3 x4 b0 q0 q1 f1 hg3 hs3 nB hput
        generalize w3.setCell ⟨B, 72, none⟩ (.int .u64 ((N : Int) + (k : Int))) = w4 at *
        refine wp_region_below_tail 6 (by kernel_rfl) (by kernel_rfl) ?_
        simp only [List.take_succ_cons, List.take_zero, List.drop_succ_cons, List.drop_zero]
        refine quiet_in (.pointer (some ⟨B, 0, none⟩)) rfl (fun w' _ => by kernel_rfl) ?_
        simp only [Act.put, List.setIfInBounds_toArray, List.set_cons_succ, List.set_cons_zero]
        refine quiet_load_box 32 30 _ 34 B 0 (strm (stOf M) D (N + k)) ((stOf M).list.map W32) isAgg_8 size_8 (by rintro w' ⟨q, rfl⟩; exact z2.under q.h) rfl (fun j u hj => strm_get hj) ?_
        simp only [Act.put, List.setIfInBounds_toArray, List.set_cons_succ, List.set_cons_zero]
        refine quiet_in (.pointer (some ⟨B, 8, none⟩)) rfl (fun w' _ => by kernel_rfl) ?_
        simp only [Act.put, List.setIfInBounds_toArray, List.set_cons_succ, List.set_cons_zero]
        refine quiet_cut_var 34 31 5 64 _ none none Tryd.underlying31 size_u8 B 8 rfl 0 64 (.inl ⟨rfl, rfl⟩) (.inl ⟨rfl, rfl⟩) (by omega) (by omega) (by omega) ?_
        simp only [Act.put, List.setIfInBounds_toArray, List.set_cons_succ, List.set_cons_zero]
        go_big_quiet_step ((go_at_call 30; refine onTop_call (compress_any (stOf M) D _ _ _ (zL.below (OnTop.h _)) ((z2.under (OnTop.h _)).sl 8 64 64 1 (D.map B8) (by rw [List.length_map, hDl.out]) (Nat.le_refl _) (by decide) (fun j u hj => strm_blk hj)))))
        refine quiet_in (.pointer (some ⟨B, 0, none⟩)) rfl (fun w' _ => by kernel_rfl) ?_
        simp only [Act.put, List.setIfInBounds_toArray, List.set_cons_succ, List.set_cons_zero]
        refine wpQuiet_nil ?_
        rintro w5 ⟨q, rfl⟩
        refine store_box 30 _ _ 34 B 0 (strm (stOf M) D (N + k)) ((comp (stOf M) D).list.map W32) (.agg ((comp (stOf M) D).list.map W32).toArray) (by rw [st8]; exact size_8) (z2.under q.h) (by rfl) (by rfl) rfl (by rw [st8, strm_length _ hDl.out]; omega) (one_map _ (fun _ => rfl) _) ?_
        intro w6 y2 hg6 hs6
        rw [st8, strm_state] at y2
        go_wp2_with fail
        go_roundg (y.extract k y.size).size
        case measure => rw [hsz'.out, HG.out]; omega
        case rel =>
          refine ⟨c ++ Y, y.extract k y.size, hcat, rfl, ?_, rfl, ?_, (z4.under q.h).grown hg6 (by simp), (zb.trans (q.h.mono (Nat.le_of_lt z2.lt))).grown hg6 (Nat.le_of_lt (z2.under q.h).lt) (fun k hk => by cases hk; omega)⟩
          · rw [List.length_append, hkl.out, hsz'.out]; have := HC.out; omega
          · unfold SC
            rw [hMY.out, hNk.out, bp2.out, hD.out]
            exact y2
      · have ht := htest.2 hf
        have hf := hide hf
        clear htest
        go_wp2_with (first
          | (with_reducible refine cut_var 15 31 5 64 _ _ _ Tryd.underlying31 size_u8 B 8 rfl p 64 (.inr ⟨_, rfl⟩) (.inl ⟨rfl, rfl⟩) (by omega) (by omega) (by omega) ?_)
          | (with_reducible refine hold_copy ?_))
        refine hide ?_
        (refine copy_str (o := ⟨some 17, _, _, _, _, _⟩) rfl _ _ 22 9 rfl 5 Tryd.underlying22 size_u8 B (8 + p) _ _ 34 (SC M) x2 (by rfl) y (by rfl) k HK.out (by rw [SC_len]; omega) ?_; intro w3 x3 hg3 hs3; unfold SC at x3; rw [hY.out, strm_put (blkOf_len M) k hkl.out hkp, ← HN.out] at x3; obtain ⟨q1, f1⟩ := nB.out w3 x3)
        go_wp2_with fail
        go_roundg (y.extract k y.size).size
        case measure => rw [hsz'.out, HG.out]; omega
        case rel =>
          have bp := blkOf_part M Y (by rw [hkl.out, ← HN.out, ← HP.out]; have := hf.out; omega)
          rw [← HN.out, ← HP.out] at bp
          obtain ⟨bp1, bp2⟩ := bp
          have z2 := hput.out w3 x3
          rw [bp1] at z2
          refine ⟨c ++ Y, y.extract k y.size, hcat, rfl, ?_, rfl, ?_, (x4.grown hg3 (by simp)).far (by simp) _, (b0.grown hg3 (Nat.le_of_lt x2.lt) (fun k hk => by cases hk; omega)).setCell (by simp) _⟩
          · rw [List.length_append, hkl.out, hsz'.out]; have := HC.out; omega
          · unfold SC
            rw [hMY.out, hNk.out, bp2]
            exact z2
end Go.Proofs.YtalicdpocgomkaaDoor
