/- The contracts of the functions that the law reaches, joined into one text. -/
import Derived.Test.YtfagjaabladgpaaDoorBaseBC
import Derived.Laws.BitsAllLaws
import Derived.Lib.AppendZerosOnto
import Derived.Lib.SliceRun
set_option linter.unusedVariables false
set_option linter.unusedSimpArgs false

section
namespace Go.Proofs.YtfagjaabladgpaaDoor
open Go.RowKit Go.Dx
def padN (n : Nat) : Nat := (119 - n % 64) % 64
def lenByte (n i : Nat) : UInt8 := UInt8.ofNat (8 * n / 2 ^ (56 - 8 * i))
def lenB (n k : Nat) : List UInt8 := (List.range k).map (lenByte n)
theorem lenB_succ (n k : Nat) : lenB n (k + 1) = lenB n k ++ [lenByte n k] := by simp [lenB, List.range_succ]
theorem lenB_length (n k : Nat) : (lenB n k).length = k := by simp [lenB]
def padTail (n : Nat) : List UInt8 := [128] ++ List.replicate (padN n) 0 ++ lenB n 8
def pad (m : List UInt8) : List UInt8 := m ++ padTail m.length
theorem lenByte_int (n i j : Nat) (hj : j = 56 - 8 * i) : (8 * (n : Int)) / 2 ^ j % 256 = ((lenByte n i).toNat : Int) := by
 subst hj
 unfold lenByte
 rw [UInt8.toNat_ofNat']
 simp
set_option maxRecDepth 100000 in
set_option maxHeartbeats 1000000 in
theorem padded_any (l : List UInt8) (hl : l.length ≤ 1000000000) (a : Option Addr) (n c : Nat) (w : World) (hs : Sl w 1 a n c (l.map B8)) :
  Calls Tryd.prog 75 #[.slice a n c] w (Gives 5 1 (pad l).length ((pad l).map B8) w) := by
 obtain rfl := hs.n_eq
 obtain ⟨N, hN⟩ : ∃ N, N = l.length := ⟨_, rfl⟩
 rw [← hN] at hs hl ⊢
 have HN := hide hN
 clear hN
 have oA := Own.built w w.heap.size 5 1 0 #[] (Nat.le_refl _) rfl (Nat.zero_le _)
 have b1 : Below w.heap.size w (w.alloc (.cells #[] 5)) := (Below.refl _ _).alloc (Nat.le_refl _) _
 go_enter Tryd.func75, Tryd.ntmps75
 go_wp2_with (first
  | (at_builtin; refine app_bs (o := ⟨some 8, _, _, _, _, _⟩) rfl _ _ rfl w w.heap.size _ _ _ _ rfl oA _ _ _ _ rfl (hs.alloc _) (by omega) (by simp) b1 ?_; intro a3 c3 w3 oB hg3 hb3; rw [Nat.zero_add] at oB)
  | (at_builtin; refine app_b (o := ⟨some 11, _, _, _, _, _⟩) rfl _ _ rfl w w.heap.size _ _ _ _ rfl oB _ rfl (by omega) hb3.size hb3 ?_; intro a4 c4 w4 oC hg4 hb4))
 have oC : Own w4 w.heap.size 5 1 a4 (N + 1) c4 ((l ++ [128] ++ List.replicate 0 0).map B8) := by
  have oC : Own w4 w.heap.size 5 1 a4 (N + 1) c4 ([] ++ l.map B8 ++ [B8 128]) := oC
  simpa using oC
 clear hg3 hg4 hb3 oB oA b1
 go_loopg [3] (padN N) (fun g x w' => ∃ (M : Nat) (a : Option Addr) (c : Nat), N + 1 ≤ M ∧ M ≤ N + 1 + padN N ∧ g = padN N - (M - N - 1) ∧ x = .slice a M c ∧ Own w' w.heap.size 5 1 a M c ((l ++ [128] ++ List.replicate (M - N - 1) 0).map B8) ∧ Below w.heap.size w w')
 case atStart => exact ⟨N + 1, a4, c4, by omega, by omega, by omega, rfl, by rw [show N + 1 - N - 1 = 0 by omega]; exact oC, hb4⟩
 case round =>
  obtain ⟨M, a5, c5, hM0, hM1, hg, rfl, oC, hb⟩ := hrel
  have HG := hide hg
  clear hg
  have hp : padN N ≤ 63 := by unfold padN; omega
  by_cases hlt : M < N + 1 + padN N
  ·have ht : ((M : Int) % 64 != 56) = true := by
    unfold padN at hlt
    simp
    omega
   go_wp2_with (at_builtin; refine app_b (o := ⟨some 18, _, _, _, _, _⟩) rfl _ _ rfl w w.heap.size _ _ _ _ rfl oC _ rfl (by omega) hb.size hb ?_; intro a6 c6 w6 oD hg6 hb6)
   go_roundg (padN N - (M + 1 - N - 1))
   case measure => have := HG.out; omega
   case rel =>
    refine ⟨M + 1, a6, c6, by omega, by omega, by omega, rfl, ?_, hb6⟩
    rw [show M + 1 - N - 1 = (M - N - 1) + 1 by omega, List.replicate_succ']
    have oD : Own w6 w.heap.size 5 1 a6 (M + 1) c6 ((l ++ [128] ++ List.replicate (M - N - 1) 0).map B8 ++ [B8 0]) := oD
    simpa using oD
  ·have hM : M = N + 1 + padN N := by omega
   have ht : ((M : Int) % 64 != 56) = false := by
    unfold padN at hM
    simp
    omega
   have e1 : M - N - 1 = padN N := by omega
   rw [e1] at oC
   have HM := hide hM
   clear hM e1 HG hlt
   go_wp2
   obtain ⟨wo, rfl⟩ : ∃ wo : World, wo = wr := ⟨_, rfl⟩
   go_loopg [3, 5] 8 (fun g x i w' => ∃ (k : Nat) (a : Option Addr) (c : Nat), k ≤ 8 ∧ g = 8 - k ∧ i = .int .i64 k ∧ x = .slice a (M + k) c ∧ Own w' w.heap.size 5 1 a (M + k) c ((l ++ [128] ++ List.replicate (padN N) 0 ++ lenB N k).map B8) ∧ Below w.heap.size w w')
   case atStart => exact ⟨0, a5, c5, by omega, by omega, rfl, rfl, by simpa [lenB] using oC, hb⟩
   case round =>
    clear oC hb
    obtain ⟨k, a6, c6, hk, hg, rfl, rfl, oC, hb⟩ := hrel
    have HG := hide hg
    clear hg
    by_cases hlt : k < 8
    ·go_wp2_with (at_builtin; refine app_b (o := ⟨some 35, _, _, _, _, _⟩) rfl _ _ rfl w w.heap.size _ _ _ _ rfl oC _ rfl (by omega) hb.size hb ?_; intro a7 c7 w7 oD hg7 hb7)
     go_roundg (8 - (k + 1))
     case measure => have := HG.out; omega
     case rel =>
      refine ⟨k + 1, a7, c7, by omega, rfl, by go_num, rfl, ?_, hb7⟩
      rw [lenByte_int N k _ rfl] at oD
      rw [lenB_succ, ← List.append_assoc, List.map_append]
      exact oD
    ·obtain rfl : k = 8 := by omega
     have e : pad l = l ++ [128] ++ List.replicate (padN N) 0 ++ lenB N 8 := by unfold pad padTail; rw [← HN.out]; simp
     have el : (pad l).length = M + 8 := by
      rw [e]
      simp only [List.length_append, List.length_replicate, lenB_length, List.length_singleton]
      have := HM.out
      have := HN.out
      omega
     have el := hide el
     have e := hide e
     go_wp2
     go_ret
     unfold Gives
     rw [el.out, e.out]
     exact ⟨a6, c6, rfl, oC, hb⟩
end Go.Proofs.YtfagjaabladgpaaDoor
end

section
/- A message that is hashed piece by piece: the state, the last block (with what stands behind its bytes) and the length, as functions of the message. No Go. -/
namespace Go.Dx
def blocks (m : List UInt8) : Nat → HSt
 | 0 => H0
 | k + 1 => comp (blocks m k) ((m.drop (64 * k)).take 64)
theorem blocks_append (m t : List UInt8) : ∀ k, 64 * k ≤ m.length → blocks (m ++ t) k = blocks m k
 | 0, _ => rfl
 | k + 1, h => by
  have ih := blocks_append m t k (by omega)
  rw [blocks, blocks, ih, List.drop_append_of_le_length (by omega), List.take_append_of_le_length (by rw [List.length_drop]; omega)]
def putBlk (blk : List UInt8) (i : Nat) (t : List UInt8) : List UInt8 := blk.take i ++ t ++ blk.drop (i + t.length)
def stale (m : List UInt8) : List UInt8 := if m.length / 64 = 0 then List.replicate 64 0 else (m.drop (64 * (m.length / 64 - 1))).take 64
def blkOf (m : List UInt8) : List UInt8 := m.drop (64 * (m.length / 64)) ++ (stale m).drop (m.length % 64)
def stOf (m : List UInt8) : HSt := blocks m (m.length / 64)
theorem stale_len (m : List UInt8) : (stale m).length = 64 := by
 unfold stale
 split
 ·simp
 ·rw [List.length_take, List.length_drop]; omega
theorem blkOf_len (m : List UInt8) : (blkOf m).length = 64 := by
 unfold blkOf
 rw [List.length_append, List.length_drop, List.length_drop, stale_len]; omega
theorem blkOf_nil : blkOf [] = List.replicate 64 0 := by decide
theorem stOf_nil : stOf [] = H0 := rfl
theorem tail_len (m : List UInt8) : (m.drop (64 * (m.length / 64))).length = m.length % 64 := by rw [List.length_drop]; omega
theorem put_list (M t D : List UInt8) : putBlk (M ++ D.drop M.length) M.length t = M ++ t ++ D.drop (M.length + t.length) := by
 unfold putBlk
 rw [List.take_left, List.drop_append, List.drop_eq_nil_of_le (by omega), List.nil_append, Nat.add_sub_cancel_left, List.drop_drop]
theorem put_eq (m t : List UInt8) : putBlk (blkOf m) (m.length % 64) t = m.drop (64 * (m.length / 64)) ++ t ++ (stale m).drop (m.length % 64 + t.length) := by
 have h := put_list (m.drop (64 * (m.length / 64))) t (stale m)
 rw [tail_len] at h
 exact h
theorem blkOf_part (m t : List UInt8) (h : m.length % 64 + t.length < 64) : putBlk (blkOf m) (m.length % 64) t = blkOf (m ++ t) ∧ stOf (m ++ t) = stOf m := by
 have e1 : (m ++ t).length / 64 = m.length / 64 := by rw [List.length_append]; omega
 have e2 : (m ++ t).length % 64 = m.length % 64 + t.length := by rw [List.length_append]; omega
 have e3 : stale (m ++ t) = stale m := by
  unfold stale
  rw [e1]
  split
  ·rfl
  ·rw [List.drop_append_of_le_length (by omega), List.take_append_of_le_length (by rw [List.length_drop]; omega)]
 refine ⟨?_, ?_⟩
 ·rw [put_eq]
  unfold blkOf
  rw [e1, e2, e3, List.drop_append_of_le_length (by omega)]
 ·unfold stOf
  rw [e1, blocks_append _ _ _ (by omega)]
theorem blkOf_full (m t : List UInt8) (h : m.length % 64 + t.length = 64) : putBlk (blkOf m) (m.length % 64) t = blkOf (m ++ t) ∧ stOf (m ++ t) = comp (stOf m) (blkOf (m ++ t)) := by
 have e1 : (m ++ t).length / 64 = m.length / 64 + 1 := by rw [List.length_append]; omega
 have e2 : (m ++ t).length % 64 = 0 := by rw [List.length_append]; omega
 have e3 : stale (m ++ t) = m.drop (64 * (m.length / 64)) ++ t := by
  unfold stale
  rw [e1, if_neg (by omega), Nat.add_sub_cancel, List.drop_append_of_le_length (by omega), List.take_of_length_le (by rw [List.length_append, tail_len]; omega)]
 have e4 : blkOf (m ++ t) = m.drop (64 * (m.length / 64)) ++ t := by
  unfold blkOf
  rw [e1, e2, e3, List.drop_eq_nil_of_le (by rw [List.length_append]; omega), List.nil_append, List.drop_zero]
 refine ⟨?_, ?_⟩
 ·rw [put_eq, e4, (List.drop_eq_nil_of_le (by rw [stale_len]; omega) : (stale m).drop (m.length % 64 + t.length) = []), List.append_nil]
 ·rw [e4]
  unfold stOf
  rw [e1, blocks, blocks_append _ _ _ (by omega), List.drop_append_of_le_length (by omega), List.take_of_length_le (by rw [List.length_append, tail_len]; omega)]
end Go.Dx
end

section
namespace Go.Proofs.YtfagjaabladgpaaDoor
open Go.RowKit Go.Dx
def wbyte (ws : List UInt32) (i : Nat) : UInt8 := UInt8.ofNat ((ws.getD (i / 4) 0).toNat / 2 ^ (24 - 8 * (i % 4)))
def bytesOf (ws : List UInt32) (k : Nat) : List UInt8 := (List.range k).map (wbyte ws)
theorem bytesOf_succ (ws : List UInt32) (k : Nat) : bytesOf ws (k + 1) = bytesOf ws k ++ [wbyte ws k] := by simp [bytesOf, List.range_succ]
theorem bytesOf_length (ws : List UInt32) (k : Nat) : (bytesOf ws k).length = k := by simp [bytesOf]
def sha (m : List UInt8) : List UInt8 := bytesOf (blocks (pad m) ((pad m).length / 64)).list 32
def zero32 : List UInt8 := List.replicate 32 0
def strm (s : HSt) (blk : List UInt8) (n : Nat) : List Value := s.list.map W32 ++ blk.map B8 ++ [Value.int .u64 (n : Int)]
theorem strm_length (s : HSt) {blk : List UInt8} (h : blk.length = 64) (n : Nat) : (strm s blk n).length = 73 := by simp [strm, HSt.list, h]
theorem size_strm : (Tryd.prog.info? 69).map (·.size) = some 73 := by kernel_rfl
theorem isAgg_strm : IsAgg Tryd.prog 69 := .inr ⟨_, Tryd.underlying69⟩
def Z0 : HSt := ⟨0, 0, 0, 0, 0, 0, 0, 0⟩
theorem zero_strm (W : World) : (zeroValue 69).run Tryd.prog W = .ok (.agg (strm Z0 (List.replicate 64 0) 0).toArray) W := by kernel_rfl
theorem build_h0 (W : World) : (Instr.build 65 #[(0, .int .u32 1779033703), (1, .int .u32 3144134277), (2, .int .u32 1013904242), (3, .int .u32 2773480762), (4, .int .u32 1359893119), (5, .int .u32 2600822924), (6, .int .u32 528734635), (7, .int .u32 1541459225)]).run Tryd.prog W = .ok (.agg (H0.list.map W32).toArray) W := by kernel_rfl
theorem build_strm (W : World) : (Instr.build 69 #[(0, .agg (H0.list.map W32).toArray)]).run Tryd.prog W = .ok (.agg (strm H0 (List.replicate 64 0) 0).toArray) W := by kernel_rfl
set_option maxRecDepth 100000 in
set_option maxHeartbeats 1000000 in
theorem begin_any (w : World) : Calls Tryd.prog 30 #[] w fun e w' => e = .returned (.agg (strm H0 (List.replicate 64 0) 0).toArray) ∧ Below w.heap.size w w' := by
 have h1 := build_h0
 have h2 := build_strm
 have h3 := zero_strm
 have k1 : (strm H0 (List.replicate 64 0) 0).length = 73 := strm_length _ (by simp) _
 have k2 : (strm Z0 (List.replicate 64 0) 0).length = 73 := strm_length _ (by simp) _
 have k3 : ∀ u ∈ strm H0 (List.replicate 64 0) 0, u.oneCell' = true := by
  intro u hu
  simp only [strm, List.mem_append, List.mem_map, List.mem_singleton] at hu
  rcases hu with (⟨x, _, rfl⟩ | ⟨x, _, rfl⟩) | rfl <;> rfl
 generalize strm H0 (List.replicate 64 0) 0 = S at *
 generalize strm Z0 (List.replicate 64 0) 0 = Z at *
 generalize H0.list.map W32 = L at *
 have hz : (Tryd.prog.info? 69).map (·.size) = some S.length := by rw [k1]; exact size_strm
 have hl : S.length = Z.length := by rw [k1, k2]
 have hz := hide hz
 have hl := hide hl
 have k3 := hide k3
 clear k1 k2
 go_enter Tryd.func30, Tryd.ntmps30
 go_wp2_with (with_reducible refine hold_build ?_)
 refine hide ?_
 refine val_at rfl (.agg L.toArray) (by simp [execOp, Act.eval, h1]) ?_
 go_wp2_with (with_reducible refine hold_build ?_)
 refine hide ?_
 refine val_at rfl (.agg S.toArray) (by simp [execOp, Act.eval, h2]) ?_
 go_wp2_with (with_reducible refine hold_store ?_)
 refine hide ?_
 refine store_all 69 _ _ 69 _ Z S (.agg S.toArray) hz.out (Box.new w _ _) (by rfl) (by rfl) rfl hl.out k3.out ?_
 intro w2 x2 hg hs
 go_wp2_with fail
 exact bodyPost_ret (run_results_cell rfl rfl isAgg_strm hz.out x2) rfl ⟨rfl, ((Below.refl _ _).alloc (Nat.le_refl _) _).grown hg (by simp) (fun k hk => by cases hk; exact Nat.le_refl _)⟩
end Go.Proofs.YtfagjaabladgpaaDoor
end

section
namespace Go.Proofs.YtfagjaabladgpaaDoor
open Go.RowKit Go.Dx

theorem mix_raw (x : UInt32) (i j k : Nat) : bits .xor .u32 (bits .xor .u32 ((ror x i).toNat : Int) ((ror x j).toNat : Int)) ((ror x k).toNat : Int) = ((mix3 x i j k).toNat : Int) := by rw [w_xor, w_xor]; rfl
theorem size_32 : (Tryd.prog.info? 72).map (·.size) = some 32 := by kernel_rfl
theorem isAgg_32 : IsAgg Tryd.prog 72 := .inl ⟨_, _, Tryd.underlying72⟩
theorem byte_put (ws : List UInt32) (x : UInt32) (t : Nat) (h : ws[t / 4]? = some x) : Value.int .u8 ((x.toNat : Int) / 2 ^ (24 - 8 * (t % 4)) % 256) = B8 (wbyte ws t) := by
 unfold wbyte
 rw [List.getD_eq_getElem?_getD, h]
 show Value.int .u8 _ = Value.int .u8 _
 congr 1
theorem bytes_next (ws : List UInt32) (t : Nat) (h : t < 32) : ((bytesOf ws t ++ List.replicate (32 - t) 0).map B8).set t (B8 (wbyte ws t)) = (bytesOf ws (t + 1) ++ List.replicate (32 - (t + 1)) 0).map B8 := by
 obtain ⟨d, hd⟩ : ∃ d, 32 - t = d + 1 := ⟨31 - t, by omega⟩
 have e : 32 - (t + 1) = d := by omega
 rw [bytesOf_succ, hd, e, ← List.map_set, List.set_append_right _ _ (by rw [bytesOf_length]; exact Nat.le_refl _), bytesOf_length, Nat.sub_self, List.replicate_succ, List.set_cons_zero, List.append_assoc]
 rfl
theorem pad_len (m : List UInt8) : (pad m).length % 64 = 0 := by
 unfold pad padTail
 simp only [List.length_append, List.length_replicate, lenB_length, List.length_singleton]
 unfold padN
 omega
theorem pad_ge (m : List UInt8) : m.length + 9 ≤ (pad m).length ∧ (pad m).length ≤ m.length + 72 := by
 unfold pad padTail
 simp only [List.length_append, List.length_replicate, lenB_length, List.length_singleton]
 unfold padN
 omega
set_option maxRecDepth 100000 in
set_option maxHeartbeats 2000000 in
theorem ref_Sum (l : List UInt8) (hl : l.length ≤ 100000000) (a : Option Addr) (n c : Nat) (w : World) (hL : LaidR w) (hs : Sl w 1 a n c (l.map B8)) :
  Calls Tryd.prog 67 #[.slice a n c] w fun e w' => e = .returned (.agg ((sha l).map B8).toArray) ∧ Below w.heap.size w w' := by
 obtain ⟨M, hM⟩ : ∃ M, Hid (pad l = M) := ⟨_, rfl⟩
 have m0 := pad_len l
 have m1 := pad_ge l
 have hP := hide fun (a : Option Addr) (n c : Nat) (w : World) (hs : Sl w 1 a n c (l.map B8)) => padded_any l (by omega) a n c w hs
 rw [hM.out] at m0 m1 hP
 obtain ⟨N, hN⟩ : ∃ N, M.length = 64 * N := ⟨M.length / 64, by omega⟩
 have hN1 : N ≤ 2000000 := by omega
 have hNb := hide hN
 rw [hN] at hP
 have h8 := build_h0
 generalize hH0 : H0.list.map W32 = L0 at *
 have hH0 := hide hH0
 clear m0 m1 hN
 go_enter Tryd.func67, Tryd.ntmps67
 go_wp2_with (with_reducible refine hold_build ?_)
 refine hide ?_
 refine val_at rfl (.agg L0.toArray) (by simp [execOp, Act.eval, h8]) ?_
 go_wp2_with (with_reducible refine hold_store ?_)
 refine hide ?_
 have L8 : L0.length = 8 := by rw [← hH0.out]; rfl
 have hz8 : (Tryd.prog.info? 65).map (·.size) = some L0.length := by rw [L8]; exact size_8
 have hO8 : ∀ u ∈ L0, u.oneCell' = true := by rw [← hH0.out]; exact one_map _ (fun _ => rfl) _
 refine store_all 65 _ _ 65 _ _ L0 (.agg L0.toArray) hz8 (box_next w _ _ _) (by rfl) (by rfl) rfl (by rw [L8]; exact Eq.refl 8) hO8 ?_
 intro w2 x3 hg2 hs2
 have x2 : Box w2 w.heap.size 72 (zero32.map B8) := ((Box.new w 72 ((zero32.map B8).toArray)).alloc _).grown hg2 (by simp)
 have b2 : Below w.heap.size w w2 := (((Below.refl _ _).alloc (Nat.le_refl _) _).alloc (by simp) _).grown hg2 (by simp; omega) (fun k hk => by cases hk; omega)
 have hL2 := hL.below b2
 have hs2' := hs.below b2
 obtain ⟨B, hB⟩ : ∃ B, B = w.heap.size := ⟨_, rfl⟩
 rw [← hB] at b2 x2 x3 ⊢
 have HB := hide hB
 have hz8 := hide hz8
 have L8 := hide L8
 have hL0 := hide hL
 clear hg2 hs2 hB h8 hO8 hL hs
 have hlt2 := x2.lt
 go_wp2_with fail
 refine (hP.out _ _ _ _ hs2').mono ?_
 rintro e w3 ⟨a4, c4, rfl, o4, h3⟩
 have o4 := o4.mono (B' := B + 2) x3.lt
 have x2 := x2.under h3
 have x3 := x3.under h3
 have hL3 := hL2.below h3
 have b3 := b2.trans (h3.mono (Nat.le_of_lt hlt2))
 clear h3 b2 hs2' hP hL2
 clear hlt2
 go_wp2_with fail
 obtain ⟨KS, hKS⟩ : ∃ KS, Hid (K256 = KS) := ⟨_, rfl⟩
 have hKl := hide (show KS.length = 64 by rw [← hKS.out]; rfl)
 go_loopg [5] N (fun g i w' => ∃ k : Nat, k ≤ N ∧ g = N - k ∧ i = .int .i64 ((64 * k : Nat) : Int) ∧ Box w' (B + 1) 65 ((blocks M k).list.map W32) ∧ Box w' B 72 (zero32.map B8) ∧ Own w' (B + 2) 5 1 a4 (64 * N) c4 (M.map B8) ∧ LaidR w' ∧ Below B w w')
 case atStart => exact ⟨0, by omega, by omega, rfl, by rw [show blocks M 0 = H0 from rfl, hH0.out]; exact x3, x2, o4, hL3, b3⟩
 case round =>
  clear x2 x3 o4 hL3 b3
  obtain ⟨k, hk, hg, rfl, x3, x2, o4, hL3, b3⟩ := hrel
  have HG := hide hg
  clear hg
  by_cases hlt : k < N
  ·obtain ⟨p, hp⟩ : ∃ p, p = 64 * k := ⟨_, rfl⟩
   rw [← hp]
   have hp1 : p + 64 ≤ 64 * N := by omega
   have HP := hide hp
   clear hp
   go_wp2_with (with_reducible refine cut_b 33 _ _ _ _ _ _ _ rfl o4.sl _ _ _ _ p (p + 64) rfl rfl (by omega) (by omega) (by omega) (by omega) ?_; intro a5 s5 _)
   obtain ⟨bl, hbl⟩ : ∃ bl, Hid ((M.drop p).take (p + 64 - p) = bl) := ⟨_, rfl⟩
   have e64 : p + 64 - p = 64 := by omega
   rw [hbl.out] at s5
   rw [e64] at s5
   obtain ⟨ws, hws⟩ : ∃ ws, Hid (wl bl 64 = ws) := ⟨_, rfl⟩
   have hwl : ws.length = 64 := by rw [← hws.out]; exact wl_length bl 64
   have hC := words_any bl a5 (c4 - p) wr s5
   rw [hws.out] at hC
   have hzw : (Tryd.prog.info? 118).map (·.size) = some (ws.map W32).length := by rw [List.length_map, hwl]; exact size_64
   have hlw : (ws.map W32).length = ((List.replicate 64 (0 : UInt32)).map W32).length := by rw [List.length_map, List.length_map, List.length_replicate, hwl]
   have hzw := hide hzw
   have hlw := hide hlw
   have hwl := hide hwl
   clear s5 e64
   have hBw := Nat.le_of_lt x2.lt
   refine hC.mono ?_
   rintro e w6 ⟨rfl, h6⟩
   have x2 := x2.under h6
   have x3 := x3.under h6
   have o4 := o4.below h6
   have hL3 := hL3.below h6
   have b3 := b3.trans (h6.mono hBw)
   clear h6 hC
   go_wp2_with (with_reducible refine hold_store ?_)
   refine hide ?_
   refine store_all 118 _ _ 118 _ _ (ws.map W32) (.agg (ws.map W32).toArray) hzw.out (box_zero _ _ _ _ rfl (List.replicate 64 (0 : UInt32)) rfl) (by rfl) (by rfl) rfl hlw.out (one_map _ (fun _ => rfl) _) ?_
   intro w7 x6 hg7 hs7
   have hg6 : B + 1 < w6.heap.size := x3.lt
   have x2 := (x2.alloc (.cells ((List.replicate 64 (0 : UInt32)).map W32).toArray 118)).grown hg7 (by simp; omega)
   have x3 := (x3.alloc (.cells ((List.replicate 64 (0 : UInt32)).map W32).toArray 118)).grown hg7 (by simp; omega)
   have b67 : Below w6.heap.size w6 w7 := ((Below.refl _ _).alloc (Nat.le_refl _) _).grown hg7 (by simp) (fun k hk => by cases hk; exact Nat.le_refl _)
   have o4 := o4.below b67
   have hL3 := hL3.below b67
   have b3 := b3.trans (b67.mono (by omega))
   obtain ⟨g6, hg6'⟩ : ∃ g, g = w6.heap.size := ⟨_, rfl⟩
   rw [← hg6'] at x6 ⊢
   clear hg7 hs7 b67 hg6 hg6'
   obtain ⟨s, hs⟩ : ∃ s, Hid (blocks M k = s) := ⟨_, rfl⟩
   rw [hs.out] at x3
   obtain ⟨s0, s1, s2, s3, s4, s5, s6, s7⟩ := s
   have x3 : Box w7 (B + 1) 65 [W32 s0, W32 s1, W32 s2, W32 s3, W32 s4, W32 s5, W32 s6, W32 s7] := x3
   have q0 : w7.cell? ⟨B + 1, 0, none⟩ = some (W32 s0) := x3.at_ rfl
   have q1 : w7.cell? ⟨B + 1, 1, none⟩ = some (W32 s1) := x3.at_ rfl
   have q2 : w7.cell? ⟨B + 1, 2, none⟩ = some (W32 s2) := x3.at_ rfl
   have q3 : w7.cell? ⟨B + 1, 3, none⟩ = some (W32 s3) := x3.at_ rfl
   have q4 : w7.cell? ⟨B + 1, 4, none⟩ = some (W32 s4) := x3.at_ rfl
   have q5 : w7.cell? ⟨B + 1, 5, none⟩ = some (W32 s5) := x3.at_ rfl
   have q6 : w7.cell? ⟨B + 1, 6, none⟩ = some (W32 s6) := x3.at_ rfl
   have q7 : w7.cell? ⟨B + 1, 7, none⟩ = some (W32 s7) := x3.at_ rfl
   go_wp2_with fail
   go_quiet (fail)
   go_wp2_with fail
   have y3 := x3
   have y2 := x2
   have y4 := o4
   have yL := hL3
   have yb := b3
   have hKa := hL3.a
   rw [hKS.out] at hKa
   have hKa := hide hKa
   clear q0 q1 q2 q3 q4 q5 q6 q7
   obtain ⟨wo, rfl⟩ : ∃ wo : World, wo = wr := ⟨_, rfl⟩
   go_loopg [7, 8, 9, 10, 11, 12, 13, 14, 15] 64 (fun g y7 y8 y9 y10 y11 y12 y13 y14 i w' => ∃ (t m : Nat), t ≤ 64 ∧ g = 64 - t ∧ (∃ r, rnds KS ws ⟨s0, s1, s2, s3, s4, s5, s6, s7⟩ t = r ∧ y7 = W32 r.a ∧ y8 = W32 r.b ∧ y9 = W32 r.c ∧ y10 = W32 r.d ∧ y11 = W32 r.e ∧ y12 = W32 r.f ∧ y13 = W32 r.g ∧ y14 = W32 r.h) ∧ i = .int .i64 t ∧ w' = w7.drewN m)
   case atStart => exact ⟨0, _, by omega, by omega, ⟨_, rfl, rfl, rfl, rfl, rfl, rfl, rfl, rfl, rfl⟩, rfl, rfl⟩
   case round =>
    obtain ⟨t, m, ht, hg, ⟨r, hr, rfl, rfl, rfl, rfl, rfl, rfl, rfl, rfl⟩, rfl, rfl⟩ := hrel
    have HG2 := hide hg
    have HR := hide hr
    clear hg hr
    obtain ⟨a0, b0, c0, d0, e0, f0, g0, h0⟩ := r
    by_cases hlt2 : t < 64
    ·obtain ⟨kk, hk2⟩ : ∃ k, KS[t]? = some k := ⟨KS[t]'(by rw [hKl.out]; exact hlt2), by simp⟩
     obtain ⟨wt, hwt⟩ : ∃ k, ws[t]? = some k := ⟨ws[t]'(by rw [hwl.out]; exact hlt2), by simp⟩
     have q8 : w7.cell? ⟨g6, t, none⟩ = some (W32 wt) := x6.at_ (box_at hwt)
     have q9 : w7.cell? ⟨1, t, none⟩ = some (W32 kk) := hKa.out t kk hk2
     have it : (t : Int) < 64 := by omega
     have HN : Hid (rnds KS ws ⟨s0, s1, s2, s3, s4, s5, s6, s7⟩ (t + 1) = rnd ⟨a0, b0, c0, d0, e0, f0, g0, h0⟩ kk wt) := by
      show _ = _
      rw [rnds, HR.out, List.getD_eq_getElem?_getD, List.getD_eq_getElem?_getD, hk2, hwt]
      rfl
     clear hk2 hwt
     go_wp2_with fail
     go_cut [16] from 55 to 81 (fun x w' => x = W32 (h0 + mix3 e0 6 11 25 + ((e0 &&& f0) ^^^ ((e0 ^^^ (-1)) &&& g0)) + kk + wt) ∧ ∃ n, w' = w7.drewN n)
     case first =>
      go_quiet (first | (go_at_call_of 77 (Value.int IntKind.i64 6); exact quiet_moreH (rotr_c _ 6 6 rfl (by decide) (by decide) _)) | (go_at_call_of 77 (Value.int IntKind.i64 11); exact quiet_moreH (rotr_c _ 11 11 rfl (by decide) (by decide) _)) | (go_at_call_of 77 (Value.int IntKind.i64 25); exact quiet_moreH (rotr_c _ 25 25 rfl (by decide) (by decide) _)))
      go_wp2_with fail
      go_meet
      refine ⟨val_w ?_, _, World.drewN_drewN _ _ _⟩
      rw [mix_raw, ch_raw']
      exact sum_x _ _ _ _ _
     case rest =>
      obtain ⟨rfl, n2, rfl⟩ := hcut
      generalize hX : h0 + mix3 e0 6 11 25 + ((e0 &&& f0) ^^^ ((e0 ^^^ (-1)) &&& g0)) + kk + wt = X
      have hX := hide hX
      go_wp2_with fail
      refine (rotr_c _ 2 2 rfl (by decide) (by decide) _).mono ?_
      rintro e w' ⟨rfl, n3, rfl⟩
      go_wp2_with fail
      refine (rotr_c _ 13 13 rfl (by decide) (by decide) _).mono ?_
      rintro e w' ⟨rfl, n4, rfl⟩
      go_wp2_with fail
      refine (rotr_c _ 22 22 rfl (by decide) (by decide) _).mono ?_
      rintro e w' ⟨rfl, n5, rfl⟩
      go_wp2_with fail
      go_roundg (64 - (t + 1))
      case measure => have := HG2.out; omega
      case rel =>
       refine ⟨t + 1, _, by omega, rfl, ⟨_, HN.out, val_w ?_, rfl, rfl, rfl, val_w ?_, rfl, rfl, rfl⟩, by go_num, rfl⟩
       ·rw [mix_raw, maj_raw, w_add', w_add', ← hX.out]
        rfl
       ·rw [w_add', ← hX.out]
        rfl
    ·obtain rfl : t = 64 := by omega
     have q0 : w7.cell? ⟨B + 1, 0, none⟩ = some (W32 s0) := y3.at_ rfl
     have q1 : w7.cell? ⟨B + 1, 1, none⟩ = some (W32 s1) := y3.at_ rfl
     have q2 : w7.cell? ⟨B + 1, 2, none⟩ = some (W32 s2) := y3.at_ rfl
     have q3 : w7.cell? ⟨B + 1, 3, none⟩ = some (W32 s3) := y3.at_ rfl
     have q4 : w7.cell? ⟨B + 1, 4, none⟩ = some (W32 s4) := y3.at_ rfl
     have q5 : w7.cell? ⟨B + 1, 5, none⟩ = some (W32 s5) := y3.at_ rfl
     have q6 : w7.cell? ⟨B + 1, 6, none⟩ = some (W32 s6) := y3.at_ rfl
     have q7 : w7.cell? ⟨B + 1, 7, none⟩ = some (W32 s7) := y3.at_ rfl
     go_wp2_with (with_reducible refine hold_store ?_)
     refine hide ?_
     refine store_all 65 _ _ 65 (B + 1) _ [W32 (s0 + a0), W32 (s1 + b0), W32 (s2 + c0), W32 (s3 + d0), W32 (s4 + e0), W32 (s5 + f0), W32 (s6 + g0), W32 (s7 + h0)] _ size_8 (y3.drewN m) rfl rfl (by show #[_, _, _, _, _, _, _, _] = _; rw [w_add', w_add', w_add', w_add', w_add', w_add', w_add', w_add']) (Eq.refl 8) (by simp [Value.oneCell']) ?_
     intro w8 z3 hg8 hs8
     go_wp2_with fail
     go_roundg (N - (k + 1))
     case measure => have := HG.out; omega
     case rel =>
      have hd : ∀ n, Below B w7 (w7.drewN n) := fun n => ⟨(Below.refl B w7).os, (Below.refl B w7).tape, (Below.refl B w7).output, (Below.refl B w7).size, fun _ _ => rfl⟩
      have hb78 : Below B w7 w8 := (hd m).grown hg8 (by have := y2.lt; simp; omega) (fun k hk => by cases hk; omega)
      have y4 : Own (w7.drewN m) (B + 2) 5 1 a4 (64 * N) c4 (M.map B8) := y4
      refine ⟨k + 1, by omega, rfl, by have := HP.out; go_num, ?_, ?_, ?_, ?_, ?_⟩
      ·have e1 : blocks M (k + 1) = comp (blocks M k) ((M.drop (64 * k)).take 64) := rfl
       have e2 : p + 64 - p = 64 := by omega
       have e3 := hbl.out
       rw [e2, HP.out] at e3
       rw [e1, hs.out, e3]
       unfold comp
       rw [hws.out, hKS.out, HR.out]
       exact z3
      ·exact (y2.drewN m).grown hg8 (by simp)
      ·exact y4.kept hg8 (fun q hq hc => by subst hq; have := y4.base.1; have := Option.some.inj hc; omega)
      ·exact hL0.out.mono (yb.trans hb78) (Nat.le_of_eq HB.out.symm)
      ·exact yb.trans hb78
  ·have hkn : k = N := by omega
   subst hkn
   obtain ⟨S8, hS8⟩ : ∃ L, Hid ((blocks M k).list = L) := ⟨_, rfl⟩
   have hl8 := hide (show S8.length = 8 by rw [← hS8.out]; exact mix3_lists _)
   rw [hS8.out] at x3
   go_wp2_with fail
   have y3 := x3.alloc (.cells ((zero32.map B8).toArray) 72)
   have y2 := x2.alloc (.cells ((zero32.map B8).toArray) 72)
   have yb := b3.alloc (Nat.le_of_lt x2.lt) (.cells ((zero32.map B8).toArray) 72)
   have y5 := Box.new wr 72 ((zero32.map B8).toArray)
   obtain ⟨G, hG⟩ : ∃ G, G = wr.heap.size := ⟨_, rfl⟩
   have hBG : B + 1 < G := by rw [hG]; exact x3.lt
   rw [← hG] at y5 ⊢
   clear hG x2 x3 b3 o4 hL3
   go_loopg [19] 32 (fun g i w' => ∃ t : Nat, t ≤ 32 ∧ g = 32 - t ∧ i = .int .i64 t ∧ Box w' G 72 ((bytesOf S8 t ++ List.replicate (32 - t) 0).map B8) ∧ Box w' (B + 1) 65 (S8.map W32) ∧ Box w' B 72 (zero32.map B8) ∧ Below B w w')
   case atStart => exact ⟨0, by omega, by omega, rfl, y5, y3, y2, yb⟩
   case round =>
    clear y5 y3 y2 yb
    obtain ⟨t, ht, hg, rfl, y5, y3, y2, yb⟩ := hrel
    have HG3 := hide hg
    clear hg
    by_cases hlt : t < 32
    ·obtain ⟨x, hx⟩ : ∃ x, S8[t / 4]? = some x := ⟨S8[t / 4]'(by rw [hl8.out]; omega), by simp⟩
     have q0 : wr.cell? ⟨B + 1, t / 4, none⟩ = some (W32 x) := y3.at_ (box_at hx)
     have d0 : wr.cell? ⟨G, t, none⟩ = some (B8 0) := y5.at_ (by rw [List.getElem?_map, List.getElem?_append_right (by rw [bytesOf_length]; exact Nat.le_refl _), bytesOf_length, List.getElem?_replicate, if_pos (by omega)]; rfl)
     have f0 := y5.free t
     have HX := hide hx
     clear hx
     go_wp2_with fail
     go_roundg (32 - (t + 1))
     case measure => have := HG3.out; omega
     case rel =>
      refine ⟨t + 1, by omega, rfl, by go_num, ?_, y3.far (by simp; omega) _, y2.far (by simp; omega) _, yb.setCell (by simp; omega) _⟩
      have h := y5.put t (B8 (wbyte S8 t))
      rw [byte_put S8 x t HX.out]
      rw [bytes_next S8 t hlt] at h
      exact h
    ·obtain rfl : t = 32 := by omega
     have y6 : Box wr G 72 ((bytesOf S8 32).map B8) := by simpa only [Nat.sub_self, List.replicate_zero, List.append_nil] using y5
     have hz32 : (Tryd.prog.info? 72).map (·.size) = some ((bytesOf S8 32).map B8).length := by rw [List.length_map, bytesOf_length]; exact size_32
     have hz32' := hide hz32
     have hs32 := hide hS8
     clear y5
     go_wp2_with (first
      | (with_reducible refine load_box 163 72 _ 72 _ 0 _ ((bytesOf S8 32).map B8) isAgg_32 hz32'.out y6 rfl (fun j u hj => by rw [Nat.zero_add]; exact hj) ?_)
      | (with_reducible refine hold_store ?_))
     refine hide ?_
     refine store_all 72 _ _ 72 B _ ((bytesOf S8 32).map B8) (.agg ((bytesOf S8 32).map B8).toArray) hz32'.out y2 (by rfl) (by rfl) rfl (by rw [List.length_map, bytesOf_length]; exact Eq.refl 32) (one_map _ (fun _ => rfl) _) ?_
     intro w9 z2 hg9 hs9
     go_wp2_with fail
     refine bodyPost_ret (run_results_cell rfl rfl isAgg_32 hz32'.out z2) rfl ⟨?_, ?_⟩
     ·unfold sha
      rw [hM.out, hNb.out, show 64 * k / 64 = k by omega, hS8.out]
     ·rw [← HB.out]
      exact yb.grown hg9 (Nat.le_of_lt y2.lt) (fun k hk => by cases hk; omega)
end Go.Proofs.YtfagjaabladgpaaDoor
end

section
namespace Go.Proofs.YtfagjaabladgpaaDoor
open Go.RowKit Go.Dx
def SC (m : List UInt8) : List Value := strm (stOf m) (blkOf m) m.length
def SV (m : List UInt8) : Value := .agg (SC m).toArray
theorem SC_len (m : List UInt8) : (SC m).length = 73 := strm_length _ (blkOf_len m) _
theorem st8 (s : HSt) : (s.list.map W32).length = 8 := rfl
theorem tri_n {α : Type} {A B : List α} {c : α} (ha : A.length = 8) (hb : B.length = 64) : (A ++ B ++ [c])[72]? = some c := by
 rw [List.getElem?_append_right (by rw [List.length_append]; omega), List.length_append, ha, hb]; rfl
theorem tri_set {α : Type} {A B : List α} {c d : α} (ha : A.length = 8) (hb : B.length = 64) : (A ++ B ++ [c]).set 72 d = A ++ B ++ [d] := by
 rw [List.set_append_right _ _ (by rw [List.length_append]; omega), List.length_append, ha, hb]; rfl
theorem tri_put {α : Type} {A B T : List α} {c : α} {i n : Nat} (ha : A.length = 8) (hb : B.length = 64) (hn : T.length = n) (hi : i + n ≤ 64) :
  (A ++ B ++ [c]).take (8 + i) ++ T ++ (A ++ B ++ [c]).drop (8 + i + n) = A ++ (B.take i ++ T ++ B.drop (i + n)) ++ [c] := by
 have e1 : (A ++ B ++ [c]).take (8 + i) = A ++ B.take i := by
  rw [List.append_assoc, List.take_append, List.take_of_length_le (by omega), ha, Nat.add_sub_cancel_left, List.take_append_of_le_length (by omega)]
 have e2 : (A ++ B ++ [c]).drop (8 + i + n) = B.drop (i + n) ++ [c] := by
  rw [List.append_assoc, List.drop_append, List.drop_eq_nil_of_le (by omega), ha, List.nil_append, show 8 + i + n - 8 = i + n by omega, List.drop_append_of_le_length (by omega)]
 rw [e1, e2]
 simp only [List.append_assoc]
theorem tri_head {α : Type} {A B T : List α} {c : α} (ha : A.length = 8) : (A ++ B ++ [c]).take 0 ++ T ++ (A ++ B ++ [c]).drop (0 + 8) = T ++ B ++ [c] := by
 rw [List.take_zero, List.nil_append, Nat.zero_add, List.append_assoc A, List.drop_append, List.drop_eq_nil_of_le (by omega), ha, Nat.sub_self, List.drop_zero, List.nil_append, List.append_assoc]
theorem strm_put {s : HSt} {blk : List UInt8} {n i : Nat} {t : List UInt8} (hb : blk.length = 64) (k : Nat) (hk : t.length = k) (hi : i + k ≤ 64) :
  (strm s blk n).take (8 + i) ++ t.map B8 ++ (strm s blk n).drop (8 + i + k) = strm s (putBlk blk i t) n := by
 subst hk
 unfold strm
 rw [tri_put (st8 s) (by rw [List.length_map, hb]) (by rw [List.length_map]) hi]
 unfold putBlk
 simp only [List.map_append, List.map_take, List.map_drop]
theorem strm_n {s : HSt} {blk : List UInt8} {n : Nat} (hb : blk.length = 64) : (strm s blk n)[72]? = some (.int .u64 (n : Int)) := tri_n (st8 s) (by rw [List.length_map, hb])
theorem strm_setn {s : HSt} {blk : List UInt8} {n : Nat} (hb : blk.length = 64) (k : Nat) : (strm s blk n).set 72 (.int .u64 (k : Int)) = strm s blk k := tri_set (st8 s) (by rw [List.length_map, hb])
theorem strm_state {s : HSt} {blk : List UInt8} {n : Nat} (r : HSt) : (strm s blk n).take 0 ++ r.list.map W32 ++ (strm s blk n).drop (0 + 8) = strm r blk n := tri_head (st8 s)
theorem strm_get {s : HSt} {blk : List UInt8} {n : Nat} {j : Nat} {u : Value} (hj : (s.list.map W32)[j]? = some u) : (strm s blk n)[0 + j]? = some u := by
 have hl := (List.getElem?_eq_some_iff.1 hj).1
 unfold strm
 rw [Nat.zero_add, List.append_assoc, List.getElem?_append_left hl, hj]
theorem tri_mid {α : Type} {A B : List α} {c u : α} {j : Nat} (ha : A.length = 8) (hj : B[j]? = some u) : (A ++ B ++ [c])[8 + j]? = some u := by
 have hl := (List.getElem?_eq_some_iff.1 hj).1
 rw [List.append_assoc, List.getElem?_append_right (by omega), ha, Nat.add_sub_cancel_left, List.getElem?_append_left hl, hj]
theorem strm_blk {s : HSt} {blk : List UInt8} {n : Nat} {j : Nat} {u : Value} (hj : (blk.map B8)[j]? = some u) : (strm s blk n)[8 + j]? = some u := tri_mid (st8 s) hj
theorem strm_one (s : HSt) (blk : List UInt8) (n : Nat) : ∀ u ∈ strm s blk n, u.oneCell' = true := by
 intro u hu
 simp only [strm, List.mem_append, List.mem_map, List.mem_singleton] at hu
 rcases hu with (⟨x, _, rfl⟩ | ⟨x, _, rfl⟩) | rfl <;> rfl

theorem Begin_at (w : World) : Calls Tryd.prog 30 #[] w fun e w' => e = .returned (SV []) ∧ Below w.heap.size w w' := by
 have h : SV [] = .agg (strm H0 (List.replicate 64 0) 0).toArray := by unfold SV SC; rw [blkOf_nil, stOf_nil]; rfl
 rw [h]; exact begin_any w

set_option maxRecDepth 100000 in
set_option maxHeartbeats 2000000 in
theorem add_any (m : List UInt8) (x : ByteArray) (hm : m.length + x.size ≤ 1000000000) (w : World) (hL : Laid w) :
  Calls Tryd.prog 31 #[SV m, .string x] w fun e w' => e = .returned (SV (m ++ x.data.toList)) ∧ Below w.heap.size w w' := by
 have h3 := zero_strm
 have k2 : (strm Z0 (List.replicate 64 0) 0).length = 73 := strm_length _ (by simp) _
 generalize strm Z0 (List.replicate 64 0) 0 = Z at *
 have k2 := hide k2
 obtain ⟨S, hS⟩ : ∃ S, Hid (SC m = S) := ⟨_, rfl⟩
 unfold SV
 rw [hS.out]
 go_enter Tryd.func31, Tryd.ntmps31
 go_wp2_with fail
 have x2 : Box ((w.alloc (Obj.cells S.toArray 69)).alloc (Obj.cells Z.toArray 69)) w.heap.size 69 (SC m) := by rw [hS.out]; exact (Box.new w _ _).alloc _
 have x4 : Box ((w.alloc (Obj.cells S.toArray 69)).alloc (Obj.cells Z.toArray 69)) (w.heap.size + 1) 69 Z := box_next w _ _ _
 have b0 : Below w.heap.size w ((w.alloc (Obj.cells S.toArray 69)).alloc (Obj.cells Z.toArray 69)) := ((Below.refl _ _).alloc (Nat.le_refl _) _).alloc (by simp) _
 obtain ⟨B, hB⟩ : ∃ B, B = w.heap.size := ⟨_, rfl⟩
 rw [← hB] at x2 x4 b0 ⊢
 have HB := hide hB
 have hL0 := hide hL
 clear hB h3 hL
 generalize (w.alloc (Obj.cells S.toArray 69)).alloc (Obj.cells Z.toArray 69) = w0 at *
 have hxl := hide (show x.data.toList.length = x.size from Array.length_toList)
 go_loopg [1] x.size (fun g t w' => ∃ (c : List UInt8) (y : ByteArray), Hid (x.data.toList = c ++ y.data.toList) ∧ g = y.size ∧ c.length + y.size = x.size ∧ t = .string y ∧ Box w' B 69 (SC (m ++ c)) ∧ Box w' (B + 1) 69 Z ∧ Below B w w')
 case atStart => exact ⟨[], x, hide rfl, rfl, by simp, rfl, by rw [List.append_nil]; exact x2, x4, b0⟩
 case round =>
  clear x2 x4 b0
  obtain ⟨c, y, hc, hg, hcy, rfl, x2, x4, b0⟩ := hrel
  have HG := hide hg
  have HC := hide hcy
  have hn : (m ++ c).length ≤ 1000000000 := by rw [List.length_append]; omega
  obtain ⟨M, hM⟩ : ∃ M, Hid (m ++ c = M) := ⟨_, rfl⟩
  rw [hM.out] at x2 hn
  obtain ⟨N, hN⟩ : ∃ N, N = M.length := ⟨_, rfl⟩
  obtain ⟨p, hp⟩ : ∃ p, p = N % 64 := ⟨_, rfl⟩
  rw [← hN] at hn
  have hp63 : p ≤ 63 := by omega
  have hmod : (N : Int) % 64 = (p : Int) := by omega
  have hzM : (Tryd.prog.info? 69).map (·.size) = some (SC M).length := by rw [SC_len]; exact size_strm
  have hzM := hide hzM
  have hxs : y.size ≤ 1000000000 := by omega
  have HN := hide hN
  have HP := hide hp
  clear hg hcy hN hp
  by_cases hy : y.size = 0
  ·have y0 := str_none hy
   go_wp2_with (first
    | (with_reducible refine load_box 37 69 _ 69 B 0 (SC M) (SC M) isAgg_strm hzM.out x2 rfl (fun j u hj => by rw [Nat.zero_add]; exact hj) ?_)
    | (with_reducible refine hold_store ?_))
   refine hide ?_
   refine store_all 69 _ _ 69 (B + 1) Z (SC M) (.agg (SC M).toArray) hzM.out x4 (by rfl) (by rfl) rfl (by rw [SC_len, k2.out]) (strm_one _ _ _) ?_
   intro w5 x5 hg5 hs5
   go_wp2_with fail
   refine bodyPost_ret (run_results_cell rfl rfl isAgg_strm hzM.out x5) rfl ⟨?_, ?_⟩
   ·have e := hc.out
    rw [List.eq_nil_of_length_eq_zero (l := y.data.toList) hy, List.append_nil] at e
    rw [e, hM.out]
   ·rw [← HB.out]
    exact b0.grown hg5 (Nat.le_of_lt x2.lt) (fun k hk => by cases hk; omega)
  ·have q0 : wr.cell? ⟨B, 72, none⟩ = some (.int .u64 (N : Int)) := by rw [HN.out]; exact x2.at_ (strm_n (blkOf_len M))
   have y0 := str_some hy
   obtain ⟨k, hk⟩ : ∃ k, k = min y.size (64 - p) := ⟨_, rfl⟩
   have hk0 : k ≤ y.size := by omega
   have hk1' : 1 ≤ k := by omega
   have hk1 : k ≤ 64 - p := by omega
   have HK := hide hk
   clear hk
   have hkl : (y.data.toList.take k).length = k := by rw [List.length_take]; exact Nat.min_eq_left hk0
   obtain ⟨Y, hY⟩ : ∃ Y, Hid (y.data.toList.take k = Y) := ⟨_, rfl⟩
   rw [hY.out] at hkl
   have hkl := hide hkl
   have hkp : p + k ≤ 64 := by omega
   have hk64 : k ≤ 64 := by omega
   have nB : ∀ w3, Box w3 B 69 (strm (stOf M) (putBlk (blkOf M) p Y) N) → w3.cell? ⟨B, 72, none⟩ = some (.int .u64 (N : Int)) ∧ w3.frozen? ⟨B, 72, none⟩ = false := fun w3 h =>
    ⟨h.at_ (strm_n (by unfold putBlk; rw [List.length_append, List.length_append, List.length_take, List.length_drop, blkOf_len, hkl.out]; omega)), h.free 72⟩
   have nB := hide nB
   have hsz' : (y.extract k y.size).size = y.size - k := by
    have h := congrArg List.length (ext_list y k)
    rw [List.length_drop] at h
    exact h
   have hcat : x.data.toList = (c ++ Y) ++ (y.extract k y.size).data.toList := by
    rw [ext_list, List.append_assoc, ← hY.out, List.take_append_drop]
    exact hc.out
   have hMY : m ++ (c ++ Y) = M ++ Y := by rw [← List.append_assoc, hM.out]
   have hNk : (M ++ Y).length = N + k := by rw [List.length_append, hkl.out, HN.out]
   have hbl : (putBlk (blkOf M) p Y).length = 64 := by
    unfold putBlk; rw [List.length_append, List.length_append, List.length_take, List.length_drop, blkOf_len, hkl.out]; omega
   have hsz' := hide hsz'
   have hcat := hide hcat
   have hMY := hide hMY
   have hNk := hide hNk
   have hbl := hide hbl
   have hput : ∀ w3, Box w3 B 69 (strm (stOf M) (putBlk (blkOf M) p Y) N) → Box (w3.setCell ⟨B, 72, none⟩ (.int .u64 ((N : Int) + (k : Int)))) B 69 (strm (stOf M) (putBlk (blkOf M) p Y) (N + k)) := fun w3 h => by
    have h2 := h.put 72 (.int .u64 ((N + k : Nat) : Int))
    rw [strm_setn hbl.out (N + k), Int.natCast_add] at h2
    exact h2
   have hput := hide hput
   have hful : p + k = 64 ∨ p + k ≠ 64 := by omega
   have htest : (p + k = 64 → ((p : Int) + (k : Int) == 64) = true) ∧ (p + k ≠ 64 → ((p : Int) + (k : Int) == 64) = false) := by
    constructor
    ·intro h; simp; omega
    ·intro h; simp; omega
   rcases hful with hf | hf
   ·have ht := htest.1 hf
    have hf := hide hf
    clear htest
    go_wp2_with (first
     | (with_reducible refine cut_var 15 66 5 64 _ _ _ Tryd.underlying66 size_u8 B 8 rfl p 64 (.inr ⟨_, rfl⟩) (.inl ⟨rfl, rfl⟩) (by omega) (by omega) (by omega) ?_)
     | (with_reducible refine hold_copy ?_))
    refine hide ?_
    (refine copy_str (o := ⟨some 17, _, _, _, _, _⟩) rfl _ _ 23 9 rfl 5 Tryd.underlying23 size_u8 B (8 + p) _ _ 69 (SC M) x2 (by rfl) y (by rfl) k HK.out (by rw [SC_len]; omega) ?_; intro w3 x3 hg3 hs3; unfold SC at x3; rw [hY.out, strm_put (blkOf_len M) k hkl.out hkp, ← HN.out] at x3; obtain ⟨q1, f1⟩ := nB.out w3 x3)
    go_wp2_with fail
    have bp := blkOf_full M Y (by rw [hkl.out, ← HN.out, ← HP.out]; exact hf.out)
    rw [← HN.out, ← HP.out] at bp
    obtain ⟨bp1, bp2⟩ := bp
    have z2 := hput.out w3 x3
    rw [bp1] at z2
    have z4 := (x4.grown hg3 (by simp)).far (p := ⟨B, 72, none⟩) (by simp) (.int .u64 ((N : Int) + (k : Int)))
    have zb := (b0.grown hg3 (Nat.le_of_lt x2.lt) (fun k hk => by cases hk; omega)).setCell (p := ⟨B, 72, none⟩) (by simp) (.int .u64 ((N : Int) + (k : Int)))
    have zL := hL0.out.mono zb (Nat.le_of_eq HB.out.symm)
    obtain ⟨D, hD⟩ : ∃ D, Hid (blkOf (M ++ Y) = D) := ⟨_, rfl⟩
    have hDl : D.length = 64 := by rw [← hD.out]; exact blkOf_len _
    rw [hD.out] at z2 bp2
    have hDl := hide hDl
    have bp2 := hide bp2
    clear bp1 x2 x3 x4 b0 q0 q1 f1 hg3 hs3 nB hput
    generalize w3.setCell ⟨B, 72, none⟩ (.int .u64 ((N : Int) + (k : Int))) = w4 at *
    refine wp_region_below_tail 6 (by kernel_rfl) (by kernel_rfl) ?_
    simp only [List.take_succ_cons, List.take_zero, List.drop_succ_cons, List.drop_zero]
    refine quiet_in (.pointer (some ⟨B, 0, none⟩)) rfl (fun w' _ => by kernel_rfl) ?_
    simp only [Act.put, List.setIfInBounds_toArray, List.set_cons_succ, List.set_cons_zero]
    refine quiet_load_box 32 65 _ 69 B 0 (strm (stOf M) D (N + k)) ((stOf M).list.map W32) isAgg_8 size_8 (by rintro w' ⟨q, rfl⟩; exact z2.under q.h) rfl (fun j u hj => strm_get hj) ?_
    simp only [Act.put, List.setIfInBounds_toArray, List.set_cons_succ, List.set_cons_zero]
    refine quiet_in (.pointer (some ⟨B, 8, none⟩)) rfl (fun w' _ => by kernel_rfl) ?_
    simp only [Act.put, List.setIfInBounds_toArray, List.set_cons_succ, List.set_cons_zero]
    refine quiet_cut_var 34 66 5 64 _ none none Tryd.underlying66 size_u8 B 8 rfl 0 64 (.inl ⟨rfl, rfl⟩) (.inl ⟨rfl, rfl⟩) (by omega) (by omega) (by omega) ?_
    simp only [Act.put, List.setIfInBounds_toArray, List.set_cons_succ, List.set_cons_zero]
    go_big_quiet_step ((go_at_call 53; refine onTop_call (compress_any (stOf M) D _ _ _ (zL.below (OnTop.h _)) ((z2.under (OnTop.h _)).sl 8 64 64 1 (D.map B8) (by rw [List.length_map, hDl.out]) (Nat.le_refl _) (by decide) (fun j u hj => strm_blk hj)))))
    refine quiet_in (.pointer (some ⟨B, 0, none⟩)) rfl (fun w' _ => by kernel_rfl) ?_
    simp only [Act.put, List.setIfInBounds_toArray, List.set_cons_succ, List.set_cons_zero]
    refine wpQuiet_nil ?_
    rintro w5 ⟨q, rfl⟩
    refine store_box 65 _ _ 69 B 0 (strm (stOf M) D (N + k)) ((comp (stOf M) D).list.map W32) (.agg ((comp (stOf M) D).list.map W32).toArray) (by rw [st8]; exact size_8) (z2.under q.h) (by rfl) (by rfl) rfl (by rw [st8, strm_length _ hDl.out]; omega) (one_map _ (fun _ => rfl) _) ?_
    intro w6 y2 hg6 hs6
    rw [st8, strm_state] at y2
    go_wp2_with fail
    go_roundg (y.extract k y.size).size
    case measure => rw [hsz'.out, HG.out]; omega
    case rel =>
     refine ⟨c ++ Y, y.extract k y.size, hcat, rfl, ?_, rfl, ?_, (z4.under q.h).grown hg6 (by simp), (zb.trans (q.h.mono (Nat.le_of_lt z2.lt))).grown hg6 (Nat.le_of_lt (z2.under q.h).lt) (fun k hk => by cases hk; omega)⟩
     ·rw [List.length_append, hkl.out, hsz'.out]; have := HC.out; omega
     ·unfold SC
      rw [hMY.out, hNk.out, bp2.out, hD.out]
      exact y2
   ·have ht := htest.2 hf
    have hf := hide hf
    clear htest
    go_wp2_with (first
     | (with_reducible refine cut_var 15 66 5 64 _ _ _ Tryd.underlying66 size_u8 B 8 rfl p 64 (.inr ⟨_, rfl⟩) (.inl ⟨rfl, rfl⟩) (by omega) (by omega) (by omega) ?_)
     | (with_reducible refine hold_copy ?_))
    refine hide ?_
    (refine copy_str (o := ⟨some 17, _, _, _, _, _⟩) rfl _ _ 23 9 rfl 5 Tryd.underlying23 size_u8 B (8 + p) _ _ 69 (SC M) x2 (by rfl) y (by rfl) k HK.out (by rw [SC_len]; omega) ?_; intro w3 x3 hg3 hs3; unfold SC at x3; rw [hY.out, strm_put (blkOf_len M) k hkl.out hkp, ← HN.out] at x3; obtain ⟨q1, f1⟩ := nB.out w3 x3)
    go_wp2_with fail
    go_roundg (y.extract k y.size).size
    case measure => rw [hsz'.out, HG.out]; omega
    case rel =>
     have bp := blkOf_part M Y (by rw [hkl.out, ← HN.out, ← HP.out]; have := hf.out; omega)
     rw [← HN.out, ← HP.out] at bp
     obtain ⟨bp1, bp2⟩ := bp
     have z2 := hput.out w3 x3
     rw [bp1] at z2
     refine ⟨c ++ Y, y.extract k y.size, hcat, rfl, ?_, rfl, ?_, (x4.grown hg3 (by simp)).far (by simp) _, (b0.grown hg3 (Nat.le_of_lt x2.lt) (fun k hk => by cases hk; omega)).setCell (by simp) _⟩
     ·rw [List.length_append, hkl.out, hsz'.out]; have := HC.out; omega
     ·unfold SC
      rw [hMY.out, hNk.out, bp2]
      exact z2
end Go.Proofs.YtfagjaabladgpaaDoor
end

section
namespace Go.Proofs.YtfagjaabladgpaaDoor
open Go.RowKit Go.Dx

theorem add_at {m r : List UInt8} {x : ByteArray} (h : m ++ x.data.toList = r) (hr : r.length ≤ 1000000000) (w : World) (hL : Laid w) :
  Calls Tryd.prog 31 #[SV m, .string x] w fun e w' => e = .returned (SV r) ∧ Below w.heap.size w w' := by
 subst h
 exact add_any m x (by rw [List.length_append] at hr; exact hr) w hL
def padA (k : Nat) : List UInt8 := [128] ++ List.replicate k 0
theorem padA_succ (k : Nat) : padA (k + 1) = padA k ++ [0] := by unfold padA; rw [List.replicate_succ']; simp
theorem zero32_len : (zero32.map B8).length = 32 := by unfold zero32; rw [List.length_map, List.length_replicate]
theorem zero32_start (S8 : List UInt32) : zero32 = bytesOf S8 0 ++ List.replicate (32 - 0) 0 := rfl
theorem zero_32 (W : World) : (zeroValue 72).run Tryd.prog W = .ok (.agg (zero32.map B8).toArray) W := by kernel_rfl
set_option maxRecDepth 100000 in
set_option maxHeartbeats 2000000 in
theorem ssum_any (m : List UInt8) (hm : m.length ≤ 500000000) (w : World) (hL : Laid w) :
  Calls Tryd.prog 32 #[SV m] w fun e w' => e = .returned (.agg ((sha m).map B8).toArray) ∧ Below w.heap.size w w' := by
 obtain ⟨S, hS⟩ : ∃ S, Hid (SC m = S) := ⟨_, rfl⟩
 obtain ⟨N, hN⟩ : ∃ N, N = m.length := ⟨_, rfl⟩
 have h72 : S[72]? = some (.int .u64 (N : Int)) := by rw [← hS.out, hN]; exact strm_n (blkOf_len m)
 rw [← hN] at hm
 have HN := hide hN
 have h32 := zero_32
 obtain ⟨Z, hZ⟩ : ∃ Z, Hid (zero32.map B8 = Z) := ⟨_, rfl⟩
 rw [hZ.out] at h32
 unfold SV
 rw [hS.out]
 clear hN
 go_enter Tryd.func32, Tryd.ntmps32
 go_wp2_with fail
 clear h72 h32
 have x1 : Box (((w.alloc (Obj.cells S.toArray 69)).alloc (Obj.cells (Z.toArray) 72)).alloc (.cells #[.int .u8 128] 5)) w.heap.size 69 (SC m) := by rw [hS.out]; exact ((Box.new w _ _).alloc _).alloc _
 have x2 : Box (((w.alloc (Obj.cells S.toArray 69)).alloc (Obj.cells (Z.toArray) 72)).alloc (.cells #[.int .u8 128] 5)) (w.heap.size + 1) 72 Z := (box_next w _ _ _).alloc _
 have oP : Own (((w.alloc (Obj.cells S.toArray 69)).alloc (Obj.cells (Z.toArray) 72)).alloc (.cells #[.int .u8 128] 5)) (w.heap.size + 2) 5 1 (some ⟨w.heap.size + 2, 0, none⟩) 1 1 ((padA 0).map B8) := by
  have h := Own.built ((w.alloc (Obj.cells S.toArray 69)).alloc (Obj.cells (Z.toArray) 72)) (w.heap.size + 2) 5 1 1 #[.int .u8 128] (by simp) rfl (by decide)
  rw [show ((w.alloc (Obj.cells S.toArray 69)).alloc (Obj.cells (Z.toArray) 72)).heap.size = w.heap.size + 2 by simp] at h
  exact h
 have b0 : Below w.heap.size w (((w.alloc (Obj.cells S.toArray 69)).alloc (Obj.cells (Z.toArray) 72)).alloc (.cells #[.int .u8 128] 5)) := (((Below.refl _ _).alloc (Nat.le_refl _) _).alloc (by simp) _).alloc (by simp; omega) _
 have hsz : w.heap.size + 2 ≤ (((w.alloc (Obj.cells S.toArray 69)).alloc (Obj.cells (Z.toArray) 72)).alloc (.cells #[.int .u8 128] 5)).heap.size := by simp
 obtain ⟨B, hB⟩ : ∃ B, B = w.heap.size := ⟨_, rfl⟩
 rw [← hB] at x1 x2 oP b0 hsz ⊢
 have HB := hide hB
 have hL0 := hide hL
 clear hB hL
 generalize ((w.alloc (Obj.cells S.toArray 69)).alloc (Obj.cells (Z.toArray) 72)).alloc (.cells #[.int .u8 128] 5) = w0 at *
 go_loopg [4] (padN N) (fun g x w' => ∃ (M : Nat) (a : Option Addr) (c : Nat), 1 ≤ M ∧ M ≤ 1 + padN N ∧ g = padN N - (M - 1) ∧ x = .slice a M c ∧ Own w' (B + 2) 5 1 a M c ((padA (M - 1)).map B8) ∧ Below (B + 2) w0 w')
 case atStart => exact ⟨1, _, 1, by omega, by omega, by omega, rfl, oP, Below.refl _ _⟩
 case round =>
  clear oP
  obtain ⟨M, a4, c4, hM0, hM1, hg, rfl, oP, hb⟩ := hrel
  have HG := hide hg
  clear hg
  have hp : padN N ≤ 63 := by unfold padN; omega
  have q0 : wr.cell? ⟨B, 72, none⟩ = some (.int .u64 (N : Int)) := by rw [HN.out]; exact (x1.below hb (by omega)).at_ (strm_n (blkOf_len m))
  by_cases hlt : M < 1 + padN N
  ·have ht : (((N : Int) + (M : Int)) % 64 != 56) = true := by
    unfold padN at hlt
    simp
    omega
   go_wp2_with (at_builtin; refine app_b (o := ⟨some 22, _, _, _, _, _⟩) rfl _ _ rfl w0 (B + 2) _ _ _ _ rfl oP _ rfl (by omega) (Nat.le_trans hsz hb.size) hb ?_; intro a6 c6 w6 oD hg6 hb6)
   go_roundg (padN N - M)
   case measure => have := HG.out; omega
   case rel =>
    refine ⟨M + 1, a6, c6, by omega, by omega, by omega, rfl, ?_, hb6⟩
    rw [show M + 1 - 1 = (M - 1) + 1 by omega, padA_succ, List.map_append]
    exact oD
  ·have hM : M = 1 + padN N := by omega
   have ht : (((N : Int) + (M : Int)) % 64 != 56) = false := by
    unfold padN at hM
    simp
    omega
   have e1 : M - 1 = padN N := by omega
   rw [e1] at oP
   have HM := hide hM
   clear hM e1 HG hlt
   go_wp2_with fail
   obtain ⟨wo, rfl⟩ : ∃ wo : World, wo = wr := ⟨_, rfl⟩
   go_loopg [4, 23] 8 (fun g x i w' => ∃ (k : Nat) (a : Option Addr) (c : Nat), k ≤ 8 ∧ g = 8 - k ∧ i = .int .i64 k ∧ x = .slice a (M + k) c ∧ Own w' (B + 2) 5 1 a (M + k) c ((padA (padN N) ++ lenB N k).map B8) ∧ Below (B + 2) w0 w')
   case atStart => exact ⟨0, a4, c4, by omega, by omega, rfl, rfl, by simpa [lenB] using oP, hb⟩
   case round =>
    clear oP hb q0
    obtain ⟨k, a6, c6, hk, hg, rfl, rfl, oP, hb⟩ := hrel
    have HG := hide hg
    clear hg
    by_cases hlt : k < 8
    ·go_wp2_with (at_builtin; refine app_b (o := ⟨some 34, _, _, _, _, _⟩) rfl _ _ rfl w0 (B + 2) _ _ _ _ rfl oP _ rfl (by omega) (Nat.le_trans hsz hb.size) hb ?_; intro a7 c7 w7 oD hg7 hb7)
     go_roundg (8 - (k + 1))
     case measure => have := HG.out; omega
     case rel =>
      refine ⟨k + 1, a7, c7, by omega, rfl, by go_num, rfl, ?_, hb7⟩
      rw [lenByte_int N k _ rfl] at oD
      rw [lenB_succ, ← List.append_assoc, List.map_append]
      exact oD
    ·obtain rfl : k = 8 := by omega
     obtain ⟨T, hT⟩ : ∃ T, Hid (padTail N = T) := ⟨_, rfl⟩
     have e1 : padA (padN N) ++ lenB N 8 = T := by rw [← hT.out]; rfl
     rw [e1] at oP
     have hTl : T.length = M + 8 := by have h := oP.len; rw [List.length_map] at h; omega
     have hT100 : T.length ≤ 100 := by omega
     have hTl := hide hTl
     have z1 := x1.below hb (by omega)
     have z2 := x2.below hb (by omega)
     have x1lt := hide z1.lt
     have hzm : (Tryd.prog.info? 69).map (·.size) = some (SC m).length := by rw [SC_len]; exact size_strm
     have hzm := hide hzm
     have zb : Below B w wr := b0.trans (hb.mono (by omega))
     have zL := hL0.out.mono zb (Nat.le_of_eq HB.out.symm)
     have oP := oP.sl
     clear e1 hb hsz b0 x1 x2 ht hlt HG
     go_wp2_with (first
      | (with_reducible refine load_box 36 69 _ 69 B 0 (SC m) (SC m) isAgg_strm hzm.out z1 rfl (fun j u hj => by rw [Nat.zero_add]; exact hj) ?_)
      | (with_reducible refine to_str 38 _ _ _ _ T rfl oP ?_))
     obtain ⟨PM, hPM⟩ : ∃ PM, Hid (pad m = PM) := ⟨_, rfl⟩
     have hcat : m ++ (⟨T.toArray⟩ : ByteArray).data.toList = PM := by rw [← hPM.out, ← hT.out, HN.out]; rfl
     have hPl := pad_ge m
     rw [hPM.out, ← HN.out] at hPl
     have hzp : (Tryd.prog.info? 69).map (·.size) = some (SC PM).length := by rw [SC_len]; exact size_strm
     have hzp := hide hzp
     refine (add_at hcat (by omega) _ zL).mono ?_
     rintro e w3 ⟨rfl, h3⟩
     have z1 := z1.under h3
     have z2 := z2.under h3
     have zb := zb.trans (h3.mono (by have := x1lt.out; exact Nat.le_of_lt this))
     clear h3 zL oP hcat
     unfold SV
     go_wp2_with (with_reducible refine hold_store ?_)
     refine hide ?_
     refine store_all 69 _ _ 69 B (SC m) (SC PM) (.agg (SC PM).toArray) hzp.out z1 (by rfl) (by rfl) rfl (by rw [SC_len, SC_len]) (strm_one _ _ _) ?_
     intro w4 y1 hg4 hs4
     have y2 := z2.grown hg4 (by simp)
     have yb := zb.grown hg4 (Nat.le_of_lt z1.lt) (fun k hk => by cases hk; omega)
     have hG0 : B + 1 < w4.heap.size := y2.lt
     clear z1 z2 zb hg4 hs4
     have h32 := zero_32
     rw [hZ.out] at h32
     go_wp2_with fail
     clear h32
     obtain ⟨S8, hS8⟩ : ∃ L, Hid ((stOf PM).list = L) := ⟨_, rfl⟩
     have hl8 := hide (show S8.length = 8 by rw [← hS8.out]; exact mix3_lists _)
     have y5 : Box (w4.alloc (.cells Z.toArray 72)) w4.heap.size 72 ((bytesOf S8 0 ++ List.replicate (32 - 0) 0).map B8) := by rw [← zero32_start, hZ.out]; exact Box.new w4 _ _
     have y1 := y1.alloc (.cells Z.toArray 72)
     have y2 := y2.alloc (.cells Z.toArray 72)
     have yb := yb.alloc (by omega) (.cells Z.toArray 72)
     generalize w4.alloc (.cells Z.toArray 72) = w5 at *
     generalize w4.heap.size = G at *
     go_loopg [40] 32 (fun g i w' => ∃ t : Nat, t ≤ 32 ∧ g = 32 - t ∧ i = .int .i64 t ∧ Box w' G 72 ((bytesOf S8 t ++ List.replicate (32 - t) 0).map B8) ∧ Box w' B 69 (SC PM) ∧ Box w' (B + 1) 72 Z ∧ Below B w w')
     case atStart => exact ⟨0, by omega, by omega, rfl, y5, y1, y2, yb⟩
     case round =>
      clear y5 y1 y2 yb
      obtain ⟨t, ht, hg, rfl, y5, y1, y2, yb⟩ := hrel
      have HG3 := hide hg
      clear hg
      by_cases hlt : t < 32
      ·obtain ⟨x, hx⟩ : ∃ x, S8[t / 4]? = some x := ⟨S8[t / 4]'(by rw [hl8.out]; omega), by simp⟩
       have q0 : wr.cell? ⟨B, t / 4, none⟩ = some (W32 x) := by
        have h := y1.at_ (strm_get (s := stOf PM) (blk := blkOf PM) (n := PM.length) (j := t / 4) (u := W32 x) (by rw [hS8.out]; exact box_at hx))
        rw [Nat.zero_add] at h
        exact h
       have d0 : wr.cell? ⟨G, t, none⟩ = some (B8 0) := y5.at_ (by rw [List.getElem?_map, List.getElem?_append_right (by rw [bytesOf_length]; exact Nat.le_refl _), bytesOf_length, List.getElem?_replicate, if_pos (by omega)]; rfl)
       have f0 := y5.free t
       have HX := hide hx
       clear hx
       go_wp2_with fail
       go_roundg (32 - (t + 1))
       case measure => have := HG3.out; omega
       case rel =>
        refine ⟨t + 1, by omega, rfl, by go_num, ?_, y1.far (by simp; omega) _, y2.far (by simp; omega) _, yb.setCell (by simp; omega) _⟩
        have h := y5.put t (B8 (wbyte S8 t))
        rw [byte_put S8 x t HX.out]
        rw [bytes_next S8 t hlt] at h
        exact h
      ·obtain rfl : t = 32 := by omega
       have y6 : Box wr G 72 ((bytesOf S8 32).map B8) := by simpa only [Nat.sub_self, List.replicate_zero, List.append_nil] using y5
       have hz32 : (Tryd.prog.info? 72).map (·.size) = some ((bytesOf S8 32).map B8).length := by rw [List.length_map, bytesOf_length]; exact size_32
       have hz32' := hide hz32
       have hs32 := hide hS8
       clear y5
       go_wp2_with (first
        | (with_reducible refine load_box 57 72 _ 72 _ 0 _ ((bytesOf S8 32).map B8) isAgg_32 hz32'.out y6 rfl (fun j u hj => by rw [Nat.zero_add]; exact hj) ?_)
        | (with_reducible refine hold_store ?_))
       refine hide ?_
       refine store_all 72 _ _ 72 (B + 1) _ ((bytesOf S8 32).map B8) (.agg ((bytesOf S8 32).map B8).toArray) hz32'.out y2 (by rfl) (by rfl) rfl (by rw [List.length_map, bytesOf_length, ← hZ.out, zero32_len]) (one_map _ (fun _ => rfl) _) ?_
       intro w9 z2 hg9 hs9
       go_wp2_with fail
       refine bodyPost_ret (run_results_cell rfl rfl isAgg_32 hz32'.out z2) rfl ⟨?_, ?_⟩
       ·unfold sha
        rw [hPM.out, ← hS8.out]
        rfl
       ·rw [← HB.out]
        exact yb.grown hg9 (Nat.le_of_lt y1.lt) (fun k hk => by cases hk; omega)
end Go.Proofs.YtfagjaabladgpaaDoor
end

section
namespace Go.Proofs.YtfagjaabladgpaaDoor
open Go.RowKit Go.Dx

theorem sha_len (m : List UInt8) : (sha m).length = 32 := by unfold sha; exact bytesOf_length _ _
end Go.Proofs.YtfagjaabladgpaaDoor
end

section
/- A region that draws its order: a head of operations that look at no memory, and a tail whose order is fixed: walked once. No program in sight. -/
namespace Go.Dx
open Go.RowKit
section
variable {P : Program} {ops : Array Oper} {md : Region.Mode}

end
end Go.Dx
end

section
namespace Go.Proofs.YtfagjaabladgpaaDoor
open Go.RowKit Go.Dx

theorem take_next {α : Type} {l : List α} {k : Nat} {x : α} (h : l[k]? = some x) : l.take (k + 1) = l.take k ++ [x] := by rw [List.take_add_one, h]; rfl
end Go.Proofs.YtfagjaabladgpaaDoor
end

section
namespace Go.Proofs.YtfagjaabladgpaaDoor
open Go.RowKit Go.Dx

def tagB (t : Int) : UInt8 := UInt8.ofNat (t % 256).toNat
theorem tagB_int (t : Int) : t % 256 = ((tagB t).toNat : Int) := by
 unfold tagB
 rw [UInt8.toNat_ofNat']
 omega
def inputL (t : Int) (ps : List ByteArray) : List UInt8 := tagB t :: ps.flatMap fun s => encBytes s.data.toList
theorem input_next {t : Int} {ps : List ByteArray} {k : Nat} {s : ByteArray} (h : ps[k]? = some s) : inputL t (ps.take (k + 1)) = inputL t (ps.take k) ++ encBytes s.data.toList := by
 unfold inputL
 rw [take_next h, List.flatMap_append]
 simp
theorem input_take {t : Int} {ps : List ByteArray} (k : Nat) : (inputL t (ps.take k)).length ≤ (inputL t ps).length := by
 unfold inputL
 rw [List.length_cons, List.length_cons]
 have h : (ps.flatMap fun s => encBytes s.data.toList).length = ((ps.take k).flatMap fun s => encBytes s.data.toList).length + ((ps.drop k).flatMap fun s => encBytes s.data.toList).length := by
  rw [← List.length_append, ← List.flatMap_append, List.take_append_drop]
 omega
theorem input_mem {t : Int} {ps : List ByteArray} {s : ByteArray} (h : s ∈ ps) : s.size ≤ (inputL t ps).length := by
 unfold inputL
 rw [List.length_cons]
 have h1 : s.size ≤ (encBytes s.data.toList).length := by
  have h3 : s.data.toList.length = s.size := Array.length_toList
  unfold encBytes; rw [List.length_append]; omega
 have h2 : ∀ (l : List ByteArray), s ∈ l → (encBytes s.data.toList).length ≤ (l.flatMap fun s => encBytes s.data.toList).length := by
  intro l
  induction l with
  | nil => intro h; cases h
  | cons x l ih =>
   intro h
   rw [List.flatMap_cons, List.length_append]
   rcases List.mem_cons.1 h with rfl | h
   ·omega
   ·have := ih h; omega
 have := h2 ps h
 omega
theorem size_dig'  : (Tryd.prog.info? 35).map (·.size) = some 16 := by kernel_rfl
theorem isAgg_dig : IsAgg Tryd.prog 35 := .inl ⟨_, _, Tryd.underlying35⟩
def zero16 : List UInt8 := List.replicate 16 0
theorem zero_16 (W : World) : (zeroValue 35).run Tryd.prog W = .ok (.agg (zero16.map B8).toArray) W := by kernel_rfl
set_option maxRecDepth 100000 in
set_option maxHeartbeats 2000000 in
theorem of_tot (t : Int) (ps : List ByteArray) (hn : ps.length ≤ 1000) (hsz : (inputL t ps).length ≤ 90000000) {a : Option Addr} {n c : Nat} {w : World} (hL : Laid w) (hs : Sl w 1 a n c (ps.map Value.string)) :
  Calls Tryd.prog 11 #[.int .i64 t, .slice a n c] w fun e w' => e = .returned (.agg (((sha (inputL t ps)).take 16).map B8).toArray) ∧ Below w.heap.size w w' := by
 obtain rfl := hs.n_eq
 have h16 := zero_16
 obtain ⟨Z, hZ⟩ : ∃ Z, Hid (zero16.map B8 = Z) := ⟨_, rfl⟩
 rw [hZ.out] at h16
 go_enter Tryd.func11, Tryd.ntmps11
 go_wp2_with fail
 have x4 : Box (w.alloc (.cells Z.toArray 35)) w.heap.size 35 Z := Box.new w _ _
 have b1 : Below w.heap.size w (w.alloc (.cells Z.toArray 35)) := (Below.refl _ _).alloc (Nat.le_refl _) _
 have hL1 := hL.below b1
 have hs1 := hs.below b1
 have x4w1 := hide x4.lt
 have hL0w := hL
 have hs0w := hs
 clear hL hs h16
 generalize w.alloc (.cells Z.toArray 35) = w1 at *
 refine wp_region_free 7 [⟨0, 9, [9], fun vs _ => vs = [SV []]⟩, ⟨1, 10, [10], fun vs _ => vs = [.int .i64 t]⟩, ⟨2, 11, [11], fun vs _ => vs = [B8 (tagB t)]⟩,
  ⟨3, 12, [12], fun vs w => ∃ g, vs = [.slice (some ⟨g, 0, none⟩) 1 1] ∧ Box w g 5 [B8 (tagB t)]⟩, ⟨4, 13, [13], fun vs _ => vs = [.string ⟨#[tagB t]⟩]⟩, ⟨5, 14, [14], fun vs _ => vs = [SV [tagB t]]⟩,
  ⟨6, 5, [5], fun vs w => ∃ g S, vs = [.pointer (some ⟨g, 0, none⟩)] ∧ Box w g 69 S ∧ S.length = 73 ∧ w1.heap.size ≤ g⟩] (by kernel_rfl) (by kernel_rfl) ?_ ?_ ?_
 ·simp only [All]
  refine ⟨fun _ _ _ _ h => h, fun _ _ _ _ h => h, fun _ _ _ _ h => h, ?_, fun _ _ _ _ h => h, fun _ _ _ _ h => h, ?_, trivial⟩
  ·rintro vs w2 w3 hb ⟨g, h1, h2⟩
   exact ⟨g, h1, h2.under hb⟩
  ·rintro vs w2 w3 hb ⟨g, S, h1, h2, h3⟩
   exact ⟨g, S, h1, h2.under hb, h3⟩
 ·simp only [All]
  refine ⟨?_, ?_, ?_, ?_, ?_, ?_, ?_, trivial⟩
  ·intro o ho a' w' hb hfr hdep; obtain rfl := oj ho
   clear ho hfr hdep; go_wp2_with (go_at_call 30; refine (Begin_at _).mono ?_; rintro e w2 ⟨rfl, h2⟩)
   exact ⟨rfl, _, rfl, h2, rfl⟩
  ·intro o ho a' w' hb hfr hdep; obtain rfl := oj ho
   have g0 : a'.tmps[0]?.getD undef = .int .i64 t := by simpa using hfr 0 (by kernel_rfl)
   clear ho hfr hdep; go_wp2_with fail; exact ⟨rfl, _, rfl, br, rfl⟩
  ·intro o ho a' w' hb hfr hdep; obtain rfl := oj ho
   have g0 : a'.tmps[10]?.getD undef = .int .i64 t := by simpa using hdep 1 _ rfl (by kernel_rfl)
   clear ho hfr hdep; go_wp2_with fail
   refine ⟨rfl, _, rfl, br, ?_⟩
   show [Value.int .u8 (t % 256)] = [B8 (tagB t)]
   rw [tagB_int]
  ·intro o ho a' w' hb hfr hdep; obtain rfl := oj ho
   have g0 : a'.tmps[11]?.getD undef = B8 (tagB t) := by simpa using hdep 2 _ rfl (by kernel_rfl)
   clear ho hfr hdep; go_wp2_with fail
   refine ⟨rfl, _, rfl, (Below.refl _ _).alloc (Nat.le_refl _) _, _, rfl, Box.new _ _ _⟩
  ·intro o ho a' w' hb hfr hdep; obtain rfl := oj ho
   obtain ⟨g, g0, x0⟩ := hdep 3 _ rfl (by kernel_rfl)
   have g0 : a'.tmps[12]?.getD undef = .slice (some ⟨g, 0, none⟩) 1 1 := by simpa using g0
   clear ho hfr hdep; refine to_str 13 _ _ _ _ [tagB t] (by simpa [Act.eval] using g0) (x0.sl 0 1 1 1 _ rfl (Nat.le_refl _) (by decide) (fun j u h => by rw [Nat.zero_add]; exact h)) ?_
   exact ⟨rfl, _, rfl, br, rfl⟩
  ·intro o ho a' w' hb hfr hdep; obtain rfl := oj ho
   have g0 : a'.tmps[9]?.getD undef = SV [] := by simpa using hdep 0 _ rfl (by kernel_rfl)
   have g1 : a'.tmps[13]?.getD undef = .string ⟨#[tagB t]⟩ := by simpa using hdep 4 _ rfl (by kernel_rfl)
   clear ho hfr hdep; go_wp2_with fail
   refine (add_at (m := []) (r := [tagB t]) rfl (by simp) _ (hL1.below hb)).mono ?_
   rintro e w2 ⟨rfl, h2⟩
   go_wp2_with fail
   exact ⟨rfl, _, rfl, h2, rfl⟩
  ·intro o ho a' w' hb hfr hdep; obtain rfl := oj ho
   have h3 := zero_strm
   have k2 : (strm Z0 (List.replicate 64 0) 0).length = 73 := strm_length _ (by simp) _
   generalize strm Z0 (List.replicate 64 0) 0 = S at *
   have k2 := hide k2
   clear ho hfr hdep; go_wp2_with fail
   exact ⟨rfl, _, rfl, (Below.refl _ _).alloc (Nat.le_refl _) _, _, S, rfl, Box.new _ _ _, k2.out, hb.size⟩
 ·intro g w2 hb hp
  have p5 := hp 5 _ rfl
  obtain ⟨g5, S, p6, x5, hS, hg⟩ := hp 6 _ rfl
  clear hp
  simp at p5 p6
  simp only [List.map_cons, List.map_nil, putAll, Act.put, List.setIfInBounds_toArray, List.set_cons_succ, List.set_cons_zero, p5, p6]
  have hzs : (Tryd.prog.info? 69).map (·.size) = some (SC [tagB t]).length := by rw [SC_len]; exact size_strm
  refine store_all 69 _ _ 69 g5 S (SC [tagB t]) (.agg (SC [tagB t]).toArray) hzs x5 (by rfl) (by rfl) rfl (by rw [SC_len, hS]) (strm_one _ _ _) ?_
  intro w3 x5 hg3 hs3
  have x4 := (x4.below hb x4.lt).grown hg3 (by simp; have := x4.lt; omega)
  have b3 : Below w.heap.size w w3 := (b1.trans (hb.mono b1.size)).grown hg3 (by have := b1.size; have := hb.size; omega) (fun k hk => by cases hk; have := b1.size; omega)
  have hB5 : w.heap.size < g5 := by have := x4w1.out; omega
  have hS3 : Below w1.heap.size w1 w3 := hb.grown hg3 hb.size (fun k hk => by cases hk; exact hg)
  have hs3' := hs1.below hS3
  have hL3 := hL1.below hS3
  clear hs1 hL1 b1 hb hS3 hg hs3 p5 p6 hzs hg3
  have hB5 : w.heap.size < g5 := hB5
  have hL0 := hide hL0w
  have hs0 := hide hs0w
  obtain ⟨B, hB⟩ : ∃ B, B = w.heap.size := ⟨_, rfl⟩
  rw [← hB] at x4 b3 hB5 ⊢
  have HB := hide hB
  have hsz := hide hsz
  clear hB
  have hc1 := Nat.le_trans hs3'.le hs3'.cap
  unfold maxLen at hc1
  go_wp2_with fail
  go_loopg [17] ps.length (fun g i w' => ∃ k : Nat, k ≤ ps.length ∧ g = ps.length - k ∧ i = .int .i64 k ∧ Box w' g5 69 (SC (inputL t (ps.take k))) ∧ Box w' B 35 Z ∧ Sl w' 1 a ps.length c (ps.map Value.string) ∧ Laid w' ∧ Below B w w')
  case atStart => exact ⟨0, by omega, by omega, rfl, x5, x4, hs3', hL3, b3⟩
  case round =>
   clear x5 x4 hs3' hL3 b3
   obtain ⟨k, hk, hg, rfl, x5, x4, hs3, hL3, b3⟩ := hrel
   have HG := hide hg
   clear hg
   by_cases hlt : k < ps.length
   ·obtain ⟨b, o, rfl, hb, hc⟩ := hs3.ex (by simp; omega)
    obtain ⟨s, hs⟩ : ∃ s, ps[k]? = some s := ⟨ps[k], by simp [hlt]⟩
    have hs1 : wr.cell? ⟨b, o + k, none⟩ = some (Value.string s) := hc k _ (by rw [List.getElem?_map, hs]; rfl)
    have hss := Nat.le_trans (input_mem (t := t) (List.mem_of_getElem? hs)) hsz.out
    have hnext := hide (input_next (t := t) hs)
    have hlen := Nat.le_trans (input_take (t := t) (ps := ps) (k + 1)) hsz.out
    have hlen2 : (ps.take (k + 1)).length ≤ k + 1 := List.length_take_le _ _
    obtain ⟨C, hC⟩ : ∃ C, Hid (inputL t (ps.take k) = C) := ⟨_, rfl⟩
    obtain ⟨D, hD⟩ : ∃ D, Hid (inputL t (ps.take (k + 1)) = D) := ⟨_, rfl⟩
    obtain ⟨E, hE⟩ : ∃ E, Hid (encBytes s.data.toList = E) := ⟨_, rfl⟩
    rw [hC.out] at x5
    rw [hD.out] at hlen
    have hcat : C ++ E = D := by rw [← hC.out, ← hD.out, ← hE.out]; exact hnext.out.symm
    have hcat := hide hcat
    have hDl : D.length ≤ 1000000000 := by omega
    clear hc hs hlen hlen2
    go_wp2_with fail
    refine wp_region_free 5 [⟨0, 21, [21], fun vs _ => vs = [SV C]⟩, ⟨1, 22, [22], fun vs _ => vs = [.string s]⟩, ⟨2, 23, [23], fun vs w => ∃ a c, vs = [.slice a E.length c] ∧ Sl w 1 a E.length c (E.map B8)⟩,
     ⟨3, 24, [24], fun vs _ => vs = [.string ⟨E.toArray⟩]⟩, ⟨4, 25, [25], fun vs _ => vs = [SV D]⟩] (by kernel_rfl) (by kernel_rfl) ?_ ?_ ?_
    ·simp only [All]
     refine ⟨fun _ _ _ _ h => h, fun _ _ _ _ h => h, ?_, fun _ _ _ _ h => h, fun _ _ _ _ h => h, trivial⟩
     rintro vs w2 w3 hb ⟨a, c, h1, h2⟩
     exact ⟨a, c, h1, h2.below hb⟩
    ·simp only [All]
     refine ⟨?_, ?_, ?_, ?_, ?_, trivial⟩
     ·intro o ho a' w' hb hfr hdep; obtain rfl := oj ho
      have g0 : a'.tmps[5]?.getD undef = .pointer (some ⟨g5, 0, none⟩) := by simpa using hfr 5 (by kernel_rfl)
      have hzs : (Tryd.prog.info? 69).map (·.size) = some (SC C).length := by rw [SC_len]; exact size_strm
      refine load_box 21 69 _ 69 g5 0 (SC C) (SC C) isAgg_strm hzs (x5.under hb) (by simpa [Act.eval] using g0) (fun j u hj => by rw [Nat.zero_add]; exact hj) ?_
      exact ⟨rfl, _, rfl, br, rfl⟩
     ·intro o ho a' w' hb hfr hdep; obtain rfl := oj ho
      have g0 : a'.tmps[7]?.getD undef = .string s := by simpa using hfr 7 (by kernel_rfl)
      clear ho hfr hdep; go_wp2_with fail; exact ⟨rfl, _, rfl, br, rfl⟩
     ·intro o ho a' w' hb hfr hdep; obtain rfl := oj ho
      have g0 : a'.tmps[22]?.getD undef = .string s := by simpa using hdep 1 _ rfl (by kernel_rfl)
      clear ho hfr hdep; have hW := wire_Bytes s (by omega) w'
      rw [hE.out] at hW
      have hW := hide hW
      go_wp2_with fail
      refine hW.out.mono ?_
      rintro e w2 ⟨a2, c2, rfl, o2, h2⟩
      go_wp2_with fail
      exact ⟨rfl, _, rfl, h2, _, _, rfl, o2.sl⟩
     ·intro o ho a' w' hb hfr hdep; obtain rfl := oj ho
      obtain ⟨a2, c2, g0, s0⟩ := hdep 2 _ rfl (by kernel_rfl)
      have g0 : a'.tmps[23]?.getD undef = .slice a2 E.length c2 := by simpa using g0
      clear ho hfr hdep; refine to_str 24 _ _ _ _ E (by simpa [Act.eval] using g0) s0 ?_
      exact ⟨rfl, _, rfl, br, rfl⟩
     ·intro o ho a' w' hb hfr hdep; obtain rfl := oj ho
      have g0 : a'.tmps[21]?.getD undef = SV C := by simpa using hdep 0 _ rfl (by kernel_rfl)
      have g1 : a'.tmps[24]?.getD undef = .string ⟨E.toArray⟩ := by simpa using hdep 3 _ rfl (by kernel_rfl)
      clear ho hfr hdep; go_wp2_with fail
      refine (add_at (m := C) (r := D) hcat.out hDl _ (hL3.below hb)).mono ?_
      rintro e w2 ⟨rfl, h2⟩
      go_wp2_with fail
      exact ⟨rfl, _, rfl, h2, rfl⟩
    ·intro g w2 hb hp
     have p5 := hp 4 _ rfl
     clear hp
     simp at p5
     simp only [List.map_cons, List.map_nil, putAll, Act.put, List.setIfInBounds_toArray, List.set_cons_succ, List.set_cons_zero, p5]
     have hzs : (Tryd.prog.info? 69).map (·.size) = some (SC D).length := by rw [SC_len]; exact size_strm
     refine store_all 69 _ _ 69 g5 (SC C) (SC D) (.agg (SC D).toArray) hzs (x5.under hb) (by rfl) (by rfl) rfl (by rw [SC_len, SC_len]) (strm_one _ _ _) ?_
     intro w3 x6 hg6 hs6
     have hlt5 := x5.lt
     have hb6 : Below (B + 1) wr w3 := (hb.mono (by omega)).grown hg6 (by have := hb.size; omega) (fun k hk => by cases hk; omega)
     have x4 := ((x4.under hb).grown hg6 (by simp; omega))
     have hL6 := hL0.out.mono (b3.trans (hb6.mono (by omega))) (Nat.le_of_eq HB.out.symm)
     have hs6' := hs0.out.below ((b3.trans (hb6.mono (by omega))).mono (Nat.le_of_eq HB.out.symm))
     have b6 := b3.trans (hb6.mono (by omega))
     clear p5 hb hg6 hb6 hs6 hlt5
     go_wp2_with fail
     go_roundg (ps.length - (k + 1))
     case measure => have := HG.out; omega
     case rel => exact ⟨k + 1, by omega, rfl, by go_num, by rw [hD.out]; exact x6, x4, hs6', hL6, b6⟩
   ·obtain rfl : k = ps.length := by omega
    rw [List.take_length] at x5
    have hlen := hsz.out
    obtain ⟨C, hC⟩ : ∃ C, Hid (inputL t ps = C) := ⟨_, rfl⟩
    rw [hC.out] at x5 hlen
    obtain ⟨R, hR⟩ : ∃ R, Hid ((sha C).map B8 = R) := ⟨_, rfl⟩
    have hRl : R.length = 32 := by rw [← hR.out, List.length_map, sha_len]
    have hR1 : ∀ u ∈ R, u.oneCell' = true := by rw [← hR.out]; exact one_map _ (fun _ => rfl) _
    have hR1 := hide hR1
    have hzR : (Tryd.prog.info? 72).map (·.size) = some R.length := by rw [hRl]; exact size_32
    have hzT : (Tryd.prog.info? 35).map (·.size) = some (R.take 16).length := by rw [List.length_take, hRl]; exact size_dig'
    have hTl : (R.take 16).length = 16 := by rw [List.length_take, hRl]; rfl
    have hZl : Z.length = 16 := by rw [← hZ.out]; rfl
    have hRl := hide hRl
    have hTl := hide hTl
    have hzR := hide hzR
    have hzT := hide hzT
    have hZl := hide hZl
    have hzs : (Tryd.prog.info? 69).map (·.size) = some (SC C).length := by rw [SC_len]; exact size_strm
    have hzs := hide hzs
    have hCl : C.length ≤ 500000000 := by omega
    have h32 := zero_32
    obtain ⟨Y, hY⟩ : ∃ Y, Hid (zero32.map B8 = Y) := ⟨_, rfl⟩
    rw [hY.out] at h32
    have hYl : Y.length = 32 := by rw [← hY.out, zero32_len]
    have hYl := hide hYl
    clear hlen hs3
    go_wp2_with (with_reducible refine load_box 27 69 _ 69 g5 0 (SC C) (SC C) isAgg_strm hzs.out x5 rfl (fun j u hj => by rw [Nat.zero_add]; exact hj) ?_)
    refine (ssum_any C hCl _ hL3).mono ?_
    rintro e w2 ⟨rfl, h2⟩
    rw [hR.out]
    have x4 := x4.under h2
    have b2 := b3.trans (h2.mono (by have := x5.lt; omega))
    clear h2 b3 hL3
    go_wp2_with (with_reducible refine hold_store ?_)
    refine hide ?_
    have hG : B < w2.heap.size := x4.lt
    refine store_all 72 _ _ 72 w2.heap.size Y R (.agg R.toArray) hzR.out (Box.new w2 _ _) (by rfl) (by rfl) rfl (by rw [hRl.out, hYl.out]) hR1.out ?_
    intro w3 x8 hg3 hs3
    have x4 := (x4.alloc (.cells Y.toArray 72)).grown hg3 (by simp; omega)
    have b3 := (b2.alloc (Nat.le_of_lt hG) (.cells Y.toArray 72)).grown hg3 (by simp; omega) (fun k hk => by cases hk; omega)
    generalize w2.heap.size = G at *
    have ha : ∀ W : World, (Instr.arrayAt 35 (.slice (some ⟨G, 0, none⟩) 16 32)).run Tryd.prog W = .ok (.pointer (some ⟨G, 0, none⟩)) W := fun W => by simp [Instr.arrayAt, run_underlying Tryd.underlying35]
    clear hg3 hs3 b2 h32
    go_wp2_with (first
     | (with_reducible refine cut_var 29 72 5 32 _ _ _ Tryd.underlying72 size_u8 G 0 rfl 0 16 (.inl ⟨rfl, rfl⟩) (.inr ⟨_, rfl⟩) (by omega) (by omega) (by omega) ?_)
     | (with_reducible refine load_box 31 35 _ 72 G 0 R (R.take 16) isAgg_dig hzT.out x8 rfl (fun j u hj => by rw [Nat.zero_add]; rw [List.getElem?_take] at hj; split at hj; exact hj; cases hj) ?_)
     | (with_reducible refine hold_store ?_))
    refine hide ?_
    refine store_all 35 _ _ 35 B Z (R.take 16) (.agg (R.take 16).toArray) hzT.out x4 (by rfl) (by rfl) rfl (by rw [hTl.out, hZl.out]) (fun u hu => hR1.out u (List.mem_of_mem_take hu)) ?_
    intro w4 x9 hg4 hs4
    go_wp2_with fail
    refine bodyPost_ret (run_results_cell rfl rfl isAgg_dig hzT.out x9) rfl ⟨?_, ?_⟩
    ·rw [List.map_take, hC.out, hR.out]
    ·rw [← HB.out]
     exact b3.grown hg4 (Nat.le_of_lt x4.lt) (fun k hk => by cases hk; omega)
end Go.Proofs.YtfagjaabladgpaaDoor
end

section
namespace Go.Proofs.YtfagjaabladgpaaDoor
open Go.RowKit Go.Dx
def fillA (ys : List UInt8) (n k : Nat) : List UInt8 := ys.take k ++ List.replicate (n - k) 0
theorem fill_get {ys : List UInt8} {n k : Nat} (h : n ≤ ys.length) (hk : k < n) : (fillA ys n k)[k]? = some 0 := by
 unfold fillA
 rw [List.getElem?_append_right (by rw [List.length_take]; omega), List.length_take, List.getElem?_replicate, if_pos (by omega)]
theorem fill_set {ys : List UInt8} {n k : Nat} (h : n ≤ ys.length) (hk : k < n) {x : UInt8} (hx : ys[k]? = some x) : ((fillA ys n k).map B8).set k (B8 x) = (fillA ys n (k + 1)).map B8 := by
 obtain ⟨d, hd⟩ : ∃ d, n - k = d + 1 := ⟨n - k - 1, by omega⟩
 have hl : (ys.take k).length = k := by rw [List.length_take]; omega
 unfold fillA
 rw [← List.map_set, hd, List.set_append_right _ _ (by omega), hl, Nat.sub_self, List.replicate_succ, List.set_cons_zero, take_next hx, show n - (k + 1) = d by omega, List.append_assoc]
 rfl
theorem fill_all {ys : List UInt8} {n : Nat} : fillA ys n n = ys.take n := by unfold fillA; rw [Nat.sub_self, List.replicate_zero, List.append_nil]
theorem build_z16 (W : World) : (Instr.build 35 #[]).run Tryd.prog W = .ok (.agg (zero16.map B8).toArray) W := by kernel_rfl

set_option maxRecDepth 100000 in
set_option maxHeartbeats 1000000 in
theorem input_tot (t : Int) (ps : List ByteArray) (hn : ps.length ≤ 1000) (hsz : (inputL t ps).length ≤ 90000000) {a : Option Addr} {n c : Nat} {w : World} (hs : Sl w 1 a n c (ps.map Value.string)) :
  Calls Tryd.prog 52 #[.int .i64 t, .slice a n c] w (Gives 5 1 (inputL t ps).length ((inputL t ps).map B8) w) := by
 obtain rfl := hs.n_eq
 have htb := tagB_int t
 have hsz := hide hsz
 go_enter Tryd.func52, Tryd.ntmps52
 go_wp2_with fail
 clear htb
 have oP := Own.built w w.heap.size 5 1 1 #[.int .u8 ((tagB t).toNat : Int)] (Nat.le_refl _) rfl (by decide)
 have b1 : Below w.heap.size w (w.alloc (.cells #[.int .u8 ((tagB t).toNat : Int)] 5)) := (Below.refl _ _).alloc (Nat.le_refl _) _
 have hs1 := hs.below b1
 generalize w.alloc (.cells #[.int .u8 ((tagB t).toNat : Int)] 5) = w1 at *
 go_loopg [5, 6] ps.length (fun g o i w' => ∃ (k : Nat) (a2 : Option Addr) (c2 : Nat), k ≤ ps.length ∧ g = ps.length - k ∧ i = .int .i64 k ∧ o = .slice a2 (inputL t (ps.take k)).length c2 ∧ Own w' w.heap.size 5 1 a2 (inputL t (ps.take k)).length c2 ((inputL t (ps.take k)).map B8) ∧ Below w.heap.size w w')
 case atStart => exact ⟨0, _, 1, by omega, by omega, rfl, rfl, oP, b1⟩
 case round =>
  clear oP b1 hs1
  obtain ⟨k, a2, c2, hk, hg, rfl, rfl, oP, hb⟩ := hrel
  have HG := hide hg
  clear hg
  by_cases hlt : k < ps.length
  ·have hs2 := hs.below hb
   obtain ⟨b, o, rfl, hb2, hc⟩ := hs2.ex (by simp; omega)
   obtain ⟨s, hss⟩ : ∃ s, ps[k]? = some s := ⟨ps[k], by simp [hlt]⟩
   have hs3 : wr.cell? ⟨b, o + k, none⟩ = some (Value.string s) := hc k _ (by rw [List.getElem?_map, hss]; rfl)
   have hsl := Nat.le_trans (input_mem (t := t) (List.mem_of_getElem? hss)) hsz.out
   have hlen := Nat.le_trans (input_take (t := t) (ps := ps) k) hsz.out
   have hlen2 : (ps.take k).length ≤ k := List.length_take_le _ _
   have hel : (encBytes s.data.toList).length ≤ 90000100 := by
    have h2 := encInt_le (s.data.toList.length : Int)
    have h3 : s.data.toList.length = s.size := Array.length_toList
    unfold encBytes; rw [List.length_append]; omega
   have hnext := hide (input_next (t := t) hss)
   obtain ⟨C, hC⟩ : ∃ C, Hid (inputL t (ps.take k) = C) := ⟨_, rfl⟩
   obtain ⟨E, hE⟩ : ∃ E, Hid (encBytes s.data.toList = E) := ⟨_, rfl⟩
   rw [hC.out] at oP hlen ⊢
   rw [hE.out] at hel
   have hR := ref_Bytes s (by omega)
   rw [hE.out] at hR
   have hR := hide hR
   clear hc hss hs2
   go_wp2_with fail
   refine (hR.out _).mono ?_
   rintro e w2 ⟨a3, c3, rfl, o3, h3⟩
   have oP := oP.below h3
   have hb3 := hb.trans (h3.mono hb.size)
   have o3 := o3.sl
   clear h3 hR
   go_wp2_with (at_builtin; refine app_bs (o := ⟨some 22, _, _, _, _, _⟩) rfl _ _ rfl w w.heap.size _ _ _ _ rfl oP _ _ _ E rfl o3 (by omega) hb3.size hb3 ?_; intro a4 c4 w4 o4 hg4 hb4)
   go_roundg (ps.length - (k + 1))
   case measure => have := HG.out; omega
   case rel =>
    have e : inputL t (ps.take (k + 1)) = C ++ E := by rw [hnext.out, hC.out, hE.out]
    refine ⟨k + 1, a4, c4, by omega, rfl, by go_num, by rw [e, List.length_append], ?_, hb4⟩
    rw [e, List.length_append, List.map_append]
    exact o4
  ·obtain rfl : k = ps.length := by omega
   rw [List.take_length] at oP ⊢
   generalize inputL t ps = C at *
   go_wp2_with fail
   go_ret
   exact ⟨a2, c2, rfl, oP, hb⟩
set_option maxRecDepth 100000 in
set_option maxHeartbeats 2000000 in
theorem short_any (l : List UInt8) (hl : l.length ≤ 100000000) (a : Option Addr) (n c : Nat) (w : World) (hL : LaidR w) (hs : Sl w 1 a n c (l.map B8)) :
  Calls Tryd.prog 51 #[.slice a n c] w fun e w' => e = .returned (.agg (((sha l).take 16).map B8).toArray) ∧ Below w.heap.size w w' := by
 have h16 := zero_16
 have h32 := zero_32
 have hb16 := build_z16
 obtain ⟨Z, hZ⟩ : ∃ Z, Hid (zero16.map B8 = Z) := ⟨_, rfl⟩
 obtain ⟨Y, hY⟩ : ∃ Y, Hid (zero32.map B8 = Y) := ⟨_, rfl⟩
 rw [hZ.out] at h16 hb16
 rw [hY.out] at h32
 have hYl : Y.length = 32 := by rw [← hY.out, zero32_len]
 have hZl : Z.length = 16 := by rw [← hZ.out]; rfl
 have HYl := hide hYl
 have HZl := hide hZl
 clear hYl hZl
 obtain ⟨S, hS⟩ : ∃ S, Hid (sha l = S) := ⟨_, rfl⟩
 have hSl : S.length = 32 := by rw [← hS.out, sha_len]
 have HSl := hide hSl
 clear hSl
 go_enter Tryd.func51, Tryd.ntmps51
 go_wp2_with fail
 have x2 : Box (w.alloc (.cells Z.toArray 35)) w.heap.size 35 Z := Box.new w _ _
 have b1 : Below w.heap.size w (w.alloc (.cells Z.toArray 35)) := (Below.refl _ _).alloc (Nat.le_refl _) _
 refine (ref_Sum l hl a n c _ (hL.below b1) (hs.below b1)).mono ?_
 rintro e w2 ⟨rfl, h2⟩
 rw [hS.out]
 obtain ⟨B, hB⟩ : ∃ B, B = w.heap.size := ⟨_, rfl⟩
 have x2 := x2.under h2
 have b2 := b1.trans (h2.mono b1.size)
 rw [← hB] at x2 b2 ⊢
 have HB := hide hB
 clear hB h2 b1 hL hs
 have hzS : (Tryd.prog.info? 72).map (·.size) = some (S.map B8).length := by rw [List.length_map, HSl.out]; exact size_32
 have hzZ : (Tryd.prog.info? 35).map (·.size) = some Z.length := by rw [HZl.out]; exact size_dig'
 have HzS := hide hzS
 have HzZ := hide hzZ
 have hZ1 : ∀ u ∈ Z, u.oneCell' = true := by rw [← hZ.out]; exact one_map _ (fun _ => rfl) _
 have HZ1 := hide hZ1
 clear hzS hzZ hZ1
 go_wp2_with (with_reducible refine hold_store ?_)
 refine hide ?_
 refine store_all 72 _ _ 72 w2.heap.size Y (S.map B8) (.agg (S.map B8).toArray) HzS.out (Box.new w2 _ _) (by rfl) (by rfl) rfl (by rw [List.length_map, HSl.out, HYl.out]) (one_map _ (fun _ => rfl) _) ?_
 intro w3 x3 hg3 hs3
 have hG : B < w2.heap.size := x2.lt
 have x2 := (x2.alloc (.cells Y.toArray 72)).grown hg3 (by simp; omega)
 have b3 := (b2.alloc (Nat.le_of_lt hG) (.cells Y.toArray 72)).grown hg3 (by simp; omega) (fun k hk => by cases hk; omega)
 generalize w2.heap.size = G at *
 clear hg3 hs3 b2
 go_wp2_with (with_reducible refine hold_build ?_)
 refine hide ?_
 refine val_at rfl (.agg Z.toArray) (by simp [execOp, Act.eval, hb16]) ?_
 go_wp2_with (with_reducible refine hold_store ?_)
 refine hide ?_
 refine store_all 35 _ _ 35 w3.heap.size Z Z (.agg Z.toArray) HzZ.out (Box.new w3 _ _) (by rfl) (by rfl) rfl rfl HZ1.out ?_
 intro w4 x4 hg4 hs4
 have hG3 : G < w3.heap.size := x3.lt
 have x2 := (x2.alloc (.cells Z.toArray 35)).grown hg4 (by simp; omega)
 have x3 := (x3.alloc (.cells Z.toArray 35)).grown hg4 (by simp; omega)
 have b4 := (b3.alloc (by omega) (.cells Z.toArray 35)).grown hg4 (by simp; omega) (fun k hk => by cases hk; omega)
 generalize w3.heap.size = D at *
 clear hg4 hs4 b3 h16 h32 hb16
 have x4 : Box w4 D 35 ((fillA S 16 0).map B8) := by rw [← hZ.out] at x4; exact x4
 go_wp2_with fail
 go_loopg [5] 16 (fun g i w' => ∃ k : Nat, k ≤ 16 ∧ g = 16 - k ∧ i = .int .i64 k ∧ Box w' D 35 ((fillA S 16 k).map B8) ∧ Box w' G 72 (S.map B8) ∧ Box w' B 35 Z ∧ Below B w w')
 case atStart => exact ⟨0, by omega, by omega, rfl, x4, x3, x2, b4⟩
 case round =>
  clear x4 x3 x2 b4
  obtain ⟨k, hk, hg, rfl, x4, x3, x2, b4⟩ := hrel
  have HG := hide hg
  clear hg
  by_cases hlt : k < 16
  ·obtain ⟨u, hu⟩ : ∃ u, S[k]? = some u := ⟨S[k]'(by rw [HSl.out]; omega), by simp⟩
   have q0 : wr.cell? ⟨G, k, none⟩ = some (B8 u) := x3.at_ (box_at hu)
   have q1 : wr.cell? ⟨D, k, none⟩ = some (B8 0) := x4.at_ (box_at (fill_get (by rw [HSl.out]; omega) hlt))
   have f1 := x4.free k
   have HU := hide hu
   clear hu
   go_wp2_with fail
   go_roundg (16 - (k + 1))
   case measure => have := HG.out; omega
   case rel =>
    refine ⟨k + 1, by omega, rfl, by go_num, ?_, x3.far (by simp; omega) _, x2.far (by simp; omega) _, b4.setCell (by simp; omega) _⟩
    have h := x4.put k (B8 u)
    rw [fill_set (by rw [HSl.out]; omega) hlt HU.out] at h
    exact h
  ·obtain rfl : k = 16 := by omega
   rw [fill_all] at x4
   have hz16 : (Tryd.prog.info? 35).map (·.size) = some ((S.take 16).map B8).length := by rw [List.length_map, List.length_take, HSl.out]; exact size_dig'
   have Hz16 := hide hz16
   clear hz16
   go_wp2_with (first
    | (with_reducible refine load_box 18 35 _ 35 D 0 _ ((S.take 16).map B8) isAgg_dig Hz16.out x4 rfl (fun j u hj => by rw [Nat.zero_add]; exact hj) ?_)
    | (with_reducible refine hold_store ?_))
   refine hide ?_
   refine store_all 35 _ _ 35 B Z ((S.take 16).map B8) (.agg ((S.take 16).map B8).toArray) Hz16.out x2 (by rfl) (by rfl) rfl (by rw [List.length_map, List.length_take, HSl.out, HZl.out]; rfl) (one_map _ (fun _ => rfl) _) ?_
   intro w9 z2 hg9 hs9
   go_wp2_with fail
   exact bodyPost_ret (run_results_cell rfl rfl isAgg_dig Hz16.out z2) rfl ⟨by rw [hS.out], by rw [← HB.out]; exact b4.grown hg9 (Nat.le_of_lt x2.lt) (fun k hk => by cases hk; omega)⟩
set_option maxRecDepth 100000 in
set_option maxHeartbeats 2000000 in
theorem rof_tot (t : Int) (ps : List ByteArray) (hn : ps.length ≤ 1000) (hsz : (inputL t ps).length ≤ 90000000) {a : Option Addr} {n c : Nat} {w : World} (hL : LaidR w) (hs : Sl w 1 a n c (ps.map Value.string)) :
  Calls Tryd.prog 29 #[.int .i64 t, .slice a n c] w fun e w' => e = .returned (.agg (((sha (inputL t ps)).take 16).map B8).toArray) ∧ Below w.heap.size w w' := by
 have h16 := zero_16
 obtain ⟨Z, hZ⟩ : ∃ Z, Hid (zero16.map B8 = Z) := ⟨_, rfl⟩
 rw [hZ.out] at h16
 have hZl : Z.length = 16 := by rw [← hZ.out]; rfl
 have HZl := hide hZl
 have hlen := hsz
 obtain ⟨C, hC⟩ : ∃ C, Hid (inputL t ps = C) := ⟨_, rfl⟩
 have hI := hide fun (w' : World) (hs : Sl w' 1 a n c (ps.map Value.string)) => input_tot t ps hn hsz hs
 rw [hC.out] at hlen hI ⊢
 have hCl : C.length ≤ 100000000 := by omega
 have hz16 : (Tryd.prog.info? 35).map (·.size) = some (((sha C).take 16).map B8).length := by rw [List.length_map, List.length_take, sha_len]; exact size_dig'
 have Hz16 := hide hz16
 clear hz16 hlen hsz hZl
 go_enter Tryd.func29, Tryd.ntmps29
 go_wp2_with fail
 have x2 : Box (w.alloc (.cells Z.toArray 35)) w.heap.size 35 Z := Box.new w _ _
 have b1 : Below w.heap.size w (w.alloc (.cells Z.toArray 35)) := (Below.refl _ _).alloc (Nat.le_refl _) _
 refine (hI.out _ (hs.below b1)).mono ?_
 rintro e w2 ⟨a2, c2, rfl, o2, h2⟩
 have x2 := x2.under h2
 have b2 := b1.trans (h2.mono b1.size)
 clear h2 b1
 go_wp2_with fail
 refine (short_any C hCl _ _ _ _ (hL.below b2) o2.sl).mono ?_
 rintro e w3 ⟨rfl, h3⟩
 have x2 := x2.under h3
 have b3 := b2.trans (h3.mono b2.size)
 clear h3 b2
 go_wp2_with (with_reducible refine hold_store ?_)
 refine hide ?_
 refine store_all 35 _ _ 35 w.heap.size Z (((sha C).take 16).map B8) (.agg (((sha C).take 16).map B8).toArray) Hz16.out x2 (by rfl) (by rfl) rfl (by rw [List.length_map, List.length_take, sha_len, HZl.out]; rfl) (one_map _ (fun _ => rfl) _) ?_
 intro w9 z2 hg9 hs9
 go_wp2_with fail
 exact bodyPost_ret (run_results_cell rfl rfl isAgg_dig Hz16.out z2) rfl ⟨rfl, b3.grown hg9 (Nat.le_of_lt x2.lt) (fun k hk => by cases hk; exact Nat.le_refl _)⟩
end Go.Proofs.YtfagjaabladgpaaDoor
end

section
/- Chapter 06: the program's Valid. -/
namespace Go.Proofs.YtfagjaabladgpaaDoor
open Go.RowKit Go.Dx

set_option maxRecDepth 100000 in
set_option maxHeartbeats 8000000 in
theorem tab_Valid (H : TH) (t : Ta) (w : World) (hT : TaIs w H t) : Calls Tryd.prog 39 #[H.v] w fun e w' => e = .returned (.int .i64 (validE t)) ∧ Below w.heap.size w w' := by
 obtain ⟨r, HR⟩ : ∃ r, Hid (validE t = r) := ⟨_, hide rfl⟩
 rw [HR.out]
 have hmm := @run_makeMap Tryd.prog
 have HX := TBox.new hT 29
 have hSEL := sel_lang hT
 have B0 : (w.alloc (.cells (tcells H).toArray 29)).cell? ⟨w.heap.size, 0, none⟩ = some (hdv H.r0) := (Box.new w 29 (tcells H).toArray).at_ rfl
 have B1 : (w.alloc (.cells (tcells H).toArray 29)).cell? ⟨w.heap.size, 1, none⟩ = some (hdv H.r1) := (Box.new w 29 (tcells H).toArray).at_ rfl
 have hb0 := blo w (.cells (tcells H).toArray 29)
 clear hT
 obtain ⟨⟨a0, n0, c0⟩, ⟨a1, n1, c1⟩, ps0, ps1, ⟨ad, nd, cd⟩, ⟨ac, nc, cc⟩, ⟨an, nn, cn⟩, ⟨af, nf, cf⟩, ⟨aw, nw, cw⟩⟩ := H
 unfold TH.v
 unfold tcells at HX hb0 B0 B1
 simp only [hdv] at HX hb0 hSEL B0 B1 ⊢
 have HSEL : Hid (∀ k, k < 2 → ∃ a n c ps, [Value.slice a0 n0 c0, Value.slice a1 n1 c1][k]? = some (.slice a n c) ∧ Rul w a n c ps ∧ rus ps = langK t k) := hide hSEL
 clear hSEL
 go_enter Tryd.func39, Tryd.ntmps39
 go_wp2_with fail
 generalize w.alloc (.cells _ 29) = w1 at *
 go_loopg [20] 2 (fun gh v w' => ∃ k : Nat, k ≤ 2 ∧ gh = 2 - k ∧ Hid (∀ j, j < k → (langK t j).length ≤ 96) ∧ v = .int .i64 (k : Int) ∧ Below w1.heap.size w1 w')
 case atStart => exact ⟨0, by omega, by omega, hide (fun j h => by omega), rfl, Below.refl _ _⟩
 case round =>
  obtain ⟨k, hk, hg, HLEN, rfl, hb⟩ := hrel
  have HG := hide hg
  clear hg
  by_cases hkl : k < 2
  ·obtain ⟨ak, nk, ck, psk, hck, hRk, hek⟩ := HSEL.out k hkl
   have HCK := hide hck
   have HN : Hid ((langK t k).length = nk) := hide (by rw [← hek, hRk.n_eq]; simp [rus])
   clear hRk hek hck
   by_cases h96 : 96 < nk
   ·have d1 : decide (96 < (nk : Int)) = true := decide_eq_true (by omega)
    have HE : Hid (r = 4) := hide (by rw [← HR.out]; exact ve_lim (k := k) (by rw [HN.out]; exact h96))
    clear h96
    go_wp2_with (with_reducible refine idx_tab 22 _ _ [.slice a0 n0 c0, .slice a1 n1 c1] rfl _ k rfl hkl _ HCK.out ?_)
    go_ret
    exact ⟨by rw [HE.out]; rfl, hb0.trans ((hb.trans ((blo wr _).mono hb.size)).mono hb0.size)⟩
   ·have d1 : decide (96 < (nk : Int)) = false := decide_eq_false (by omega)
    have HLEN2 : Hid (∀ j, j < k + 1 → (langK t j).length ≤ 96) := hide (fun j hj => by
     by_cases e : j = k
     ·rw [e, HN.out]; omega
     ·exact HLEN.out j (by omega))
    clear h96
    go_wp2_with (with_reducible refine idx_tab 22 _ _ [.slice a0 n0 c0, .slice a1 n1 c1] rfl _ k rfl hkl _ HCK.out ?_)
    have hb3 : ∀ o, Below w1.heap.size w1 (wr.alloc o) := fun o => hb.trans ((blo wr o).mono hb.size)
    go_roundg (2 - (k + 1))
    case measure => have := HG.out; omega
    case rel => exact ⟨k + 1, by omega, rfl, HLEN2, by go_num, hb3 _⟩
  ·obtain rfl : k = 2 := by omega
   clear hk hkl HG
   have HXr := HX.below hb
   have kd : wr.cell? ⟨w.heap.size, 2, none⟩ = some (.slice ad nd cd) := HXr.d
   have kc : wr.cell? ⟨w.heap.size, 3, none⟩ = some (.slice ac nc cc) := HXr.c
   have kn : wr.cell? ⟨w.heap.size, 4, none⟩ = some (.slice an nn cn) := HXr.n
   have kf : wr.cell? ⟨w.heap.size, 5, none⟩ = some (.slice af nf cf) := HXr.f
   have ks : wr.cell? ⟨w.heap.size, 6, none⟩ = some (.slice aw nw cw) := HXr.s
   have hcd := tab_cells t.dig ad nd cd wr HXr.ok.d
   have hnd : nd = t.dig.length := HXr.ok.d.n_eq
   have HPOST : Hid (gI t 0 = (decide (nd = 10) && okCells t.dig)) := hide (by unfold gI; rw [hnd]; simp)
   clear hnd HXr
   go_upto_region 7 with fail
   go_cut [5] from 28 to 36 (fun v w' => v = .bool (gI t 0) ∧ wr = w')
   case first =>
    by_cases h10 : nd = 10
    ·have d1 : ((nd : Int) == 10) = true := beq_iff_eq.2 (by omega)
     have HG0 : Hid (gI t 0 = okCells t.dig) := hide (by rw [HPOST.out, decide_eq_true h10]; rfl)
     clear h10
     go_wp2_with (go_at_call 57; refine hcd.mono ?_; rintro e w2 ⟨rfl, rfl⟩)
     go_meet
     exact ⟨by rw [HG0.out], rfl⟩
    ·have d1 : ((nd : Int) == 10) = false := beq_eq_false_iff_ne.2 (by omega)
     have HG0 : Hid (gI t 0 = false) := hide (by rw [HPOST.out, decide_eq_false h10]; rfl)
     clear h10
     go_wp2_with fail
     go_meet
     exact ⟨by rw [HG0.out], rfl⟩
   case rest =>
    obtain ⟨rfl, rfl⟩ := hcut
    have h4 : Sl (wr.alloc (.cells #[.slice ac nc cc, .slice an nn cn, .slice af nf cf, .slice aw nw cw] 23)) 1 (some ⟨wr.heap.size, 0, none⟩) 4 4 [.slice ac nc cc, .slice an nn cn, .slice af nf cf, .slice aw nw cw] := Sl.fresh wr _ 1 4 [.slice ac nc cc, .slice an nn cn, .slice af nf cf, .slice aw nw cw] rfl (by decide)
    have hb2 := hb.trans ((blo wr (.cells #[.slice ac nc cc, .slice an nn cn, .slice af nf cf, .slice aw nw cw] 23)).mono hb.size)
    have hIN : ∀ i, i < 4 → ∃ l a n c, [Value.slice ac nc cc, .slice an nn cn, .slice af nf cf, .slice aw nw cw][i]? = some (.slice a n c) ∧ (inds t)[i]? = some l ∧ Sl w1 1 a n c (l.map B8) :=
     four_cases ⟨_, _, _, _, rfl, rfl, HX.ok.c⟩ ⟨_, _, _, _, rfl, rfl, HX.ok.n⟩ ⟨_, _, _, _, rfl, rfl, HX.ok.f⟩ ⟨_, _, _, _, rfl, rfl, HX.ok.s⟩
    have HINDS := hide hIN
    clear hIN hcd HPOST
    go_wp2_with fail
    clear kd kc kn kf ks
    generalize wr.alloc (.cells _ 23) = w2 at *
    go_loopg [5, 47] 4 (fun gh g v w' => ∃ (k : Nat) (gv : Bool), k ≤ 4 ∧ gh = 4 - k ∧ Hid (gI t k = gv) ∧ g = .bool gv ∧ v = .int .i64 (k : Int) ∧ w2 = w')
    case atStart => exact ⟨0, _, by omega, by omega, hide rfl, rfl, rfl, rfl⟩
    case round =>
     obtain ⟨k, gv, hk, hg, HGV, rfl, rfl, rfl⟩ := hrel
     have HG := hide hg
     clear hg
     by_cases hkl : k < 4
     ·obtain ⟨lk, ak, nk, ck, hck, hin, hsl⟩ := HINDS.out k hkl
      have HCK := hide hck
      have HSTEP := hide (gI_step (t := t) hin)
      have hcI := tab_indicator lk ak nk ck w2 (hsl.below hb2)
      clear hck hin hsl
      cases gv
      ·have HN : Hid (gI t (k + 1) = false) := hide (by rw [HSTEP.out, HGV.out]; rfl)
       go_wp2_with (with_reducible refine idx_bb 49 _ _ _ _ _ _ rfl h4 _ _ k rfl rfl _ HCK.out ?_; intro b o hcell hbo)
       go_roundg (4 - (k + 1))
       case measure => have := HG.out; omega
       case rel => exact ⟨k + 1, false, by omega, rfl, HN, rfl, by go_num, rfl⟩
      ·have HN : Hid (gI t (k + 1) = indic lk) := hide (by rw [HSTEP.out, HGV.out]; rfl)
       go_wp2_with (first
        | (with_reducible refine idx_bb 49 _ _ _ _ _ _ rfl h4 _ _ k rfl rfl _ HCK.out ?_; intro b o hcell hbo)
        | (go_at_call 58; refine hcI.mono ?_; rintro e w5 ⟨rfl, rfl⟩))
       go_roundg (4 - (k + 1))
       case measure => have := HG.out; omega
       case rel => exact ⟨k + 1, _, by omega, rfl, HN, rfl, by go_num, rfl⟩
     ·obtain rfl : k = 4 := by omega
      clear hk hkl HG HINDS h4
      have k0 := cell_below B0 hb2
      have k1 := cell_below B1 hb2
      have HGV2 : Hid (gR t 0 = gv) := hide (by rw [← HGV.out]; simp [gR])
      go_wp2_with fail
      go_loopg [5, 59] 2 (fun gh g v w' => ∃ (k : Nat) (gv : Bool), k ≤ 2 ∧ gh = 2 - k ∧ Hid (gR t k = gv) ∧ g = .bool gv ∧ v = .int .i64 (k : Int) ∧ Below w1.heap.size w1 w')
      case atStart => exact ⟨0, gv, by omega, by omega, HGV2, rfl, rfl, hb2⟩
      case round =>
       clear HGV2 HGV hb2 k0 k1
       obtain ⟨k, gv, hk, hg, HGV, rfl, rfl, hb⟩ := hrel
       have HG := hide hg
       clear hg
       by_cases hkl : k < 2
       ·obtain ⟨ak, nk, ck, psk, hck, hRk, hek⟩ := HSEL.out k hkl
        have HCK := hide hck
        have HEK := hide hek
        have hRr := (hRk.below hb0).below hb
        have hc := fun w' (h : Below wr.heap.size wr w') => contains_r psk ak nk ck w' (hRr.below h)
        have HSTEP := hide (gR_step (t := t) (k := k))
        clear hck hRk hek
        cases gv
        ·have HN : Hid (gR t (k + 1) = false) := hide (by rw [HSTEP.out, HGV.out]; rfl)
         go_wp2_with (with_reducible refine idx_tab 61 _ _ [.slice a0 n0 c0, .slice a1 n1 c1] rfl _ k rfl hkl _ HCK.out ?_)
         have hb3 : ∀ o, Below w1.heap.size w1 (wr.alloc o) := fun o => hb.trans ((blo wr o).mono hb.size)
         go_roundg (2 - (k + 1))
         case measure => have := HG.out; omega
         case rel => exact ⟨k + 1, false, by omega, rfl, HN, rfl, by go_num, hb3 _⟩
        ·have HN : Hid (gR t (k + 1) = (rus psk).all ruOk) := hide (by rw [HSTEP.out, HGV.out, ← HEK.out]; rfl)
         generalize (rus psk).all ruOk = bv at hc HN
         go_wp2_with (first
          | (with_reducible refine idx_tab 61 _ _ [.slice a0 n0 c0, .slice a1 n1 c1] rfl _ k rfl hkl _ HCK.out ?_)
          | (go_at_call 59; refine (hc _ (blo wr _)).mono ?_; rintro e w5 ⟨rfl, hb5⟩))
         have hb3 := hb.trans (((blo wr _).trans (hb5.mono (blo wr _).size)).mono hb.size)
         go_roundg (2 - (k + 1))
         case measure => have := HG.out; omega
         case rel => exact ⟨k + 1, bv, by omega, rfl, HN, by simp, by go_num, hb3⟩
       ·obtain rfl : k = 2 := by omega
        clear hk hkl HG
        cases gv
        ·have HE : Hid (r = 1) := hide (by rw [← HR.out]; exact ve_bad HLEN.out (by rw [good_R]; exact HGV.out))
         go_wp2_with fail
         go_ret
         exact ⟨by rw [HE.out]; rfl, hb0.trans (hb.mono hb0.size)⟩
        have HGOOD : Hid (goodT t = true) := hide (by rw [good_R]; exact HGV.out)
        clear HGV
        have k0 := cell_below B0 hb
        have k1 := cell_below B1 hb
        have hwb : w.heap.size < wr.heap.size := World.block_lt_of_cell? _ _ k0
        have hBk := Box.new wr 110 #[.map none, .map none]
        have hb3 := hb.trans ((blo wr (.cells #[.map none, .map none] 110)).mono hb.size)
        have HSZ : Hid ((wr.alloc (.cells #[.map none, .map none] 110)).heap.size = wr.heap.size + 1) := hide (by simp)
        go_wp2_with fail
        clear k0 k1 HSZ
        have hbw := hb.size
        clear hb
        obtain ⟨bk, hbk⟩ : ∃ bk, bk = wr.heap.size := ⟨_, rfl⟩
        rw [← hbk] at hBk hbw ⊢
        generalize wr.alloc (.cells _ 110) = w3 at *
        clear hbk hwb
        go_loopg [74] 2 (fun gh v w' => ∃ (k : Nat) (v0 v1 : Value), k ≤ 2 ∧ gh = 2 - k ∧ v = .int .i64 (k : Int) ∧ Box w' bk 110 [v0, v1] ∧ (1 ≤ k → HasSet w' v0 bk w'.heap.size (langK t 0)) ∧ (2 ≤ k → HasSet w' v1 bk w'.heap.size (langK t 1)) ∧ Hid (∀ j, j < k → dupB (langK t j) = false) ∧ Below w1.heap.size w1 w')
        case atStart => exact ⟨0, _, _, by omega, by omega, rfl, hBk, fun h => by omega, fun h => by omega, hide (fun j h => by omega), hb3⟩
        case round =>
         clear hBk hb3
         obtain ⟨k, v0, v1, hk, hg, rfl, hBk, hS0, hS1, HDUP, hb⟩ := hrel
         have HG := hide hg
         clear hg
         by_cases hkl : k < 2
         ·obtain ⟨wo, rfl⟩ : ∃ wo : World, wo = wr := ⟨_, rfl⟩
          obtain ⟨ak, nk, ck, psk, hck, hRk, hek⟩ := HSEL.out k hkl
          have HCK := hide hck
          have HEK := hide hek
          obtain rfl := hRk.n_eq
          have hm1 := Nat.le_trans hRk.top.le hRk.top.cap
          unfold maxLen at hm1
          have d0 : decide (k < 2) = true := decide_eq_true hkl
          have d0' : decide ((k : Int) < 2) = true := decide_eq_true (by omega)
          have hbo : bk < wo.heap.size := hBk.lt
          have hN0 : NSet ((wo.alloc (.cells #[.slice ak psk.length ck] 26)).alloc (.map #[] 0)) (wo.heap.size + 1) [] := by
           have := NSet.new (wo.alloc (.cells #[.slice ak psk.length ck] 26))
           rwa [show (wo.alloc (.cells #[.slice ak psk.length ck] 26)).heap.size = wo.heap.size + 1 by simp] at this
          have HN0 := hide hN0
          have HT0 : Hid (Box ((wo.alloc (.cells #[.slice ak psk.length ck] 26)).alloc (.map #[] 0)) wo.heap.size 26 [.slice ak psk.length ck]) := hide ((Box.new wo 26 #[.slice ak psk.length ck]).alloc _)
          have HB0 : Hid (Below w1.heap.size w1 ((wo.alloc (.cells #[.slice ak psk.length ck] 26)).alloc (.map #[] 0)) ∧ Below wo.heap.size wo ((wo.alloc (.cells #[.slice ak psk.length ck] 26)).alloc (.map #[] 0)) ∧ wo.heap.size ≤ ((wo.alloc (.cells #[.slice ak psk.length ck] 26)).alloc (.map #[] 0)).heap.size) := by
           have h2 : Below wo.heap.size wo ((wo.alloc (.cells #[.slice ak psk.length ck] 26)).alloc (.map #[] 0)) := (blo wo _).trans ((blo _ _).mono (by simp))
           exact hide ⟨hb.trans (h2.mono hb.size), h2, h2.size⟩
          have hkl2 : k < [v0, v1].length := hkl
          have hone : (Value.map (some (wo.heap.size + 1))).oneCell' = true := rfl
          have hcells : (Value.map (some (wo.heap.size + 1))).cells = #[Value.map (some (wo.heap.size + 1))] := rfl
          have hBk2 := (hBk.alloc (.cells #[.slice ak psk.length ck] 26)).alloc (.map #[] 0)
          clear hck hek hN0
          go_wp2_with (first
           | (with_reducible refine idx_tab 77 _ _ [.slice a0 n0 c0, .slice a1 n1 c1] rfl _ k rfl hkl _ HCK.out ?_)
           | (with_reducible refine store_cell 109 _ _ 110 bk k [v0, v1] (.map (some (wo.heap.size + 1))) size_map hBk2 rfl rfl hone hcells hkl2 ?_; intro w5 hx5 hg5 hs5; have c12 : w5.cell? ⟨wo.heap.size, 0, none⟩ = some (.slice ak psk.length ck) := (HT0.out.grown hg5 (by simp; omega)).at_ rfl))
          have hN5 : NSet w5 (wo.heap.size + 1) (((rus psk).take 0).map nmOf) := HN0.out.kept hg5 (by simp; omega)
          have hb5 := HB0.out.1.grown hg5 (by have := HB0.out.2.2; omega) (fun q hq => by cases hq; omega)
          have hS5 : 1 ≤ k → HasSet w5 v0 bk wo.heap.size (langK t 0) := fun h => ((hS0 h).below HB0.out.2.1).grown hg5 (.inl rfl)
          have hsz5 : wo.heap.size + 1 < w5.heap.size := hN5.lt
          clear hg5 hs5 HB0 HN0 HT0 hBk hBk2 hS0 c12
          obtain ⟨bm, hbm⟩ : ∃ bm, bm = wo.heap.size + 1 := ⟨_, rfl⟩
          obtain ⟨L, hL⟩ : ∃ L, L = [v0, v1].set k (Value.map (some (wo.heap.size + 1))) := ⟨_, rfl⟩
          have hLk : L[k]? = some (.map (some bm)) := by rw [hL, hbm, List.getElem?_set_self (by exact hkl)]
          rw [← hL] at hx5
          rw [← hbm] at hN5 hsz5
          have hbmk : bm ≠ bk := by omega
          have HLL := hide hL
          have HBM : Hid (bm = wo.heap.size + 1) := hide hbm
          have HLK := hide hLk
          clear hL hLk
          have hlim : wo.heap.size ≤ bm := by omega
          have hbk1 : w1.heap.size ≤ bm := by have := hb.size; omega
          clear hbm
          go_loopg [84] psk.length (fun gh v w' => ∃ j : Nat, j ≤ psk.length ∧ gh = psk.length - j ∧ v = .int .i64 (j : Int) ∧ Hid (apart (rus psk) j) ∧ NSet w' bm (((rus psk).take j).map nmOf) ∧ Box w' bk 110 L ∧ (1 ≤ k → HasSet w' v0 bk wo.heap.size (langK t 0)) ∧ Below w1.heap.size w1 w')
          case atStart => exact ⟨0, by omega, by omega, rfl, hide (apart_zero _), hN5, hx5, hS5, hb5⟩
          case round =>
           clear hN5 hx5 hS5 hb5 hsz5
           obtain ⟨j, hj, hgj, rfl, HAP, hNm, hBx, hS0, hbj⟩ := hrel
           have HGJ := hide hgj
           clear hgj
           by_cases hjl : j < psk.length
           ·obtain ⟨x, hx⟩ : ∃ x, psk[j]? = some x := ⟨psk[j], by simp [hjl]⟩
            have HH := hide hx
            have HRJ := hide (rus_get hx)
            have hRr := (hRk.below hb0).below hbj
            have hbkr : bk < wr.heap.size := hBx.lt
            have kk : wr.cell? ⟨bk, k, none⟩ = some (.map (some bm)) := hBx.at_ HLK.out
            clear hx
            obtain ⟨⟨s, wh, cl⟩, hh1, hh2, hh3⟩ := x
            have hNq := (hNm.alloc (.cells #[.string s, .int .i64 wh, .slice hh1 hh2 hh3] 45)).alloc (.cells #[.string s, .int .i64 wh] 112)
            have hBq := (hBx.alloc (.cells #[.string s, .int .i64 wh, .slice hh1 hh2 hh3] 45)).alloc (.cells #[.string s, .int .i64 wh] 112)
            have hbq : Below wr.heap.size wr ((wr.alloc (.cells #[.string s, .int .i64 wh, .slice hh1 hh2 hh3] 45)).alloc (.cells #[.string s, .int .i64 wh] 112)) := (blo wr _).trans ((blo _ _).mono (by simp))
            cases hq : isIn (((rus psk).take j).map nmOf) (s, wh)
            ·have HQ := hide hq
             have HAP2 : Hid (apart (rus psk) (j + 1)) := hide (apart_step HRJ.out HAP.out hq)
             have HTK : Hid (((rus psk).take (j + 1)).map nmOf = ((rus psk).take j).map nmOf ++ [(s, wh)]) := hide (by rw [take_succ_get HRJ.out, List.map_append]; rfl)
             clear hq
             go_wp2_with (with_reducible refine idx_r 86 _ _ _ _ _ _ rfl hRr.top _ _ j rfl rfl _ HH.out ?_; intro b o hcell hcell2 hcell3 hbo)
             refine wp_region_quiet_lit (by kernel_rfl) (by kernel_rfl) ?_
             go_big_quiet_step (fail)
             refine qidx_arr 94 _ _ bk k rfl rfl hkl ?_
             simp only [Act.put, List.setIfInBounds_toArray, List.set_cons_succ, List.set_cons_zero]
             go_big_quiet_step (fail)
             go_big_quiet_step (fail)
             refine qlook_nm _ _ rfl bm _ rfl hNq (s, wh) rfl rfl false HQ.out ?_
             simp only [Act.put, List.setIfInBounds_toArray, List.set_cons_succ, List.set_cons_zero]
             refine wpQuiet_nil ?_
             rintro _ ⟨nq, rfl⟩
             go_wp2
             refine wp_region_still_tail 4 (by kernel_rfl) (by kernel_rfl) ?_
             change wpStill _ _ (World.drew _) _ _ _
             simp only [List.take_succ_cons, List.take_zero, List.drop_succ_cons, List.drop_zero]
             still_step
             refine sidx_arr 99 _ _ bk k rfl rfl hkl ?_
             simp only [Act.put, List.setIfInBounds_toArray, List.set_cons_succ, List.set_cons_zero]
             repeat still_step
             refine wpStill_nil ?_
             change wpList _ _ _ _ _ (World.drew _)
             refine put_nm rfl _ _ _ rfl bm _ rfl (hNq.drewN _).drew (s, wh) rfl rfl HQ.out ?_
             intro w6 hN6 hg6 hs6
             rw [← HTK.out] at hN6
             have hB6 : Box w6 bk 110 L := ((hBq.drewN _).drew).grown hg6 (by simp; omega)
             have hS6 : 1 ≤ k → HasSet w6 v0 bk wo.heap.size (langK t 0) := fun h => by
              obtain ⟨b, e1, e2, e3, e4⟩ := (hS0 h).below hbq
              exact ⟨b, e1, e2, e3, ((e4.drewN _).drew).kept hg6 (by simp; omega)⟩
             have hb6 : Below w1.heap.size w1 w6 := (belowN (hbj.trans (hbq.mono hbj.size)) _).drew.grown hg6 (by have := hbq.size; have := hbj.size; show _ ≤ _; exact Nat.le_trans hbj.size hbq.size) (fun q hq => by cases hq; omega)
             go_wp2
             go_roundg (psk.length - (j + 1))
             case measure => have := HGJ.out; omega
             case rel => exact ⟨j + 1, by omega, rfl, by go_num, HAP2, hN6, hB6, hS6, hb6⟩
            ·have HE : Hid (r = 7) := hide (by
              rw [← HR.out]
              refine ve_dup HLEN.out HGOOD.out (k := k) ?_
              rw [← HEK.out]
              exact dup_of HRJ.out hq)
             have HQ := hide hq
             clear hq
             go_wp2_with (with_reducible refine idx_r 86 _ _ _ _ _ _ rfl hRr.top _ _ j rfl rfl _ HH.out ?_; intro b o hcell hcell2 hcell3 hbo)
             refine wp_region_quiet_lit (by kernel_rfl) (by kernel_rfl) ?_
             go_big_quiet_step (fail)
             refine qidx_arr 94 _ _ bk k rfl rfl hkl ?_
             simp only [Act.put, List.setIfInBounds_toArray, List.set_cons_succ, List.set_cons_zero]
             go_big_quiet_step (fail)
             go_big_quiet_step (fail)
             refine qlook_nm _ _ rfl bm _ rfl hNq (s, wh) rfl rfl true HQ.out ?_
             simp only [Act.put, List.setIfInBounds_toArray, List.set_cons_succ, List.set_cons_zero]
             refine wpQuiet_nil ?_
             rintro _ ⟨nq, rfl⟩
             go_wp2
             go_ret
             exact ⟨by rw [HE.out]; rfl, hb0.trans ((belowN (hbj.trans (hbq.mono hbj.size)) _).mono hb0.size)⟩
           ·obtain rfl : j = psk.length := by omega
            have HDUP2 : Hid (∀ j, j < k + 1 → dupB (langK t j) = false) := hide (fun j hj => by
             by_cases e : j = k
             ·rw [e, ← HEK.out]; exact apart_all (by rw [show (rus psk).length = psk.length by unfold rus; simp]; exact HAP.out)
             ·exact HDUP.out j (by omega))
            have hNf : NSet wr bm ((langK t k).map nmOf) := by
             have := hNm
             rw [List.take_of_length_le (by unfold rus; simp), HEK.out] at this
             exact this
            have HKN : Hid (∃ v0' v1', Box wr bk 110 [v0', v1'] ∧ (1 ≤ k + 1 → HasSet wr v0' bk wr.heap.size (langK t 0)) ∧ (2 ≤ k + 1 → HasSet wr v1' bk wr.heap.size (langK t 1))) := by
             have hl := HLL.out
             rw [← HBM.out] at hl
             rcases k with _ | _ | k
             ·refine hide ⟨.map (some bm), v1, ?_, fun _ => ⟨bm, rfl, hbmk, hNf.lt, hNf⟩, fun h => by omega⟩
              rw [hl] at hBx; exact hBx
             ·refine hide ⟨v0, .map (some bm), ?_, fun _ => (hS0 (by omega)).now, fun _ => ⟨bm, rfl, hbmk, hNf.lt, hNf⟩⟩
              rw [hl] at hBx; exact hBx
             ·omega
            clear hNm hNf hBx hS0
            go_wp2
            obtain ⟨v0', v1', g1, g2, g3⟩ := HKN.out
            go_roundg (2 - (k + 1))
            case measure => have := HG.out; omega
            case rel => exact ⟨k + 1, v0', v1', by omega, rfl, by go_num, g1, g2, g3, HDUP2, hbj⟩
         ·obtain rfl : k = 2 := by omega
          obtain ⟨b0, rfl, hn0, _, hN0⟩ := hS0 (by omega)
          obtain ⟨b1, rfl, hn1, _, hN1⟩ := hS1 (by omega)
          have q0 : wr.cell? ⟨bk, 0, none⟩ = some (.map (some b0)) := hBk.at_ rfl
          have q1 : wr.cell? ⟨bk, 1, none⟩ = some (.map (some b1)) := hBk.at_ rfl
          clear hk hkl HG hS0 hS1 hBk
          obtain ⟨wq, rfl⟩ : ∃ wq : World, wq = wr := ⟨_, rfl⟩
          go_wp2_with fail
          go_loopg [16] 26 (fun gh v w' => ∃ u : Nat, 97 ≤ u ∧ u ≤ 123 ∧ gh = 123 - u ∧ Hid (ownTo (langK t 0) (u - 97)) ∧ Hid (ownTo (langK t 1) (u - 97)) ∧ v = .int .u8 (u : Int) ∧ Below wq.heap.size wq w')
          case atStart => exact ⟨97, by omega, by omega, by omega, hide (fun j h => by omega), hide (fun j h => by omega), rfl, Below.refl _ _⟩
          case round =>
           obtain ⟨u, hu1, hu2, hgu, HO0, HO1, rfl, hbu⟩ := hrel
           have HGU := hide hgu
           clear hgu
           have p0 := cell_below q0 hbu
           have p1 := cell_below q1 hbu
           have hbkr : bk < wr.heap.size := World.block_lt_of_cell? _ _ p0
           have hbt := hb.trans (hbu.mono hb.size)
           by_cases hul : u ≤ 122
           ·have d3 : decide ((u : Int) ≤ 122) = true := decide_eq_true (by omega)
            have d3' : decide (u ≤ 122) = true := decide_eq_true hul
            have HUU : Hid (97 + (u - 97) = u) := hide (by omega)
            have HW : Hid (((u : Int) + 1) % 256 = ((u + 1 : Nat) : Int)) := hide (by omega)
            have hcs := encode_chr u (by omega)
            obtain ⟨S, hS⟩ : ∃ S, Utf8.encode (u : Int) = S := ⟨_, rfl⟩
            rw [hS] at hcs
            have o0 := own_in (langK t 0) _ S hcs
            have o1 := own_in (langK t 1) _ S hcs
            have hM0 := (hN0.below hbu).alloc (.cells #[.string S, .int .i64 0] 112)
            have hM1 := (hN1.below hbu).alloc (.cells #[.string S, .int .i64 0] 112)
            clear hcs
            cases z0 : ownB (langK t 0) (UInt8.ofNat u)
            ·have HZ0 : Hid (isIn ((langK t 0).map nmOf) (S, 0) = false) := hide (by rw [o0, z0])
             have HE : Hid (r = 6) := hide (by
              rw [← HR.out]
              refine ve_miss HLEN.out HGOOD.out HDUP.out (k := 0) (miss_of (k := u - 97) (by omega) ?_)
              rw [HUU.out]; exact z0)
             clear o0 o1 z0 hM1
             go_wp2_with (with_reducible refine look_nm rfl _ _ rfl b0 _ rfl hM0 (S, 0) rfl false HZ0.out ?_)
             go_ret
             exact ⟨by rw [HE.out]; rfl, hb0.trans ((hbt.trans ((blo wr _).mono hbt.size)).mono hb0.size)⟩
            have HZ0 : Hid (isIn ((langK t 0).map nmOf) (S, 0) = true) := hide (by rw [o0, z0])
            have HO0' : Hid (ownTo (langK t 0) (u + 1 - 97)) := hide (by
             have := ownTo_step HO0.out (by rw [HUU.out]; exact z0)
             rwa [show u - 97 + 1 = u + 1 - 97 by omega] at this)
            clear o0 z0
            cases z1 : ownB (langK t 1) (UInt8.ofNat u)
            ·have HZ1 : Hid (isIn ((langK t 1).map nmOf) (S, 0) = false) := hide (by rw [o1, z1])
             have HE : Hid (r = 6) := hide (by
              rw [← HR.out]
              refine ve_miss HLEN.out HGOOD.out HDUP.out (k := 1) (miss_of (k := u - 97) (by omega) ?_)
              rw [HUU.out]; exact z1)
             clear o1 z1
             go_wp2_with (first
              | (with_reducible refine look_nm rfl _ _ rfl b0 _ rfl hM0 (S, 0) rfl true HZ0.out ?_)
              | (refine unguard_any (by simp [Region.wanted, yielded]; done) ?_; with_reducible refine look_nm rfl _ _ rfl b1 _ rfl hM1 (S, 0) rfl false HZ1.out ?_))
             go_ret
             exact ⟨by rw [HE.out]; rfl, hb0.trans ((hbt.trans ((blo wr _).mono hbt.size)).mono hb0.size)⟩
            ·have HZ1 : Hid (isIn ((langK t 1).map nmOf) (S, 0) = true) := hide (by rw [o1, z1])
             have HO1' : Hid (ownTo (langK t 1) (u + 1 - 97)) := hide (by
              have := ownTo_step HO1.out (by rw [HUU.out]; exact z1)
              rwa [show u - 97 + 1 = u + 1 - 97 by omega] at this)
             clear o1 z1
             go_wp2_with (first
              | (with_reducible refine look_nm rfl _ _ rfl b0 _ rfl hM0 (S, 0) rfl true HZ0.out ?_)
              | (refine unguard_any (by simp [Region.wanted, yielded]; done) ?_; with_reducible refine look_nm rfl _ _ rfl b1 _ rfl hM1 (S, 0) rfl true HZ1.out ?_))
             have hbf : ∀ o, Below wq.heap.size wq (wr.alloc o) := fun o => hbu.trans ((blo wr o).mono hbu.size)
             go_roundg (123 - (u + 1))
             case measure => have := HGU.out; omega
             case rel => exact ⟨u + 1, by omega, by omega, rfl, HO0', HO1', by first | go_num | (rw [HW.out]), hbf _⟩
           ·obtain rfl : u = 123 := by omega
            have HE : Hid (r = 0) := hide (by rw [← HR.out]; exact ve_ok HLEN.out HGOOD.out HDUP.out (two_cases (miss_no HO0.out) (miss_no HO1.out)))
            go_wp2
            go_ret
            exact ⟨by rw [HE.out]; rfl, hb0.trans (hbt.mono hb0.size)⟩
end Go.Proofs.YtfagjaabladgpaaDoor
end

section
/- 'append(out, make([]T, k)...)': the builtin is handed the number. No program in sight. -/
namespace Go.Dx
open Go.RowKit

theorem zeroCells_one {z : Value} (hz : z.cells = #[z]) (m : Nat) : (Builtin.zeroCells z.cells m).toList = List.replicate m z := by
 unfold Builtin.zeroCells
 rw [hz]
 apply List.ext_getElem
 ·simp
 ·intro i h1 h2
  simp [Nat.mod_one]
section laws
variable {P : Program} {w : World} {ops : Array Oper} {rest : List Oper} {o : Oper} {act : Act} {Q : Exit → Act → World → Prop}

theorem run_append_zeros (base : Nat) (t tn ty e : TypeId) (i : TypeInfo) (z : Value) (kq kn : IntKind) (ht : P.underlying t = some (.slice e)) (htn : P.underlying tn = some (.int kn)) (hi : P.info? e = some i) (hz : i.zero = some z)
  (hz1 : z.cells = #[z]) (hone : z.oneCell' = true) (hsz : i.size = 1) (a : Option Addr) (n c : Nat) (xs : List Value) (hown : Own w base e i.size a n c xs)
  (m : Nat) (h0 : 0 < m)
  (h63 : n + m ≤ maxLen) (hbytes : (n + m) * i.bytes ≤ 140737488355328) (hbase : base ≤ w.heap.size) :
  ∃ a' c' w', (Builtin.append_ #[t, tn] ty #[.slice a n c, .int kq (m : Int)]).run P w = .ok (.slice a' (n + m) c') w' ∧ Own w' base e i.size a' (n + m) c' (xs ++ List.replicate m z) ∧ w.grownBy w' (a.map (·.block)) := by
 have hsmall : n + m ≤ 9223372036854775807 := by simp only [maxLen] at h63; omega
 have hlen : (xs ++ List.replicate m z).length = (n + m) * i.size := by rw [List.length_append, hown.1, List.length_replicate, hsz]; omega
 have hold : (Builtin.firstCells i.size n (.slice a n c)).run P w.drew = .ok xs.toArray w.drew := by
  have hsl := hown.sl
  cases a with
  | none =>
   have := hsl.nil rfl
   have := hsl.le
   obtain rfl : n = 0 := by omega
   have hnews : xs = [] := List.eq_nil_of_length_eq_zero (by simpa using hsl.len)
   subst hnews
   exact run_firstCells_none w.drew i.size 0 0 c
  | some p => exact run_firstCells_some w.drew i.size n p n c xs hsl.len (by simpa using hsl.cell p rfl)
 have hk : m ≠ 0 := by omega
 have hw : IntKind.i64.wrap (m : Int) = m := by rw [IntKind.wrap_i64]; omega
 have hneg : ¬ ((m : Int) < 0) := by omega
 have hm8 : m * i.bytes ≤ (n + m) * i.bytes := Nat.mul_le_mul_right _ (by omega)
 have h48i : ¬ (281474976710656 < (m : Int) * (i.bytes : Int)) := by
  rw [← Int.natCast_mul]
  omega
 by_cases hroom : n + m ≤ c
 ·rcases hown.2 with ⟨h1, h2⟩ | ⟨g, cap, cur, h1, hbg, hg, hnc, hcm, hcs, htake⟩
  ·injection h1 with h1 h3 h4
   subst h1 h3 h4
   omega
  ·injection h1 with h1 h3 h4
   subst h1 h4
   have hnews : (List.replicate m z).length = m * i.size := by rw [List.length_replicate, hsz, Nat.mul_one]
   have hfit : n * i.size + (List.replicate m z).length ≤ cur.size := by rw [hnews, hcs, ← Nat.add_mul]; exact Nat.mul_le_mul_right _ hroom
   have hst := run_storeCells_at P g (n * i.size) e (List.replicate m z) 0 cur w hg (by simpa using hfit) (by intro u hu; rw [List.eq_of_mem_replicate hu]; exact hone)
   simp only [Nat.add_zero] at hst
   have hns : ¬ (m * i.size = 0) := by rw [hsz]; omega
   refine ⟨some ⟨g, 0, none⟩, c, w.setRow g (cur.toList.take (n * i.size) ++ List.replicate m z ++ cur.toList.drop (n * i.size + (List.replicate m z).length)).toArray, ?_, ⟨hlen, .inr ⟨g, c, _, rfl, hbg, setRow_heap w g cur _ e _ hg, hroom, hcm, ?_, ?_⟩⟩, ⟨rfl, rfl, rfl, by simp, fun k _ hk => setRow_other w g k _ (fun e => hk (by simp [e]))⟩⟩
   ·simp [Builtin.append_, run_underlying ht, run_underlying htn, sizeOf, typeInfo, zeroValue, hi, hz, asInt, asIntOf, hw, hneg, hns, h48i, hroom, Addr.add_lit]
    rw [zeroCells_one hz1]
    simp at hst
    simp [hst]
   ·simp only [List.size_toArray, List.length_append, List.length_take, List.length_drop, Array.length_toList]
    omega
   ·rw [htake, ← hlen]
    exact List.take_left
 ·have hr := Lib.run_append_grow_zeros (P := P) w t tn ty e i z kq kn ht htn hi hz a n c xs hold m h0 (by omega) (by omega) (by omega) (by omega) (growslice_fits (by omega) hbytes)
  have hge := grownCap_ge w (n + m) c e
  have hcm : grownCap w (n + m) c e ≤ maxLen := grownCap_le_maxLen w (n + m) c e h63
  refine ⟨_, _, _, hr, ⟨hlen, .inr ⟨w.heap.size, _, _, rfl, hbase, heap_alloc_new w.drew _, hge, hcm, ?_, ?_⟩⟩, ⟨rfl, rfl, rfl, by simp, fun k hk _ => Below.heap_alloc w.drew _ k hk⟩⟩
  ·have h1 := hown.1
   rw [hsz, Nat.mul_one] at h1
   simp only [Array.size_append, List.size_toArray, size_zeroCells, hz1, hsz, h1, Nat.mul_one]
   simp
   omega
  ·rw [Array.toList_append, Array.toList_append, zeroCells_one hz1, List.toList_toArray, ← hlen]
   exact List.take_left
theorem append_zeros (hg : o.guard = none) (s x : Operand) (t tn : TypeId) (hop : o.op = Op.call { callee := Callee.builtin Builtin.append, args := #[s, x], argTypes := #[t, tn] })
  (e : TypeId) (z : Value) (bytes : Nat) (kq kn : IntKind) (ht : P.underlying t = some (.slice e)) (htn : P.underlying tn = some (.int kn)) (hi : (P.info? e).map (fun i => (i.zero, i.size, i.bytes)) = some (some z, 1, bytes)) (hz : z.cells = #[z]) (hone : z.oneCell' = true)
  (w0 : World) (B : Nat) (a : Option Addr) (n c : Nat) (xs : List Value) (hs : act.eval s = .slice a n c) (hown : Own w B e 1 a n c xs)
  (m : Nat) (iv : Int) (hx : act.eval x = .int kq iv) (hiv : iv = (m : Int)) (h0 : 0 < m)
  (hn : (n + m) * bytes ≤ 140737488355328) (hn2 : n + m ≤ maxLen) (hB : B ≤ w.heap.size) (hbel : Below B w0 w)
  (hK : ∀ a' c' w', Own w' B e 1 a' (n + m) c' (xs ++ List.replicate m z) → w.grownBy w' (a.map (·.block)) → Below B w0 w' → wpList P ops Q rest (act.put o.dst (.slice a' (n + m) c')) w') :
  wpList P ops Q (o :: rest) act w := by
 obtain ⟨i, hi0, hz0, hz1, hz2⟩ := info_parts hi
 subst hz2 hiv
 clear hi
 obtain ⟨a', c', w', hrun, ho, hgr⟩ := run_append_zeros (w := w) (P := P) B t tn o.type e i z kq kn ht htn hi0 hz0 hz hone hz1 a n c xs (by rw [hz1]; exact hown) m h0 hn2 hn hB
 rw [hz1] at ho
 refine wpList_plain hg fun K hK' => ?_
 unfold Oper.wp
 simp [execOp, hop, resolve, invoke, builtin, hs, hx, hrun, Result.andThen]
 refine hK' _ _ (hK a' c' w' ho hgr (hbel.grown hgr hB ?_))
 intro k hk
 cases a with
 | none => cases hk
 | some p => injection hk with hk; subst hk; exact hown.base.1
end laws
end Go.Dx
end

section
/- Chapter 06: slices.Clone, slices.Grow, slices.Concat of bytes. -/
namespace Go.Dx
open Go.RowKit
theorem Own.cut0 {w : World} {B : Nat} {e : TypeId} {a : Option Addr} {n c : Nat} {xs : List Value} (h : Own w B e 1 a n c xs) : Own w B e 1 a 0 c [] := by
 refine ⟨rfl, ?_⟩
 rcases h.2 with ⟨h1, _⟩ | ⟨g, cap, cur, h1, h2, h3, h4, h5, h6, h7⟩
 ·left
  injection h1 with e1 e2 e3
  subst e1; subst e3
  exact ⟨rfl, rfl⟩
 ·injection h1 with e1 e2 e3
  subst e1; subst e3
  exact .inr ⟨g, c, cur, rfl, h2, h3, Nat.zero_le _, h5, h6, by simp⟩
def sumK (x y : List UInt8) (k : Nat) : Nat := (([x, y].take k).map List.length).sum
def catK (x y : List UInt8) (k : Nat) : List UInt8 := ([x, y].take k).flatten
theorem sumK_step {x y l : List UInt8} {k : Nat} (h : [x, y][k]? = some l) : sumK x y (k + 1) = sumK x y k + l.length := by
 unfold sumK; rw [take_succ_get h, List.map_append, List.sum_append]; simp
theorem catK_step {x y l : List UInt8} {k : Nat} (h : [x, y][k]? = some l) : catK x y (k + 1) = catK x y k ++ l := by
 unfold catK; rw [take_succ_get h, List.flatten_append]; simp
theorem catK_two (x y : List UInt8) : catK x y 2 = x ++ y := by simp [catK]
end Go.Dx
namespace Go.Proofs.YtfagjaabladgpaaDoor
open Go.RowKit Go.Dx
section
variable {w : World} {ops : Array Oper} {rest : List Oper} {o : Oper} {act : Act} {Q : Exit → Act → World → Prop}
theorem app_z (hg : o.guard = none) (s x : Operand) (hop : o.op = Op.call { callee := Callee.builtin Builtin.append, args := #[s, x], argTypes := #[23, 3] })
  (w0 : World) (B : Nat) (a : Option Addr) (n c : Nat) (xs : List Value) (hs : act.eval s = .slice a n c) (hown : Own w B 5 1 a n c xs)
  (m : Nat) (iv : Int) (hx : act.eval x = .int .i64 iv) (hiv : iv = (m : Int)) (h0 : 0 < m) (hn : n + m ≤ 140737488355328) (hB : B ≤ w.heap.size) (hbel : Below B w0 w)
  (hK : ∀ a' c' w', Own w' B 5 1 a' (n + m) c' (xs ++ List.replicate m (.int .u8 0)) → w.grownBy w' (a.map (·.block)) → Below B w0 w' → wpList Tryd.prog ops Q rest (act.put o.dst (.slice a' (n + m) c')) w') :
  wpList Tryd.prog ops Q (o :: rest) act w :=
 append_zeros hg s x 23 3 hop 5 (.int .u8 0) 1 .i64 .i64 Tryd.underlying23 Tryd.underlying3 info_u8 rfl rfl w0 B a n c _ hs hown m iv hx hiv h0 (by omega) (by unfold maxLen; omega) hB hbel hK
end
set_option maxHeartbeats 400000 in
theorem clone6 (l : List UInt8) (a : Option Addr) (n c : Nat) (w : World) (hs : Sl w 1 a n c (l.map B8)) (hl : n ≤ 140737488355328) :
  Calls Tryd.prog 43 #[.slice a n c] w fun e w' => ∃ a' c', e = .returned (.slice a' n c') ∧ Own w' w.heap.size 5 1 a' n c' (l.map B8) ∧ Below w.heap.size w w' := by
 obtain rfl := hs.n_eq
 have q47 : ∀ (w : World) (a : Option Addr) (n c n' c' : Nat), (binOp .eql 23 (.slice a n c) (.slice none n' c')).run Tryd.prog w = .ok (.bool a.isNone) w := fun w a n c n' c' => Lib.run_eql_slice_nil w _ _ a n c n' c' Tryd.underlying23
 cases a with
 | none =>
  have h1 := hs.nil rfl
  have h2 := hs.le
  have h3 : l = [] := List.eq_nil_of_length_eq_zero (by omega)
  subst h3 h1
  clear h2 hl
  go_enter Tryd.func43, Tryd.ntmps43
  go_wp2_with fail
  go_ret
  exact ⟨none, 0, rfl, Own.nil _ _ _ _, Below.refl _ _⟩
 | some p =>
  have ho := Own.built w w.heap.size 5 1 0 #[] (Nat.le_refl _) rfl (by decide)
  have hb := blo w (.cells #[] 5)
  have hs2 := hs.alloc (.cells #[] 5)
  go_enter Tryd.func43, Tryd.ntmps43
  go_wp2_with (at_builtin; refine app_bs rfl _ _ rfl w w.heap.size _ 0 0 _ rfl ho _ l.length c l rfl hs2 (by omega) (by simp) hb ?_; intro a' c' w' ho' hgr' hb')
  go_ret
  exact ⟨a', c', by rw [← Nat.zero_add l.length]; rfl, by rw [Nat.zero_add] at ho'; exact ho', hb'⟩
set_option maxHeartbeats 400000 in
theorem grow6 (N : Nat) (hN : N ≤ 2000000) (w : World) :
  Calls Tryd.prog 66 #[.slice none 0 0, .int .i64 (N : Int)] w fun e w' => ∃ a' c', e = .returned (.slice a' 0 c') ∧ Own w' w.heap.size 5 1 a' 0 c' [] ∧ Below w.heap.size w w' := by
 by_cases h0 : 0 < N
 ·have d0 : decide ((N : Int) < 0) = false := decide_eq_false (by omega)
  have d1 : decide (0 < N) = true := decide_eq_true h0
  have d2 : decide ((0 : Int) < (N : Int)) = true := decide_eq_true (by omega)
  have hn0 := Own.nil w w.heap.size 5 1
  go_enter Tryd.func66, Tryd.ntmps66
  go_wp2_with (first
   | (at_builtin; refine app_z rfl _ _ rfl w w.heap.size _ 0 0 _ rfl hn0 N _ rfl rfl h0 (by omega) (Nat.le_refl _) (Below.refl _ _) ?_; intro a' c' w' ho' hgr' hb'; rw [Nat.zero_add] at ho' ⊢; have hs' := ho'.sl)
   | (with_reducible refine cut_hi 25 23 _ _ 5 Tryd.underlying23 1 size_u8 a' N c' _ rfl hs' _ _ 0 rfl rfl (Nat.zero_le _) ?_; intro hz))
  go_ret
  exact ⟨a', c', rfl, ho'.cut0, hb'⟩
 ·obtain rfl : N = 0 := by omega
  go_enter Tryd.func66, Tryd.ntmps66
  go_wp2_with fail
  go_ret
  exact ⟨none, 0, rfl, Own.nil _ _ _ _, Below.refl _ _⟩
set_option maxHeartbeats 1000000 in
theorem concat6 (x y : List UInt8) (a1 a2 : Option Addr) (c1 c2 : Nat) (pa : Option Addr) (pc : Nat) (w : World) (hp : Sl w 1 pa 2 pc [.slice a1 x.length c1, .slice a2 y.length c2]) (hx : Sl w 1 a1 x.length c1 (x.map B8)) (hy : Sl w 1 a2 y.length c2 (y.map B8)) (hxl : x.length ≤ 1000) (hyl : y.length ≤ 1000) :
  Calls Tryd.prog 47 #[.slice pa 2 pc] w fun e w' => ∃ a' c', e = .returned (.slice a' (x ++ y).length c') ∧ Own w' w.heap.size 5 1 a' (x ++ y).length c' ((x ++ y).map B8) ∧ Below w.heap.size w w' := by
 have HROW : Hid (∀ k, k < 2 → ∃ l a c, [Value.slice a1 x.length c1, .slice a2 y.length c2][k]? = some (.slice a l.length c) ∧ [x, y][k]? = some l ∧ Sl w 1 a l.length c (l.map B8) ∧ l.length ≤ 1000) :=
  hide (two_cases ⟨_, _, _, rfl, rfl, hx, hxl⟩ ⟨_, _, _, rfl, rfl, hy, hyl⟩)
 clear hx hy hxl hyl
 go_enter Tryd.func47, Tryd.ntmps47
 go_wp2_with fail
 go_loopg [3, 11] 2 (fun gh s v w' => ∃ k S : Nat, k ≤ 2 ∧ gh = 2 - k ∧ S ≤ k * 1000 ∧ Hid (sumK x y k = S) ∧ s = .int .i64 (S : Int) ∧ v = .int .i64 (k : Int) ∧ w = w')
 case atStart => exact ⟨0, 0, by omega, by omega, by omega, hide rfl, rfl, rfl, rfl⟩
 case round =>
  obtain ⟨k, S, hk, hg, hS, HS, rfl, rfl, rfl⟩ := hrel
  have HG := hide hg
  clear hg
  by_cases hkl : k < 2
  ·obtain ⟨l, a, c, hck, hrk, hsl, hll⟩ := HROW.out k hkl
   have HCK := hide hck
   have HS2 : Hid (sumK x y (k + 1) = S + l.length) := hide (by rw [sumK_step hrk, HS.out])
   have d0 : decide ((S : Int) + (l.length : Int) < 0) = false := decide_eq_false (by omega)
   clear hck hrk
   go_wp2_with (with_reducible refine idx_bb 13 _ _ _ _ _ _ rfl hp _ _ k rfl rfl _ HCK.out ?_; intro b o hcell hbo)
   go_roundg (2 - (k + 1))
   case measure => have := HG.out; omega
   case rel => exact ⟨k + 1, S + l.length, by omega, rfl, by omega, HS2, by go_num, by go_num, rfl⟩
  ·obtain rfl : k = 2 := by omega
   have hgr := grow6 S (by omega) w
   go_wp2_with (go_at_call 66; refine hgr.mono ?_; rintro e w1 ⟨a0, c0, rfl, ho, hb⟩)
   clear hgr hkl hk HG HS
   go_loopg [6, 27] 2 (fun gh s v w' => ∃ (k : Nat) (F : List UInt8) (a : Option Addr) (c : Nat), k ≤ 2 ∧ gh = 2 - k ∧ F.length ≤ k * 1000 ∧ Hid (catK x y k = F) ∧ s = .slice a F.length c ∧ v = .int .i64 (k : Int) ∧ Own w' w.heap.size 5 1 a F.length c (F.map B8) ∧ Below w.heap.size w w')
   case atStart => exact ⟨0, [], a0, c0, by omega, by omega, by simp, hide rfl, rfl, rfl, ho, hb⟩
   case round =>
    clear ho hb
    obtain ⟨k, F, a, c, hk, hg, hF, HF, rfl, rfl, ho, hb⟩ := hrel
    have HG := hide hg
    clear hg
    by_cases hkl : k < 2
    ·obtain ⟨l, a3, c3, hck, hrk, hsl, hll⟩ := HROW.out k hkl
     have HCK := hide hck
     have HF2 : Hid (catK x y (k + 1) = F ++ l) := hide (by rw [catK_step hrk, HF.out])
     have hpr := hp.below hb
     have hsr := hsl.below hb
     clear hck hrk
     go_wp2_with (first
      | (with_reducible refine idx_bb 29 _ _ _ _ _ _ rfl hpr _ _ k rfl rfl _ HCK.out ?_; intro b o hcell hbo)
      | (at_builtin; refine app_bs rfl _ _ rfl w w.heap.size _ _ _ _ rfl ho _ _ _ l rfl hsr (by omega) hb.size hb ?_; intro a' c' w' ho' hgr' hb'))
     go_roundg (2 - (k + 1))
     case measure => have := HG.out; omega
     case rel => exact ⟨k + 1, F ++ l, a', c', by omega, rfl, by rw [List.length_append]; omega, HF2, by rw [List.length_append], by go_num, by rw [List.length_append, List.map_append]; exact ho', hb'⟩
    ·obtain rfl : k = 2 := by omega
     have hF2 := HF.out
     rw [catK_two] at hF2
     subst hF2
     go_wp2
     go_ret
     exact ⟨a, c, rfl, ho, hb⟩
end Go.Proofs.YtfagjaabladgpaaDoor
end

section
/- Chapter 06: steps that a call owns; what Steps hands back. -/
namespace Go.Dx
open Go.RowKit
theorem own_far {w : World} {B B' : Nat} {e e' : TypeId} {sz sz' : Nat} {p q : Addr} {n n' c c' : Nat} {cs cs' : List Value} (h : Own w B e sz (some p) n c cs) (h' : Own w B' e' sz' (some q) n' c' cs') (he : e ≠ e') : p.block ≠ q.block := by
 intro hb
 rcases h.2 with ⟨h1, _⟩ | ⟨g, cap, cur, h1, _, h2, _⟩
 ·cases h1
 ·rcases h'.2 with ⟨k1, _⟩ | ⟨g', cap', cur', k1, _, k2, _⟩
  ·cases k1
  ·injection h1 with h1
   injection k1 with k1
   injection h1 with h1
   injection k1 with k1
   subst h1 k1
   have e : g = g' := hb
   rw [e, k2] at h2
   injection h2 with h2
   injection h2 with _ h2
   exact he h2.symm
structure OSt (w : World) (E U : TypeId) (B : Nat) (a : Option Addr) (c : Nat) (ps : List SH) : Prop where
 top : Own w B E 6 a ps.length c (ps.flatMap stc)
 row : ∀ p ∈ ps, Own w B U 1 p.2.1 p.2.2.1 p.2.2.2 (p.1.cells.map B8)
theorem OSt.nil (w : World) (E U : TypeId) (B : Nat) : OSt w E U B none 0 [] := ⟨Own.nil _ _ _ _, fun p hp => by cases hp⟩
theorem OSt.below {w w' : World} {E U : TypeId} {B : Nat} {a : Option Addr} {c : Nat} {ps : List SH} (h : OSt w E U B a c ps) (hb : Below w.heap.size w w') : OSt w' E U B a c ps :=
 ⟨h.top.below hb, fun p hp => (h.row p hp).below hb⟩
theorem OSt.stl {w : World} {E U : TypeId} {B : Nat} {a : Option Addr} {c : Nat} {ps : List SH} (h : OSt w E U B a c ps) : Stl w a ps.length c ps (ps.map (·.1)) :=
 ⟨h.top.sl, fun p hp => (h.row p hp).sl, rfl⟩
theorem OSt.push {w w' : World} {E U : TypeId} {B : Nat} {a a' : Option Addr} {c c' : Nat} {ps : List SH} {p : SH} (h : OSt w E U B a c ps) (hx : Own w B U 1 p.2.1 p.2.2.1 p.2.2.2 (p.1.cells.map B8))
  (ht : Own w' B E 6 a' (ps.length + 1) c' (ps.flatMap stc ++ stc p)) (hg : w.grownBy w' (a.map (·.block))) (hE : E ≠ U) : OSt w' E U B a' c' (ps ++ [p]) := by
 have key : ∀ q : SH, Own w B U 1 q.2.1 q.2.2.1 q.2.2.2 (q.1.cells.map B8) → Own w' B U 1 q.2.1 q.2.2.1 q.2.2.2 (q.1.cells.map B8) := by
  intro q hq
  refine hq.kept hg fun r hr => ?_
  cases a with
  | none => simp
  | some t =>
   have ho := h.top
   rw [hr] at hq
   have := own_far hq ho (fun e => hE e.symm)
   simpa using this
 refine ⟨?_, ?_⟩
 ·rw [List.length_append, List.flatMap_append, List.flatMap_singleton]; exact ht
 ·intro q hq
  rcases List.mem_append.1 hq with hq | hq
  ·exact key q (h.row q hq)
  ·rw [List.mem_singleton] at hq; subst hq; exact key _ hx
theorem Stl.nil (w : World) : Stl w none 0 0 [] [] := ⟨Sl.empty _ _, fun p hp => (by simp at hp), rfl⟩
def StepsR (L : List Stp) (w : World) (e : Ending) (w' : World) : Prop := ∃ a c ps, e = .returned (.slice a L.length c) ∧ Stl w' a L.length c ps L ∧ Below w.heap.size w w'
def TypAt (w : World) (T : TypeId) (a : Option Addr) : Prop := ∀ q, a = some q → ∃ C z, w.heap[q.block]? = some (.cells C T z)
theorem TypAt.nil (w : World) (T : TypeId) : TypAt w T none := fun q h => by cases h
theorem TypAt.fresh (w : World) (C : Array Value) (T : TypeId) : TypAt (w.alloc (.cells C T)) T (some ⟨w.heap.size, 0, none⟩) := fun q h => by
 cases h
 exact ⟨C, (0, 0), by unfold World.alloc; exact Array.getElem?_push_size⟩
theorem Own.typ {w : World} {B : Nat} {e : TypeId} {sz : Nat} {a : Option Addr} {n c : Nat} {cs : List Value} (h : Own w B e sz a n c cs) : TypAt w e a := fun q hq => by
 rcases h.2 with ⟨h1, _⟩ | ⟨g, cap, cur, h1, _, h3, _⟩
 ·rw [hq] at h1; cases h1
 ·rw [hq] at h1
  injection h1 with h1
  injection h1 with h1
  subst h1
  exact ⟨_, _, h3⟩
def StepsT (T : TypeId) (L : List Stp) (w : World) (e : Ending) (w' : World) : Prop := ∃ a c ps, e = .returned (.slice a L.length c) ∧ Stl w' a L.length c ps L ∧ Below w.heap.size w w' ∧ TypAt w' T a
theorem StepsT.out {T : TypeId} {L : List Stp} {w : World} {e : Ending} {w' : World} (h : StepsT T L w e w') : StepsR L w e w' := by
 obtain ⟨a, c, ps, h1, h2, h3, _⟩ := h
 exact ⟨a, c, ps, h1, h2, h3⟩
theorem ruleSteps_snoc (t : Ta) (s : St) (x : Sy) (l : List Sy) (i : Nat) (r : Ru) : ∀ (rs : List Ru) (k : Nat), ruleSteps t s x l i k (rs ++ [r]) =
  ruleSteps t s x l i k rs ++ (if fitsB r l i then [⟨⟨x.lang, false, isL x.c⟩, (r.text.size : Int), headC t s x ++ r.cells, ((k + rs.length : Nat) : Int)⟩] else []) := by
 intro rs
 induction rs with
 | nil => intro k; simp [ruleSteps]
 | cons q rs ih =>
  intro k
  simp only [List.cons_append, ruleSteps, ih (k + 1), List.append_assoc, List.length_cons]
  rw [show k + 1 + rs.length = k + (rs.length + 1) by omega]
theorem steps_none {t : Ta} {s : St} {l : List Sy} {i : Int} (h : ¬ (validE t = 0 ∧ (s.lang = 0 ∨ s.lang = 1) ∧ 0 ≤ i ∧ goodS l = true) ∨ (l.length : Int) ≤ i) : stepsL t s l i = [] := by
 unfold stepsL
 split
 ·rename_i h2
  rcases h with h | h
  ·exact absurd h2 h
  ·rw [List.getElem?_eq_none (by omega)]
 ·rfl
end Go.Dx
namespace Go.Proofs.YtfagjaabladgpaaDoor
open Go.RowKit Go.Dx
def zeroStep : Value := .agg #[.int .i64 0, .bool false, .bool false, .int .i64 0, .slice none 0 0, .int .i64 0]
theorem info_step : (Tryd.prog.info? 88).map (fun i => (i.zero, i.size, i.bytes)) = some (some zeroStep, 6, 56) := by kernel_rfl
theorem info_rstep : (Tryd.prog.info? 86).map (fun i => (i.zero, i.size, i.bytes)) = some (some zeroStep, 6, 56) := by kernel_rfl
section
variable {w : World} {ops : Array Oper} {rest : List Oper} {o : Oper} {act : Act} {Q : Exit → Act → World → Prop}
theorem app_st (hg : o.guard = none) (s x : Operand) (hop : o.op = Op.call { callee := Callee.builtin Builtin.append, args := #[s, x], argTypes := #[51, 51] })
  (w0 : World) (B : Nat) (a : Option Addr) (c : Nat) (ps : List SH) (hs : act.eval s = .slice a ps.length c) (hown : OSt w 88 5 B a c ps)
  (p : SH) (hp : Own w B 5 1 p.2.1 p.2.2.1 p.2.2.2 (p.1.cells.map B8)) (hx : act.eval x = .slice (some ⟨w.heap.size, 0, none⟩) 1 1)
  (hn : ps.length ≤ 1000000) (hB : B ≤ w.heap.size) (hbel : Below B w0 w)
  (hK : ∀ a' c' w', OSt w' 88 5 B a' c' (ps ++ [p]) → Below B w0 w' → wpList Tryd.prog ops Q rest (act.put o.dst (.slice a' (ps.length + 1) c')) w') :
  wpList Tryd.prog ops Q (o :: rest) act (w.alloc (.cells (stc p).toArray 88)) := by
 refine append_lit hg s x 51 hop 88 zeroStep 6 56 Tryd.underlying51 info_step rfl w0 B a _ c _ hs hown.top 1 (stc p) hx rfl (stc_one p) (by omega) (by unfold maxLen; omega) hB hbel ?_
 intro a' c' w' ho hgr hb
 exact hK a' c' w' (hown.push hp ho hgr (by decide)) hb
theorem app_st2 (hg : o.guard = none) (s x : Operand) (hop : o.op = Op.call { callee := Callee.builtin Builtin.append, args := #[s, x], argTypes := #[51, 51] })
  (w0 : World) (B : Nat) (a : Option Addr) (c : Nat) (ps : List SH) (hs : act.eval s = .slice a ps.length c) (hown : OSt w 88 5 B a c ps)
  (p : SH) (hp : Own w B 5 1 p.2.1 p.2.2.1 p.2.2.2 (p.1.cells.map B8)) (a2 : Option Addr) (c2 : Nat) (hx : act.eval x = .slice a2 1 c2) (hy : Sl w 6 a2 1 c2 (stc p))
  (hn : ps.length ≤ 1000000) (hB : B ≤ w.heap.size) (hbel : Below B w0 w)
  (hK : ∀ a' c' w', OSt w' 88 5 B a' c' (ps ++ [p]) → Below B w0 w' → wpList Tryd.prog ops Q rest (act.put o.dst (.slice a' (ps.length + 1) c')) w') :
  wpList Tryd.prog ops Q (o :: rest) act w := by
 refine append_own hg s x 51 hop 88 zeroStep 6 56 Tryd.underlying51 info_step rfl w0 B a _ c _ hs hown.top a2 1 c2 (stc p) hx hy (stc_one p) (by omega) (by unfold maxLen; omega) hB hbel ?_
 intro a' c' w' ho hgr hb
 exact hK a' c' w' (hown.push hp ho hgr (by decide)) hb
end
end Go.Proofs.YtfagjaabladgpaaDoor
end

section
/- Chapter 06: Around; the reference's cell. -/
namespace Go.Proofs.YtfagjaabladgpaaDoor
open Go.RowKit Go.Dx
def aroundF (n : Int) (m : Nat) : Nat := ((if n < 0 then -(n + 1) else n) % (m : Int)).toNat
theorem aroundF_eq {n : Int} {m : Nat} (hm : 1 ≤ m) : (if n < 0 then -(n + 1) else n) % (m : Int) = (aroundF n m : Int) := by
 have h3 := Int.emod_nonneg (if n < 0 then -(n + 1) else n) (show (m : Int) ≠ 0 by omega)
 unfold aroundF; omega
theorem aroundF_lt {n : Int} {m : Nat} (hm : 1 ≤ m) : aroundF n m < m := by
 have h2 := Int.emod_lt_of_pos (if n < 0 then -(n + 1) else n) (show (0 : Int) < m by omega)
 have h3 := aroundF_eq (n := n) hm
 omega
set_option maxHeartbeats 400000 in
theorem ref_Around (n v : Int) (m : Nat) (w : World) (hv : (m : Int) = v) (h0 : -9223372036854775808 ≤ n) (h1 : n ≤ 9223372036854775807) (hm : 1 ≤ m) (hm2 : m ≤ 1000000000) :
  Calls Tryd.prog 12 #[.int .i64 n, .int .i64 v] w fun e w' => e = .returned (.int .i64 (aroundF n m : Nat)) ∧ w = w' := by
 subst hv
 have hr := aroundF_eq (n := n) hm
 obtain ⟨r, HR⟩ : ∃ r, Hid (aroundF n m = r) := ⟨_, hide rfl⟩
 rw [HR.out] at hr ⊢
 by_cases hn : n < 0
 ·rw [if_pos hn] at hr
  have HH := hide hr
  clear hr
  go_enter Tryd.func12, Tryd.ntmps12
  go_wp2
  go_ret
  exact ⟨by rw [← HH.out, ← Int.tmod_eq_emod_of_nonneg (by omega), Int.neg_tmod]; rfl, rfl⟩
 ·rw [if_neg hn] at hr
  have HH := hide hr
  clear hr
  go_enter Tryd.func12, Tryd.ntmps12
  go_wp2
  go_ret
  exact ⟨by rw [← HH.out]; rfl, rfl⟩
theorem around_any (n v : Int) (m : Nat) (w : World) (hv : (m : Int) = v) (h0 : -9223372036854775808 ≤ n) (h1 : n ≤ 9223372036854775807) (hm : 1 ≤ m) (hm2 : m ≤ 1000000000) :
  ∃ r : Nat, r < m ∧ ∀ w, Calls Tryd.prog 12 #[.int .i64 n, .int .i64 v] w fun e w' => e = .returned (.int .i64 (r : Int)) ∧ w = w' :=
 ⟨aroundF n m, aroundF_lt hm, fun w => ref_Around n v m w hv h0 h1 hm hm2⟩
theorem tdiv_in {n d : Int} (h0 : -9223372036854775808 ≤ n) (h1 : n ≤ 9223372036854775807) (hd : 1 < d) : -9223372036854775808 ≤ n.tdiv d ∧ n.tdiv d ≤ 9223372036854775807 := by
 have h := Int.natAbs_tdiv n d
 have h2 : (n.tdiv d).natAbs ≤ n.natAbs := by rw [h]; exact Nat.div_le_self _ _
 by_cases hn : n = -9223372036854775808
 ·have h3 : (n.tdiv d).natAbs ≤ 9223372036854775808 / 2 := by
   rw [h, hn]
   exact Nat.div_le_div_left (by omega) (by decide)
  omega
 ·omega
theorem steps10 : ∀ r : Nat, r < 10 → ∃ s : Nat, ([1, 2, 4, 5, 8, 10, 11, 13, 16, 17] : List Int)[r]? = some (s : Int) ∧ s ≤ 17 := by
 intro r hr
 rcases r with _ | _ | _ | _ | _ | _ | _ | _ | _ | _ | r
 ·exact ⟨1, rfl, by decide⟩
 ·exact ⟨2, rfl, by decide⟩
 ·exact ⟨4, rfl, by decide⟩
 ·exact ⟨5, rfl, by decide⟩
 ·exact ⟨8, rfl, by decide⟩
 ·exact ⟨10, rfl, by decide⟩
 ·exact ⟨11, rfl, by decide⟩
 ·exact ⟨13, rfl, by decide⟩
 ·exact ⟨16, rfl, by decide⟩
 ·exact ⟨17, rfl, by decide⟩
 ·omega
set_option maxHeartbeats 1000000 in
theorem ref_cell (n : Int) (h0 : -9223372036854775808 ≤ n) (h1 : n ≤ 9223372036854775807) (k : Nat) (hk : k ≤ 100) :
  ∃ v : UInt8, cellOk v = true ∧ ∀ w, Calls Tryd.prog 21 #[.int .i64 n, .int .i64 (k : Int)] w fun e w' => e = .returned (.int .u8 (v.toNat : Int)) ∧ Below w.heap.size w w' := by
 obtain ⟨r, hr, hA⟩ := around_any n 10 10 (World.settled Tryd.prog default) rfl h0 h1 (by decide) (by decide)
 obtain ⟨q, hq, hB⟩ := around_any (n.tdiv 10) 63 63 (World.settled Tryd.prog default) rfl (tdiv_in h0 h1 (by decide)).1 (tdiv_in h0 h1 (by decide)).2 (by decide) (by decide)
 obtain ⟨s, hs, hs17⟩ := steps10 r hr
 obtain ⟨ks, hks⟩ : ∃ ks : Nat, ks = k * s := ⟨_, rfl⟩
 have hksl : ks ≤ 1700 := by rw [hks]; exact Nat.mul_le_mul hk hs17
 obtain ⟨m, hm⟩ : ∃ m : Nat, m = (ks + q) % 63 := ⟨_, rfl⟩
 have hm63 : m < 63 := by omega
 have HKS : Hid ((k : Int) * (s : Int) = (ks : Int)) := hide (by rw [hks]; exact (Int.natCast_mul k s).symm)
 have HM : Hid (((ks : Int) + (q : Int)) % 63 = (m : Int)) := hide (by omega)
 have HU : Hid (((UInt8.ofNat (1 + m)).toNat : Int) = 1 + (m : Int)) := hide (by rw [UInt8.toNat_ofNat']; omega)
 have hcell : cellOk (UInt8.ofNat (1 + m)) = true := by
  have : (UInt8.ofNat (1 + m)).toNat = 1 + m := by rw [UInt8.toNat_ofNat']; omega
  unfold cellOk
  rw [this]; simp; omega
 refine ⟨UInt8.ofNat (1 + m), hcell, fun w => ?_⟩
 have HS := hide hs
 have hL : ([.int .i64 1, .int .i64 2, .int .i64 4, .int .i64 5, .int .i64 8, .int .i64 10, .int .i64 11, .int .i64 13, .int .i64 16, .int .i64 17] : List Value)[r]? = some (.int .i64 (s : Int)) := by
  have := congrArg (Option.map I64) hs
  rw [← List.getElem?_map] at this
  exact this
 have hE : ([.int .i64 1, .int .i64 2, .int .i64 4, .int .i64 5, .int .i64 8, .int .i64 10, .int .i64 11, .int .i64 13, .int .i64 16, .int .i64 17] : List Value)[r]'(by simpa using hr) = .int .i64 (s : Int) := (List.getElem?_eq_some_iff.1 hL).2
 have hsl : Sl (w.alloc (.cells (([1, 2, 4, 5, 8, 10, 11, 13, 16, 17] : List Int).map I64).toArray 3)) 1 (some ⟨w.heap.size, 0, none⟩) 10 10 (([1, 2, 4, 5, 8, 10, 11, 13, 16, 17] : List Int).map I64) := Sl.fresh w _ 1 10 _ rfl (by decide)
 have mks := HKS.out
 have mm := HM.out
 have mt : ((ks : Int) + (q : Int)).tmod 63 = (m : Int) := by rw [Int.tmod_eq_emod_of_nonneg (by omega)]; exact mm
 clear hs hks hm hcell hL
 go_enter Tryd.func21, Tryd.ntmps21
 go_wp2_with (first
  | (go_at_call_of 12 (Value.int IntKind.i64 10); refine (hA _).mono ?_; rintro e w2 ⟨rfl, rfl⟩)
  | (with_reducible refine idx_i 9 _ _ _ _ _ _ rfl hsl _ _ r rfl rfl _ HS.out ?_; intro b o hcell hbo)
  | (go_at_call_of 12 (Value.int IntKind.i64 63); refine (hB _).mono ?_; rintro e w2 ⟨rfl, rfl⟩))
 go_ret
 exact ⟨by rw [HU.out]; rfl, blo w _⟩
end Go.Proofs.YtfagjaabladgpaaDoor
end

section
/- Chapter 06: rules that a call owns; Once. -/
namespace Go.Dx
open Go.RowKit
structure ORu (w : World) (E U : TypeId) (B : Nat) (a : Option Addr) (c : Nat) (ps : List RH) : Prop where
 top : Own w B E 3 a ps.length c (ps.flatMap rc)
 row : ∀ p ∈ ps, Own w 0 U 1 p.2.1 p.2.2.1 p.2.2.2 (p.1.cells.map B8) ∧ p.1.text.size ≤ 1000
theorem ORu.nil (w : World) (E U : TypeId) (B : Nat) : ORu w E U B none 0 [] := ⟨Own.nil _ _ _ _, fun p hp => (by simp at hp)⟩
theorem ORu.below {w w' : World} {E U : TypeId} {B : Nat} {a : Option Addr} {c : Nat} {ps : List RH} (h : ORu w E U B a c ps) (hb : Below w.heap.size w w') : ORu w' E U B a c ps :=
 ⟨h.top.below hb, fun p hp => ⟨(h.row p hp).1.below hb, (h.row p hp).2⟩⟩
theorem ORu.rul {w : World} {E U : TypeId} {B : Nat} {a : Option Addr} {c : Nat} {ps : List RH} (h : ORu w E U B a c ps) : Rul w a ps.length c ps :=
 ⟨h.top.sl, fun p hp => ⟨(h.row p hp).1.sl, (h.row p hp).2⟩⟩
theorem ORu.push {w w' : World} {E U : TypeId} {B : Nat} {a a' : Option Addr} {c c' : Nat} {ps : List RH} {p : RH} (h : ORu w E U B a c ps) (hx : Own w 0 U 1 p.2.1 p.2.2.1 p.2.2.2 (p.1.cells.map B8)) (hz : p.1.text.size ≤ 1000)
  (ht : Own w' B E 3 a' (ps.length + 1) c' (ps.flatMap rc ++ rc p)) (hg : w.grownBy w' (a.map (·.block))) (hE : E ≠ U) : ORu w' E U B a' c' (ps ++ [p]) := by
 have key : ∀ q : RH, Own w 0 U 1 q.2.1 q.2.2.1 q.2.2.2 (q.1.cells.map B8) → Own w' 0 U 1 q.2.1 q.2.2.1 q.2.2.2 (q.1.cells.map B8) := by
  intro q hq
  refine hq.kept hg fun r hr => ?_
  cases a with
  | none => simp
  | some t =>
   have ho := h.top
   rw [hr] at hq
   have := own_far hq ho (fun e => hE e.symm)
   simpa using this
 refine ⟨?_, ?_⟩
 ·rw [List.length_append, List.flatMap_append, List.flatMap_singleton]; exact ht
 ·intro q hq
  rcases List.mem_append.1 hq with hq | hq
  ·exact ⟨key q (h.row q hq).1, (h.row q hq).2⟩
  ·rw [List.mem_singleton] at hq; subst hq; exact ⟨key _ hx, hz⟩
end Go.Dx
namespace Go.Proofs.YtfagjaabladgpaaDoor
open Go.RowKit Go.Dx
def zeroRule : Value := .agg #[.string ⟨#[]⟩, .int .i64 0, .slice none 0 0]
theorem info_rule : (Tryd.prog.info? 45).map (fun i => (i.zero, i.size, i.bytes)) = some (some zeroRule, 3, 48) := by kernel_rfl
section
variable {w : World} {ops : Array Oper} {rest : List Oper} {o : Oper} {act : Act} {Q : Exit → Act → World → Prop}
theorem app_ru (hg : o.guard = none) (s x : Operand) (hop : o.op = Op.call { callee := Callee.builtin Builtin.append, args := #[s, x], argTypes := #[24, 24] })
  (w0 : World) (B : Nat) (a : Option Addr) (c : Nat) (ps : List RH) (hs : act.eval s = .slice a ps.length c) (hown : ORu w 45 5 B a c ps)
  (p : RH) (hp : Own w 0 5 1 p.2.1 p.2.2.1 p.2.2.2 (p.1.cells.map B8)) (hz : p.1.text.size ≤ 1000) (hx : act.eval x = .slice (some ⟨w.heap.size, 0, none⟩) 1 1)
  (hn : ps.length ≤ 1000000) (hB : B ≤ w.heap.size) (hbel : Below B w0 w)
  (hK : ∀ a' c' w', ORu w' 45 5 B a' c' (ps ++ [p]) → Below B w0 w' → w.grownBy w' (a.map (·.block)) → wpList Tryd.prog ops Q rest (act.put o.dst (.slice a' (ps.length + 1) c')) w') :
  wpList Tryd.prog ops Q (o :: rest) act (w.alloc (.cells (rc p).toArray 45)) := by
 refine append_lit hg s x 24 hop 45 zeroRule 3 48 Tryd.underlying24 info_rule rfl w0 B a _ c _ hs hown.top 1 (rc p) hx rfl (rc_one p) (by omega) (by unfold maxLen; omega) hB hbel ?_
 intro a' c' w' ho hgr hb
 exact hK a' c' w' (hown.push hp hz ho hgr (by decide)) hb hgr
theorem app_ru2 (hg : o.guard = none) (s x : Operand) (hop : o.op = Op.call { callee := Callee.builtin Builtin.append, args := #[s, x], argTypes := #[24, 24] })
  (w0 : World) (B : Nat) (a : Option Addr) (c : Nat) (ps : List RH) (hs : act.eval s = .slice a ps.length c) (hown : ORu w 45 5 B a c ps)
  (p : RH) (hp : Own w 0 5 1 p.2.1 p.2.2.1 p.2.2.2 (p.1.cells.map B8)) (hz : p.1.text.size ≤ 1000) (a2 : Option Addr) (c2 : Nat) (hx : act.eval x = .slice a2 1 c2) (hy : Sl w 3 a2 1 c2 (rc p))
  (hn : ps.length ≤ 1000000) (hB : B ≤ w.heap.size) (hbel : Below B w0 w)
  (hK : ∀ a' c' w', ORu w' 45 5 B a' c' (ps ++ [p]) → Below B w0 w' → w.grownBy w' (a.map (·.block)) → wpList Tryd.prog ops Q rest (act.put o.dst (.slice a' (ps.length + 1) c')) w') :
  wpList Tryd.prog ops Q (o :: rest) act w := by
 refine append_own hg s x 24 hop 45 zeroRule 3 48 Tryd.underlying24 info_rule rfl w0 B a _ c _ hs hown.top a2 1 c2 (rc p) hx hy (rc_one p) (by omega) (by unfold maxLen; omega) hB hbel ?_
 intro a' c' w' ho hgr hb
 exact hK a' c' w' (hown.push hp hz ho hgr (by decide)) hb hgr
end

set_option maxRecDepth 100000 in
set_option maxHeartbeats 4000000 in
theorem ref_Once (ps : List RH) (a : Option Addr) (c B : Nat) (hpl : ps.length ≤ 200) (w : World) (hl : ORu w 45 5 B a c ps) :
  Calls Tryd.prog 22 #[.slice a ps.length c] w fun e w' => ∃ (a' : Option Addr) (c' : Nat) (qs : List RH), e = .returned (.slice a' qs.length c') ∧ ORu w' 45 5 w.heap.size a' c' qs ∧ OnceOf (rus ps) (rus qs) ∧ Below w.heap.size w w' := by
 go_enter Tryd.func22, Tryd.ntmps22
 go_wp2_with fail
 go_loopg [3, 4] ps.length (fun gh o v w' => ∃ (i : Nat) (qs : List RH) (ao : Option Addr) (co : Nat), i ≤ ps.length ∧ gh = ps.length - i ∧ qs.length ≤ i ∧ o = .slice ao qs.length co ∧ v = .int .i64 (i : Int) ∧ Hid (OnceOf ((rus ps).take i) (rus qs)) ∧ ORu w' 45 5 w.heap.size ao co qs ∧ Below w.heap.size w w')
 case atStart => exact ⟨0, [], none, 0, by omega, by omega, by simp, rfl, rfl, hide onceOf_nil, ORu.nil _ _ _ _, Below.refl _ _⟩
 case round =>
  obtain ⟨i, qs, ao, co, hi, hg, hql, rfl, rfl, HO, hOR, hb⟩ := hrel
  have HG := hide hg
  clear hg
  by_cases hil : i < ps.length
  ·obtain ⟨wo, rfl⟩ : ∃ wo : World, wo = wr := ⟨_, rfl⟩
   obtain ⟨x, hx⟩ : ∃ x, ps[i]? = some x := ⟨ps[i], by simp [hil]⟩
   have HXI := hide hx
   have HRX := hide (rus_get hx)
   have hlo := hl.below hb
   obtain ⟨hrow, hsz⟩ := hlo.row x (List.mem_of_getElem? hx)
   obtain ⟨b1, o1, hab, hb1, x0, x1, x2⟩ := ru_cells hlo.top.sl hx
   have HRLO := hide hlo.rul.top
   subst hab
   clear hx
   obtain ⟨⟨s, wh, cl⟩, h1, h2, h3⟩ := x
   have x0 : wo.cell? ⟨b1, o1 + i * 3, none⟩ = some (.string s) := x0
   have x1 : wo.cell? ⟨b1, o1 + i * 3 + 1, none⟩ = some (.int .i64 wh) := x1
   have e0 : decide (i < ps.length) = true := decide_eq_true hil
   have e0' : decide ((i : Int) < (ps.length : Int)) = true := decide_eq_true (by omega)
   clear x2
   go_wp2_with fail
   go_loopg [5, 6] qs.length (fun gh f v w' => ∃ (k : Nat) (fv : Bool), k ≤ qs.length ∧ gh = qs.length - k ∧ f = .bool fv ∧ Hid (fv = !isIn (((rus qs).take k).map nmOf) (s, wh)) ∧ v = .int .i64 (k : Int) ∧ Below wo.heap.size wo w')
   case atStart => exact ⟨0, true, by omega, by omega, rfl, hide rfl, rfl, Below.refl _ _⟩
   case round =>
    obtain ⟨k, fv, hk, hgk, rfl, HF, rfl, hbk⟩ := hrel
    have HGK := hide hgk
    clear hgk
    have hb2 := hb.trans (hbk.mono hb.size)
    by_cases hkl : k < qs.length
    ·obtain ⟨y, hy⟩ : ∃ y, qs[k]? = some y := ⟨qs[k], by simp [hkl]⟩
     have HSTEP := hide (isIn_step (rus_get hy) (s, wh))
     obtain ⟨b2, o2, hab2, hb22, y0, y1, y2⟩ := ru_cells (hOR.below hbk).top.sl hy
     subst hab2
     clear hy
     obtain ⟨⟨s2, wh2, cl2⟩, g1, g2, g3⟩ := y
     have y0 : wr.cell? ⟨b2, o2 + k * 3, none⟩ = some (.string s2) := y0
     have y1 : wr.cell? ⟨b2, o2 + k * 3 + 1, none⟩ = some (.int .i64 wh2) := y1
     have z0 := cell_below x0 hbk
     have z1 := cell_below x1 hbk
     have hbq : ∀ m, Below wo.heap.size wo (wr.drewN m) := fun m => belowN hbk m
     clear y2
     cases fv
     ·have HF2 : Hid (false = !isIn (((rus qs).take (k + 1)).map nmOf) (s, wh)) := hide (by rw [HSTEP.out]; have := HF.out; simp at this; simp [this])
      go_wp2
      go_quiet (fail)
      go_wp2
      go_roundg (qs.length - (k + 1))
      case measure => have := HGK.out; omega
      case rel => exact ⟨k + 1, false, by omega, rfl, rfl, HF2, by go_num, hbq _⟩
     ·have hF0 : isIn (((rus qs).take k).map nmOf) (s, wh) = false := by have := HF.out; simpa using this
      cases q1 : (s2.toList == s.toList)
      ·have q1' : (s.toList == s2.toList) = false := by rw [← q1, Bool.beq_comm]
       have HF2 : Hid (true = !isIn (((rus qs).take (k + 1)).map nmOf) (s, wh)) := hide (by rw [HSTEP.out, hF0]; simp only [q1']; rfl)
       clear hF0
       go_wp2
       go_quiet (fail)
       go_wp2
       go_roundg (qs.length - (k + 1))
       case measure => have := HGK.out; omega
       case rel => exact ⟨k + 1, true, by omega, rfl, by first | rfl | simp, HF2, by go_num, hbq _⟩
      ·have q1' : (s.toList == s2.toList) = true := by rw [← q1, Bool.beq_comm]
       by_cases q2 : wh2 = wh
       ·have d2 : (wh2 != wh) = false := by rw [q2]; simp
        have HF2 : Hid (false = !isIn (((rus qs).take (k + 1)).map nmOf) (s, wh)) := hide (by rw [HSTEP.out, hF0]; simp only [q1', q2]; simp)
        clear hF0 q2
        go_wp2
        go_quiet (fail)
        go_wp2
        go_roundg (qs.length - (k + 1))
        case measure => have := HGK.out; omega
        case rel => exact ⟨k + 1, false, by omega, rfl, by first | rfl | simp, HF2, by go_num, hbq _⟩
       ·have d2 : (wh2 != wh) = true := bne_iff_ne.2 q2
        have HF2 : Hid (true = !isIn (((rus qs).take (k + 1)).map nmOf) (s, wh)) := hide (by rw [HSTEP.out, hF0]; have : (wh == wh2) = false := beq_eq_false_iff_ne.2 (fun e => q2 e.symm); simp [this])
        clear hF0 q2
        go_wp2
        go_quiet (fail)
        go_wp2
        go_roundg (qs.length - (k + 1))
        case measure => have := HGK.out; omega
        case rel => exact ⟨k + 1, true, by omega, rfl, by first | rfl | simp, HF2, by go_num, hbq _⟩
    ·obtain rfl : k = qs.length := by omega
     have hF1 := HF.out
     rw [List.take_of_length_le (by unfold rus; simp)] at hF1
     have hON := once_step HO.out ⟨s, wh, cl⟩
     have HTK : Hid ((rus ps).take (i + 1) = (rus ps).take i ++ [⟨s, wh, cl⟩]) := hide (take_succ_get HRX.out)
     have hOw := hOR.below hbk
     have hlw := hlo.below hbk
     cases fv
     ·have hin : isIn ((rus qs).map nmOf) (s, wh) = true := by simpa using hF1.symm
      have HON2 : Hid (OnceOf ((rus ps).take (i + 1)) (rus qs)) := hide (by
       rw [HTK.out]
       rw [show isIn ((rus qs).map nmOf) (nmOf ⟨s, wh, cl⟩) = true from hin, if_pos rfl] at hON
       exact hON)
      clear hF1 hON hin
      go_wp2
      go_roundg (ps.length - (i + 1))
      case measure => have := HG.out; omega
      case rel => exact ⟨i + 1, qs, ao, co, by omega, rfl, by omega, rfl, by go_num, HON2, hOw, hb2⟩
     ·have hin : isIn ((rus qs).map nmOf) (s, wh) = false := by simpa using hF1.symm
      have HON2 : Hid (OnceOf ((rus ps).take (i + 1)) (rus (qs ++ [(⟨s, wh, cl⟩, (h1, h2, h3))]))) := hide (by
       rw [HTK.out, show rus (qs ++ [((⟨s, wh, cl⟩ : Ru), (h1, h2, h3))]) = rus qs ++ [⟨s, wh, cl⟩] by unfold rus; simp]
       rw [show isIn ((rus qs).map nmOf) (nmOf ⟨s, wh, cl⟩) = false from hin, if_neg (by simp)] at hON
       exact hON)
      have hrw := hrow.below hbk
      have hsz1 : s.size ≤ 1000 := hsz
      have HLT := hide hlw.rul.top
      clear hF1 hON hin
      go_wp2_with (first
       | (with_reducible refine idx_r 50 _ _ _ _ _ _ rfl HLT.out _ _ i rfl rfl _ HXI.out ?_; intro b o hcell hcell2 hcell3 hbo)
       | (at_builtin; refine app_ru rfl _ _ rfl w w.heap.size ao co qs rfl hOw (⟨s, wh, cl⟩, (h1, h2, h3)) hrw hsz1 rfl (by omega) hb2.size hb2 ?_; intro a9 c9 w9 ho9 hb9 _))
      go_roundg (ps.length - (i + 1))
      case measure => have := HG.out; omega
      case rel => exact ⟨i + 1, _, a9, c9, by omega, rfl, by rw [List.length_append]; simp; omega, by rw [List.length_append]; rfl, by go_num, HON2, ho9, hb9⟩
  ·obtain rfl : i = ps.length := by omega
   have hO := HO.out
   rw [List.take_of_length_le (by unfold rus; simp)] at hO
   go_wp2
   go_ret
   exact ⟨ao, co, qs, rfl, hOR, hO, hb⟩
end Go.Proofs.YtfagjaabladgpaaDoor
end

section
/- Chapter 06: the program's Steps. -/
namespace Go.Proofs.YtfagjaabladgpaaDoor
open Go.RowKit Go.Dx

set_option maxRecDepth 100000 in
set_option maxHeartbeats 8000000 in
theorem tab_Steps_no (H : TH) (t : Ta) (s : St) (l : List Sy) (a : Option Addr) (n c : Nat) (i : Int) (hno : ¬ (validE t = 0 ∧ (s.lang = 0 ∨ s.lang = 1) ∧ 0 ≤ i ∧ goodS l = true) ∨ (l.length : Int) ≤ i) (w : World) (hT : TaIs w H t) (hs : Sl w 2 a n c (l.flatMap sc)) :
  Calls Tryd.prog 19 #[H.v, .agg #[.int .i64 s.lang, .bool s.num, .bool s.wrd], .slice a n c, .int .i64 i] w (StepsT 88 [] w) := by
 have hV := fun w' (hb : Below w.heap.size w w') => tab_Valid H t w' (hT.below hb)
 have hC := fun w' (hb : Below w.heap.size w w') => contains_y l a n c w' (hs.below hb)
 obtain rfl := hs.nf sc_len (by decide)
 obtain ⟨⟨a0, n0, c0⟩, ⟨a1, n1, c1⟩, ps0, ps1, ⟨ad, nd, cd⟩, ⟨ac, nc, cc⟩, ⟨an, nn, cn⟩, ⟨af, nf, cf⟩, ⟨aw, nw, cw⟩⟩ := H
 obtain ⟨sg, sn, si⟩ := s
 unfold TH.v at hV ⊢
 simp only [hdv] at hV ⊢
 have hbb : Below w.heap.size w ((w.alloc (.cells #[.slice a0 n0 c0, .slice a1 n1 c1, .slice ad nd cd, .slice ac nc cc, .slice an nn cn, .slice af nf cf, .slice aw nw cw] 29)).alloc (.cells #[.int .i64 sg, .bool sn, .bool si] 54)) := (blo w _).trans ((blo _ _).mono (by simp))
 have X4 : Box ((w.alloc (.cells #[.slice a0 n0 c0, .slice a1 n1 c1, .slice ad nd cd, .slice ac nc cc, .slice an nn cn, .slice af nf cf, .slice aw nw cw] 29)).alloc (.cells #[.int .i64 sg, .bool sn, .bool si] 54)) w.heap.size 29 #[.slice a0 n0 c0, .slice a1 n1 c1, .slice ad nd cd, .slice ac nc cc, .slice an nn cn, .slice af nf cf, .slice aw nw cw].toList := (Box.new w _ _).alloc _
 have X5 : Box ((w.alloc (.cells #[.slice a0 n0 c0, .slice a1 n1 c1, .slice ad nd cd, .slice ac nc cc, .slice an nn cn, .slice af nf cf, .slice aw nw cw] 29)).alloc (.cells #[.int .i64 sg, .bool sn, .bool si] 54)) (w.heap.size + 1) 54 [.int .i64 sg, .bool sn, .bool si] := by
  have := Box.new (w.alloc (.cells #[.slice a0 n0 c0, .slice a1 n1 c1, .slice ad nd cd, .slice ac nc cc, .slice an nn cn, .slice af nf cf, .slice aw nw cw] 29)) 54 #[.int .i64 sg, .bool sn, .bool si]
  rwa [show (w.alloc (.cells #[.slice a0 n0 c0, .slice a1 n1 c1, .slice ad nd cd, .slice ac nc cc, .slice an nn cn, .slice af nf cf, .slice aw nw cw] 29)).heap.size = w.heap.size + 1 by simp] at this
 have HBB := hide hbb
 have HX4 := hide X4
 have HX5 := hide X5
 clear hbb X4 X5
 clear hs hT
 generalize goodS l = gv at hC hno
 by_cases hv : validE t = 0
 case neg =>
  have d0 : (validE t != 0) = true := bne_iff_ne.2 hv
  generalize validE t = ev at hV d0
  clear hv hno
  go_enter Tryd.func19, Tryd.ntmps19
  go_wp2_with (first | (go_at_call 39; refine (hV _ HBB.out).mono ?_; rintro e w3 ⟨rfl, hb3⟩; have x5 := HX5.out.under hb3; have k5 : w3.cell? ⟨w.heap.size + 1, 0, none⟩ = some (.int .i64 sg) := x5.at_ rfl; have hbw3 := HBB.out.trans (hb3.mono HBB.out.size)))
  go_ret
  exact ⟨none, 0, [], rfl, Stl.nil _, hbw3, TypAt.nil _ _⟩
 rw [hv] at hV
 by_cases g0 : sg < 0
 case pos =>
  have d1 : decide (sg < 0) = true := decide_eq_true g0
  clear g0 hno hv
  go_enter Tryd.func19, Tryd.ntmps19
  go_wp2_with (first | (go_at_call 39; refine (hV _ HBB.out).mono ?_; rintro e w3 ⟨rfl, hb3⟩; have x5 := HX5.out.under hb3; have k5 : w3.cell? ⟨w.heap.size + 1, 0, none⟩ = some (.int .i64 sg) := x5.at_ rfl; have hbw3 := HBB.out.trans (hb3.mono HBB.out.size)))
  go_ret
  exact ⟨none, 0, [], rfl, Stl.nil _, hbw3, TypAt.nil _ _⟩
 have d1 : decide (sg < 0) = false := decide_eq_false g0
 by_cases g1 : 1 < sg
 case pos =>
  have d2 : decide (1 < sg) = true := decide_eq_true g1
  clear g1 hno hv g0
  go_enter Tryd.func19, Tryd.ntmps19
  go_wp2_with (first | (go_at_call 39; refine (hV _ HBB.out).mono ?_; rintro e w3 ⟨rfl, hb3⟩; have x5 := HX5.out.under hb3; have k5 : w3.cell? ⟨w.heap.size + 1, 0, none⟩ = some (.int .i64 sg) := x5.at_ rfl; have hbw3 := HBB.out.trans (hb3.mono HBB.out.size)))
  go_ret
  exact ⟨none, 0, [], rfl, Stl.nil _, hbw3, TypAt.nil _ _⟩
 have d2 : decide (1 < sg) = false := decide_eq_false g1
 by_cases i0 : i < 0
 case pos =>
  have d3 : decide (i < 0) = true := decide_eq_true i0
  clear g1 hno hv g0 i0
  go_enter Tryd.func19, Tryd.ntmps19
  go_wp2_with (first | (go_at_call 39; refine (hV _ HBB.out).mono ?_; rintro e w3 ⟨rfl, hb3⟩; have x5 := HX5.out.under hb3; have k5 : w3.cell? ⟨w.heap.size + 1, 0, none⟩ = some (.int .i64 sg) := x5.at_ rfl; have hbw3 := HBB.out.trans (hb3.mono HBB.out.size)))
  go_ret
  exact ⟨none, 0, [], rfl, Stl.nil _, hbw3, TypAt.nil _ _⟩
 have d3 : decide (i < 0) = false := decide_eq_false i0
 by_cases i1 : (l.length : Int) ≤ i
 case pos =>
  have d4 : decide ((l.length : Int) ≤ i) = true := decide_eq_true i1
  clear g1 hno hv g0 i0 i1
  go_enter Tryd.func19, Tryd.ntmps19
  go_wp2_with (first | (go_at_call 39; refine (hV _ HBB.out).mono ?_; rintro e w3 ⟨rfl, hb3⟩; have x5 := HX5.out.under hb3; have k5 : w3.cell? ⟨w.heap.size + 1, 0, none⟩ = some (.int .i64 sg) := x5.at_ rfl; have hbw3 := HBB.out.trans (hb3.mono HBB.out.size)))
  go_ret
  exact ⟨none, 0, [], rfl, Stl.nil _, hbw3, TypAt.nil _ _⟩
 have d4 : decide ((l.length : Int) ≤ i) = false := decide_eq_false i1
 have hgv : gv = false := by
  cases gv
  ·rfl
  ·exfalso
   rcases hno with h | h
   ·exact h ⟨hv, by show sg = 0 ∨ sg = 1; omega, by omega, rfl⟩
   ·exact i1 h
 subst hgv
 clear g1 hno hv g0 i0 i1
 go_enter Tryd.func19, Tryd.ntmps19
 go_wp2_with (first | (go_at_call 39; refine (hV _ HBB.out).mono ?_; rintro e w3 ⟨rfl, hb3⟩; have x5 := HX5.out.under hb3; have k5 : w3.cell? ⟨w.heap.size + 1, 0, none⟩ = some (.int .i64 sg) := x5.at_ rfl; have hbw3 := HBB.out.trans (hb3.mono HBB.out.size)) | (go_at_call 40; refine (hC _ hbw3).mono ?_; rintro e w4 ⟨rfl, hb4⟩))
 go_ret
 exact ⟨none, 0, [], rfl, Stl.nil _, hbw3.trans (hb4.mono hbw3.size), TypAt.nil _ _⟩
end Go.Proofs.YtfagjaabladgpaaDoor
end

section
/- Chapter 06: the program's Steps. -/
namespace Go.Proofs.YtfagjaabladgpaaDoor
open Go.RowKit Go.Dx

set_option maxRecDepth 100000 in
set_option maxHeartbeats 8000000 in
theorem tab_Steps_sw (H : TH) (t : Ta) (s : St) (l : List Sy) (a : Option Addr) (n c : Nat) (p : Nat) (x : Sy) (hv : validE t = 0) (hsl : s.lang = 0 ∨ s.lang = 1) (hx : l[p]? = some x) (hgd : goodS l = true) (hll : l.length ≤ 1000000) (hne : x.lang ≠ s.lang) (w : World) (hT : TaIs w H t) (hs : Sl w 2 a n c (l.flatMap sc)) :
  Calls Tryd.prog 19 #[H.v, .agg #[.int .i64 s.lang, .bool s.num, .bool s.wrd], .slice a n c, .int .i64 (p : Int)] w (StepsT 88 [⟨⟨x.lang, false, false⟩, 0, t.sw, -1⟩] w) := by
 have hV := fun w' (hb : Below w.heap.size w w') => tab_Valid H t w' (hT.below hb)
 have hC := fun w' (hb : Below w.heap.size w w') => contains_y l a n c w' (hs.below hb)
 obtain rfl := hs.nf sc_len (by decide)
 obtain ⟨⟨a0, n0, c0⟩, ⟨a1, n1, c1⟩, ps0, ps1, ⟨ad, nd, cd⟩, ⟨ac, nc, cc⟩, ⟨an, nn, cn⟩, ⟨af, nf, cf⟩, ⟨aw, nw, cw⟩⟩ := H
 obtain ⟨sg, sn, si⟩ := s
 unfold TH.v at hV ⊢
 simp only [hdv] at hV ⊢
 have hbb : Below w.heap.size w ((w.alloc (.cells #[.slice a0 n0 c0, .slice a1 n1 c1, .slice ad nd cd, .slice ac nc cc, .slice an nn cn, .slice af nf cf, .slice aw nw cw] 29)).alloc (.cells #[.int .i64 sg, .bool sn, .bool si] 54)) := (blo w _).trans ((blo _ _).mono (by simp))
 have X4 : Box ((w.alloc (.cells #[.slice a0 n0 c0, .slice a1 n1 c1, .slice ad nd cd, .slice ac nc cc, .slice an nn cn, .slice af nf cf, .slice aw nw cw] 29)).alloc (.cells #[.int .i64 sg, .bool sn, .bool si] 54)) w.heap.size 29 #[.slice a0 n0 c0, .slice a1 n1 c1, .slice ad nd cd, .slice ac nc cc, .slice an nn cn, .slice af nf cf, .slice aw nw cw].toList := (Box.new w _ _).alloc _
 have X5 : Box ((w.alloc (.cells #[.slice a0 n0 c0, .slice a1 n1 c1, .slice ad nd cd, .slice ac nc cc, .slice an nn cn, .slice af nf cf, .slice aw nw cw] 29)).alloc (.cells #[.int .i64 sg, .bool sn, .bool si] 54)) (w.heap.size + 1) 54 [.int .i64 sg, .bool sn, .bool si] := by
  have := Box.new (w.alloc (.cells #[.slice a0 n0 c0, .slice a1 n1 c1, .slice ad nd cd, .slice ac nc cc, .slice an nn cn, .slice af nf cf, .slice aw nw cw] 29)) 54 #[.int .i64 sg, .bool sn, .bool si]
  rwa [show (w.alloc (.cells #[.slice a0 n0 c0, .slice a1 n1 c1, .slice ad nd cd, .slice ac nc cc, .slice an nn cn, .slice af nf cf, .slice aw nw cw] 29)).heap.size = w.heap.size + 1 by simp] at this
 have HBB := hide hbb
 have HX4 := hide X4
 have HX5 := hide X5
 clear hbb X4 X5
 have hsl : sg = 0 ∨ sg = 1 := hsl
 obtain ⟨xg, xc⟩ := x
 rw [hv] at hV
 rw [hgd] at hC
 have hp := (List.getElem?_eq_some_iff.1 hx).1
 have d1 : decide (sg < 0) = false := decide_eq_false (by omega)
 have d2 : decide (1 < sg) = false := decide_eq_false (by omega)
 have d4 : decide ((l.length : Int) ≤ (p : Int)) = false := decide_eq_false (by omega)
 have d4' : decide (l.length ≤ p) = false := decide_eq_false (by omega)
 have HXP := hide hx
 have hxg : xg = 0 ∨ xg = 1 := by
  have h1 : symOk ⟨xg, xc⟩ = true := by
   unfold goodS at hgd
   exact List.all_eq_true.1 hgd _ (List.mem_of_getElem? hx)
  unfold symOk at h1
  simp only [Bool.and_eq_true, Bool.or_eq_true, decide_eq_true_eq] at h1
  exact h1.1
 have HGD := hide hgd
 have HV0 := hide hv
 clear hv hgd hx
 have hne : xg ≠ sg := hne
 have dn : (xg != sg) = true := bne_iff_ne.2 hne
 have hnw : nw = t.sw.length := hT.s.n_eq
 have hnw2 : nw ≤ 140737488355328 := by
  have := indic_le (good_parts (valid_parts HV0.out).2.2.1).2.2.2.2.1
  omega
 have hTs : Sl w 1 aw nw cw (t.sw.map B8) := hT.s
 clear hne hT hnw
 go_enter Tryd.func19, Tryd.ntmps19
 go_wp2_with (first | (go_at_call 39; refine (hV _ HBB.out).mono ?_; rintro e w3 ⟨rfl, hb3⟩; have x5 := HX5.out.under hb3; have k5 : w3.cell? ⟨w.heap.size + 1, 0, none⟩ = some (.int .i64 sg) := x5.at_ rfl; have hbw3 := HBB.out.trans (hb3.mono HBB.out.size)) | (go_at_call 40; refine (hC _ hbw3).mono ?_; rintro e w4 ⟨rfl, hb4⟩; have hbw4 := hbw3.trans (hb4.mono hbw3.size); have x4 := (HX4.out.under hb3).under hb4; have x5' := x5.under hb4; have k5' : w4.cell? ⟨w.heap.size + 1, 0, none⟩ = some (.int .i64 sg) := x5'.at_ rfl; have hw5 : w.heap.size + 1 < w4.heap.size := x5'.lt) | (with_reducible refine idx_y 47 _ _ _ _ _ _ rfl (hs.below hbw4) _ _ p rfl rfl _ HXP.out ?_; intro b o hcell hcell2 hbo))
 have y9 := Box.new w4 83 #[.int .i64 xg, .int .u8 (xc.toNat : Int)]
 have y4 := x4.alloc (.cells #[.int .i64 xg, .int .u8 (xc.toNat : Int)] 83)
 have y5 := x5'.alloc (.cells #[.int .i64 xg, .int .u8 (xc.toNat : Int)] 83)
 have hbw5 := hbw4.trans ((blo w4 (.cells #[.int .i64 xg, .int .u8 (xc.toNat : Int)] 83)).mono hbw4.size)
 have h9 : w.heap.size + 1 < w4.heap.size := hw5
 clear k5 k5' hcell hcell2 hbo hb3 hb4 hbw3 x4 x5 x5' hw5
 generalize w4.alloc (.cells _ 83) = w5 at *
 obtain ⟨g9, hg9⟩ : ∃ g9, g9 = w4.heap.size := ⟨_, rfl⟩
 rw [← hg9] at y9 h9 ⊢
 clear hg9
 have hcX : ∀ w', Below w5.heap.size w5 w' → w'.cell? ⟨g9, 0, none⟩ = some (.int .i64 xg) := fun w' h => (y9.under h).at_ rfl
 have hcW : ∀ w', Below w5.heap.size w5 w' → w'.cell? ⟨w.heap.size, 6, none⟩ = some (.slice aw nw cw) := fun w' h => (y4.under h).at_ rfl
 have hCl := fun w' (h : Below w5.heap.size w5 w') => clone6 t.sw aw nw cw w' ((hTs.below hbw5).below h) hnw2
 refine wp_region_free 7 [⟨0, 54, [54], fun vs _ => vs = [.pointer (some ⟨g9, 0, none⟩)]⟩, ⟨1, 55, [55], fun vs _ => vs = [.int .i64 xg]⟩, ⟨2, 56, [56], fun vs _ => vs = [.agg #[.int .i64 xg, .bool false, .bool false]]⟩, ⟨3, 57, [57], fun vs _ => vs = [.pointer (some ⟨w.heap.size, 6, none⟩)]⟩, ⟨4, 58, [58], fun vs _ => vs = [.slice aw nw cw]⟩, ⟨5, 59, [59], fun vs w' => ∃ a' c', vs = [.slice a' nw c'] ∧ Sl w' 1 a' nw c' (t.sw.map B8)⟩, ⟨6, 60, [60], fun vs w' => ∃ a' c', vs = [.agg #[.int .i64 xg, .bool false, .bool false, .int .i64 0, .slice a' nw c', .int .i64 (-1)]] ∧ Sl w' 1 a' nw c' (t.sw.map B8)⟩] (by kernel_rfl) (by kernel_rfl) ?_ ?_ ?_
 ·simp only [All]
  refine ⟨fun _ _ _ _ h => h, fun _ _ _ _ h => h, fun _ _ _ _ h => h, fun _ _ _ _ h => h, fun _ _ _ _ h => h, ?_, ?_, trivial⟩
  ·rintro vs w w' hb ⟨a', c', h1, h2⟩
   exact ⟨a', c', h1, h2.below hb⟩
  ·rintro vs w w' hb ⟨a', c', h1, h2⟩
   exact ⟨a', c', h1, h2.below hb⟩
 ·simp only [All]
  refine ⟨?_, ?_, ?_, ?_, ?_, ?_, ?_, trivial⟩
  ·intro o ho a' w' hb hfr hdep; obtain rfl := oj ho
   have g9 : a'.tmps[9]?.getD undef = .pointer (some ⟨g9, 0, none⟩) := by simpa using hfr 9 (by kernel_rfl)
   clear ho hfr hdep; go_wp2_with fail; exact ⟨rfl, _, rfl, br, rfl⟩
  ·intro o ho a' w' hb hfr hdep; obtain rfl := oj ho
   have g54 : a'.tmps[54]?.getD undef = .pointer (some ⟨g9, 0, none⟩) := by simpa using hdep 0 _ rfl (by kernel_rfl)
   clear ho hfr hdep; have hcl := hcX _ hb
   go_wp2_with fail; exact ⟨rfl, _, rfl, br, rfl⟩
  ·intro o ho a' w' hb hfr hdep; obtain rfl := oj ho
   have g55 : a'.tmps[55]?.getD undef = .int .i64 xg := by simpa using hdep 1 _ rfl (by kernel_rfl)
   clear ho hfr hdep; go_wp2_with fail; exact ⟨rfl, _, rfl, br, rfl⟩
  ·intro o ho a' w' hb hfr hdep; obtain rfl := oj ho
   have g4 : a'.tmps[4]?.getD undef = .pointer (some ⟨w.heap.size, 0, none⟩) := by simpa using hfr 4 (by kernel_rfl)
   clear ho hfr hdep; go_wp2_with fail; exact ⟨rfl, _, rfl, br, rfl⟩
  ·intro o ho a' w' hb hfr hdep; obtain rfl := oj ho
   have g57 : a'.tmps[57]?.getD undef = .pointer (some ⟨w.heap.size, 6, none⟩) := by simpa using hdep 3 _ rfl (by kernel_rfl)
   clear ho hfr hdep; have hcl := hcW _ hb
   go_wp2_with fail; exact ⟨rfl, _, rfl, br, rfl⟩
  ·intro o ho a' w' hb hfr hdep; obtain rfl := oj ho
   have g58 : a'.tmps[58]?.getD undef = .slice aw nw cw := by simpa using hdep 4 _ rfl (by kernel_rfl)
   clear ho hfr hdep; go_wp2_with fail
   refine (hCl _ hb).mono ?_
   rintro e w6 ⟨a', c', rfl, ho6, hb6⟩
   go_wp2_with fail
   exact ⟨rfl, _, rfl, hb6, a', c', rfl, ho6.sl⟩
  ·intro o ho a' w' hb hfr hdep; obtain rfl := oj ho
   have g56 : a'.tmps[56]?.getD undef = .agg #[.int .i64 xg, .bool false, .bool false] := by simpa using hdep 2 _ rfl (by kernel_rfl)
   obtain ⟨a', c', g59, hsl'⟩ := hdep 5 _ rfl (by kernel_rfl)
   simp at g59
   clear ho hfr hdep; go_wp2_with fail; exact ⟨rfl, _, rfl, br, a', c', rfl, hsl'⟩
 ·intro g w6 hb6 hp6
  obtain ⟨a', c', p60, hsl'⟩ := hp6 6 _ rfl
  clear hp6
  simp at p60
  simp only [List.drop_succ_cons, List.drop_zero, List.map_cons, List.map_nil, putAll, Act.put, List.setIfInBounds_toArray, List.set_cons_succ, List.set_cons_zero, List.cons_append, List.nil_append, p60]
  have HF := hide (Sl.fresh w6 88 6 1 (stc (⟨⟨xg, false, false⟩, 0, t.sw, -1⟩, (a', nw, c'))) rfl (by decide))
  have HFt := hide (TypAt.fresh w6 (stc (⟨⟨xg, false, false⟩, 0, t.sw, -1⟩, (a', nw, c'))).toArray 88)
  have hbf := blo w6 (.cells (stc (⟨⟨xg, false, false⟩, 0, t.sw, -1⟩, (a', nw, c'))).toArray 88)
  go_wp2_with fail
  go_ret
  exact ⟨_, 1, [(⟨⟨xg, false, false⟩, 0, t.sw, -1⟩, (a', nw, c'))], rfl, ⟨HF.out, fun q hq => by rw [List.mem_singleton] at hq; subst hq; exact hsl'.below hbf, rfl⟩, hbw5.trans ((hb6.trans (hbf.mono hb6.size)).mono hbw5.size), HFt.out⟩
end Go.Proofs.YtfagjaabladgpaaDoor
end
