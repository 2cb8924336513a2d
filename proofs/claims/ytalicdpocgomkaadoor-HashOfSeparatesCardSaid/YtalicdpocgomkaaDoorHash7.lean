import Derived.Test.YtalicdpocgomkaaDoorHash5
import Derived.Test.YtalicdpocgomkaaDoorHash6
import Derived.Test.YtalicdpocgomkaaDoorHashQ
namespace Go.Proofs.YtalicdpocgomkaaDoor
open Go.RowKit Go.Dx

/-- a word's byte -/
def wbyte (ws : List UInt32) (i : Nat) : UInt8 := UInt8.ofNat ((ws.getD (i / 4) 0).toNat / 2 ^ (24 - 8 * (i % 4)))
def bytesOf (ws : List UInt32) (k : Nat) : List UInt8 := (List.range k).map (wbyte ws)
theorem bytesOf_succ (ws : List UInt32) (k : Nat) : bytesOf ws (k + 1) = bytesOf ws k ++ [wbyte ws k] := by simp [bytesOf, List.range_succ]
theorem bytesOf_length (ws : List UInt32) (k : Nat) : (bytesOf ws k).length = k := by simp [bytesOf]
def sha (m : List UInt8) : List UInt8 := bytesOf (blocks (pad m) ((pad m).length / 64)).list 32
def zero32 : List UInt8 := List.replicate 32 0
/-- a stream: the hash value, the last block with what stands behind its bytes, the length -/
def strm (s : St) (blk : List UInt8) (n : Nat) : List Value := s.list.map W32 ++ blk.map B8 ++ [Value.int .u64 (n : Int)]
theorem strm_length (s : St) {blk : List UInt8} (h : blk.length = 64) (n : Nat) : (strm s blk n).length = 73 := by simp [strm, St.list, h]
theorem size_strm : (Tryd.prog.info? 34).map (·.size) = some 73 := by kernel_rfl
theorem isAgg_strm : IsAgg Tryd.prog 34 := .inr ⟨_, Tryd.underlying34⟩
def Z0 : St := ⟨0, 0, 0, 0, 0, 0, 0, 0⟩
theorem zero_strm (W : World) : (zeroValue 34).run Tryd.prog W = .ok (.agg (strm Z0 (List.replicate 64 0) 0).toArray) W := by kernel_rfl
theorem build_h0 (W : World) : (Instr.build 30 #[(0, .int .u32 1779033703), (1, .int .u32 3144134277), (2, .int .u32 1013904242), (3, .int .u32 2773480762), (4, .int .u32 1359893119), (5, .int .u32 2600822924), (6, .int .u32 528734635), (7, .int .u32 1541459225)]).run Tryd.prog W = .ok (.agg (H0.list.map W32).toArray) W := by kernel_rfl
theorem build_strm (W : World) : (Instr.build 34 #[(0, .agg (H0.list.map W32).toArray)]).run Tryd.prog W = .ok (.agg (strm H0 (List.replicate 64 0) 0).toArray) W := by kernel_rfl
set_option maxRecDepth 100000 in
set_option maxHeartbeats 1000000 in
theorem begin_any (w : World) : Calls Tryd.prog 14 #[] w fun e w' => e = .returned (.agg (strm H0 (List.replicate 64 0) 0).toArray) ∧ Below w.heap.size w w' := by
  have h1 := build_h0
  have h2 := build_strm
  have h3 := zero_strm
  have k1 : (strm H0 (List.replicate 64 0) 0).length = 73 := strm_length _ (by simp) _
  have k2 : (strm Z0 (List.replicate 64 0) 0).length = 73 := strm_length _ (by simp) _
  have k3 : ∀ u ∈ strm H0 (List.replicate 64 0) 0, u.oneCell' = true := by
    intro u hu
    simp only [strm, List.mem_append, List.mem_map, List.mem_singleton] at hu
    rcases hu with (⟨x, _, rfl⟩ | ⟨x, _, rfl⟩) | rfl <;> rfl
  generalize strm H0 (List.replicate 64 0) 0 = S at *
  generalize strm Z0 (List.replicate 64 0) 0 = Z at *
  generalize H0.list.map W32 = L at *
  have hz : (Tryd.prog.info? 34).map (·.size) = some S.length := by rw [k1]; exact size_strm
  have hl : S.length = Z.length := by rw [k1, k2]
  have hz := hide hz
  have hl := hide hl
  have k3 := hide k3
  clear k1 k2
  go_enter Tryd.func14, Tryd.ntmps14
  go_wp2_with (with_reducible refine hold_build ?_)
  refine hide ?_
  refine val_at rfl (.agg L.toArray) (by simp [execOp, Act.eval, h1]) ?_
  go_wp2_with (with_reducible refine hold_build ?_)
  refine hide ?_
  refine val_at rfl (.agg S.toArray) (by simp [execOp, Act.eval, h2]) ?_
  go_wp2_with (with_reducible refine hold_store ?_)
  refine hide ?_
  refine store_all 34 _ _ 34 _ Z S (.agg S.toArray) hz.out (Box.new w _ _) (by rfl) (by rfl) rfl hl.out k3.out ?_
  intro w2 x2 hg hs
  go_wp2_with fail
  exact bodyPost_ret (run_results_cell rfl rfl isAgg_strm hz.out x2) rfl ⟨rfl, ((Below.refl _ _).alloc (Nat.le_refl _) _).grown hg (by simp) (fun k hk => by cases hk; exact Nat.le_refl _)⟩
end Go.Proofs.YtalicdpocgomkaaDoor
