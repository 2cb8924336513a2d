/- A message that is hashed piece by piece: the state, the last block (with what stands behind its bytes) and the length, as functions of the message. No Go. -/
import Derived.Test.YtalicdpocgomkaaDoorHashP
namespace Go.Dx

/-- the whole blocks of a message, one after the other -/
def blocks (m : List UInt8) : Nat → St
  | 0 => H0
  | k + 1 => comp (blocks m k) ((m.drop (64 * k)).take 64)
theorem blocks_append (m t : List UInt8) : ∀ k, 64 * k ≤ m.length → blocks (m ++ t) k = blocks m k
  | 0, _ => rfl
  | k + 1, h => by
    have ih := blocks_append m t k (by omega)
    rw [blocks, blocks, ih, List.drop_append_of_le_length (by omega), List.take_append_of_le_length (by rw [List.length_drop]; omega)]
def putBlk (blk : List UInt8) (i : Nat) (t : List UInt8) : List UInt8 := blk.take i ++ t ++ blk.drop (i + t.length)
/-- the last whole block of a message, zeros ahead of the first -/
def stale (m : List UInt8) : List UInt8 := if m.length / 64 = 0 then List.replicate 64 0 else (m.drop (64 * (m.length / 64 - 1))).take 64
/-- the stream's block: the bytes behind the whole blocks, and behind them what stood there -/
def blkOf (m : List UInt8) : List UInt8 := m.drop (64 * (m.length / 64)) ++ (stale m).drop (m.length % 64)
def stOf (m : List UInt8) : St := blocks m (m.length / 64)
theorem stale_len (m : List UInt8) : (stale m).length = 64 := by
  unfold stale
  split
  · simp
  · rw [List.length_take, List.length_drop]; omega
theorem blkOf_len (m : List UInt8) : (blkOf m).length = 64 := by
  unfold blkOf
  rw [List.length_append, List.length_drop, List.length_drop, stale_len]; omega
theorem blkOf_nil : blkOf [] = List.replicate 64 0 := by decide
theorem stOf_nil : stOf [] = H0 := rfl
theorem tail_len (m : List UInt8) : (m.drop (64 * (m.length / 64))).length = m.length % 64 := by rw [List.length_drop]; omega
theorem put_list (M t D : List UInt8) : putBlk (M ++ D.drop M.length) M.length t = M ++ t ++ D.drop (M.length + t.length) := by
  unfold putBlk
  rw [List.take_left, List.drop_append, List.drop_eq_nil_of_le (by omega), List.nil_append, Nat.add_sub_cancel_left, List.drop_drop]
theorem put_eq (m t : List UInt8) : putBlk (blkOf m) (m.length % 64) t = m.drop (64 * (m.length / 64)) ++ t ++ (stale m).drop (m.length % 64 + t.length) := by
  have h := put_list (m.drop (64 * (m.length / 64))) t (stale m)
  rw [tail_len] at h
  exact h
theorem blkOf_part (m t : List UInt8) (h : m.length % 64 + t.length < 64) : putBlk (blkOf m) (m.length % 64) t = blkOf (m ++ t) ∧ stOf (m ++ t) = stOf m := by
  have e1 : (m ++ t).length / 64 = m.length / 64 := by rw [List.length_append]; omega
  have e2 : (m ++ t).length % 64 = m.length % 64 + t.length := by rw [List.length_append]; omega
  have e3 : stale (m ++ t) = stale m := by
    unfold stale
    rw [e1]
    split
    · rfl
    · rw [List.drop_append_of_le_length (by omega), List.take_append_of_le_length (by rw [List.length_drop]; omega)]
  refine ⟨?_, ?_⟩
  · rw [put_eq]
    unfold blkOf
    rw [e1, e2, e3, List.drop_append_of_le_length (by omega)]
  · unfold stOf
    rw [e1, blocks_append _ _ _ (by omega)]
theorem blkOf_full (m t : List UInt8) (h : m.length % 64 + t.length = 64) : putBlk (blkOf m) (m.length % 64) t = blkOf (m ++ t) ∧ stOf (m ++ t) = comp (stOf m) (blkOf (m ++ t)) := by
  have e1 : (m ++ t).length / 64 = m.length / 64 + 1 := by rw [List.length_append]; omega
  have e2 : (m ++ t).length % 64 = 0 := by rw [List.length_append]; omega
  have e3 : stale (m ++ t) = m.drop (64 * (m.length / 64)) ++ t := by
    unfold stale
    rw [e1, if_neg (by omega), Nat.add_sub_cancel, List.drop_append_of_le_length (by omega), List.take_of_length_le (by rw [List.length_append, tail_len]; omega)]
  have e4 : blkOf (m ++ t) = m.drop (64 * (m.length / 64)) ++ t := by
    unfold blkOf
    rw [e1, e2, e3, List.drop_eq_nil_of_le (by rw [List.length_append]; omega), List.nil_append, List.drop_zero]
  refine ⟨?_, ?_⟩
  · rw [put_eq, e4, (List.drop_eq_nil_of_le (by rw [stale_len]; omega) : (stale m).drop (m.length % 64 + t.length) = []), List.append_nil]
  · rw [e4]
    unfold stOf
    rw [e1, blocks, blocks_append _ _ _ (by omega), List.drop_append_of_le_length (by omega), List.take_of_length_le (by rw [List.length_append, tail_len]; omega)]
end Go.Dx
