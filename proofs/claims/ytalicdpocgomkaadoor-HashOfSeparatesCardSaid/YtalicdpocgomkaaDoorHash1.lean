/- Words of 32 bits: what the model computes, as UInt32. No program. -/
import Derived.Test.YtalicdpocgomkaaDoorOps
import Derived.Laws.BitsAllLaws
import Derived.IntWalk
namespace Go.Dx
open Go.RowKit

/-- a word as a cell -/
abbrev W32 (x : UInt32) : Value := .int .u32 (x.toNat : Int)
theorem w_lt (x : UInt32) : x.toNat < 4294967296 := UInt32.toNat_lt x
theorem w_add (x y : UInt32) : IntKind.u32.wrap ((x.toNat : Int) + (y.toNat : Int)) = ((x + y).toNat : Int) := by
  rw [IntKind.wrap_u32', UInt32.toNat_add]; omega
theorem w_xor (x y : UInt32) : bits .xor .u32 (x.toNat : Int) (y.toNat : Int) = ((x ^^^ y).toNat : Int) := by
  rw [u32_xor_nat _ _ (w_lt x) (w_lt y), UInt32.toNat_xor]
theorem w_and (x y : UInt32) : bits .and .u32 (x.toNat : Int) (y.toNat : Int) = ((x &&& y).toNat : Int) := by
  rw [u32_and_nat _ _ (w_lt x) (w_lt y), UInt32.toNat_and]
theorem w_or (x y : UInt32) : bits .or .u32 (x.toNat : Int) (y.toNat : Int) = ((x ||| y).toNat : Int) := by
  rw [u32_or_nat _ _ (w_lt x) (w_lt y), UInt32.toNat_or]
theorem w_all : (4294967295 : Int) = (((-1 : UInt32)).toNat : Int) := by decide
theorem w_not (x : UInt32) : bits .xor .u32 4294967295 (x.toNat : Int) = ((x ^^^ (-1)).toNat : Int) := by
  rw [w_all, w_xor, UInt32.xor_comm]
theorem w_not' (x : UInt32) : bits .xor .u32 (x.toNat : Int) 4294967295 = ((x ^^^ (-1)).toNat : Int) := by
  rw [w_all, w_xor]
/-- a word shifted right -/
def shr (x : UInt32) (n : Nat) : UInt32 := UInt32.ofNat (x.toNat / 2 ^ n)
def shl (x : UInt32) (n : Nat) : UInt32 := UInt32.ofNat (x.toNat * 2 ^ n)
theorem shr_toNat (x : UInt32) (n : Nat) : (shr x n).toNat = x.toNat / 2 ^ n := by
  unfold shr
  rw [UInt32.toNat_ofNat']
  exact Nat.mod_eq_of_lt (Nat.lt_of_le_of_lt (Nat.div_le_self _ _) (w_lt x))
theorem w_shr (x : UInt32) (n : Nat) : (x.toNat : Int) / 2 ^ n = ((shr x n).toNat : Int) := by rw [shr_toNat]; simp
theorem w_shl (x : UInt32) (n : Nat) : IntKind.u32.wrap ((x.toNat : Int) * 2 ^ n) = ((shl x n).toNat : Int) := by
  unfold shl
  rw [IntKind.wrap_u32', UInt32.toNat_ofNat']
  have e : ((x.toNat : Int) * 2 ^ n) = ((x.toNat * 2 ^ n : Nat) : Int) := by simp
  rw [e]
  omega
theorem w_shl' (x : UInt32) (n : Nat) : (x.toNat : Int) * 2 ^ n % 4294967296 = ((shl x n).toNat : Int) := by rw [← w_shl, IntKind.wrap_u32']
/-- a word turned right -/
def ror (x : UInt32) (n : Nat) : UInt32 := shl x (32 - n) ||| shr x n
def mix3 (x : UInt32) (i j k : Nat) : UInt32 := ror x i ^^^ ror x j ^^^ ror x k
theorem val_w {a : Int} {x : UInt32} (h : a = (x.toNat : Int)) : Value.int .u32 a = W32 x := by rw [h]
theorem ret_w {a : Int} {x : UInt32} (h : a = (x.toNat : Int)) : Ending.returned (.int .u32 a) = .returned (W32 x) := by rw [h]
end Go.Dx
