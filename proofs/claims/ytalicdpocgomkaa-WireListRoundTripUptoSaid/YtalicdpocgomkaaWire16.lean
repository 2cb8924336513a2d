import Derived.Test.YtalicdpocgomkaaWire15
namespace Go.Proofs.Ytalicdpocgomkaa
open Go.RowKit Go.Dx

/-- a literal []byte, []int, []string that was just laid -/
theorem lit_b (w : World) (b : Nat) (hb : b = w.heap.size) (l : List UInt8) (L : Array Value) (hL : L = (l.map B8).toArray) (n : Nat) (hn : l.length = n) (hm : n ≤ maxLen) : Sl (w.alloc (.cells L 5)) 1 (some ⟨b, 0, none⟩) n n (l.map B8) := by
  subst hL hb; exact Sl.fresh w _ 1 n _ (by simp [hn]) hm
theorem lit_i (w : World) (b : Nat) (hb : b = w.heap.size) (l : List Int) (L : Array Value) (hL : L = (l.map I64).toArray) (n : Nat) (hn : l.length = n) (hm : n ≤ maxLen) : Sl (w.alloc (.cells L 3)) 1 (some ⟨b, 0, none⟩) n n (l.map I64) := by
  subst hL hb; exact Sl.fresh w _ 1 n _ (by simp [hn]) hm
theorem lit_s (w : World) (b : Nat) (hb : b = w.heap.size) (l : List ByteArray) (L : Array Value) (hL : L = (l.map Value.string).toArray) (n : Nat) (hn : l.length = n) (hm : n ≤ maxLen) : Sl (w.alloc (.cells L 9)) 1 (some ⟨b, 0, none⟩) n n (l.map Value.string) := by
  subst hL hb; exact Sl.fresh w _ 1 n _ (by simp [hn]) hm

theorem d1 : decInt [130, 1, 0, 9] = (256, 3, 0) := by decide +kernel
theorem d2 : decInt [130, 1] = (0, 0, 3) := by decide +kernel
theorem d3 : decInt [129, 0] = (0, 0, 2) := by decide +kernel
theorem d4 : (decBytes [129, 2, 97, 98, 7]) = (⟨#[97, 98]⟩, 4, 0) := by decide +kernel
theorem d5 : decSeq decInt [129, 2, 129, 1, 127] = ([1, -1], 5, 0) := by decide +kernel
theorem d6 : decSeq decBytes [129, 2, 128, 129, 1, 97, 5] = ([⟨#[]⟩, ⟨#[97]⟩], 6, 0) := by decide +kernel
theorem d7 : encInt (-257) = [125, 254, 255] := by decide +kernel
theorem d8 : encBytes [97, 98] = [129, 2, 97, 98] := by decide +kernel
theorem d9 : encInts [1, -1] = [129, 2, 129, 1, 127] := by decide +kernel
theorem d10 : encStrs [⟨#[]⟩, ⟨#[97]⟩] = [129, 2, 128, 129, 1, 97] := by decide +kernel
def dgl : List UInt8 := [1, 2, 0, 0, 0, 0, 0, 0, 0, 0, 0, 0, 0, 0, 0, 0]
theorem d11 : encInt (1 : Nat) ++ dgl = 129 :: 1 :: dgl := by decide +kernel
theorem d12 : decDigs (129 :: 1 :: dgl) = (1, dgl, 18, 0) := by decide +kernel
end Go.Proofs.Ytalicdpocgomkaa
