import Derived.Test.YtalicdpocgomkaaTypes3
import Derived.OpenShut
namespace Go.Proofs.Ytalicdpocgomkaa
open Go.RowKit Go.Dx Go.WideShapes Go.ChangeShapes

/-- a slice of integers that came in -/
def IsRow (k : IntKind) (w : World) (a : Option Addr) (len cap : Nat) (zs : List Int) : Prop :=
  (a = none ∧ len = 0 ∧ cap = 0 ∧ zs = []) ∨
  ∃ x, a = some x ∧ len ≤ cap ∧ cap ≤ maxLen ∧ zs.length = cap ∧ (∀ i, i < zs.length → w.cell? (x.add i) = some (.int k (zs.getD i 0))) ∧ ∀ n ∈ zs, (Lit.int k n).wf = true

theorem row_sl {k : IntKind} {w : World} {a : Option Addr} {len cap : Nat} {zs : List Int} (h : IsRow k w a len cap zs) :
    Sl w 1 a len cap ((zs.take len).map (Value.int k)) ∧ ∀ n ∈ zs.take len, (Lit.int k n).wf = true := by
  rcases h with ⟨rfl, rfl, rfl, rfl⟩ | ⟨x, rfl, hl, hm, hz, hcell, hwz⟩
  · exact ⟨Sl.empty w 1, by simp⟩
  · refine ⟨⟨by simp; omega, hl, hm, (fun h => by cases h), ?_⟩, fun n hn => hwz n (List.mem_of_mem_take hn)⟩
    intro p hp j u hj
    cases hp
    rw [List.getElem?_map, List.getElem?_take] at hj
    by_cases hlt : j < len
    · rw [if_pos hlt] at hj
      have hjz : j < zs.length := by omega
      rw [List.getElem?_eq_getElem hjz] at hj
      simp at hj
      rw [hcell j hjz, ← hj, List.getD_eq_getElem?_getD, List.getElem?_eq_getElem hjz]
      rfl
    · rw [if_neg hlt] at hj; cases hj

theorem row_b {w : World} {a : Option Addr} {len cap : Nat} {zs : List Int} (h : IsRow .u8 w a len cap zs) : ∃ l : List UInt8, Sl w 1 a len cap (l.map B8) := by
  obtain ⟨h1, h2⟩ := row_sl h
  refine ⟨(zs.take len).map fun n => UInt8.ofNat n.toNat, ?_⟩
  have e : ((zs.take len).map fun n => UInt8.ofNat n.toNat).map B8 = (zs.take len).map (Value.int .u8) := by
    rw [List.map_map]
    apply List.map_congr_left
    intro n hn
    have hw := h2 n hn
    have hb : 0 ≤ n ∧ n ≤ 255 := bounds_u8 hw
    show Value.int .u8 ((UInt8.ofNat n.toNat).toNat : Int) = _
    rw [UInt8.toNat_ofNat']
    congr 1
    omega
  rw [e]
  exact h1
theorem wf_bounds {n : Int} (h : (Lit.int .i64 n).wf = true) : -9223372036854775808 ≤ n ∧ n ≤ 9223372036854775807 := bounds_i64 h
theorem row_i {w : World} {a : Option Addr} {len cap : Nat} {zs : List Int} (h : IsRow .i64 w a len cap zs) : ∃ l : List Int, Sl w 1 a len cap (l.map I64) ∧ ∀ n ∈ l, -9223372036854775808 ≤ n ∧ n ≤ 9223372036854775807 :=
  ⟨zs.take len, (row_sl h).1, fun n hn => wf_bounds ((row_sl h).2 n hn)⟩
end Go.Proofs.Ytalicdpocgomkaa
