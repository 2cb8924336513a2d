/- What the listed variables give the walks. -/
import Derived.Test.YtfagjaabladgpaaDoorBaseBH
import Derived.Test.YtfagjaabladgpaaDoorRows
import Derived.ProofKit
import Derived.LaidMore
import Derived.OpenShut
import Derived.Stop.Joined
set_option linter.unusedVariables false
set_option linter.unusedSimpArgs false
namespace Go.Dx
open Go.RowKit Go.WideShapes Go.ChangeShapes Go.Deep
theorem trod_vals {P : Program} {H : Type} {enc : TypeId × Value → H} {w : World} {t e n : TypeId} {k : IntKind} {base : Nat} {spare : Nat → Bool} {held : Bool} {fuel : Nat} {cs : List Value} {x : DataW H × List MemPlace} (ht : P.underlying t = some (.array n e)) (he : P.underlying e = some (.int k)) (hc : P.cellsOf e = 1) (hct : P.cellsOf t = n)
  (h : DataW.trod enc P w base spare held fuel t cs = some x) (zs : List Int) (hx : x.1 = .agg (zs.map fun z => .lit (.int k z))) : cs = zs.map (Value.int k) := by
 obtain ⟨xs, m, _, rfl, hl, hxl, hi⟩ := DataW.trod_array ht h
 rw [hct] at hl
 simp only [DataW.agg.injEq] at hx
 have hzl : zs.length = n := by have := congrArg List.length hx; simp at this; omega
 apply List.ext_getElem?
 intro i
 by_cases hin : i < n
 ·have h1 := hi i hin
  rw [hc, Nat.mul_one, List.getElem?_eq_getElem (by omega)] at h1
  obtain ⟨z, hz, h2, _⟩ := DataW.trod_int he h1
  have h3 := congrArg (·[i]?) hx
  simp only [List.getElem?_map] at h3
  rw [List.getElem?_eq_getElem (by omega), List.getElem?_eq_getElem (by omega), h2] at h3
  have h4 : z = zs[i] := by simpa using h3
  have h5 := congrArg (·[0]?) hz
  rw [List.getElem?_map, List.getElem?_eq_getElem (l := zs) (by omega), ← h4]
  simpa [List.getElem?_take, List.getElem?_drop] using h5
 ·rw [List.getElem?_eq_none (by omega), List.getElem?_eq_none (by rw [List.length_map]; omega)]
end Go.Dx
namespace Go.Proofs.YtfagjaabladgpaaDoor
open Go.RowKit Go.Dx Go.ChangeShapes Go.WideShapes
theorem gR : Tryd.prog.globalNamed "dactyl/dactylref02.constants" = some 1 := by kernel_rfl
theorem gP : Tryd.prog.globalNamed "dactyl/hash.constants" = some 0 := by kernel_rfl
theorem tR : (Tryd.prog.globals[1]?).map (·.type) = some 118 := by kernel_rfl
theorem tP : (Tryd.prog.globals[0]?).map (·.type) = some 118 := by kernel_rfl
def kInts : List Int := K256.map fun u => (u.toNat : Int)
theorem datR {H : Type} : (Rows.laid_dactyl_dactylref02_constants : DataW H) = .agg (kInts.map fun z => .lit (.int .u32 z)) := by kernel_rfl
theorem datP {H : Type} : (Rows.laid_dactyl_hash_constants : DataW H) = .agg (kInts.map fun z => .lit (.int .u32 z)) := by kernel_rfl
theorem kInts_at {cs : List Value} (h : cs = kInts.map (Value.int .u32)) (j : Nat) (u : UInt32) (hu : K256[j]? = some u) : cs[j]? = some (W32 u) := by
 rw [h, kInts, List.map_map, List.getElem?_map, hu]; rfl
def laid1 : List (String × DataW Unit) := [("dactyl/hash.constants", Rows.laid_dactyl_hash_constants)]
def laid2 : List (String × DataW Unit) := [("dactyl/dactylref02.constants", Rows.laid_dactyl_dactylref02_constants), ("dactyl/hash.constants", Rows.laid_dactyl_hash_constants)]
theorem of_laid1 {W : World} (h : laidMetH Tryd.prog laid1 W) : Laid W := by
 rw [MakeChecks.laidMetH_plain _ _ _ (by kernel_rfl)] at h
 obtain ⟨ps, ⟨g0, t0, cs0, f0, p0, q0, hg0, ht0, hv0, hd0, _, _⟩, _, _⟩ := h
 obtain rfl := Option.some.inj (gP.symm.trans hg0)
 obtain rfl := Option.some.inj (tP.symm.trans ht0)
 have hcs := trod_vals Tryd.underlying118 Tryd.underlying64 (by kernel_rfl) (by kernel_rfl) hd0 kInts datP
 exact ⟨fun j u hu => by rw [World.var?_cell hg0 hv0 j]; rw [← Array.getElem?_toList]; exact kInts_at hcs j u hu⟩
theorem of_laid2 {W : World} (h : laidMetH Tryd.prog laid2 W) : Laid W ∧ LaidR W := by
 rw [MakeChecks.laidMetH_plain _ _ _ (by kernel_rfl)] at h
 obtain ⟨ps, ⟨g0, t0, cs0, f0, p0, q0, hg0, ht0, hv0, hd0, ⟨g1, t1, cs1, f1, p1, q1, hg1, ht1, hv1, hd1, _, _⟩, _⟩, _, _⟩ := h
 obtain rfl := Option.some.inj (gR.symm.trans hg0)
 obtain rfl := Option.some.inj (tR.symm.trans ht0)
 obtain rfl := Option.some.inj (gP.symm.trans hg1)
 obtain rfl := Option.some.inj (tP.symm.trans ht1)
 have hcs0 := trod_vals Tryd.underlying118 Tryd.underlying64 (by kernel_rfl) (by kernel_rfl) hd0 kInts datR
 have hcs1 := trod_vals Tryd.underlying118 Tryd.underlying64 (by kernel_rfl) (by kernel_rfl) hd1 kInts datP
 exact ⟨⟨fun j u hu => by rw [World.var?_cell hg1 hv1 j]; rw [← Array.getElem?_toList]; exact kInts_at hcs1 j u hu⟩, ⟨fun j u hu => by rw [World.var?_cell hg0 hv0 j]; rw [← Array.getElem?_toList]; exact kInts_at hcs0 j u hu⟩⟩
theorem door_met1 (os : Os) (args : Array Value) : laidMetH Tryd.prog laid1 ((World.doorLaid Tryd.prog 4000 os).forCall (fun _ _ => 0) ⟨#[], args, []⟩).memory :=
 laidMetH_of_parts3 (fuel := 8) (laidMet_of_run' 8 (by kernel_rfl) (by kernel_rfl)) (by kernel_rfl) (by kernel_rfl)
theorem door_met2 (os : Os) (args : Array Value) : laidMetH Tryd.prog laid2 ((World.doorLaid Tryd.prog 4000 os).forCall (fun _ _ => 0) ⟨#[], args, []⟩).memory :=
 laidMetH_of_parts3 (fuel := 8) (laidMet_of_run' 8 (by kernel_rfl) (by kernel_rfl)) (by kernel_rfl) (by kernel_rfl)
end Go.Proofs.YtfagjaabladgpaaDoor
