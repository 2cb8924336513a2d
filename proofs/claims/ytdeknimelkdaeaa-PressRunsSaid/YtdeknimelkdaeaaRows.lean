/-
  No cell of these rows narrows 'for every input' (looked for: loops, veiled, ifaces, maps, wideKeys, modest, calm, conditions, laid).
  DERIVED. THE GIVEN ROWS OF THIS SEAT. 5 by the template 'for every input the law returns true; each argument reads behind the call as it read before'; 0 by the template 'total and deterministic' (their statements: YtdeknimelkdaeaaTotals.lean).
  GIVEN WITH THE SEED: the statements are not yours to turn. If you find one false, say at which input.
  Laid BY PROGRAM, IN A SANDBOX (cutbox-rows.mjs): the forced cells as the released guide's own fill.sh prints them over the translation 5f7712d45600ab24… (all of the seat's roots in one cut). By AI agents, Wed Nov 11 2026. No macro, syntax, notation, axiom, sorry.
-/
import Derived.Test.YtdeknimelkdaeaaChecked
import GoSem.Claim
import GoSem.ClaimJoined
import GoSem.ClaimMapViews
import Derived.JoinedTies
import Derived.KernelRfl
namespace Go.Proofs.Ytdeknimelkdaeaa
/- THE CELL 'sum', in the pinned program and in every row, IS THE sha256 OF THE DUMP (.gsa) THAT YtdeknimelkdaeaaProg.lean LOADS. Nothing in Lean hashes anything: it is a label: what it is worth is what the hold of that sum in a sandbox is worth. -/
noncomputable def Try.pinned : Pinned := { name := "ytdeknimelkdaeaa", sum := "5f7712d45600ab24989e0267e0e08e397650f52ee0934c89558faef4c2eb3522", checked := Try.checked }
namespace Rows
def none {H : Type} : Left H := { results := [], args := [] }

/-- 'dactyllaw35.PressGood': WHATEVER THE INPUT: true; the input reads as it did. -/
def pressGoodSpec : ChangeSpec := { name := "pressGood", fn := fun _ => fun
  | [d1, d2, d3, d4, d5] => { results := [.lit (.bool true)], args := [d1, d2, d3, d4, d5] }
  | _ => none }
def pressGoodRow : OpenClaim := { program := "ytdeknimelkdaeaa", sum := "5f7712d45600ab24989e0267e0e08e397650f52ee0934c89558faef4c2eb3522", func := "dactyl/dactyllaw35.PressGood", spec := "pressGood", unfollowed := true, recurses := true, apart := false }
def PressGoodSaid : Prop := pressGoodRow.holds Try.pinned (OpenSpec.ofChange pressGoodSpec)

/-- ITS FALSE NEIGHBOUR: 'it returns false'. Refute it at one input. -/
def pressGoodWrong : ChangeSpec := { name := "pressGood", fn := fun _ => fun
  | [d1, d2, d3, d4, d5] => { results := [.lit (.bool false)], args := [d1, d2, d3, d4, d5] }
  | _ => none }
def PressGoodWrongFalsely : Prop := pressGoodRow.holds Try.pinned (OpenSpec.ofChange pressGoodWrong)

/-- 'dactyllaw35.PressClean': WHATEVER THE INPUT: true; the input reads as it did. -/
def pressCleanSpec : ChangeSpec := { name := "pressClean", fn := fun _ => fun
  | [d1, d2] => { results := [.lit (.bool true)], args := [d1, d2] }
  | _ => none }
def pressCleanRow : OpenClaim := { program := "ytdeknimelkdaeaa", sum := "5f7712d45600ab24989e0267e0e08e397650f52ee0934c89558faef4c2eb3522", func := "dactyl/dactyllaw35.PressClean", spec := "pressClean", unfollowed := true, recurses := true, apart := false }
def PressCleanSaid : Prop := pressCleanRow.holds Try.pinned (OpenSpec.ofChange pressCleanSpec)

/-- ITS FALSE NEIGHBOUR: 'it returns false'. Refute it at one input. -/
def pressCleanWrong : ChangeSpec := { name := "pressClean", fn := fun _ => fun
  | [d1, d2] => { results := [.lit (.bool false)], args := [d1, d2] }
  | _ => none }
def PressCleanWrongFalsely : Prop := pressCleanRow.holds Try.pinned (OpenSpec.ofChange pressCleanWrong)

/-- 'dactyllaw35.PressRuns': WHATEVER THE INPUT: true; the input reads as it did. -/
def pressRunsSpec : ChangeSpec := { name := "pressRuns", fn := fun _ => fun
  | [d1, d2, d3, d4] => { results := [.lit (.bool true)], args := [d1, d2, d3, d4] }
  | _ => none }
def pressRunsRow : OpenClaim := { program := "ytdeknimelkdaeaa", sum := "5f7712d45600ab24989e0267e0e08e397650f52ee0934c89558faef4c2eb3522", func := "dactyl/dactyllaw35.PressRuns", spec := "pressRuns", unfollowed := true, recurses := true, apart := false }
def PressRunsSaid : Prop := pressRunsRow.holds Try.pinned (OpenSpec.ofChange pressRunsSpec)

/-- ITS FALSE NEIGHBOUR: 'it returns false'. Refute it at one input. -/
def pressRunsWrong : ChangeSpec := { name := "pressRuns", fn := fun _ => fun
  | [d1, d2, d3, d4] => { results := [.lit (.bool false)], args := [d1, d2, d3, d4] }
  | _ => none }
def PressRunsWrongFalsely : Prop := pressRunsRow.holds Try.pinned (OpenSpec.ofChange pressRunsWrong)

/-- 'dactyllaw35.PressFound': WHATEVER THE INPUT: true; the input reads as it did. -/
def pressFoundSpec : ChangeSpec := { name := "pressFound", fn := fun _ => fun
  | [d1, d2] => { results := [.lit (.bool true)], args := [d1, d2] }
  | _ => none }
def pressFoundRow : OpenClaim := { program := "ytdeknimelkdaeaa", sum := "5f7712d45600ab24989e0267e0e08e397650f52ee0934c89558faef4c2eb3522", func := "dactyl/dactyllaw35.PressFound", spec := "pressFound", unfollowed := true, recurses := true, apart := false }
def PressFoundSaid : Prop := pressFoundRow.holds Try.pinned (OpenSpec.ofChange pressFoundSpec)

/-- ITS FALSE NEIGHBOUR: 'it returns false'. Refute it at one input. -/
def pressFoundWrong : ChangeSpec := { name := "pressFound", fn := fun _ => fun
  | [d1, d2] => { results := [.lit (.bool false)], args := [d1, d2] }
  | _ => none }
def PressFoundWrongFalsely : Prop := pressFoundRow.holds Try.pinned (OpenSpec.ofChange pressFoundWrong)

/-- 'dactyllaw35.PressTouches': WHATEVER THE INPUT: true; the input reads as it did. -/
def pressTouchesSpec : ChangeSpec := { name := "pressTouches", fn := fun _ => fun
  | [d1, d2, d3] => { results := [.lit (.bool true)], args := [d1, d2, d3] }
  | _ => none }
def pressTouchesRow : OpenClaim := { program := "ytdeknimelkdaeaa", sum := "5f7712d45600ab24989e0267e0e08e397650f52ee0934c89558faef4c2eb3522", func := "dactyl/dactyllaw35.PressTouches", spec := "pressTouches", unfollowed := true, recurses := true, apart := false }
def PressTouchesSaid : Prop := pressTouchesRow.holds Try.pinned (OpenSpec.ofChange pressTouchesSpec)

/-- ITS FALSE NEIGHBOUR: 'it returns false'. Refute it at one input. -/
def pressTouchesWrong : ChangeSpec := { name := "pressTouches", fn := fun _ => fun
  | [d1, d2, d3] => { results := [.lit (.bool false)], args := [d1, d2, d3] }
  | _ => none }
def PressTouchesWrongFalsely : Prop := pressTouchesRow.holds Try.pinned (OpenSpec.ofChange pressTouchesWrong)

/- THE SECOND FORM. 'bulk': how many values and letters a reading holds, each counted each time it is reached (what is shared counts as often as it is met; a slice's spare places count too). A statement '..UptoSaid' is the law's where the arguments, and the package variables that the reading takes, are together of bulk at most 1048576: NARROWER than '..Said'. Prove '..Said' where nothing that the law and all that it calls make is longer than what came in: it says more and counts as full. Else prove '..UptoSaid'. A law counts once. -/
mutual
def uptoBulk {H : Type} : DataW H → Nat
  | .lit (.string bytes) => bytes.length + 1
  | .lit _ => 1
  | .nil => 1
  | .ptr d => uptoBulk d + 1
  | .slice elems spare => uptoBulkAll elems + uptoBulkAll spare + 1
  | .agg parts => uptoBulkAll parts + 1
  | .iface _ d => uptoBulk d + 1
  | .map entries => uptoBulkEntries entries + 1
  | .held _ => 1
def uptoBulkAll {H : Type} : List (DataW H) → Nat
  | [] => 0
  | d :: r => uptoBulk d + uptoBulkAll r
def uptoBulkEntries {H : Type} : List (Lit × DataW H) → Nat
  | [] => 0
  | x :: r => uptoBulkEntry x + uptoBulkEntries r
def uptoBulkEntry {H : Type} : Lit × DataW H → Nat
  | (.string bytes, d) => bytes.length + uptoBulk d + 1
  | (_, d) => uptoBulk d + 1
 end
def uptoSmall : (H : Type) → List (DataW H) → Bool := fun _ ds => decide (uptoBulkAll ds ≤ 1048576)
def OpenSpec.upto (s : _root_.Go.ChangeSpec) : _root_.Go.OpenSpec := { _root_.Go.OpenSpec.ofChange s with cond := some uptoSmall }

/-- 'dactyllaw35.PressGood', WHERE WHAT IT READS IS OF BULK AT MOST 1048576: true; the input reads as it did. -/
def pressGoodUptoRow : OpenClaim := { program := "ytdeknimelkdaeaa", sum := "5f7712d45600ab24989e0267e0e08e397650f52ee0934c89558faef4c2eb3522", func := "dactyl/dactyllaw35.PressGood", spec := "pressGood", unfollowed := true, recurses := true, apart := false, narrowed := true }
def PressGoodUptoSaid : Prop := pressGoodUptoRow.holds Try.pinned (OpenSpec.upto pressGoodSpec)

/-- 'dactyllaw35.PressClean', WHERE WHAT IT READS IS OF BULK AT MOST 1048576: true; the input reads as it did. -/
def pressCleanUptoRow : OpenClaim := { program := "ytdeknimelkdaeaa", sum := "5f7712d45600ab24989e0267e0e08e397650f52ee0934c89558faef4c2eb3522", func := "dactyl/dactyllaw35.PressClean", spec := "pressClean", unfollowed := true, recurses := true, apart := false, narrowed := true }
def PressCleanUptoSaid : Prop := pressCleanUptoRow.holds Try.pinned (OpenSpec.upto pressCleanSpec)

/-- 'dactyllaw35.PressRuns', WHERE WHAT IT READS IS OF BULK AT MOST 1048576: true; the input reads as it did. -/
def pressRunsUptoRow : OpenClaim := { program := "ytdeknimelkdaeaa", sum := "5f7712d45600ab24989e0267e0e08e397650f52ee0934c89558faef4c2eb3522", func := "dactyl/dactyllaw35.PressRuns", spec := "pressRuns", unfollowed := true, recurses := true, apart := false, narrowed := true }
def PressRunsUptoSaid : Prop := pressRunsUptoRow.holds Try.pinned (OpenSpec.upto pressRunsSpec)

/-- 'dactyllaw35.PressFound', WHERE WHAT IT READS IS OF BULK AT MOST 1048576: true; the input reads as it did. -/
def pressFoundUptoRow : OpenClaim := { program := "ytdeknimelkdaeaa", sum := "5f7712d45600ab24989e0267e0e08e397650f52ee0934c89558faef4c2eb3522", func := "dactyl/dactyllaw35.PressFound", spec := "pressFound", unfollowed := true, recurses := true, apart := false, narrowed := true }
def PressFoundUptoSaid : Prop := pressFoundUptoRow.holds Try.pinned (OpenSpec.upto pressFoundSpec)

/-- 'dactyllaw35.PressTouches', WHERE WHAT IT READS IS OF BULK AT MOST 1048576: true; the input reads as it did. -/
def pressTouchesUptoRow : OpenClaim := { program := "ytdeknimelkdaeaa", sum := "5f7712d45600ab24989e0267e0e08e397650f52ee0934c89558faef4c2eb3522", func := "dactyl/dactyllaw35.PressTouches", spec := "pressTouches", unfollowed := true, recurses := true, apart := false, narrowed := true }
def PressTouchesUptoSaid : Prop := pressTouchesUptoRow.holds Try.pinned (OpenSpec.upto pressTouchesSpec)

end Rows
end Go.Proofs.Ytdeknimelkdaeaa
