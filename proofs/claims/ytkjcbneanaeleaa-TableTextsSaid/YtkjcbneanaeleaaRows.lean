/-
  No cell of these rows narrows 'for every input' (looked for: loops, veiled, ifaces, maps, wideKeys, modest, calm, conditions, laid).
  DERIVED. THE GIVEN ROWS OF THIS SEAT. 5 by the template 'for every input the law returns true; each argument reads behind the call as it read before'; 0 by the template 'total and deterministic' (their statements: YtkjcbneanaeleaaTotals.lean).
  GIVEN WITH THE SEED: the statements are not yours to turn. If you find one false, say at which input.
  Laid BY PROGRAM, IN A SANDBOX (cutbox-rows.mjs): the forced cells as the released guide's own fill.sh prints them over the translation d2dce275b2750237… (all of the seat's roots in one cut). By AI agents, Wed Nov 11 2026. No macro, syntax, notation, axiom, sorry.
-/
import Derived.Test.YtkjcbneanaeleaaChecked
import GoSem.Claim
import GoSem.ClaimJoined
import GoSem.ClaimMapViews
import Derived.JoinedTies
import Derived.KernelRfl
namespace Go.Proofs.Ytkjcbneanaeleaa
/- THE CELL 'sum', in the pinned program and in every row, IS THE sha256 OF THE DUMP (.gsa) THAT YtkjcbneanaeleaaProg.lean LOADS. Nothing in Lean hashes anything: it is a label: what it is worth is what the hold of that sum in a sandbox is worth. -/
noncomputable def Try.pinned : Pinned := { name := "ytkjcbneanaeleaa", sum := "d2dce275b2750237681d0c9b05ba65e7a4697b9907e4503cccb9a6be1ed2e2cd", checked := Try.checked }
namespace Rows
def none {H : Type} : Left H := { results := [], args := [] }

/-- 'dactyllaw06.TableValid': WHATEVER THE INPUT: true; the input reads as it did. -/
def tableValidSpec : ChangeSpec := { name := "tableValid", fn := fun _ => fun
  | [d1, d2, d3, d4] => { results := [.lit (.bool true)], args := [d1, d2, d3, d4] }
  | _ => none }
def tableValidRow : OpenClaim := { program := "ytkjcbneanaeleaa", sum := "d2dce275b2750237681d0c9b05ba65e7a4697b9907e4503cccb9a6be1ed2e2cd", func := "dactyl/dactyllaw06.TableValid", spec := "tableValid", unfollowed := true, recurses := true, plainKeys := false, apart := false }
def TableValidSaid : Prop := tableValidRow.holds Try.pinned (OpenSpec.ofChange tableValidSpec)

/-- ITS FALSE NEIGHBOUR: 'it returns false'. Refute it at one input. -/
def tableValidWrong : ChangeSpec := { name := "tableValid", fn := fun _ => fun
  | [d1, d2, d3, d4] => { results := [.lit (.bool false)], args := [d1, d2, d3, d4] }
  | _ => none }
def TableValidWrongFalsely : Prop := tableValidRow.holds Try.pinned (OpenSpec.ofChange tableValidWrong)

/-- 'dactyllaw06.TableSteps': WHATEVER THE INPUT: true; the input reads as it did. -/
def tableStepsSpec : ChangeSpec := { name := "tableSteps", fn := fun _ => fun
  | [d1, d2, d3, d4, d5, d6, d7, d8, d9] => { results := [.lit (.bool true)], args := [d1, d2, d3, d4, d5, d6, d7, d8, d9] }
  | _ => none }
def tableStepsRow : OpenClaim := { program := "ytkjcbneanaeleaa", sum := "d2dce275b2750237681d0c9b05ba65e7a4697b9907e4503cccb9a6be1ed2e2cd", func := "dactyl/dactyllaw06.TableSteps", spec := "tableSteps", unfollowed := true, recurses := true, plainKeys := false, apart := false }
def TableStepsSaid : Prop := tableStepsRow.holds Try.pinned (OpenSpec.ofChange tableStepsSpec)

/-- ITS FALSE NEIGHBOUR: 'it returns false'. Refute it at one input. -/
def tableStepsWrong : ChangeSpec := { name := "tableSteps", fn := fun _ => fun
  | [d1, d2, d3, d4, d5, d6, d7, d8, d9] => { results := [.lit (.bool false)], args := [d1, d2, d3, d4, d5, d6, d7, d8, d9] }
  | _ => none }
def TableStepsWrongFalsely : Prop := tableStepsRow.holds Try.pinned (OpenSpec.ofChange tableStepsWrong)

/-- 'dactyllaw06.TableAlways': WHATEVER THE INPUT: true; the input reads as it did. -/
def tableAlwaysSpec : ChangeSpec := { name := "tableAlways", fn := fun _ => fun
  | [d1, d2, d3, d4] => { results := [.lit (.bool true)], args := [d1, d2, d3, d4] }
  | _ => none }
def tableAlwaysRow : OpenClaim := { program := "ytkjcbneanaeleaa", sum := "d2dce275b2750237681d0c9b05ba65e7a4697b9907e4503cccb9a6be1ed2e2cd", func := "dactyl/dactyllaw06.TableAlways", spec := "tableAlways", unfollowed := true, recurses := true, plainKeys := false, apart := false }
def TableAlwaysSaid : Prop := tableAlwaysRow.holds Try.pinned (OpenSpec.ofChange tableAlwaysSpec)

/-- ITS FALSE NEIGHBOUR: 'it returns false'. Refute it at one input. -/
def tableAlwaysWrong : ChangeSpec := { name := "tableAlways", fn := fun _ => fun
  | [d1, d2, d3, d4] => { results := [.lit (.bool false)], args := [d1, d2, d3, d4] }
  | _ => none }
def TableAlwaysWrongFalsely : Prop := tableAlwaysRow.holds Try.pinned (OpenSpec.ofChange tableAlwaysWrong)

/-- 'dactyllaw06.TableLocal': WHATEVER THE INPUT: true; the input reads as it did. -/
def tableLocalSpec : ChangeSpec := { name := "tableLocal", fn := fun _ => fun
  | [d1, d2, d3, d4, d5, d6] => { results := [.lit (.bool true)], args := [d1, d2, d3, d4, d5, d6] }
  | _ => none }
def tableLocalRow : OpenClaim := { program := "ytkjcbneanaeleaa", sum := "d2dce275b2750237681d0c9b05ba65e7a4697b9907e4503cccb9a6be1ed2e2cd", func := "dactyl/dactyllaw06.TableLocal", spec := "tableLocal", unfollowed := true, recurses := true, plainKeys := false, apart := false }
def TableLocalSaid : Prop := tableLocalRow.holds Try.pinned (OpenSpec.ofChange tableLocalSpec)

/-- ITS FALSE NEIGHBOUR: 'it returns false'. Refute it at one input. -/
def tableLocalWrong : ChangeSpec := { name := "tableLocal", fn := fun _ => fun
  | [d1, d2, d3, d4, d5, d6] => { results := [.lit (.bool false)], args := [d1, d2, d3, d4, d5, d6] }
  | _ => none }
def TableLocalWrongFalsely : Prop := tableLocalRow.holds Try.pinned (OpenSpec.ofChange tableLocalWrong)

/-- 'dactyllaw06.TableTexts': WHATEVER THE INPUT: true; the input reads as it did. -/
def tableTextsSpec : ChangeSpec := { name := "tableTexts", fn := fun _ => fun
  | [d1, d2, d3, d4, d5] => { results := [.lit (.bool true)], args := [d1, d2, d3, d4, d5] }
  | _ => none }
def tableTextsRow : OpenClaim := { program := "ytkjcbneanaeleaa", sum := "d2dce275b2750237681d0c9b05ba65e7a4697b9907e4503cccb9a6be1ed2e2cd", func := "dactyl/dactyllaw06.TableTexts", spec := "tableTexts", unfollowed := true, recurses := true, plainKeys := false, apart := false }
def TableTextsSaid : Prop := tableTextsRow.holds Try.pinned (OpenSpec.ofChange tableTextsSpec)

/-- ITS FALSE NEIGHBOUR: 'it returns false'. Refute it at one input. -/
def tableTextsWrong : ChangeSpec := { name := "tableTexts", fn := fun _ => fun
  | [d1, d2, d3, d4, d5] => { results := [.lit (.bool false)], args := [d1, d2, d3, d4, d5] }
  | _ => none }
def TableTextsWrongFalsely : Prop := tableTextsRow.holds Try.pinned (OpenSpec.ofChange tableTextsWrong)

/- THE SECOND FORM. 'bulk': how many values and letters a reading holds, each counted each time it is reached (what is shared counts as often as it is met; a slice's spare places count too). A statement '..UptoSaid' is the law's where the arguments, and the package variables that the reading takes, are together of bulk at most 1048576: NARROWER than '..Said'. Prove '..Said' where nothing that the law and all that it calls make is longer than what came in: it says more and counts as full. Else prove '..UptoSaid'. A law counts once. -/
mutual
def uptoBulk {H : Type} : DataW H → Nat
  | .lit (.string bytes) => bytes.length + 1
  | .lit _ => 1
  | .nil => 1
  | .ptr d => uptoBulk d + 1
  | .slice elems spare => uptoBulkAll elems + uptoBulkAll spare + 1
  | .agg parts => uptoBulkAll parts + 1
  | .iface _ d => uptoBulk d + 1
  | .map entries => uptoBulkEntries entries + 1
  | .held _ => 1
def uptoBulkAll {H : Type} : List (DataW H) → Nat
  | [] => 0
  | d :: r => uptoBulk d + uptoBulkAll r
def uptoBulkEntries {H : Type} : List (Lit × DataW H) → Nat
  | [] => 0
  | x :: r => uptoBulkEntry x + uptoBulkEntries r
def uptoBulkEntry {H : Type} : Lit × DataW H → Nat
  | (.string bytes, d) => bytes.length + uptoBulk d + 1
  | (_, d) => uptoBulk d + 1
 end
def uptoSmall : (H : Type) → List (DataW H) → Bool := fun _ ds => decide (uptoBulkAll ds ≤ 1048576)
def OpenSpec.upto (s : _root_.Go.ChangeSpec) : _root_.Go.OpenSpec := { _root_.Go.OpenSpec.ofChange s with cond := some uptoSmall }

/-- 'dactyllaw06.TableValid', WHERE WHAT IT READS IS OF BULK AT MOST 1048576: true; the input reads as it did. -/
def tableValidUptoRow : OpenClaim := { program := "ytkjcbneanaeleaa", sum := "d2dce275b2750237681d0c9b05ba65e7a4697b9907e4503cccb9a6be1ed2e2cd", func := "dactyl/dactyllaw06.TableValid", spec := "tableValid", unfollowed := true, recurses := true, plainKeys := false, apart := false, narrowed := true }
def TableValidUptoSaid : Prop := tableValidUptoRow.holds Try.pinned (OpenSpec.upto tableValidSpec)

/-- 'dactyllaw06.TableSteps', WHERE WHAT IT READS IS OF BULK AT MOST 1048576: true; the input reads as it did. -/
def tableStepsUptoRow : OpenClaim := { program := "ytkjcbneanaeleaa", sum := "d2dce275b2750237681d0c9b05ba65e7a4697b9907e4503cccb9a6be1ed2e2cd", func := "dactyl/dactyllaw06.TableSteps", spec := "tableSteps", unfollowed := true, recurses := true, plainKeys := false, apart := false, narrowed := true }
def TableStepsUptoSaid : Prop := tableStepsUptoRow.holds Try.pinned (OpenSpec.upto tableStepsSpec)

/-- 'dactyllaw06.TableAlways', WHERE WHAT IT READS IS OF BULK AT MOST 1048576: true; the input reads as it did. -/
def tableAlwaysUptoRow : OpenClaim := { program := "ytkjcbneanaeleaa", sum := "d2dce275b2750237681d0c9b05ba65e7a4697b9907e4503cccb9a6be1ed2e2cd", func := "dactyl/dactyllaw06.TableAlways", spec := "tableAlways", unfollowed := true, recurses := true, plainKeys := false, apart := false, narrowed := true }
def TableAlwaysUptoSaid : Prop := tableAlwaysUptoRow.holds Try.pinned (OpenSpec.upto tableAlwaysSpec)

/-- 'dactyllaw06.TableLocal', WHERE WHAT IT READS IS OF BULK AT MOST 1048576: true; the input reads as it did. -/
def tableLocalUptoRow : OpenClaim := { program := "ytkjcbneanaeleaa", sum := "d2dce275b2750237681d0c9b05ba65e7a4697b9907e4503cccb9a6be1ed2e2cd", func := "dactyl/dactyllaw06.TableLocal", spec := "tableLocal", unfollowed := true, recurses := true, plainKeys := false, apart := false, narrowed := true }
def TableLocalUptoSaid : Prop := tableLocalUptoRow.holds Try.pinned (OpenSpec.upto tableLocalSpec)

/-- 'dactyllaw06.TableTexts', WHERE WHAT IT READS IS OF BULK AT MOST 1048576: true; the input reads as it did. -/
def tableTextsUptoRow : OpenClaim := { program := "ytkjcbneanaeleaa", sum := "d2dce275b2750237681d0c9b05ba65e7a4697b9907e4503cccb9a6be1ed2e2cd", func := "dactyl/dactyllaw06.TableTexts", spec := "tableTexts", unfollowed := true, recurses := true, plainKeys := false, apart := false, narrowed := true }
def TableTextsUptoSaid : Prop := tableTextsUptoRow.holds Try.pinned (OpenSpec.upto tableTextsSpec)

end Rows
end Go.Proofs.Ytkjcbneanaeleaa
