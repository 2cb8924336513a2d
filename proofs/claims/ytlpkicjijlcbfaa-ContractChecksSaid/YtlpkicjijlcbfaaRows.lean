/-
  No cell of these rows narrows 'for every input' (looked for: loops, veiled, ifaces, maps, wideKeys, modest, calm, conditions, laid).
  DERIVED. THE GIVEN ROWS OF THIS SEAT. 6 by the template 'for every input the law returns true; each argument reads behind the call as it read before'; 0 by the template 'total and deterministic' (their statements: YtlpkicjijlcbfaaTotals.lean).
  GIVEN WITH THE SEED: the statements are not yours to turn. If you find one false, say at which input.
  Laid BY PROGRAM, IN A SANDBOX (cutbox-rows.mjs): the forced cells as the released guide's own fill.sh prints them over the translation 8f1bd5570cb30a26… (all of the seat's roots in one cut). By AI agents, Wed Nov 11 2026. No macro, syntax, notation, axiom, sorry.
-/
import Derived.Test.YtlpkicjijlcbfaaChecked
import GoSem.Claim
import GoSem.ClaimJoined
import GoSem.ClaimMapViews
import Derived.JoinedTies
import Derived.KernelRfl
namespace Go.Proofs.Ytlpkicjijlcbfaa
/- THE CELL 'sum', in the pinned program and in every row, IS THE sha256 OF THE DUMP (.gsa) THAT YtlpkicjijlcbfaaProg.lean LOADS. Nothing in Lean hashes anything: it is a label: what it is worth is what the hold of that sum in a sandbox is worth. -/
noncomputable def Try.pinned : Pinned := { name := "ytlpkicjijlcbfaa", sum := "8f1bd5570cb30a26da08752868046e4d2f5585528d91610b9cc8e593685657fd", checked := Try.checked }
namespace Rows
def none {H : Type} : Left H := { results := [], args := [] }

/-- 'dactyllaw08.ContractLeast': WHATEVER THE INPUT: true; the input reads as it did. -/
def contractLeastSpec : ChangeSpec := { name := "contractLeast", fn := fun _ => fun
  | [d1, d2, d3, d4, d5] => { results := [.lit (.bool true)], args := [d1, d2, d3, d4, d5] }
  | _ => none }
def contractLeastRow : OpenClaim := { program := "ytlpkicjijlcbfaa", sum := "8f1bd5570cb30a26da08752868046e4d2f5585528d91610b9cc8e593685657fd", func := "dactyl/dactyllaw08.ContractLeast", spec := "contractLeast", unfollowed := true, recurses := true, plainKeys := false, apart := false }
def ContractLeastSaid : Prop := contractLeastRow.holds Try.pinned (OpenSpec.ofChange contractLeastSpec)

/-- ITS FALSE NEIGHBOUR: 'it returns false'. Refute it at one input. -/
def contractLeastWrong : ChangeSpec := { name := "contractLeast", fn := fun _ => fun
  | [d1, d2, d3, d4, d5] => { results := [.lit (.bool false)], args := [d1, d2, d3, d4, d5] }
  | _ => none }
def ContractLeastWrongFalsely : Prop := contractLeastRow.holds Try.pinned (OpenSpec.ofChange contractLeastWrong)

/-- 'dactyllaw08.ContractPlain': WHATEVER THE INPUT: true; the input reads as it did. -/
def contractPlainSpec : ChangeSpec := { name := "contractPlain", fn := fun _ => fun
  | [d1, d2, d3] => { results := [.lit (.bool true)], args := [d1, d2, d3] }
  | _ => none }
def contractPlainRow : OpenClaim := { program := "ytlpkicjijlcbfaa", sum := "8f1bd5570cb30a26da08752868046e4d2f5585528d91610b9cc8e593685657fd", func := "dactyl/dactyllaw08.ContractPlain", spec := "contractPlain", unfollowed := true, recurses := true, plainKeys := false, apart := false }
def ContractPlainSaid : Prop := contractPlainRow.holds Try.pinned (OpenSpec.ofChange contractPlainSpec)

/-- ITS FALSE NEIGHBOUR: 'it returns false'. Refute it at one input. -/
def contractPlainWrong : ChangeSpec := { name := "contractPlain", fn := fun _ => fun
  | [d1, d2, d3] => { results := [.lit (.bool false)], args := [d1, d2, d3] }
  | _ => none }
def ContractPlainWrongFalsely : Prop := contractPlainRow.holds Try.pinned (OpenSpec.ofChange contractPlainWrong)

/-- 'dactyllaw08.ContractWidths': WHATEVER THE INPUT: true; the input reads as it did. -/
def contractWidthsSpec : ChangeSpec := { name := "contractWidths", fn := fun _ => fun
  | [d1, d2, d3, d4] => { results := [.lit (.bool true)], args := [d1, d2, d3, d4] }
  | _ => none }
def contractWidthsRow : OpenClaim := { program := "ytlpkicjijlcbfaa", sum := "8f1bd5570cb30a26da08752868046e4d2f5585528d91610b9cc8e593685657fd", func := "dactyl/dactyllaw08.ContractWidths", spec := "contractWidths", unfollowed := true, recurses := true, plainKeys := false, apart := false }
def ContractWidthsSaid : Prop := contractWidthsRow.holds Try.pinned (OpenSpec.ofChange contractWidthsSpec)

/-- ITS FALSE NEIGHBOUR: 'it returns false'. Refute it at one input. -/
def contractWidthsWrong : ChangeSpec := { name := "contractWidths", fn := fun _ => fun
  | [d1, d2, d3, d4] => { results := [.lit (.bool false)], args := [d1, d2, d3, d4] }
  | _ => none }
def ContractWidthsWrongFalsely : Prop := contractWidthsRow.holds Try.pinned (OpenSpec.ofChange contractWidthsWrong)

/-- 'dactyllaw08.ContractFewest': WHATEVER THE INPUT: true; the input reads as it did. -/
def contractFewestSpec : ChangeSpec := { name := "contractFewest", fn := fun _ => fun
  | [d1, d2, d3] => { results := [.lit (.bool true)], args := [d1, d2, d3] }
  | _ => none }
def contractFewestRow : OpenClaim := { program := "ytlpkicjijlcbfaa", sum := "8f1bd5570cb30a26da08752868046e4d2f5585528d91610b9cc8e593685657fd", func := "dactyl/dactyllaw08.ContractFewest", spec := "contractFewest", unfollowed := true, recurses := true, plainKeys := false, apart := false }
def ContractFewestSaid : Prop := contractFewestRow.holds Try.pinned (OpenSpec.ofChange contractFewestSpec)

/-- ITS FALSE NEIGHBOUR: 'it returns false'. Refute it at one input. -/
def contractFewestWrong : ChangeSpec := { name := "contractFewest", fn := fun _ => fun
  | [d1, d2, d3] => { results := [.lit (.bool false)], args := [d1, d2, d3] }
  | _ => none }
def ContractFewestWrongFalsely : Prop := contractFewestRow.holds Try.pinned (OpenSpec.ofChange contractFewestWrong)

/-- 'dactyllaw08.ContractEquations': WHATEVER THE INPUT: true; the input reads as it did. -/
def contractEquationsSpec : ChangeSpec := { name := "contractEquations", fn := fun _ => fun
  | [d1, d2] => { results := [.lit (.bool true)], args := [d1, d2] }
  | _ => none }
def contractEquationsRow : OpenClaim := { program := "ytlpkicjijlcbfaa", sum := "8f1bd5570cb30a26da08752868046e4d2f5585528d91610b9cc8e593685657fd", func := "dactyl/dactyllaw08.ContractEquations", spec := "contractEquations", unfollowed := true, recurses := true, plainKeys := false, apart := false }
def ContractEquationsSaid : Prop := contractEquationsRow.holds Try.pinned (OpenSpec.ofChange contractEquationsSpec)

/-- ITS FALSE NEIGHBOUR: 'it returns false'. Refute it at one input. -/
def contractEquationsWrong : ChangeSpec := { name := "contractEquations", fn := fun _ => fun
  | [d1, d2] => { results := [.lit (.bool false)], args := [d1, d2] }
  | _ => none }
def ContractEquationsWrongFalsely : Prop := contractEquationsRow.holds Try.pinned (OpenSpec.ofChange contractEquationsWrong)

/-- 'dactyllaw08.ContractChecks': WHATEVER THE INPUT: true; the input reads as it did. -/
def contractChecksSpec : ChangeSpec := { name := "contractChecks", fn := fun _ => fun
  | [d1, d2, d3, d4, d5, d6] => { results := [.lit (.bool true)], args := [d1, d2, d3, d4, d5, d6] }
  | _ => none }
def contractChecksRow : OpenClaim := { program := "ytlpkicjijlcbfaa", sum := "8f1bd5570cb30a26da08752868046e4d2f5585528d91610b9cc8e593685657fd", func := "dactyl/dactyllaw08.ContractChecks", spec := "contractChecks", unfollowed := true, recurses := true, plainKeys := false, apart := false }
def ContractChecksSaid : Prop := contractChecksRow.holds Try.pinned (OpenSpec.ofChange contractChecksSpec)

/-- ITS FALSE NEIGHBOUR: 'it returns false'. Refute it at one input. -/
def contractChecksWrong : ChangeSpec := { name := "contractChecks", fn := fun _ => fun
  | [d1, d2, d3, d4, d5, d6] => { results := [.lit (.bool false)], args := [d1, d2, d3, d4, d5, d6] }
  | _ => none }
def ContractChecksWrongFalsely : Prop := contractChecksRow.holds Try.pinned (OpenSpec.ofChange contractChecksWrong)

/- THE SECOND FORM. 'bulk': how many values and letters a reading holds, each counted each time it is reached (what is shared counts as often as it is met; a slice's spare places count too). A statement '..UptoSaid' is the law's where the arguments, and the package variables that the reading takes, are together of bulk at most 1048576: NARROWER than '..Said'. Prove '..Said' where nothing that the law and all that it calls make is longer than what came in: it says more and counts as full. Else prove '..UptoSaid'. A law counts once. -/
mutual
def uptoBulk {H : Type} : DataW H → Nat
  | .lit (.string bytes) => bytes.length + 1
  | .lit _ => 1
  | .nil => 1
  | .ptr d => uptoBulk d + 1
  | .slice elems spare => uptoBulkAll elems + uptoBulkAll spare + 1
  | .agg parts => uptoBulkAll parts + 1
  | .iface _ d => uptoBulk d + 1
  | .map entries => uptoBulkEntries entries + 1
  | .held _ => 1
def uptoBulkAll {H : Type} : List (DataW H) → Nat
  | [] => 0
  | d :: r => uptoBulk d + uptoBulkAll r
def uptoBulkEntries {H : Type} : List (Lit × DataW H) → Nat
  | [] => 0
  | x :: r => uptoBulkEntry x + uptoBulkEntries r
def uptoBulkEntry {H : Type} : Lit × DataW H → Nat
  | (.string bytes, d) => bytes.length + uptoBulk d + 1
  | (_, d) => uptoBulk d + 1
 end
def uptoSmall : (H : Type) → List (DataW H) → Bool := fun _ ds => decide (uptoBulkAll ds ≤ 1048576)
def OpenSpec.upto (s : _root_.Go.ChangeSpec) : _root_.Go.OpenSpec := { _root_.Go.OpenSpec.ofChange s with cond := some uptoSmall }

/-- 'dactyllaw08.ContractLeast', WHERE WHAT IT READS IS OF BULK AT MOST 1048576: true; the input reads as it did. -/
def contractLeastUptoRow : OpenClaim := { program := "ytlpkicjijlcbfaa", sum := "8f1bd5570cb30a26da08752868046e4d2f5585528d91610b9cc8e593685657fd", func := "dactyl/dactyllaw08.ContractLeast", spec := "contractLeast", unfollowed := true, recurses := true, plainKeys := false, apart := false, narrowed := true }
def ContractLeastUptoSaid : Prop := contractLeastUptoRow.holds Try.pinned (OpenSpec.upto contractLeastSpec)

/-- 'dactyllaw08.ContractPlain', WHERE WHAT IT READS IS OF BULK AT MOST 1048576: true; the input reads as it did. -/
def contractPlainUptoRow : OpenClaim := { program := "ytlpkicjijlcbfaa", sum := "8f1bd5570cb30a26da08752868046e4d2f5585528d91610b9cc8e593685657fd", func := "dactyl/dactyllaw08.ContractPlain", spec := "contractPlain", unfollowed := true, recurses := true, plainKeys := false, apart := false, narrowed := true }
def ContractPlainUptoSaid : Prop := contractPlainUptoRow.holds Try.pinned (OpenSpec.upto contractPlainSpec)

/-- 'dactyllaw08.ContractWidths', WHERE WHAT IT READS IS OF BULK AT MOST 1048576: true; the input reads as it did. -/
def contractWidthsUptoRow : OpenClaim := { program := "ytlpkicjijlcbfaa", sum := "8f1bd5570cb30a26da08752868046e4d2f5585528d91610b9cc8e593685657fd", func := "dactyl/dactyllaw08.ContractWidths", spec := "contractWidths", unfollowed := true, recurses := true, plainKeys := false, apart := false, narrowed := true }
def ContractWidthsUptoSaid : Prop := contractWidthsUptoRow.holds Try.pinned (OpenSpec.upto contractWidthsSpec)

/-- 'dactyllaw08.ContractFewest', WHERE WHAT IT READS IS OF BULK AT MOST 1048576: true; the input reads as it did. -/
def contractFewestUptoRow : OpenClaim := { program := "ytlpkicjijlcbfaa", sum := "8f1bd5570cb30a26da08752868046e4d2f5585528d91610b9cc8e593685657fd", func := "dactyl/dactyllaw08.ContractFewest", spec := "contractFewest", unfollowed := true, recurses := true, plainKeys := false, apart := false, narrowed := true }
def ContractFewestUptoSaid : Prop := contractFewestUptoRow.holds Try.pinned (OpenSpec.upto contractFewestSpec)

/-- 'dactyllaw08.ContractEquations', WHERE WHAT IT READS IS OF BULK AT MOST 1048576: true; the input reads as it did. -/
def contractEquationsUptoRow : OpenClaim := { program := "ytlpkicjijlcbfaa", sum := "8f1bd5570cb30a26da08752868046e4d2f5585528d91610b9cc8e593685657fd", func := "dactyl/dactyllaw08.ContractEquations", spec := "contractEquations", unfollowed := true, recurses := true, plainKeys := false, apart := false, narrowed := true }
def ContractEquationsUptoSaid : Prop := contractEquationsUptoRow.holds Try.pinned (OpenSpec.upto contractEquationsSpec)

/-- 'dactyllaw08.ContractChecks', WHERE WHAT IT READS IS OF BULK AT MOST 1048576: true; the input reads as it did. -/
def contractChecksUptoRow : OpenClaim := { program := "ytlpkicjijlcbfaa", sum := "8f1bd5570cb30a26da08752868046e4d2f5585528d91610b9cc8e593685657fd", func := "dactyl/dactyllaw08.ContractChecks", spec := "contractChecks", unfollowed := true, recurses := true, plainKeys := false, apart := false, narrowed := true }
def ContractChecksUptoSaid : Prop := contractChecksUptoRow.holds Try.pinned (OpenSpec.upto contractChecksSpec)

end Rows
end Go.Proofs.Ytlpkicjijlcbfaa
