/-
  No cell of these rows narrows 'for every input' (looked for: loops, veiled, ifaces, maps, wideKeys, modest, calm, conditions, laid).
  DERIVED. THE GIVEN ROWS OF THIS SEAT. 4 by the template 'for every input the law returns true; each argument reads behind the call as it read before'; 0 by the template 'total and deterministic' (their statements: YtmjkhmebpciopaaTotals.lean).
  GIVEN WITH THE SEED: the statements are not yours to turn. If you find one false, say at which input.
  Laid BY PROGRAM, IN A SANDBOX (cutbox-rows.mjs): the forced cells as the released guide's own fill.sh prints them over the translation 435f9b223d5cde7f… (all of the seat's roots in one cut). By AI agents, Wed Nov 11 2026. No macro, syntax, notation, axiom, sorry.
-/
import Derived.Test.YtmjkhmebpciopaaChecked
import GoSem.Claim
import GoSem.ClaimJoined
import GoSem.ClaimMapViews
import Derived.JoinedTies
import Derived.KernelRfl
namespace Go.Proofs.Ytmjkhmebpciopaa
/- THE CELL 'sum', in the pinned program and in every row, IS THE sha256 OF THE DUMP (.gsa) THAT YtmjkhmebpciopaaProg.lean LOADS. Nothing in Lean hashes anything: it is a label: what it is worth is what the hold of that sum in a sandbox is worth. -/
noncomputable def Try.pinned : Pinned := { name := "ytmjkhmebpciopaa", sum := "435f9b223d5cde7fa12b4f73b4fdc658dc56e49a8791eec41d25399114cd81b2", checked := Try.checked }
namespace Rows
def none {H : Type} : Left H := { results := [], args := [] }

/-- 'dactyllaw15.TabularLays': WHATEVER THE INPUT: true; the input reads as it did. -/
def tabularLaysSpec : ChangeSpec := { name := "tabularLays", fn := fun _ => fun
  | [d1, d2, d3, d4, d5] => { results := [.lit (.bool true)], args := [d1, d2, d3, d4, d5] }
  | _ => none }
def tabularLaysRow : OpenClaim := { program := "ytmjkhmebpciopaa", sum := "435f9b223d5cde7fa12b4f73b4fdc658dc56e49a8791eec41d25399114cd81b2", func := "dactyl/dactyllaw15.TabularLays", spec := "tabularLays", unfollowed := true, recurses := true, apart := false }
def TabularLaysSaid : Prop := tabularLaysRow.holds Try.pinned (OpenSpec.ofChange tabularLaysSpec)

/-- ITS FALSE NEIGHBOUR: 'it returns false'. Refute it at one input. -/
def tabularLaysWrong : ChangeSpec := { name := "tabularLays", fn := fun _ => fun
  | [d1, d2, d3, d4, d5] => { results := [.lit (.bool false)], args := [d1, d2, d3, d4, d5] }
  | _ => none }
def TabularLaysWrongFalsely : Prop := tabularLaysRow.holds Try.pinned (OpenSpec.ofChange tabularLaysWrong)

/-- 'dactyllaw15.TabularReads': WHATEVER THE INPUT: true; the input reads as it did. -/
def tabularReadsSpec : ChangeSpec := { name := "tabularReads", fn := fun _ => fun
  | [d1, d2, d3, d4, d5, d6] => { results := [.lit (.bool true)], args := [d1, d2, d3, d4, d5, d6] }
  | _ => none }
def tabularReadsRow : OpenClaim := { program := "ytmjkhmebpciopaa", sum := "435f9b223d5cde7fa12b4f73b4fdc658dc56e49a8791eec41d25399114cd81b2", func := "dactyl/dactyllaw15.TabularReads", spec := "tabularReads", unfollowed := true, recurses := true, apart := false }
def TabularReadsSaid : Prop := tabularReadsRow.holds Try.pinned (OpenSpec.ofChange tabularReadsSpec)

/-- ITS FALSE NEIGHBOUR: 'it returns false'. Refute it at one input. -/
def tabularReadsWrong : ChangeSpec := { name := "tabularReads", fn := fun _ => fun
  | [d1, d2, d3, d4, d5, d6] => { results := [.lit (.bool false)], args := [d1, d2, d3, d4, d5, d6] }
  | _ => none }
def TabularReadsWrongFalsely : Prop := tabularReadsRow.holds Try.pinned (OpenSpec.ofChange tabularReadsWrong)

/-- 'dactyllaw15.TabularFits': WHATEVER THE INPUT: true; the input reads as it did. -/
def tabularFitsSpec : ChangeSpec := { name := "tabularFits", fn := fun _ => fun
  | [d1, d2, d3, d4] => { results := [.lit (.bool true)], args := [d1, d2, d3, d4] }
  | _ => none }
def tabularFitsRow : OpenClaim := { program := "ytmjkhmebpciopaa", sum := "435f9b223d5cde7fa12b4f73b4fdc658dc56e49a8791eec41d25399114cd81b2", func := "dactyl/dactyllaw15.TabularFits", spec := "tabularFits", unfollowed := true, recurses := true, apart := false }
def TabularFitsSaid : Prop := tabularFitsRow.holds Try.pinned (OpenSpec.ofChange tabularFitsSpec)

/-- ITS FALSE NEIGHBOUR: 'it returns false'. Refute it at one input. -/
def tabularFitsWrong : ChangeSpec := { name := "tabularFits", fn := fun _ => fun
  | [d1, d2, d3, d4] => { results := [.lit (.bool false)], args := [d1, d2, d3, d4] }
  | _ => none }
def TabularFitsWrongFalsely : Prop := tabularFitsRow.holds Try.pinned (OpenSpec.ofChange tabularFitsWrong)

/-- 'dactyllaw15.TabularChecks': WHATEVER THE INPUT: true; the input reads as it did. -/
def tabularChecksSpec : ChangeSpec := { name := "tabularChecks", fn := fun _ => fun
  | [d1, d2, d3, d4, d5] => { results := [.lit (.bool true)], args := [d1, d2, d3, d4, d5] }
  | _ => none }
def tabularChecksRow : OpenClaim := { program := "ytmjkhmebpciopaa", sum := "435f9b223d5cde7fa12b4f73b4fdc658dc56e49a8791eec41d25399114cd81b2", func := "dactyl/dactyllaw15.TabularChecks", spec := "tabularChecks", unfollowed := true, recurses := true, apart := false }
def TabularChecksSaid : Prop := tabularChecksRow.holds Try.pinned (OpenSpec.ofChange tabularChecksSpec)

/-- ITS FALSE NEIGHBOUR: 'it returns false'. Refute it at one input. -/
def tabularChecksWrong : ChangeSpec := { name := "tabularChecks", fn := fun _ => fun
  | [d1, d2, d3, d4, d5] => { results := [.lit (.bool false)], args := [d1, d2, d3, d4, d5] }
  | _ => none }
def TabularChecksWrongFalsely : Prop := tabularChecksRow.holds Try.pinned (OpenSpec.ofChange tabularChecksWrong)

/- THE SECOND FORM. 'bulk': how many values and letters a reading holds, each counted each time it is reached (what is shared counts as often as it is met; a slice's spare places count too). A statement '..UptoSaid' is the law's where the arguments, and the package variables that the reading takes, are together of bulk at most 1048576: NARROWER than '..Said'. Prove '..Said' where nothing that the law and all that it calls make is longer than what came in: it says more and counts as full. Else prove '..UptoSaid'. A law counts once. -/
mutual
def uptoBulk {H : Type} : DataW H → Nat
  | .lit (.string bytes) => bytes.length + 1
  | .lit _ => 1
  | .nil => 1
  | .ptr d => uptoBulk d + 1
  | .slice elems spare => uptoBulkAll elems + uptoBulkAll spare + 1
  | .agg parts => uptoBulkAll parts + 1
  | .iface _ d => uptoBulk d + 1
  | .map entries => uptoBulkEntries entries + 1
  | .held _ => 1
def uptoBulkAll {H : Type} : List (DataW H) → Nat
  | [] => 0
  | d :: r => uptoBulk d + uptoBulkAll r
def uptoBulkEntries {H : Type} : List (Lit × DataW H) → Nat
  | [] => 0
  | x :: r => uptoBulkEntry x + uptoBulkEntries r
def uptoBulkEntry {H : Type} : Lit × DataW H → Nat
  | (.string bytes, d) => bytes.length + uptoBulk d + 1
  | (_, d) => uptoBulk d + 1
 end
def uptoSmall : (H : Type) → List (DataW H) → Bool := fun _ ds => decide (uptoBulkAll ds ≤ 1048576)
def OpenSpec.upto (s : _root_.Go.ChangeSpec) : _root_.Go.OpenSpec := { _root_.Go.OpenSpec.ofChange s with cond := some uptoSmall }

/-- 'dactyllaw15.TabularLays', WHERE WHAT IT READS IS OF BULK AT MOST 1048576: true; the input reads as it did. -/
def tabularLaysUptoRow : OpenClaim := { program := "ytmjkhmebpciopaa", sum := "435f9b223d5cde7fa12b4f73b4fdc658dc56e49a8791eec41d25399114cd81b2", func := "dactyl/dactyllaw15.TabularLays", spec := "tabularLays", unfollowed := true, recurses := true, apart := false, narrowed := true }
def TabularLaysUptoSaid : Prop := tabularLaysUptoRow.holds Try.pinned (OpenSpec.upto tabularLaysSpec)

/-- 'dactyllaw15.TabularReads', WHERE WHAT IT READS IS OF BULK AT MOST 1048576: true; the input reads as it did. -/
def tabularReadsUptoRow : OpenClaim := { program := "ytmjkhmebpciopaa", sum := "435f9b223d5cde7fa12b4f73b4fdc658dc56e49a8791eec41d25399114cd81b2", func := "dactyl/dactyllaw15.TabularReads", spec := "tabularReads", unfollowed := true, recurses := true, apart := false, narrowed := true }
def TabularReadsUptoSaid : Prop := tabularReadsUptoRow.holds Try.pinned (OpenSpec.upto tabularReadsSpec)

/-- 'dactyllaw15.TabularFits', WHERE WHAT IT READS IS OF BULK AT MOST 1048576: true; the input reads as it did. -/
def tabularFitsUptoRow : OpenClaim := { program := "ytmjkhmebpciopaa", sum := "435f9b223d5cde7fa12b4f73b4fdc658dc56e49a8791eec41d25399114cd81b2", func := "dactyl/dactyllaw15.TabularFits", spec := "tabularFits", unfollowed := true, recurses := true, apart := false, narrowed := true }
def TabularFitsUptoSaid : Prop := tabularFitsUptoRow.holds Try.pinned (OpenSpec.upto tabularFitsSpec)

/-- 'dactyllaw15.TabularChecks', WHERE WHAT IT READS IS OF BULK AT MOST 1048576: true; the input reads as it did. -/
def tabularChecksUptoRow : OpenClaim := { program := "ytmjkhmebpciopaa", sum := "435f9b223d5cde7fa12b4f73b4fdc658dc56e49a8791eec41d25399114cd81b2", func := "dactyl/dactyllaw15.TabularChecks", spec := "tabularChecks", unfollowed := true, recurses := true, apart := false, narrowed := true }
def TabularChecksUptoSaid : Prop := tabularChecksUptoRow.holds Try.pinned (OpenSpec.upto tabularChecksSpec)

end Rows
end Go.Proofs.Ytmjkhmebpciopaa
