/-
  No cell of these rows narrows 'for every input' (looked for: loops, veiled, ifaces, maps, wideKeys, modest, calm, conditions, laid).
  DERIVED. THE GIVEN ROWS OF THIS SEAT. 6 by the template 'for every input the law returns true; each argument reads behind the call as it read before'; 0 by the template 'total and deterministic' (their statements: YtjdnmbapmobaaaaTotals.lean).
  GIVEN WITH THE SEED: the statements are not yours to turn. If you find one false, say at which input.
  Laid BY PROGRAM, IN A SANDBOX (cutbox-rows.mjs): the forced cells as the released guide's own fill.sh prints them over the translation 79f1db2eb521cbed… (all of the seat's roots in one cut). By AI agents, Wed Nov 11 2026. No macro, syntax, notation, axiom, sorry.
-/
import Derived.Test.YtjdnmbapmobaaaaChecked
import GoSem.Claim
import GoSem.ClaimJoined
import GoSem.ClaimMapViews
import Derived.JoinedTies
import Derived.KernelRfl
namespace Go.Proofs.Ytjdnmbapmobaaaa
/- THE CELL 'sum', in the pinned program and in every row, IS THE sha256 OF THE DUMP (.gsa) THAT YtjdnmbapmobaaaaProg.lean LOADS. Nothing in Lean hashes anything: it is a label: what it is worth is what the hold of that sum in a sandbox is worth. -/
noncomputable def Try.pinned : Pinned := { name := "ytjdnmbapmobaaaa", sum := "79f1db2eb521cbed2274a174953466918ecdb6f5fd9f4e237513d778a0cfe138", checked := Try.checked }
namespace Rows
def none {H : Type} : Left H := { results := [], args := [] }

/-- 'dactyllaw37.LinkRuns': WHATEVER THE INPUT: true; the input reads as it did. -/
def linkRunsSpec : ChangeSpec := { name := "linkRuns", fn := fun _ => fun
  | [d1, d2, d3] => { results := [.lit (.bool true)], args := [d1, d2, d3] }
  | _ => none }
def linkRunsRow : OpenClaim := { program := "ytjdnmbapmobaaaa", sum := "79f1db2eb521cbed2274a174953466918ecdb6f5fd9f4e237513d778a0cfe138", func := "dactyl/dactyllaw37.LinkRuns", spec := "linkRuns", unfollowed := true, recurses := true, apart := false }
def LinkRunsSaid : Prop := linkRunsRow.holds Try.pinned (OpenSpec.ofChange linkRunsSpec)

/-- ITS FALSE NEIGHBOUR: 'it returns false'. Refute it at one input. -/
def linkRunsWrong : ChangeSpec := { name := "linkRuns", fn := fun _ => fun
  | [d1, d2, d3] => { results := [.lit (.bool false)], args := [d1, d2, d3] }
  | _ => none }
def LinkRunsWrongFalsely : Prop := linkRunsRow.holds Try.pinned (OpenSpec.ofChange linkRunsWrong)

/-- 'dactyllaw37.LinkSeals': WHATEVER THE INPUT: true; the input reads as it did. -/
def linkSealsSpec : ChangeSpec := { name := "linkSeals", fn := fun _ => fun
  | [d1, d2, d3, d4, d5] => { results := [.lit (.bool true)], args := [d1, d2, d3, d4, d5] }
  | _ => none }
def linkSealsRow : OpenClaim := { program := "ytjdnmbapmobaaaa", sum := "79f1db2eb521cbed2274a174953466918ecdb6f5fd9f4e237513d778a0cfe138", func := "dactyl/dactyllaw37.LinkSeals", spec := "linkSeals", unfollowed := true, recurses := true, apart := false }
def LinkSealsSaid : Prop := linkSealsRow.holds Try.pinned (OpenSpec.ofChange linkSealsSpec)

/-- ITS FALSE NEIGHBOUR: 'it returns false'. Refute it at one input. -/
def linkSealsWrong : ChangeSpec := { name := "linkSeals", fn := fun _ => fun
  | [d1, d2, d3, d4, d5] => { results := [.lit (.bool false)], args := [d1, d2, d3, d4, d5] }
  | _ => none }
def LinkSealsWrongFalsely : Prop := linkSealsRow.holds Try.pinned (OpenSpec.ofChange linkSealsWrong)

/-- 'dactyllaw37.LinkOrder': WHATEVER THE INPUT: true; the input reads as it did. -/
def linkOrderSpec : ChangeSpec := { name := "linkOrder", fn := fun _ => fun
  | [d1, d2, d3] => { results := [.lit (.bool true)], args := [d1, d2, d3] }
  | _ => none }
def linkOrderRow : OpenClaim := { program := "ytjdnmbapmobaaaa", sum := "79f1db2eb521cbed2274a174953466918ecdb6f5fd9f4e237513d778a0cfe138", func := "dactyl/dactyllaw37.LinkOrder", spec := "linkOrder", unfollowed := true, recurses := true, apart := false }
def LinkOrderSaid : Prop := linkOrderRow.holds Try.pinned (OpenSpec.ofChange linkOrderSpec)

/-- ITS FALSE NEIGHBOUR: 'it returns false'. Refute it at one input. -/
def linkOrderWrong : ChangeSpec := { name := "linkOrder", fn := fun _ => fun
  | [d1, d2, d3] => { results := [.lit (.bool false)], args := [d1, d2, d3] }
  | _ => none }
def LinkOrderWrongFalsely : Prop := linkOrderRow.holds Try.pinned (OpenSpec.ofChange linkOrderWrong)

/-- 'dactyllaw37.LinkProgress': WHATEVER THE INPUT: true; the input reads as it did. -/
def linkProgressSpec : ChangeSpec := { name := "linkProgress", fn := fun _ => fun
  | [d1, d2, d3, d4, d5] => { results := [.lit (.bool true)], args := [d1, d2, d3, d4, d5] }
  | _ => none }
def linkProgressRow : OpenClaim := { program := "ytjdnmbapmobaaaa", sum := "79f1db2eb521cbed2274a174953466918ecdb6f5fd9f4e237513d778a0cfe138", func := "dactyl/dactyllaw37.LinkProgress", spec := "linkProgress", unfollowed := true, recurses := true, apart := false }
def LinkProgressSaid : Prop := linkProgressRow.holds Try.pinned (OpenSpec.ofChange linkProgressSpec)

/-- ITS FALSE NEIGHBOUR: 'it returns false'. Refute it at one input. -/
def linkProgressWrong : ChangeSpec := { name := "linkProgress", fn := fun _ => fun
  | [d1, d2, d3, d4, d5] => { results := [.lit (.bool false)], args := [d1, d2, d3, d4, d5] }
  | _ => none }
def LinkProgressWrongFalsely : Prop := linkProgressRow.holds Try.pinned (OpenSpec.ofChange linkProgressWrong)

/-- 'dactyllaw37.LinkDetects': WHATEVER THE INPUT: true; the input reads as it did. -/
def linkDetectsSpec : ChangeSpec := { name := "linkDetects", fn := fun _ => fun
  | [d1, d2, d3, d4] => { results := [.lit (.bool true)], args := [d1, d2, d3, d4] }
  | _ => none }
def linkDetectsRow : OpenClaim := { program := "ytjdnmbapmobaaaa", sum := "79f1db2eb521cbed2274a174953466918ecdb6f5fd9f4e237513d778a0cfe138", func := "dactyl/dactyllaw37.LinkDetects", spec := "linkDetects", unfollowed := true, recurses := true, apart := false }
def LinkDetectsSaid : Prop := linkDetectsRow.holds Try.pinned (OpenSpec.ofChange linkDetectsSpec)

/-- ITS FALSE NEIGHBOUR: 'it returns false'. Refute it at one input. -/
def linkDetectsWrong : ChangeSpec := { name := "linkDetects", fn := fun _ => fun
  | [d1, d2, d3, d4] => { results := [.lit (.bool false)], args := [d1, d2, d3, d4] }
  | _ => none }
def LinkDetectsWrongFalsely : Prop := linkDetectsRow.holds Try.pinned (OpenSpec.ofChange linkDetectsWrong)

/-- 'dactyllaw37.LinkWindow': WHATEVER THE INPUT: true; the input reads as it did. -/
def linkWindowSpec : ChangeSpec := { name := "linkWindow", fn := fun _ => fun
  | [d1, d2, d3, d4] => { results := [.lit (.bool true)], args := [d1, d2, d3, d4] }
  | _ => none }
def linkWindowRow : OpenClaim := { program := "ytjdnmbapmobaaaa", sum := "79f1db2eb521cbed2274a174953466918ecdb6f5fd9f4e237513d778a0cfe138", func := "dactyl/dactyllaw37.LinkWindow", spec := "linkWindow", unfollowed := true, recurses := true, apart := false }
def LinkWindowSaid : Prop := linkWindowRow.holds Try.pinned (OpenSpec.ofChange linkWindowSpec)

/-- ITS FALSE NEIGHBOUR: 'it returns false'. Refute it at one input. -/
def linkWindowWrong : ChangeSpec := { name := "linkWindow", fn := fun _ => fun
  | [d1, d2, d3, d4] => { results := [.lit (.bool false)], args := [d1, d2, d3, d4] }
  | _ => none }
def LinkWindowWrongFalsely : Prop := linkWindowRow.holds Try.pinned (OpenSpec.ofChange linkWindowWrong)

/- THE SECOND FORM. 'bulk': how many values and letters a reading holds, each counted each time it is reached (what is shared counts as often as it is met; a slice's spare places count too). A statement '..UptoSaid' is the law's where the arguments, and the package variables that the reading takes, are together of bulk at most 1048576: NARROWER than '..Said'. Prove '..Said' where nothing that the law and all that it calls make is longer than what came in: it says more and counts as full. Else prove '..UptoSaid'. A law counts once. -/
mutual
def uptoBulk {H : Type} : DataW H → Nat
  | .lit (.string bytes) => bytes.length + 1
  | .lit _ => 1
  | .nil => 1
  | .ptr d => uptoBulk d + 1
  | .slice elems spare => uptoBulkAll elems + uptoBulkAll spare + 1
  | .agg parts => uptoBulkAll parts + 1
  | .iface _ d => uptoBulk d + 1
  | .map entries => uptoBulkEntries entries + 1
  | .held _ => 1
def uptoBulkAll {H : Type} : List (DataW H) → Nat
  | [] => 0
  | d :: r => uptoBulk d + uptoBulkAll r
def uptoBulkEntries {H : Type} : List (Lit × DataW H) → Nat
  | [] => 0
  | x :: r => uptoBulkEntry x + uptoBulkEntries r
def uptoBulkEntry {H : Type} : Lit × DataW H → Nat
  | (.string bytes, d) => bytes.length + uptoBulk d + 1
  | (_, d) => uptoBulk d + 1
 end
def uptoSmall : (H : Type) → List (DataW H) → Bool := fun _ ds => decide (uptoBulkAll ds ≤ 1048576)
def OpenSpec.upto (s : _root_.Go.ChangeSpec) : _root_.Go.OpenSpec := { _root_.Go.OpenSpec.ofChange s with cond := some uptoSmall }

/-- 'dactyllaw37.LinkRuns', WHERE WHAT IT READS IS OF BULK AT MOST 1048576: true; the input reads as it did. -/
def linkRunsUptoRow : OpenClaim := { program := "ytjdnmbapmobaaaa", sum := "79f1db2eb521cbed2274a174953466918ecdb6f5fd9f4e237513d778a0cfe138", func := "dactyl/dactyllaw37.LinkRuns", spec := "linkRuns", unfollowed := true, recurses := true, apart := false, narrowed := true }
def LinkRunsUptoSaid : Prop := linkRunsUptoRow.holds Try.pinned (OpenSpec.upto linkRunsSpec)

/-- 'dactyllaw37.LinkSeals', WHERE WHAT IT READS IS OF BULK AT MOST 1048576: true; the input reads as it did. -/
def linkSealsUptoRow : OpenClaim := { program := "ytjdnmbapmobaaaa", sum := "79f1db2eb521cbed2274a174953466918ecdb6f5fd9f4e237513d778a0cfe138", func := "dactyl/dactyllaw37.LinkSeals", spec := "linkSeals", unfollowed := true, recurses := true, apart := false, narrowed := true }
def LinkSealsUptoSaid : Prop := linkSealsUptoRow.holds Try.pinned (OpenSpec.upto linkSealsSpec)

/-- 'dactyllaw37.LinkOrder', WHERE WHAT IT READS IS OF BULK AT MOST 1048576: true; the input reads as it did. -/
def linkOrderUptoRow : OpenClaim := { program := "ytjdnmbapmobaaaa", sum := "79f1db2eb521cbed2274a174953466918ecdb6f5fd9f4e237513d778a0cfe138", func := "dactyl/dactyllaw37.LinkOrder", spec := "linkOrder", unfollowed := true, recurses := true, apart := false, narrowed := true }
def LinkOrderUptoSaid : Prop := linkOrderUptoRow.holds Try.pinned (OpenSpec.upto linkOrderSpec)

/-- 'dactyllaw37.LinkProgress', WHERE WHAT IT READS IS OF BULK AT MOST 1048576: true; the input reads as it did. -/
def linkProgressUptoRow : OpenClaim := { program := "ytjdnmbapmobaaaa", sum := "79f1db2eb521cbed2274a174953466918ecdb6f5fd9f4e237513d778a0cfe138", func := "dactyl/dactyllaw37.LinkProgress", spec := "linkProgress", unfollowed := true, recurses := true, apart := false, narrowed := true }
def LinkProgressUptoSaid : Prop := linkProgressUptoRow.holds Try.pinned (OpenSpec.upto linkProgressSpec)

/-- 'dactyllaw37.LinkDetects', WHERE WHAT IT READS IS OF BULK AT MOST 1048576: true; the input reads as it did. -/
def linkDetectsUptoRow : OpenClaim := { program := "ytjdnmbapmobaaaa", sum := "79f1db2eb521cbed2274a174953466918ecdb6f5fd9f4e237513d778a0cfe138", func := "dactyl/dactyllaw37.LinkDetects", spec := "linkDetects", unfollowed := true, recurses := true, apart := false, narrowed := true }
def LinkDetectsUptoSaid : Prop := linkDetectsUptoRow.holds Try.pinned (OpenSpec.upto linkDetectsSpec)

/-- 'dactyllaw37.LinkWindow', WHERE WHAT IT READS IS OF BULK AT MOST 1048576: true; the input reads as it did. -/
def linkWindowUptoRow : OpenClaim := { program := "ytjdnmbapmobaaaa", sum := "79f1db2eb521cbed2274a174953466918ecdb6f5fd9f4e237513d778a0cfe138", func := "dactyl/dactyllaw37.LinkWindow", spec := "linkWindow", unfollowed := true, recurses := true, apart := false, narrowed := true }
def LinkWindowUptoSaid : Prop := linkWindowUptoRow.holds Try.pinned (OpenSpec.upto linkWindowSpec)

end Rows
end Go.Proofs.Ytjdnmbapmobaaaa
