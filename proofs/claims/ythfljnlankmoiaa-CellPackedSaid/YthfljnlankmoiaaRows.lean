/-
  No cell of these rows narrows 'for every input' (looked for: loops, veiled, ifaces, maps, wideKeys, modest, calm, conditions, laid).
  DERIVED. THE GIVEN ROWS OF THIS SEAT. 6 by the template 'for every input the law returns true; each argument reads behind the call as it read before'; 0 by the template 'total and deterministic' (their statements: YthfljnlankmoiaaTotals.lean).
  GIVEN WITH THE SEED: the statements are not yours to turn. If you find one false, say at which input.
  Laid BY PROGRAM, IN A SANDBOX (cutbox-rows.mjs): the forced cells as the released guide's own fill.sh prints them over the translation 6ccd4513985fe122… (all of the seat's roots in one cut). By AI agents, Wed Nov 11 2026. No macro, syntax, notation, axiom, sorry.
-/
import Derived.Test.YthfljnlankmoiaaChecked
import GoSem.Claim
import GoSem.ClaimJoined
import GoSem.ClaimMapViews
import Derived.JoinedTies
import Derived.KernelRfl
namespace Go.Proofs.Ythfljnlankmoiaa
/- THE CELL 'sum', in the pinned program and in every row, IS THE sha256 OF THE DUMP (.gsa) THAT YthfljnlankmoiaaProg.lean LOADS. Nothing in Lean hashes anything: it is a label: what it is worth is what the hold of that sum in a sandbox is worth. -/
noncomputable def Try.pinned : Pinned := { name := "ythfljnlankmoiaa", sum := "6ccd4513985fe1224f15308671f16fd77edc1023612f8e63835f10493bf1a14b", checked := Try.checked }
namespace Rows
def none {H : Type} : Left H := { results := [], args := [] }

/-- 'dactyllaw04.CellDots': WHATEVER THE INPUT: true; the input reads as it did. -/
def cellDotsSpec : ChangeSpec := { name := "cellDots", fn := fun _ => fun
  | [d1, d2, d3] => { results := [.lit (.bool true)], args := [d1, d2, d3] }
  | _ => none }
def cellDotsRow : OpenClaim := { program := "ythfljnlankmoiaa", sum := "6ccd4513985fe1224f15308671f16fd77edc1023612f8e63835f10493bf1a14b", func := "dactyl/dactyllaw04.CellDots", spec := "cellDots", inPlace := ["internal/abi.NoEscape"], unfollowed := true, recurses := true, apart := false }
def CellDotsSaid : Prop := cellDotsRow.holds Try.pinned (OpenSpec.ofChange cellDotsSpec)

/-- ITS FALSE NEIGHBOUR: 'it returns false'. Refute it at one input. -/
def cellDotsWrong : ChangeSpec := { name := "cellDots", fn := fun _ => fun
  | [d1, d2, d3] => { results := [.lit (.bool false)], args := [d1, d2, d3] }
  | _ => none }
def CellDotsWrongFalsely : Prop := cellDotsRow.holds Try.pinned (OpenSpec.ofChange cellDotsWrong)

/-- 'dactyllaw04.CellPacks': WHATEVER THE INPUT: true; the input reads as it did. -/
def cellPacksSpec : ChangeSpec := { name := "cellPacks", fn := fun _ => fun
  | [d1, d2, d3, d4] => { results := [.lit (.bool true)], args := [d1, d2, d3, d4] }
  | _ => none }
def cellPacksRow : OpenClaim := { program := "ythfljnlankmoiaa", sum := "6ccd4513985fe1224f15308671f16fd77edc1023612f8e63835f10493bf1a14b", func := "dactyl/dactyllaw04.CellPacks", spec := "cellPacks", inPlace := ["internal/abi.NoEscape"], unfollowed := true, recurses := true, apart := false }
def CellPacksSaid : Prop := cellPacksRow.holds Try.pinned (OpenSpec.ofChange cellPacksSpec)

/-- ITS FALSE NEIGHBOUR: 'it returns false'. Refute it at one input. -/
def cellPacksWrong : ChangeSpec := { name := "cellPacks", fn := fun _ => fun
  | [d1, d2, d3, d4] => { results := [.lit (.bool false)], args := [d1, d2, d3, d4] }
  | _ => none }
def CellPacksWrongFalsely : Prop := cellPacksRow.holds Try.pinned (OpenSpec.ofChange cellPacksWrong)

/-- 'dactyllaw04.CellTexts': WHATEVER THE INPUT: true; the input reads as it did. -/
def cellTextsSpec : ChangeSpec := { name := "cellTexts", fn := fun _ => fun
  | [d1, d2] => { results := [.lit (.bool true)], args := [d1, d2] }
  | _ => none }
def cellTextsRow : OpenClaim := { program := "ythfljnlankmoiaa", sum := "6ccd4513985fe1224f15308671f16fd77edc1023612f8e63835f10493bf1a14b", func := "dactyl/dactyllaw04.CellTexts", spec := "cellTexts", inPlace := ["internal/abi.NoEscape"], unfollowed := true, recurses := true, apart := false }
def CellTextsSaid : Prop := cellTextsRow.holds Try.pinned (OpenSpec.ofChange cellTextsSpec)

/-- ITS FALSE NEIGHBOUR: 'it returns false'. Refute it at one input. -/
def cellTextsWrong : ChangeSpec := { name := "cellTexts", fn := fun _ => fun
  | [d1, d2] => { results := [.lit (.bool false)], args := [d1, d2] }
  | _ => none }
def CellTextsWrongFalsely : Prop := cellTextsRow.holds Try.pinned (OpenSpec.ofChange cellTextsWrong)

/-- 'dactyllaw04.CellPacked': WHATEVER THE INPUT: true; the input reads as it did. -/
def cellPackedSpec : ChangeSpec := { name := "cellPacked", fn := fun _ => fun
  | [d1, d2] => { results := [.lit (.bool true)], args := [d1, d2] }
  | _ => none }
def cellPackedRow : OpenClaim := { program := "ythfljnlankmoiaa", sum := "6ccd4513985fe1224f15308671f16fd77edc1023612f8e63835f10493bf1a14b", func := "dactyl/dactyllaw04.CellPacked", spec := "cellPacked", inPlace := ["internal/abi.NoEscape"], unfollowed := true, recurses := true, apart := false }
def CellPackedSaid : Prop := cellPackedRow.holds Try.pinned (OpenSpec.ofChange cellPackedSpec)

/-- ITS FALSE NEIGHBOUR: 'it returns false'. Refute it at one input. -/
def cellPackedWrong : ChangeSpec := { name := "cellPacked", fn := fun _ => fun
  | [d1, d2] => { results := [.lit (.bool false)], args := [d1, d2] }
  | _ => none }
def CellPackedWrongFalsely : Prop := cellPackedRow.holds Try.pinned (OpenSpec.ofChange cellPackedWrong)

/-- 'dactyllaw04.CellCounts': WHATEVER THE INPUT: true; the input reads as it did. -/
def cellCountsSpec : ChangeSpec := { name := "cellCounts", fn := fun _ => fun
  | [d1, d2, d3, d4] => { results := [.lit (.bool true)], args := [d1, d2, d3, d4] }
  | _ => none }
def cellCountsRow : OpenClaim := { program := "ythfljnlankmoiaa", sum := "6ccd4513985fe1224f15308671f16fd77edc1023612f8e63835f10493bf1a14b", func := "dactyl/dactyllaw04.CellCounts", spec := "cellCounts", inPlace := ["internal/abi.NoEscape"], unfollowed := true, recurses := true, apart := false }
def CellCountsSaid : Prop := cellCountsRow.holds Try.pinned (OpenSpec.ofChange cellCountsSpec)

/-- ITS FALSE NEIGHBOUR: 'it returns false'. Refute it at one input. -/
def cellCountsWrong : ChangeSpec := { name := "cellCounts", fn := fun _ => fun
  | [d1, d2, d3, d4] => { results := [.lit (.bool false)], args := [d1, d2, d3, d4] }
  | _ => none }
def CellCountsWrongFalsely : Prop := cellCountsRow.holds Try.pinned (OpenSpec.ofChange cellCountsWrong)

/-- 'dactyllaw04.CellBytes': WHATEVER THE INPUT: true; the input reads as it did. -/
def cellBytesSpec : ChangeSpec := { name := "cellBytes", fn := fun _ => fun
  | [d1, d2, d3, d4] => { results := [.lit (.bool true)], args := [d1, d2, d3, d4] }
  | _ => none }
def cellBytesRow : OpenClaim := { program := "ythfljnlankmoiaa", sum := "6ccd4513985fe1224f15308671f16fd77edc1023612f8e63835f10493bf1a14b", func := "dactyl/dactyllaw04.CellBytes", spec := "cellBytes", inPlace := ["internal/abi.NoEscape"], unfollowed := true, recurses := true, apart := false }
def CellBytesSaid : Prop := cellBytesRow.holds Try.pinned (OpenSpec.ofChange cellBytesSpec)

/-- ITS FALSE NEIGHBOUR: 'it returns false'. Refute it at one input. -/
def cellBytesWrong : ChangeSpec := { name := "cellBytes", fn := fun _ => fun
  | [d1, d2, d3, d4] => { results := [.lit (.bool false)], args := [d1, d2, d3, d4] }
  | _ => none }
def CellBytesWrongFalsely : Prop := cellBytesRow.holds Try.pinned (OpenSpec.ofChange cellBytesWrong)

/- THE SECOND FORM. 'bulk': how many values and letters a reading holds, each counted each time it is reached (what is shared counts as often as it is met; a slice's spare places count too). A statement '..UptoSaid' is the law's where the arguments, and the package variables that the reading takes, are together of bulk at most 1048576: NARROWER than '..Said'. Prove '..Said' where nothing that the law and all that it calls make is longer than what came in: it says more and counts as full. Else prove '..UptoSaid'. A law counts once. -/
mutual
def uptoBulk {H : Type} : DataW H → Nat
  | .lit (.string bytes) => bytes.length + 1
  | .lit _ => 1
  | .nil => 1
  | .ptr d => uptoBulk d + 1
  | .slice elems spare => uptoBulkAll elems + uptoBulkAll spare + 1
  | .agg parts => uptoBulkAll parts + 1
  | .iface _ d => uptoBulk d + 1
  | .map entries => uptoBulkEntries entries + 1
  | .held _ => 1
def uptoBulkAll {H : Type} : List (DataW H) → Nat
  | [] => 0
  | d :: r => uptoBulk d + uptoBulkAll r
def uptoBulkEntries {H : Type} : List (Lit × DataW H) → Nat
  | [] => 0
  | x :: r => uptoBulkEntry x + uptoBulkEntries r
def uptoBulkEntry {H : Type} : Lit × DataW H → Nat
  | (.string bytes, d) => bytes.length + uptoBulk d + 1
  | (_, d) => uptoBulk d + 1
 end
def uptoSmall : (H : Type) → List (DataW H) → Bool := fun _ ds => decide (uptoBulkAll ds ≤ 1048576)
def OpenSpec.upto (s : _root_.Go.ChangeSpec) : _root_.Go.OpenSpec := { _root_.Go.OpenSpec.ofChange s with cond := some uptoSmall }

/-- 'dactyllaw04.CellDots', WHERE WHAT IT READS IS OF BULK AT MOST 1048576: true; the input reads as it did. -/
def cellDotsUptoRow : OpenClaim := { program := "ythfljnlankmoiaa", sum := "6ccd4513985fe1224f15308671f16fd77edc1023612f8e63835f10493bf1a14b", func := "dactyl/dactyllaw04.CellDots", spec := "cellDots", inPlace := ["internal/abi.NoEscape"], unfollowed := true, recurses := true, apart := false, narrowed := true }
def CellDotsUptoSaid : Prop := cellDotsUptoRow.holds Try.pinned (OpenSpec.upto cellDotsSpec)

/-- 'dactyllaw04.CellPacks', WHERE WHAT IT READS IS OF BULK AT MOST 1048576: true; the input reads as it did. -/
def cellPacksUptoRow : OpenClaim := { program := "ythfljnlankmoiaa", sum := "6ccd4513985fe1224f15308671f16fd77edc1023612f8e63835f10493bf1a14b", func := "dactyl/dactyllaw04.CellPacks", spec := "cellPacks", inPlace := ["internal/abi.NoEscape"], unfollowed := true, recurses := true, apart := false, narrowed := true }
def CellPacksUptoSaid : Prop := cellPacksUptoRow.holds Try.pinned (OpenSpec.upto cellPacksSpec)

/-- 'dactyllaw04.CellTexts', WHERE WHAT IT READS IS OF BULK AT MOST 1048576: true; the input reads as it did. -/
def cellTextsUptoRow : OpenClaim := { program := "ythfljnlankmoiaa", sum := "6ccd4513985fe1224f15308671f16fd77edc1023612f8e63835f10493bf1a14b", func := "dactyl/dactyllaw04.CellTexts", spec := "cellTexts", inPlace := ["internal/abi.NoEscape"], unfollowed := true, recurses := true, apart := false, narrowed := true }
def CellTextsUptoSaid : Prop := cellTextsUptoRow.holds Try.pinned (OpenSpec.upto cellTextsSpec)

/-- 'dactyllaw04.CellPacked', WHERE WHAT IT READS IS OF BULK AT MOST 1048576: true; the input reads as it did. -/
def cellPackedUptoRow : OpenClaim := { program := "ythfljnlankmoiaa", sum := "6ccd4513985fe1224f15308671f16fd77edc1023612f8e63835f10493bf1a14b", func := "dactyl/dactyllaw04.CellPacked", spec := "cellPacked", inPlace := ["internal/abi.NoEscape"], unfollowed := true, recurses := true, apart := false, narrowed := true }
def CellPackedUptoSaid : Prop := cellPackedUptoRow.holds Try.pinned (OpenSpec.upto cellPackedSpec)

/-- 'dactyllaw04.CellCounts', WHERE WHAT IT READS IS OF BULK AT MOST 1048576: true; the input reads as it did. -/
def cellCountsUptoRow : OpenClaim := { program := "ythfljnlankmoiaa", sum := "6ccd4513985fe1224f15308671f16fd77edc1023612f8e63835f10493bf1a14b", func := "dactyl/dactyllaw04.CellCounts", spec := "cellCounts", inPlace := ["internal/abi.NoEscape"], unfollowed := true, recurses := true, apart := false, narrowed := true }
def CellCountsUptoSaid : Prop := cellCountsUptoRow.holds Try.pinned (OpenSpec.upto cellCountsSpec)

/-- 'dactyllaw04.CellBytes', WHERE WHAT IT READS IS OF BULK AT MOST 1048576: true; the input reads as it did. -/
def cellBytesUptoRow : OpenClaim := { program := "ythfljnlankmoiaa", sum := "6ccd4513985fe1224f15308671f16fd77edc1023612f8e63835f10493bf1a14b", func := "dactyl/dactyllaw04.CellBytes", spec := "cellBytes", inPlace := ["internal/abi.NoEscape"], unfollowed := true, recurses := true, apart := false, narrowed := true }
def CellBytesUptoSaid : Prop := cellBytesUptoRow.holds Try.pinned (OpenSpec.upto cellBytesSpec)

end Rows
end Go.Proofs.Ythfljnlankmoiaa
