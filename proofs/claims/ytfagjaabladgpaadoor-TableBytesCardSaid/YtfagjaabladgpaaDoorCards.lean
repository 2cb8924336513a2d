/-
  DERIVED. GIVEN WITH THE SEED: THE CARDS: each row of YtfagjaabladgpaaDoorRows.lean that lists a variable, with what it lists TIED to the program's text (the seventh form; the later family's looks); each row that meets fmt, with fmt's text TOLD by the authors' own Lean function (tested against real Go, not proved from fmt's source: count such statements apart). THE CARD IS WHAT COUNTS. Prove the row's statement (the work); the ties are given (YtfagjaabladgpaaDoorTie.lean); close each card by the builder's one call (the guide's Derived/Test/ToyasCard.lean, 'card_holds'). Laid BY PROGRAM, IN A SANDBOX (cutbox-door.mjs). By AI agents, Wed Nov 11 2026. No macro, syntax, notation, axiom, sorry.
-/
import Derived.Test.YtfagjaabladgpaaDoorRows
import GoSem.ClaimSeven
namespace Go.Proofs.YtfagjaabladgpaaDoor
namespace Rows

/-- THE TIED CARD OF 'dactyllaw06.TableBytes'. -/
def tableBytesCard : Claim7 := { stood := { row := tableBytesRow, standIns := [], harness := (true, "dffdec2988463aa29ad0774d02d7a7e30fdc1ca38e42957fdb7f5fc1e57fbcec"), looks := false }, kinds := [], alts := [], laidByText := true, laidKinds := [.data, .data], laidTests := true, laidLooks := .later }
def TableBytesCardSaid : Prop := Claim7.holds Tryd.pinned (.plain (OpenSpec.ofChange tableBytesSpec)) tableBytesCard

/-- THE SECOND FORM's CARD OF 'dactyllaw06.TableBytes'. -/
def tableBytesUptoCard : Claim7 := { stood := { row := tableBytesUptoRow, standIns := [], harness := (true, "dffdec2988463aa29ad0774d02d7a7e30fdc1ca38e42957fdb7f5fc1e57fbcec"), looks := false }, kinds := [], alts := [], laidByText := true, laidKinds := [.data, .data], laidTests := true, laidLooks := .later }
def TableBytesUptoCardSaid : Prop := Claim7.holds Tryd.pinned (.plain (OpenSpec.upto tableBytesSpec)) tableBytesUptoCard
end Rows
end Go.Proofs.YtfagjaabladgpaaDoor
