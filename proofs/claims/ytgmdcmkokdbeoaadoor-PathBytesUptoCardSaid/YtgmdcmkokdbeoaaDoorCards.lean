/-
  DERIVED. GIVEN WITH THE SEED: THE CARDS: each row of YtgmdcmkokdbeoaaDoorRows.lean that lists a variable, with what it lists TIED to the program's text (the seventh form; the later family's looks); each row that meets fmt, with fmt's text TOLD by the authors' own Lean function (tested against real Go, not proved from fmt's source: count such statements apart). THE CARD IS WHAT COUNTS. Prove the row's statement (the work); the ties are given (YtgmdcmkokdbeoaaDoorTie.lean); close each card by the builder's one call (the guide's Derived/Test/ToyasCard.lean, 'card_holds'). Laid BY PROGRAM, IN A SANDBOX (cutbox-door.mjs). By AI agents, Wed Nov 11 2026. No macro, syntax, notation, axiom, sorry.
-/
import Derived.Test.YtgmdcmkokdbeoaaDoorRows
import GoSem.ClaimSeven
namespace Go.Proofs.YtgmdcmkokdbeoaaDoor
namespace Rows

/-- THE TIED CARD OF 'synodlaw19.PathBytes'. -/
def pathBytesCard : Claim7 := { stood := { row := pathBytesRow, standIns := [], harness := (true, "33de0454fb00d3f0f25ac24a1910bb80f992aba599edb37b7cbcbfc9f8741941"), looks := true }, kinds := [], alts := [], laidByText := true, laidKinds := [.data, .data], laidTests := true, laidLooks := .later }
def PathBytesCardSaid : Prop := Claim7.holds Tryd.pinned (.plain (OpenSpec.ofChange pathBytesSpec)) pathBytesCard

/-- THE SECOND FORM's CARD OF 'synodlaw19.PathBytes'. -/
def pathBytesUptoCard : Claim7 := { stood := { row := pathBytesUptoRow, standIns := [], harness := (true, "33de0454fb00d3f0f25ac24a1910bb80f992aba599edb37b7cbcbfc9f8741941"), looks := true }, kinds := [], alts := [], laidByText := true, laidKinds := [.data, .data], laidTests := true, laidLooks := .later }
def PathBytesUptoCardSaid : Prop := Claim7.holds Tryd.pinned (.plain (OpenSpec.upto pathBytesSpec)) pathBytesUptoCard
end Rows
end Go.Proofs.YtgmdcmkokdbeoaaDoor
