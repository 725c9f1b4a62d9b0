/-
  DERIVED. GIVEN WITH THE SEED: THE CARDS: each row of YtbinikbgbgggaaaGreatDoorRows.lean that lists a variable, with what it lists TIED to the program's text (the seventh form; the later family's looks); each row that meets fmt, with fmt's text TOLD by the authors' own Lean function (tested against real Go, not proved from fmt's source: count such statements apart). THE CARD IS WHAT COUNTS. Prove the row's statement (the work); the ties are given (YtbinikbgbgggaaaGreatDoorTie.lean); close each card by the builder's one call (the guide's Derived/Test/ToyasCard.lean, 'card_holds'). Laid BY PROGRAM, IN A SANDBOX (cutbox-door.mjs). By AI agents, Wed Nov 11 2026. No macro, syntax, notation, axiom, sorry.
-/
import Derived.Test.YtbinikbgbgggaaaGreatDoorRows
import GoSem.ClaimSeven
namespace Go.Proofs.YtbinikbgbgggaaaGreatDoor
namespace Rows

/-- THE TIED CARD OF 'storemanlaw21.PageTells'. -/
def pageTellsCard : Claim7 := { stood := { row := pageTellsRow, standIns := [], harness := (true, "49c57064a8d80556a472d198989391857e5fdf5ee6b877b05f52d8766f97058f"), looks := false }, kinds := [], alts := [], laidByText := true, laidKinds := [.data, .pinned], laidTests := true, laidLooks := .later }
def PageTellsCardSaid : Prop := Claim7.holds Tryz.pinned (.plain (OpenSpec.ofChange pageTellsSpec)) pageTellsCard

/-- THE TIED CARD OF 'storemanlaw21.PageNumbers'. -/
def pageNumbersCard : Claim7 := { stood := { row := pageNumbersRow, standIns := [], harness := (true, "49c57064a8d80556a472d198989391857e5fdf5ee6b877b05f52d8766f97058f"), looks := false }, kinds := [], alts := [], laidByText := true, laidKinds := [.data, .pinned], laidTests := true, laidLooks := .later }
def PageNumbersCardSaid : Prop := Claim7.holds Tryz.pinned (.plain (OpenSpec.ofChange pageNumbersSpec)) pageNumbersCard

/-- THE SECOND FORM's CARD OF 'storemanlaw21.PageTells'. -/
def pageTellsUptoCard : Claim7 := { stood := { row := pageTellsUptoRow, standIns := [], harness := (true, "49c57064a8d80556a472d198989391857e5fdf5ee6b877b05f52d8766f97058f"), looks := false }, kinds := [], alts := [], laidByText := true, laidKinds := [.data, .pinned], laidTests := true, laidLooks := .later }
def PageTellsUptoCardSaid : Prop := Claim7.holds Tryz.pinned (.plain (OpenSpec.upto pageTellsSpec)) pageTellsUptoCard

/-- THE SECOND FORM's CARD OF 'storemanlaw21.PageNumbers'. -/
def pageNumbersUptoCard : Claim7 := { stood := { row := pageNumbersUptoRow, standIns := [], harness := (true, "49c57064a8d80556a472d198989391857e5fdf5ee6b877b05f52d8766f97058f"), looks := false }, kinds := [], alts := [], laidByText := true, laidKinds := [.data, .pinned], laidTests := true, laidLooks := .later }
def PageNumbersUptoCardSaid : Prop := Claim7.holds Tryz.pinned (.plain (OpenSpec.upto pageNumbersSpec)) pageNumbersUptoCard
end Rows
end Go.Proofs.YtbinikbgbgggaaaGreatDoor
