/-
  DERIVED. GIVEN WITH THE SEED: THE CARDS: each row of YtohlkkannjifmaaGreatDoorRows.lean that lists a variable, with what it lists TIED to the program's text (the seventh form; the later family's looks); each row that meets fmt, with fmt's text TOLD by the authors' own Lean function (tested against real Go, not proved from fmt's source: count such statements apart). THE CARD IS WHAT COUNTS. Prove the row's statement (the work); the ties are given (YtohlkkannjifmaaGreatDoorTie.lean); close each card by the builder's one call (the guide's Derived/Test/ToyasCard.lean, 'card_holds'). Laid BY PROGRAM, IN A SANDBOX (cutbox-door.mjs). By AI agents, Wed Nov 11 2026. No macro, syntax, notation, axiom, sorry.
-/
import Derived.Test.YtohlkkannjifmaaGreatDoorRows
import GoSem.ClaimSeven
namespace Go.Proofs.YtohlkkannjifmaaGreatDoor
namespace Rows

/-- THE TIED CARD OF 'storemanlaw22.PoolFew'. -/
def poolFewCard : Claim7 := { stood := { row := poolFewRow, standIns := [], harness := (true, "bcaf89e4dcf18fa7f24154d8006778e3b07a041b9cbc79f8954867a6020da83b"), looks := false }, kinds := [], alts := [], laidByText := true, laidKinds := [.data, .sentinel, .pinned], laidTests := true, laidLooks := .later }
def PoolFewCardSaid : Prop := Claim7.holds Tryz.pinned (.plain (OpenSpec.ofChange poolFewSpec)) poolFewCard

/-- THE TIED CARD OF 'storemanlaw22.PoolAgain'. -/
def poolAgainCard : Claim7 := { stood := { row := poolAgainRow, standIns := [], harness := (true, "bcaf89e4dcf18fa7f24154d8006778e3b07a041b9cbc79f8954867a6020da83b"), looks := false }, kinds := [], alts := [], laidByText := true, laidKinds := [.data, .sentinel, .pinned], laidTests := true, laidLooks := .later }
def PoolAgainCardSaid : Prop := Claim7.holds Tryz.pinned (.plain (OpenSpec.ofChange poolAgainSpec)) poolAgainCard

/-- THE TIED CARD OF 'storemanlaw22.PoolDoes'. -/
def poolDoesCard : Claim7 := { stood := { row := poolDoesRow, standIns := [], harness := (true, "bcaf89e4dcf18fa7f24154d8006778e3b07a041b9cbc79f8954867a6020da83b"), looks := false }, kinds := [], alts := [], laidByText := true, laidKinds := [.data, .sentinel, .pinned], laidTests := true, laidLooks := .later }
def PoolDoesCardSaid : Prop := Claim7.holds Tryz.pinned (.plain (OpenSpec.ofChange poolDoesSpec)) poolDoesCard

/-- THE TIED CARD OF 'storemanlaw22.PoolNone'. -/
def poolNoneCard : Claim7 := { stood := { row := poolNoneRow, standIns := [], harness := (true, "bcaf89e4dcf18fa7f24154d8006778e3b07a041b9cbc79f8954867a6020da83b"), looks := false }, kinds := [], alts := [], laidByText := true, laidKinds := [.data, .sentinel, .pinned], laidTests := true, laidLooks := .later }
def PoolNoneCardSaid : Prop := Claim7.holds Tryz.pinned (.plain (OpenSpec.ofChange poolNoneSpec)) poolNoneCard

/-- THE SECOND FORM's CARD OF 'storemanlaw22.PoolFew'. -/
def poolFewUptoCard : Claim7 := { stood := { row := poolFewUptoRow, standIns := [], harness := (true, "bcaf89e4dcf18fa7f24154d8006778e3b07a041b9cbc79f8954867a6020da83b"), looks := false }, kinds := [], alts := [], laidByText := true, laidKinds := [.data, .sentinel, .pinned], laidTests := true, laidLooks := .later }
def PoolFewUptoCardSaid : Prop := Claim7.holds Tryz.pinned (.plain (OpenSpec.upto poolFewSpec)) poolFewUptoCard

/-- THE SECOND FORM's CARD OF 'storemanlaw22.PoolAgain'. -/
def poolAgainUptoCard : Claim7 := { stood := { row := poolAgainUptoRow, standIns := [], harness := (true, "bcaf89e4dcf18fa7f24154d8006778e3b07a041b9cbc79f8954867a6020da83b"), looks := false }, kinds := [], alts := [], laidByText := true, laidKinds := [.data, .sentinel, .pinned], laidTests := true, laidLooks := .later }
def PoolAgainUptoCardSaid : Prop := Claim7.holds Tryz.pinned (.plain (OpenSpec.upto poolAgainSpec)) poolAgainUptoCard

/-- THE SECOND FORM's CARD OF 'storemanlaw22.PoolDoes'. -/
def poolDoesUptoCard : Claim7 := { stood := { row := poolDoesUptoRow, standIns := [], harness := (true, "bcaf89e4dcf18fa7f24154d8006778e3b07a041b9cbc79f8954867a6020da83b"), looks := false }, kinds := [], alts := [], laidByText := true, laidKinds := [.data, .sentinel, .pinned], laidTests := true, laidLooks := .later }
def PoolDoesUptoCardSaid : Prop := Claim7.holds Tryz.pinned (.plain (OpenSpec.upto poolDoesSpec)) poolDoesUptoCard

/-- THE SECOND FORM's CARD OF 'storemanlaw22.PoolNone'. -/
def poolNoneUptoCard : Claim7 := { stood := { row := poolNoneUptoRow, standIns := [], harness := (true, "bcaf89e4dcf18fa7f24154d8006778e3b07a041b9cbc79f8954867a6020da83b"), looks := false }, kinds := [], alts := [], laidByText := true, laidKinds := [.data, .sentinel, .pinned], laidTests := true, laidLooks := .later }
def PoolNoneUptoCardSaid : Prop := Claim7.holds Tryz.pinned (.plain (OpenSpec.upto poolNoneSpec)) poolNoneUptoCard
end Rows
end Go.Proofs.YtohlkkannjifmaaGreatDoor
