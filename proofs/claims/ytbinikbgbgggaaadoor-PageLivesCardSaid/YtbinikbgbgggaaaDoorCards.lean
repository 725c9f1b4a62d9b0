/-
  DERIVED. GIVEN WITH THE SEED: THE CARDS: each row of YtbinikbgbgggaaaDoorRows.lean that lists a variable, with what it lists TIED to the program's text (the seventh form; the later family's looks); each row that meets fmt, with fmt's text TOLD by the authors' own Lean function (tested against real Go, not proved from fmt's source: count such statements apart). THE CARD IS WHAT COUNTS. Prove the row's statement (the work); the ties are given (YtbinikbgbgggaaaDoorTie.lean); close each card by the builder's one call (the guide's Derived/Test/ToyasCard.lean, 'card_holds'). Laid BY PROGRAM, IN A SANDBOX (cutbox-door.mjs). By AI agents, Wed Nov 11 2026. No macro, syntax, notation, axiom, sorry.
-/
import Derived.Test.YtbinikbgbgggaaaDoorRows
import GoSem.ClaimSeven
namespace Go.Proofs.YtbinikbgbgggaaaDoor
namespace Rows

/-- THE TIED CARD OF 'storemanlaw21.PageRoom'. -/
def pageRoomCard : Claim7 := { stood := { row := pageRoomRow, standIns := [], harness := (true, "e2c5a250d751904a1af9dfbeef833f16060729127f53954fe35501079c7d5424"), looks := false }, kinds := [], alts := [], laidByText := true, laidKinds := [.data, .pinned], laidTests := true, laidLooks := .later }
def PageRoomCardSaid : Prop := Claim7.holds Tryd.pinned (.plain (OpenSpec.ofChange pageRoomSpec)) pageRoomCard

/-- THE TIED CARD OF 'storemanlaw21.PageLives'. -/
def pageLivesCard : Claim7 := { stood := { row := pageLivesRow, standIns := [], harness := (true, "e2c5a250d751904a1af9dfbeef833f16060729127f53954fe35501079c7d5424"), looks := false }, kinds := [], alts := [], laidByText := true, laidKinds := [.data, .pinned], laidTests := true, laidLooks := .later }
def PageLivesCardSaid : Prop := Claim7.holds Tryd.pinned (.plain (OpenSpec.ofChange pageLivesSpec)) pageLivesCard

/-- THE TIED CARD OF 'storemanlaw21.PageKeeps'. -/
def pageKeepsCard : Claim7 := { stood := { row := pageKeepsRow, standIns := [], harness := (true, "e2c5a250d751904a1af9dfbeef833f16060729127f53954fe35501079c7d5424"), looks := false }, kinds := [], alts := [], laidByText := true, laidKinds := [.data, .pinned], laidTests := true, laidLooks := .later }
def PageKeepsCardSaid : Prop := Claim7.holds Tryd.pinned (.plain (OpenSpec.ofChange pageKeepsSpec)) pageKeepsCard

/-- THE SECOND FORM's CARD OF 'storemanlaw21.PageRoom'. -/
def pageRoomUptoCard : Claim7 := { stood := { row := pageRoomUptoRow, standIns := [], harness := (true, "e2c5a250d751904a1af9dfbeef833f16060729127f53954fe35501079c7d5424"), looks := false }, kinds := [], alts := [], laidByText := true, laidKinds := [.data, .pinned], laidTests := true, laidLooks := .later }
def PageRoomUptoCardSaid : Prop := Claim7.holds Tryd.pinned (.plain (OpenSpec.upto pageRoomSpec)) pageRoomUptoCard

/-- THE SECOND FORM's CARD OF 'storemanlaw21.PageLives'. -/
def pageLivesUptoCard : Claim7 := { stood := { row := pageLivesUptoRow, standIns := [], harness := (true, "e2c5a250d751904a1af9dfbeef833f16060729127f53954fe35501079c7d5424"), looks := false }, kinds := [], alts := [], laidByText := true, laidKinds := [.data, .pinned], laidTests := true, laidLooks := .later }
def PageLivesUptoCardSaid : Prop := Claim7.holds Tryd.pinned (.plain (OpenSpec.upto pageLivesSpec)) pageLivesUptoCard

/-- THE SECOND FORM's CARD OF 'storemanlaw21.PageKeeps'. -/
def pageKeepsUptoCard : Claim7 := { stood := { row := pageKeepsUptoRow, standIns := [], harness := (true, "e2c5a250d751904a1af9dfbeef833f16060729127f53954fe35501079c7d5424"), looks := false }, kinds := [], alts := [], laidByText := true, laidKinds := [.data, .pinned], laidTests := true, laidLooks := .later }
def PageKeepsUptoCardSaid : Prop := Claim7.holds Tryd.pinned (.plain (OpenSpec.upto pageKeepsSpec)) pageKeepsUptoCard
end Rows
end Go.Proofs.YtbinikbgbgggaaaDoor
