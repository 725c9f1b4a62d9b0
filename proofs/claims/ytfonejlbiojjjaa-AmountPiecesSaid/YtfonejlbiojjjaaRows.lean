/-
  No cell of these rows narrows 'for every input' (looked for: loops, veiled, ifaces, maps, wideKeys, modest, calm, conditions, laid).
  DERIVED. THE GIVEN ROWS OF THIS SEAT. 4 by the template 'for every input the law returns true; each argument reads behind the call as it read before'; 0 by the template 'total and deterministic' (their statements: YtfonejlbiojjjaaTotals.lean).
  GIVEN WITH THE SEED: the statements are not yours to turn. If you find one false, say at which input.
  Laid BY PROGRAM, IN A SANDBOX (cutbox-rows.mjs): the forced cells as the released guide's own fill.sh prints them over the translation fe1d9bb6eee4e3f1… (all of the seat's roots in one cut). By AI agents, Wed Nov 11 2026. No macro, syntax, notation, axiom, sorry.
-/
import Derived.Test.YtfonejlbiojjjaaChecked
import GoSem.Claim
import GoSem.ClaimJoined
import GoSem.ClaimMapViews
import Derived.JoinedTies
import Derived.KernelRfl
namespace Go.Proofs.Ytfonejlbiojjjaa
/- THE CELL 'sum', in the pinned program and in every row, IS THE sha256 OF THE DUMP (.gsa) THAT YtfonejlbiojjjaaProg.lean LOADS. Nothing in Lean hashes anything: it is a label: what it is worth is what the hold of that sum in a sandbox is worth. -/
noncomputable def Try.pinned : Pinned := { name := "ytfonejlbiojjjaa", sum := "fe1d9bb6eee4e3f15c8fee2347d7c31d3983bea3bc32979cc26f7bfd061d3802", checked := Try.checked }
namespace Rows
def none {H : Type} : Left H := { results := [], args := [] }

/-- 'storemanlaw02.AmountTwo': WHATEVER THE INPUT: true; the input reads as it did. -/
def amountTwoSpec : ChangeSpec := { name := "amountTwo", fn := fun _ => fun
  | [d1, d2] => { results := [.lit (.bool true)], args := [d1, d2] }
  | _ => none }
def amountTwoRow : OpenClaim := { program := "ytfonejlbiojjjaa", sum := "fe1d9bb6eee4e3f15c8fee2347d7c31d3983bea3bc32979cc26f7bfd061d3802", func := "storeman/storemanlaw02.AmountTwo", spec := "amountTwo", inPlace := ["internal/bytealg.abigen_runtime_cmpstring"], unfollowed := true, recurses := true, apart := false }
def AmountTwoSaid : Prop := amountTwoRow.holds Try.pinned (OpenSpec.ofChange amountTwoSpec)

/-- ITS FALSE NEIGHBOUR: 'it returns false'. Refute it at one input. -/
def amountTwoWrong : ChangeSpec := { name := "amountTwo", fn := fun _ => fun
  | [d1, d2] => { results := [.lit (.bool false)], args := [d1, d2] }
  | _ => none }
def AmountTwoWrongFalsely : Prop := amountTwoRow.holds Try.pinned (OpenSpec.ofChange amountTwoWrong)

/-- 'storemanlaw02.AmountSums': WHATEVER THE INPUT: true; the input reads as it did. -/
def amountSumsSpec : ChangeSpec := { name := "amountSums", fn := fun _ => fun
  | [d] => { results := [.lit (.bool true)], args := [d] }
  | _ => none }
def amountSumsRow : OpenClaim := { program := "ytfonejlbiojjjaa", sum := "fe1d9bb6eee4e3f15c8fee2347d7c31d3983bea3bc32979cc26f7bfd061d3802", func := "storeman/storemanlaw02.AmountSums", spec := "amountSums", inPlace := ["internal/bytealg.abigen_runtime_cmpstring"], unfollowed := true, recurses := true, apart := false }
def AmountSumsSaid : Prop := amountSumsRow.holds Try.pinned (OpenSpec.ofChange amountSumsSpec)

/-- ITS FALSE NEIGHBOUR: 'it returns false'. Refute it at one input. -/
def amountSumsWrong : ChangeSpec := { name := "amountSums", fn := fun _ => fun
  | [d] => { results := [.lit (.bool false)], args := [d] }
  | _ => none }
def AmountSumsWrongFalsely : Prop := amountSumsRow.holds Try.pinned (OpenSpec.ofChange amountSumsWrong)

/-- 'storemanlaw02.AmountOrder': WHATEVER THE INPUT: true; the input reads as it did. -/
def amountOrderSpec : ChangeSpec := { name := "amountOrder", fn := fun _ => fun
  | [d1, d2, d3] => { results := [.lit (.bool true)], args := [d1, d2, d3] }
  | _ => none }
def amountOrderRow : OpenClaim := { program := "ytfonejlbiojjjaa", sum := "fe1d9bb6eee4e3f15c8fee2347d7c31d3983bea3bc32979cc26f7bfd061d3802", func := "storeman/storemanlaw02.AmountOrder", spec := "amountOrder", inPlace := ["internal/bytealg.abigen_runtime_cmpstring"], unfollowed := true, recurses := true, apart := false }
def AmountOrderSaid : Prop := amountOrderRow.holds Try.pinned (OpenSpec.ofChange amountOrderSpec)

/-- ITS FALSE NEIGHBOUR: 'it returns false'. Refute it at one input. -/
def amountOrderWrong : ChangeSpec := { name := "amountOrder", fn := fun _ => fun
  | [d1, d2, d3] => { results := [.lit (.bool false)], args := [d1, d2, d3] }
  | _ => none }
def AmountOrderWrongFalsely : Prop := amountOrderRow.holds Try.pinned (OpenSpec.ofChange amountOrderWrong)

/-- 'storemanlaw02.AmountPieces': WHATEVER THE INPUT: true; the input reads as it did. -/
def amountPiecesSpec : ChangeSpec := { name := "amountPieces", fn := fun _ => fun
  | [d1, d2] => { results := [.lit (.bool true)], args := [d1, d2] }
  | _ => none }
def amountPiecesRow : OpenClaim := { program := "ytfonejlbiojjjaa", sum := "fe1d9bb6eee4e3f15c8fee2347d7c31d3983bea3bc32979cc26f7bfd061d3802", func := "storeman/storemanlaw02.AmountPieces", spec := "amountPieces", inPlace := ["internal/bytealg.abigen_runtime_cmpstring"], unfollowed := true, recurses := true, apart := false }
def AmountPiecesSaid : Prop := amountPiecesRow.holds Try.pinned (OpenSpec.ofChange amountPiecesSpec)

/-- ITS FALSE NEIGHBOUR: 'it returns false'. Refute it at one input. -/
def amountPiecesWrong : ChangeSpec := { name := "amountPieces", fn := fun _ => fun
  | [d1, d2] => { results := [.lit (.bool false)], args := [d1, d2] }
  | _ => none }
def AmountPiecesWrongFalsely : Prop := amountPiecesRow.holds Try.pinned (OpenSpec.ofChange amountPiecesWrong)

/- THE SECOND FORM. 'bulk': how many values and letters a reading holds, each counted each time it is reached (what is shared counts as often as it is met; a slice's spare places count too). A statement '..UptoSaid' is the law's where the arguments, and the package variables that the reading takes, are together of bulk at most 1048576: NARROWER than '..Said'. Prove '..Said' where nothing that the law and all that it calls make is longer than what came in: it says more and counts as full. Else prove '..UptoSaid'. A law counts once. -/
mutual
def uptoBulk {H : Type} : DataW H → Nat
  | .lit (.string bytes) => bytes.length + 1
  | .lit _ => 1
  | .nil => 1
  | .ptr d => uptoBulk d + 1
  | .slice elems spare => uptoBulkAll elems + uptoBulkAll spare + 1
  | .agg parts => uptoBulkAll parts + 1
  | .iface _ d => uptoBulk d + 1
  | .map entries => uptoBulkEntries entries + 1
  | .held _ => 1
def uptoBulkAll {H : Type} : List (DataW H) → Nat
  | [] => 0
  | d :: r => uptoBulk d + uptoBulkAll r
def uptoBulkEntries {H : Type} : List (Lit × DataW H) → Nat
  | [] => 0
  | x :: r => uptoBulkEntry x + uptoBulkEntries r
def uptoBulkEntry {H : Type} : Lit × DataW H → Nat
  | (.string bytes, d) => bytes.length + uptoBulk d + 1
  | (_, d) => uptoBulk d + 1
 end
def uptoSmall : (H : Type) → List (DataW H) → Bool := fun _ ds => decide (uptoBulkAll ds ≤ 1048576)
def OpenSpec.upto (s : _root_.Go.ChangeSpec) : _root_.Go.OpenSpec := { _root_.Go.OpenSpec.ofChange s with cond := some uptoSmall }

/-- 'storemanlaw02.AmountTwo', WHERE WHAT IT READS IS OF BULK AT MOST 1048576: true; the input reads as it did. -/
def amountTwoUptoRow : OpenClaim := { program := "ytfonejlbiojjjaa", sum := "fe1d9bb6eee4e3f15c8fee2347d7c31d3983bea3bc32979cc26f7bfd061d3802", func := "storeman/storemanlaw02.AmountTwo", spec := "amountTwo", inPlace := ["internal/bytealg.abigen_runtime_cmpstring"], unfollowed := true, recurses := true, apart := false, narrowed := true }
def AmountTwoUptoSaid : Prop := amountTwoUptoRow.holds Try.pinned (OpenSpec.upto amountTwoSpec)

/-- 'storemanlaw02.AmountSums', WHERE WHAT IT READS IS OF BULK AT MOST 1048576: true; the input reads as it did. -/
def amountSumsUptoRow : OpenClaim := { program := "ytfonejlbiojjjaa", sum := "fe1d9bb6eee4e3f15c8fee2347d7c31d3983bea3bc32979cc26f7bfd061d3802", func := "storeman/storemanlaw02.AmountSums", spec := "amountSums", inPlace := ["internal/bytealg.abigen_runtime_cmpstring"], unfollowed := true, recurses := true, apart := false, narrowed := true }
def AmountSumsUptoSaid : Prop := amountSumsUptoRow.holds Try.pinned (OpenSpec.upto amountSumsSpec)

/-- 'storemanlaw02.AmountOrder', WHERE WHAT IT READS IS OF BULK AT MOST 1048576: true; the input reads as it did. -/
def amountOrderUptoRow : OpenClaim := { program := "ytfonejlbiojjjaa", sum := "fe1d9bb6eee4e3f15c8fee2347d7c31d3983bea3bc32979cc26f7bfd061d3802", func := "storeman/storemanlaw02.AmountOrder", spec := "amountOrder", inPlace := ["internal/bytealg.abigen_runtime_cmpstring"], unfollowed := true, recurses := true, apart := false, narrowed := true }
def AmountOrderUptoSaid : Prop := amountOrderUptoRow.holds Try.pinned (OpenSpec.upto amountOrderSpec)

/-- 'storemanlaw02.AmountPieces', WHERE WHAT IT READS IS OF BULK AT MOST 1048576: true; the input reads as it did. -/
def amountPiecesUptoRow : OpenClaim := { program := "ytfonejlbiojjjaa", sum := "fe1d9bb6eee4e3f15c8fee2347d7c31d3983bea3bc32979cc26f7bfd061d3802", func := "storeman/storemanlaw02.AmountPieces", spec := "amountPieces", inPlace := ["internal/bytealg.abigen_runtime_cmpstring"], unfollowed := true, recurses := true, apart := false, narrowed := true }
def AmountPiecesUptoSaid : Prop := amountPiecesUptoRow.holds Try.pinned (OpenSpec.upto amountPiecesSpec)

end Rows
end Go.Proofs.Ytfonejlbiojjjaa
