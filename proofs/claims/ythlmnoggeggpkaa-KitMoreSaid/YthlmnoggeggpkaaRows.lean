/-
  No cell of these rows narrows 'for every input' (looked for: loops, veiled, ifaces, maps, wideKeys, modest, calm, conditions, laid).
  DERIVED. THE GIVEN ROWS OF THIS SEAT. 3 by the template 'for every input the law returns true; each argument reads behind the call as it read before'; 0 by the template 'total and deterministic' (their statements: YthlmnoggeggpkaaTotals.lean).
  GIVEN WITH THE SEED: the statements are not yours to turn. If you find one false, say at which input.
  Laid BY PROGRAM, IN A SANDBOX (cutbox-rows.mjs): the forced cells as the released guide's own fill.sh prints them over the translation 3e086e2cc0b2e3f4… (all of the seat's roots in one cut). By AI agents, Wed Nov 11 2026. No macro, syntax, notation, axiom, sorry.
-/
import Derived.Test.YthlmnoggeggpkaaChecked
import GoSem.Claim
import GoSem.ClaimJoined
import GoSem.ClaimMapViews
import Derived.JoinedTies
import Derived.KernelRfl
namespace Go.Proofs.Ythlmnoggeggpkaa
/- THE CELL 'sum', in the pinned program and in every row, IS THE sha256 OF THE DUMP (.gsa) THAT YthlmnoggeggpkaaProg.lean LOADS. Nothing in Lean hashes anything: it is a label: what it is worth is what the hold of that sum in a sandbox is worth. -/
noncomputable def Try.pinned : Pinned := { name := "ythlmnoggeggpkaa", sum := "3e086e2cc0b2e3f484ab31596cd0381db8a69560de64e0f8ecc0bd1d4affe706", checked := Try.checked }
namespace Rows
def none {H : Type} : Left H := { results := [], args := [] }

/-- 'storemanlaw07.KitChecks': WHATEVER THE INPUT: true; the input reads as it did. -/
def kitChecksSpec : ChangeSpec := { name := "kitChecks", fn := fun _ => fun
  | [d] => { results := [.lit (.bool true)], args := [d] }
  | _ => none }
def kitChecksRow : OpenClaim := { program := "ythlmnoggeggpkaa", sum := "3e086e2cc0b2e3f484ab31596cd0381db8a69560de64e0f8ecc0bd1d4affe706", func := "storeman/storemanlaw07.KitChecks", spec := "kitChecks", inPlace := ["internal/bytealg.abigen_runtime_cmpstring"], unfollowed := true, recurses := true, apart := false }
def KitChecksSaid : Prop := kitChecksRow.holds Try.pinned (OpenSpec.ofChange kitChecksSpec)

/-- ITS FALSE NEIGHBOUR: 'it returns false'. Refute it at one input. -/
def kitChecksWrong : ChangeSpec := { name := "kitChecks", fn := fun _ => fun
  | [d] => { results := [.lit (.bool false)], args := [d] }
  | _ => none }
def KitChecksWrongFalsely : Prop := kitChecksRow.holds Try.pinned (OpenSpec.ofChange kitChecksWrong)

/-- 'storemanlaw07.KitEnd': WHATEVER THE INPUT: true; the input reads as it did. -/
def kitEndSpec : ChangeSpec := { name := "kitEnd", fn := fun _ => fun
  | [d1, d2, d3] => { results := [.lit (.bool true)], args := [d1, d2, d3] }
  | _ => none }
def kitEndRow : OpenClaim := { program := "ythlmnoggeggpkaa", sum := "3e086e2cc0b2e3f484ab31596cd0381db8a69560de64e0f8ecc0bd1d4affe706", func := "storeman/storemanlaw07.KitEnd", spec := "kitEnd", inPlace := ["internal/bytealg.abigen_runtime_cmpstring"], unfollowed := true, recurses := true, apart := false }
def KitEndSaid : Prop := kitEndRow.holds Try.pinned (OpenSpec.ofChange kitEndSpec)

/-- ITS FALSE NEIGHBOUR: 'it returns false'. Refute it at one input. -/
def kitEndWrong : ChangeSpec := { name := "kitEnd", fn := fun _ => fun
  | [d1, d2, d3] => { results := [.lit (.bool false)], args := [d1, d2, d3] }
  | _ => none }
def KitEndWrongFalsely : Prop := kitEndRow.holds Try.pinned (OpenSpec.ofChange kitEndWrong)

/-- 'storemanlaw07.KitMore': WHATEVER THE INPUT: true; the input reads as it did. -/
def kitMoreSpec : ChangeSpec := { name := "kitMore", fn := fun _ => fun
  | [d1, d2] => { results := [.lit (.bool true)], args := [d1, d2] }
  | _ => none }
def kitMoreRow : OpenClaim := { program := "ythlmnoggeggpkaa", sum := "3e086e2cc0b2e3f484ab31596cd0381db8a69560de64e0f8ecc0bd1d4affe706", func := "storeman/storemanlaw07.KitMore", spec := "kitMore", inPlace := ["internal/bytealg.abigen_runtime_cmpstring"], unfollowed := true, recurses := true, apart := false }
def KitMoreSaid : Prop := kitMoreRow.holds Try.pinned (OpenSpec.ofChange kitMoreSpec)

/-- ITS FALSE NEIGHBOUR: 'it returns false'. Refute it at one input. -/
def kitMoreWrong : ChangeSpec := { name := "kitMore", fn := fun _ => fun
  | [d1, d2] => { results := [.lit (.bool false)], args := [d1, d2] }
  | _ => none }
def KitMoreWrongFalsely : Prop := kitMoreRow.holds Try.pinned (OpenSpec.ofChange kitMoreWrong)

/- THE SECOND FORM. 'bulk': how many values and letters a reading holds, each counted each time it is reached (what is shared counts as often as it is met; a slice's spare places count too). A statement '..UptoSaid' is the law's where the arguments, and the package variables that the reading takes, are together of bulk at most 1048576: NARROWER than '..Said'. Prove '..Said' where nothing that the law and all that it calls make is longer than what came in: it says more and counts as full. Else prove '..UptoSaid'. A law counts once. -/
mutual
def uptoBulk {H : Type} : DataW H → Nat
  | .lit (.string bytes) => bytes.length + 1
  | .lit _ => 1
  | .nil => 1
  | .ptr d => uptoBulk d + 1
  | .slice elems spare => uptoBulkAll elems + uptoBulkAll spare + 1
  | .agg parts => uptoBulkAll parts + 1
  | .iface _ d => uptoBulk d + 1
  | .map entries => uptoBulkEntries entries + 1
  | .held _ => 1
def uptoBulkAll {H : Type} : List (DataW H) → Nat
  | [] => 0
  | d :: r => uptoBulk d + uptoBulkAll r
def uptoBulkEntries {H : Type} : List (Lit × DataW H) → Nat
  | [] => 0
  | x :: r => uptoBulkEntry x + uptoBulkEntries r
def uptoBulkEntry {H : Type} : Lit × DataW H → Nat
  | (.string bytes, d) => bytes.length + uptoBulk d + 1
  | (_, d) => uptoBulk d + 1
 end
def uptoSmall : (H : Type) → List (DataW H) → Bool := fun _ ds => decide (uptoBulkAll ds ≤ 1048576)
def OpenSpec.upto (s : _root_.Go.ChangeSpec) : _root_.Go.OpenSpec := { _root_.Go.OpenSpec.ofChange s with cond := some uptoSmall }

/-- 'storemanlaw07.KitChecks', WHERE WHAT IT READS IS OF BULK AT MOST 1048576: true; the input reads as it did. -/
def kitChecksUptoRow : OpenClaim := { program := "ythlmnoggeggpkaa", sum := "3e086e2cc0b2e3f484ab31596cd0381db8a69560de64e0f8ecc0bd1d4affe706", func := "storeman/storemanlaw07.KitChecks", spec := "kitChecks", inPlace := ["internal/bytealg.abigen_runtime_cmpstring"], unfollowed := true, recurses := true, apart := false, narrowed := true }
def KitChecksUptoSaid : Prop := kitChecksUptoRow.holds Try.pinned (OpenSpec.upto kitChecksSpec)

/-- 'storemanlaw07.KitEnd', WHERE WHAT IT READS IS OF BULK AT MOST 1048576: true; the input reads as it did. -/
def kitEndUptoRow : OpenClaim := { program := "ythlmnoggeggpkaa", sum := "3e086e2cc0b2e3f484ab31596cd0381db8a69560de64e0f8ecc0bd1d4affe706", func := "storeman/storemanlaw07.KitEnd", spec := "kitEnd", inPlace := ["internal/bytealg.abigen_runtime_cmpstring"], unfollowed := true, recurses := true, apart := false, narrowed := true }
def KitEndUptoSaid : Prop := kitEndUptoRow.holds Try.pinned (OpenSpec.upto kitEndSpec)

/-- 'storemanlaw07.KitMore', WHERE WHAT IT READS IS OF BULK AT MOST 1048576: true; the input reads as it did. -/
def kitMoreUptoRow : OpenClaim := { program := "ythlmnoggeggpkaa", sum := "3e086e2cc0b2e3f484ab31596cd0381db8a69560de64e0f8ecc0bd1d4affe706", func := "storeman/storemanlaw07.KitMore", spec := "kitMore", inPlace := ["internal/bytealg.abigen_runtime_cmpstring"], unfollowed := true, recurses := true, apart := false, narrowed := true }
def KitMoreUptoSaid : Prop := kitMoreUptoRow.holds Try.pinned (OpenSpec.upto kitMoreSpec)

end Rows
end Go.Proofs.Ythlmnoggeggpkaa
