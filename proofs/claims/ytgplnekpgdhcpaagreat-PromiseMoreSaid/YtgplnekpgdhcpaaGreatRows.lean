/-
  No cell of these rows narrows 'for every input' (looked for: loops, veiled, ifaces, maps, wideKeys, modest, calm, conditions, laid).
  DERIVED. THE GIVEN ROWS OF THIS SEAT. 5 by the template 'for every input the law returns true; each argument reads behind the call as it read before'; 0 by the template 'total and deterministic' (their statements: YtgplnekpgdhcpaaGreatTotals.lean).
  GIVEN WITH THE SEED: the statements are not yours to turn. If you find one false, say at which input.
  Laid BY PROGRAM, IN A SANDBOX (cutbox-rows.mjs): the forced cells as the released guide's own fill.sh prints them over the translation 1b58fd388f2b0253… (all of the seat's roots in one cut). By AI agents, Wed Nov 11 2026. No macro, syntax, notation, axiom, sorry.
-/
import Derived.Test.YtgplnekpgdhcpaaGreatChecked
import GoSem.Claim
import GoSem.ClaimJoined
import GoSem.ClaimMapViews
import Derived.JoinedTies
import Derived.KernelRfl
namespace Go.Proofs.YtgplnekpgdhcpaaGreat
/- THE CELL 'sum', in the pinned program and in every row, IS THE sha256 OF THE DUMP (.gsa) THAT YtgplnekpgdhcpaaGreatProg.lean LOADS. Nothing in Lean hashes anything: it is a label: what it is worth is what the hold of that sum in a sandbox is worth. -/
noncomputable def Tryz.pinned : Pinned := { name := "ytgplnekpgdhcpaagreat", sum := "1b58fd388f2b02533cc25f1db4f532b98c7bdf1baeef5d1305c235558f781ea6", checked := Tryz.checked }
namespace Rows
def none {H : Type} : Left H := { results := [], args := [] }

/-- 'storemanlaw10.PromiseOne': WHATEVER THE INPUT: true; the input reads as it did. -/
def promiseOneSpec : ChangeSpec := { name := "promiseOne", fn := fun _ => fun
  | [d1, d2] => { results := [.lit (.bool true)], args := [d1, d2] }
  | _ => none }
def promiseOneRow : OpenClaim := { program := "ytgplnekpgdhcpaagreat", sum := "1b58fd388f2b02533cc25f1db4f532b98c7bdf1baeef5d1305c235558f781ea6", func := "storeman/storemanlaw10.PromiseOne", spec := "promiseOne", inPlace := ["internal/bytealg.abigen_runtime_cmpstring"], unfollowed := true, recurses := true, apart := false }
def PromiseOneSaid : Prop := promiseOneRow.holds Tryz.pinned (OpenSpec.ofChange promiseOneSpec)

/-- ITS FALSE NEIGHBOUR: 'it returns false'. Refute it at one input. -/
def promiseOneWrong : ChangeSpec := { name := "promiseOne", fn := fun _ => fun
  | [d1, d2] => { results := [.lit (.bool false)], args := [d1, d2] }
  | _ => none }
def PromiseOneWrongFalsely : Prop := promiseOneRow.holds Tryz.pinned (OpenSpec.ofChange promiseOneWrong)

/-- 'storemanlaw10.PromiseAll': WHATEVER THE INPUT: true; the input reads as it did. -/
def promiseAllSpec : ChangeSpec := { name := "promiseAll", fn := fun _ => fun
  | [d] => { results := [.lit (.bool true)], args := [d] }
  | _ => none }
def promiseAllRow : OpenClaim := { program := "ytgplnekpgdhcpaagreat", sum := "1b58fd388f2b02533cc25f1db4f532b98c7bdf1baeef5d1305c235558f781ea6", func := "storeman/storemanlaw10.PromiseAll", spec := "promiseAll", inPlace := ["internal/bytealg.abigen_runtime_cmpstring"], unfollowed := true, recurses := true, apart := false }
def PromiseAllSaid : Prop := promiseAllRow.holds Tryz.pinned (OpenSpec.ofChange promiseAllSpec)

/-- ITS FALSE NEIGHBOUR: 'it returns false'. Refute it at one input. -/
def promiseAllWrong : ChangeSpec := { name := "promiseAll", fn := fun _ => fun
  | [d] => { results := [.lit (.bool false)], args := [d] }
  | _ => none }
def PromiseAllWrongFalsely : Prop := promiseAllRow.holds Tryz.pinned (OpenSpec.ofChange promiseAllWrong)

/-- 'storemanlaw10.PromiseFirst': WHATEVER THE INPUT: true; the input reads as it did. -/
def promiseFirstSpec : ChangeSpec := { name := "promiseFirst", fn := fun _ => fun
  | [d1, d2, d3, d4] => { results := [.lit (.bool true)], args := [d1, d2, d3, d4] }
  | _ => none }
def promiseFirstRow : OpenClaim := { program := "ytgplnekpgdhcpaagreat", sum := "1b58fd388f2b02533cc25f1db4f532b98c7bdf1baeef5d1305c235558f781ea6", func := "storeman/storemanlaw10.PromiseFirst", spec := "promiseFirst", inPlace := ["internal/bytealg.abigen_runtime_cmpstring"], unfollowed := true, recurses := true, apart := false }
def PromiseFirstSaid : Prop := promiseFirstRow.holds Tryz.pinned (OpenSpec.ofChange promiseFirstSpec)

/-- ITS FALSE NEIGHBOUR: 'it returns false'. Refute it at one input. -/
def promiseFirstWrong : ChangeSpec := { name := "promiseFirst", fn := fun _ => fun
  | [d1, d2, d3, d4] => { results := [.lit (.bool false)], args := [d1, d2, d3, d4] }
  | _ => none }
def PromiseFirstWrongFalsely : Prop := promiseFirstRow.holds Tryz.pinned (OpenSpec.ofChange promiseFirstWrong)

/-- 'storemanlaw10.PromiseMore': WHATEVER THE INPUT: true; the input reads as it did. -/
def promiseMoreSpec : ChangeSpec := { name := "promiseMore", fn := fun _ => fun
  | [d1, d2] => { results := [.lit (.bool true)], args := [d1, d2] }
  | _ => none }
def promiseMoreRow : OpenClaim := { program := "ytgplnekpgdhcpaagreat", sum := "1b58fd388f2b02533cc25f1db4f532b98c7bdf1baeef5d1305c235558f781ea6", func := "storeman/storemanlaw10.PromiseMore", spec := "promiseMore", inPlace := ["internal/bytealg.abigen_runtime_cmpstring"], unfollowed := true, recurses := true, apart := false }
def PromiseMoreSaid : Prop := promiseMoreRow.holds Tryz.pinned (OpenSpec.ofChange promiseMoreSpec)

/-- ITS FALSE NEIGHBOUR: 'it returns false'. Refute it at one input. -/
def promiseMoreWrong : ChangeSpec := { name := "promiseMore", fn := fun _ => fun
  | [d1, d2] => { results := [.lit (.bool false)], args := [d1, d2] }
  | _ => none }
def PromiseMoreWrongFalsely : Prop := promiseMoreRow.holds Tryz.pinned (OpenSpec.ofChange promiseMoreWrong)

/-- 'storemanlaw10.PromiseOrder': WHATEVER THE INPUT: true; the input reads as it did. -/
def promiseOrderSpec : ChangeSpec := { name := "promiseOrder", fn := fun _ => fun
  | [d] => { results := [.lit (.bool true)], args := [d] }
  | _ => none }
def promiseOrderRow : OpenClaim := { program := "ytgplnekpgdhcpaagreat", sum := "1b58fd388f2b02533cc25f1db4f532b98c7bdf1baeef5d1305c235558f781ea6", func := "storeman/storemanlaw10.PromiseOrder", spec := "promiseOrder", inPlace := ["internal/bytealg.abigen_runtime_cmpstring"], unfollowed := true, recurses := true, apart := false }
def PromiseOrderSaid : Prop := promiseOrderRow.holds Tryz.pinned (OpenSpec.ofChange promiseOrderSpec)

/-- ITS FALSE NEIGHBOUR: 'it returns false'. Refute it at one input. -/
def promiseOrderWrong : ChangeSpec := { name := "promiseOrder", fn := fun _ => fun
  | [d] => { results := [.lit (.bool false)], args := [d] }
  | _ => none }
def PromiseOrderWrongFalsely : Prop := promiseOrderRow.holds Tryz.pinned (OpenSpec.ofChange promiseOrderWrong)

/- THE SECOND FORM. 'bulk': how many values and letters a reading holds, each counted each time it is reached (what is shared counts as often as it is met; a slice's spare places count too). A statement '..UptoSaid' is the law's where the arguments, and the package variables that the reading takes, are together of bulk at most 1048576: NARROWER than '..Said'. Prove '..Said' where nothing that the law and all that it calls make is longer than what came in: it says more and counts as full. Else prove '..UptoSaid'. A law counts once. -/
mutual
def uptoBulk {H : Type} : DataW H → Nat
  | .lit (.string bytes) => bytes.length + 1
  | .lit _ => 1
  | .nil => 1
  | .ptr d => uptoBulk d + 1
  | .slice elems spare => uptoBulkAll elems + uptoBulkAll spare + 1
  | .agg parts => uptoBulkAll parts + 1
  | .iface _ d => uptoBulk d + 1
  | .map entries => uptoBulkEntries entries + 1
  | .held _ => 1
def uptoBulkAll {H : Type} : List (DataW H) → Nat
  | [] => 0
  | d :: r => uptoBulk d + uptoBulkAll r
def uptoBulkEntries {H : Type} : List (Lit × DataW H) → Nat
  | [] => 0
  | x :: r => uptoBulkEntry x + uptoBulkEntries r
def uptoBulkEntry {H : Type} : Lit × DataW H → Nat
  | (.string bytes, d) => bytes.length + uptoBulk d + 1
  | (_, d) => uptoBulk d + 1
 end
def uptoSmall : (H : Type) → List (DataW H) → Bool := fun _ ds => decide (uptoBulkAll ds ≤ 1048576)
def OpenSpec.upto (s : _root_.Go.ChangeSpec) : _root_.Go.OpenSpec := { _root_.Go.OpenSpec.ofChange s with cond := some uptoSmall }

/-- 'storemanlaw10.PromiseOne', WHERE WHAT IT READS IS OF BULK AT MOST 1048576: true; the input reads as it did. -/
def promiseOneUptoRow : OpenClaim := { program := "ytgplnekpgdhcpaagreat", sum := "1b58fd388f2b02533cc25f1db4f532b98c7bdf1baeef5d1305c235558f781ea6", func := "storeman/storemanlaw10.PromiseOne", spec := "promiseOne", inPlace := ["internal/bytealg.abigen_runtime_cmpstring"], unfollowed := true, recurses := true, apart := false, narrowed := true }
def PromiseOneUptoSaid : Prop := promiseOneUptoRow.holds Tryz.pinned (OpenSpec.upto promiseOneSpec)

/-- 'storemanlaw10.PromiseAll', WHERE WHAT IT READS IS OF BULK AT MOST 1048576: true; the input reads as it did. -/
def promiseAllUptoRow : OpenClaim := { program := "ytgplnekpgdhcpaagreat", sum := "1b58fd388f2b02533cc25f1db4f532b98c7bdf1baeef5d1305c235558f781ea6", func := "storeman/storemanlaw10.PromiseAll", spec := "promiseAll", inPlace := ["internal/bytealg.abigen_runtime_cmpstring"], unfollowed := true, recurses := true, apart := false, narrowed := true }
def PromiseAllUptoSaid : Prop := promiseAllUptoRow.holds Tryz.pinned (OpenSpec.upto promiseAllSpec)

/-- 'storemanlaw10.PromiseFirst', WHERE WHAT IT READS IS OF BULK AT MOST 1048576: true; the input reads as it did. -/
def promiseFirstUptoRow : OpenClaim := { program := "ytgplnekpgdhcpaagreat", sum := "1b58fd388f2b02533cc25f1db4f532b98c7bdf1baeef5d1305c235558f781ea6", func := "storeman/storemanlaw10.PromiseFirst", spec := "promiseFirst", inPlace := ["internal/bytealg.abigen_runtime_cmpstring"], unfollowed := true, recurses := true, apart := false, narrowed := true }
def PromiseFirstUptoSaid : Prop := promiseFirstUptoRow.holds Tryz.pinned (OpenSpec.upto promiseFirstSpec)

/-- 'storemanlaw10.PromiseMore', WHERE WHAT IT READS IS OF BULK AT MOST 1048576: true; the input reads as it did. -/
def promiseMoreUptoRow : OpenClaim := { program := "ytgplnekpgdhcpaagreat", sum := "1b58fd388f2b02533cc25f1db4f532b98c7bdf1baeef5d1305c235558f781ea6", func := "storeman/storemanlaw10.PromiseMore", spec := "promiseMore", inPlace := ["internal/bytealg.abigen_runtime_cmpstring"], unfollowed := true, recurses := true, apart := false, narrowed := true }
def PromiseMoreUptoSaid : Prop := promiseMoreUptoRow.holds Tryz.pinned (OpenSpec.upto promiseMoreSpec)

/-- 'storemanlaw10.PromiseOrder', WHERE WHAT IT READS IS OF BULK AT MOST 1048576: true; the input reads as it did. -/
def promiseOrderUptoRow : OpenClaim := { program := "ytgplnekpgdhcpaagreat", sum := "1b58fd388f2b02533cc25f1db4f532b98c7bdf1baeef5d1305c235558f781ea6", func := "storeman/storemanlaw10.PromiseOrder", spec := "promiseOrder", inPlace := ["internal/bytealg.abigen_runtime_cmpstring"], unfollowed := true, recurses := true, apart := false, narrowed := true }
def PromiseOrderUptoSaid : Prop := promiseOrderUptoRow.holds Tryz.pinned (OpenSpec.upto promiseOrderSpec)

end Rows
end Go.Proofs.YtgplnekpgdhcpaaGreat
