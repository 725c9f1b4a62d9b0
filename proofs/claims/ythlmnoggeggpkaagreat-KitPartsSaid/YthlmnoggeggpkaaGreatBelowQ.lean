/- Regions that draw their order, whose operations read what stands, and whose calls leave all that stands: one walk of the text's order. -/
import Derived.Test.YthlmnoggeggpkaaGreatKShape
import Derived.Deep.Quiet
import Derived.Deep.QuietTactic
import Derived.Deep.RegionWith
import Derived.BigRegion
namespace Go.Proofs.YthlmnoggeggpkaaGreat
open Go.RowKit

/-- The worlds in which all that stood in W stands as it stood. -/
structure BelowW (W : World) where
  v : World
  h : Below W.heap.size W v
instance (W : World) : Nonempty (BelowW W) := ⟨⟨W, Below.refl _ _⟩⟩
theorem wp_region_below {P : Program} {id : Nat} {Q : Exit → Act → World → Prop} {a : Act} {w : World} {l : List Oper} (W : World) (hm : P.follows .mixedOrders = true) (hB : Region.lexB .any l.toArray = true) (hW : Below W.heap.size W w)
    (h : wpQuiet P l.toArray (fun w' => ∃ x : BelowW W, w' = x.v) (fun a' => ∀ w', (∃ x : BelowW W, w' = x.v) → Q .normal a' w') l a) : (Code.region id l.toArray true).wp P Q a w := by
  simp only [Region.lexB, Bool.and_eq_true] at hB
  refine wp_region_any hm (wpAny_of_quiet (C := fun w' => ∃ x : BelowW W, w' = x.v) (Q' := Q) (Q := fun a' => ∀ w', (∃ x : BelowW W, w' = x.v) → Q .normal a' w') (fun _ w' hw' h => h w' hw') _ _ _ _ ⟨⟨_, hW.drew⟩, rfl⟩ ?_)
  have := wpAnyQ_lex (P := P) (C := fun w' => ∃ x : BelowW W, w' = x.v) (md := .any) hB.1 l.toArray.toList 0 (Array.replicate l.toArray.size false) a (by simp) (by simpa using hB.2) (by simpa using h)
  simpa using this
/-- A contract of the kind 'all that stood stands', at a call of such a region. -/
theorem below_call {P : Program} {f : FuncId} {args : Array Value} {W : World} {x : BelowW W} {v : Value} (h : Calls P f args x.v fun e w' => e = .returned v ∧ Below x.v.heap.size x.v w') : Calls P f args x.v fun e w' => e = .returned v ∧ ∃ y : BelowW W, w' = y.v :=
  h.mono fun _ w' ⟨he, hb⟩ => ⟨he, ⟨w', x.h.trans (hb.mono x.h.size)⟩, rfl⟩
theorem below_call_drew {P : Program} {f : FuncId} {args : Array Value} {W : World} {x : BelowW W} {v : Value} (h : Calls P f args x.v fun e w' => e = .returned v ∧ ∃ q, w' = x.v.drewN q) : Calls P f args x.v fun e w' => e = .returned v ∧ ∃ y : BelowW W, w' = y.v :=
  h.mono fun _ w' ⟨he, q, hq⟩ => ⟨he, ⟨w', by rw [hq]; exact below_dn x.h q⟩, rfl⟩
theorem below_call_same {P : Program} {f : FuncId} {args : Array Value} {W : World} {x : BelowW W} {v : Value} (h : Calls P f args x.v fun e w' => e = .returned v ∧ x.v = w') : Calls P f args x.v fun e w' => e = .returned v ∧ ∃ y : BelowW W, w' = y.v :=
  h.mono fun _ w' ⟨he, hq⟩ => ⟨he, x, hq.symm⟩
end Go.Proofs.YthlmnoggeggpkaaGreat
