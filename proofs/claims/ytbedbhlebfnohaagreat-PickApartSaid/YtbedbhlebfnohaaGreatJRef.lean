/- The walk of the document's Join. -/
import Derived.Test.YtbedbhlebfnohaaGreatJBase
import Derived.Test.YtbedbhlebfnohaaGreatJPureB
import Derived.Test.YtbedbhlebfnohaaGreatQItC
import Derived.Laws.OwnMore
import Derived.Test.YtbedbhlebfnohaaGreatJSame
import Derived.Deep.DeepCutAuto
namespace Go.Proofs.YtbedbhlebfnohaaGreat
open Go.RowKit

theorem drewN_below (w : World) (q : Nat) (B : Nat) : Below B w (w.drewN q) := ⟨rfl, rfl, rfl, Nat.le_refl _, fun _ _ => rfl⟩

end Go.Proofs.YtbedbhlebfnohaaGreat
