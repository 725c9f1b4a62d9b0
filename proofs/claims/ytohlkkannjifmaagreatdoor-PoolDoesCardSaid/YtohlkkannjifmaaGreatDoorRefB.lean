import Derived.Test.YtohlkkannjifmaaGreatDoorLent
import Derived.Test.YtohlkkannjifmaaGreatDoorPure3
import Derived.Test.YtohlkkannjifmaaGreatDoorOCopy
namespace Go.Proofs.YtohlkkannjifmaaGreatDoor
open Go.RowKit Go.Shelf
theorem OB.own {base:Nat} {W:World} {v:Value} {l:List UInt8} (h:OB base W v l):∀ b,v.ownBlock=some b->base<=b/\b<W.heap.size:=fun b hb=>by
 obtain⟨e,⟨rfl,-⟩|⟨g,cap,cur,rfl,hg,hh,-⟩⟩:=h
 ·cases hb
 ·have:g=b:=by simpa [Value.ownBlock] using hb
  subst this;exact⟨hg,(Array.getElem?_eq_some_iff.1 hh).1⟩
theorem OB.set_ne {base:Nat} {W:World} {v:Value} {l:List UInt8} (h:OB base W v l) {y j:Nat} (hne:v.ownBlock≠some y) (u:Value):OB base (W.setCell ⟨y,j,none⟩ u) v l :=
 own_keep h (fun b e=>Below.heap_setCell W ⟨y,j,none⟩ u b (fun e2=>hne (by rw[e];exact congrArg some e2)))
section
variable {Q:Exit->Act->World->Prop} {a0:Act} {W0:World} {K V:List UInt8} {sA sB:Option Addr} {nA cA nB cB:Nat}
end
end Go.Proofs.YtohlkkannjifmaaGreatDoor
