/-  -/
import Derived.Test.YtgplnekpgdhcpaaGreatQAwP
import Derived.Test.YtgplnekpgdhcpaaGreatQROne
import Derived.Test.YtgplnekpgdhcpaaGreatQWant
import Derived.Laws.StructEq
import Derived.Test.YtgplnekpgdhcpaaGreatQTurn
import Derived.Test.YtgplnekpgdhcpaaGreatKMark
import Derived.Test.YtgplnekpgdhcpaaGreatQWantsN
namespace Go.Proofs.YtgplnekpgdhcpaaGreat
open Go.RowKit Go.Sort Go.Lib Go.Shelf
theorem partsE_like {X Y:List It} (h:Y.map strip=X.map strip) (c:List UInt8) (q:Int):partsE Y c q=partsE X c q:=by
 unfold partsE;rw[<- chkE_strip Y,<- chkE_strip X,<- codes_strip Y,<- codes_strip X,<- endL_strip Y,<- endL_strip X,h]
theorem endL_like {X Y:List It} (h:Y.map strip=X.map strip) (c:List UInt8) (q:Int):endL Y c q=endL X c q:=by rw[<- endL_strip Y,<- endL_strip X,h]
theorem partsO_like {X Y:List It} (h:Y.map strip=X.map strip):partsO Y=partsO X:=by
 funext c q;unfold partsO;rw[partsE_like h,endL_like h]
theorem rowX_like {X Y:List It} (h:Y.map strip=X.map strip):rowX Y=rowX X:=funext fun c=>row_like h c
theorem lent_st {C M:Nat} {w w0:World} {g1 g2 d2 g3 d3:Nat} {X Y:List It} {L:List LotV} {N:List LineV} (h:LentSt C w g1 g2 d2 g3 d3 X Y L N) (hx:∀ x∈X,ItOk M w0 x) (hl:∀ x∈L,okLot x) (hn:∀ x∈N,okLine x) (m1:X.length<=100000) (m2:L.length<=100000) (m3:N.length<=100000) (hsz:∀ x∈X,x.ps.length*24<=140737488355328/\x.os.length*16<=140737488355328) :
  StIn w.heap.size w (some ⟨g1,0,none⟩) X.length (X.length+12) Y (some ⟨g2,0,none⟩) L.length d2 L (some ⟨g3,0,none⟩) N.length d3 N:=by
 refine⟨h.ri hx,by have:=(h.lotsIn hl).take L.length (by omega);rwa [List.take_left] at this,by have:=(h.linesIn hn).take N.length (by omega);rwa [List.take_left] at this,by omega,by omega,by omega,fun y hy=>?_⟩;obtain⟨i,hi,rfl⟩:=List.mem_iff_getElem.1 hy;have hiX:i<X.length:=by rw[<- h.len];exact hi
 have T:=(h.each i hiX).like;rw[List.getD_eq_getElem?_getD (l:=Y),List.getElem?_eq_getElem hi] at T;simp only[Option.getD_some] at T;rw[T.ps,T.os];exact hsz _ (getD_mem hiX)
theorem drewN_belowP (w:World) (q:Nat):Below w.heap.size w (w.drewN q):=by
 refine⟨?_,?_,?_,?_,fun k _=>?_⟩<;>simp[World.drewN]
end Go.Proofs.YtgplnekpgdhcpaaGreat
