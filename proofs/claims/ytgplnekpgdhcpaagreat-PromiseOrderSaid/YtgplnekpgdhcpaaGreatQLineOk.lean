/- swap.Row: its walk. What a line may be. (Plain; printed by gen/rright.py.) -/
import Derived.Test.YtgplnekpgdhcpaaGreatQIdxItem
import Derived.Test.YtgplnekpgdhcpaaGreatTxA
import Derived.Deep.RegionHeld3
import Derived.Test.YtgplnekpgdhcpaaGreatQFill
namespace Go.Proofs.YtgplnekpgdhcpaaGreat
open Go.RowKit Go.Lib
def rowX (X:List It) (c:List UInt8):List (List UInt8):=match X.find? (fun x=>decide (x.code=c)) with
 | some x=>c :: x.os
 | none=>[]
theorem lit_tx (w:World) (c:List UInt8) (hc:c.length<=9223372036854775807) (B:Nat) (hB:w.heap.size < B):txE.In B (w.alloc (.cells #[.string ⟨c.toArray⟩] 9)) (some ⟨w.heap.size,0,none⟩) 1 1 [c]:=by
 refine⟨rfl,Nat.le_refl _,by decide,fun x hx=>by rw[List.mem_singleton.1 hx];exact hc,fun _=>⟨_,_,rfl,hB,fun i hi j hj=>?_⟩⟩
 obtain rfl:i=0:=by omega
 have hj':j < 1:=hj
 obtain rfl:j=0:=by omega
 unfold World.cell?
 rw[heap_alloc_new]
 rfl
set_option maxHeartbeats 2000000 in
set_option maxRecDepth 100000 in
theorem row_any (B:Nat) (a:Option Addr) (n c:Nat) (T:List (List UInt8)) (k:List UInt8) (w:World) (h:txE.In B w a n c T) (hB:B<=w.heap.size) (hk:k.length<=9223372036854775807) (hn:n * 16<=140737488355328) :
  Calls Tryz.prog 56 #[.string ⟨k.toArray⟩,.slice a n c] w fun e w'=>∃ a' c',e = .returned (.slice a' (n+1) c')/\txE.Own w.heap.size w' (.slice a' (n+1) c') (k :: T)/\Below w.heap.size w w':=by
 obtain⟨W1,hW1⟩:∃ V,V=w.alloc (.cells #[.string ⟨k.toArray⟩] 9):=⟨_,rfl⟩
 obtain⟨W2,hW2⟩:∃ V,V=W1.alloc (.cells #[.slice (some ⟨w.heap.size,0,none⟩) 1 1,.slice a n c] 43):=⟨_,rfl⟩
 have b1:Below w.heap.size w W1:=by rw[hW1];exact (Below.refl _ w).alloc (Nat.le_refl _) _
 have s1:W1.heap.size=w.heap.size+1:=by rw[hW1,World.size_alloc]
 have s2:W2.heap.size=w.heap.size+2:=by rw[hW2,World.size_alloc,s1]
 have b2:Below W1.heap.size W1 W2:=by rw[hW2];exact (Below.refl _ W1).alloc (Nat.le_refl _) _
 have b12:Below w.heap.size w W2:=b1.trans (b2.mono (by omega))
 have hV:RTV W2.heap.size W2 (some ⟨w.heap.size+1,0,none⟩) 2 2 [⟨some ⟨w.heap.size,0,none⟩,1,1,[k]⟩,⟨a,n,c,T⟩]:=by
  refine⟨rfl,Nat.le_refl _,by decide,fun _=>⟨_,_,rfl,by omega,fun i hi=>?_⟩,fun i hi=>?_⟩
  ·have e:i=0∨i=1:=by omega
   have hh:W2.heap[w.heap.size+1]? = some (.cells #[.slice (some ⟨w.heap.size,0,none⟩) 1 1,.slice a n c] 43):=by rw[hW2,<- s1];exact heap_alloc_new _ _
   unfold World.cell?
   rw[hh]
   rcases e with rfl | rfl <;> rfl
  ·have e:i=0∨i=1:=by omega
   rcases e with rfl | rfl
   ·have:txE.In W1.heap.size W1 (some ⟨w.heap.size,0,none⟩) 1 1 [k]:=by rw[hW1];exact lit_tx w k hk _ (by rw[World.size_alloc];omega)
    exact (this.below b2).mono (by omega)
   ·exact (h.below (b12.mono hB)).mono (by omega)
 have HC:=Lib.hid (ConcatTx_any W2.heap.size _ 2 2 _ W2 hV (Nat.le_refl _) (by simp[flatT]) (by have:=h.len;simp[flatT];unfold txMax;omega))
 have e:flatT [⟨some ⟨w.heap.size,0,none⟩,1,1,[k]⟩,⟨a,n,c,T⟩]=k :: T:=by simp[flatT]
 rw[e] at HC
 have el:(k :: T).length=n+1:=by rw[List.length_cons,h.len]
 rw[el] at HC
 have HW2:=Lib.hid hW2
 have HW1:=Lib.hid hW1
 have HB:=Lib.hid b12
 have HS:=Lib.hid s1
 clear hV e el hW1 hW2 b1 b2 b12 s1 s2 h
 go_enter Tryz.func56,Tryz.ntmps56
 go_wp2_with (go_at_call 90;rw[<- HW1.out,<- HW2.out];refine HC.out.mono ?_;rintro e w9 ⟨a9,c9,rfl,ho9,hb9⟩;have O9:=Lib.hid ho9;have B9:=Lib.hid (HB.out.trans (hb9.mono HB.out.size));clear ho9 hb9)
 go_ret
 exact⟨a9,c9,rfl,O9.out.mono HB.out.size,B9.out⟩
theorem row1_any (p:Nat) (c:List UInt8) (x:It) (w:World) (hlt:p < w.heap.size) (hp:w.cell? ⟨p,0,none⟩=some (.string ⟨c.toArray⟩)) :
  Calls Tryz.prog 55 (#[.agg #[encStr x.code,.int .i64 x.life,.slice x.pa x.ps.length x.pc,.slice x.oa x.os.length x.oc]] ++ #[.pointer (some ⟨p,0,none⟩)]) w fun e w'=>e = .returned (.bool (decide (x.code=c)))/\Below w.heap.size w w':=by
 have hp2:∀ o,(w.alloc o).cell? ⟨p,0,none⟩=some (.string ⟨c.toArray⟩):=fun o=>(((Below.refl w.heap.size w).alloc (Nat.le_refl _) o).cell (p:=⟨p,0,none⟩) hlt).trans hp
 have HB:=Lib.hid (fun o=>(Below.refl w.heap.size w).alloc (Nat.le_refl _) o)
 obtain⟨x_code,x_life,x_pa,x_pc,x_ps,x_oa,x_oc,x_os⟩:=x
 unfold encStr
 simp only
 clear hp
 show Calls _ _ #[_,_] w _
 by_cases hcc:x_code=c
 ·have e1:(x_code == c)=true:=by simpa using hcc
  have E:=Lib.hid (show decide (x_code=c)=true from decide_eq_true hcc)
  clear hcc
  go_enter Tryz.func55,Tryz.ntmps55
  go_wp2_with (fail)
  go_ret
  exact⟨by rw[E.out];first | rfl | simp[*],HB.out _⟩
 ·have e1:(x_code == c)=false:=by simpa using hcc
  have E:=Lib.hid (show decide (x_code=c)=false from decide_eq_false hcc)
  clear hcc
  go_enter Tryz.func55,Tryz.ntmps55
  go_wp2_with (fail)
  go_ret
  exact⟨by rw[E.out];first | rfl | simp[*],HB.out _⟩
theorem rowX_some {X:List It} {c:List UInt8} {j:Nat} (hj:j < X.length) (h:idxI (fun x:It=>decide (x.code=c)) X=(j:Nat)):rowX X c=c :: (X.getD j default).os:=by
 unfold idxI at h
 cases hf:X.findIdx? (fun x=>decide (x.code=c)) with
 | none=>rw[hf] at h;simp only at h;omega
 | some i =>
  rw[hf] at h
  simp only at h
  obtain rfl:i=j:=by omega
  obtain⟨hi,hp,hall⟩:=List.findIdx?_eq_some_iff_getElem.1 hf
  unfold rowX
  have h1:X.find? (fun x=>decide (x.code=c))=some (X.getD i default):=by
   rw[List.find?_eq_some_iff_getElem]
   refine⟨?_,i,hi,?_,fun k hk=>?_⟩
   ·rw[List.getD_eq_getElem?_getD,List.getElem?_eq_getElem hi];exact hp
   ·rw[List.getD_eq_getElem?_getD,List.getElem?_eq_getElem hi];rfl
   ·simpa using hall k hk
  rw[h1]
theorem rowX_no {X:List It} {c:List UInt8} (h:idxI (fun x:It=>decide (x.code=c)) X = -1):rowX X c=[]:=by
 unfold rowX
 rw[List.find?_eq_none.2 (fun x hx=>by
  cases ha:decide (x.code=c) with
  | false=>simp
  | true =>
   have:0<=idxI (fun x:It=>decide (x.code=c)) X:=idxI_ge.2 (List.any_eq_true.2 ⟨x,hx,ha⟩)
   omega)]
theorem idxI_formT {α:Type} (p:α->Bool) (X:List α):idxI p X = -1∨∃ j:Nat,j < X.length/\idxI p X=j:=by
 unfold idxI
 cases h:X.findIdx? p with
 | none=>exact .inl rfl
 | some i=>exact .inr ⟨i,(List.findIdx?_eq_some_iff_getElem.1 h).1,rfl⟩
theorem below_drewT {B:Nat} {w w':World} (h:Below B w w'):Below B w w'.drew:=h.trans ⟨rfl,rfl,rfl,Nat.le_refl _,fun _ _=>rfl⟩
set_option maxHeartbeats 4000000 in
set_option maxRecDepth 100000 in
theorem Row_any (B:Nat) (a:Option Addr) (n cp:Nat) (X:List It) (c:List UInt8) (w:World) (hr:RI B w a n cp X) (hB:B<=w.heap.size) (hc:c.length<=9223372036854775807) (hsz:∀ x∈X,x.os.length * 16<=140737488355328) :
  Calls Tryz.prog 23 #[.slice a n cp,.string ⟨c.toArray⟩] w fun e w'=>(∃ a' c',e = .returned (.slice a' (rowX X c).length c')/\txE.Own w.heap.size w' (.slice a' (rowX X c).length c') (rowX X c))/\Below w.heap.size w w':=by
 obtain⟨W1,hW1⟩:∃ V,V=w.alloc (.cells #[.string ⟨c.toArray⟩] 9):=⟨_,rfl⟩
 have b1:Below w.heap.size w W1:=by rw[hW1];exact (Below.refl _ w).alloc (Nat.le_refl _) _
 have s1:W1.heap.size=w.heap.size+1:=by rw[hW1,World.size_alloc]
 have k1:W1.cell? ⟨w.heap.size,0,none⟩=some (.string ⟨c.toArray⟩):=by rw[hW1];unfold World.cell?;rw[heap_alloc_new];rfl
 have hp:∀ V,Below W1.heap.size W1 V->V.cell? ⟨w.heap.size,0,none⟩=some (.string ⟨c.toArray⟩):=fun V hb=>(hb.cell (p:=⟨w.heap.size,0,none⟩) (by show w.heap.size < _;omega)).trans k1
 have HP:=Lib.hid hp
 have HI:=Lib.hid (indexItem_any ixItem_laid (fun x:It=>decide (x.code=c)) 55 #[.pointer (some ⟨w.heap.size,0,none⟩)] (enters_of Tryz.func55 (by kernel_rfl) rfl) B a n cp X W1 (RI.el (hr.below (b1.mono hB))) (Nat.le_trans hB b1.size) (fun V x hb _=>row1_any w.heap.size c x V (by have:=hb.size;omega) (hp V hb)))
 have hle:=hr.le;have hmx:=hr.mx
 have HW1:=Lib.hid hW1
 have B1:=Lib.hid b1
 have Hc:=Lib.hid hc
 rcases idxI_formT (fun x:It=>decide (x.code=c)) X with hi | ⟨j,hj,hi⟩
 ·rw[hi] at HI
  have E:=Lib.hid (rowX_no hi)
  clear hi hr hp k1 hW1 b1 s1
  go_enter Tryz.func23,Tryz.ntmps23
  go_wp2_with (go_at_call 54;rw[<- HW1.out];refine HI.out.mono ?_;rintro e w2 ⟨rfl,hb2⟩;have B2:=Lib.hid (B1.out.trans (hb2.mono B1.out.size));clear hb2)
  go_ret
  rw[E.out]
  exact⟨⟨_,_,rfl,El.Own.nil _ _ _⟩,B2.out⟩
 ·rw[hi] at HI
  have E:=Lib.hid (rowX_some hj hi)
  have hin:j < n:=by rw[hr.len];exact hj
  have hsj:=hsz _ (getD_mem hj)
  obtain⟨b,o,rfl,hbB,hok,c0,c1,c2,c3⟩:=hr.item hin
  generalize X.getD j default=x at E c0 c1 c2 c3 hok hsj
  have hbW:b < w.heap.size:=Nat.lt_of_lt_of_le hbB hB
  have HT:=Lib.hid (RT.el hok.rt)
  have HRW:=Lib.hid (fun (V:World) (hb:Below w.heap.size w V)=>row_any B x.oa x.os.length x.oc x.os c V (HT.out.below (hb.mono hB)) (Nat.le_trans hB hb.size) hc hsj)
  have HS:=Lib.hid s1
  have H3:=Lib.hid c3
  clear hi hr hp k1 hW1 b1 s1 hok c0 c1 c2 c3 hsj hj hc
  go_enter Tryz.func23,Tryz.ntmps23
  go_upto_region 4 with (go_at_call 54;rw[<- HW1.out];refine HI.out.mono ?_;rintro e w2 ⟨rfl,hb2⟩;have B2:=Lib.hid (B1.out.trans (hb2.mono B1.out.size));have z0:=HP.out w2 hb2;have z1:=((B1.out.trans (hb2.mono B1.out.size)).cell (p:=⟨b,o+j * 4+3,none⟩) hbW).trans H3.out;have hl2:w.heap.size < w2.heap.size:=(by have:=HS.out;have:=hb2.size;omega);clear hb2)
  go_region_held3 (fun w'=>(w'.cell? ⟨w.heap.size,0,none⟩=some (.string ⟨c.toArray⟩)/\w'.cell? ⟨b,o+j * 4+3,none⟩=some (.slice x.oa x.os.length x.oc))/\Hid (Below w.heap.size w w')) (first | exact⟨⟨by assumption,by assumption⟩,Lib.hid (below_drewT B2.out)⟩ | exact⟨⟨by assumption,by assumption⟩,by assumption⟩ | go_keep | exact⟨⟨by assumption,by assumption⟩,Lib.hid (below_drewT (Hid.out (by assumption)))⟩) (first | (go_at_call 56;refine (HRW.out _ (below_drewT B2.out)).mono ?_;rintro e w3 ⟨a3,c3,rfl,ho3,hb3⟩;have d0:=(hb3.cell (p:=⟨w.heap.size,0,none⟩) hl2).trans z0;have d1:=(hb3.cell (p:=⟨b,o+j * 4+3,none⟩) (Nat.lt_of_lt_of_le hbW B2.out.size)).trans z1;have O3:=Lib.hid ho3;have B3:Hid (Below w.heap.size w w3):=Lib.hid ((below_drewT B2.out).trans (hb3.mono B2.out.size));clear ho3 hb3))
  clear d0 d1 z0 z1
  go_wp2_with (fail)
  go_ret
  rw[E.out]
  exact⟨⟨_,_,rfl,O3.out.mono B2.out.size⟩,B3.out⟩
end Go.Proofs.YtgplnekpgdhcpaaGreat
namespace Go.Proofs.YtgplnekpgdhcpaaGreat
open Go.RowKit
def LineV.val (x:LineV):Value:=.agg #[.int .i64 x.id,encStr x.item,.int .i64 x.qty,.int .i64 x.asked,.int .i64 x.rank,.int .u8 x.st,.int .i64 x.day,encStr x.code]
def lineOk (l:LineV):Bool:=decide (1<=l.id) && okCode l.item && decide (1<=l.qty) && decide (l.qty<=1073741824) && decide (0<=l.asked) && decide (l.asked<=4000) && decide (0<=l.rank) && decide (l.rank<=99) && decide (1<=l.st) && decide (l.st<=3) &&
 (if l.day = -1 then decide (l.code=[]) && !decide (l.st=2) else decide (0<=l.day) && decide (l.day<=4000) && okCode l.code && !decide (l.st=3))
end Go.Proofs.YtgplnekpgdhcpaaGreat
