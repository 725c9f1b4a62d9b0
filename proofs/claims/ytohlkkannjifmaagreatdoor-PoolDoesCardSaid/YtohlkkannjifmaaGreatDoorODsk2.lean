import Derived.Test.YtohlkkannjifmaaGreatDoorOLog6
import Derived.Deep.RegionHeld3
import Derived.Test.YtohlkkannjifmaaGreatDoorOWell2
import Derived.Carry
import Derived.Test.YtohlkkannjifmaaGreatDoorPageH
namespace Go.Proofs.YtohlkkannjifmaaGreatDoor
section
set_option maxHeartbeats 4000000
set_option maxRecDepth 100000
open Go.RowKit
variable {L:LK} {d l:Nat} {w:World}
theorem find_rising (x:Int):∀ (l:List Int),l.Pairwise (· < ·)->l.find? (fun y=>decide (x<=y))=l[l.countP (fun y=>decide (y<x))]?
 | [],_=>rfl
 | a::l,h=>by
  rw[List.pairwise_cons] at h;by_cases hx:a<x
  ·rw[List.find?_cons_of_neg (by simp;omega),List.countP_cons_of_pos (by simp;omega),find_rising x l h.2];simp
  ·have h0:l.countP (fun y=>decide (y<x))=0:=by
    rw[List.countP_eq_zero];intro y hy;have:=h.1 y hy;simp;omega
   rw[List.find?_cons_of_pos (by simp;omega),List.countP_cons_of_neg (by simp;omega),h0];rfl
structure LS (w:World) (l d:Nat) (L:LK) (g cap n:Nat) (tv:Value) (P:Nat->Nat) (V:Nat->Value):Prop where
 blk:w.heap[l]? = some (logObj L d (.slice (some ⟨g,0,none⟩) n cap) tv)
 nn:n=L.sheets.length
 le:n<=cap
 cp:cap<=9223372036854775807
 n8:n<=8191
 cell:∀ i,i<n->w.cell? ⟨g,i,none⟩=some (ptr (P i))
 sh:∀ i,i<n->ShR w (P i) (V i) (L.sheets.getD i sh0)
 trow:w.ownsRow 0 2 1 tv L.lsns.length (L.lsns.map li)
theorem LogR.ls {U:Nat->Prop} {k:Nat} (h:LogR w U l d k L):∃ g cap n tv P V,LS w l d L g cap n tv P V:=by
 obtain⟨sv,tv,T,h1,h2,h3,h4,h5,-⟩:=h.mm;have hn:L.sheets.length=T.length:=by rw[h1];simp
 have hne:=h.ok.ne;have hcs:=h3;obtain⟨-,⟨-,h0⟩|⟨g,cap,cur,rfl,-,-,hle,hcm,-⟩⟩:=h3
 ·exact absurd (List.eq_nil_of_length_eq_zero (hn.trans h0)) hne
 have hget:∀ i,i<T.length->(T.getD i (0,.bool false,sh0))∈T:=fun i hi=>by
  rw[List.getD_eq_getElem?_getD,List.getElem?_eq_getElem hi];exact List.getElem_mem hi
 refine⟨g,cap,T.length,tv,fun i=>(T.getD i (0,.bool false,sh0)).1,fun i=>(T.getD i (0,.bool false,sh0)).2.1,h2,hn.symm,hle,by simpa [maxLen] using hcm,by have:=h.ok.ct;have:=h.ok.c2;omega,fun i hi=>?_,fun i hi=>?_,h4⟩
 ·have hj:i<(T.map fun x=>ptr x.1).length:=by simpa using hi
  have h12:=hcs.cells (g:=g) rfl i _ (List.getElem?_eq_getElem hj);rw[List.getElem_map,Addr.add_mid,Nat.zero_add] at h12;rw[List.getD_eq_getElem?_getD,List.getElem?_eq_getElem hi];exact h12
 ·have e:L.sheets.getD i sh0=(T.getD i (0,.bool false,sh0)).2.2:=by
   rw[h1,List.getD_eq_getElem?_getD,List.getElem?_map,List.getD_eq_getElem?_getD,List.getElem?_eq_getElem hi];rfl
  rw[e];exact h5 _ (hget i hi)
theorem LS.drewN {g cap n:Nat} {tv:Value} {P:Nat->Nat} {V:Nat->Value} (h:LS w l d L g cap n tv P V) {q:Nat}:LS (w.drewN q) l d L g cap n tv P V :=
 ⟨h.blk,h.nn,h.le,h.cp,h.n8,h.cell,fun i hi=>⟨(h.sh i hi).blk,(h.sh i hi).body⟩,h.trow⟩
theorem find_none_take {α:Type} (f:α->Bool) (l:List α) (h:∀ j,j<l.length->∀ d,f (l.getD j d)=false):l.find? f=none:=by
 rw[List.find?_eq_none];intro x hx;obtain⟨j,hj,rfl⟩:=List.getElem_of_mem hx;have:=h j hj l[j];rw[List.getD_eq_getElem?_getD,List.getElem?_eq_getElem hj] at this;simpa using this
theorem find_at {α:Type} (f:α->Bool) (d:α):∀ (l:List α) (i:Nat),i<l.length->(∀ j,j<i->f (l.getD j d)=false)->f (l.getD i d)=true->l.find? f=some (l.getD i d)
 | [],i,h,_,_=>absurd h (by simp)
 | a::l,0,_,_,h=>by rw[List.find?_cons_of_pos (by simpa using h)];rfl
 | a::l,i+1,hi,hj,h=>by
  rw[List.find?_cons_of_neg (by have:=hj 0 (by omega);simpa using this)];have:=find_at f d l i (by simpa using hi) (fun j hlt=>by simpa using hj (j+1) (by omega)) (by simpa using h);simpa using this
def unsafeB (s:ShV):Bool:=decide (s.safe<(s.body.length:Int))
theorem LK.safe_none (h:∀ j,j<L.sheets.length->unsafeB (L.sheets.getD j sh0)=false):L.safe=L.end_:=by
 unfold LK.safe;have:L.sheets.find? (fun s=>decide (s.safe<(s.body.length:Int)))=none:=find_none_take _ _ fun j hj d=>by
  have:=h j hj;rw[List.getD_eq_getElem?_getD,List.getElem?_eq_getElem hj] at this ⊢;exact this
 rw[this]
theorem LK.safe_some {i:Nat} (hi:i<L.sheets.length) (h:∀ j,j<i->unsafeB (L.sheets.getD j sh0)=false) (ht:unsafeB (L.sheets.getD i sh0)=true) (hso:L.lsns.Pairwise (· < ·)) :
  L.safe=(L.lsns[L.lsns.countP (fun y=>decide (y<(L.sheets.getD i sh0).at_ (L.sheets.getD i sh0).safe))]?).getD L.end_:=by
 unfold LK.safe;have:L.sheets.find? (fun s=>decide (s.safe<(s.body.length:Int)))=some (L.sheets.getD i sh0):=find_at _ sh0 L.sheets i hi h ht;rw[this];simp only;rw[find_rising _ _ hso]
theorem safe_any (w:World) (U:Nat->Prop) (l d k:Nat) (L:LK) (h:LogR w U l d k L) (hk:k<=1000000000) :
  Calls Tryz.prog 59 #[.pointer (some ⟨l,0,none⟩)] w fun e w'=>e=.returned (.int .i64 L.safe)/\∃ q,w'=w.drewN q:=by
 obtain⟨g,cap,n,tv,P,V,hs⟩:=h.ls;have H:=φ h;have HT:=φ (lthere_any w l d (by have:=hs.blk;simp[World.cell?,this,logObj]));have HE:=φ fun (W:World) (hW:W.heap=w.heap)=>end_any W U l d k L (h.keep (fun i _=>by rw[hW]) (by rw[hW];exact Nat.le_refl _))
 have c5:w.cell? ⟨l,5,none⟩=some (.slice (some ⟨g,0,none⟩) n cap):=cell_of_row _ _ 5 _ _ _ hs.blk;have c6:w.cell? ⟨l,6,none⟩=some tv:=cell_of_row _ _ 6 _ _ _ hs.blk;have hle:=hs.le;have hcp:=hs.cp;have hn8:=hs.n8;have HS:=φ hs;obtain⟨sf,hsf⟩:∃ sf,sf=L.safe:=⟨_,rfl⟩
 rw[<- hsf];have HSF:=φ hsf;clear h hs hsf;unfold ptr at HT HE;unfold li at HE;go_enter Tryz.func59,Tryz.ntmps59;go_wp2_with (go_at_call 41;refine HT.out.mono ?_;rintro e w1 ⟨rfl,hw1⟩;replace hw1:=hw1.symm;subst hw1);go_loopw [15] (fun i wr=>∃ j:Nat,j<=n/\i=.int .i64 j/\Hid (∀ t,t<j->unsafeB (L.sheets.getD t sh0)=false)/\Hid (∃ q,wr=w.drewN q)) (fun i _=>n-(inOf i).toNat)
 case atStart=>exact⟨0,Nat.zero_le _,rfl,φ (fun t h=>absurd h (by omega)),φ ⟨0,rfl⟩⟩
 case round =>
  obtain⟨j,hj,rfl,HA,HQ⟩:=hrel;have HSr:Hid (LS wr l d L g cap n tv P V):=by
   obtain⟨q,rfl⟩:=HQ.out;exact φ HS.out.drewN
  have d6:wr.cell? ⟨l,6,none⟩=some tv:=cell_of_row _ _ 6 _ _ _ HSr.out.blk;have HQd:Hid (∃ q,wr.drew=w.drewN q):=by
   obtain⟨q,rfl⟩:=HQ.out;exact φ ⟨q+1,rfl⟩
  by_cases hlt:j<n
  ·have cj:wr.cell? ⟨g,j,none⟩=some (.pointer (some ⟨P j,0,none⟩)):=HSr.out.cell j hlt;have hsh:=HSr.out.sh j hlt;obtain⟨va,vc,hve,hvr⟩:=hsh.body.rb (by have:=H.out.ok.len _ (getD_mem L.sheets sh0 j (by have:=HS.out.nn;omega));omega);have k4:wr.cell? ⟨P j,4,none⟩=some (.slice va (L.sheets.getD j sh0).body.length vc):=by rw[<- hve];exact cell_of_row _ _ 4 _ _ _ hsh.blk
   have k5:wr.cell? ⟨P j,5,none⟩=some (.int .i64 (L.sheets.getD j sh0).safe):=cell_of_row _ _ 5 _ _ _ hsh.blk;have hv1:=hvr.mx;have hv2:=hvr.le;have hbl:=(H.out.ok.len _ (getD_mem L.sheets sh0 j (by have:=HS.out.nn;omega)))
   have f2:IntKind.i64.wrap ((j:Int)+1)=((j+1:Nat):Int):=by rw[IntWalk.i64_in _ (by omega)];omega
   have HSh:=φ hsh;clear hve hvr hsh
   cases hu:unsafeB (L.sheets.getD j sh0) with
   | false =>
    have HU:Hid (∀ t,t<j+1->unsafeB (L.sheets.getD t sh0)=false):=φ fun t ht=>by
     by_cases e:t<j
     ·exact HA.out t e
     ·obtain rfl:t=j:=by omega
      exact hu
    have e1:decide ((L.sheets.getD j sh0).safe<((L.sheets.getD j sh0).body.length:Int))=false:=hu;clear hu;generalize L.sheets.getD j sh0=s at *;go_upto_region 6 with (fail);go_still (by kernel_rfl);go_wp2_with (fail);go_roundw
    case rel=>exact⟨j+1,by omega,by go_num,HU,HQd⟩
    case measure=>simp[inOf];omega
   | true =>
    have HV:=φ (LK.safe_some (by have:=HS.out.nn;omega) HA.out hu H.out.ok.so);have e1:decide ((L.sheets.getD j sh0).safe<((L.sheets.getD j sh0).body.length:Int))=true:=hu;have hne:0<L.lsns.length:=List.length_pos_iff.2 (H.out.ok.wk ⟨_,getD_mem L.sheets sh0 j (by have:=HS.out.nn;omega),by simpa [unsafeB] using hu⟩);have hnum:=(H.out.ok.sheet (getD_mem L.sheets sh0 j (by have:=HS.out.nn;omega))).1;have hnum2:(L.sheets.getD j sh0).num<=2251799813693440:=by
     obtain⟨m,m1,m2,m3⟩:=H.out.ok.num;have:=m3 j (L.sheets.getD j sh0) (by rw[List.getD_eq_getElem?_getD,List.getElem?_eq_getElem (by have:=HS.out.nn;omega)];rfl);have h1:=H.out.ok.ct;have h2:=H.out.ok.c2;have h3:=HS.out.nn;omega
    clear hu;have HLs:Hid (∀ W,W.heap=wr.heap->Calls Tryz.prog 45 #[.pointer (some ⟨P j,0,none⟩),.int .i64 (L.sheets.getD j sh0).safe] W fun e w'=>e=.returned (.int .i64 ((L.sheets.getD j sh0).at_ (L.sheets.getD j sh0).safe))/\w'=W):=φ fun W hW=>lsn_any W (P j) (V j) _ _ ⟨by rw[hW];exact HSh.out.blk,ωK HSh.out.body fun g _=>by rw[hW]⟩ hnum hnum2 hbl.2.1 (by omega)
    obtain⟨gt,ct,rfl,htl,htc⟩:∃ gt ct,tv=.slice (some ⟨gt,0,none⟩) L.lsns.length ct/\L.lsns.length<=ct/\ct<=9223372036854775807:=by
     obtain⟨-,⟨-,h0⟩|⟨g',cap',cur,rfl,-,-,hle',hcm',-⟩⟩:=HSr.out.trow
     ·omega
     ·exact⟨g',cap',rfl,hle',by simpa [maxLen] using hcm'⟩
    have hlk:=H.out.ok.lk;have HBs:Hid (∀ W,W.heap=wr.heap->Calls Tryz.prog 74 #[.slice (some ⟨gt,0,none⟩) L.lsns.length ct,.int .i64 ((L.sheets.getD j sh0).at_ (L.sheets.getD j sh0).safe)] W fun e w'=>e=.returned (.tuple #[.int .i64 (L.lsns.countP (fun y=>decide (y<(L.sheets.getD j sh0).at_ (L.sheets.getD j sh0).safe)):Nat),.bool (L.lsns.contains ((L.sheets.getD j sh0).at_ (L.sheets.getD j sh0).safe))])/\∃ q,w'=W.drewN q):=φ fun W hW=>by
     have:=Tryz.slices_BinarySearch_int gt 0 L.lsns.length ct L.lsns ((L.sheets.getD j sh0).at_ (L.sheets.getD j sh0).safe) W (Nat.le_refl _) (by omega) (fun i hi=>by
      have h1:=HSr.out.trow.cells (g:=gt) rfl i (li (L.lsns.getD i 0)) (by rw[List.getElem?_map,List.getD_eq_getElem?_getD,List.getElem?_eq_getElem hi];rfl);rw[Addr.add_mid] at h1;exact (World.cell?_of_block (w:=wr) (by rw[hW])).trans h1) (by rw[List.take_length];exact H.out.ok.so.imp fun h=>by omega)
     rw[List.take_length] at this;exact this
    have HGet:Hid (∀ i,i<L.lsns.length->wr.cell? ⟨gt,i,none⟩=some (.int .i64 (L.lsns.getD i 0))):=φ fun i hi=>by
      have h1:=HSr.out.trow.cells (g:=gt) rfl i (li (L.lsns.getD i 0)) (by rw[List.getElem?_map,List.getD_eq_getElem?_getD,List.getElem?_eq_getElem hi];rfl);rw[Addr.add_mid,Nat.zero_add] at h1;exact h1
    generalize L.lsns.contains ((L.sheets.getD j sh0).at_ (L.sheets.getD j sh0).safe)=bc at *;generalize (L.sheets.getD j sh0).at_ (L.sheets.getD j sh0).safe=x at *;have hcount:L.lsns.countP (fun y=>decide (y<x))<=L.lsns.length:=List.countP_le_length;generalize L.lsns.countP (fun y=>decide (y<x))=cn at *;generalize L.sheets.getD j sh0=s at *;rcases Nat.lt_or_ge cn L.lsns.length with hc|hc
    ·have e5:decide ((cn:Int)<(L.lsns.length:Int))=true:=decide_eq_true (by omega);go_upto_region 6 with (fail);go_still (by kernel_rfl);go_upto_region 7 with (fail);go_region_held3 (fun w'=>w'.cell? ⟨l,6,none⟩=some (.slice (some ⟨gt,0,none⟩) L.lsns.length ct)/\w'.cell? ⟨P j,5,none⟩=some (.int .i64 s.safe)) (first|go_keep|exact⟨by assumption,by assumption⟩) (first|(go_at_call 45;refine (HLs.out wr.drew.drew rfl).mono ?_;rintro e w1 ⟨rfl,hw1⟩;subst hw1)|(go_at_call 74;refine (HBs.out wr.drew.drew rfl).mono ?_;rintro e w2 ⟨rfl,q2,hq2⟩;have hh:w2.heap=wr.heap:=(by rw[hq2];rfl);have HQ2:Hid (∃ q,w2=w.drewN q):=(by obtain⟨q0,h0⟩:=HQ.out;exact φ ⟨q0+2+q2,by rw[hq2,h0];simp[World.drewN,World.drew];omega⟩);have m6:w2.cell? ⟨l,6,none⟩=some (.slice (some ⟨gt,0,none⟩) L.lsns.length ct):=(World.cell?_of_block (w:=wr) (by rw[hh])).trans d6;have m5:w2.cell? ⟨P j,5,none⟩=some (.int .i64 s.safe):=(World.cell?_of_block (w:=wr) (by rw[hh])).trans k5;have gk:w2.cell? ⟨gt,cn,none⟩=some (.int .i64 (L.lsns.getD cn 0)):=(World.cell?_of_block (w:=wr) (by rw[hh])).trans (HGet.out cn hc);clear hh hq2));go_wp2_with (fail);go_ret;exact⟨by rw[HSF.out,HV.out,List.getElem?_eq_getElem hc];rfl,HQ2.out⟩
    ·have e5:decide ((cn:Int)<(L.lsns.length:Int))=false:=decide_eq_false (by omega);go_upto_region 6 with (fail);go_still (by kernel_rfl);go_upto_region 7 with (fail);go_region_held3 (fun w'=>w'.cell? ⟨l,6,none⟩=some (.slice (some ⟨gt,0,none⟩) L.lsns.length ct)/\w'.cell? ⟨P j,5,none⟩=some (.int .i64 s.safe)) (first|go_keep|exact⟨by assumption,by assumption⟩) (first|(go_at_call 45;refine (HLs.out wr.drew.drew rfl).mono ?_;rintro e w1 ⟨rfl,hw1⟩;subst hw1)|(go_at_call 74;refine (HBs.out wr.drew.drew rfl).mono ?_;rintro e w2 ⟨rfl,q2,hq2⟩;have hh:w2.heap=wr.heap:=(by rw[hq2];rfl);have HQ2:Hid (∃ q,w2=w.drewN q):=(by obtain⟨q0,h0⟩:=HQ.out;exact φ ⟨q0+2+q2,by rw[hq2,h0];simp[World.drewN,World.drew];omega⟩);have m6:w2.cell? ⟨l,6,none⟩=some (.slice (some ⟨gt,0,none⟩) L.lsns.length ct):=(World.cell?_of_block (w:=wr) (by rw[hh])).trans d6;have m5:w2.cell? ⟨P j,5,none⟩=some (.int .i64 s.safe):=(World.cell?_of_block (w:=wr) (by rw[hh])).trans k5;have HEw:=φ (HE.out w2 (by obtain⟨q,rfl⟩:=HQ2.out;rfl));clear hh hq2));clear HE;go_wp2_with (go_at_call 47;refine HEw.out.mono ?_;rintro e w3 ⟨rfl,hw3⟩;subst hw3);go_ret;exact⟨by rw[HSF.out,HV.out,List.getElem?_eq_none (by omega)];rfl,by obtain⟨q,hq⟩:=HQ2.out;exact⟨q+1,by rw[hq];rfl⟩⟩
  ·obtain rfl:j=n:=by omega
   have HN:Hid (sf=L.end_):=φ (by rw[HSF.out];exact LK.safe_none fun t ht=>HA.out t (by have:=HS.out.nn;omega));have HEq:Hid (Calls Tryz.prog 47 #[.pointer (some ⟨l,0,none⟩)] wr fun e w'=>e=.returned (.int .i64 L.end_)/\w'=wr.drew):=by
    obtain⟨q,rfl⟩:=HQ.out;exact φ (HE.out (w.drewN q) rfl)
   clear HE;go_wp2_with (go_at_call 47;refine HEq.out.mono ?_;rintro e w2 ⟨rfl,hw2⟩;subst hw2);go_ret;exact⟨by rw[HN.out];rfl,HQd.out⟩
end
section
open Go.RowKit
theorem zero_bytes (m:Nat):Builtin.zeroCells #[Value.int .u8 0] m=((List.replicate m (0:UInt8)).map bv).toArray:=by
 apply Array.ext';apply List.ext_getElem
 ·simp[Builtin.zeroCells]
 ·intro i h1 h2;simp[Builtin.zeroCells,bv,Nat.mod_one]
theorem run_append_zeros (base:Nat) (v:Value) (l:List UInt8) (w:World) (ty:TypeId) (m:Nat) (hown:OB base w v l) (h0:0<l.length) (hm:l.length+m<=1000000) (hb:base<=w.heap.size) :
  ∃ v' w',(Builtin.append_ #[27,3] ty #[v,.int .i64 m]).run Tryz.prog w=.ok v' w'/\OB base w' v' (l++List.replicate m 0)/\w.grownBy w' v.ownBlock:=by
 obtain⟨i0,hi,hz0,hz1,hz2⟩:=info_parts Tryz.infoU8;have hw:IntKind.i64.wrap (m:Int)=(m:Int):=IntWalk.i64_in _ (by omega);have ha1:¬ ((m:Int)<0):=by omega
 have ha2:¬ (281474976710656<(m:Int)):=by omega
 have hown':=hown;obtain⟨h1,⟨-,h9⟩|⟨g,cap,cur,rfl,hg,hh,hle,hcap,hsz,ht⟩⟩:=hown'
 ·omega
 have hlen:(l.map bv++(List.replicate m (0:UInt8)).map bv).length=l.length+m:=by simp
 have hnn:∀ j u,((l.map bv)[j]? = some u)->w.drew.cell? ((⟨g,0,none⟩:Addr).add j)=some u:=fun j u hj=>(World.ownsRow.cells hown (g:=g) rfl) j u hj
 by_cases hroom:l.length+m<=cap
 ·by_cases hm0:m=0
  ·refine⟨_,w,?_,by rw[hm0];simpa using hown,World.grownBy.refl _ _⟩;simp only[Builtin.append_,sizeOf,typeInfo];simp[run_underlying Tryz.underlying27,run_underlying Tryz.underlying3,hi,hz1,hz2,asInt,asIntOf,hw,ha1,ha2,hroom];simp[hm0,storeCells]
  ·have hfit:l.length+(List.replicate m (0:UInt8)).length<=cur.size:=by rw[List.length_replicate,hsz];omega
   have hst:=run_storeCells_at Tryz.prog g l.length 5 ((List.replicate m (0:UInt8)).map bv) 0 cur w hh (by simpa using hfit) (fun u hu=>by obtain⟨y,_,rfl⟩:=List.mem_map.1 hu;rfl);refine⟨.slice (some ⟨g,0,none⟩) (l.length+m) cap,w.setRow g (cur.toList.take l.length++(List.replicate m (0:UInt8)).map bv++cur.toList.drop (l.length+((List.replicate m (0:UInt8)).map bv).length)).toArray,?_,?_,?_⟩
   ·simp[Builtin.append_,run_underlying Tryz.underlying27,run_underlying Tryz.underlying3,sizeOf,typeInfo,zeroValue,hi,hz0,hz1,hz2,asInt,asIntOf,hw,ha1,ha2,hm0,hroom,Value.cells,zero_bytes];have ead:(⟨g,0,none⟩:Addr).add l.length=⟨g,l.length,none⟩:=(by rw[Addr.add_mid,Nat.zero_add]);rw[ead];simp only[List.map_replicate,Nat.add_zero,List.length_replicate] at hst;rw[hst];simp
   ·unfold OB;rw[List.length_append,List.length_replicate,List.map_append];refine⟨by simp,.inr ⟨g,cap,_,rfl,hg,setRow_heap w g cur _ 5 (0,0) hh,hroom,hcap,?_,?_⟩⟩
    ·simp only[List.size_toArray,List.length_append,List.length_take,List.length_drop,Array.length_toList,List.length_map,List.length_replicate];omega
    ·rw[Nat.mul_one] at ht ⊢;rw[List.toList_toArray,ht,List.take_append_of_le_length (by simp)];rw[List.take_of_length_le (by simp)]
   ·exact⟨rfl,rfl,rfl,by simp,fun k _ hk=>setRow_other w g k _ (fun e=>hk (by simp[Value.ownBlock,e]))⟩
 ·have hge:=grownCap_ge w (l.length+m) cap 5;have hcm:grownCap w (l.length+m) cap 5<=maxLen:=grownCap_le_maxLen w (l.length+m) cap 5 (by simp only[maxLen];omega);have h48:¬ (281474976710656<Builtin.nextslicecap (l.length+m) cap):=by
   have:=growslice_fits (need:=l.length+m) (old:=cap) (bytes:=1) (by omega) (by omega);omega
  have h63:¬ (9223372036854775807<(l.length:Int)+m):=by omega
  have hm0:¬ m=0:=by omega
  have hfo:=run_firstCells_some (P:=Tryz.prog) w.drew 1 l.length ⟨g,0,none⟩ l.length cap (l.map bv) (by simp) hnn;refine⟨.slice (some ⟨w.heap.size,0,none⟩) (l.length+m) (grownCap w (l.length+m) cap 5),w.drew.alloc (.cells ((l.map bv).toArray++((List.replicate m (0:UInt8)).map bv).toArray++Builtin.zeroCells #[Value.int .u8 0] (grownCap w (l.length+m) cap 5-(l.length+m))) 5),?_,?_,?_⟩
  ·simp[Builtin.append_,run_underlying Tryz.underlying27,run_underlying Tryz.underlying3,sizeOf,typeInfo,zeroValue,hi,hz0,hz1,hz2,asInt,asIntOf,hw,ha1,ha2,hroom,Value.cells,zero_bytes,Question.forced,h48,h63,hm0,hfo,newRow,grownCap]
  ·unfold OB;rw[List.length_append,List.length_replicate,List.map_append];refine⟨by simp,.inr ⟨w.heap.size,_,_,rfl,hb,heap_alloc_new w.drew _,hge,hcm,?_,?_⟩⟩
   ·simp only[Array.size_append,List.size_toArray,size_zeroCells,List.length_map,List.length_replicate];simp;omega
   ·simp only[Array.toList_append,List.append_assoc,Nat.mul_one];rw[<- List.append_assoc,List.take_append_of_le_length (by simp)];rw[List.take_of_length_le (by simp)]
  ·exact⟨rfl,rfl,rfl,by simp,fun i hi _=>alloc_old (w:=w.drew) hi⟩
end
section
set_option maxHeartbeats 4000000
set_option maxRecDepth 100000
open Go.RowKit
theorem lput_i (base:Nat) (v:Value) (l:List UInt8) (y:Int) (w:World) (h:OB base w v l) (hb:base<=w.heap.size) (hl:l.length+8<=1000000) (h0:0<=y) (hy:y<=9223372036854775807) :
  Calls Tryz.prog 169 #[v,.int .i64 y,.int .i64 8] w (fun e w'=>∃ v',e=.returned v'/\OB base w' v' (l++numB y 8)/\Below base w w') /\
  Calls Tryz.prog 169 #[v,.int .i64 y,.int .i64 4] w (fun e w'=>∃ v',e=.returned v'/\OB base w' v' (l++numB y 4)/\Below base w w') /\
  Calls Tryz.prog 169 #[v,.int .i64 y,.int .i64 2] w (fun e w'=>∃ v',e=.returned v'/\OB base w' v' (l++numB y 2)/\Below base w w'):=by
 obtain⟨n,rfl⟩:∃ n:Nat,y=(n:Int):=⟨y.toNat,by omega⟩
 exact⟨lput_any base v l n 8 w h hb hl (by omega) (by omega),lput_any base v l n 4 w h hb hl (by omega) (by omega),lput_any base v l n 2 w h hb hl (by omega) (by omega)⟩
theorem ShR.below {w w':World} {p:Nat} {v:Value} {s:ShV} {B:Nat} (h:ShR w p v s) (hb:Below B w w') (hp:p<B) (hv:∀ g,v.ownBlock=some g->g<B):ShR w' p v s :=
 ⟨(hb.block p hp).trans h.blk,ωK h.body fun g e=>hb.block g (hv g e)⟩
theorem wpList_append_zeros {w:World} {ops:Array Oper} {rest:List Oper} {o:Oper} {a:Act} {Q:Exit->Act->World->Prop} (hgd:o.guard=none) (s x:Operand)
  (ho:o.op=.call { callee:=.builtin .append,args:=#[s,x],argTypes:=#[27,3] }) (base:Nat) (v:Value) (l:List UInt8) (m:Nat) (hs:a.eval s=v) (hx:a.eval x=.int .i64 m) (hown:OB base w v l) (h0:0<l.length) (hm:l.length+m<=1000000) (hb:base<=w.heap.size)
  (h:∀ v' w',OB base w' v' (l++List.replicate m 0)->w.grownBy w' v.ownBlock->wpList Tryz.prog ops Q rest (a.put o.dst v') w'):wpList Tryz.prog ops Q (o::rest) a w:=by
 obtain⟨v',w',hrun,h1,h2⟩:=run_append_zeros base v l w o.type m hown h0 hm hb;refine wpList_plain hgd fun K hK=>?_
 unfold Oper.wp execOp;simp only[ho,resolve,invoke,builtin,Sem.run_bind,Sem.run_pure,Result.andThen_ok,List.map_toArray,List.map_cons,List.map_nil,hs,hx,hrun];exact hK _ _ (h _ _ h1 h2)
theorem sbytes_any (w:World) (p:Nat) (v:Value) (s:ShV) (h:ShR w p v s) (h1:s.body.length<=496) (h2:0<=s.num/\s.num<=2251799813693440) (h3:0<=s.turn/\s.turn<2147483648) (h4:0<=s.before/\s.before<=496) :
  Calls Tryz.prog 117 #[.pointer (some ⟨p,0,none⟩)] w fun e w'=>∃ v',e=.returned v'/\OB w.heap.size w' v' s.bytes/\Below w.heap.size w w':=by
 have hp:p<w.heap.size:=ξ h.blk;have hvg:∀ g,v.ownBlock=some g->g<w.heap.size:=fun g e=>by obtain⟨c,hc⟩:=own_tag h.body e;exact ξ hc
 obtain⟨va,vc,rfl,hvr⟩:=h.body.rb (by omega);have hv1:=hvr.mx;have hv2:=hvr.le;have HK:Hid (∀ W,Below w.heap.size w W->W.cell? ⟨p,0,none⟩=some (.int .i64 s.num)/\W.cell? ⟨p,1,none⟩=some (.int .i64 s.turn)/\W.cell? ⟨p,2,none⟩=some (.int .i64 s.before)/\W.cell? ⟨p,4,none⟩=some (.slice va s.body.length vc)):=φ fun W hW=>by
  have hb:=(h.below hW hp hvg).blk;exact⟨cell_of_row _ _ 0 _ _ _ hb,cell_of_row _ _ 1 _ _ _ hb,cell_of_row _ _ 2 _ _ _ hb,cell_of_row _ _ 4 _ _ _ hb⟩
 obtain⟨c0,c1,c2,c4⟩:=HK.out w (Below.refl _ _);have HR:=φ fun W (hW:Below w.heap.size w W)=>hvr.below hW
 have HL:=φ h1;have N1:=φ (lput_i w.heap.size (.slice none 0 0) [] s.num w.drew (OB.nil _ _) (Nat.le_refl _) (by simp) h2.1 (by omega)).1;rw[List.nil_append] at N1;clear h hvr h1;go_enter Tryz.func117,Tryz.ntmps117;go_upto_region 1 with (fail);go_region_held3 (fun w'=>w'.cell? ⟨p,0,none⟩=some (.int .i64 s.num)/\w'.cell? ⟨p,1,none⟩=some (.int .i64 s.turn)/\w'.cell? ⟨p,2,none⟩=some (.int .i64 s.before)/\w'.cell? ⟨p,4,none⟩=some (.slice va s.body.length vc)) (first|go_keep|exact⟨by assumption,by assumption,by assumption,by assumption⟩) (first|(go_at_call 169;(with_reducible refine N1.out.mono ?_);rintro e w1 ⟨v1,rfl,ho,hb⟩;have B1:=φ ((Below.refl w.heap.size w).drew.trans hb);have O1:=φ ho;obtain⟨x0,x1,x2,x4⟩:=HK.out w1 B1.out;clear ho hb;have N2:=φ (lput_i w.heap.size v1 _ s.turn w1 O1.out B1.out.size (by simp[numB_len]) h3.1 (by omega)).2.1)|(go_at_call 169;(with_reducible refine N2.out.mono ?_);rintro e w2 ⟨v2,rfl,ho,hb⟩;have B2:=φ (B1.out.trans hb);have O2:=φ ho;obtain⟨x0,x1,x2,x4⟩:=HK.out w2 B2.out;clear ho hb;have N3:=φ (lput_i w.heap.size v2 _ s.before w2 O2.out B2.out.size (by simp[numB_len]) h4.1 (by omega)).2.2)|(go_at_call 169;(with_reducible refine N3.out.mono ?_);rintro e w3 ⟨v3,rfl,ho,hb⟩;have B3:=φ (B2.out.trans hb);have O3:=φ ho;obtain⟨x0,x1,x2,x4⟩:=HK.out w3 B3.out;clear ho hb;have N4:=φ (lput_i w.heap.size v3 _ (s.body.length:Int) w3 O3.out B3.out.size (by simp[numB_len]) (by omega) (by have:=HL.out;omega)).2.2)|(go_at_call 169;(with_reducible refine N4.out.mono ?_);rintro e w4 ⟨v4,rfl,ho,hb⟩;have B4:=φ (B3.out.trans hb);have O4:=φ ho;obtain⟨x0,x1,x2,x4⟩:=HK.out w4 B4.out;clear ho hb));have HXL:Hid ((numB s.num 8++numB s.turn 4++numB s.before 2++numB s.body.length 2++s.body).length=16+s.body.length):=φ (by simp[numB_len];omega);have HS:Hid (s.bytes=(numB s.num 8++numB s.turn 4++numB s.before 2++numB s.body.length 2++s.body)++List.replicate (512-(numB s.num 8++numB s.turn 4++numB s.before 2++numB s.body.length 2++s.body).length) 0):=φ rfl;generalize hX:numB s.num 8++numB s.turn 4++numB s.before 2++numB s.body.length 2++s.body=X at *;have HXE:=φ hX;clear hX;have hxl1:X.length<=512:=by have:=HXL.out;have:=HL.out;omega
 have hxl2:16<=X.length:=by have:=HXL.out;omega
 have e9:IntKind.i64.wrap (512-(X.length:Int))=((512-X.length:Nat):Int):=by rw[IntWalk.i64_in _ (by omega)];omega
 go_wp2_with (first|(at_builtin;refine wpList_append_bytes rfl _ _ rfl w.heap.size _ _ _ rfl O4.out _ _ _ s.body rfl (HR.out _ B4.out) (by have:=HL.out;simp[numB_len];omega) B4.out.size ?_;intro v5 w5 ho5 hg5 hn5;rw[HXE.out] at ho5;have B5:=φ (B4.out.grown hg5 B4.out.size (fun k e=>(World.ownsRow.lt O4.out k e).1));have O5:=φ ho5;obtain⟨a5,d5,rfl,hr5⟩:=ho5.rb (by omega);have m5:=hr5.mx;have l5:=hr5.le;clear ho5 hg5 hn5 hr5)|(at_builtin;refine wpList_append_zeros rfl _ _ rfl w.heap.size _ X (512-X.length) rfl rfl O5.out (by omega) (by omega) B5.out.size ?_;intro v6 w6 ho6 hg6;have B6:=φ (B5.out.grown hg6 B5.out.size (fun k e=>(World.ownsRow.lt O5.out k e).1));have O6:=φ ho6;clear ho6 hg6));go_ret;exact⟨_,rfl,by rw[HS.out];exact O6.out,B6.out⟩
end
section
open Go.RowKit
variable {K:DK} {d k o s:Nat} {w:World}
theorem may_any (d s o k:Nat) (K:DK) (i:Int) (w:World) (h:DiskR w d s o k K) :
  Calls Tryz.prog 80 #[.pointer (some ⟨d,0,none⟩),.int .i64 i] w fun e w'=>e=.returned (.int .i64 (K.may i))/\w'=w:=by
 have c0:=h.cell (i:=0) rfl;have c4:=h.cell (i:=4) rfl;have h1:=h.ok.n1;have e0:(K.n == 0)=false:=by simp;omega
 unfold DK.may;clear h;generalize K.down=dn at *;generalize K.n=n at *;go_enter Tryz.func80,Tryz.ntmps80
 cases dn with
 | true =>
  go_wp2_with (fail);go_ret;exact⟨rfl,rfl⟩
 | false =>
  by_cases hi:i<0
  ·go_wp2_with (fail);go_ret;refine⟨?_,rfl⟩;simp
  ·by_cases hj:n<=i
   ·have e1:decide (i ≥ n)=true:=(by simp;omega);go_wp2_with (fail);go_ret;refine⟨?_,rfl⟩;simp
   ·have e1:decide (i ≥ n)=false:=(by simp;omega);go_wp2_with (fail);go_ret;refine⟨?_,rfl⟩;simp
theorem DiskR.set4 (h:DiskR w d s o k K) (b:Bool):DiskR (w.setCell ⟨d,4,none⟩ (.bool b)) d s o k { K with down:=b }:=by
 obtain⟨ks,ko,f,g,f',g',h0,h1,h2,h3,h4⟩:=h.mm;refine⟨?_,⟨ks,ko,f,g,f',g',h0,h1.block (Below.heap_setCell w ⟨d,4,none⟩ _ s h.sd),h2,h3.block (Below.heap_setCell w ⟨d,4,none⟩ _ o h.od),h4⟩,⟨h.ok.n1,h.ok.n2,h.ok.a1,h.ok.a2,h.ok.sl,h.ok.ol⟩,h.sd,h.od,h.so⟩;have hb:=h.blk;show (w.heap.modify d _)[d]? = _;rw[Array.getElem?_modify,if_pos rfl,hb];rfl
theorem DiskR.set3 (h:DiskR w d s o k K) (a:Int) (h1:0<=a) (h2:a<=9223372036854775807):DiskR (w.setCell ⟨d,3,none⟩ (.int .i64 a)) d s o k { K with armed:=a }:=by
 obtain⟨ks,ko,f,g,f',g',h0,h3,h4,h5,h6⟩:=h.mm;refine⟨?_,⟨ks,ko,f,g,f',g',h0,h3.block (Below.heap_setCell w ⟨d,3,none⟩ _ s h.sd),h4,h5.block (Below.heap_setCell w ⟨d,3,none⟩ _ o h.od),h6⟩,⟨h.ok.n1,h.ok.n2,h1,h2,h.ok.sl,h.ok.ol⟩,h.sd,h.od,h.so⟩;have hb:=h.blk;show (w.heap.modify d _)[d]? = _;rw[Array.getElem?_modify,if_pos rfl,hb];rfl
theorem DiskR.frozen (h:DiskR w d s o k K) (i:Nat):w.frozen? ⟨d,i,none⟩=false:=by simp[World.frozen?,h.blk]
theorem crash_any (d s o k:Nat) (K:DK) (w:World) (h:DiskR w d s o k K) :
  Calls Tryz.prog 118 #[.pointer (some ⟨d,0,none⟩)] w fun e w'=>e=.returned (.bool K.crash.down)/\DiskR w' d s o k K.crash/\Trn (fun i=>i=d) w w':=by
 have c3:=h.cell (i:=3) rfl;have c4:=h.cell (i:=4) rfl;have z3:=h.frozen 3;have H:=φ h;by_cases ha:0<K.armed
 ·have e1:decide (K.armed > 0)=true:=by simpa using ha
  have h1:=h.set3 (K.armed-1) (by omega) (by have:=h.ok.a2;omega);have d3:=h1.cell (i:=3) rfl;have y4:=h1.frozen 4;have d4:=h1.cell (i:=4) rfl;have h2:=h1.set4 (decide (K.armed-1=0));have f4:=h2.cell (i:=4) rfl;have HT:=φ ((((Trn.refl (fun i=>i=d) w).set d 3 (.int .i64 (K.armed-1)) (.inl rfl)).set d 4 (.bool (decide (K.armed-1=0))) (.inl rfl)));have e2:IntKind.i64.wrap (K.armed-1)=K.armed-1:=IntWalk.i64_in _ (by have:=h.ok.a2;omega);have e3:(K.armed-1 == 0)=decide (K.armed-1=0):=rfl;have H2:=φ h2;unfold DK.crash;rw[if_pos ha];clear h h1 h2 H;simp only at d3 d4 f4;generalize K.armed=a at *;go_enter Tryz.func118,Tryz.ntmps118;go_wp2_with (fail);go_ret;exact⟨rfl,H2.out,HT.out⟩
 ·have e1:decide (K.armed > 0)=false:=by simp;omega
  unfold DK.crash;rw[if_neg ha];clear h;generalize K.armed=a at *;go_enter Tryz.func118,Tryz.ntmps118;go_wp2_with (fail);go_ret;exact⟨rfl,H.out,Trn.refl _ _⟩
theorem sectors_any (d s o k:Nat) (K:DK) (w:World) (h:DiskR w d s o k K) :
  Calls Tryz.prog 70 #[.pointer (some ⟨d,0,none⟩)] w fun e w'=>e=.returned (.int .i64 K.n)/\w'=w:=by
 have c0:=h.cell (i:=0) rfl;clear h;go_enter Tryz.func70,Tryz.ntmps70;go_wp2_with (fail);go_ret;exact⟨rfl,rfl⟩
theorem DiskR.fresh (w:World) (n:Int) (h1:1<=n) (h2:n<=8192) :
  DiskR (((w.alloc (.map #[] 0)).alloc (.map #[] 0)).alloc (.cells #[.int .i64 n,.map (some w.heap.size),.map (some (w.heap.size+1)),.int .i64 0,.bool false] 150)) (w.heap.size+2) w.heap.size (w.heap.size+1) 0 (DK.fresh n):=by
 have m1:=MH.made w (arrV zB);have m2:=MH.made (w.alloc (.map #[] 0)) (arrV zB);rw[World.size_alloc] at m2;refine⟨?_,⟨0,0,_,_,_,_,Nat.le_refl _,m1.block ?_,fun _=>rfl,m2.block ?_,fun _=>rfl,fun i l e=>by cases e⟩,DK.Ok.fresh h1 h2,by omega,by omega,by omega⟩
 ·have:=heap_alloc_last ((w.alloc (.map #[] 0)).alloc (.map #[] 0)) (.cells #[.int .i64 n,.map (some w.heap.size),.map (some (w.heap.size+1)),.int .i64 0,.bool false] 150);rw[World.size_alloc,World.size_alloc] at this;exact this
 ·rw[(Go.MapKept.heap_alloc _ _).2 _ (by rw[World.size_alloc,World.size_alloc];omega),(Go.MapKept.heap_alloc _ _).2 _ (by rw[World.size_alloc];omega)]
 ·rw[(Go.MapKept.heap_alloc _ _).2 _ (by rw[World.size_alloc,World.size_alloc];omega)]
theorem newDisk_any (n:Int) (w:World) (h1:1<=n) (h2:n<=8192) :
  Calls Tryz.prog 35 #[.int .i64 n] w fun e w'=>e=.returned (.pointer (some ⟨w.heap.size+2,0,none⟩))/\DiskR w' (w.heap.size+2) w.heap.size (w.heap.size+1) 0 (DK.fresh n)/\Below w.heap.size w w'/\w'.heap.size=w.heap.size+3:=by
 have hF:=φ (DiskR.fresh w n h1 h2);have hmk:=@run_makeMap Tryz.prog;have e0:decide (n<1)=false:=by simp;omega
 have e1:decide (n > 8192)=false:=by simp;omega
 go_enter Tryz.func35,Tryz.ntmps35;go_wp2_with (fail);go_ret;exact⟨rfl,hF.out,((((Below.refl _ w).alloc (Nat.le_refl _) _).alloc (by simp) _).alloc (by simp;omega) _),by simp⟩
end
section
set_option maxHeartbeats 1000000
set_option maxRecDepth 100000
open Go.RowKit
variable {a:Act} {Q:Exit->Act->World->Prop} {op:Oper} {t:TypeId} {p v:Value} {w:World}
theorem one_cellsB (l:List UInt8):(cellsB l).all (·.oneCell')=true:=all_oneCell_toArray fun v hv=>by
 obtain⟨x,-,rfl⟩:=List.mem_map.1 hv;rfl
theorem there_alloc (w:World) (l:List UInt8) (t:TypeId):(w.alloc (.cells (cellsB l) t)).there w.heap.size 0 l.length:=fun j hj=>by
 have hh:=heap_alloc_last w (.cells (cellsB l) t);have hs:=cellsB_size l;rw[Nat.zero_add,cell_of_row _ _ j (cellsB l) t (0,0) hh];refine⟨by simp[hs,hj],?_⟩;unfold World.frozen?;rw[hh];simp
theorem wpList_store_run {ops:Array Oper} {rest:List Oper} {w':World} (hrun:(Instr.storeAt t p v).run Tryz.prog w=.ok () w') (hgd:op.guard=none) (x y:Operand) (ho:op.op=.store t x y)
  (hx:a.eval x=p) (hy:a.eval y=v) (h:wpList Tryz.prog ops Q rest (a.put op.dst undef) w'):wpList Tryz.prog ops Q (op::rest) a w:=by
 refine wpList_plain hgd fun K hK=>?_
 unfold Oper.wp execOp;simp only[ho,hx,hy,Sem.run_bind,Sem.run_pure,Result.andThen_ok,hrun];exact hK _ _ h
theorem wpList_load_run {ops:Array Oper} {rest:List Oper} (hrun:(Instr.loadAt t p).run Tryz.prog w=.ok v w) (hgd:op.guard=none) (x:Operand) (ho:op.op=.load t x)
  (hx:a.eval x=p) (h:wpList Tryz.prog ops Q rest (a.put op.dst v) w):wpList Tryz.prog ops Q (op::rest) a w:=by
 refine wpList_plain hgd fun K hK=>?_
 unfold Oper.wp execOp;simp only[ho,hx,Sem.run_bind,Sem.run_pure,Result.andThen_ok,hrun];exact hK _ _ h
theorem below_sets {B:Nat} (g:Nat) (hg:B<=g):∀ (vs:List Value) (o:Nat) {w':World},Below B w w'->Below B w (w'.setCells g o vs)
 | [],_,_,h=>h
 | v::r,o,w',h=>by
  rw[World.setCells];exact below_sets g hg r (o+1) (h.setCell (p:=⟨g,o,none⟩) hg v)
theorem ret_cell {fn:Func} {R:Ending->World->Prop} {t:Tmp} {ty:TypeId} {ad:Addr} (hl:(loadVar ty ad).run Tryz.prog w=.ok v w) (h:fn.results=#[.cell t ty]) (hp:a.tmps.getD t undef=.pointer (some ad)) (hd:a.defers=[])
  (hR:R (.returned v) w):bodyPost Tryz.prog fn R .ret a w:=by
 have hp':a.tmps[t]?.getD undef=.pointer (some ad):=by simpa using hp
 exact⟨hd,v,by simp[results,h,hp',asAddr,hl],hR⟩
theorem latest_any (d s o k:Nat) (K:DK) (i:Int) (w:World) (h:DiskR w d s o k K) (hi1:-9223372036854775808<=i) (hi2:i<=9223372036854775807) :
  Calls Tryz.prog 81 #[.pointer (some ⟨d,0,none⟩),.int .i64 i] w fun e w'=>e=.returned (arrV (K.latest i))/\Below w.heap.size w w':=by
 have hd:=h.lt (.inl rfl);have h':DiskR (w.alloc (.cells (cellsB zB) 163)) d s o k K:=h.keep fun j hj=>(Go.MapKept.heap_alloc _ _).2 _ (h.lt hj)
 have c1:(w.alloc (.cells (cellsB zB) 163)).cell? ⟨d,1,none⟩=some (.map (some s)):=h'.cell (i:=1) rfl;have c2:(w.alloc (.cells (cellsB zB) 163)).cell? ⟨d,2,none⟩=some (.map (some o)):=h'.cell (i:=2) rfl;obtain⟨ks,ko,f,g,f',g',h0,hm,hf,hm',hg',hf'⟩:=h'.mm;have hz:=zero_sector;have hlo:=hm'.lookOk Tryz.underlying148 (hz _) i hi1 hi2;have hl:=h.ok.latest i;have ht0:∀ W:World,(W.there w.heap.size 0 512)->∃ W',(Instr.storeAt 163 (.pointer (some ⟨w.heap.size,0,none⟩)) (arrV (K.latest i))).run Tryz.prog W=.ok () W'/\(loadVar 163 ⟨w.heap.size,0,none⟩).run Tryz.prog W'=.ok (arrV (K.latest i)) W'/\W'=W.setCells w.heap.size 0 (cellsB (K.latest i)).toList:=by
  intro W hW;have hs:(cellsB (K.latest i)).size=512:=(cellsB_size _).trans hl;have hi0:(Tryz.prog.info? 163).map (·.size)=some (cellsB (K.latest i)).size:=by rw[hs];exact size_sector
  refine⟨_,run_storeAt_mid (P:=Tryz.prog) W w.heap.size 0 163 (cellsB (K.latest i)) (by rw[hs];exact hW) hi0 (one_cellsB _),?_,rfl⟩;have hr:=World.rangeAt_setCells_same W w.heap.size 0 (cellsB (K.latest i)).toList (by rw[Array.length_toList,hs];exact hW);have:=run_loadVar_mid (P:=Tryz.prog) _ w.heap.size 0 163 (cellsB (K.latest i)).toList (.array 512 5) hr Tryz.underlying163 rfl (by rw[Array.length_toList,hs];exact size_sector);simpa [arrV] using this
 have hth:=there_alloc w zB 163;rw[zB_len] at hth;have hB:∀ W:World,Below w.heap.size w W->Below w.heap.size w (W.setCells w.heap.size 0 (cellsB (K.latest i)).toList):=fun W hW=>below_sets _ (Nat.le_refl _) _ _ hW
 cases hop:K.op i with
 | some l =>
  have e1:g' i=true:=by rw[<- hg' i,hop];rfl
  have e2:=hf' i l hop;have e3:K.latest i=l:=by unfold DK.latest;rw[hop];rfl
  rw[e1,e2] at hlo;rw[e3] at ht0 hl hB ⊢;have hcs:=cellsB_size l;have hi0:(Tryz.prog.info? 163).map (·.size)=some (cellsB l).size:=by rw[hcs,hl];exact size_sector
  have hst:(Instr.storeAt 163 (.pointer (some ⟨w.heap.size+1,0,none⟩)) (arrV l)).run Tryz.prog ((w.alloc (.cells (cellsB zB) 163)).alloc (.cells (cellsB zB) 163))=.ok () ((w.alloc (.cells (cellsB zB) 163)).alloc (.cells (cellsB l) 163)):=by
   have:=run_storeAt_new (P:=Tryz.prog) (w.alloc (.cells (cellsB zB) 163)) 163 (cellsB zB) (cellsB l) hi0 (by rw[cellsB_size,zB_len,hcs,hl]) (one_cellsB l);rw[World.size_alloc] at this;exact this
  have hld:(Instr.loadAt 163 (.pointer (some ⟨w.heap.size+1,0,none⟩))).run Tryz.prog ((w.alloc (.cells (cellsB zB) 163)).alloc (.cells (cellsB l) 163))=.ok (arrV l) ((w.alloc (.cells (cellsB zB) 163)).alloc (.cells (cellsB l) 163)):=by
   have:=run_loadAt_new (P:=Tryz.prog) (w.alloc (.cells (cellsB zB) 163)) 163 (cellsB l) 512 5 Tryz.underlying163 hi0;rw[World.size_alloc] at this;exact this
  obtain⟨W',hst2,hlv,hW'⟩:=ht0 _ (World.there_alloc hth (.cells (cellsB l) 163));have hb:=hB _ (((Below.refl _ w).alloc (Nat.le_refl _) (.cells (cellsB zB) 163)).alloc (by simp) (.cells (cellsB l) 163));rw[<- hW'] at hb;have HB:=φ hb;clear hf hf' hg' hm hm' h h' hop hcs hi0 hl hth hB ht0 hW' hb;simp only[arrV] at *;go_enter Tryz.func81,Tryz.ntmps81;go_wp2_with (first|refine wpList_store_run hst rfl _ _ rfl rfl rfl ?_|refine wpList_load_run hld rfl _ rfl rfl ?_|refine wpList_store_run hst2 rfl _ _ rfl rfl rfl ?_);exact ret_cell hlv rfl rfl rfl ⟨rfl,HB.out⟩
 | none =>
  have e1:g' i=false:=by rw[<- hg' i,hop];rfl
  have e3:K.latest i=K.sf i:=by unfold DK.latest;rw[hop];rfl
  rw[e1,hm'.off e1] at hlo;have hls:=fun W (hW:∀ j,DB d s o j->W.heap[j]? = (w.alloc (.cells (cellsB zB) 163)).heap[j]?)=>((hm.block (hW s (.inr (.inl rfl)))).look Tryz.underlying148 (hz W) i hi1 hi2)
  have hls:=hls ((w.alloc (.cells (cellsB zB) 163)).alloc (.cells (cellsB zB) 163)) (fun j hj=>(Go.MapKept.heap_alloc _ _).2 _ (h'.lt hj));rw[hf i] at hls;rw[e3] at ht0 hl hB ⊢;have hst:(Instr.storeAt 163 (.pointer (some ⟨w.heap.size+1,0,none⟩)) (arrV zB)).run Tryz.prog ((w.alloc (.cells (cellsB zB) 163)).alloc (.cells (cellsB zB) 163))=.ok () ((w.alloc (.cells (cellsB zB) 163)).alloc (.cells (cellsB zB) 163)):=by
   have:=run_storeAt_new (P:=Tryz.prog) (w.alloc (.cells (cellsB zB) 163)) 163 (cellsB zB) (cellsB zB) (by rw[cellsB_size,zB_len];exact size_sector) rfl (one_cellsB zB);rw[World.size_alloc] at this;exact this
  obtain⟨W',hst2,hlv,hW'⟩:=ht0 _ (World.there_alloc hth (.cells (cellsB zB) 163));have hb:=hB _ (((Below.refl _ w).alloc (Nat.le_refl _) (.cells (cellsB zB) 163)).alloc (by simp) (.cells (cellsB zB) 163));rw[<- hW'] at hb;have HB:=φ hb;clear hf hf' hg' hm hm' h h' hop hl hth hB ht0 hW' hb;simp only[arrV] at *;generalize K.sf i=l at *;go_enter Tryz.func81,Tryz.ntmps81;go_wp2_with (first|refine wpList_store_run hst rfl _ _ rfl rfl rfl ?_|refine wpList_store_run hst2 rfl _ _ rfl rfl rfl ?_);exact ret_cell hlv rfl rfl rfl ⟨rfl,HB.out⟩
end
end Go.Proofs.YtohlkkannjifmaaGreatDoor
