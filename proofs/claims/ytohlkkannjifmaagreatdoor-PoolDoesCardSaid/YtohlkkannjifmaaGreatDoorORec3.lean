import Derived.Test.YtohlkkannjifmaaGreatDoorOLog3
import Derived.Test.YtohlkkannjifmaaGreatDoorOWell2
import Derived.Test.YtohlkkannjifmaaGreatDoorPure
import Derived.Test.YtohlkkannjifmaaGreatDoorPageH
namespace Go.Proofs.YtohlkkannjifmaaGreatDoor
section
open Go.RowKit
variable {L:LK} {d k l p:Nat} {U:Nat->Prop} {sv tv v:Value} {w w':World}
theorem tag_ne {i:Nat} {c1 c2:Array Value} {t1 t2:TypeId} {z1 z2:Nat×Nat} (h1:w.heap[i]? = some (.cells c1 t1 z1)) (h2:w.heap[i]? = some (.cells c2 t2 z2)) (hne:t1≠t2):False:=by
 rw[h1] at h2;injection h2 with h2
 injection h2 with _ h3 _
 exact hne h3
theorem own_tag {b:Nat} {e:TypeId} {n m:Nat} {xs:List Value} (h:w.ownsRow b e n v m xs) {g:Nat} (hg:v.ownBlock=some g):∃ cur,w.heap[g]? = some (.cells cur e (0,0)):=by
 obtain⟨-,⟨rfl,-⟩|⟨g',cap,cur,rfl,-,hh,-⟩⟩:=h
 ·cases hg
 ·cases hg
  exact⟨cur,hh⟩
structure LV (w:World) (U:Nat->Prop) (l d k:Nat) (L:LK) (sv tv:Value) (T:List (Nat×Value×ShV)) (p:Nat) (v:Value):Prop where
 sheets:L.sheets=T.map (fun x=>x.2.2)++[L.last]
 blk:w.heap[l]? = some (.cells #[ptr d,li L.first,li L.count,li L.turn,li L.oldest,sv,tv] 109 (0,0))
 srow:w.ownsRow 0 100 1 sv (T.length+1) (T.map (fun x=>ptr x.1)++[ptr p])
 trow:w.ownsRow 0 2 1 tv L.lsns.length (L.lsns.map li)
 shs:∀ x∈T,ShR w x.1 x.2.1 x.2.2
 lst:ShR w p v L.last
 pw:T.Pairwise (fun x y=>x.1≠y.1/\∀ b,x.2.1.ownBlock=some b->y.2.1.ownBlock≠some b)
 pl:∀ x∈T,x.1≠p/\∀ b,x.2.1.ownBlock=some b->v.ownBlock≠some b
 ul:U l
 us:∀ b,sv.ownBlock=some b->U b
 ut:∀ b,tv.ownBlock=some b->U b
 ux:∀ x∈T,U x.1
 uv:∀ x∈T,∀ b,x.2.1.ownBlock=some b->U b
 up:U p
 uw:∀ b,v.ownBlock=some b->U b
 lt:∀ i,U i->i<w.heap.size
 ok:L.Ok k
theorem LV.of (h:LogR w U l d k L):∃ sv tv T p v,LV w U l d k L sv tv T p v:=by
 obtain⟨sv,tv,T,h1,h2,h3,h4,h5,h6,h7,h8,h9,h10,h11⟩:=h.mm;rcases List.eq_nil_or_concat T with rfl|⟨T',x,rfl⟩
 ·exact absurd h1 h.ok.ne
 simp only[List.concat_eq_append] at *;have e:L.last=x.2.2:=by unfold LK.last;rw[h1];simp
 have hpw:=List.pairwise_append.1 h6;refine⟨sv,tv,T',x.1,x.2.1,⟨?_,h2,?_,h4,fun y hy=>h5 y (by simp[hy]),by rw[e];exact h5 x (by simp),hpw.1,fun y hy=>hpw.2.2 y hy x (by simp),h7,h8,h9,fun y hy=>h10 y (by simp[hy]),fun y hy=>h11 y (by simp[hy]),h10 x (by simp),h11 x (by simp),h.lt,h.ok⟩⟩
 ·rw[h1,e];simp
 ·simpa using h3
theorem LV.log {T:List (Nat×Value×ShV)} (h:LV w U l d k L sv tv T p v):LogR w U l d k L:=by
 refine⟨⟨sv,tv,T++[(p,v,L.last)],by rw[h.sheets];simp,h.blk,?_,h.trow,fun x hx=>?_,?_,h.ul,h.us,h.ut,fun x hx=>?_,fun x hx b hb=>?_⟩,h.lt,h.ok⟩
 ·have:=h.srow;simpa using this
 ·rcases List.mem_append.1 hx with hx|hx
  ·exact h.shs x hx
  ·rw[List.mem_singleton] at hx;subst hx;exact h.lst
 ·rw[List.pairwise_append];exact⟨h.pw,by simp,fun x hx y hy=>by rw[List.mem_singleton] at hy;subst hy;exact h.pl x hx⟩
 ·rcases List.mem_append.1 hx with hx|hx
  ·exact h.ux x hx
  ·rw[List.mem_singleton] at hx;subst hx;exact h.up
 ·rcases List.mem_append.1 hx with hx|hx
  ·exact h.uv x hx b hb
  ·rw[List.mem_singleton] at hx;subst hx;exact h.uw b hb
theorem LK.grow_last (L:LK) (b:List UInt8):(L.grow b).last={ L.last with body:=L.last.body++b }:=by
 unfold LK.grow;simp[LK.last]
theorem LK.grow_end (L:LK) (b:List UInt8):(L.grow b).end_=L.end_+b.length:=by
 unfold LK.end_ ShV.at_;rw[L.grow_last];simp only[List.length_append,Int.natCast_add];omega
theorem LK.sheet_last (L:LK):L.sheet.last=⟨L.last.num+1,0,L.last.body.length,0,[],0,false⟩:=by
 unfold LK.sheet;simp[LK.last]
theorem LK.sheet_end (L:LK):L.sheet.end_=(L.last.num+1)*512+1:=by
 unfold LK.end_ ShV.at_;rw[L.sheet_last];simp
theorem getElem?_concat {α:Type} (l:List α) (x:α) (j:Nat):(l++[x])[j]? = if j<l.length then l[j]? else if j=l.length then some x else none:=by
 by_cases h:j<l.length
 ·rw[if_pos h,List.getElem?_append_left h]
 ·rw[if_neg h,List.getElem?_append_right (by omega)];by_cases e:j=l.length
  ·rw[if_pos e,e];simp
  ·rw[if_neg e,List.getElem?_eq_none (by simp;omega)]
theorem LV.grow {T:List (Nat×Value×ShV)} (h:LV w U l d k L sv tv T p v) (b:List UInt8) {v' tv':Value}
  (ht:Trn (fun i=>some i=v.ownBlock∨i=p∨some i=tv.ownBlock∨i=l) w w')
  (hp:w'.heap[p]? = some (.cells #[li L.last.num,li L.last.turn,li L.last.before,li L.last.used,v',li L.last.safe,.bool L.last.lost] 105 (0,0)))
  (hv:OB 0 w' v' (L.last.body++b)) (hvb:v'.ownBlock=v.ownBlock∨∃ g,v'.ownBlock=some g/\w.heap.size<=g)
  (hl:w'.heap[l]? = some (.cells #[ptr d,li L.first,li L.count,li L.turn,li L.oldest,sv,tv'] 109 (0,0)))
  (htv:w'.ownsRow 0 2 1 tv' (L.lsns.length+1) (L.lsns.map li++[li L.end_])) (htb:tv'.ownBlock=tv.ownBlock∨∃ g,tv'.ownBlock=some g/\w.heap.size<=g)
  (hfit:L.last.body.length+b.length<=496) (hb0:0<b.length) :
  LV w' (fun i=>U i∨(w.heap.size<=i/\i<w'.heap.size)) l d (k+1) (L.grow b) sv tv' T p v':=by
 have hlast:=L.grow_last b;have hsz:=ht.size;have hkeep:∀ (i:Nat) (c:Array Value) (t:TypeId),w.heap[i]? = some (Obj.cells c t (0,0))->t≠5->t≠2->t≠109->i≠p->w'.heap[i]? = w.heap[i]?:=by
  intro i c t hi h1 h2 h3 h4;refine ht.block i (Array.getElem?_eq_some_iff.1 hi).1 ?_;rintro (e|e|e|e)
  ·obtain⟨cur,hc⟩:=own_tag h.lst.body e.symm;exact tag_ne hi hc h1
  ·exact h4 e
  ·obtain⟨cur,hc⟩:=own_tag h.trow e.symm;exact tag_ne hi hc h2
  ·subst e;exact tag_ne hi h.blk h3
 have hbody:∀ x∈T,∀ g,x.2.1.ownBlock=some g->w'.heap[g]? = w.heap[g]?:=by
  intro x hx g hg;obtain⟨cur,hc⟩:=own_tag (h.shs x hx).body hg;refine ht.block g (Array.getElem?_eq_some_iff.1 hc).1 ?_;rintro (e|e|e|e)
  ·exact (h.pl x hx).2 g hg e.symm
  ·subst e;exact tag_ne hc h.lst.blk (by decide)
  ·obtain⟨cur',hc'⟩:=own_tag h.trow e.symm;exact tag_ne hc hc' (by decide)
  ·subst e;exact tag_ne hc h.blk (by decide)
 have hsh:(L.grow b).sheets=T.map (fun x=>x.2.2)++[(L.grow b).last]:=by
  rw[hlast];unfold LK.grow;simp only;rw[h.sheets,List.dropLast_concat]
 have hmem:∀ x∈T,x.2.2∈L.sheets:=fun x hx=>by rw[h.sheets];exact List.mem_append_left _ (List.mem_map.2 ⟨x,hx,rfl⟩)
 refine⟨hsh,hl,ωK h.srow fun g hg=>?_,?_,fun x hx=>⟨?_,ωK (h.shs x hx).body (hbody x hx)⟩,?_,h.pw,fun x hx=>⟨(h.pl x hx).1,fun g hg=>?_⟩,.inl h.ul,fun g hg=>.inl (h.us g hg),fun g hg=>?_,fun x hx=>.inl (h.ux x hx),fun x hx g hg=>.inl (h.uv x hx g hg),.inl h.up,fun g hg=>?_,fun i hi=>?_,?_⟩
 ·obtain⟨cur,hc⟩:=own_tag h.srow hg;exact hkeep g _ _ hc (by decide) (by decide) (by decide) (fun e=>by subst e;exact tag_ne hc h.lst.blk (by decide))
 ·show w'.ownsRow 0 _ 1 tv' (L.lsns++[L.end_]).length ((L.lsns++[L.end_]).map li);rw[List.length_append,List.map_append];exact htv
 ·exact (hkeep x.1 _ _ (h.shs x hx).blk (by decide) (by decide) (by decide) (h.pl x hx).1).trans (h.shs x hx).blk
 ·rw[hlast];exact⟨hp,hv⟩
 ·rcases hvb with e|⟨g',e,hg'⟩
  ·rw[e];exact (h.pl x hx).2 g hg
  ·rw[e];intro e2
   cases e2
   obtain⟨cur,hc⟩:=own_tag (h.shs x hx).body hg;have:=(Array.getElem?_eq_some_iff.1 hc).1;omega
 ·rcases htb with e|⟨g',e,hg'⟩
  ·exact .inl (h.ut g (by rw[<- e];exact hg))
  ·obtain⟨cur,hc⟩:=own_tag htv hg;rw[e] at hg;cases hg
   exact .inr ⟨hg',(Array.getElem?_eq_some_iff.1 hc).1⟩
 ·rcases hvb with e|⟨g',e,hg'⟩
  ·exact .inl (h.uw g (by rw[<- e];exact hg))
  ·obtain⟨cur,hc⟩:=own_tag hv hg;rw[e] at hg;cases hg
   exact .inr ⟨hg',(Array.getElem?_eq_some_iff.1 hc).1⟩
 ·rcases hi with hi|hi
  ·exact Nat.lt_of_lt_of_le (h.lt i hi) hsz
  ·exact hi.2
 ·obtain⟨m,m1,m2,m3⟩:=h.ok.num;have hl2:=h.ok.len;refine⟨by rw[hsh];simp,⟨m,m1,m2,fun j s hj=>?_⟩,fun s hs=>?_,h.ok.f1,h.ok.f2,h.ok.c1,h.ok.c2,h.ok.t1,h.ok.t2,?_,?_,?_,?_,fun _ e=>?_,fun s hs=>?_⟩
  ·rw[hsh,getElem?_concat] at hj;by_cases hlt:j<(T.map (fun x=>x.2.2)).length
   ·rw[if_pos hlt] at hj;exact m3 j s (by rw[h.sheets,getElem?_concat,if_pos hlt];exact hj)
   ·rw[if_neg hlt] at hj;by_cases e:j=(T.map (fun x=>x.2.2)).length
    ·rw[if_pos e] at hj
     cases hj
     rw[hlast];exact m3 j L.last (by rw[h.sheets,getElem?_concat,if_neg hlt,if_pos e])
    ·rw[if_neg e] at hj;cases hj
  ·rw[hsh] at hs;rcases List.mem_append.1 hs with hs|hs
   ·obtain⟨x,hx,rfl⟩:=List.mem_map.1 hs;exact hl2 _ (hmem x hx)
   ·rw[List.mem_singleton] at hs;rw[hs,hlast];have:=hl2 _ h.ok.last;simp only[List.length_append];omega
  ·have:=h.ok.ct;rw[h.sheets] at this;show ((L.grow b).sheets.length:Int)<=L.count-1;rw[hsh];simpa using this
  ·show (L.lsns++[L.end_]).length<=k+1;have:=h.ok.lk;rw[List.length_append];simpa using this
  ·show (L.lsns++[L.end_]).Pairwise (· < ·);rw[List.pairwise_append];exact⟨h.ok.so,by simp,fun x hx y hy=>by rw[List.mem_singleton] at hy;subst hy;exact h.ok.sb x hx⟩
  ·have he:(L.grow b).end_=L.end_+b.length:=L.grow_end b;rw[he];intro x hx;rcases List.mem_append.1 (show x∈L.lsns++[L.end_] from hx) with hx|hx
   ·have:=h.ok.sb x hx;omega
   ·rw[List.mem_singleton] at hx;omega
  ·have:L.lsns++[L.end_]=[]:=e;simp at this
  ·rw[hsh] at hs;rcases List.mem_append.1 hs with hs|hs
   ·obtain⟨x,hx,rfl⟩:=List.mem_map.1 hs;exact h.ok.hd _ (hmem x hx)
   ·rw[List.mem_singleton] at hs;rw[hs,hlast];have:=h.ok.hd _ h.ok.last;exact this
theorem LV.sheet {T:List (Nat×Value×ShV)} (h:LV w U l d k L sv tv T p v) (hm:L.more≠0) {sv':Value} {q:Nat}
  (ht:Trn (fun i=>some i=sv.ownBlock∨i=l) w w') (hq:w.heap.size<=q)
  (hp:w'.heap[q]? = some (.cells #[li (L.last.num+1),li 0,li L.last.body.length,li 0,.slice none 0 0,li 0,.bool false] 105 (0,0)))
  (hl:w'.heap[l]? = some (.cells #[ptr d,li L.first,li L.count,li L.turn,li L.oldest,sv',tv] 109 (0,0)))
  (hsv:w'.ownsRow 0 100 1 sv' (T.length+2) ((T.map (fun x=>ptr x.1)++[ptr p])++[ptr q])) (hsb:sv'.ownBlock=sv.ownBlock∨∃ g,sv'.ownBlock=some g/\w.heap.size<=g) :
  LV w' (fun i=>U i∨(w.heap.size<=i/\i<w'.heap.size)) l d k L.sheet sv' tv (T++[(p,v,L.last)]) q (.slice none 0 0):=by
 have hlast:=L.sheet_last;have hsz:=ht.size;have hkeep:∀ (i:Nat) (c:Array Value) (t:TypeId),w.heap[i]? = some (Obj.cells c t (0,0))->t≠100->t≠109->w'.heap[i]? = w.heap[i]?:=by
  intro i c t hi h1 h2;refine ht.block i (Array.getElem?_eq_some_iff.1 hi).1 ?_;rintro (e|e)
  ·obtain⟨cur,hc⟩:=own_tag h.srow e.symm;exact tag_ne hi hc h1
  ·subst e;exact tag_ne hi h.blk h2
 have hob:∀ {v:Value} {B:List UInt8},OB 0 w v B->OB 0 w' v B:=fun hB=>ωK hB fun g hg=>by
  obtain⟨cur,hc⟩:=own_tag hB hg;exact hkeep g _ _ hc (by decide) (by decide)
 have hsh:L.sheet.sheets=(T++[(p,v,L.last)]).map (fun x=>x.2.2)++[L.sheet.last]:=by
  rw[hlast];unfold LK.sheet;simp only;rw[h.sheets,List.map_append];rfl
 have hold:∀ x∈T++[(p,v,L.last)],x∈T∨x=(p,v,L.last):=fun x hx=>by
  rcases List.mem_append.1 hx with hx|hx
  ·exact .inl hx
  ·exact .inr (List.mem_singleton.1 hx)
 have hshs:∀ x∈T++[(p,v,L.last)],ShR w x.1 x.2.1 x.2.2:=fun x hx=>by
  rcases hold x hx with hx|rfl
  ·exact h.shs x hx
  ·exact h.lst
 refine⟨hsh,hl,?_,ωK h.trow fun g hg=>?_,fun x hx=>⟨(hkeep x.1 _ _ (hshs x hx).blk (by decide) (by decide)).trans (hshs x hx).blk,hob (hshs x hx).body⟩,?_,?_,fun x hx=>⟨?_,fun g hg e=>(by cases e)⟩,.inl h.ul,fun g hg=>?_,fun g hg=>.inl (h.ut g hg),fun x hx=>.inl ?_,fun x hx g hg=>.inl ?_,.inr ⟨hq,(Array.getElem?_eq_some_iff.1 hp).1⟩,fun g hg=>(by cases hg),fun i hi=>?_,?_⟩
 ·rw[List.length_append,List.map_append];exact hsv
 ·obtain⟨cur,hc⟩:=own_tag h.trow hg;exact hkeep g _ _ hc (by decide) (by decide)
 ·rw[hlast];exact⟨hp,OB.nil _ _⟩
 ·rw[List.pairwise_append];exact⟨h.pw,by simp,fun x hx y hy=>by rw[List.mem_singleton] at hy;subst hy;exact h.pl x hx⟩
 ·have:=(Array.getElem?_eq_some_iff.1 (hshs x hx).blk).1;omega
 ·rcases hsb with e|⟨g',e,hg'⟩
  ·exact .inl (h.us g (by rw[<- e];exact hg))
  ·obtain⟨cur,hc⟩:=own_tag hsv hg;rw[e] at hg;cases hg
   exact .inr ⟨hg',(Array.getElem?_eq_some_iff.1 hc).1⟩
 ·rcases hold x hx with hx|rfl
  ·exact h.ux x hx
  ·exact h.up
 ·rcases hold x hx with hx|rfl
  ·exact h.uv x hx g hg
  ·exact h.uw g hg
 ·rcases hi with hi|hi
  ·exact Nat.lt_of_lt_of_le (h.lt i hi) hsz
  ·exact hi.2
 ·obtain⟨m,m1,m2,m3⟩:=h.ok.num;have hl2:=h.ok.len;have hlen:L.sheets.length=T.length+1:=by rw[h.sheets];simp
  have hsheets:L.sheet.sheets=L.sheets++[L.sheet.last]:=by rw[hlast];rfl
  have hct:=h.ok.ct;have hm':=hm;unfold LK.more at hm';refine⟨by rw[hsh];simp,⟨m,m1,m2,fun j s hj=>?_⟩,fun s hs=>?_,h.ok.f1,h.ok.f2,h.ok.c1,h.ok.c2,h.ok.t1,h.ok.t2,?_,h.ok.lk,h.ok.so,fun x hx=>?_,fun hw=>?_,fun s hs=>?_⟩
  ·rw[hsheets,getElem?_concat] at hj;by_cases hlt:j<L.sheets.length
   ·rw[if_pos hlt] at hj;exact m3 j s hj
   ·rw[if_neg hlt] at hj;by_cases e:j=L.sheets.length
    ·rw[if_pos e] at hj
     cases hj
     rw[hlast];have:=m3 T.length L.last (by rw[h.sheets,getElem?_concat];simp);simp only;omega
    ·rw[if_neg e] at hj;cases hj
  ·rw[hsheets] at hs;rcases List.mem_append.1 hs with hs|hs
   ·exact hl2 _ hs
   ·rw[List.mem_singleton] at hs;rw[hs,hlast];simp
  ·rw[hsheets,List.length_append];show ((L.sheets.length+1:Nat):Int)<=L.count-1;omega
  ·have h1:=h.ok.sb x hx;have h2:=L.sheet_end;have h3:=h.ok.end_bd;unfold LK.end_ ShV.at_ at h1;rw[h2];omega
  ·obtain⟨s,hs,hlt⟩:=hw;rw[hsheets] at hs;rcases List.mem_append.1 hs with hs|hs
   ·exact h.ok.wk ⟨s,hs,hlt⟩
   ·rw[List.mem_singleton] at hs;rw[hs,hlast] at hlt;simp at hlt
  ·rw[hsheets] at hs;rcases List.mem_append.1 hs with hs|hs
   ·exact h.ok.hd _ hs
   ·rw[List.mem_singleton] at hs;have:=h.ok.end_bd;rw[hs,hlast];simp only;omega
end
section
set_option maxHeartbeats 1000000
set_option maxRecDepth 100000
open Go.RowKit
def inOf:Value->Int | .int _ x=>x|_=>0
structure PI (B:Nat) (w:World) (a:Option Addr) (n c:Nat) (X:List (Int×Int)):Prop where
 len:n=X.length
 le:n<=c
 mx:c<=9223372036854775807
 lm:n<=1000000000
 at_:0<c->∃ b o,a=some ⟨b,o,none⟩/\b<B/\∀ i,i<n->w.cell? ⟨b,o+i*2,none⟩=some (.int .i64 (X.getD i (0,0)).1)/\w.cell? ⟨b,o+i*2+1,none⟩=some (.int .i64 (X.getD i (0,0)).2)
theorem PI.below {B:Nat} {w w':World} {a:Option Addr} {n c:Nat} {X:List (Int×Int)} (h:PI B w a n c X) (hb:Below B w w'):PI B w' a n c X :=
 ⟨h.len,h.le,h.mx,h.lm,fun hc=>by
  obtain⟨b,o,rfl,hB,hcell⟩:=h.at_ hc;exact⟨b,o,rfl,hB,fun i hi=>⟨(hb.cell (p:=⟨b,o+i*2,none⟩) hB).trans (hcell i hi).1,(hb.cell (p:=⟨b,o+i*2+1,none⟩) hB).trans (hcell i hi).2⟩⟩⟩
theorem paged_any (x:Int) (w:World):Calls Tryz.prog 133 #[li x] w fun e w'=>e=.returned (.bool (pagedB x))/\w'=w:=by
 unfold li pagedB;by_cases h0:0<=x
 ·have e0:decide (x ≥ 0)=true:=by simpa using h0
  go_enter Tryz.func133,Tryz.ntmps133;go_wp2_with (fail);go_ret;refine⟨?_,rfl⟩;simp[h0]
 ·have e0:decide (x ≥ 0)=false:=by simpa using h0
  go_enter Tryz.func133,Tryz.ntmps133;go_wp2_with (fail);go_ret;refine⟨?_,rfl⟩;simp
def okAt (l:List Int) (least:Int) (i:Nat):Bool:=decide (least<=l.getD i 0) && (i == 0 || decide (l.getD (i-1) 0<l.getD i 0))
theorem riseB_at (l:List Int) (least:Int) (most:Nat):riseB l least most=((List.range l.length).all (okAt l least) && decide (l.length<=most)):=rfl
theorem all_range_succ (f:Nat->Bool) (j:Nat) (h:(List.range j).all f=true) (hj:f j=true):(List.range (j+1)).all f=true:=by
 rw[List.range_succ,List.all_append,h];simp[hj]
theorem all_range_bad (f:Nat->Bool) (j n:Nat) (hj:j<n) (h:f j=false):(List.range n).all f=false:=by
 rw[List.all_eq_false];exact⟨j,List.mem_range.2 hj,by simp[h]⟩
theorem fst_getD (X:List (Int×Int)) (i:Nat):(X.map (·.1)).getD i 0=(X.getD i (0,0)).1:=by
 rw[List.getD_eq_getElem?_getD,List.getElem?_map,List.getD_eq_getElem?_getD]
 cases X[i]?<;>rfl
theorem numD_any (x y:Int) (w:World):Calls Tryz.prog 206 #[.agg #[.int .i64 x,.int .i64 y]] w fun e w'=>e=.returned (.int .i64 x)/\Below w.heap.size w w':=by
 have hb:=(Below.refl w.heap.size w).alloc (Nat.le_refl _) (.cells #[.int .i64 x,.int .i64 y] 80);go_enter Tryz.func206,Tryz.ntmps206;go_wp2_with (fail);go_ret;exact⟨rfl,hb⟩
theorem riseD_any (B:Nat) (a:Option Addr) (n c:Nat) (X:List (Int×Int)) (least:Int) (most:Nat) (w:World) (h:PI B w a n c X) (hB:B<=w.heap.size) :
  Calls Tryz.prog 205 #[.slice a n c,.func (.func 206) #[] #[],.int .i64 least,.int .i64 most] w fun e w'=>e=.returned (.bool (riseB (X.map (·.1)) least most))/\Below w.heap.size w w':=by
 have H:=φ h;have hle:=h.le;have hmx:=h.mx;have hlm:=h.lm;have HN:=φ h.len;have HC:=φ numD_any;obtain⟨l,hl⟩:∃ l,l=X.map (·.1):=⟨_,rfl⟩
 have HF:Hid (∀ i,l.getD i 0=(X.getD i (0,0)).1):=φ fun i=>by rw[hl];exact fst_getD X i
 have HL:Hid (l.length=n):=φ (by rw[hl,List.length_map];exact h.len.symm);rw[<- hl];obtain⟨r,hr⟩:∃ r,r=riseB l least most:=⟨_,rfl⟩
 rw[<- hr];have HR:=φ hr;clear hl h hr;go_enter Tryz.func205,Tryz.ntmps205;go_wp2_with (fail);go_loopw [14] (fun i wr=>∃ j:Nat,j<=n/\i=.int .i64 j/\Hid ((List.range j).all (okAt l least)=true)/\Hid (Below w.heap.size w wr)) (fun i _=>n-(inOf i).toNat)
 case atStart=>exact⟨0,Nat.zero_le _,rfl,φ rfl,φ (Below.refl _ _)⟩
 case round =>
  obtain⟨j,hj,rfl,HA,Hb⟩:=hrel;by_cases hlt:j<n
  ·obtain⟨b,o,rfl,hbB,hcs⟩:=H.out.at_ (by omega);obtain⟨r0,r1⟩:=hcs j hlt;have hbl:b<w.heap.size:=by omega
   have z0:=(Hb.out.cell (p:=⟨b,o+j*2,none⟩) hbl).trans r0;have z1:=(Hb.out.cell (p:=⟨b,o+j*2+1,none⟩) hbl).trans r1;have HX:=φ (HF.out j);have HP:Hid (∀ m,j=m+1->∀ W,Below w.heap.size w W->W.cell? ⟨b,o+m*2,none⟩=some (.int .i64 (X.getD m (0,0)).1)/\W.cell? ⟨b,o+m*2+1,none⟩=some (.int .i64 (X.getD m (0,0)).2)):=φ fun m e W hW=>⟨(hW.cell (p:=⟨b,o+m*2,none⟩) hbl).trans (hcs m (by omega)).1,(hW.cell (p:=⟨b,o+m*2+1,none⟩) hbl).trans (hcs m (by omega)).2⟩
   clear r0 r1 hcs;generalize (X.getD j (0,0)).1=x at *;generalize (X.getD j (0,0)).2=y at *;have BA:Hid (Below w.heap.size w (wr.alloc (.cells #[.int .i64 x,.int .i64 y] 80))):=φ (Hb.out.alloc Hb.out.size _);have f2:IntKind.i64.wrap ((j:Int)+1)=((j+1:Nat):Int):=by rw[IntWalk.i64_in _ (by omega)];omega
   by_cases hx:x<least
   ·have e1:decide (x<least)=true:=decide_eq_true hx;have HE:Hid (r=false):=φ (by
     rw[HR.out,riseB_at,HL.out,all_range_bad _ j n hlt (by unfold okAt;rw[HX.out,decide_eq_false (by omega),Bool.false_and]),Bool.false_and])
    go_wp2_with (go_at_call 206;refine (HC.out _ _ _).mono ?_;rintro e w2 ⟨rfl,hb2⟩;have B2:=φ (BA.out.trans (hb2.mono BA.out.size));clear hb2);go_ret;exact⟨by rw[HE.out];rfl,B2.out⟩
   ·have e1:decide (x<least)=false:=decide_eq_false hx;by_cases hj0:j=0
    ·have e2:¬ 0<j:=(by omega);have e2i:¬ 0<(j:Int):=(by omega);have HO:Hid ((List.range (j+1)).all (okAt l least)=true):=φ (all_range_succ _ j HA.out (by unfold okAt;rw[HX.out,decide_eq_true (by omega),hj0];rfl));clear hj0 hx;go_wp2_with (go_at_call 206;refine (HC.out _ _ _).mono ?_;rintro e w2 ⟨rfl,hb2⟩;have B2:=φ (BA.out.trans (hb2.mono BA.out.size));clear hb2);go_roundw
     case rel=>exact⟨j+1,by omega,by go_num,HO,B2⟩
     case measure=>simp[inOf];omega
    ·obtain⟨m,hm⟩:∃ m,j=m+1:=⟨j-1,by omega⟩
     have e2:0<j:=(by omega);have e2i:0<(j:Int):=(by omega);have e3:IntKind.i64.wrap ((j:Int)-1)=(m:Int):=(by rw[IntWalk.i64_in _ (by omega)];omega);have e4:(m:Int)<(n:Int):=(by omega);have e5:(0:Int)<=(m:Int):=(by omega);have HP2:=φ (HP.out m hm);have HX2:Hid (l.getD (j-1) 0=(X.getD m (0,0)).1):=φ (by rw[HF.out,hm];rfl);clear HP;generalize (X.getD m (0,0)).1=px at *;generalize (X.getD m (0,0)).2=py at *;have Hj:=φ hm;clear hm hj0;by_cases hp:x<=px
     ·have e6:decide (x<=px)=true:=decide_eq_true hp;have HE:Hid (r=false):=φ (by
       rw[HR.out,riseB_at,HL.out,all_range_bad _ j n hlt (by unfold okAt;rw[HX.out,HX2.out,decide_eq_false (p:=px<x) (by omega),show (j == 0)=false by simpa using by have:=Hj.out;omega];simp),Bool.false_and])
      clear hp hx;go_wp2_with (go_at_call 206;refine (HC.out _ _ _).mono ?_;rintro e w2 ⟨rfl,hb2⟩;have B2:=φ (BA.out.trans (hb2.mono BA.out.size));clear BA;have BA:=B2;obtain⟨p0,p1⟩:=HP2.out w2 B2.out;clear hb2);go_ret;exact⟨by rw[HE.out];rfl,BA.out⟩
     ·have e6:decide (x<=px)=false:=decide_eq_false hp;have HO:Hid ((List.range (j+1)).all (okAt l least)=true):=φ (all_range_succ _ j HA.out (by unfold okAt;rw[HX.out,HX2.out,decide_eq_true (p:=least<=x) (by omega),decide_eq_true (p:=px<x) (by omega)];simp));clear hp hx;go_wp2_with (go_at_call 206;refine (HC.out _ _ _).mono ?_;rintro e w2 ⟨rfl,hb2⟩;have B2:=φ (BA.out.trans (hb2.mono BA.out.size));clear BA;have BA:=B2;obtain⟨p0,p1⟩:=HP2.out w2 B2.out;clear hb2);go_roundw
      case rel=>exact⟨j+1,by omega,by go_num,HO,BA⟩
      case measure=>simp[inOf];omega
  ·obtain rfl:j=n:=by omega
   have HE:Hid (r=decide (j<=most)):=φ (by
    rw[HR.out,riseB_at,HL.out,HA.out,Bool.true_and])
   go_wp2_with (fail);go_ret;exact⟨by rw[HE.out];rfl,Hb.out⟩
theorem numO_any (x y:Int) (w:World):Calls Tryz.prog 208 #[.agg #[.int .i64 x,.int .i64 y]] w fun e w'=>e=.returned (.int .i64 x)/\Below w.heap.size w w':=by
 have hb:=(Below.refl w.heap.size w).alloc (Nat.le_refl _) (.cells #[.int .i64 x,.int .i64 y] 200);go_enter Tryz.func208,Tryz.ntmps208;go_wp2_with (fail);go_ret;exact⟨rfl,hb⟩
theorem riseO_any (B:Nat) (a:Option Addr) (n c:Nat) (X:List (Int×Int)) (least:Int) (most:Nat) (w:World) (h:PI B w a n c X) (hB:B<=w.heap.size) :
  Calls Tryz.prog 207 #[.slice a n c,.func (.func 208) #[] #[],.int .i64 least,.int .i64 most] w fun e w'=>e=.returned (.bool (riseB (X.map (·.1)) least most))/\Below w.heap.size w w':=by
 have H:=φ h;have hle:=h.le;have hmx:=h.mx;have hlm:=h.lm;have HN:=φ h.len;have HC:=φ numO_any;obtain⟨l,hl⟩:∃ l,l=X.map (·.1):=⟨_,rfl⟩
 have HF:Hid (∀ i,l.getD i 0=(X.getD i (0,0)).1):=φ fun i=>by rw[hl];exact fst_getD X i
 have HL:Hid (l.length=n):=φ (by rw[hl,List.length_map];exact h.len.symm);rw[<- hl];obtain⟨r,hr⟩:∃ r,r=riseB l least most:=⟨_,rfl⟩
 rw[<- hr];have HR:=φ hr;clear hl h hr;go_enter Tryz.func207,Tryz.ntmps207;go_wp2_with (fail);go_loopw [14] (fun i wr=>∃ j:Nat,j<=n/\i=.int .i64 j/\Hid ((List.range j).all (okAt l least)=true)/\Hid (Below w.heap.size w wr)) (fun i _=>n-(inOf i).toNat)
 case atStart=>exact⟨0,Nat.zero_le _,rfl,φ rfl,φ (Below.refl _ _)⟩
 case round =>
  obtain⟨j,hj,rfl,HA,Hb⟩:=hrel;by_cases hlt:j<n
  ·obtain⟨b,o,rfl,hbB,hcs⟩:=H.out.at_ (by omega);obtain⟨r0,r1⟩:=hcs j hlt;have hbl:b<w.heap.size:=by omega
   have z0:=(Hb.out.cell (p:=⟨b,o+j*2,none⟩) hbl).trans r0;have z1:=(Hb.out.cell (p:=⟨b,o+j*2+1,none⟩) hbl).trans r1;have HX:=φ (HF.out j);have HP:Hid (∀ m,j=m+1->∀ W,Below w.heap.size w W->W.cell? ⟨b,o+m*2,none⟩=some (.int .i64 (X.getD m (0,0)).1)/\W.cell? ⟨b,o+m*2+1,none⟩=some (.int .i64 (X.getD m (0,0)).2)):=φ fun m e W hW=>⟨(hW.cell (p:=⟨b,o+m*2,none⟩) hbl).trans (hcs m (by omega)).1,(hW.cell (p:=⟨b,o+m*2+1,none⟩) hbl).trans (hcs m (by omega)).2⟩
   clear r0 r1 hcs;generalize (X.getD j (0,0)).1=x at *;generalize (X.getD j (0,0)).2=y at *;have BA:Hid (Below w.heap.size w (wr.alloc (.cells #[.int .i64 x,.int .i64 y] 200))):=φ (Hb.out.alloc Hb.out.size _);have f2:IntKind.i64.wrap ((j:Int)+1)=((j+1:Nat):Int):=by rw[IntWalk.i64_in _ (by omega)];omega
   by_cases hx:x<least
   ·have e1:decide (x<least)=true:=decide_eq_true hx;have HE:Hid (r=false):=φ (by
     rw[HR.out,riseB_at,HL.out,all_range_bad _ j n hlt (by unfold okAt;rw[HX.out,decide_eq_false (by omega),Bool.false_and]),Bool.false_and])
    go_wp2_with (go_at_call 208;refine (HC.out _ _ _).mono ?_;rintro e w2 ⟨rfl,hb2⟩;have B2:=φ (BA.out.trans (hb2.mono BA.out.size));clear hb2);go_ret;exact⟨by rw[HE.out];rfl,B2.out⟩
   ·have e1:decide (x<least)=false:=decide_eq_false hx;by_cases hj0:j=0
    ·have e2:¬ 0<j:=(by omega);have e2i:¬ 0<(j:Int):=(by omega);have HO:Hid ((List.range (j+1)).all (okAt l least)=true):=φ (all_range_succ _ j HA.out (by unfold okAt;rw[HX.out,decide_eq_true (by omega),hj0];rfl));clear hj0 hx;go_wp2_with (go_at_call 208;refine (HC.out _ _ _).mono ?_;rintro e w2 ⟨rfl,hb2⟩;have B2:=φ (BA.out.trans (hb2.mono BA.out.size));clear hb2);go_roundw
     case rel=>exact⟨j+1,by omega,by go_num,HO,B2⟩
     case measure=>simp[inOf];omega
    ·obtain⟨m,hm⟩:∃ m,j=m+1:=⟨j-1,by omega⟩
     have e2:0<j:=(by omega);have e2i:0<(j:Int):=(by omega);have e3:IntKind.i64.wrap ((j:Int)-1)=(m:Int):=(by rw[IntWalk.i64_in _ (by omega)];omega);have e4:(m:Int)<(n:Int):=(by omega);have e5:(0:Int)<=(m:Int):=(by omega);have HP2:=φ (HP.out m hm);have HX2:Hid (l.getD (j-1) 0=(X.getD m (0,0)).1):=φ (by rw[HF.out,hm];rfl);clear HP;generalize (X.getD m (0,0)).1=px at *;generalize (X.getD m (0,0)).2=py at *;have Hj:=φ hm;clear hm hj0;by_cases hp:x<=px
     ·have e6:decide (x<=px)=true:=decide_eq_true hp;have HE:Hid (r=false):=φ (by
       rw[HR.out,riseB_at,HL.out,all_range_bad _ j n hlt (by unfold okAt;rw[HX.out,HX2.out,decide_eq_false (p:=px<x) (by omega),show (j == 0)=false by simpa using by have:=Hj.out;omega];simp),Bool.false_and])
      clear hp hx;go_wp2_with (go_at_call 208;refine (HC.out _ _ _).mono ?_;rintro e w2 ⟨rfl,hb2⟩;have B2:=φ (BA.out.trans (hb2.mono BA.out.size));clear BA;have BA:=B2;obtain⟨p0,p1⟩:=HP2.out w2 B2.out;clear hb2);go_ret;exact⟨by rw[HE.out];rfl,BA.out⟩
     ·have e6:decide (x<=px)=false:=decide_eq_false hp;have HO:Hid ((List.range (j+1)).all (okAt l least)=true):=φ (all_range_succ _ j HA.out (by unfold okAt;rw[HX.out,HX2.out,decide_eq_true (p:=least<=x) (by omega),decide_eq_true (p:=px<x) (by omega)];simp));clear hp hx;go_wp2_with (go_at_call 208;refine (HC.out _ _ _).mono ?_;rintro e w2 ⟨rfl,hb2⟩;have B2:=φ (BA.out.trans (hb2.mono BA.out.size));clear BA;have BA:=B2;obtain⟨p0,p1⟩:=HP2.out w2 B2.out;clear hb2);go_roundw
      case rel=>exact⟨j+1,by omega,by go_num,HO,BA⟩
      case measure=>simp[inOf];omega
  ·obtain rfl:j=n:=by omega
   have HE:Hid (r=decide (j<=most)):=φ (by
    rw[HR.out,riseB_at,HL.out,HA.out,Bool.true_and])
   go_wp2_with (fail);go_ret;exact⟨by rw[HE.out];rfl,Hb.out⟩
end
section
set_option maxHeartbeats 2000000
set_option maxRecDepth 100000
open Go.RowKit
theorem rturned_any (ka oa na:Option Addr) (kn kc on oc nn nc:Nat) (w:World) (hk:kn<=140737488355328) (ho:on<=140737488355328) (hn:nn<=140737488355328) :
  Calls Tryz.prog 134 #[.agg #[.slice ka kn kc,.slice oa on oc,.slice na nn nc]] w fun e w'=>e=.returned (.bool (turnedB kn on nn))/\Below w.heap.size w w':=by
 have hm:((max on nn:Nat):Int)=max (on:Int) (nn:Int):=by omega
 go_enter Tryz.func134,Tryz.ntmps134;go_wp2;go_quiet (fail);go_wp2
 all_goals
  go_ret;refine⟨?_,δ (by go_grown) _⟩;refine congrArg (fun x=>Ending.returned (.bool x)) ?_;rw[Bool.eq_iff_iff];simp[turnedB];omega
theorem all_take_succ {α:Type} (f:α->Bool) (X:List α) (d:α) (j:Nat) (hj:j<X.length) (h:(X.take j).all f=true) (hx:f (X.getD j d)=true):(X.take (j+1)).all f=true:=by
 rw[List.take_succ_eq_append_getElem hj,List.all_append,h];rw[List.getD_eq_getElem?_getD,List.getElem?_eq_getElem hj] at hx;simpa using hx
theorem all_take_bad {α:Type} (f:α->Bool) (X:List α) (d:α) (j:Nat) (hj:j<X.length) (hx:f (X.getD j d)=false):X.all f=false:=by
 rw[List.getD_eq_getElem?_getD,List.getElem?_eq_getElem hj] at hx;rw[List.all_eq_false];exact⟨_,List.getElem_mem hj,by simpa using hx⟩
def recV (r:RecV) (ka oa na da pa:Option Addr) (kc oc nc dc pc:Nat):Value :=
 .agg #[.int .i64 r.lsn,.int .i64 r.work,.int .i64 r.prev,.int .i64 r.next,.int .u8 r.kind,.int .i64 r.page,.slice ka r.key.length kc,.slice oa r.old.length oc,.slice na r.new.length nc,.slice da r.dirty.length dc,.slice pa r.opn.length pc]
def dirtyB (d:Int×Int):Bool:=decide (1<=d.2) && pagedB d.1
def markB (D O:List (Int×Int)):Bool:=D.all dirtyB && O.all (fun o=>decide (1<=o.2)) && riseB (D.map (·.1)) 0 32 && riseB (O.map (·.1)) 1 8
theorem marked_any (B:Nat) (l0 l1 l2 l3 k p:Int) (ka oa na da pa:Option Addr) (kn on nn kc oc nc n dc m pc:Nat) (D O:List (Int×Int)) (w:World) (hd:PI B w da n dc D) (hp:PI B w pa m pc O) (hB:B<=w.heap.size) :
  Calls Tryz.prog 132 #[.agg #[.int .i64 l0,.int .i64 l1,.int .i64 l2,.int .i64 l3,.int .u8 k,.int .i64 p,.slice ka kn kc,.slice oa on oc,.slice na nn nc,.slice da n dc,.slice pa m pc]] w
   fun e w'=>e=.returned (.bool (markB D O))/\Below w.heap.size w w':=by
 have Hd:=φ hd;have Hp:=φ hp;have hle:=hd.le;have hlm:=hd.lm;have hmx:=hd.mx;have hle2:=hp.le;have hlm2:=hp.lm;have hmx2:=hp.mx;have HN:=φ hd.len;have HM:=φ hp.len;obtain⟨bb,hbb⟩:∃ bb,bb=markB D O:=⟨_,rfl⟩
 rw[<- hbb];have HR:=φ hbb;have HPg:=φ paged_any;clear hbb hd hp;go_enter Tryz.func132,Tryz.ntmps132;go_wp2_with (fail);have hbx:Below w.heap.size w (w.alloc (.cells #[.int .i64 l0,.int .i64 l1,.int .i64 l2,.int .i64 l3,.int .u8 k,.int .i64 p,.slice ka kn kc,.slice oa on oc,.slice na nn nc,.slice da n dc,.slice pa m pc] 33)):=(Below.refl _ w).alloc (Nat.le_refl _) _;obtain⟨w0,hw0⟩:∃ w0,w0=w.alloc (.cells #[.int .i64 l0,.int .i64 l1,.int .i64 l2,.int .i64 l3,.int .u8 k,.int .i64 p,.slice ka kn kc,.slice oa on oc,.slice na nn nc,.slice da n dc,.slice pa m pc] 33):=⟨_,rfl⟩
 have hs0:w0.heap.size=w.heap.size+1:=by rw[hw0];simp
 have hc9:w0.cell? ⟨w.heap.size,9,none⟩=some (.slice da n dc):=by rw[hw0];simp[go_sem]
 have hc10:w0.cell? ⟨w.heap.size,10,none⟩=some (.slice pa m pc):=by rw[hw0];simp[go_sem]
 rw[<- hw0] at hbx ⊢;have HS0:=φ hs0;have HB0:=φ hbx;have HC:Hid (∀ W,Below w0.heap.size w0 W->W.cell? ⟨w.heap.size,9,none⟩=some (.slice da n dc)/\W.cell? ⟨w.heap.size,10,none⟩=some (.slice pa m pc)):=φ fun W hW=>⟨(hW.cell (p:=⟨w.heap.size,9,none⟩) (by simp;omega)).trans hc9,(hW.cell (p:=⟨w.heap.size,10,none⟩) (by simp;omega)).trans hc10⟩
 clear hw0 hs0 hbx hc9 hc10;go_loopw [10] (fun i wr=>∃ j:Nat,j<=n/\i=.int .i64 j/\Hid ((D.take j).all dirtyB=true)/\Hid (Below w0.heap.size w0 wr)) (fun i _=>n-(inOf i).toNat)
 case atStart=>exact⟨0,Nat.zero_le _,rfl,φ (by simp),φ (Below.refl _ _)⟩
 case round =>
  obtain⟨j,hj,rfl,HA,Hb⟩:=hrel;by_cases hlt:j<n
  ·obtain⟨b,o,rfl,hbB,hcs⟩:=Hd.out.at_ (by omega);have hbl:b<w.heap.size:=by omega
   have HBr:=φ (HB0.out.trans (Hb.out.mono HB0.out.size));have z0:=(HBr.out.cell (p:=⟨b,o+j*2,none⟩) hbl).trans (hcs j hlt).1;have z1:=(HBr.out.cell (p:=⟨b,o+j*2+1,none⟩) hbl).trans (hcs j hlt).2;have HX:Hid (dirtyB (D.getD j (0,0))=(decide (1<=(D.getD j (0,0)).2) && pagedB (D.getD j (0,0)).1)):=φ rfl;have HBad:Hid (dirtyB (D.getD j (0,0))=false->bb=false):=φ fun h=>by
    rw[HR.out];unfold markB;rw[all_take_bad _ D (0,0) j (by have:=HN.out;omega) h,Bool.false_and,Bool.false_and,Bool.false_and]
   have HGood:Hid (dirtyB (D.getD j (0,0))=true->(D.take (j+1)).all dirtyB=true):=φ fun h=>all_take_succ _ D (0,0) j (by have:=HN.out;omega) HA.out h
   generalize dirtyB (D.getD j (0,0))=db at *;clear hcs;generalize (D.getD j (0,0)).1=x at *;generalize (D.getD j (0,0)).2=y at *;have BA:Hid (Below w0.heap.size w0 (wr.alloc (.cells #[.int .i64 x,.int .i64 y] 80))):=φ (Hb.out.alloc Hb.out.size _);have f2:IntKind.i64.wrap ((j:Int)+1)=((j+1:Nat):Int):=by rw[IntWalk.i64_in _ (by omega)];omega
   by_cases hy:y<1
   ·have e1:decide (y<1)=true:=decide_eq_true hy;have HE:Hid (bb=false):=φ (HBad.out (by rw[HX.out,decide_eq_false (by omega),Bool.false_and]));clear HX;go_wp2_with (fail);go_ret;exact⟨by rw[HE.out];rfl,HB0.out.trans (BA.out.mono HB0.out.size)⟩
   ·have e1:decide (y<1)=false:=decide_eq_false hy;have HXp:Hid (db=pagedB x):=φ (by rw[HX.out,decide_eq_true (by omega),Bool.true_and]);have HPx:=φ fun W=>paged_any x W
    clear HX HPg;obtain⟨pb,hpb⟩:∃ pb,pb=pagedB x:=⟨_,rfl⟩
    rw[<- hpb] at HPx HXp;clear hpb
    cases pb with
    | false =>
     go_wp2_with (go_at_call 133;refine (HPx.out _).mono ?_;rintro e w2 ⟨rfl,hw2⟩;replace hw2:=hw2.symm;subst hw2);go_ret;exact⟨by rw[HBad.out HXp.out];rfl,HB0.out.trans (BA.out.mono HB0.out.size)⟩
    | true =>
     go_wp2_with (go_at_call 133;refine (HPx.out _).mono ?_;rintro e w2 ⟨rfl,hw2⟩;replace hw2:=hw2.symm;subst hw2);go_roundw
     case rel=>exact⟨j+1,by omega,by go_num,φ (HGood.out HXp.out),BA⟩
     case measure=>simp[inOf];omega
  ·obtain rfl:j=n:=by omega
   obtain⟨-,c10⟩:=HC.out wr Hb.out;have HD1:Hid (D.all dirtyB=true):=φ (by have:=HA.out;rwa [List.take_of_length_le (by have:=HN.out;omega)] at this);clear HA;go_wp2_with (fail);go_loopw [27] (fun i wr=>∃ i':Nat,i'<=m/\i=.int .i64 i'/\Hid ((O.take i').all (fun o=>decide (1<=o.2))=true)/\Hid (Below w0.heap.size w0 wr)) (fun i _=>m-(inOf i).toNat)
   case atStart=>exact⟨0,Nat.zero_le _,rfl,φ (by simp),Hb⟩
   case round =>
    obtain⟨q,hq,rfl,HA,Hc⟩:=hrel;by_cases hlt:q<m
    ·obtain⟨b,o,rfl,hbB,hcs⟩:=Hp.out.at_ (by omega);have hbl:b<w.heap.size:=(by omega);rename_i wq;have HBr:=φ (HB0.out.trans (Hc.out.mono HB0.out.size));have z0:=(HBr.out.cell (p:=⟨b,o+q*2,none⟩) hbl).trans (hcs q hlt).1;have z1:=(HBr.out.cell (p:=⟨b,o+q*2+1,none⟩) hbl).trans (hcs q hlt).2;have HBad:Hid (decide (1<=(O.getD q (0,0)).2)=false->bb=false):=φ fun h=>by
      rw[HR.out];unfold markB;rw[all_take_bad (fun o=>decide (1<=o.2)) O (0,0) q (by have:=HM.out;omega) h,Bool.and_false,Bool.false_and,Bool.false_and]
     have HGood:Hid (decide (1<=(O.getD q (0,0)).2)=true->(O.take (q+1)).all (fun o=>decide (1<=o.2))=true):=φ fun h=>all_take_succ (fun o=>decide (1<=o.2)) O (0,0) q (by have:=HM.out;omega) HA.out h
     clear hcs;generalize (O.getD q (0,0)).1=x at *;generalize (O.getD q (0,0)).2=y at *;have BA:=φ (Hc.out.alloc Hc.out.size (.cells #[.int .i64 x,.int .i64 y] 200));have f2:IntKind.i64.wrap ((q:Int)+1)=((q+1:Nat):Int):=(by rw[IntWalk.i64_in _ (by omega)];omega);by_cases hy:y<1
     ·have e1:decide (y<1)=true:=decide_eq_true hy;have HE:Hid (bb=false):=φ (HBad.out (decide_eq_false (by omega)));go_wp2_with (fail);go_ret;exact⟨by rw[HE.out];rfl,HB0.out.trans (BA.out.mono HB0.out.size)⟩
     ·have e1:decide (y<1)=false:=decide_eq_false hy;have HO:=φ (HGood.out (decide_eq_true (by omega)));go_wp2_with (fail);go_roundw
      case rel=>exact⟨q+1,by omega,by go_num,HO,BA⟩
      case measure=>simp[inOf];omega
    ·obtain rfl:q=m:=by omega
     have HO1:Hid (O.all (fun o=>decide (1<=o.2))=true):=φ (by have:=HA.out;rwa [List.take_of_length_le (by have:=HM.out;omega)] at this);obtain⟨c9',c10'⟩:=HC.out _ Hc.out;have HE:Hid (bb=(riseB (D.map (·.1)) 0 32 && riseB (O.map (·.1)) 1 8)):=φ (by
      rw[HR.out];unfold markB;rw[HD1.out,HO1.out,Bool.true_and,Bool.true_and])
     have HBr:=φ (HB0.out.trans (Hc.out.mono HB0.out.size));have HRD:=φ fun W (hW:Below w.heap.size w W)=>riseD_any B da j dc D 0 32 W (Hd.out.below (hW.mono hB)) (Nat.le_trans hB hW.size)
     have HRO:=φ fun W (hW:Below w.heap.size w W)=>riseO_any B pa q pc O 1 8 W (Hp.out.below (hW.mono hB)) (Nat.le_trans hB hW.size)
     generalize riseB (D.map (·.1)) 0 32=rd at *;generalize riseB (O.map (·.1)) 1 8=ro at *;clear HA HR
     cases rd with
     | false =>
      go_wp2_with (go_at_call 205;refine (HRD.out _ HBr.out).mono ?_;rintro e w2 ⟨rfl,hb2⟩;have B2:=φ (HBr.out.trans (hb2.mono HBr.out.size));have C2:=φ (HC.out w2 (Hc.out.trans (hb2.mono Hc.out.size)));clear hb2);go_ret;exact⟨by rw[HE.out];rfl,B2.out⟩
     | true =>
      go_wp2_with (first|(go_at_call 205;refine (HRD.out _ HBr.out).mono ?_;rintro e w2 ⟨rfl,hb2⟩;have B2:=φ (HBr.out.trans (hb2.mono HBr.out.size));obtain⟨y9,y10⟩:=HC.out w2 (Hc.out.trans (hb2.mono Hc.out.size));clear hb2)|(go_at_call 207;refine (HRO.out _ B2.out).mono ?_;rintro e w3 ⟨rfl,hb3⟩;have B3:=φ (B2.out.trans (hb3.mono B2.out.size));clear hb3));go_ret;exact⟨by rw[HE.out];rfl,B3.out⟩
end
end Go.Proofs.YtohlkkannjifmaaGreatDoor
