import Derived.Test.YtohlkkannjifmaaGreatDoorPageK
import Derived.Test.YtohlkkannjifmaaGreatDoorPageM
import Derived.Test.YtohlkkannjifmaaGreatDoorPure
import Derived.Test.YtohlkkannjifmaaGreatDoorOWell2
import Derived.Test.YtohlkkannjifmaaGreatDoorOLogG
import Derived.LaidEqlPtr
namespace Go.Proofs.YtohlkkannjifmaaGreatDoor
section
open Go.RowKit Go.Shelf
theorem Turn_any (g c:Nat) (L:List UInt8) (X:List Value) (B:Nat) (ka oa na:Option Addr) (kn kc on oc nn nc:Nat) (K O N:List UInt8) (w:World) (hp:PG w g c L X)
  (hk:RBn g B w ka kn kc K) (ho:RBn g B w oa on oc O) (hn:RBn g B w na nn nc N) (hB:B<=w.heap.size) :
  Calls Tryz.prog 21 #[.slice (some ⟨g,0,none⟩) 512 c,.agg #[.slice ka kn kc,.slice oa on oc,.slice na nn nc]] w (TurnPost g c w (turnL L K O N) X):=by
 by_cases h0:βL L=0
 ·exact Turn_shape g c L X B ka oa na kn kc on oc nn nc K O N w hp hk ho hn hB h0
 by_cases ht:turnedB K.length O.length N.length=false
 ·exact Turn_arg g c L X B ka oa na kn kc on oc nn nc K O N w hp hk ho hn hB h0 ht
 have ht:turnedB K.length O.length N.length=true:=by simpa using ht
 obtain⟨i,e,t,hf⟩:∃ i e t,findL L K=(i,e,t):=⟨_,_,_,rfl⟩
 cases t with
 | true =>
  by_cases hO:O=[]
  ·exact Turn_none1 g c L X B ka oa na kn kc on oc nn nc K O N w hp hk ho hn hB h0 ht i e hf hO
  by_cases hE:eqB (valOf L i e) O=false
  ·exact Turn_none3 g c L X B ka oa na kn kc on oc nn nc K O N w hp hk ho hn hB h0 ht i e hf hO hE
  have hE:eqB (valOf L i e) O=true:=by simpa using hE
  by_cases hN:N=[]
  ·exact Turn_ok10 g c L X B ka oa na kn kc on oc nn nc K O N w hp hk ho hn hB h0 ht i e hf hO hE hN
  by_cases h5:512<βL L-(e-i)+(2+K.length+N.length)
  ·exact Turn_full1 g c L X B ka oa na kn kc on oc nn nc K O N w hp hk ho hn hB h0 ht i e hf hO hE hN h5
  by_cases hcl:2+K.length+N.length<e-i
  ·exact Turn_ok11c g c L X B ka oa na kn kc on oc nn nc K O N w hp hk ho hn hB h0 ht i e hf hO hE hN (by omega) hcl
  ·exact Turn_ok11s g c L X B ka oa na kn kc on oc nn nc K O N w hp hk ho hn hB h0 ht i e hf hO hE hN (by omega) (by omega)
 | false =>
  by_cases hO:O=[]
  ·have hN:N≠[]:=by
    have:=(turned_iff K O N).1 ht;rintro rfl;subst hO;simp at this
   by_cases h5:512<βL L-(e-i)+(2+K.length+N.length)
   ·exact Turn_full2 g c L X B ka oa na kn kc on oc nn nc K O N w hp hk ho hn hB h0 ht i e hf hO hN h5
   ·exact Turn_ok01 g c L X B ka oa na kn kc on oc nn nc K O N w hp hk ho hn hB h0 ht i e hf hO hN (by omega)
  ·exact Turn_none2 g c L X B ka oa na kn kc on oc nn nc K O N w hp hk ho hn hB h0 ht i e hf hO
end
section
open Go.RowKit
variable {d hand i k l m p:Nat} {Us:Nat->Bool} {Q:Nat->Nat} {V:Nat->Prop} {B:Nat->Value} {P:PK} {sv:Value} {w w':World}
def fr0:FrV:=⟨0,[],false,0⟩
def frObj (f:FrV) (v:Value) (u:Bool):Obj:=.cells #[li f.page,v,.bool u,.bool f.dirty,li f.first] 121 (0,0)
def poolObj (sv:Value) (m:Nat) (P:PK) (hand d l:Nat):Obj:=.cells #[sv,.map (some m),li P.most,li hand,ptr d,ptr l,li P.first,li P.count] 89 (0,0)
structure FrR (w:World) (q:Nat) (v:Value) (u:Bool) (f:FrV):Prop where
 blk:w.heap[q]? = some (frObj f v u)
 b:OB 0 w v f.b
 len:f.b.length=512
def PM (w:World) (m k:Nat) (P:PK) (Q:Nat->Nat):Prop:=∃ mk f g,mk<=k/\MH w m mk (.pointer none) f g/\(∀ i,i<P.frames.length->f (P.frames.getD i fr0).page=ptr (Q i)/\g (P.frames.getD i fr0).page=true)/\∀ x,g x=true->∃ i,i<P.frames.length/\(P.frames.getD i fr0).page=x
structure PK.Ok (P:PK):Prop where
 m1:4<=P.most
 m2:P.most<=32
 f1:0<=P.first
 c1:0<=P.count
 fc:P.first+P.count<=8192
 sz:P.frames.length<=P.most
 rng:∀ f∈P.frames,0<=f.page/\f.page<P.count
 lsn:∀ f∈P.frames,0<=f.first/\f.first<=9223372036854775807
 dis:P.frames.Pairwise fun f g=>f.page≠g.page
structure PF (w:World) (V:Nat->Prop) (p d l k:Nat) (P:PK) (sv:Value) (m hand:Nat) (Q:Nat->Nat) (B:Nat->Value) (Us:Nat->Bool):Prop where
 blk:w.heap[p]? = some (poolObj sv m P hand d l)
 srow:w.ownsRow 0 116 1 sv P.frames.length ((List.range P.frames.length).map fun i=>ptr (Q i))
 map:PM w m k P Q
 fr:∀ i,i<P.frames.length->FrR w (Q i) (B i) (Us i) (P.frames.getD i fr0)
 inj:∀ i j,i<P.frames.length->j<P.frames.length->i<j->Q i≠Q j
 vp:V p
 vs:∀ b,sv.ownBlock=some b->V b
 vm:V m
 vq:∀ i,i<P.frames.length->V (Q i)
 vb:∀ i,i<P.frames.length->∀ b,(B i).ownBlock=some b->V b
 lt:∀ i,V i->i<w.heap.size
 hd:hand<=k
 ok:P.Ok
theorem PM.keep (h:PM w m k P Q) (hb:w'.heap[m]? = w.heap[m]?):PM w' m k P Q:=by
 obtain⟨mk,f,g,h1,h2,h3⟩:=h;exact⟨mk,f,g,h1,h2.block hb,h3⟩
theorem PF.keep (h:PF w V p d l k P sv m hand Q B Us) (hb:∀ i,V i->w'.heap[i]? = w.heap[i]?) (hs:w.heap.size<=w'.heap.size):PF w' V p d l k P sv m hand Q B Us :=
 ⟨(hb p h.vp).trans h.blk,ωK h.srow fun g e=>hb g (h.vs g e),h.map.keep (hb m h.vm),fun i hi=>⟨(hb _ (h.vq i hi)).trans (h.fr i hi).blk,ωK (h.fr i hi).b fun g e=>hb g (h.vb i hi g e),(h.fr i hi).len⟩,h.inj,h.vp,h.vs,h.vm,h.vq,h.vb,fun i hi=>Nat.lt_of_lt_of_le (h.lt i hi) hs,h.hd,h.ok⟩
theorem PM.isMap (h:PM w m k P Q) {c:Array Value} {t:TypeId} {z:Nat×Nat} (hc:w.heap[m]? = some (.cells c t z)):False:=by
 obtain⟨mk,f,g,h1,⟨D,⟨es,clock,hb,-⟩,-⟩,-⟩:=h;rw[hb] at hc
 cases hc
theorem PF.inj' (h:PF w V p d l k P sv m hand Q B Us) {j:Nat} (hi:i<P.frames.length) (hj:j<P.frames.length) (hne:i≠j):Q i≠Q j:=by
 rcases Nat.lt_or_ge i j with h1|h1
 ·exact h.inj i j hi hj h1
 ·exact (h.inj j i hj hi (by omega)).symm
def upd {α:Type} (f:Nat->α) (i:Nat) (x:α):Nat->α:=fun j=>if j=i then x else f j
def PK.setFr (P:PK) (i:Nat) (f:FrV):PK:={ P with frames:=P.frames.set i f }
theorem PK.setFr_len (P:PK) (i:Nat) (f:FrV):(P.setFr i f).frames.length=P.frames.length:=by simp[PK.setFr]
theorem PK.setFr_page (P:PK) (i:Nat) (f:FrV) (hi:i<P.frames.length) (hf:f.page=(P.frames.getD i fr0).page) (j:Nat):((P.setFr i f).frames.getD j fr0).page=(P.frames.getD j fr0).page:=by
 show ((P.frames.set i f).getD j fr0).page=_;rw[getD_set _ _ _ _ _ hi];split
 ·next e=>rw[e,hf]
 ·rfl
theorem PK.Ok.setFr (h:P.Ok) {f:FrV} (hi:i<P.frames.length) (hf:f.page=(P.frames.getD i fr0).page) (hl:0<=f.first/\f.first<=9223372036854775807):(P.setFr i f).Ok:=by
 have hg:=getD_mem P.frames fr0 i hi;have hmem:∀ x∈(P.setFr i f).frames,x=f∨x∈P.frames:=fun x hx=>by
  rcases List.mem_or_eq_of_mem_set hx with h|h
  ·exact .inr h
  ·exact .inl h
 refine⟨h.m1,h.m2,h.f1,h.c1,h.fc,by rw[P.setFr_len];exact h.sz,fun x hx=>?_,fun x hx=>?_,?_⟩
 ·rcases hmem x hx with rfl|hx
  ·rw[hf];exact h.rng _ hg
  ·exact h.rng x hx
 ·rcases hmem x hx with rfl|hx
  ·exact hl
  ·exact h.lsn x hx
 ·have e:(P.setFr i f).frames.map (·.page)=P.frames.map (·.page):=by
   apply List.ext_getElem
   ·simp[PK.setFr]
   ·intro j a b;simp only[PK.setFr,List.getElem_map,List.getElem_set];split
    ·next e =>
     subst e;rw[hf,List.getD_eq_getElem?_getD,List.getElem?_eq_getElem hi];rfl
    ·rfl
  have h1:(P.frames.map (·.page)).Pairwise (·≠·):=List.pairwise_map.2 h.dis;rw[<- e] at h1;exact List.pairwise_map.1 h1
theorem PF.setFr (h:PF w V p d l k P sv m hand Q B Us) (hi:i<P.frames.length) {f':FrV} {v':Value} {u':Bool} {V':Nat->Prop}
  (hf:f'.page=(P.frames.getD i fr0).page) (hl:0<=f'.first/\f'.first<=9223372036854775807) (hq:w'.heap[Q i]? = some (frObj f' v' u')) (hb:OB 0 w' v' f'.b) (hlen:f'.b.length=512) (ho:∀ g,V g->g≠Q i->w'.heap[g]? = w.heap[g]?) (_hs:w.heap.size<=w'.heap.size)
  (hV:∀ g,V g->V' g) (hVv:∀ b,v'.ownBlock=some b->V' b) (hVl:∀ g,V' g->g<w'.heap.size):PF w' V' p d l k (P.setFr i f') sv m hand Q (upd B i v') (upd Us i u'):=by
 have hlen':=P.setFr_len i f';have htag:∀ g c t,w.heap[g]? = some (Obj.cells c t (0,0))->t≠121->g≠Q i:=fun g c t hg ht e=>by subst e;exact tag_ne hg (h.fr i hi).blk ht
 have hgd:∀ j,(P.setFr i f').frames.getD j fr0=if j=i then f' else P.frames.getD j fr0:=fun j=>getD_set _ _ _ _ _ hi
 refine⟨(ho p h.vp (htag _ _ _ h.blk (by decide))).trans h.blk,?_,?_,fun j hj=>?_,fun a b ha hb' hab=>h.inj a b (by omega) (by omega) hab,hV p h.vp,fun b e=>hV b (h.vs b e),hV m h.vm,fun j hj=>hV _ (h.vq j (by omega)),fun j hj b e=>?_,hVl,h.hd,h.ok.setFr hi hf hl⟩
 ·rw[hlen'];exact ωK h.srow fun g e=>by
   obtain⟨c,hc⟩:=own_tag h.srow e;exact ho g (h.vs g e) (htag _ _ _ hc (by decide))
 ·obtain⟨mk,f,g,h1,h2,h3,h4⟩:=h.map.keep (w':=w') (ho m h.vm (fun e=>h.map.isMap (by rw[e];exact (h.fr i hi).blk)));refine⟨mk,f,g,h1,h2,fun j hj=>?_,fun x hx=>?_⟩
  ·rw[P.setFr_page i f' hi hf];exact h3 j (by omega)
  ·obtain⟨j,hj,e⟩:=h4 x hx;exact⟨j,by omega,by rw[P.setFr_page i f' hi hf];exact e⟩
 ·rw[hlen'] at hj;rw[hgd j];unfold upd;by_cases e:j=i
  ·subst e;rw[if_pos rfl,if_pos rfl,if_pos rfl];exact⟨hq,hb,hlen⟩
  ·rw[if_neg e,if_neg e,if_neg e];exact⟨(ho _ (h.vq j hj) (h.inj' hj hi e)).trans (h.fr j hj).blk,ωK (h.fr j hj).b fun g eg=>by
    obtain⟨c,hc⟩:=own_tag (h.fr j hj).b eg;exact ho g (h.vb j hj g eg) (htag _ _ _ hc (by decide)),(h.fr j hj).len⟩
 ·rw[hlen'] at hj;unfold upd at e;by_cases e2:j=i
  ·rw[if_pos e2] at e;exact hVv b e
  ·rw[if_neg e2] at e;exact hV b (h.vb j hj b e)
theorem PK.setFr_same (P:PK) (i:Nat) (hi:i<P.frames.length):P.setFr i (P.frames.getD i fr0)=P:=by
 unfold PK.setFr;rw[List.getD_eq_getElem?_getD,List.getElem?_eq_getElem hi];simp
theorem upd_same {α:Type} (f:Nat->α) (i:Nat):upd f i (f i)=f:=by
 funext j;unfold upd;split
 ·next e=>rw[e]
 ·rfl
theorem PF.get (h:PF w V p d l k P sv m hand Q B Us) :
  ∃ a cap,sv=.slice a P.frames.length cap/\P.frames.length<=cap/\cap<=9223372036854775807/\P.frames.length<=32/\∀ i,i<P.frames.length->∃ g,a=some ⟨g,0,none⟩/\w.cell? ⟨g,i,none⟩=some (ptr (Q i))/\w.frozen? ⟨g,i,none⟩=false:=by
 have hcs:=h.srow;have h32:P.frames.length<=32:=Nat.le_trans h.ok.sz h.ok.m2;obtain⟨-,⟨rfl,h0⟩|⟨g,cap,cur,rfl,-,hh,hle,hcm,-⟩⟩:=h.srow
 ·exact⟨none,0,by rw[h0],by omega,by omega,h32,fun i hi=>by omega⟩
 refine⟨some ⟨g,0,none⟩,cap,rfl,hle,by simpa [maxLen] using hcm,h32,fun i hi=>⟨g,rfl,?_,by simp[World.frozen?,hh]⟩⟩;have h12:=hcs.cells (g:=g) rfl i (ptr (Q i)) (by rw[List.getElem?_map,List.getElem?_range hi];rfl);rw[Addr.add_mid,Nat.zero_add] at h12;exact h12
end
section
set_option maxHeartbeats 4000000
set_option maxRecDepth 100000
open Go.RowKit
variable {d i k l m p:Nat} {Us:Nat->Bool} {Q:Nat->Nat} {V:Nat->Prop} {B:Nat->Value} {P:PK} {sv:Value} {w:World}
theorem countP_lt (n:Nat) (f g:Nat->Bool) (i:Nat) (hi:i<n) (hf:f i=true) (hg:g i=false) (ho:∀ j,j<n->j≠i->g j=f j):(List.range n).countP g+1=(List.range n).countP f:=by
 induction n with
 | zero=>omega
 | succ n ih =>
  rw[List.range_succ,List.countP_append,List.countP_append];by_cases e:i=n
  ·subst e;have:(List.range i).countP g=(List.range i).countP f:=List.countP_congr fun j hj=>by
    have:=List.mem_range.1 hj;rw[ho j (by omega) (by omega)]
   rw[this];simp[hf,hg]
  ·have:=ih (by omega) fun j hj hne=>ho j (by omega) hne
   have h2:g n=f n:=ho n (by omega) (fun h=>e h.symm);simp only[List.countP_cons,List.countP_nil,h2];omega
def usedB (w:World) (q:Nat):Bool:=match w.cell? ⟨q,2,none⟩ with|some (.bool b)=>b|_=>false
def usedN (w:World) (Q:Nat->Nat) (n:Nat):Nat:=(List.range n).countP fun i=>usedB w (Q i)
theorem PF.used {hand:Nat} (h:PF w V p d l k P sv m hand Q B Us) (hi:i<P.frames.length):usedB w (Q i)=Us i:=by
 have:w.cell? ⟨Q i,2,none⟩=some (.bool (Us i)):=cell_of_row _ _ 2 _ _ _ (h.fr i hi).blk;unfold usedB;rw[this]
theorem PF.usedN_eq {hand:Nat} (h:PF w V p d l k P sv m hand Q B Us):usedN w Q P.frames.length=(List.range P.frames.length).countP Us :=
 List.countP_congr fun j hj=>by rw[h.used (List.mem_range.1 hj)]
theorem PF.hand {hand:Nat} (h:PF w V p d l k P sv m hand Q B Us) (hand' k':Nat) (hk:k<=k') (hh:hand'<=k'):PF (w.setCell ⟨p,3,none⟩ (li hand')) V p d l k' P sv m hand' Q B Us:=by
 have htag:∀ g c t,w.heap[g]? = some (Obj.cells c t (0,0))->t≠89->g≠p:=fun g c t hg ht e=>by subst e;exact tag_ne hg h.blk ht
 obtain⟨mk,f,g,h1,h2⟩:=h.map.keep (w':=w.setCell ⟨p,3,none⟩ (li hand')) (set_ne (fun e=>h.map.isMap (by rw[e];exact h.blk)));refine⟨set_at h.blk 3 _,ωK h.srow fun g e=>?_,⟨mk,f,g,by omega,h2⟩,fun i hi=>⟨(set_ne (htag _ _ _ (h.fr i hi).blk (by decide))).trans (h.fr i hi).blk,ωK (h.fr i hi).b fun g e=>?_,(h.fr i hi).len⟩,h.inj,h.vp,h.vs,h.vm,h.vq,h.vb,fun i hi=>by rw[size_set];exact h.lt i hi,hh,h.ok⟩
 ·obtain⟨c,hc⟩:=own_tag h.srow e;exact set_ne (htag _ _ _ hc (by decide))
 ·obtain⟨c,hc⟩:=own_tag (h.fr i hi).b e;exact set_ne (htag _ _ _ hc (by decide))
theorem PF.mark {hand:Nat} (h:PF w V p d l k P sv m hand Q B Us) (hi:i<P.frames.length) (u:Bool):PF (w.setCell ⟨Q i,2,none⟩ (.bool u)) V p d l k P sv m hand Q B (upd Us i u):=by
 have hf:=h.fr i hi;have:=h.setFr (w':=w.setCell ⟨Q i,2,none⟩ (.bool u)) hi (f':=P.frames.getD i fr0) (v':=B i) (u':=u) (V':=V) rfl (h.ok.lsn _ (getD_mem P.frames fr0 i hi)) (set_at hf.blk 2 _) (ωK hf.b fun g e=>set_ne (fun e2=>by
  obtain⟨c,hc⟩:=own_tag hf.b e;subst e2;exact tag_ne hc hf.blk (by decide))) hf.len (fun g _ hg=>set_ne hg) (by rw[size_set];exact Nat.le_refl _) (fun g hg=>hg) (fun b e=>h.vb i hi b e) (fun g hg=>by rw[size_set];exact h.lt g hg)
 rw[P.setFr_same i hi,upd_same] at this;exact this
def VicP (V:Nat->Prop) (p d l k:Nat) (P:PK) (sv:Value) (m:Nat) (Q:Nat->Nat) (B:Nat->Value) (w:World) (e:Ending) (w':World):Prop :=
 ∃ i hand Us,i<P.frames.length/\e=.returned (.pointer (some ⟨Q i,0,none⟩))/\PF w' V p d l (k+32) P sv m hand Q B Us/\Trn V w w'
theorem victim_full (V:Nat->Prop) (p d l k:Nat) (P:PK) (sv:Value) (m hand:Nat) (Q:Nat->Nat) (B:Nat->Value) (Us:Nat->Bool) (w:World) (h:PF w V p d l k P sv m hand Q B Us) (hfull:P.most<=P.frames.length) (hk:k<=1000000000) :
  Calls Tryz.prog 91 #[.pointer (some ⟨p,0,none⟩)] w (VicP V p d l k P sv m Q B w):=by
 obtain⟨a,cap,rfl,hle,hcp,h32,hcell⟩:=h.get;have hm1:=h.ok.m1;have hn0:0<P.frames.length:=by omega
 obtain⟨g,rfl,-⟩:=hcell 0 hn0;have c0:w.cell? ⟨p,0,none⟩=some (.slice (some ⟨g,0,none⟩) P.frames.length cap):=cell_of_row _ _ 0 _ _ _ h.blk;have c2:w.cell? ⟨p,2,none⟩=some (.int .i64 P.most):=cell_of_row _ _ 2 _ _ _ h.blk;have g1:¬ P.frames.length<P.most:=by omega
 have H:=φ h;obtain⟨n,hn⟩:∃ n,n=P.frames.length:=⟨_,rfl⟩
 rw[<- hn] at c0 g1 hn0 h32 hle;have HN:=φ hn;have HC:Hid ((List.range P.frames.length).countP Us<=32):=φ (by
  have:(List.range P.frames.length).countP Us<=(List.range P.frames.length).length:=List.countP_le_length;rw[List.length_range] at this;omega)
 clear h hcell hn hfull;go_enter Tryz.func91,Tryz.ntmps91;go_upto_region 1 with (fail);go_still (by kernel_rfl);go_wp2_with (fail);go_loopw [] (fun wr=>∃ hand' Us',Hid (PF wr V p d l (k+32) P (.slice (some ⟨g,0,none⟩) P.frames.length cap) m hand' Q B Us'/\hand' + (List.range P.frames.length).countP Us'<=k+32/\Trn V w wr)) (fun wr=>usedN wr Q P.frames.length)
 case atStart =>
  refine⟨hand,Us,φ ⟨?_,by have:=H.out.hd;have:=HC.out;omega,(Trn.refl _ _).drew⟩⟩;have h9:=H.out.keep (w':=w.drew) (fun _ _=>rfl) (Nat.le_refl _);obtain⟨mk,f,g',q1,q2⟩:=h9.map;exact { h9 with map:=⟨mk,f,g',by omega,q2⟩,hd:=by have:=h9.hd;omega }
 case round =>
  obtain⟨hand',Us',HR⟩:=hrel;have d0:wr.cell? ⟨p,0,none⟩=some (.slice (some ⟨g,0,none⟩) n cap):=by rw[HN.out];exact cell_of_row _ _ 0 _ _ _ HR.out.1.blk
  have d3:wr.cell? ⟨p,3,none⟩=some (.int .i64 hand'):=cell_of_row _ _ 3 _ _ _ HR.out.1.blk;have f3:wr.frozen? ⟨p,3,none⟩=false:=by simp[World.frozen?,HR.out.1.blk,poolObj]
  have hlt:hand' % n<n:=Nat.mod_lt _ hn0;obtain⟨i,hi⟩:∃ i,i=hand' % n:=⟨_,rfl⟩
  have hin:i<n:=by omega
  have hiF:i<P.frames.length:=by have:=HN.out;omega
  have hmod:IntKind.i64.wrap ((hand':Int).tmod (n:Int))=(i:Int):=by
   have:(hand':Int).tmod (n:Int)=((hand' % n:Nat):Int):=by
    rw[Int.tmod_eq_emod_of_nonneg (by omega)];omega
   rw[this,<- hi];exact IntWalk.i64_in _ (by omega)
  have hnz:((n:Int) == 0)=false:=by simp;omega
  have hnz2:¬ (n:Int)=0:=by omega
  have hnz3:¬ n=0:=by omega
  have hnz4:(n == 0)=false:=by simp;omega
  have hmod2:IntKind.i64.wrap (((hand' % n:Nat)):Int)=(i:Int):=by rw[<- hi];exact IntWalk.i64_in _ (by omega)
  have hmod3:IntKind.i64.wrap ((hand':Int) % (n:Int))=(i:Int):=by rw[show (hand':Int) % (n:Int)=((hand' % n:Nat):Int) by omega,<- hi];exact IntWalk.i64_in _ (by omega)
  have hmod4:(hand':Int).tmod (n:Int)=(i:Int):=by
   rw[Int.tmod_eq_emod_of_nonneg (by omega)];omega
  have hilt:(i:Int)<(n:Int):=by omega
  have gi:wr.cell? ⟨g,i,none⟩=some (.pointer (some ⟨Q i,0,none⟩)):=by
   obtain⟨a',cap',e,-,-,-,hc⟩:=HR.out.1.get;obtain⟨ea,-,-⟩:=Value.slice.inj e;obtain⟨g',eg,hc',-⟩:=hc i hiF;rw[<- ea] at eg
   cases eg
   exact hc'
  have u2:wr.cell? ⟨Q i,2,none⟩=some (.bool (Us' i)):=cell_of_row _ _ 2 _ _ _ (HR.out.1.fr i hiF).blk;have uf:wr.frozen? ⟨Q i,2,none⟩=false:=by simp[World.frozen?,(HR.out.1.fr i hiF).blk,frObj]
  have Hhd:Hid (hand'<=k+32):=φ HR.out.1.hd;have e3:IntKind.i64.wrap ((hand':Int)+1)=((hand' + 1:Nat):Int):=by rw[IntWalk.i64_in _ (by have:=Hhd.out;omega)];omega
  clear hi hlt
  cases hu:Us' i with
  | false =>
   rw[hu] at u2;have HFin:Hid (VicP V p d l k P (.slice (some ⟨g,0,none⟩) P.frames.length cap) m Q B w (.returned (.pointer (some ⟨Q i,0,none⟩))) wr.drew):=φ ⟨i,hand',Us',hiF,rfl,HR.out.1.keep (fun _ _=>rfl) (Nat.le_refl _),HR.out.2.2.drew⟩;clear hu hiF;generalize Q i=qi at *;go_upto_region 3 with (fail);go_still (by kernel_rfl);go_wp2_with (fail);go_ret;exact HFin.out
  | true =>
   rw[hu] at u2;have h1:=HR.out.1.mark hiF false;have hcnt:=countP_lt P.frames.length Us' (upd Us' i false) i hiF hu (by simp[upd]) (fun j _ hne=>by simp[upd,hne]);have hsum:=HR.out.2.1;have h2:=h1.hand (hand' + 1) (k+32) (Nat.le_refl _) (by omega);have d3':(wr.setCell ⟨Q i,2,none⟩ (.bool false)).cell? ⟨p,3,none⟩=some (.int .i64 hand'):=cell_of_row _ _ 3 _ _ _ h1.blk;have f3':(wr.setCell ⟨Q i,2,none⟩ (.bool false)).frozen? ⟨p,3,none⟩=false:=by simp[World.frozen?,h1.blk,poolObj]
   have HN2:Hid (∀ W,W=((wr.setCell ⟨Q i,2,none⟩ (.bool false)).setCell ⟨p,3,none⟩ (.int .i64 ((hand' + 1:Nat):Int))).drew->(PF W V p d l (k+32) P (.slice (some ⟨g,0,none⟩) P.frames.length cap) m (hand' + 1) Q B (upd Us' i false)/\hand' + 1+(List.range P.frames.length).countP (upd Us' i false)<=k+32/\Trn V w W)/\usedN W Q P.frames.length<usedN wr Q P.frames.length):=φ fun W hW=>by
    subst hW;have h3:=h2.keep (w':=((wr.setCell ⟨Q i,2,none⟩ (.bool false)).setCell ⟨p,3,none⟩ (.int .i64 ((hand' + 1:Nat):Int))).drew) (fun _ _=>rfl) (Nat.le_refl _);refine⟨⟨h3,by omega,((HR.out.2.2.set _ _ _ (.inl (h1.vq i hiF))).set _ _ _ (.inl h1.vp)).drew⟩,?_⟩;rw[h3.usedN_eq,HR.out.1.usedN_eq];omega
   clear hu hiF h1 h2 hcnt hsum;go_upto_region 3 with (fail);go_still (by kernel_rfl);go_wp2_with (fail);exact⟨⟨hand' + 1,_,φ (HN2.out _ rfl).1⟩,(HN2.out _ rfl).2⟩
theorem victim_less (V:Nat->Prop) (p d l k:Nat) (P:PK) (sv:Value) (m hand:Nat) (Q:Nat->Nat) (B:Nat->Value) (Us:Nat->Bool) (w:World) (h:PF w V p d l k P sv m hand Q B Us) (hless:P.frames.length<P.most) :
  Calls Tryz.prog 91 #[.pointer (some ⟨p,0,none⟩)] w fun e w'=>e=.returned (.pointer none)/\w'=w.drew:=by
 obtain⟨a,cap,rfl,hle,hcp,h32,-⟩:=h.get;have hm2:=h.ok.m2;have c0:w.cell? ⟨p,0,none⟩=some (.slice a P.frames.length cap):=cell_of_row _ _ 0 _ _ _ h.blk;have c2:w.cell? ⟨p,2,none⟩=some (.int .i64 P.most):=cell_of_row _ _ 2 _ _ _ h.blk;clear h;go_enter Tryz.func91,Tryz.ntmps91;go_upto_region 1 with (fail);go_still (by kernel_rfl);go_wp2_with (fail);go_ret;exact⟨rfl,rfl⟩
theorem info_frame:(Tryz.prog.info? 121).map (fun i=>i.size)=some 5:=by kernel_rfl
theorem eql_frames (w:World) (a b:Nat) (ca cb:Array Value) (ta tb:TypeId) (ha:w.heap[a]? = some (.cells ca ta (0,0))) (hb:w.heap[b]? = some (.cells cb tb (0,0))) :
  (binOp .eql 116 (.pointer (some ⟨a,0,none⟩)) (.pointer (some ⟨b,0,none⟩))).run Tryz.prog w=.ok (.bool (decide (a=b))) w:=by
 have hi:=info_frame
 cases hj:Tryz.prog.info? 121 with
 | none=>rw[hj] at hi;cases hi
 | some j =>
  rw[hj] at hi;have hsz:j.size=5:=by simpa using hi
  by_cases e:a=b
  ·subst e;rw[decide_eq_true rfl];exact run_eql_ptr_same w _ Tryz.underlying116 hj
  ·rw[decide_eq_false e];exact run_eql_ptr_other w Tryz.underlying116 hj (by omega) (fun h=>e (by cases h;rfl)) ha hb
theorem index_any (g n cap i:Nat) (Q:Nat->Nat) (w:World) (hc:∀ j,j<n->w.cell? ⟨g,j,none⟩=some (ptr (Q j))) (hb:∀ j,j<n->∃ ca ta,w.heap[Q j]? = some (.cells ca ta (0,0))) (hi:i<n) (hQ:∀ j,j<i->Q j≠Q i) (hn:n<=cap) (hcp:cap<=9223372036854775807) (_h32:n<=32) :
  Calls Tryz.prog 138 #[.slice (some ⟨g,0,none⟩) n cap,.pointer (some ⟨Q i,0,none⟩)] w fun e w'=>e=.returned (.int .i64 i)/\w'=w:=by
 have HC:=φ hc;have HQ:=φ hQ;have HE:Hid (∀ j,j<n->(binOp .eql 116 (.pointer (some ⟨Q i,0,none⟩)) (.pointer (some ⟨Q j,0,none⟩))).run Tryz.prog w=.ok (.bool (decide (Q i=Q j))) w):=φ fun j hj=>by
  obtain⟨c1,t1,h1⟩:=hb i hi;obtain⟨c2,t2,h2⟩:=hb j hj;exact eql_frames w _ _ _ _ _ _ h1 h2
 clear hc hQ hb;go_enter Tryz.func138,Tryz.ntmps138;go_wp2_with (fail);go_loopw [8] (fun x wr=>∃ j:Nat,j<=i/\x=.int .i64 j/\Hid (wr=w)) (fun x _=>n-(inOf x).toNat)
 case atStart=>exact⟨0,Nat.zero_le _,rfl,φ rfl⟩
 case round =>
  obtain⟨j,hj,rfl,HW⟩:=hrel;have hw:=HW.out;subst hw;clear HW;have hjn:j<n:=by omega
  have cj:wr.cell? ⟨g,j,none⟩=some (.pointer (some ⟨Q j,0,none⟩)):=HC.out j hjn;have f2:IntKind.i64.wrap ((j:Int)+1)=((j+1:Nat):Int):=by rw[IntWalk.i64_in _ (by omega)];omega
  by_cases hlt:j<i
  ·have hne:=HE.out j hjn;rw[decide_eq_false (fun e=>HQ.out j hlt e.symm)] at hne;go_wp2_with (fail);go_roundw
   case rel=>exact⟨j+1,by omega,by go_num,φ trivial⟩
   case measure=>simp[inOf];omega
  ·obtain rfl:j=i:=by omega
   have hne:=HE.out j hjn;rw[decide_eq_true rfl] at hne;go_wp2_with (fail);go_ret;exact⟨rfl,rfl⟩
end
section
set_option maxHeartbeats 8000000
set_option maxRecDepth 100000
open Go.RowKit
variable {D:DK} {L:LK} {K K' d do_ ds hand k l m p:Nat} {Us:Nat->Bool} {Q:Nat->Nat} {U V:Nat->Prop} {B:Nat->Value} {P:PK} {sv:Value} {w w':World}
structure RG (w:World) (U V:Nat->Prop) (d ds do_ l p K:Nat) (D:DK) (L:LK) (P:PK) (sv:Value) (m hand:Nat) (Q:Nat->Nat) (B:Nat->Value) (Us:Nat->Bool):Prop where
 log:LogR w U l d K L
 dk:DiskR w d ds do_ K D
 pf:PF w V p d l K P sv m hand Q B Us
 du:∀ g,DB d ds do_ g->¬ U g
 dv:∀ g,DB d ds do_ g->¬ V g
 uv:∀ g,U g->¬ V g
def AllB (U V:Nat->Prop) (d ds do_:Nat) (g:Nat):Prop:=U g∨V g∨DB d ds do_ g
theorem PF.mono {k':Nat} (h:PF w V p d l k P sv m hand Q B Us) (hk:k<=k'):PF w V p d l k' P sv m hand Q B Us:=by
 obtain⟨mk,f,g,h1,h2⟩:=h.map;exact { h with map:=⟨mk,f,g,by omega,h2⟩,hd:=Nat.le_trans h.hd hk }
theorem RG.keep (h:RG w U V d ds do_ l p K D L P sv m hand Q B Us) (hb:Below w.heap.size w w') (hK:K<=K'):RG w' U V d ds do_ l p K' D L P sv m hand Q B Us :=
 ⟨(h.log.keep (fun i hi=>hb.block i (h.log.lt i hi)) hb.size).mono hK,(h.dk.keep fun i hi=>hb.block i (h.dk.lt hi)).mono hK,(h.pf.keep (fun i hi=>hb.block i (h.pf.lt i hi)) hb.size).mono hK,h.du,h.dv,h.uv⟩
theorem RG.keepN (h:RG w U V d ds do_ l p K D L P sv m hand Q B Us) (hh:w'.heap=w.heap):RG w' U V d ds do_ l p K D L P sv m hand Q B Us :=
 ⟨h.log.keep (fun i _=>by rw[hh]) (by rw[hh];exact Nat.le_refl _),h.dk.keep fun i _=>by rw[hh],h.pf.keep (fun i _=>by rw[hh]) (by rw[hh];exact Nat.le_refl _),h.du,h.dv,h.uv⟩
theorem RG.turn {D':DK} {L':LK} (h:RG w U V d ds do_ l p K D L P sv m hand Q B Us) (hl:LogR w' U l d K' L') (hd:DiskR w' d ds do_ K' D') (ht:Trn (fun g=>U g∨DB d ds do_ g) w w') (hK:K<=K'):RG w' U V d ds do_ l p K' D' L' P sv m hand Q B Us :=
 ⟨hl,hd,(h.pf.keep (fun i hi=>ht.block i (h.pf.lt i hi) (fun h2=>by rcases h2 with h2|h2;exact h.uv i h2 hi;exact h.dv i h2 hi)) ht.size).mono hK,h.du,h.dv,h.uv⟩
theorem RG.pool {P':PK} {sv':Value} {hand':Nat} {Q':Nat->Nat} {B':Nat->Value} {Us':Nat->Bool} {V':Nat->Prop} (h:RG w U V d ds do_ l p K D L P sv m hand Q B Us) (hp:PF w' V' p d l K' P' sv' m hand' Q' B' Us') (ht:Trn V w w') (hV:∀ g,V' g->V g∨w.heap.size<=g) (hK:K<=K'):RG w' U V' d ds do_ l p K' D L P' sv' m hand' Q' B' Us' :=
 ⟨(h.log.keep (fun i hi=>ht.block i (h.log.lt i hi) (fun h2=>h.uv i hi h2)) ht.size).mono hK,(h.dk.keep fun i hi=>ht.block i (h.dk.lt hi) (fun h2=>h.dv i hi h2)).mono hK,hp,h.du,fun g hg hv=>by
  rcases hV g hv with h1|h1
  ·exact h.dv g hg h1
  ·have:=h.dk.lt hg;omega,fun g hg hv=>by
  rcases hV g hv with h1|h1
  ·exact h.uv g hg h1
  ·have:=h.log.lt g hg;omega⟩
def clean (f:FrV):FrV:={ f with dirty:=false,first:=0 }
theorem PF.clean (h:PF w V p d l k P sv m hand Q B Us) {i:Nat} (hi:i<P.frames.length) :
  PF ((w.setCell ⟨Q i,3,none⟩ (.bool false)).setCell ⟨Q i,4,none⟩ (.int .i64 0)) V p d l k (P.setFr i (clean (P.frames.getD i fr0))) sv m hand Q B Us:=by
 have hf:=h.fr i hi;have:=h.setFr (w':=(w.setCell ⟨Q i,3,none⟩ (.bool false)).setCell ⟨Q i,4,none⟩ (.int .i64 0)) hi (f':=Go.Proofs.YtohlkkannjifmaaGreatDoor.clean (P.frames.getD i fr0)) (v':=B i) (u':=Us i) (V':=V) rfl ⟨Int.le_refl _,by show (0:Int)<=_;omega⟩ (set_at (set_at hf.blk 3 _) 4 _) (ωK hf.b fun g e=>(by
  obtain⟨c,hc⟩:=own_tag hf.b e;have hne:g≠Q i:=fun e2=>by subst e2;exact tag_ne hc hf.blk (by decide)
  exact (set_ne hne).trans (set_ne hne))) hf.len (fun g _ hg=>(set_ne hg).trans (set_ne hg)) (by rw[size_set,size_set];exact Nat.le_refl _) (fun g hg=>hg) (fun b e=>h.vb i hi b e) (fun g hg=>by rw[size_set,size_set];exact h.lt g hg)
 rw[upd_same,upd_same] at this;exact this
theorem pw_tail (U V:Nat->Prop) (d ds do_ l p K:Nat) (D:DK) (L:LK) (P:PK) (sv:Value) (m hand:Nat) (Q:Nat->Nat) (B:Nat->Value) (Us:Nat->Bool) (i:Nat) (W:World) (R:Ending->World->Prop)
  (h:RG W U V d ds do_ l p K D L P sv m hand Q B Us) (hi:i<P.frames.length) (hK:K<=1000000000)
  (hBad:(D.write (P.first+(P.frames.getD i fr0).page) (P.frames.getD i fr0).b).1≠0->∀ w',RG w' U V d ds do_ l p (K+1) (D.write (P.first+(P.frames.getD i fr0).page) (P.frames.getD i fr0).b).2 L P sv m hand Q B Us->Trn (AllB U V d ds do_) W w'->R (.returned (.int .i64 (D.write (P.first+(P.frames.getD i fr0).page) (P.frames.getD i fr0).b).1)) w')
  (hGood:(D.write (P.first+(P.frames.getD i fr0).page) (P.frames.getD i fr0).b).1=0->∀ w',RG w' U V d ds do_ l p (K+1) (D.write (P.first+(P.frames.getD i fr0).page) (P.frames.getD i fr0).b).2 L (P.setFr i (clean (P.frames.getD i fr0))) sv m hand Q B Us->Trn (AllB U V d ds do_) W w'->R (.returned (.int .i64 0)) w') (s2 s3 s4 s5 s6 s7 s8 s9 s10 s11 s12 s13 s14 s15 s16 s17 s18 s19 s20 s21 s22 s23 s24 s25 s26 s27 s28 s29 s30 s31 s32 s33 s34 s35 s36 s37 s38 s39 s40 s41 s42 s43 s44 s45 s46 s47 s48 s49 s50 s51 s52:Value)
  (C1 C2:Act->World->Prop) (hC2:∀ a w,Code.wp Tryz.prog (dropQ 3 (Tryz.f58.body.getD .skip)) (bodyPost Tryz.prog Tryz.f58 R) a w->C2 a w) (hC1:∀ a w,Code.wp Tryz.prog (tailQ (headQ (dropQ 2 (Tryz.f58.body.getD .skip)))) (Exit.then C2 (bodyPost Tryz.prog Tryz.f58 R)) a w->C1 a w) :
  Code.wp Tryz.prog (headQ (headQ (dropQ 2 (Tryz.f58.body.getD .skip)))) (Exit.then C1 (Exit.then C2 (bodyPost Tryz.prog Tryz.f58 R))) ⟨List.toArray ((.pointer (some ⟨p,0,none⟩))::(.pointer (some ⟨Q i,0,none⟩))::s2::s3::s4::s5::s6::s7::s8::s9::s10::s11::s12::s13::s14::s15::s16::s17::s18::s19::s20::s21::s22::s23::s24::s25::s26::s27::s28::s29::s30::s31::s32::s33::s34::s35::s36::s37::s38::s39::s40::s41::s42::s43::s44::s45::s46::s47::s48::s49::s50::s51::s52::[]),[]⟩ W:=by
 conv at hC1=>enter [a,w,1,2];whnf
 conv at hC2=>enter [a,w,1,2];whnf
 have hf:=h.pf.fr i hi;have hok:=h.pf.ok;have hrng:=hok.rng _ (getD_mem P.frames fr0 i hi);obtain⟨va,vc,hve,hvr⟩:=hf.b.rb (by rw[hf.len];omega);have p4:W.cell? ⟨p,4,none⟩=some (.pointer (some ⟨d,0,none⟩)):=cell_of_row _ _ 4 _ _ _ h.pf.blk;have p6:W.cell? ⟨p,6,none⟩=some (.int .i64 P.first):=cell_of_row _ _ 6 _ _ _ h.pf.blk;have q0:W.cell? ⟨Q i,0,none⟩=some (.int .i64 (P.frames.getD i fr0).page):=cell_of_row _ _ 0 _ _ _ hf.blk;rw[hf.len] at hvr;have q1:W.cell? ⟨Q i,1,none⟩=some (.slice va 512 vc):=by
  have e:B i=.slice va 512 vc:=by rw[hve,hf.len]
  rw[<- e];exact cell_of_row _ _ 1 _ _ _ hf.blk
 have hsum:IntKind.i64.wrap (P.first+(P.frames.getD i fr0).page)=P.first+(P.frames.getD i fr0).page:=IntWalk.i64_in _ (by have:=hok.f1;have:=hok.fc;omega)
 have HDW:Hid (∀ W',W'.heap=W.heap->Calls Tryz.prog 116 #[.pointer (some ⟨d,0,none⟩),.int .i64 (P.first+(P.frames.getD i fr0).page),.slice va 512 vc] W' fun e w'=>e=.returned (.int .i64 (D.write (P.first+(P.frames.getD i fr0).page) (P.frames.getD i fr0).b).1)/\DiskR w' d ds do_ (K+1) (D.write (P.first+(P.frames.getD i fr0).page) (P.frames.getD i fr0).b).2/\Trn (DB d ds do_) W' w'):=φ fun W' hW=>by
  have hr':RB W'.heap.size W' va 512 vc (P.frames.getD i fr0).b:=by
   have:=hvr.of_block (w':=W') (fun b o s _ _ _=>by rw[hW]);rw[hW];exact this
  exact dwrite_any d ds do_ K W'.heap.size D _ va 512 vc _ W' (h.dk.keep fun g _=>by rw[hW]) hr' (by have:=hok.f1;omega) (by have:=hok.fc;omega) (by omega)
 have H:=φ h;have HI:=φ hi;have HB:=φ hBad;have HG:=φ hGood;have hne:d≠p:=fun e=>h.dv p (.inl e.symm) h.pf.vp
 clear h hi hBad hGood hf hok hrng hve hvr;obtain⟨res,hres⟩:∃ res,res=D.write (P.first+(P.frames.getD i fr0).page) (P.frames.getD i fr0).b:=⟨_,rfl⟩
 rw[<- hres] at HDW HB HG;clear hres;obtain⟨r1,D1⟩:=res;simp only at HDW HB HG;obtain⟨sec,hsec⟩:∃ sec,sec=P.first+(P.frames.getD i fr0).page:=⟨_,rfl⟩
 rw[<- hsec] at HDW;have hsum2:IntKind.i64.wrap (P.first+(P.frames.getD i fr0).page)=sec:=hsum.trans hsec.symm;clear hsec hsum;generalize (P.frames.getD i fr0).page=pgn at *;generalize P.first=pf at *
 have HQ:Hid (Calls Tryz.prog 116 #[.pointer (some ⟨d,0,none⟩),.int .i64 sec,.slice va 512 vc] W.drew fun e w'=>e=.returned (.int .i64 r1)/\RG w' U V d ds do_ l p (K+1) D1 L P sv m hand Q B Us/\Trn (AllB U V d ds do_) W w'):=φ ((HDW.out W.drew rfl).mono fun e w' hh=>⟨hh.1,H.out.turn ((H.out.log.keep (fun g hg=>hh.2.2.block g (H.out.log.lt g hg) (fun h2=>H.out.du g h2 hg)) hh.2.2.size).mono (Nat.le_succ _)) hh.2.1 (((Trn.refl _ W).drew).then (hh.2.2.mono fun g hg=>.inl (.inr hg))) (Nat.le_succ _),((Trn.refl _ W).drew).then (hh.2.2.mono fun g hg=>.inl (.inr (.inr hg)))⟩);clear HDW;by_cases h0:r1=0
 ·subst h0;have HG0:=φ (HG.out rfl);clear HG HB
  conv=>arg 2;whnf
  refine wp_region_still_tail 17 (by kernel_rfl) (by kernel_rfl) ?_;simp only[List.take_succ_cons,List.take_zero,List.drop_succ_cons,List.drop_zero];change wpStill _ _ (World.drew _) _ _ _
  repeat still_step
  refine wpStill_nil ?_;change wpList _ _ _ _ _ (World.drew _);go_wp2_with (go_at_call 116;refine HQ.out.mono ?_;rintro e w2 ⟨rfl,h2,ht2⟩;have H2:=φ h2;have T2:=φ ht2;have k3:w2.cell? ⟨Q i,3,none⟩=some (.bool (P.frames.getD i fr0).dirty):=cell_of_row _ _ 3 _ _ _ (h2.pf.fr i HI.out).blk;have k4:w2.cell? ⟨Q i,4,none⟩=some (.int .i64 (P.frames.getD i fr0).first):=cell_of_row _ _ 4 _ _ _ (h2.pf.fr i HI.out).blk;have f3:w2.frozen? ⟨Q i,3,none⟩=false:=(by simp[World.frozen?,(h2.pf.fr i HI.out).blk,frObj]);have f4:w2.frozen? ⟨Q i,4,none⟩=false:=(by simp[World.frozen?,(h2.pf.fr i HI.out).blk,frObj]);clear h2 ht2);refine HG0.out _ (H2.out.pool (H2.out.pf.clean HI.out) (((Trn.refl V w2).set _ _ _ (.inl (H2.out.pf.vq i HI.out))).set _ _ _ (.inl (H2.out.pf.vq i HI.out))) (fun g hg=>.inl hg) (Nat.le_refl _)) ?_;exact (T2.out.set _ _ _ (.inl (.inr (.inl (H2.out.pf.vq i HI.out))))).set _ _ _ (.inl (.inr (.inl (H2.out.pf.vq i HI.out))))
 ·have HB0:=φ (HB.out h0);have e1:(r1 == 0)=false:=by simpa using h0
  clear HG HB h0
  conv=>arg 2;whnf
  refine wp_region_still_tail 17 (by kernel_rfl) (by kernel_rfl) ?_;simp only[List.take_succ_cons,List.take_zero,List.drop_succ_cons,List.drop_zero];change wpStill _ _ (World.drew _) _ _ _
  repeat still_step
  refine wpStill_nil ?_;change wpList _ _ _ _ _ (World.drew _);go_wp2_with (go_at_call 116;refine HQ.out.mono ?_;rintro e w2 ⟨rfl,h2,ht2⟩;have H2:=φ h2;have T2:=φ ht2;clear h2 ht2);exact HB0.out _ H2.out T2.out
def PwP (U V:Nat->Prop) (d ds do_ l p K:Nat) (sv:Value) (m hand:Nat) (Q:Nat->Nat) (B:Nat->Value) (Us:Nat->Bool) (x:Int×PK×LK×DK) (w:World) (e:Ending) (w':World):Prop :=
 e=.returned (.int .i64 x.1)/\RG w' U V d ds do_ l p (K+8193) x.2.2.2 x.2.2.1 x.2.1 sv m hand Q B Us/\Trn (AllB U V d ds do_) w w'
theorem RG.mono (h:RG w U V d ds do_ l p K D L P sv m hand Q B Us) (hK:K<=K'):RG w U V d ds do_ l p K' D L P sv m hand Q B Us :=
 ⟨h.log.mono hK,h.dk.mono hK,h.pf.mono hK,h.du,h.dv,h.uv⟩
theorem pwrite_any (U V:Nat->Prop) (d ds do_ l p K:Nat) (D:DK) (L:LK) (P:PK) (sv:Value) (m hand:Nat) (Q:Nat->Nat) (B:Nat->Value) (Us:Nat->Bool) (i:Nat) (w:World) (h:RG w U V d ds do_ l p K D L P sv m hand Q B Us) (hi:i<P.frames.length) (hK:K<=900000000) :
  Calls Tryz.prog 58 #[.pointer (some ⟨p,0,none⟩),.pointer (some ⟨Q i,0,none⟩)] w (PwP U V d ds do_ l p K sv m hand Q B Us (P.write i (P.frames.getD i fr0) L D) w):=by
 have hf:=h.pf.fr i hi;obtain⟨va,vc,hve,hvr⟩:=hf.b.rb (by rw[hf.len];omega);rw[hf.len] at hvr;have q1:w.cell? ⟨Q i,1,none⟩=some (.slice va 512 vc):=by
  have e:B i=.slice va 512 vc:=by rw[hve,hf.len]
  rw[<- e];exact cell_of_row _ _ 1 _ _ _ hf.blk
 have p5:w.cell? ⟨p,5,none⟩=some (.pointer (some ⟨l,0,none⟩)):=cell_of_row _ _ 5 _ _ _ h.pf.blk;have HLs:Hid (∀ W,Below w.heap.size w W->Calls Tryz.prog 32 #[.slice va 512 vc] W fun e w'=>e=.returned (.int .i64 (lsnL (P.frames.getD i fr0).b))/\Below W.heap.size W w'):=φ fun W hW=>Lsn_any w.heap.size va 512 vc _ W (hvr.below hW) hW.size
 have HSf:Hid (∀ W,Below w.heap.size w W->Calls Tryz.prog 59 #[.pointer (some ⟨l,0,none⟩)] W fun e w'=>e=.returned (.int .i64 L.safe)/\∃ q,w'=W.drewN q):=φ fun W hW=>safe_any W U l d K L (h.keep hW (Nat.le_refl _)).log (by omega)
 have HFo:Hid (∀ W,Below w.heap.size w W->Calls Tryz.prog 20 #[.pointer (some ⟨l,0,none⟩)] W fun e w'=>e=.returned (.int .i64 (L.force D).1)/\RG w' U V d ds do_ l p (K+8192) (L.force D).2.2 (L.force D).2.1 P sv m hand Q B Us/\Trn (AllB U V d ds do_) w w'):=φ fun W hW =>
  (force_any U l K L d ds do_ K D W (h.keep hW (Nat.le_refl _)).log (h.keep hW (Nat.le_refl _)).dk h.du hK (by omega)).mono fun e w' hh=>⟨hh.1,(h.keep hW (Nat.le_refl _)).turn (hh.2.1.mono (by omega)) hh.2.2.1 hh.2.2.2 (by omega),((Trn.refl _ w).below hW (Nat.le_refl _)).then (hh.2.2.2.mono fun g hg=>.inl (by rcases hg with hg|hg;exact .inl hg;exact .inr (.inr hg)))⟩
 have H:=φ h;have HI:=φ hi;obtain⟨f,hfe⟩:∃ f,f=P.frames.getD i fr0:=⟨_,rfl⟩
 rw[<- hfe] at HLs ⊢;have HF:=φ hfe;clear h hi hf hve hvr hfe;by_cases hs:L.safe<=(lsnL f.b:Int)
 ·have e1:decide ((lsnL f.b:Int) ≥ L.safe)=true:=decide_eq_true hs;by_cases h0:(L.force D).1=0
  ·have HX1:Hid ((((L.force D).2.2.write (P.first+f.page) f.b).1≠0)->P.write i f L D=(((L.force D).2.2.write (P.first+f.page) f.b).1,P,(L.force D).2.1,((L.force D).2.2.write (P.first+f.page) f.b).2)):=φ fun h2=>by
    unfold PK.write behind;rw[if_pos hs,if_neg (by omega),if_pos h2]
   have HX2:Hid ((((L.force D).2.2.write (P.first+f.page) f.b).1=0)->P.write i f L D=(0,P.setFr i (clean f),(L.force D).2.1,((L.force D).2.2.write (P.first+f.page) f.b).2)):=φ fun h2=>by
    unfold PK.write behind;rw[if_pos hs,if_neg (by omega),if_neg (by omega)];rfl
   rw[h0] at HFo;clear h0 hs;generalize (lsnL f.b:Int)=ln at *;generalize L.safe=sf at *;obtain⟨y,hy⟩:∃ y,y=(L.force D).2:=⟨_,rfl⟩
   rw[<- hy] at HFo HX1 HX2;clear hy;obtain⟨L1,D1⟩:=y;simp only at HFo HX1 HX2;go_enter Tryz.func58,Tryz.ntmps58;go_upto_region 1 with (fail);go_region_held3 (fun w'=>w'.cell? ⟨Q i,1,none⟩=some (.slice va 512 vc)/\w'.cell? ⟨p,5,none⟩=some (.pointer (some ⟨l,0,none⟩))) (first|go_keep|exact⟨by assumption,by assumption⟩) (first|(go_at_call 32;refine (HLs.out w.drew ((Below.refl _ _).drew)).mono ?_;rintro e w1 ⟨rfl,hb1⟩;have B1:=φ ((Below.refl w.heap.size w).drew.trans hb1);have q1':w1.cell? ⟨Q i,1,none⟩=some (.slice va 512 vc):=(B1.out.cell (p:=⟨Q i,1,none⟩) (χ q1)).trans q1;have p5':w1.cell? ⟨p,5,none⟩=some (.pointer (some ⟨l,0,none⟩)):=(B1.out.cell (p:=⟨p,5,none⟩) (χ p5)).trans p5;clear hb1)|(go_at_call 59;refine (HSf.out _ B1.out).mono ?_;rintro e w2 ⟨rfl,q,hw2⟩;have B2:Hid (Below w.heap.size w w2):=φ (by rw[hw2];exact δ B1.out q);have q2':w2.cell? ⟨Q i,1,none⟩=some (.slice va 512 vc):=(B2.out.cell (p:=⟨Q i,1,none⟩) (χ q1)).trans q1;have p2':w2.cell? ⟨p,5,none⟩=some (.pointer (some ⟨l,0,none⟩)):=(B2.out.cell (p:=⟨p,5,none⟩) (χ p5)).trans p5;clear hw2));go_upto_region 5 with (go_at_call 20;refine (HFo.out _ B2.out).mono ?_;rintro e w3 ⟨rfl,h3,ht3⟩;have H3:=φ h3;have T3:=φ ht3;clear h3 ht3);exact pw_tail U V d ds do_ l p (K+8192) D1 L1 P sv m hand Q B Us i w3 _ H3.out HI.out (by omega) (by rw[<- HF.out];exact fun h2 w' h4 ht=>⟨by rw[HX1.out h2],by rw[HX1.out h2];exact h4,T3.out.then ht⟩) (by rw[<- HF.out];exact fun h2 w' h4 ht=>⟨by rw[HX2.out h2],by rw[HX2.out h2];exact h4,T3.out.then ht⟩) _ _ _ _ _ _ _ _ _ _ _ _ _ _ _ _ _ _ _ _ _ _ _ _ _ _ _ _ _ _ _ _ _ _ _ _ _ _ _ _ _ _ _ _ _ _ _ _ _ _ _ _ _ (by assumption) (by assumption)
  ·have HX:Hid (P.write i f L D=((L.force D).1,P,(L.force D).2)):=φ (by unfold PK.write behind;rw[if_pos hs,if_pos h0]);have e2:((L.force D).1 == 0)=false:=by simpa using h0
   rw[HX.out];clear h0 hs HX;generalize (lsnL f.b:Int)=ln at *;generalize L.safe=sf at *;obtain⟨y,hy⟩:∃ y,y=L.force D:=⟨_,rfl⟩
   rw[<- hy] at HFo e2 ⊢;clear hy;obtain⟨y1,L1,D1⟩:=y;simp only at HFo e2 ⊢;go_enter Tryz.func58,Tryz.ntmps58;go_upto_region 1 with (fail);go_region_held3 (fun w'=>w'.cell? ⟨Q i,1,none⟩=some (.slice va 512 vc)/\w'.cell? ⟨p,5,none⟩=some (.pointer (some ⟨l,0,none⟩))) (first|go_keep|exact⟨by assumption,by assumption⟩) (first|(go_at_call 32;refine (HLs.out w.drew ((Below.refl _ _).drew)).mono ?_;rintro e w1 ⟨rfl,hb1⟩;have B1:=φ ((Below.refl w.heap.size w).drew.trans hb1);have q1':w1.cell? ⟨Q i,1,none⟩=some (.slice va 512 vc):=(B1.out.cell (p:=⟨Q i,1,none⟩) (χ q1)).trans q1;have p5':w1.cell? ⟨p,5,none⟩=some (.pointer (some ⟨l,0,none⟩)):=(B1.out.cell (p:=⟨p,5,none⟩) (χ p5)).trans p5;clear hb1)|(go_at_call 59;refine (HSf.out _ B1.out).mono ?_;rintro e w2 ⟨rfl,q,hw2⟩;have B2:Hid (Below w.heap.size w w2):=φ (by rw[hw2];exact δ B1.out q);have q2':w2.cell? ⟨Q i,1,none⟩=some (.slice va 512 vc):=(B2.out.cell (p:=⟨Q i,1,none⟩) (χ q1)).trans q1;have p2':w2.cell? ⟨p,5,none⟩=some (.pointer (some ⟨l,0,none⟩)):=(B2.out.cell (p:=⟨p,5,none⟩) (χ p5)).trans p5;clear hw2));go_wp2_with (go_at_call 20;refine (HFo.out _ B2.out).mono ?_;rintro e w3 ⟨rfl,h3,ht3⟩;have H3:=φ h3;have T3:=φ ht3;clear h3 ht3);go_ret;exact⟨rfl,H3.out.mono (by omega),T3.out⟩
 ·have e1:decide ((lsnL f.b:Int) ≥ L.safe)=false:=decide_eq_false (by omega);have HX1:Hid (((D.write (P.first+f.page) f.b).1≠0)->P.write i f L D=((D.write (P.first+f.page) f.b).1,P,L,(D.write (P.first+f.page) f.b).2)):=φ fun h2=>by
   unfold PK.write behind;rw[if_neg hs];simp only;rw[if_neg (by omega),if_pos h2]
  have HX2:Hid (((D.write (P.first+f.page) f.b).1=0)->P.write i f L D=(0,P.setFr i (clean f),L,(D.write (P.first+f.page) f.b).2)):=φ fun h2=>by
   unfold PK.write behind;rw[if_neg hs];simp only;rw[if_neg (by omega),if_neg (by omega)];rfl
  clear hs HFo;generalize (lsnL f.b:Int)=ln at *;generalize L.safe=sf at *;go_enter Tryz.func58,Tryz.ntmps58;go_upto_region 1 with (fail);go_region_held3 (fun w'=>w'.cell? ⟨Q i,1,none⟩=some (.slice va 512 vc)/\w'.cell? ⟨p,5,none⟩=some (.pointer (some ⟨l,0,none⟩))) (first|go_keep|exact⟨by assumption,by assumption⟩) (first|(go_at_call 32;refine (HLs.out w.drew ((Below.refl _ _).drew)).mono ?_;rintro e w1 ⟨rfl,hb1⟩;have B1:=φ ((Below.refl w.heap.size w).drew.trans hb1);have q1':w1.cell? ⟨Q i,1,none⟩=some (.slice va 512 vc):=(B1.out.cell (p:=⟨Q i,1,none⟩) (χ q1)).trans q1;have p5':w1.cell? ⟨p,5,none⟩=some (.pointer (some ⟨l,0,none⟩)):=(B1.out.cell (p:=⟨p,5,none⟩) (χ p5)).trans p5;clear hb1)|(go_at_call 59;refine (HSf.out _ B1.out).mono ?_;rintro e w2 ⟨rfl,q,hw2⟩;have B2:Hid (Below w.heap.size w w2):=φ (by rw[hw2];exact δ B1.out q);have q2':w2.cell? ⟨Q i,1,none⟩=some (.slice va 512 vc):=(B2.out.cell (p:=⟨Q i,1,none⟩) (χ q1)).trans q1;have p2':w2.cell? ⟨p,5,none⟩=some (.pointer (some ⟨l,0,none⟩)):=(B2.out.cell (p:=⟨p,5,none⟩) (χ p5)).trans p5;clear hw2));go_upto_region 5 with (fail);exact pw_tail U V d ds do_ l p K D L P sv m hand Q B Us i w2 _ (H.out.keep B2.out (Nat.le_refl _)) HI.out (by omega) (by rw[<- HF.out];exact fun h2 w' h4 ht=>⟨by rw[HX1.out h2],by rw[HX1.out h2];exact h4.mono (by omega),((Trn.refl _ w).below B2.out (Nat.le_refl _)).then ht⟩) (by rw[<- HF.out];exact fun h2 w' h4 ht=>⟨by rw[HX2.out h2],by rw[HX2.out h2];exact h4.mono (by omega),((Trn.refl _ w).below B2.out (Nat.le_refl _)).then ht⟩) _ _ _ _ _ _ _ _ _ _ _ _ _ _ _ _ _ _ _ _ _ _ _ _ _ _ _ _ _ _ _ _ _ _ _ _ _ _ _ _ _ _ _ _ _ _ _ _ _ _ _ _ _ (by assumption) (by assumption)
end
end Go.Proofs.YtohlkkannjifmaaGreatDoor
