import Derived.Test.YtohlkkannjifmaaGreatDoorOPool2
namespace Go.Proofs.YtohlkkannjifmaaGreatDoor
section
open Go.RowKit
variable {u:Bool} {x:FrV} {b0 d fq hand i k l m p:Nat} {Us:Nat->Bool} {Q:Nat->Nat} {V:Nat->Prop} {B:Nat->Value} {P:PK} {sv v:Value} {w w':World}
structure PMF (P:PK) (Q:Nat->Nat) (f:Int->Value) (g:Int->Bool):Prop where
 at_:∀ i,i<P.frames.length->f (P.frames.getD i fr0).page=ptr (Q i)/\g (P.frames.getD i fr0).page=true
 of:∀ x,g x=true->∃ i,i<P.frames.length/\(P.frames.getD i fr0).page=x
def PK.push (P:PK) (f:FrV):PK:={ P with frames:=P.frames++[f] }
theorem PK.push_len (P:PK) (f:FrV):(P.push f).frames.length=P.frames.length+1:=by simp[PK.push]
theorem PK.push_at (P:PK) (f:FrV) (j:Nat) (hj:j<P.frames.length+1):(P.push f).frames.getD j fr0=if j=P.frames.length then f else P.frames.getD j fr0:=by
 show (P.frames++[f]).getD j fr0=_;rw[List.getD_eq_getElem?_getD,getElem?_concat];by_cases e:j=P.frames.length
 ·rw[if_pos e,if_neg (by omega),if_pos e];rfl
 ·rw[if_pos (show j<P.frames.length by omega),if_neg e,List.getD_eq_getElem?_getD]
theorem getD_page_mem (hi:i<P.frames.length):P.frames.getD i fr0∈P.frames:=getD_mem P.frames fr0 i hi
theorem PMF.push {f:Int->Value} {g:Int->Bool} (h:PMF P Q f g) (hnew:∀ y∈P.frames,y.page≠x.page) (fq:Nat):PMF (P.push x) (upd Q P.frames.length fq) (updV f x.page (ptr fq)) (fun y=>if y=x.page then true else g y):=by
 refine⟨fun i hi=>?_,fun y hy=>?_⟩
 ·rw[P.push_len] at hi;rw[P.push_at x i hi];by_cases e:i=P.frames.length
  ·simp[e,updV,upd]
  ·have hi2:i<P.frames.length:=by omega
   have hne:=hnew _ (getD_page_mem hi2);have:=h.at_ i hi2;simp only[if_neg e,updV,if_neg hne,upd];exact this
 ·by_cases e:y=x.page
  ·exact⟨P.frames.length,by rw[P.push_len];omega,by rw[P.push_at _ _ (by omega),if_pos rfl,e]⟩
  ·simp only[if_neg e] at hy;obtain⟨i,hi,e2⟩:=h.of y hy;exact⟨i,by rw[P.push_len];omega,by rw[P.push_at _ _ (by omega),if_neg (by omega),e2]⟩
theorem PMF.swap {f:Int->Value} {g:Int->Bool} (h:PMF P Q f g) (hd:P.frames.Pairwise fun f g=>f.page≠g.page) (hnew:∀ y∈P.frames,y.page≠x.page) (hi:i<P.frames.length) (fq:Nat) :
  PMF (P.setFr i x) (upd Q i fq) (updV (updV f (P.frames.getD i fr0).page (.pointer none)) x.page (ptr fq)) (fun y=>if y=x.page then true else if y=(P.frames.getD i fr0).page then false else g y):=by
 have hgd:∀ j,(P.setFr i x).frames.getD j fr0=if j=i then x else P.frames.getD j fr0:=fun j=>getD_set _ _ _ _ _ hi
 have hpg:∀ j,j<P.frames.length->j≠i->(P.frames.getD j fr0).page≠(P.frames.getD i fr0).page:=fun j hj hne=>by
  have:=List.pairwise_iff_getElem.1 hd;rw[List.getD_eq_getElem?_getD,List.getElem?_eq_getElem hj,List.getD_eq_getElem?_getD,List.getElem?_eq_getElem hi];rcases Nat.lt_or_ge j i with h1|h1
  ·exact this j i hj hi h1
  ·exact (this i j hi hj (by omega)).symm
 refine⟨fun j hj=>?_,fun y hy=>?_⟩
 ·rw[P.setFr_len] at hj;rw[hgd j];by_cases e:j=i
  ·simp[e,updV,upd]
  ·have hne:=hnew _ (getD_page_mem hj);have:=h.at_ j hj;simp only[if_neg e,updV,if_neg hne,if_neg (hpg j hj e),upd];exact this
 ·by_cases e:y=x.page
  ·exact⟨i,by rw[P.setFr_len];exact hi,by rw[hgd i,if_pos rfl,e]⟩
  ·simp only[if_neg e] at hy;split at hy
   ·cases hy
   ·next e3 =>
    obtain⟨j,hj,e2⟩:=h.of y hy;have hji:j≠i:=fun e4=>e3 (by rw[<- e2,e4])
    exact⟨j,by rw[P.setFr_len];exact hj,by rw[hgd j,if_neg hji,e2]⟩
theorem PM.split (h:PM w m k P Q):∃ mk f g,mk<=k/\MH w m mk (.pointer none) f g/\PMF P Q f g:=by
 obtain⟨mk,f,g,h1,h2,h3,h4⟩:=h;exact⟨mk,f,g,h1,h2,h3,h4⟩
structure NewF (w:World) (V:Nat->Prop) (b0 fq:Nat) (v:Value) (u:Bool) (P:PK) (x:FrV):Prop where
 blk:w.heap[fq]? = some (frObj x v u)
 b:OB b0 w v x.b
 len:x.b.length=512
 lo:b0<=fq
 new:∀ y∈P.frames,y.page≠x.page
 rng:0<=x.page/\x.page<P.count
 lsn:0<=x.first/\x.first<=9223372036854775807
 vl:∀ g,V g->g<b0
theorem PF.push (h:PF w V p d l k P sv m hand Q B Us) (hroom:P.frames.length<P.most) {sv':Value} (hN:NewF w V b0 fq v u P x)
  (hp:w'.heap[p]? = some (poolObj sv' m P hand d l)) (hs:w'.ownsRow 0 116 1 sv' (P.frames.length+1) (((List.range P.frames.length).map fun i=>ptr (Q i))++[ptr fq])) (hsb:sv'.ownBlock=sv.ownBlock∨∃ g,sv'.ownBlock=some g/\b0<=g)
  (hm:∃ mk f g,mk<=k/\MH w' m (mk+1) (.pointer none) f g/\PMF (P.push x) (upd Q P.frames.length fq) f g) (ho:∀ g,g<w.heap.size->g≠p->g≠m->sv.ownBlock≠some g->w'.heap[g]? = w.heap[g]?) (hsz:w.heap.size<=w'.heap.size) :
  PF w' (fun g=>V g∨(b0<=g/\g<w'.heap.size)) p d l (k+1) (P.push x) sv' m hand (upd Q P.frames.length fq) (upd B P.frames.length v) (upd Us P.frames.length u):=by
 have hfl:=ξ hN.blk;have hnm:∀ g c t,w.heap[g]? = some (Obj.cells c t (0,0))->t≠89->t≠116->w'.heap[g]? = w.heap[g]?:=fun g c t hg h1 h2=>ho g (ξ hg) (fun e=>by subst e;exact tag_ne hg h.blk h1) (fun e=>by subst e;exact h.map.isMap hg) (fun e=>by obtain⟨c',hc'⟩:=own_tag h.srow e;exact tag_ne hg hc' h2)
 have hlt:∀ i,i<P.frames.length+1->i≠P.frames.length->i<P.frames.length:=fun i h1 h2=>by omega
 refine⟨hp,?_,?_,fun i hi=>?_,fun i j hi hj hij=>?_,.inl h.vp,fun b hb=>?_,.inl h.vm,fun i hi=>?_,fun i hi b hb=>?_,fun i hi=>?_,by have:=h.hd;omega,⟨h.ok.m1,h.ok.m2,h.ok.f1,h.ok.c1,h.ok.fc,?_,fun y hy=>?_,fun y hy=>?_,?_⟩⟩
 ·rw[P.push_len,List.range_succ,List.map_append];have e1:(List.range P.frames.length).map (fun i=>ptr (upd Q P.frames.length fq i))=(List.range P.frames.length).map fun i=>ptr (Q i):=List.map_congr_left fun i hi=>by
   have:=List.mem_range.1 hi;unfold upd;rw[if_neg (by omega)]
  rw[e1];simp only[List.map_cons,List.map_nil,upd,if_pos];exact hs
 ·obtain⟨mk,f,g,h1,h2,h3⟩:=hm;exact⟨mk+1,f,g,by omega,h2,h3.at_,h3.of⟩
 ·rw[P.push_len] at hi;rw[P.push_at x i hi];unfold upd;by_cases e:i=P.frames.length
  ·rw[if_pos e,if_pos e,if_pos e,if_pos e];exact⟨(hnm _ _ _ hN.blk (by decide) (by decide)).trans hN.blk,(ωK (OB.mono hN.b (Nat.zero_le _)) fun g eg=>by
    obtain⟨c,hc⟩:=own_tag hN.b eg;exact hnm g _ _ hc (by decide) (by decide)),hN.len⟩
  ·rw[if_neg e,if_neg e,if_neg e,if_neg e];have hf:=h.fr i (hlt i hi e);exact⟨(hnm _ _ _ hf.blk (by decide) (by decide)).trans hf.blk,(ωK hf.b fun g eg=>by
    obtain⟨c,hc⟩:=own_tag hf.b eg;exact hnm g _ _ hc (by decide) (by decide)),hf.len⟩
 ·rw[P.push_len] at hi hj;unfold upd;have hi2:i≠P.frames.length:=by omega
  rw[if_neg hi2];by_cases e:j=P.frames.length
  ·rw[if_pos e];have:=hN.vl _ (h.vq i (hlt i hi hi2));have:=hN.lo;omega
  ·rw[if_neg e];exact h.inj i j (hlt i hi hi2) (hlt j hj e) hij
 ·rcases hsb with e|⟨g,e,hg⟩
  ·exact .inl (h.vs b (by rw[<- e];exact hb))
  ·rw[e] at hb
   cases hb
   obtain⟨c,hc⟩:=own_tag hs e;exact .inr ⟨hg,ξ hc⟩
 ·rw[P.push_len] at hi;unfold upd;by_cases e:i=P.frames.length
  ·rw[if_pos e];exact .inr ⟨hN.lo,Nat.lt_of_lt_of_le hfl hsz⟩
  ·rw[if_neg e];exact .inl (h.vq i (hlt i hi e))
 ·rw[P.push_len] at hi;unfold upd at hb;by_cases e:i=P.frames.length
  ·rw[if_pos e] at hb;obtain⟨h1,h2⟩:=World.ownsRow.lt hN.b b hb;exact .inr ⟨h1,Nat.lt_of_lt_of_le h2 hsz⟩
  ·rw[if_neg e] at hb;exact .inl (h.vb i (hlt i hi e) b hb)
 ·rcases hi with hi|hi
  ·exact Nat.lt_of_lt_of_le (h.lt i hi) hsz
  ·exact hi.2
 ·rw[P.push_len];exact hroom
 ·rcases List.mem_append.1 (show y∈P.frames++[x] from hy) with hy|hy
  ·exact h.ok.rng y hy
  ·rw[List.mem_singleton] at hy;subst hy;exact hN.rng
 ·rcases List.mem_append.1 (show y∈P.frames++[x] from hy) with hy|hy
  ·exact h.ok.lsn y hy
  ·rw[List.mem_singleton] at hy;subst hy;exact hN.lsn
 ·show (P.frames++[x]).Pairwise _;rw[List.pairwise_append];exact⟨h.ok.dis,by simp,fun a ha b hb=>by rw[List.mem_singleton] at hb;subst hb;exact hN.new a ha⟩
theorem PF.swap (h:PF w V p d l k P sv m hand Q B Us) (hi:i<P.frames.length) (hN:NewF w V b0 fq v u P x)
  (hs:w'.ownsRow 0 116 1 sv P.frames.length (((List.range P.frames.length).map fun i=>ptr (Q i)).set i (ptr fq)))
  (hm:∃ mk f g,mk<=k/\MH w' m (mk+1) (.pointer none) f g/\PMF (P.setFr i x) (upd Q i fq) f g) (ho:∀ g,g<w.heap.size->g≠m->sv.ownBlock≠some g->w'.heap[g]? = w.heap[g]?) (hsz:w.heap.size<=w'.heap.size) :
  PF w' (fun g=>V g∨(b0<=g/\g<w'.heap.size)) p d l (k+1) (P.setFr i x) sv m hand (upd Q i fq) (upd B i v) (upd Us i u):=by
 have hfl:=ξ hN.blk;have hnm:∀ g c t,w.heap[g]? = some (Obj.cells c t (0,0))->t≠116->w'.heap[g]? = w.heap[g]?:=fun g c t hg h2=>ho g (ξ hg) (fun e=>by subst e;exact h.map.isMap hg) (fun e=>by obtain⟨c',hc'⟩:=own_tag h.srow e;exact tag_ne hg hc' h2)
 have hgd:∀ j,(P.setFr i x).frames.getD j fr0=if j=i then x else P.frames.getD j fr0:=fun j=>getD_set _ _ _ _ _ hi
 have hlen:=P.setFr_len i x;have hmem:∀ y∈(P.setFr i x).frames,y=x∨y∈P.frames:=fun y hy=>by
  rcases List.mem_or_eq_of_mem_set hy with h|h
  ·exact .inr h
  ·exact .inl h
 refine⟨(hnm p _ _ h.blk (by decide)).trans h.blk,?_,?_,fun j hj=>?_,fun a b ha hb hab=>?_,.inl h.vp,fun b hb=>.inl (h.vs b hb),.inl h.vm,fun j hj=>?_,fun j hj b hb=>?_,fun j hj=>?_,by have:=h.hd;omega,⟨h.ok.m1,h.ok.m2,h.ok.f1,h.ok.c1,h.ok.fc,by rw[hlen];exact h.ok.sz,fun y hy=>?_,fun y hy=>?_,?_⟩⟩
 ·rw[hlen];have e1:(List.range P.frames.length).map (fun j=>ptr (upd Q i fq j))=((List.range P.frames.length).map fun j=>ptr (Q j)).set i (ptr fq):=by
   apply List.ext_getElem
   ·simp
   ·intro j h1 h2;simp only[List.getElem_map,List.getElem_range,List.getElem_set,upd];by_cases e:j=i
    ·rw[if_pos e,if_pos e.symm]
    ·rw[if_neg e,if_neg (fun e2=>e e2.symm)]
  rw[e1];exact hs
 ·obtain⟨mk,f,g,h1,h2,h3⟩:=hm;exact⟨mk+1,f,g,by omega,h2,h3.at_,h3.of⟩
 ·rw[hlen] at hj;rw[hgd j];unfold upd;by_cases e:j=i
  ·rw[if_pos e,if_pos e,if_pos e,if_pos e];exact⟨(hnm _ _ _ hN.blk (by decide)).trans hN.blk,(ωK (OB.mono hN.b (Nat.zero_le _)) fun g eg=>by
    obtain⟨c,hc⟩:=own_tag hN.b eg;exact hnm g _ _ hc (by decide)),hN.len⟩
  ·rw[if_neg e,if_neg e,if_neg e,if_neg e];have hf:=h.fr j hj;exact⟨(hnm _ _ _ hf.blk (by decide)).trans hf.blk,(ωK hf.b fun g eg=>by
    obtain⟨c,hc⟩:=own_tag hf.b eg;exact hnm g _ _ hc (by decide)),hf.len⟩
 ·rw[hlen] at ha hb;have hlo:=hN.lo;unfold upd;by_cases e1:a=i
  ·rw[if_pos e1,if_neg (by omega)];have:=hN.vl _ (h.vq b hb);omega
  ·rw[if_neg e1];by_cases e2:b=i
   ·rw[if_pos e2];have:=hN.vl _ (h.vq a ha);omega
   ·rw[if_neg e2];exact h.inj a b ha hb hab
 ·rw[hlen] at hj;unfold upd;by_cases e:j=i
  ·rw[if_pos e];exact .inr ⟨hN.lo,Nat.lt_of_lt_of_le hfl hsz⟩
  ·rw[if_neg e];exact .inl (h.vq j hj)
 ·rw[hlen] at hj;unfold upd at hb;by_cases e:j=i
  ·rw[if_pos e] at hb;obtain⟨h1,h2⟩:=World.ownsRow.lt hN.b b hb;exact .inr ⟨h1,Nat.lt_of_lt_of_le h2 hsz⟩
  ·rw[if_neg e] at hb;exact .inl (h.vb j hj b hb)
 ·rcases hj with hj|hj
  ·exact Nat.lt_of_lt_of_le (h.lt j hj) hsz
  ·exact hj.2
 ·rcases hmem y hy with rfl|hy
  ·exact hN.rng
  ·exact h.ok.rng y hy
 ·rcases hmem y hy with rfl|hy
  ·exact hN.lsn
  ·exact h.ok.lsn y hy
 ·exact set_pairs h.ok.dis fun j f _ hj=>hN.new f (List.mem_of_getElem? hj)
end
section
set_option maxHeartbeats 4000000
set_option maxRecDepth 100000
open Go.RowKit
theorem info_pframe:(Tryz.prog.info? 116).map (fun i=>(i.zero,i.size,i.bytes))=some (some (.pointer none),1,8):=by kernel_rfl
def newV (V:Nat->Prop) (b0:Nat) (w':World):Nat->Prop:=fun g=>V g∨(b0<=g/\g<w'.heap.size)
theorem place_none (V:Nat->Prop) (p d l k:Nat) (P:PK) (sv:Value) (m hand:Nat) (Q:Nat->Nat) (B:Nat->Value) (Us:Nat->Bool) (b0 fq:Nat) (v:Value) (u:Bool) (x:FrV) (w:World) (h:PF w V p d l k P sv m hand Q B Us) (hroom:P.frames.length<P.most) (hN:NewF w V b0 fq v u P x) (hk:k<=1000000000) :
  Calls Tryz.prog 92 #[.pointer (some ⟨p,0,none⟩),.pointer (some ⟨fq,0,none⟩),.pointer none] w fun e w'=>e=.returned (.tuple #[])/\∃ sv',PF w' (newV V b0 w') p d l (k+1) (P.push x) sv' m hand (upd Q P.frames.length fq) (upd B P.frames.length v) (upd Us P.frames.length u)/\Trn V w w':=by
 have h32:P.frames.length<=32:=Nat.le_trans h.ok.sz h.ok.m2;have p0:w.cell? ⟨p,0,none⟩=some sv:=cell_of_row _ _ 0 _ _ _ h.blk;have hsw:b0<=w.heap.size:=Nat.le_trans hN.lo (Nat.le_of_lt (ξ hN.blk));have hpl:=ξ h.blk;have hfl:=ξ hN.blk;have hml:=h.lt m h.vm;have H:=φ h;have HN:=φ hN;have HRo:=φ hroom;have HR2:Hid (x.page<=9223372036854775807/\-9223372036854775808<=x.page):=φ (by have:=hN.rng;have:=h.ok.fc;have:=h.ok.f1;omega);clear h hN hroom;go_enter Tryz.func92,Tryz.ntmps92;go_upto_region 4 with (first|(at_builtin;refine wpList_append_one rfl _ _ rfl Tryz.underlying84 info_pframe rfl _ _ _ rfl (H.out.srow.alloc _) _ _ (ptr fq) rfl (by simp[go_sem,ptr]) rfl (by omega) ?_;intro v2 w2 ho2 hg2 ha2;obtain⟨a2,m2,e2,rfl⟩:=own_slice ho2;have P2:=φ ((hg2.block p (by rw[World.size_alloc];omega) (fun e=>by obtain⟨c,hc⟩:=own_tag H.out.srow e.symm;exact tag_ne hc H.out.blk (by decide))).trans ((alloc_old hpl).trans H.out.blk));have G2:=φ hg2;have O2:=φ ho2;have A2:=φ ha2;have c2:w2.cell? ⟨p,0,none⟩=some sv:=cell_of_row _ _ 0 _ _ _ P2.out;have f2:w2.frozen? ⟨p,0,none⟩=false:=(by simp[World.frozen?,P2.out,poolObj]);clear ho2 hg2 ha2));have hs2:=G2.out.size;rw[World.size_alloc] at hs2;have hX3:w2.heap[fq]? = some (frObj x v u):=(G2.out.block fq (by rw[World.size_alloc];omega) (fun e=>by obtain⟨c,hc⟩:=own_tag H.out.srow e.symm;exact tag_ne hc HN.out.blk (by decide))).trans ((alloc_old hfl).trans HN.out.blk);have hpf:fq≠p:=fun e=>by have:=HN.out.blk;rw[e] at this;exact tag_ne this H.out.blk (by decide)
 have hM2:w2.heap[m]? = w.heap[m]?:=(G2.out.block m (by rw[World.size_alloc];omega) (fun e=>by obtain⟨c,hc⟩:=own_tag H.out.srow e.symm;exact H.out.map.isMap hc)).trans (alloc_old hml);have hpm:m≠p:=fun e=>H.out.map.isMap (by rw[e];exact H.out.blk)
 obtain⟨W3,hW3⟩:∃ W3,W3=w2.setCell ⟨p,0,none⟩ (.slice a2 m2 e2):=⟨_,rfl⟩
 have hP3:W3.heap[p]? = some (poolObj (.slice a2 m2 e2) m P hand d l):=by rw[hW3];exact set_at P2.out 0 _
 have hF3:W3.heap[fq]? = some (frObj x v u):=by rw[hW3,set_ne hpf];exact hX3
 have hM3:W3.heap[m]? = w.heap[m]?:=by rw[hW3,set_ne hpm];exact hM2
 have hO3:W3.ownsRow 0 116 1 (.slice a2 m2 e2) (P.frames.length+1) (((List.range P.frames.length).map fun i=>ptr (Q i))++[ptr fq]):=by
  rw[hW3];exact ωK O2.out fun g eg=>by
   obtain⟨c,hc⟩:=own_tag O2.out eg;exact set_ne (fun e=>by subst e;exact tag_ne hc P2.out (by decide))
 have hT3:Trn V w W3:=by
  rw[hW3];exact (((Trn.refl V w).alloc _).grown G2.out (fun i e=>.inl (H.out.vs i e))).set _ _ _ (.inl H.out.vp)
 have hK3:∀ g,g<w.heap.size->g≠p->sv.ownBlock≠some g->W3.heap[g]? = w.heap[g]?:=fun g h1 h2 h3=>by
  rw[hW3,set_ne h2];exact (G2.out.block g (by rw[World.size_alloc];omega) (fun e=>h3 e.symm)).trans (alloc_old h1)
 have hs3:W3.heap.size=w2.heap.size:=by rw[hW3,size_set]
 rw[<- hW3];have c1:W3.cell? ⟨p,1,none⟩=some (.map (some m)):=cell_of_row _ _ 1 _ _ _ hP3;have cx:W3.cell? ⟨fq,0,none⟩=some (.int .i64 x.page):=cell_of_row _ _ 0 _ _ _ hF3;obtain⟨mk,f,g,hmk,hMH,hPM⟩:=H.out.map.split;have HP3:=φ hP3;have HO3:=φ hO3;have HT3:=φ hT3;have HK3:=φ hK3;have HMH:=φ (hMH.block (w':=W3.drew) hM3);have HPM:=φ (hPM.push HN.out.new fq);have hm3:m<W3.heap.size:=by omega
 have hp3:=ξ hP3;clear hW3 hP3 hF3 hM3 hO3 hT3 hK3 hMH hPM hX3 hM2 f2 c2;refine wp_region_still_tail 9 (by kernel_rfl) (by kernel_rfl) ?_;simp only[List.take_succ_cons,List.take_zero,List.drop_succ_cons,List.drop_zero];change wpStill _ _ (World.drew _) _ _ _
 iterate 9 still_step
 refine wpStill_nil ?_;refine wpList_put_mh rfl _ _ _ _ rfl Tryz.underlying85 HMH.out (by omega) x.page (ptr fq) rfl rfl rfl HR2.out.2 HR2.out.1 ?_;intro w5 hm5 hg5;have HR5:Hid (PF w5 (newV V b0 w5) p d l (k+1) (P.push x) (.slice a2 m2 e2) m hand (upd Q P.frames.length fq) (upd B P.frames.length v) (upd Us P.frames.length u)):=φ (H.out.push HRo.out HN.out ((hg5.block p hp3 (fun e=>hpm (by cases e;rfl))).trans HP3.out) (ωK HO3.out fun g eg=>by
   obtain⟨c,hc⟩:=own_tag HO3.out eg;exact hg5.block g (ξ hc) (fun e=>by
    obtain⟨D',⟨es,clock,hb,-⟩,-⟩:=HMH.out
    cases e
    have:W3.heap[m]? = _:=hb;rw[this] at hc
    cases hc)) (by
   rcases A2.out with e|e
   ·exact .inl e
   ·exact .inr ⟨_,e,by rw[World.size_alloc];omega⟩) ⟨mk,_,_,hmk,hm5,HPM.out⟩ (fun g h1 h2 h3 h4=>(hg5.block g (by show g<W3.heap.size;omega) (fun e=>h3 (by cases e;rfl))).trans (HK3.out g h1 h2 h4)) (by have:W3.heap.size<=w5.heap.size:=hg5.size;omega))
 have HT5:=φ (HT3.out.drew.grown hg5 (fun i e=>by cases e;exact .inl H.out.vm));clear hm5 hg5;go_wp2_with (fail);go_returns;exact⟨rfl,⟨_,HR5.out⟩,HT5.out⟩
theorem wpList_del_mh {w:World} {ops:Array Oper} {rest:List Oper} {o:Oper} {a:Act} {Q:Exit->Act->World->Prop} (hgd:o.guard=none) (m x:Operand) (t:TypeId) (ho:o.op=.call { callee:=.builtin .delete,args:=#[m,x],argTypes:=#[t,3] }) {e:TypeId}
  (ht:Tryz.prog.underlying t=some (.map 3 e)) {b n:Nat} {z:Value} {f:Int->Value} {g:Int->Bool} (h:MH w b n z f g) (s:Int) (hm:a.eval m=.map (some b)) (hx:a.eval x=.int .i64 s) (h1:-9223372036854775808<=s) (h2:s<=9223372036854775807)
  (hK:∀ w',MH w' b n z (updV f s z) (fun x=>if x=s then false else g x)->w.grownBy w' (some b)->wpList Tryz.prog ops Q rest (a.put o.dst (.tuple #[])) w'):wpList Tryz.prog ops Q (o::rest) a w:=by
 refine wpList_plain hgd fun K' hK'=>?_
 obtain⟨w',hrun,r1,r2⟩:=h.del ht s h1 h2 o.type;unfold Oper.wp execOp;simp only[ho,resolve,invoke,builtin,Sem.run_bind,Sem.run_pure,Result.andThen_ok,List.map_toArray,List.map_cons,List.map_nil,hm,hx,hrun];exact hK' _ _ (hK w' r1 r2)
theorem place_some (V:Nat->Prop) (p d l k:Nat) (P:PK) (sv:Value) (m hand:Nat) (Q:Nat->Nat) (B:Nat->Value) (Us:Nat->Bool) (b0 fq:Nat) (v:Value) (u:Bool) (x:FrV) (i:Nat) (w:World) (h:PF w V p d l k P sv m hand Q B Us) (hi:i<P.frames.length) (hN:NewF w V b0 fq v u P x) (hk:k<=1000000000) :
  Calls Tryz.prog 92 #[.pointer (some ⟨p,0,none⟩),.pointer (some ⟨fq,0,none⟩),.pointer (some ⟨Q i,0,none⟩)] w fun e w'=>e=.returned (.tuple #[])/\PF w' (newV V b0 w') p d l (k+1) (P.setFr i x) sv m hand (upd Q i fq) (upd B i v) (upd Us i u)/\Trn V w w':=by
 obtain⟨a,cap,rfl,hle,hcp,h32,hcell⟩:=h.get;obtain⟨g,rfl,-⟩:=hcell 0 (by omega);have p0:w.cell? ⟨p,0,none⟩=some (.slice (some ⟨g,0,none⟩) P.frames.length cap):=cell_of_row _ _ 0 _ _ _ h.blk;have HIx:Hid (∀ W,W.heap=w.heap->Calls Tryz.prog 138 #[.slice (some ⟨g,0,none⟩) P.frames.length cap,.pointer (some ⟨Q i,0,none⟩)] W fun e w'=>e=.returned (.int .i64 i)/\w'=W):=φ fun W hW=>index_any g P.frames.length cap i Q W (fun j hj=>by
   obtain⟨g',eg,hc,-⟩:=hcell j hj
   cases eg
   exact (World.cell?_of_block (w:=w) (by rw[hW])).trans hc) (fun j hj=>⟨_,_,by rw[hW];exact (h.fr j hj).blk⟩) hi (fun j hj=>h.inj' (by omega) hi (by omega)) hle hcp h32
 obtain⟨g',eg,hci,hfi⟩:=hcell i hi
 cases eg
 have hpl:=ξ h.blk;have hfl:=ξ hN.blk;have hml:=h.lt m h.vm;have hilt:(i:Int)<(P.frames.length:Int):=by omega
 have hgt:∃ c,w.heap[g]? = some (.cells c 116 (0,0)):=own_tag h.srow rfl;have hgp:g≠p:=fun e=>by obtain⟨c,hc⟩:=hgt;subst e;exact tag_ne hc h.blk (by decide)
 have p0':(w.setCell ⟨g,i,none⟩ (.pointer (some ⟨fq,0,none⟩))).drew.cell? ⟨p,0,none⟩=some (.slice (some ⟨g,0,none⟩) P.frames.length cap):=(World.cell?_of_block (w:=w) (set_ne (fun e=>hgp e.symm))).trans p0;have H:=φ h;have HN:=φ hN;have HI:=φ hi;have HR2:Hid (x.page<=9223372036854775807/\-9223372036854775808<=x.page):=φ (by have:=hN.rng;have:=h.ok.fc;have:=h.ok.f1;omega);have HR3:Hid ((P.frames.getD i fr0).page<=9223372036854775807/\-9223372036854775808<=(P.frames.getD i fr0).page):=φ (by have:=h.ok.rng _ (getD_page_mem hi);have:=h.ok.fc;have:=h.ok.f1;omega);clear h hN hi hcell;obtain⟨n,hn⟩:∃ n,n=P.frames.length:=⟨_,rfl⟩
 rw[<- hn] at p0 p0' HIx hilt hle;have HNn:=φ hn;clear hn;go_enter Tryz.func92,Tryz.ntmps92;go_upto_region 2 with (fail);go_region_held3 (fun w'=>w'.cell? ⟨p,0,none⟩=some (.slice (some ⟨g,0,none⟩) n cap)) (first|go_keep|assumption) (first|(go_at_call 138;refine (HIx.out w.drew rfl).mono ?_;rintro e w1 ⟨rfl,hw1⟩;subst hw1));have hpm:m≠p:=fun e=>H.out.map.isMap (by rw[e];exact H.out.blk)
 have hgm:m≠g:=fun e=>by obtain⟨c,hc⟩:=hgt;rw[<- e] at hc;exact H.out.map.isMap hc
 have hfg:fq≠g:=fun e=>by obtain⟨c,hc⟩:=hgt;rw[<- e] at hc;exact tag_ne hc HN.out.blk (by decide)
 have hqg:Q i≠g:=fun e=>by obtain⟨c,hc⟩:=hgt;rw[<- e] at hc;exact tag_ne hc (H.out.fr i HI.out).blk (by decide)
 obtain⟨W3,hW3⟩:∃ W3,W3=(w.setCell ⟨g,i,none⟩ (.pointer (some ⟨fq,0,none⟩))).drew:=⟨_,rfl⟩
 have hK3:∀ b,b≠g->W3.heap[b]? = w.heap[b]?:=fun b hb=>by rw[hW3];exact set_ne hb
 have hs3:W3.heap.size=w.heap.size:=by rw[hW3];exact size_set _ _ _ _
 have hO3:W3.ownsRow 0 116 1 (.slice (some ⟨g,0,none⟩) P.frames.length cap) P.frames.length (((List.range P.frames.length).map fun j=>ptr (Q j)).set i (ptr fq)):=by
  rw[hW3];exact (H.out.srow.stored i (ptr fq)).1
 have hT3:Trn V w W3:=by
  rw[hW3];exact ((Trn.refl V w).set _ _ _ (.inl (H.out.vs g rfl))).drew
 rw[<- hW3];have c1:W3.cell? ⟨p,1,none⟩=some (.map (some m)):=cell_of_row _ _ 1 _ _ _ ((hK3 p (fun e=>hgp e.symm)).trans H.out.blk);have cx:W3.cell? ⟨fq,0,none⟩=some (.int .i64 x.page):=cell_of_row _ _ 0 _ _ _ ((hK3 fq hfg).trans HN.out.blk);have cq:W3.cell? ⟨Q i,0,none⟩=some (.int .i64 (P.frames.getD i fr0).page):=cell_of_row _ _ 0 _ _ _ ((hK3 (Q i) hqg).trans (H.out.fr i HI.out).blk);obtain⟨mk,f,ff,hmk,hMH,hPM⟩:=H.out.map.split;have HO3:=φ hO3;have HT3:=φ hT3;have HK3:=φ hK3;have HMH:=φ (hMH.block (w':=W3.drew) (hK3 m hgm));have HPM:=φ (hPM.swap H.out.ok.dis HN.out.new HI.out fq);have HGt:=φ hgt;clear hW3 hO3 hT3 hK3 hMH hPM p0' p0 hci hfi hgt;clear hilt hle;generalize hpgi:(P.frames.getD i fr0).page=pgi at *;clear hpgi;go_upto_region 3 with (fail);refine wp_region_still_tail 8 (by kernel_rfl) (by kernel_rfl) ?_;simp only[List.take_succ_cons,List.take_zero,List.drop_succ_cons,List.drop_zero];change wpStill _ _ (World.drew _) _ _ _
 iterate 8 still_step
 refine wpStill_nil ?_;refine wpList_del_mh rfl _ _ _ rfl Tryz.underlying85 HMH.out pgi rfl rfl HR3.out.2 HR3.out.1 ?_;intro w4 hm4 hg4;have hs4:W3.heap.size<=w4.heap.size:=hg4.size;have hK4:∀ b,b<W3.heap.size->b≠m->w4.heap[b]? = W3.heap[b]?:=fun b hb hne=>hg4.block b hb (fun e=>hne (by cases e;rfl))
 have d1:w4.cell? ⟨p,1,none⟩=some (.map (some m)):=(World.cell?_of_block (w:=W3) (hK4 p (by omega) (fun e=>hpm e.symm))).trans c1;have hfm:fq≠m:=fun e=>H.out.map.isMap (by rw[<- e];exact HN.out.blk)
 have dx:w4.cell? ⟨fq,0,none⟩=some (.int .i64 x.page):=(World.cell?_of_block (w:=W3) (hK4 fq (by omega) hfm)).trans cx;have HM4:=φ (hm4.block (w':=w4.drew) rfl);have HT4:=φ (HT3.out.drew.grown hg4 (fun j e=>by cases e;exact .inl H.out.vm));have HK4:=φ hK4;clear hm4 hg4 hK4 c1 cx cq;go_upto_region 4 with (fail);refine wp_region_still_tail 9 (by kernel_rfl) (by kernel_rfl) ?_;simp only[List.take_succ_cons,List.take_zero,List.drop_succ_cons,List.drop_zero];change wpStill _ _ (World.drew _) _ _ _
 iterate 9 still_step
 refine wpStill_nil ?_;refine wpList_put_mh rfl _ _ _ _ rfl Tryz.underlying85 HM4.out (by omega) x.page (ptr fq) rfl rfl rfl HR2.out.2 HR2.out.1 ?_;intro w5 hm5 hg5;have hs5:w4.heap.size<=w5.heap.size:=hg5.size;have hK5:∀ b,b<w.heap.size->b≠m->b≠g->w5.heap[b]? = w.heap[b]?:=fun b h1 h2 h3=>((hg5.block b (by show b<w4.heap.size;omega) (fun e=>h2 (by cases e;rfl))).trans (HK4.out b (by omega) h2)).trans (HK3.out b h3)
 have HR5:Hid (PF w5 (newV V b0 w5) p d l (k+1) (P.setFr i x) (.slice (some ⟨g,0,none⟩) P.frames.length cap) m hand (upd Q i fq) (upd B i v) (upd Us i u)):=φ (H.out.swap HI.out HN.out (ωK HO3.out fun b eb=>by
   cases eb
   have hgl:g<W3.heap.size:=by
    obtain⟨c,hc⟩:=HGt.out;have:=ξ hc;omega
   exact (hg5.block g (by show g<w4.heap.size;omega) (fun e=>hgm (by cases e;rfl))).trans (HK4.out g hgl (fun e=>hgm e.symm))) ⟨mk,_,_,hmk,hm5,HPM.out⟩ (fun b h1 h2 h3=>hK5 b h1 h2 (fun e=>h3 (by rw[e];rfl))) (by omega))
 have HT5:=φ (HT4.out.drew.grown hg5 (fun j e=>by cases e;exact .inl H.out.vm));clear hm5 hg5 hK5;go_wp2_with (fail);go_returns;exact⟨rfl,HR5.out,HT5.out⟩
end
end Go.Proofs.YtohlkkannjifmaaGreatDoor
