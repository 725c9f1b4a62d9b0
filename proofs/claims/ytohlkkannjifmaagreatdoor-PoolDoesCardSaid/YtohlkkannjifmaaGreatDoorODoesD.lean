import Derived.Test.YtohlkkannjifmaaGreatDoorODoesM
namespace Go.Proofs.YtohlkkannjifmaaGreatDoor
section
set_option maxHeartbeats 4000000
set_option maxRecDepth 100000
open Go.RowKit Go.Shelf
variable {i mb n:Nat} {Mr:Nat->Prop} {ds vs:Value} {w w':World}
theorem ModE.mc {V:Nat->List (List UInt8)} {X:List SlAt} {A:Nat->List VerAt} {Z:List RecAt} (h:ModE w Mr mb n V vs ds X A Z):w.cell? ⟨mb,0,none⟩=some vs/\w.cell? ⟨mb,1,none⟩=some ds:=by
 have hb:=h.blk;unfold modelObj at hb;exact⟨cell_of_row _ _ 0 _ _ _ hb,cell_of_row _ _ 1 _ _ _ hb⟩
theorem ModE.at_ {V:Nat->List (List UInt8)} {X:List SlAt} {A:Nat->List VerAt} {Z:List RecAt} (h:ModE w Mr mb n V vs ds X A Z) (hi:i<n) :
  ∃ vg vc,vs=.slice (some ⟨vg,0,none⟩) n vc/\n<=vc/\vc<=9223372036854775807/\vg<w.heap.size/\w.cell? ⟨vg,i,none⟩=some (slV (X.getD i default)):=by
 have hr:=h.vrow;obtain⟨a,c,rfl,hle,hmx,ha⟩:=hr.form;rw[h.xl] at *;obtain⟨vg,rfl⟩:=ha (by omega);obtain⟨-,-,-,-,hlt,hc⟩:=hr.cell;have hc2:=hc i hi 0 (by decide);refine⟨vg,c,rfl,hle,hmx,hlt,?_⟩;have e:slE.k=1:=rfl;rw[e,Nat.mul_one,Nat.add_zero] at hc2;exact hc2
theorem ModE.ver {V:Nat->List (List UInt8)} {X:List SlAt} {A:Nat->List VerAt} {Z:List RecAt} (h:ModE w Mr mb n V vs ds X A Z) (hi:i<n) (hV:0<(V i).length) :
  ∃ pg pc,slV (X.getD i default)=.slice (some ⟨pg,0,none⟩) (V i).length pc/\(V i).length<=pc/\pc<=9223372036854775807/\pg<w.heap.size/\∀ j,j<(V i).length->w.cell? ⟨pg,j,none⟩=some (.slice ((A i).getD j default).1 512 ((A i).getD j default).2):=by
 have hr:=h.prow i hi;have hl:=h.al i hi;obtain⟨a,c,hv,hle,hmx,ha⟩:=hr.form;rw[hl] at *;obtain⟨pg,rfl⟩:=ha hV;rw[hv] at hr;obtain⟨-,-,-,-,hlt,hc⟩:=hr.cell;refine⟨pg,c,hv,hle,hmx,hlt,fun j hj=>?_⟩;have hc2:=hc j hj 0 (by decide);have e:verE.k=1:=rfl;rw[e,Nat.mul_one,Nat.add_zero] at hc2;exact hc2
theorem now_any (w:World) (Mr:Nat->Prop) (mb n:Nat) (V:Nat->List (List UInt8)) (vs ds:Value) (X:List SlAt) (A:Nat->List VerAt) (Z:List RecAt) (h:ModE w Mr mb n V vs ds X A Z) (i:Nat) (hi:i<n) (_hn:n<=1000) (hV:0<(V i).length) (hV2:(V i).length<=1000000000) (b:List UInt8) (hb:(V i).getLast? = some b) :
  Calls Tryz.prog 33 #[.pointer (some ⟨mb,0,none⟩),.int .i64 (i:Int)] w fun e w'=>(∃ a c,e=.returned (.slice a 512 c)/\RB w.heap.size w a 512 c b/\∀ b' o s,a=some (⟨b',o,s⟩:Addr)->Mr b')/\∃ q,w'=w.drewN q:=by
 obtain⟨c0,-⟩:=h.mc;obtain⟨vg,vc,rfl,hvc,hvm,hvg,c1⟩:=h.at_ hi;obtain⟨pg,pc,hsl,hpc,hpm,hpg,cv⟩:=h.ver hi hV;rw[hsl] at c1;obtain⟨k,hk⟩:∃ k,(V i).length=k+1:=⟨(V i).length-1,by omega⟩
 have c2:=cv k (by omega);have HR:Hid (RB w.heap.size w ((A i).getD k default).1 512 ((A i).getD k default).2 b/\∀ b' o s,((A i).getD k default).1=some (⟨b',o,s⟩:Addr)->Mr b'):=φ ⟨by
  have:=h.byt i hi k (by omega);have e:(V i).getD k []=b:=by
   rw[List.getLast?_eq_getElem?,hk,Nat.add_sub_cancel] at hb;rw[List.getD_eq_getElem?_getD,hb];rfl
  rwa [e] at this,fun b' o s e=>h.bmr i hi k (by omega) b' o s e⟩
 generalize (A i).getD k default=x at c2 HR;obtain⟨xa,xc⟩:=x;dsimp only at c2 HR;rw[hk] at c1 hpc hV2;clear h hsl cv hb hV hk;go_enter Tryz.func33,Tryz.ntmps33;go_wp2_with (fail);go_quiet (fail);go_wp2_with (fail);go_ret;exact⟨⟨xa,xc,rfl,HR.out⟩,_,rfl⟩
theorem set_other (w:World) (g i:Nat) (v:Value) {k:Nat} (h:k≠g):(w.setCell ⟨g,i,none⟩ v).heap[k]? = w.heap[k]?:=Below.heap_setCell w ⟨g,i,none⟩ v k h
theorem set_size (w:World) (a:Addr) (v:Value):(w.setCell a v).heap.size=w.heap.size:=by simp[World.setCell]
theorem getD_left {α:Type} (X Y:List α) (d:α) (i:Nat) (h:i<X.length):(X++Y).getD i d=X.getD i d:=by
 rw[List.getD_eq_getElem?_getD,List.getElem?_append_left h,<- List.getD_eq_getElem?_getD]
theorem getD_last {α:Type} (X:List α) (y d:α) (i:Nat) (h:i=X.length):(X++[y]).getD i d=y:=by
 subst h;rw[List.getD_eq_getElem?_getD,List.getElem?_append_right (Nat.le_refl _)];simp
theorem ModE.push {V V':Nat->List (List UInt8)} {X:List SlAt} {A:Nat->List VerAt} {Z:List RecAt} {vg vc:Nat} (h:ModE w Mr mb n V (.slice (some ⟨vg,0,none⟩) n vc) ds X A Z) (hi:i<n) (y:VerAt) (b:List UInt8) (g c:Nat)
  (hV:V' i=V i++[b]) (hV':∀ j,j≠i->V' j=V j)
  (hrow:verE.Own 0 w' (.slice (some ⟨g,0,none⟩) ((A i).length+1) c) (A i++[y])) (hk:∀ k,k<w.heap.size->(slV (X.getD i default)).ownBlock≠some k->w'.heap[k]? = w.heap[k]?) (hs:w.heap.size<=w'.heap.size)
  (hg:(slV (X.getD i default)).ownBlock=some g∨w.heap.size<=g) (hy:RB w.heap.size w y.1 512 y.2 b)
  (hyM:∀ b' o s,y.1=some (⟨b',o,s⟩:Addr)->b' < w.heap.size/\b'≠mb/\b'≠vg/\ds.ownBlock≠some b'/\∀ j,j<n->(slV (X.getD j default)).ownBlock≠some b') :
  ModE (w'.setCell ⟨vg,i,none⟩ (.slice (some ⟨g,0,none⟩) ((A i).length+1) c)) (fun b'=>Mr b'∨∃ o s,y.1=some (⟨b',o,s⟩:Addr)) mb n V' (.slice (some ⟨vg,0,none⟩) n vc) ds (X.set i (some ⟨g,0,none⟩,(A i).length+1,c)) (fun j=>if j=i then A i++[y] else A j) Z:=by
 have hvr:=h.vrow;have hvlt:=(Tx.rows_ge hvr vg rfl).2;have rv:∀ j,j<n->(slV (X.getD j default)).ownBlock≠some vg:=fun j hj e=>own_apart (h.prow j hj) hvr (by decide) e rfl
 have rm:∀ j,j<n->(slV (X.getD j default)).ownBlock≠some mb:=fun j hj=>(h.prow j hj).ne_model (by decide) h.blk
 have rd:∀ j,j<n->∀ k,ds.ownBlock=some k->(slV (X.getD j default)).ownBlock≠some k:=fun j hj k e1 e2=>own_apart (h.prow j hj) h.drow (by decide) e2 e1
 have vm:vg≠mb:=fun e=>hvr.ne_model (by decide) h.blk (by rw[<- e];rfl)
 have vd:ds.ownBlock≠some vg:=fun e=>own_apart hvr h.drow (by decide) rfl e
 have K:∀ k,k<w.heap.size->k≠vg->(slV (X.getD i default)).ownBlock≠some k->(w'.setCell ⟨vg,i,none⟩ (.slice (some ⟨g,0,none⟩) ((A i).length+1) c)).heap[k]? = w.heap[k]?:=fun k k0 k1 k2=>(set_other w' vg i _ k1).trans (hk k k0 k2)
 have hgv:g≠vg:=fun e=>by
  rcases hg with h1|h1
  ·exact rv i hi (by rw[h1,e])
  ·omega
 have gl:∀ k,k<w.heap.size->(slV (X.getD i default)).ownBlock≠some k->g≠k:=fun k k0 k1 e=>by
  rcases hg with h1|h1
  ·exact k1 (by rw[h1,e])
  ·omega
 have sz:(w'.setCell ⟨vg,i,none⟩ (.slice (some ⟨g,0,none⟩) ((A i).length+1) c)).heap.size=w'.heap.size:=set_size _ _ _;have mlt:=ξ h.blk;have gi:(X.set i (some ⟨g,0,none⟩,(A i).length+1,c)).getD i default=(some ⟨g,0,none⟩,(A i).length+1,c):=by
  rw[List.getD_eq_getElem?_getD,List.getElem?_set_self (by rw[h.xl];exact hi)];rfl
 have gj:∀ j,j≠i->(X.set i (some ⟨g,0,none⟩,(A i).length+1,c)).getD j default=X.getD j default:=fun j hj=>by
  rw[List.getD_eq_getElem?_getD,List.getElem?_set_ne (by omega),<- List.getD_eq_getElem?_getD]
 refine⟨(K mb mlt (Ne.symm vm) (rm i hi)).trans h.blk,?_,by rw[List.length_set];exact h.xl,fun j hj=>?_,fun j hj=>?_,fun j hj q hq=>?_,fun j hj q hq b' o s e=>?_,?_,fun x hx=>⟨?_,(h.rec_ x hx).2⟩,fun x hx a b' o s ha e=>.inl (h.rmr x hx a b' o s ha e),fun k hk'=>?_,fun j q hj hq hne k e1 e2=>?_⟩
 ·refine Ek.Own.set1 (E:=slE) (Tx.rows_keep hvr fun k e=>?_) rfl i _ _ rfl;have e':vg=k:=Option.some.inj e;subst e';exact hk vg hvlt (rv i hi)
 ·by_cases hji:j=i
  ·subst hji;rw[gi];simp only[if_true];exact Tx.rows_keep hrow fun k e=>by
    have e':g=k:=Option.some.inj e;subst e';exact set_other w' vg j _ hgv
  ·rw[gj j hji,if_neg hji];refine Tx.rows_keep (h.prow j hj) fun k e=>K k (Tx.rows_ge (h.prow j hj) k e).2 (fun e2=>rv j hj (by rw[e,e2])) (fun e2=>h.dis j i hj hi hji k e e2)
 ·by_cases hji:j=i
  ·subst hji;simp only[if_true];rw[hV,List.length_append,List.length_append,h.al j hj];rfl
  ·rw[if_neg hji,hV' j hji];exact h.al j hj
 ·have keepR:∀ {a:Option Addr} {m c':Nat} {L:List UInt8},RB w.heap.size w a m c' L->(∀ b' o s,a=some (⟨b',o,s⟩:Addr)->b' < w.heap.size/\b'≠vg/\(slV (X.getD i default)).ownBlock≠some b')->RB (w'.setCell ⟨vg,i,none⟩ (.slice (some ⟨g,0,none⟩) ((A i).length+1) c)).heap.size (w'.setCell ⟨vg,i,none⟩ (.slice (some ⟨g,0,none⟩) ((A i).length+1) c)) a m c' L:=fun hr hh=>(hr.of_block fun b' o s e _ _=>K b' (hh b' o s e).1 (hh b' o s e).2.1 (hh b' o s e).2.2).mono (by rw[sz];exact hs)
  have old:∀ j q,j<n->q<(V j).length->RB (w'.setCell ⟨vg,i,none⟩ (.slice (some ⟨g,0,none⟩) ((A i).length+1) c)).heap.size (w'.setCell ⟨vg,i,none⟩ (.slice (some ⟨g,0,none⟩) ((A i).length+1) c)) ((A j).getD q default).1 512 ((A j).getD q default).2 ((V j).getD q []):=fun j q hj hq=>keepR (h.byt j hj q hq) fun b' o s e=>by
   have hm:=h.mr b' (h.bmr j hj q hq b' o s e);exact⟨hm.1,fun e2=>hm.2.2.1 (by rw[e2];rfl),hm.2.2.2.2 i hi⟩
  by_cases hji:j=i
  ·subst hji;simp only[if_true];rw[hV] at hq ⊢;rw[List.length_append,List.length_singleton] at hq;by_cases hql:q<(V j).length
   ·rw[getD_left _ _ _ _ (by rw[h.al j hj];exact hql),getD_left _ _ _ _ hql];exact old j q hj hql
   ·have hqe:q=(V j).length:=(by omega);subst hqe;rw[getD_last (V j) _ _ _ rfl,getD_last (A j) _ _ _ (h.al j hj).symm];exact keepR hy fun b' o s e=>⟨(hyM b' o s e).1,(hyM b' o s e).2.2.1,(hyM b' o s e).2.2.2.2 j hj⟩
  ·rw[if_neg hji,hV' j hji] at *;exact old j q hj hq
 ·by_cases hji:j=i
  ·subst hji;simp only[if_true] at e;rw[hV,List.length_append,List.length_singleton] at hq;by_cases hql:q<(V j).length
   ·rw[getD_left _ _ _ _ (by rw[h.al j hj];exact hql)] at e;exact .inl (h.bmr j hj q hql b' o s e)
   ·have hqe:q=(V j).length:=(by omega);subst hqe;rw[getD_last (A j) _ _ _ (h.al j hj).symm] at e;exact .inr ⟨o,s,e⟩
  ·rw[if_neg hji] at e;rw[hV' j hji] at hq;exact .inl (h.bmr j hj q hq b' o s e)
 ·exact Tx.rows_keep h.drow fun k e=>K k (Tx.rows_ge h.drow k e).2 (fun e2=>vd (by rw[e,e2])) (rd i hi k e)
 ·refine ((h.rec_ x hx).1.of_block fun a b' o s ha e=>?_).mono (by rw[sz];exact hs);have hm:=h.mr b' (h.rmr x hx a b' o s ha e);exact K b' hm.1 (fun e2=>hm.2.2.1 (by rw[e2];rfl)) (hm.2.2.2.2 i hi)
 ·have hq:k<w.heap.size/\k≠mb/\k≠vg/\ds.ownBlock≠some k/\∀ j,j<n->(slV (X.getD j default)).ownBlock≠some k:=by
   rcases hk' with h1|⟨o,s,e⟩
   ·obtain⟨m1,m2,m3,m4,m5⟩:=h.mr k h1;exact⟨m1,m2,fun e=>m3 (by rw[e];rfl),m4,m5⟩
   ·exact hyM k o s e
  refine⟨by rw[sz];omega,hq.2.1,fun e=>hq.2.2.1 (Option.some.inj e).symm,hq.2.2.2.1,fun j hj e=>?_⟩;by_cases hji:j=i
  ·subst hji;rw[gi] at e;exact gl k hq.1 (hq.2.2.2.2 j hj) (Option.some.inj e)
  ·rw[gj j hji] at e;exact hq.2.2.2.2 j hj e
 ·by_cases hji:j=i
  ·subst hji;rw[gi] at e1;have e1':g=k:=Option.some.inj e1;rw[gj q (Ne.symm hne)] at e2;subst e1';exact gl g (Tx.rows_ge (h.prow q hq) g e2).2 (fun e3=>h.dis j q hj hq hne g e3 e2) rfl
  ·rw[gj j hji] at e1;by_cases hqi:q=i
   ·subst hqi;rw[gi] at e2;have e2':g=k:=Option.some.inj e2;subst e2';exact gl g (Tx.rows_ge (h.prow j hj) g e1).2 (fun e3=>h.dis j q hj hq hne g e1 e3) rfl
   ·rw[gj q hqi] at e2;exact h.dis j q hj hq hne k e1 e2
theorem ModE.recd {V:Nat->List (List UInt8)} {X:List SlAt} {A:Nat->List VerAt} {Z:List RecAt} (h:ModE w Mr mb n V vs ds X A Z) (x:RecAt) (g m c:Nat)
  (hrow:recE.Own 0 w' (.slice (some ⟨g,0,none⟩) m c) (Z++[x])) (hk:∀ k,k<w.heap.size->ds.ownBlock≠some k->w'.heap[k]? = w.heap[k]?) (hs:w.heap.size<=w'.heap.size)
  (hg:ds.ownBlock=some g∨w.heap.size<=g) (hx:RecI w.heap.size w x.r x.ka x.oa x.na x.da x.pa x.kc x.oc x.nc x.dc x.pc) (hx2:x.r.key.length+x.r.old.length+x.r.new.length<=2000/\x.r.dirty.length+x.r.opn.length<=300)
  (hyM:∀ a b' o s,(a=x.ka∨a=x.oa∨a=x.na∨a=x.da∨a=x.pa)->a=some (⟨b',o,s⟩:Addr)->b' < w.heap.size/\b'≠mb/\vs.ownBlock≠some b'/\ds.ownBlock≠some b'/\∀ j,j<n->(slV (X.getD j default)).ownBlock≠some b') :
  ModE (w'.setCell ⟨mb,1,none⟩ (.slice (some ⟨g,0,none⟩) m c)) (fun b'=>Mr b'∨∃ a o s,(a=x.ka∨a=x.oa∨a=x.na∨a=x.da∨a=x.pa)/\a=some (⟨b',o,s⟩:Addr)) mb n V vs (.slice (some ⟨g,0,none⟩) m c) X A (Z++[x]):=by
 have rm:∀ j,j<n->(slV (X.getD j default)).ownBlock≠some mb:=fun j hj=>(h.prow j hj).ne_model (by decide) h.blk
 have rd:∀ j,j<n->∀ k,ds.ownBlock=some k->(slV (X.getD j default)).ownBlock≠some k:=fun j hj k e1 e2=>own_apart (h.prow j hj) h.drow (by decide) e2 e1
 have vm:vs.ownBlock≠some mb:=h.vrow.ne_model (by decide) h.blk;have dm:ds.ownBlock≠some mb:=h.drow.ne_model (by decide) h.blk;have vd:∀ k,ds.ownBlock=some k->vs.ownBlock≠some k:=fun k e1 e2=>own_apart h.vrow h.drow (by decide) e2 e1
 have mlt:=ξ h.blk;have K:∀ k,k<w.heap.size->k≠mb->ds.ownBlock≠some k->(w'.setCell ⟨mb,1,none⟩ (.slice (some ⟨g,0,none⟩) m c)).heap[k]? = w.heap[k]?:=fun k k0 k1 k2=>(set_other w' mb 1 _ k1).trans (hk k k0 k2)
 have gl:∀ k,k<w.heap.size->ds.ownBlock≠some k->g≠k:=fun k k0 k1 e=>by
  rcases hg with h1|h1
  ·exact k1 (by rw[h1,e])
  ·omega
 have sz:(w'.setCell ⟨mb,1,none⟩ (.slice (some ⟨g,0,none⟩) m c)).heap.size=w'.heap.size:=set_size _ _ _;have km:w'.heap[mb]? = some (modelObj vs ds):=(hk mb mlt dm).trans h.blk;unfold modelObj at km;refine⟨?_,Tx.rows_keep h.vrow fun k e=>K k (Tx.rows_ge h.vrow k e).2 (fun e2=>vm (by rw[e,e2])) (fun e2=>vd k e2 e),h.xl,fun j hj=>Tx.rows_keep (h.prow j hj) fun k e=>K k (Tx.rows_ge (h.prow j hj) k e).2 (fun e2=>rm j hj (by rw[e,e2])) (fun e2=>rd j hj k e2 e),h.al,fun j hj q hq=>?_,fun j hj q hq b' o s e=>.inl (h.bmr j hj q hq b' o s e),Tx.rows_keep hrow fun k e=>?_,fun z hz=>?_,fun z hz a b' o s ha e=>?_,fun k hk'=>?_,h.dis⟩
 ·exact Lib.heap_setCell_same (i:=1) km _
 ·refine ((h.byt j hj q hq).of_block fun b' o s e _ _=>?_).mono (by rw[sz];exact hs);have hm:=h.mr b' (h.bmr j hj q hq b' o s e);exact K b' hm.1 hm.2.1 hm.2.2.2.1
 ·have e':g=k:=Option.some.inj e;subst e';exact set_other w' mb 1 _ (gl mb mlt dm)
 ·rcases List.mem_append.1 hz with h1|h1
  ·refine⟨((h.rec_ z h1).1.of_block fun a b' o s ha e=>?_).mono (by rw[sz];exact hs),(h.rec_ z h1).2⟩;have hm:=h.mr b' (h.rmr z h1 a b' o s ha e);exact K b' hm.1 hm.2.1 hm.2.2.2.1
  ·rw[List.mem_singleton.1 h1];refine⟨(hx.of_block fun a b' o s ha e=>?_).mono (by rw[sz];exact hs),hx2⟩;have hm:=hyM a b' o s ha e;exact K b' hm.1 hm.2.1 hm.2.2.2.1
 ·rcases List.mem_append.1 hz with h1|h1
  ·exact .inl (h.rmr z h1 a b' o s ha e)
  ·rw[List.mem_singleton.1 h1] at ha;exact .inr ⟨a,o,s,ha,e⟩
 ·have hq:k<w.heap.size/\k≠mb/\vs.ownBlock≠some k/\ds.ownBlock≠some k/\∀ j,j<n->(slV (X.getD j default)).ownBlock≠some k:=by
   rcases hk' with h1|⟨a,o,s,ha,e⟩
   ·exact h.mr k h1
   ·exact hyM a k o s ha e
  exact⟨by rw[sz];omega,hq.2.1,hq.2.2.1,fun e=>gl k hq.1 hq.2.2.2.1 (Option.some.inj e),hq.2.2.2.2⟩
end
section
open Go.RowKit Go.Shelf
variable {K K' base d gb l mb n p rb:Nat} {x:RecAt} {w w':World}
structure StP where
 S:Nat->Prop
 D:DK
 L:LK
 P:PK
 c:Int->List UInt8
 V:Int->List (List UInt8)
structure MdP where
 Mr:Nat->Prop
 V:Int->List (List UInt8)
 vs:Value
 ds:Value
 X:List SlAt
 A:Nat->List VerAt
 Z:List RecAt
def MdP.T (m:MdP) (mb n:Nat) (g:Nat):Prop:=g=mb∨m.vs.ownBlock=some g∨m.ds.ownBlock=some g∨∃ i,i<n/\(slV (m.X.getD i default)).ownBlock=some g
def MdP.B (m:MdP) (mb n:Nat) (g:Nat):Prop:=ModB m.Mr mb n m.vs m.ds m.X g
theorem MdP.b_iff (m:MdP) (mb n g:Nat):m.B mb n g↔m.T mb n g∨m.Mr g:=by
 unfold MdP.B MdP.T ModB;constructor
 ·rintro (h|h|h|h|h)
  ·exact .inl (.inl h)
  ·exact .inl (.inr (.inl h))
  ·exact .inl (.inr (.inr (.inl h)))
  ·exact .inl (.inr (.inr (.inr h)))
  ·exact .inr h
 ·rintro ((h|h|h|h)|h)
  ·exact .inl h
  ·exact .inr (.inl h)
  ·exact .inr (.inr (.inl h))
  ·exact .inr (.inr (.inr (.inl h)))
  ·exact .inr (.inr (.inr (.inr h)))
structure DS (base:Nat) (w:World) (gb mb n K d l p:Nat) (s:StP) (m:MdP):Prop where
 rig:Rig s.S w d l p K s.D s.L s.P s.c
 cnt:s.P.count=n
 fst:s.P.first=40
 n1:1<=n/\n<=40
 std:Std s.V s.D s.L s.P
 mod:ModE w m.Mr mb n (fun i=>m.V i) m.vs m.ds m.X m.A m.Z
 gblk:w.heap[gb]? = some (rigObj d l p)
 s1:∀ g,s.S g->g≠gb/\¬ m.B mb n g
 s2:¬ m.B mb n gb
 lo:∀ g,(s.S g∨m.B mb n g∨g=gb)->base<=g
 bs:base<=w.heap.size
 vl:∀ i,(m.V i).length<=K
 zl:m.Z.length<=K
structure BxR (w:World) (gb mb n:Nat) (s:StP) (m:MdP) (rb:Nat) (x:RecAt):Prop where
 blk:w.heap[rb]? = some (recObj x.r x.ka x.oa x.na x.da x.pa x.kc x.oc x.nc x.dc x.pc)
 ri:RecI w.heap.size w x.r x.ka x.oa x.na x.da x.pa x.kc x.oc x.nc x.dc x.pc
 l1:x.r.key.length+x.r.old.length+x.r.new.length<=2000
 l2:x.r.dirty.length+x.r.opn.length<=300
 rs:¬ s.S rb/\¬ m.T mb n rb
 out:∀ a b o s',(a=x.ka∨a=x.oa∨a=x.na∨a=x.da∨a=x.pa)->a=some (⟨b,o,s'⟩:Addr)->¬ s.S b/\¬ m.T mb n b/\b<w.heap.size
theorem DS.lt {s:StP} {m:MdP} (h:DS base w gb mb n K d l p s m) {g:Nat} (hg:s.S g∨m.B mb n g∨g=gb):g<w.heap.size:=by
 rcases hg with h1|h1|rfl
 ·exact h.rig.lt g h1
 ·exact h.mod.lt h1
 ·exact ξ h.gblk
theorem DS.keep {s:StP} {m:MdP} (h:DS base w gb mb n K d l p s m) (hb:∀ g,(s.S g∨m.B mb n g∨g=gb)->w'.heap[g]? = w.heap[g]?) (hs:w.heap.size<=w'.heap.size):DS base w' gb mb n K d l p s m :=
 ⟨h.rig.keep (fun g hg=>hb g (.inl hg)) hs (Nat.le_refl _),h.cnt,h.fst,h.n1,h.std,h.mod.keep (fun g hg=>hb g (.inr (.inl hg))) hs,(hb gb (.inr (.inr rfl))).trans h.gblk,h.s1,h.s2,h.lo,Nat.le_trans h.bs hs,h.vl,h.zl⟩
theorem DS.below {s:StP} {m:MdP} (h:DS base w gb mb n K d l p s m) (hb:Below w.heap.size w w'):DS base w' gb mb n K d l p s m:=h.keep (fun g hg=>hb.block g (h.lt hg)) hb.size
theorem DS.drewN {s:StP} {m:MdP} (h:DS base w gb mb n K d l p s m) (q:Nat):DS base (w.drewN q) gb mb n K d l p s m:=h.keep (fun _ _=>rfl) (Nat.le_refl _)
theorem DS.drew {s:StP} {m:MdP} (h:DS base w gb mb n K d l p s m):DS base w.drew gb mb n K d l p s m:=h.keep (fun _ _=>rfl) (Nat.le_refl _)
theorem DS.mono {s:StP} {m:MdP} (h:DS base w gb mb n K d l p s m) (hK:K<=K'):DS base w gb mb n K' d l p s m :=
 ⟨h.rig.mono hK,h.cnt,h.fst,h.n1,h.std,h.mod,h.gblk,h.s1,h.s2,h.lo,h.bs,fun i=>Nat.le_trans (h.vl i) hK,Nat.le_trans h.zl hK⟩
theorem DS.cells {s:StP} {m:MdP} (h:DS base w gb mb n K d l p s m) :
  w.cell? ⟨gb,0,none⟩=some (.pointer (some ⟨d,0,none⟩))/\w.cell? ⟨gb,1,none⟩=some (.pointer (some ⟨l,0,none⟩))/\w.cell? ⟨gb,2,none⟩=some (.pointer (some ⟨p,0,none⟩))/\w.cell? ⟨mb,0,none⟩=some m.vs/\w.cell? ⟨mb,1,none⟩=some m.ds :=
 ⟨cell_of_row _ _ 0 _ _ _ h.gblk,cell_of_row _ _ 1 _ _ _ h.gblk,cell_of_row _ _ 2 _ _ _ h.gblk,h.mod.mc.1,h.mod.mc.2⟩
theorem BxR.keep {s s':StP} {m m':MdP} (h:BxR w gb mb n s m rb x) (hb:∀ g,g<w.heap.size->¬ s.S g->¬ m.T mb n g->w'.heap[g]? = w.heap[g]?) (hs:w.heap.size<=w'.heap.size) (hS:∀ g,g<w.heap.size->s'.S g->s.S g) (hT:∀ g,g<w.heap.size->m'.T mb n g->m.T mb n g):BxR w' gb mb n s' m' rb x:=by
 have hlt:=ξ h.blk;refine⟨(hb rb hlt h.rs.1 h.rs.2).trans h.blk,(h.ri.of_block fun a b o s' ha e=>?_).mono hs,h.l1,h.l2,⟨fun h1=>h.rs.1 (hS rb hlt h1),fun h1=>h.rs.2 (hT rb hlt h1)⟩,fun a b o s' ha e=>?_⟩
 ·have:=h.out a b o s' ha e;exact hb b this.2.2 this.1 this.2.1
 ·have:=h.out a b o s' ha e;exact⟨fun h1=>this.1 (hS b this.2.2 h1),fun h1=>this.2.1 (hT b this.2.2 h1),Nat.lt_of_lt_of_le this.2.2 hs⟩
theorem BxR.below {s:StP} {m:MdP} (h:BxR w gb mb n s m rb x) (hb:Below w.heap.size w w'):BxR w' gb mb n s m rb x:=h.keep (fun g hg _ _=>hb.block g hg) hb.size (fun _ _ h=>h) (fun _ _ h=>h)
theorem BxR.drew {s:StP} {m:MdP} (h:BxR w gb mb n s m rb x):BxR w.drew gb mb n s m rb x:=h.keep (fun _ _ _ _=>rfl) (Nat.le_refl _) (fun _ _ h=>h) (fun _ _ h=>h)
theorem BxR.mv {s s':StP} {m:MdP} (h:BxR w gb mb n s m rb x) (hm:Mv s.S s'.S w w'):BxR w' gb mb n s' m rb x :=
 h.keep (fun g hg hS _=>hm.trn.block g hg hS) hm.trn.size (fun g hg h1=>(hm.sub g h1).elim id (fun h2=>by omega)) (fun _ _ h=>h)
theorem DS.move {s s':StP} {m:MdP} (h:DS base w gb mb n K d l p s m) (hr:Rig s'.S w' d l p K' s'.D s'.L s'.P s'.c) (hm:Mv s.S s'.S w w') (hc:s'.P.count=s.P.count) (hf:s'.P.first=s.P.first) (hst:Std s'.V s'.D s'.L s'.P) (hK:K<=K'):DS base w' gb mb n K' d l p s' m:=by
 have hblk:∀ g,m.B mb n g∨g=gb->w'.heap[g]? = w.heap[g]?:=fun g hg=>hm.trn.block g (h.lt (.inr hg)) fun hS=>by
  rcases hg with h1|h1
  ·exact (h.s1 g hS).2 h1
  ·exact (h.s1 g hS).1 h1
 refine⟨hr,hc.trans h.cnt,hf.trans h.fst,h.n1,hst,h.mod.keep (fun g hg=>hblk g (.inl hg)) hm.trn.size,(hblk gb (.inr rfl)).trans h.gblk,fun g hg=>?_,h.s2,fun g hg=>?_,Nat.le_trans h.bs hm.trn.size,fun i=>Nat.le_trans (h.vl i) hK,Nat.le_trans h.zl hK⟩
 ·rcases hm.sub g hg with h1|h1
  ·exact h.s1 g h1
  ·exact⟨fun e=>by have:=h.lt (.inr (.inr e));omega,fun e=>by have:=h.lt (.inr (.inl e));omega⟩
 ·rcases hg with h1|h1
  ·rcases hm.sub g h1 with h2|h2
   ·exact h.lo g (.inl h2)
   ·exact Nat.le_trans h.bs h2
  ·exact h.lo g (.inr h1)
theorem DS.do_ {s:StP} {m:MdP} (h:DS base w gb mb n K d l p s m) (r:RecV) (ka oa na da pa:Option Addr) (kc oc nc dc pc:Nat) (hk:RB w.heap.size w ka r.key.length kc r.key) (ho:RB w.heap.size w oa r.old.length oc r.old) (hn:RB w.heap.size w na r.new.length nc r.new)
  (hout:∀ a b o s',(a=ka∨a=oa∨a=na)->a=some (⟨b,o,s'⟩:Addr)->¬ s.S b) (hl:r.lsn<=9223372036854775807) (hK:K<=700000000) :
  Calls Tryz.prog 12 #[.pointer (some ⟨p,0,none⟩),recV r ka oa na da pa kc oc nc dc pc] w fun e w'=>∃ s',e=.returned (.tuple #[.bool (doF r s.L n s.c).1,.int .i64 (doF r s.L n s.c).2.1]) /\
   DS base w' gb mb n (K+20000) d l p s' m/\s'.c=(doF r s.L n s.c).2.2/\s'.V=doV s.V r s.L n s.c/\CoreEq s'.L s.L/\s'.P.most=s.P.most/\Mv s.S s'.S w w':=by
 refine (h.rig.do_ w.heap.size r ka oa na da pa kc oc nc dc pc hk ho hn (Nat.le_refl _) hout hl hK).mono ?_;rintro e w' ⟨D',L',P',S',rfl,hr,hs,hx,hm⟩;have hst:=h.std.do_ h.rig.well h.rig.pg hl hx;rw[h.cnt] at *;exact⟨⟨S',D',L',P',_,_⟩,rfl,h.move hr hm (hs.count) hs.first hst (by omega),rfl,rfl,hs.core,hs.most,hm⟩
theorem DS.row {s:StP} {m:MdP} (h:DS base w gb mb n K d l p s m) {i:Nat} (hi:i<n) (hV:0<(m.V i).length) :
  ∃ vg vc pg pc,m.vs=.slice (some ⟨vg,0,none⟩) n vc/\n<=vc/\vc<=9223372036854775807/\vg<w.heap.size/\w.cell? ⟨vg,i,none⟩=some (.slice (some ⟨pg,0,none⟩) (m.A i).length pc)/\slV (m.X.getD i default)=.slice (some ⟨pg,0,none⟩) (m.A i).length pc/\(m.A i).length<=pc/\pc<=9223372036854775807/\verE.Own 0 w (.slice (some ⟨pg,0,none⟩) (m.A i).length pc) (m.A i)/\(m.A i).length<=K/\(m.A i).length=(m.V i).length:=by
 obtain⟨vg,vc,e1,e2,e3,e4,c1⟩:=h.mod.at_ hi;obtain⟨pg,pc,f1,f2,f3,f4,-⟩:=h.mod.ver hi hV;have hal:=h.mod.al i hi;have hr:=h.mod.prow i hi;rw[f1] at c1 hr;rw[<- hal] at f1 f2 c1 hr;exact⟨vg,vc,pg,pc,e1,e2,e3,e4,c1,f1,f2,f3,hr,by rw[hal];exact h.vl i,hal⟩
end
end Go.Proofs.YtohlkkannjifmaaGreatDoor
