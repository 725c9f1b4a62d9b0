import Derived.Test.YtohlkkannjifmaaGreatDoorODoesD
import Derived.OrdersHeld
import Derived.KernelRfl
import Derived.Deep.RegionHeld
namespace Go.Proofs.YtohlkkannjifmaaGreatDoor
section
open Go.RowKit Go.Shelf
variable {i:Int} {V:Int->List (List UInt8)} {m:MdP} {K base c9 d g9 gb l mb n p pc pg q rb vc vg:Nat} {o:Obj} {x:RecAt} {s:StP} {w w1 w9:World}
structure Ver (base:Nat) (w:World) (gb mb n:Nat) (s:StP) (m:MdP) (a:Option Addr) (c:Nat) (b:List UInt8):Prop where
 rb:RB w.heap.size w a 512 c b
 out:∀ b' o s',a=some (⟨b',o,s'⟩:Addr)->¬ s.S b'/\¬ m.B mb n b'/\b'≠gb/\base<=b'/\b' < w.heap.size
def TuG (base:Nat) (w:World) (gb mb n K d l p:Nat) (s:StP) (m:MdP) (rb:Nat) (x:RecAt) (y:Bool×Int×List UInt8) (e:Ending) (w':World):Prop :=
 ∃ a c,e=.returned (.tuple #[.slice a 512 c,.bool y.1,.int .i64 y.2.1])/\DS base w' gb mb n K d l p s m/\BxR w' gb mb n s m rb x/\Below w.heap.size w w'/\(y.1=true->Ver base w' gb mb n s m a c y.2.2)
theorem DS.turned (h:DS base w gb mb n K d l p s m) (hx:BxR w gb mb n s m rb x) (a:Option Addr) (c:Nat) (b:List UInt8) (hb:RB w.heap.size w a 512 c b) (at_:Int) :
  Calls Tryz.prog 128 #[.slice a 512 c,recV x.r x.ka x.oa x.na x.da x.pa x.kc x.oc x.nc x.dc x.pc,.int .i64 at_] w (TuG base w gb mb n K d l p s m rb x (doneF b x.r.lsn (recAct x.r at_))):=by
 refine (ldturned_any w.heap.size b a c x.r x.ka x.oa x.na x.da x.pa x.kc x.oc x.nc x.dc x.pc at_ w hb hx.ri.k hx.ri.o hx.ri.n (Nat.le_refl _) hx.ri.wf.lsn.2).mono ?_;rintro e w' ⟨a',c',rfl,hr,hbl,ho⟩;refine⟨a',c',rfl,h.below hbl,hx.below hbl,hbl,fun hy=>⟨hr,fun b' o s' e=>?_⟩⟩;have hge:=Tx.rows_ge (ho hy) b' (by rw[e];rfl);refine⟨fun h1=>?_,fun h1=>?_,fun h1=>?_,Nat.le_trans h.bs hge.1,hge.2⟩
 ·have:=h.lt (.inl h1);omega
 ·have:=h.lt (.inr (.inl h1));omega
 ·have:=h.lt (.inr (.inr h1));omega
theorem DS.now {cm:Int->List UInt8} (h:DS base w gb mb n K d l p s m) (hl:LastV m.V cm n) (hK:K<=100000000) (hi:0<=i/\i<n) :
  Calls Tryz.prog 33 #[.pointer (some ⟨mb,0,none⟩),.int .i64 i] w fun e w'=>(∃ a c,e=.returned (.slice a 512 c)/\RB w.heap.size w a 512 c (cm i))/\∃ q,w'=w.drewN q:=by
 have hg:=hl i hi.1 hi.2;obtain⟨k,rfl⟩:∃ k:Nat,(k:Int)=i:=⟨i.toNat,by omega⟩
 have hv:=h.vl (k:Int);have h0:0<(m.V (k:Int)).length:=by
  cases e:m.V (k:Int) with
  | nil=>rw[e] at hg;cases hg
  | cons z zs=>simp
 refine (now_any w m.Mr mb n (fun i=>m.V i) m.vs m.ds m.X m.A m.Z h.mod k (by omega) (by have:=h.n1;omega) h0 (by omega) (cm k) hg).mono ?_;rintro e w' ⟨⟨a,c,rfl,hr,-⟩,q,rfl⟩;exact⟨⟨a,c,rfl,hr⟩,q,rfl⟩
def addB (V:Int->List (List UInt8)) (i:Int) (b:List UInt8):Int->List (List UInt8):=fun j=>if j=i then V i++[b] else V j
theorem addB_at (V:Int->List (List UInt8)) (i:Int) (b:List UInt8):addB V i b i=V i++[b]:=if_pos rfl
theorem addB_ne {j:Int} (h:j≠i) (b:List UInt8):addB V i b j=V j:=if_neg h
theorem addV_did {y:Bool×Int×List UInt8} (h:y.1=true):addV V i y=addB V i y.2.2:=by
 funext j;unfold addV addB;by_cases hj:j=i
 ·subst hj;rw[if_pos ⟨h,rfl⟩,if_pos rfl]
 ·rw[if_neg (fun e=>hj e.2),if_neg hj]
theorem addV_not {y:Bool×Int×List UInt8} (h:y.1=false):addV V i y=V:=by
 funext j;unfold addV;rw[if_neg (fun e=>by rw[h] at e;cases e.1)]
theorem DS.push_cell (h:DS base w gb mb n K d l p s m) {i:Nat} (hvs:m.vs=.slice (some ⟨vg,0,none⟩) n vc) (hi:i<n) (hsl:slV (m.X.getD i default)=.slice (some ⟨pg,0,none⟩) q pc) (hg:(w.drew.alloc o).grownBy w9 (some pg)) :
  w9.frozen? ⟨vg,i,none⟩=false/\w9.cell? ⟨vg,i,none⟩=some (.slice (some ⟨pg,0,none⟩) q pc):=by
 have hvr:=h.mod.vrow;rw[hvs] at hvr;have hlt:=(Tx.rows_ge hvr vg rfl).2;have hne:vg≠pg:=fun e=>own_apart (h.mod.prow i hi) hvr (by decide) (by rw[hsl,<- e];rfl) rfl
 have hh:w9.heap[vg]? = w.heap[vg]?:=(hg.block vg (by show vg<(w.drew.heap.push o).size;rw[Array.size_push];exact Nat.lt_succ_of_lt hlt) (fun e=>hne (Option.some.inj e))).trans (heap_alloc_old w.drew o hlt);obtain⟨cur,hc⟩:=hvr.heap (g:=vg) rfl;obtain⟨vg',vc',e1,-,-,-,c1⟩:=h.mod.at_ hi;rw[hvs] at e1
 cases e1
 rw[hsl] at c1;refine⟨?_,(World.cell?_of_block (w:=w) hh).trans c1⟩;rw[hc] at hh;simp[World.frozen?,hh]
theorem DS.push (h:DS base w gb mb n K d l p s m) (hx:BxR w gb mb n s m rb x) {a:Option Addr} {c:Nat} {b:List UInt8} (hv:Ver base w gb mb n s m a c b) {i:Nat} (hvs:m.vs=.slice (some ⟨vg,0,none⟩) n vc) (hi:i<n) (hsl:slV (m.X.getD i default)=.slice (some ⟨pg,0,none⟩) (m.A i).length pc)
  (hown:verE.Own 0 w9 (.slice (some ⟨g9,0,none⟩) ((m.A i).length+1) c9) (m.A i++[(a,c)])) (hg:(w.drew.alloc o).grownBy w9 (some pg)) (hgg:some pg=some g9∨g9=(w.drew.alloc o).heap.size) :
  ∃ m',DS base (w9.setCell ⟨vg,i,none⟩ (.slice (some ⟨g9,0,none⟩) ((m.A i).length+1) c9)) gb mb n (K+1) d l p s m'/\BxR (w9.setCell ⟨vg,i,none⟩ (.slice (some ⟨g9,0,none⟩) ((m.A i).length+1) c9)) gb mb n s m' rb x/\m'.V=addB m.V i b/\Below base w (w9.setCell ⟨vg,i,none⟩ (.slice (some ⟨g9,0,none⟩) ((m.A i).length+1) c9)):=by
 have hvr:=h.mod.vrow;rw[hvs] at hvr;have hvlt:=(Tx.rows_ge hvr vg rfl).2;have hpo:(slV (m.X.getD i default)).ownBlock=some pg:=by rw[hsl];rfl
 have hplt:=(Tx.rows_ge (h.mod.prow i hi) pg hpo).2;have hsz:(w.drew.alloc o).heap.size=w.heap.size+1:=by show (w.heap.push o).size=_;rw[Array.size_push]
 have k9:∀ k,k<w.heap.size->k≠pg->w9.heap[k]? = w.heap[k]?:=fun k k0 k1=>(hg.block k (by rw[hsz];omega) (fun e=>k1 (Option.some.inj e))).trans (heap_alloc_old w.drew o k0)
 have s9:w.heap.size<=w9.heap.size:=by have:=hg.size;rw[hsz] at this;omega
 have Tv:m.B mb n vg:=.inr (.inl (by rw[hvs];rfl));have Tp:m.B mb n pg:=.inr (.inr (.inr (.inl ⟨i,hi,hpo⟩)));have hgg':pg=g9∨w.heap.size<=g9:=by
  rcases hgg with e|e
  ·exact .inl (Option.some.inj e)
  ·exact .inr (by rw[e,hsz];omega)
 have hm:=h.mod;rw[hvs] at hm;have hpush:=hm.push (w':=w9) (V':=fun j=>addB m.V i b j) hi (a,c) b g9 c9 (by show addB m.V i b i=_;rw[addB_at]) (fun j hj=>addB_ne (by omega) b) hown (fun k k0 k1=>k9 k k0 (fun e=>k1 (by rw[hpo,e]))) s9 (by
  rcases hgg' with e|e
  ·exact .inl (by rw[hpo,e])
  ·exact .inr e) hv.rb (fun b' o s' e=>by
  have ho:=hv.out b' o s' e;refine⟨ho.2.2.2.2,fun e2=>ho.2.1 (.inl e2),fun e2=>ho.2.1 (by rw[e2];exact Tv),fun e2=>ho.2.1 (.inr (.inr (.inl e2))),fun j hj e2=>ho.2.1 (.inr (.inr (.inr (.inl ⟨j,hj,e2⟩))))⟩)
 obtain⟨w10,hw⟩:∃ w10,w10=w9.setCell ⟨vg,i,none⟩ (.slice (some ⟨g9,0,none⟩) ((m.A i).length+1) c9):=⟨_,rfl⟩
 rw[<- hw] at hpush ⊢;have k10:∀ k,k<w.heap.size->k≠pg->k≠vg->w10.heap[k]? = w.heap[k]?:=fun k k0 k1 k2=>by rw[hw,set_other w9 vg i _ k2];exact k9 k k0 k1
 have s10:w.heap.size<=w10.heap.size:=by rw[hw,set_size];exact s9
 have gi:(m.X.set i (some ⟨g9,0,none⟩,(m.A i).length+1,c9)).getD i default=(some ⟨g9,0,none⟩,(m.A i).length+1,c9):=by
  rw[List.getD_eq_getElem?_getD,List.getElem?_set_self (by rw[hm.xl];exact hi)];rfl
 have gj:∀ j,j≠i->(m.X.set i (some ⟨g9,0,none⟩,(m.A i).length+1,c9)).getD j default=m.X.getD j default:=fun j hj=>by
  rw[List.getD_eq_getElem?_getD,List.getElem?_set_ne (by omega),<- List.getD_eq_getElem?_getD]
 obtain⟨m',hm'⟩:∃ m':MdP,m'=⟨fun b'=>m.Mr b'∨∃ o s,a=some (⟨b',o,s⟩:Addr),addB m.V i b,.slice (some ⟨vg,0,none⟩) n vc,m.ds,m.X.set i (some ⟨g9,0,none⟩,(m.A i).length+1,c9),fun j=>if j=i then m.A i++[(a,c)] else m.A j,m.Z⟩:=⟨_,rfl⟩
 have hT:∀ g,m'.T mb n g->m.T mb n g∨w.heap.size<=g:=fun g hgT=>by
  rw[hm'] at hgT;rcases hgT with h1|h1|h1|⟨j,hj,h1⟩
  ·exact .inl (.inl h1)
  ·exact .inl (.inr (.inl (by rw[hvs];exact h1)))
  ·exact .inl (.inr (.inr (.inl h1)))
  ·by_cases hji:j=i
   ·subst hji;dsimp only at h1;rw[gi] at h1;have e:g9=g:=Option.some.inj h1;rcases hgg' with e2|e2
    ·exact .inl (.inr (.inr (.inr ⟨j,hj,by rw[hpo,e2,e]⟩)))
    ·exact .inr (by omega)
   ·dsimp only at h1;rw[gj j hji] at h1;exact .inl (.inr (.inr (.inr ⟨j,hj,h1⟩)))
 have hB:∀ g,m'.B mb n g->m.B mb n g∨w.heap.size<=g∨∃ o s,a=some (⟨g,o,s⟩:Addr):=fun g hgB=>by
  rcases (m'.b_iff mb n g).1 hgB with h1|h1
  ·rcases hT g h1 with h2|h2
   ·exact .inl ((m.b_iff mb n g).2 (.inl h2))
   ·exact .inr (.inl h2)
  ·rw[hm'] at h1;rcases h1 with h2|h2
   ·exact .inl ((m.b_iff mb n g).2 (.inr h2))
   ·exact .inr (.inr h2)
 have nS:∀ g,s.S g->g≠pg/\g≠vg:=fun g hS=>⟨fun e=>(h.s1 g hS).2 (by rw[e];exact Tp),fun e=>(h.s1 g hS).2 (by rw[e];exact Tv)⟩
 have hgb:=h.lt (.inr (.inr (rfl:gb=gb)));have hgbne:gb≠pg/\gb≠vg:=⟨fun e=>h.s2 (by rw[e];exact Tp),fun e=>h.s2 (by rw[e];exact Tv)⟩
 refine⟨m',⟨h.rig.keep (fun g hS=>k10 g (h.rig.lt g hS) (nS g hS).1 (nS g hS).2) s10 (by omega),h.cnt,h.fst,h.n1,h.std,?_,(k10 gb hgb hgbne.1 hgbne.2).trans h.gblk,fun g hS=>⟨(h.s1 g hS).1,fun hb'=>?_⟩,fun hb'=>?_,fun g hg'=>?_,Nat.le_trans h.bs s10,fun j=>?_,?_⟩,?_,?_,?_⟩
 ·rw[hm'];exact hpush
 ·rcases hB g hb' with h1|h1|⟨o',s',e⟩
  ·exact (h.s1 g hS).2 h1
  ·have:=h.rig.lt g hS;omega
  ·exact (hv.out g o' s' e).1 hS
 ·rcases hB gb hb' with h1|h1|⟨o',s',e⟩
  ·exact h.s2 h1
  ·omega
  ·exact (hv.out gb o' s' e).2.2.1 rfl
 ·rcases hg' with h1|h1|h1
  ·exact h.lo g (.inl h1)
  ·rcases hB g h1 with h2|h2|⟨o',s',e⟩
   ·exact h.lo g (.inr (.inl h2))
   ·exact Nat.le_trans h.bs h2
   ·exact (hv.out g o' s' e).2.2.2.1
  ·exact h.lo g (.inr (.inr h1))
 ·rw[hm'];show (addB m.V i b j).length<=K+1;unfold addB;split
  ·rw[List.length_append];have:=h.vl (i:Int);simp;omega
  ·have:=h.vl j;omega
 ·rw[hm'];have:=h.zl;show m.Z.length<=K+1;omega
 ·have np:∀ g,¬ m.T mb n g->g≠pg/\g≠vg:=fun g hT'=>⟨fun e=>hT' (.inr (.inr (.inr ⟨i,hi,by rw[hpo,e]⟩))),fun e=>hT' (.inr (.inl (by rw[hvs,e];rfl)))⟩
  exact hx.keep (fun g g0 _ g2=>k10 g g0 (np g g2).1 (np g g2).2) s10 (fun _ _ h=>h) (fun g g0 g1=>(hT g g1).elim id (fun h2=>by omega))
 ·rw[hm']
 ·have lp:=h.lo pg (.inr (.inl Tp));have lv:=h.lo vg (.inr (.inl Tv));refine⟨?_,?_,?_,s10,fun k hk=>k10 k (by have:=h.bs;omega) (by omega) (by omega)⟩
  ·rw[hw];exact hg.os
  ·rw[hw];exact hg.tape
  ·rw[hw];exact hg.output
theorem DS.recd_cell (h:DS base w gb mb n K d l p s m) (h1:Below w.heap.size w w1) (hg:(w1.alloc o).grownBy w9 m.ds.ownBlock) :
  w9.frozen? ⟨mb,1,none⟩=false/\∃ v,w9.cell? ⟨mb,1,none⟩=some v:=by
 have hmb:=ξ h.mod.blk;have hh:w9.heap[mb]? = w.heap[mb]?:=(hg.block mb (by show mb<(w1.heap.push o).size;rw[Array.size_push];have:=h1.size;omega) (fun e=>h.mod.drow.ne_model (by decide) h.mod.blk e.symm)).trans ((heap_alloc_old w1 o (Nat.lt_of_lt_of_le hmb h1.size)).trans (h1.block mb hmb));refine⟨?_,_,(World.cell?_of_block (w:=w) hh).trans h.mod.mc.2⟩;have hb:=h.mod.blk;unfold modelObj at hb;rw[hb] at hh;simp[World.frozen?,hh]
theorem DS.recd (h:DS base w gb mb n K d l p s m) (z:RecAt) (h1:Below w.heap.size w w1) (hz:RecI w1.heap.size w1 z.r z.ka z.oa z.na z.da z.pa z.kc z.oc z.nc z.dc z.pc) (hz2:z.r.key.length+z.r.old.length+z.r.new.length<=2000/\z.r.dirty.length+z.r.opn.length<=300)
  (hzo:∀ a b o s',(a=z.ka∨a=z.oa∨a=z.na∨a=z.da∨a=z.pa)->a=some (⟨b,o,s'⟩:Addr)->w.heap.size<=b/\b<w1.heap.size) (_hq:q=m.Z.length+1)
  (hown:recE.Own 0 w9 (.slice (some ⟨g9,0,none⟩) q c9) (m.Z++[z])) (hg:(w1.alloc o).grownBy w9 m.ds.ownBlock) (hgg:m.ds.ownBlock=some g9∨g9=(w1.alloc o).heap.size) :
  ∃ m',DS base (w9.setCell ⟨mb,1,none⟩ (.slice (some ⟨g9,0,none⟩) q c9)) gb mb n (K+1) d l p s m'/\m'.V=m.V/\Below base w (w9.setCell ⟨mb,1,none⟩ (.slice (some ⟨g9,0,none⟩) q c9)):=by
 have hd1:=h.below h1;have hsz:(w1.alloc o).heap.size=w1.heap.size+1:=by show (w1.heap.push o).size=_;rw[Array.size_push]
 have k9:∀ k,k<w1.heap.size->m.ds.ownBlock≠some k->w9.heap[k]? = w1.heap[k]?:=fun k k0 k1=>(hg.block k (by rw[hsz];omega) (fun e=>k1 e.symm)).trans (heap_alloc_old w1 o k0)
 have s9:w1.heap.size<=w9.heap.size:=by have:=hg.size;rw[hsz] at this;omega
 have s1:=h1.size;have Tm:m.B mb n mb:=.inl rfl;have hzM:∀ a b o s',(a=z.ka∨a=z.oa∨a=z.na∨a=z.da∨a=z.pa)->a=some (⟨b,o,s'⟩:Addr)->¬ s.S b/\¬ m.B mb n b/\b≠gb/\base<=b:=fun a b o s' ha e=>by
  have:=hzo a b o s' ha e;have hb:=h.bs;exact⟨fun hS=>by have:=h.lt (.inl hS);omega,fun hS=>by have:=h.lt (.inr (.inl hS));omega,fun hS=>by have:=h.lt (.inr (.inr hS));omega,by omega⟩
 have hrec:=hd1.mod.recd (w':=w9) z g9 q c9 hown k9 s9 (by
  rcases hgg with e|e
  ·exact .inl e
  ·exact .inr (by rw[e,hsz];omega)) hz hz2 (fun a b o s' ha e=>by
  have h2:=hzo a b o s' ha e;have h3:=hzM a b o s' ha e;exact⟨h2.2,fun e2=>h3.2.1 (.inl e2),fun e2=>h3.2.1 (.inr (.inl e2)),fun e2=>h3.2.1 (.inr (.inr (.inl e2))),fun j hj e2=>h3.2.1 (.inr (.inr (.inr (.inl ⟨j,hj,e2⟩))))⟩)
 obtain⟨w10,hw⟩:∃ w10,w10=w9.setCell ⟨mb,1,none⟩ (.slice (some ⟨g9,0,none⟩) q c9):=⟨_,rfl⟩
 rw[<- hw] at hrec ⊢;have k10:∀ k,k<w.heap.size->k≠mb->m.ds.ownBlock≠some k->w10.heap[k]? = w.heap[k]?:=fun k k0 k1 k2=>by rw[hw,set_other w9 mb 1 _ k1,k9 k (by omega) k2];exact h1.block k k0
 have s10:w.heap.size<=w10.heap.size:=by rw[hw,set_size];omega
 obtain⟨m',hm'⟩:∃ m':MdP,m'=⟨fun b'=>m.Mr b'∨∃ a o s,(a=z.ka∨a=z.oa∨a=z.na∨a=z.da∨a=z.pa)/\a=some (⟨b',o,s⟩:Addr),m.V,m.vs,.slice (some ⟨g9,0,none⟩) q c9,m.X,m.A,m.Z++[z]⟩:=⟨_,rfl⟩
 have hB:∀ g,m'.B mb n g->m.B mb n g∨w.heap.size<=g:=fun g hgB=>by
  rw[hm'] at hgB;rcases hgB with h2|h2|h2|h2|h2
  ·exact .inl (.inl h2)
  ·exact .inl (.inr (.inl h2))
  ·have e:g9=g:=Option.some.inj h2;rcases hgg with e2|e2
   ·exact .inl (.inr (.inr (.inl (by rw[e2,e]))))
   ·exact .inr (by rw[<- e,e2,hsz];omega)
  ·exact .inl (.inr (.inr (.inr (.inl h2))))
  ·rcases h2 with h2|⟨a,o',s',ha,e⟩
   ·exact .inl (.inr (.inr (.inr (.inr h2))))
   ·exact .inr (hzo a g o' s' ha e).1
 have nS:∀ g,s.S g->g≠mb/\m.ds.ownBlock≠some g:=fun g hS=>⟨fun e=>(h.s1 g hS).2 (by rw[e];exact Tm),fun e=>(h.s1 g hS).2 (.inr (.inr (.inl e)))⟩
 have hgb:=h.lt (.inr (.inr (rfl:gb=gb)));refine⟨m',⟨h.rig.keep (fun g hS=>k10 g (h.rig.lt g hS) (nS g hS).1 (nS g hS).2) s10 (by omega),h.cnt,h.fst,h.n1,h.std,?_,(k10 gb hgb (fun e=>h.s2 (by rw[e];exact Tm)) (fun e=>h.s2 (.inr (.inr (.inl e))))).trans h.gblk,fun g hS=>⟨(h.s1 g hS).1,fun hb'=>?_⟩,fun hb'=>?_,fun g hg'=>?_,Nat.le_trans h.bs s10,fun j=>?_,?_⟩,?_,?_⟩
 ·rw[hm'];exact hrec
 ·rcases hB g hb' with h2|h2
  ·exact (h.s1 g hS).2 h2
  ·have:=h.rig.lt g hS;omega
 ·rcases hB gb hb' with h2|h2
  ·exact h.s2 h2
  ·omega
 ·rcases hg' with h2|h2|h2
  ·exact h.lo g (.inl h2)
  ·rcases hB g h2 with h3|h3
   ·exact h.lo g (.inr (.inl h3))
   ·exact Nat.le_trans h.bs h3
  ·exact h.lo g (.inr (.inr h2))
 ·rw[hm'];have:=h.vl j;show (m.V j).length<=K+1;omega
 ·rw[hm'];have:=h.zl;show (m.Z++[z]).length<=K+1;rw[List.length_append];simp;omega
 ·rw[hm']
 ·have lm:=h.lo mb (.inr (.inl Tm));have ld:∀ k,m.ds.ownBlock=some k->base<=k:=fun k e=>h.lo k (.inr (.inl (.inr (.inr (.inl e)))))
  have hbs:=h.bs;refine⟨?_,?_,?_,s10,fun k hk=>k10 k (by omega) (by omega) (fun e=>by have:=ld k e;omega)⟩
  ·rw[hw];exact hg.os.trans h1.os
  ·rw[hw];exact hg.tape.trans h1.tape
  ·rw[hw];exact hg.output.trans h1.output
end
section
open Go
section
variable {P:Program} {ops:Array Oper} {Q:Exit->Act->World->Prop} {S:World->Prop} {md:Region.Mode} {n:Nat}
def AnyL (P:Program) (md:Region.Mode) (ops:Array Oper) (Q:Exit->Act->World->Prop) (S:World->Prop) (n:Nat):Nat->Array Bool->Act->World->Prop
 | 0,m,a,w=>Region.ready md ops m=[]/\Q .normal a w
 | f+1,m,a,w=>(Region.ready md ops m=[]->Q .normal a w)/\∀ j∈Region.ready md ops m,wpOp P ops Q j (fun b v=>(j≠n->S v)/\AnyL P md ops Q S n f (m.setIfInBounds j true) b v) a w
theorem AnyL.any:∀ (f:Nat) (m:Array Bool) (a:Act) (w:World),AnyL P md ops Q S n f m a w->wpAny P md ops Q f m a w
 | 0,_,_,_,h=>h
 | f+1,_,_,_,h=>⟨h.1,fun j hj=>wpOp_mono (fun _ _ k=>AnyL.any f _ _ _ k.2) (h.2 j hj)⟩
def waitsB (md:Region.Mode) (ops:Array Oper) (n i:Nat):Bool :=
 match ops[n]? with
 | some o=>o.after.any fun e=>Region.binds md e && decide (e.on=i)
 | none=>false
theorem waitsB_spec {i:Nat} {o:Oper} (h:waitsB md ops n i=true) (ho:ops[n]? = some o):∃ e∈o.after,Region.binds md e=true/\e.on=i:=by
 unfold waitsB at h;rw[ho] at h;rw[Array.any_eq_true] at h;obtain⟨k,hk,hb⟩:=h;simp only[Bool.and_eq_true,decide_eq_true_eq] at hb;exact⟨o.after[k],Array.getElem_mem hk,hb.1,hb.2⟩
theorem AnyL.first {i:Nat} {oi:Oper} {v:Value} (hi:ops[i]? = some oi) (hsel:∀ (j:Nat) (o:Oper) cs b,ops[j]? = some o->o.op≠.select cs b)
  (hQ:∀ c a w,Q (.panic c) (a.put oi.dst v) w->Q (.panic c) a w) (hne:i≠n) (hw:waitsB md ops n i=true) :
  ∀ (f:Nat) (m:Array Bool) (a:Act) (w:World),(∀ j oj,ops[j]? = some oj->j≠i->m.getD j true=false->(∀ e∈oj.after,Region.binds md e=true->e.on≠i)->oi.apart ops oj=true) ->
   i∈Region.ready md ops m->YieldsIf P ops S oi v a->S w->AnyL P md ops Q S n f (m.setIfInBounds i true) (a.put oi.dst v) w->AnyL P md ops Q S n (f+1) m a w
 | 0,m,a,w,_,hr,hy,hS,H=>by
  refine⟨fun h=>absurd hr (by rw[h];simp),fun j hj=>?_⟩;rcases Decidable.em (j=i) with rfl|hji
  ·exact hy.wpOp hi hS ⟨fun _=>hS,H⟩
  ·exact absurd (ready_mono hj hji) (by rw[H.1];simp)
 | f+1,m,a,w,hfree,hr,hy,hS,H=>by
  refine⟨fun h=>absurd hr (by rw[h];simp),fun j hj=>?_⟩;rcases Decidable.em (j=i) with rfl|hji
  ·exact hy.wpOp hi hS ⟨fun _=>hS,H⟩
  ·obtain⟨hjun,oj,hoj,hall⟩:=mem_ready.1 hj;have hun:m.getD i false=false:=by
    have h0:=(mem_ready.1 hr).1;rcases Nat.lt_or_ge i m.size with h' | h'
    ·simp only[Array.getD,h',dif_pos] at h0 ⊢;exact h0
    ·simp only[Array.getD,Nat.not_lt.2 h',dif_neg,not_false_eq_true]
   have hnot:∀ e∈oj.after,Region.binds md e=true->e.on≠i:=fun e he hb heq=>by
    have h1:=hall e he hb;rw[heq,hun] at h1
    cases h1
   have hjn:j≠n:=fun e=>by
    subst e;obtain⟨e,he,hb,heq⟩:=waitsB_spec hw hoj;exact hnot e he hb heq
   refine wpOp_mono (fun b v' k=>?_) (wpOp_putIf hoj (hfree j oj hoj hji hjun hnot) (fun cs b=>hsel i oi cs b hi) (fun cs b=>hsel j oj cs b hoj) hQ hy (H.2 j (ready_mono hj hji)));have hSv:=k.2.1 hjn;refine⟨fun _=>hSv,AnyL.first hi hsel hQ hne hw f _ b v' (fun q oq hq hqi hqu hqn=>hfree q oq hq hqi ?_ hqn) (ready_mono hr (Ne.symm hji)) k.1 hSv ?_⟩
   ·rcases Decidable.em (j=q) with rfl|hjq
    ·exact hjun
    ·rw[getD_set_ne true hjq] at hqu;exact hqu
   ·rw[Array.setIfInBounds_comm _ _ hji];exact k.2.2
theorem AnyL.take {i:Nat} {oi:Oper} {v:Value} {f:Nat} {m:Array Bool} {a:Act} {w:World} (hi:ops[i]? = some oi) (hs:Region.noSelect ops=true) (hf:Region.free md ops m i=true) (hr:(Region.ready md ops m).contains i=true) (hne:decide (i=n)=false) (hw:waitsB md ops n i=true)
  (hQ:∀ c a w,Q (.panic c) (a.put oi.dst v) w->Q (.panic c) a w) (hS:S w) (hwt:Region.wanted oi (yielded ops a.tmps)=true) (hy:∀ w,S w->(execOp a.eval oi).run P w=.ok (.value v) w)
  (h:AnyL P md ops Q S n f (m.setIfInBounds i true) (a.put oi.dst v) w):AnyL P md ops Q S n (f+1) m a w :=
 AnyL.first hi (Region.noSelect_spec hs) hQ (of_decide_eq_false hne) hw f m a w (Region.free_spec hi hf) (by simpa using hr) (.inl ⟨hwt,hy⟩) hS h
theorem AnyL.tk {i:Nat} {oi:Oper} {v:Value} {f:Nat} {m:Array Bool} {a:Act} {w:World} (hi:ops[i]? = some oi) (hS:S w) (hy:∀ w,S w->(execOp a.eval oi).run P w=.ok (.value v) w)
  (h:AnyL P md ops Q S n f (m.setIfInBounds i true) (a.put oi.dst v) w) (hs:Region.noSelect ops=true:=by kernel_rfl) (hf:Region.free md ops m i=true:=by kernel_rfl) (hr:(Region.ready md ops m).contains i=true:=by kernel_rfl) (hne:decide (i=n)=false:=by decide) (hw:waitsB md ops n i=true:=by kernel_rfl)
  (hQ:∀ c a w,Q (.panic c) (a.put oi.dst v) w->Q (.panic c) a w:=by exact fun _ _ _ h=>h) (hwt:Region.wanted oi (yielded ops a.tmps)=true:=by rfl):AnyL P md ops Q S n (f+1) m a w :=
 AnyL.take hi hs hf hr hne hw hQ hS hwt hy h
theorem AnyL.one {i:Nat} {o:Oper} {f:Nat} {m:Array Bool} {a:Act} {w:World} (hr:Region.ready md ops m=[i]) (ho:ops[i]? = some o)
  (h:∀ K:Act->World->Prop,Shut (∀ b v,(i≠n->S v)->((i≠n->S v)->AnyL P md ops Q S n f (m.setIfInBounds i true) b v)->K b v)->if Region.wanted o (yielded ops a.tmps)=true then Oper.wp P o a w K Q else K (a.put o.dst undef) w):AnyL P md ops Q S n (f+1) m a w :=
 ⟨fun h0=>absurd (hr.symm.trans h0) (by simp),fun j hj=>by
  rw[hr,List.mem_singleton] at hj;subst hj;exact wpOp_step ho (fun K hK=>h K fun b v h1 h2=>hK b v ⟨h1,h2 h1⟩)⟩
theorem AnyL.done {m:Array Bool} {a:Act} {w:World} (hr:Region.ready md ops m=[]) (h:Q .normal a w):AnyL P md ops Q S n 0 m a w:=⟨hr,h⟩
theorem AnyL.start {id:Nat} {a:Act} {w:World} (n:Nat) (S:World->Prop) (hm:P.follows .mixedOrders=true) (h:AnyL P .any ops Q S n ops.size (Array.replicate ops.size false) a w.drew):(Code.region id ops true).wp P Q a w :=
 wp_region_any hm (AnyL.any _ _ _ _ h)
end
end
section
open Go.RowKit Go.Shelf
variable {V:Int->List (List UInt8)} {c:Int->List UInt8} {L:LK} {m m':MdP} {K K' base bi d d0 d1 d2 d3 d4 g0 g1 g2 g3 g4 gb hi i l lo mb n p rb vg:Nat} {o:Obj} {x:RecAt} {r:RecV} {s s':StP} {w w' w9:World}
structure Lnd (w:World) (lo hi bi:Nat) (s:StP) (m:MdP) (gb mb n:Nat) (r:RecV) (g0 g1 g2 g3 g4 d0 d1 d2 d3 d4:Nat):Prop where
 l:LRec lo w r g0 g1 g2 g3 g4 d0 d1 d2 d3 d4
 blk:w.heap[bi]? = some (recObj r (some ⟨g0,0,none⟩) (some ⟨g1,0,none⟩) (some ⟨g2,0,none⟩) (some ⟨g3,0,none⟩) (some ⟨g4,0,none⟩) d0 d1 d2 d3 d4)
 bi:lo<=bi/\bi<hi
 g4:g4<hi
 le:hi<=w.heap.size
 s:∀ g,s.S g->g<lo∨hi<=g
 b:∀ g,m.B mb n g∨g=gb->g<lo
theorem Lnd.keep (h:Lnd w lo hi bi s m gb mb n r g0 g1 g2 g3 g4 d0 d1 d2 d3 d4) {T:Nat->Prop} (ht:Trn T w w') (hT:∀ g,T g->g<lo∨hi<=g) (hS:∀ g,s'.S g->g<lo∨hi<=g):Lnd w' lo hi bi s' m gb mb n r g0 g1 g2 g3 g4 d0 d1 d2 d3 d4 :=
 ⟨h.l.mv ht fun g hg=>by have:=hT g hg;have:=h.g4;omega,(ht.block bi (by have:=h.bi;have:=h.le;omega) (fun e=>by have:=hT bi e;have:=h.bi;omega)).trans h.blk,h.bi,h.g4,Nat.le_trans h.le ht.size,hS,h.b⟩
theorem Lnd.below (h:Lnd w lo hi bi s m gb mb n r g0 g1 g2 g3 g4 d0 d1 d2 d3 d4) (hb:Below w.heap.size w w'):Lnd w' lo hi bi s m gb mb n r g0 g1 g2 g3 g4 d0 d1 d2 d3 d4 :=
 h.keep (T:=fun _=>False) ⟨hb.os,hb.tape,hb.output,hb.size,fun k hk _=>hb.block k hk⟩ (fun _ h=>h.elim) h.s
theorem lnd_new {w2:World} (h:DS base w gb mb n K d l p s m) (hl:LRec w.heap.size w2 r g0 g1 g2 g3 g4 d0 d1 d2 d3 d4) (hb:Below w.heap.size w w2) :
  Lnd (w2.alloc (recObj r (some ⟨g0,0,none⟩) (some ⟨g1,0,none⟩) (some ⟨g2,0,none⟩) (some ⟨g3,0,none⟩) (some ⟨g4,0,none⟩) d0 d1 d2 d3 d4)) w.heap.size (w2.heap.size+1) w2.heap.size s m gb mb n r g0 g1 g2 g3 g4 d0 d1 d2 d3 d4:=by
 have hal:Below w2.heap.size w2 (w2.alloc (recObj r (some ⟨g0,0,none⟩) (some ⟨g1,0,none⟩) (some ⟨g2,0,none⟩) (some ⟨g3,0,none⟩) (some ⟨g4,0,none⟩) d0 d1 d2 d3 d4)):=(Below.refl _ w2).alloc (Nat.le_refl _) _;have h4:=(Tx.rows_ge hl.o4 g4 rfl).2;exact⟨hl.below hal,heap_alloc_new w2 _,⟨hb.size,Nat.lt_succ_self _⟩,by omega,by show _<=(w2.heap.push _).size;rw[Array.size_push];exact Nat.le_refl _,fun g hg=>.inl (h.lt (.inl hg)),fun g hg=>h.lt (.inr hg)⟩
theorem DS.do_in (h:DS base w gb mb n K d l p s m) (hx:BxR w gb mb n s m rb x) (hn:Lnd w lo hi bi s m gb mb n x.r g0 g1 g2 g3 g4 d0 d1 d2 d3 d4) (hK:K<=700000000) :
  Calls Tryz.prog 12 #[.pointer (some ⟨p,0,none⟩),recV x.r (some ⟨g0,0,none⟩) (some ⟨g1,0,none⟩) (some ⟨g2,0,none⟩) (some ⟨g3,0,none⟩) (some ⟨g4,0,none⟩) d0 d1 d2 d3 d4] w fun e w'=>∃ s',e=.returned (.tuple #[.bool (doF x.r s.L n s.c).1,.int .i64 (doF x.r s.L n s.c).2.1]) /\
   DS base w' gb mb n (K+20000) d l p s' m/\BxR w' gb mb n s' m rb x/\Lnd w' lo hi bi s' m gb mb n x.r g0 g1 g2 g3 g4 d0 d1 d2 d3 d4/\Below base w w'/\s'.c=(doF x.r s.L n s.c).2.2/\s'.V=doV s.V x.r s.L n s.c/\CoreEq s'.L s.L/\s'.P.most=s.P.most:=by
 obtain⟨m0,m1,m2,-,-,-,-⟩:=hn.l.rbs hx.l1 hx.ri.d.fine hx.ri.p.fine;have hge:∀ g,(g=g0∨g=g1∨g=g2)->lo<=g/\g<hi:=fun g hg=>by
  have q0:=(Tx.rows_ge hn.l.o0 g0 rfl).1;have:=hn.l.n01;have:=hn.l.n12;have:=hn.l.n23;have:=hn.l.n34;have:=hn.g4;omega
 refine (h.do_ x.r (some ⟨g0,0,none⟩) (some ⟨g1,0,none⟩) (some ⟨g2,0,none⟩) (some ⟨g3,0,none⟩) (some ⟨g4,0,none⟩) d0 d1 d2 d3 d4 m0 m1 m2 (fun a b o s' ha e hS=>?_) hx.ri.wf.lsn.2 hK).mono ?_
 ·have hb:b=g0∨b=g1∨b=g2:=by
   rcases ha with rfl|rfl|rfl<;>cases e
   ·exact .inl rfl
   ·exact .inr (.inl rfl)
   ·exact .inr (.inr rfl)
  have:=hge b hb;have:=hn.s b hS;omega
 ·rintro e w' ⟨s',rfl,hd,e1,e2,e3,e4,hm⟩;refine⟨s',rfl,hd,hx.mv hm,hn.keep hm.trn hn.s (fun g hg=>?_),hm.trn.out (fun g hg=>h.lo g (.inl hg)) h.bs,e1,e2,e3,e4⟩;rcases hm.sub g hg with h1|h1
  ·exact hn.s g h1
  ·exact .inr (Nat.le_trans hn.le h1)
theorem DS.kept_in (h:DS base w gb mb n K d l p s m) (hx:BxR w gb mb n s m rb x) (hn:Lnd w lo hi bi s m gb mb n x.r g0 g1 g2 g3 g4 d0 d1 d2 d3 d4) :
  Calls Tryz.prog 126 #[recV x.r (some ⟨g0,0,none⟩) (some ⟨g1,0,none⟩) (some ⟨g2,0,none⟩) (some ⟨g3,0,none⟩) (some ⟨g4,0,none⟩) d0 d1 d2 d3 d4,recV x.r x.ka x.oa x.na x.da x.pa x.kc x.oc x.nc x.dc x.pc] w fun e w'=>e=.returned (.bool true)/\DS base w' gb mb n K d l p s m/\BxR w' gb mb n s m rb x/\Lnd w' lo hi bi s m gb mb n x.r g0 g1 g2 g3 g4 d0 d1 d2 d3 d4/\Below base w w':=by
 refine (KeptRecord_any w.heap.size lo x.r g0 g1 g2 g3 g4 d0 d1 d2 d3 d4 x.ka x.oa x.na x.da x.pa x.kc x.oc x.nc x.dc x.pc w hn.l hx.ri.k hx.ri.o hx.ri.n hx.ri.d hx.ri.p (Nat.le_refl _) hx.l1 hx.l2).mono ?_;rintro e w' ⟨rfl,hb⟩;exact⟨rfl,h.below hb,hx.below hb,hn.below hb,hb.mono h.bs⟩
theorem DS.over_in (h:DS base w gb mb n K d l p s m) (hx:BxR w gb mb n s m rb x) (hn:Lnd w lo hi bi s m gb mb n x.r g0 g1 g2 g3 g4 d0 d1 d2 d3 d4) (hrb:rb<lo) (hbl:base<=lo)
  (hxo:∀ a b o s',(a=x.ka∨a=x.oa∨a=x.na∨a=x.da∨a=x.pa)->a=some (⟨b,o,s'⟩:Addr)->b<lo) :
  Calls Tryz.prog 127 #[recV x.r (some ⟨g0,0,none⟩) (some ⟨g1,0,none⟩) (some ⟨g2,0,none⟩) (some ⟨g3,0,none⟩) (some ⟨g4,0,none⟩) d0 d1 d2 d3 d4] w fun e w'=>e=.returned (.tuple #[])/\DS base w' gb mb n K d l p s m/\BxR w' gb mb n s m rb x/\Below base w w':=by
 refine (OverRecord_any lo x.r g0 g1 g2 g3 g4 d0 d1 d2 d3 d4 w hn.l hx.l1 hx.l2).mono ?_;rintro e w' ⟨rfl,ht⟩;have hge:∀ g,Fv g0 g1 g2 g3 g4 g->lo<=g/\g<hi:=fun g hg=>by
  have q0:=(Tx.rows_ge hn.l.o0 g0 rfl).1;have:=hn.l.n01;have:=hn.l.n12;have:=hn.l.n23;have:=hn.l.n34;have:=hn.g4;unfold Fv at hg;omega
 have hlt:∀ g,g<lo->w'.heap[g]? = w.heap[g]?:=fun g hg=>ht.block g (by have:=hn.le;have:=hn.bi;omega) (fun hF=>by have:=hge g hF;omega)
 refine⟨rfl,h.keep (fun g hg=>?_) ht.size,?_,ht.out (fun g hg=>Nat.le_trans hbl (hge g hg).1) h.bs⟩
 ·rcases hg with h1|h1
  ·refine ht.block g (h.lt (.inl h1)) fun hF=>?_
   have:=hge g hF;have:=hn.s g h1;omega
  ·exact hlt g (hn.b g h1)
 ·refine⟨(hlt rb hrb).trans hx.blk,(hx.ri.of_block fun a b o s' ha e=>hlt b (hxo a b o s' ha e)).mono ht.size,hx.l1,hx.l2,hx.rs,fun a b o s' ha e=>?_⟩;have:=hx.out a b o s' ha e;exact⟨this.1,this.2.1,Nat.lt_of_lt_of_le this.2.2 ht.size⟩
theorem BxR.drewN (h:BxR w gb mb n s m rb x) (q:Nat):BxR (w.drewN q) gb mb n s m rb x:=h.keep (fun _ _ _ _=>rfl) (Nat.le_refl _) (fun _ _ h=>h) (fun _ _ h=>h)
def DoesG (base gb mb n K d l p:Nat) (s:StP) (w:World) (e:Ending) (w':World):Prop:=e=.returned (.bool true)/\∃ s' m',DS base w' gb mb n (K+30000) d l p s' m'/\LastV m'.V s'.c n/\s'.V=m'.V/\CoreEq s'.L s.L/\s'.P.most=s.P.most/\Below base w w'
theorem DoesG.mk (hd:DS base w' gb mb n K' d l p s' m') (hK:K'<=K+30000) (hl:LastV V c n) (hc:s'.c=c) (hV:s'.V=V) (hm:m'.V=V) (h3:CoreEq s'.L s.L) (h4:s'.P.most=s.P.most) (hb:Below base w w') (q:Nat):DoesG base gb mb n K d l p s w (.returned (.bool true)) (w'.drewN q) :=
 ⟨rfl,s',m',(hd.mono hK).drewN q,by rw[hm,hc];exact hl,hV.trans hm.symm,h3,h4,δ hb q⟩
theorem DoesG.mk0 (hd:DS base w' gb mb n K' d l p s' m') (hK:K'<=K+30000) (hl:LastV V c n) (hc:s'.c=c) (hV:s'.V=V) (hm:m'.V=V) (h3:CoreEq s'.L s.L) (h4:s'.P.most=s.P.most) (hb:Below base w w'):DoesG base gb mb n K d l p s w (.returned (.bool true)) w' :=
 ⟨rfl,s',m',hd.mono hK,by rw[hm,hc];exact hl,hV.trans hm.symm,h3,h4,hb⟩
theorem doF_arg {n:Int} (h:argBad r L):(doF r L n c).1=false/\(doF r L n c).2.1=2/\(doF r L n c).2.2=c/\doV V r L n c=V:=by
 unfold doF doV;rw[if_pos h,if_pos h];exact⟨rfl,rfl,rfl,rfl⟩
theorem doF_page {n:Int} (h:¬ argBad r L) (hp:pageBad r n):(doF r L n c).1=false/\(doF r L n c).2.1=6/\(doF r L n c).2.2=c/\doV V r L n c=V:=by
 unfold doF doV;rw[if_neg h,if_neg h,if_pos hp,if_pos hp];exact⟨rfl,rfl,rfl,rfl⟩
theorem doF_turn {n:Int} (h:¬ argBad r L) (hp:¬ pageBad r n) (h6:r.kind≠6):∃ y,y=doneF (c r.page) r.lsn (recAct r r.page)/\(doF r L n c).1=y.1/\(doF r L n c).2.1=y.2.1/\(doF r L n c).2.2=updI c r.page y.2.2/\doV V r L n c=addV V r.page y:=by
 have e:recAct r r.page=actTurn r.key r.old r.new:=if_pos h6;rw[e];unfold doF doV;rw[if_neg h,if_neg h,if_neg hp,if_neg hp,if_neg h6,if_neg h6];exact⟨_,rfl,rfl,rfl,rfl,rfl⟩
theorem doF_link {n:Int} (h:¬ argBad r L) (hp:¬ pageBad r n) (h6:r.kind=6):∃ y z c1,y=doneF (c r.page) r.lsn (recAct r r.page)/\y.2.1=0/\z.2.1=0/\c1=updI c r.page y.2.2/\z=doneF (c1 r.next) r.lsn actNew/\(r.next≠r.page->z=doneF (c1 r.next) r.lsn (recAct r r.next))/\(doF r L n c).1=(y.1 || z.1)/\(doF r L n c).2.1=0/\(doF r L n c).2.2=updI c1 r.next z.2.2/\doV V r L n c=addV (addV V r.page y) r.next z:=by
 have e:recAct r r.page=actNext r.next:=by unfold recAct;rw[if_neg (by omega),if_pos rfl]
 rw[e];refine⟨doneF (c r.page) r.lsn (actNext r.next),doneF (doLink r c r.next) r.lsn actNew,doLink r c,rfl,doneF_zero (fun _=>rfl) _ _,doneF_zero (fun _=>rfl) _ _,rfl,rfl,fun hne=>?_,?_,?_,?_,?_⟩
 ·have e2:recAct r r.next=actNew:=by unfold recAct;rw[if_neg (by omega),if_neg hne]
  rw[e2]
 all_goals
  first|unfold doF|unfold doV
  rw[if_neg h,if_neg hp,if_pos h6]
theorem lastV_pos {n i:Int} (h:LastV V c n) (h0:0<=i) (h1:i<n):0<(V i).length:=by
 have hg:=h i h0 h1
 cases e:V i with
 | nil=>rw[e] at hg;cases hg
 | cons z zs=>simp
theorem cell_on {W:World} (h:Below w.heap.size w W) {b:Nat} {v:Value} (hc:w.cell? ⟨b,i,none⟩=some v):W.cell? ⟨b,i,none⟩=some v:=(h.cell (p:=⟨b,i,none⟩) (χ hc)).trans hc
theorem DS.push_cells (h:DS base w gb mb n K d l p s m) (hx:BxR w gb mb n s m rb x) {pg pc q:Nat} (hi:i<n) (hsl:slV (m.X.getD i default)=.slice (some ⟨pg,0,none⟩) q pc) (hg:(w.drew.alloc o).grownBy w9 (some pg)) :
  w9.cell? ⟨mb,0,none⟩=some m.vs/\∀ j v,w.cell? ⟨rb,j,none⟩=some v->w9.cell? ⟨rb,j,none⟩=some v:=by
 have hpo:(slV (m.X.getD i default)).ownBlock=some pg:=by rw[hsl];rfl
 have k9:∀ k,k<w.heap.size->k≠pg->w9.heap[k]? = w.heap[k]?:=fun k k0 k1=>(hg.block k (by show k<(w.drew.heap.push o).size;rw[Array.size_push];exact Nat.lt_succ_of_lt k0) (fun e=>k1 (Option.some.inj e))).trans (heap_alloc_old w.drew o k0)
 have e1:=k9 mb (ξ h.mod.blk) (fun e=>(h.mod.prow i hi).ne_model (by decide) h.mod.blk (by rw[hpo,e]));have e2:=k9 rb (ξ hx.blk) (fun e=>hx.rs.2 (.inr (.inr (.inr ⟨i,hi,by rw[hpo,e]⟩))));exact⟨(World.cell?_of_block (w:=w) e1).trans h.mod.mc.1,fun j v hv=>(World.cell?_of_block (w:=w) e2).trans hv⟩
theorem DS.vg_ne (h:DS base w gb mb n K d l p s m) {vc:Nat} (hx:BxR w gb mb n s m rb x) (hvs:m.vs=.slice (some ⟨vg,0,none⟩) n vc):mb≠vg/\rb≠vg :=
 ⟨fun e=>h.mod.vrow.ne_model (by decide) h.mod.blk (by rw[hvs,e];rfl),fun e=>hx.rs.2 (.inr (.inl (by rw[hvs,e];rfl)))⟩
def PushS (mb rb f vg pi:Nat) (a b c:Value) (w:World):Prop:=w.cell? ⟨mb,0,none⟩=some a/\w.cell? ⟨vg,pi,none⟩=some b/\w.cell? ⟨rb,f,none⟩=some c
theorem PushS.alloc {f pi:Nat} {a b c:Value} (h:PushS mb rb f vg pi a b c w) (o:Obj):PushS mb rb f vg pi a b c (w.alloc o) :=
 ⟨cell_on (below_allocL' w o) h.1,cell_on (below_allocL' w o) h.2.1,cell_on (below_allocL' w o) h.2.2⟩
def RecS (mb rb:Nat) (ds:Value) (x:RecAt) (w:World):Prop:=w.heap[rb]? = some (recObj x.r x.ka x.oa x.na x.da x.pa x.kc x.oc x.nc x.dc x.pc)/\w.cell? ⟨mb,1,none⟩=some ds
theorem RecS.below {ds:Value} (h:RecS mb rb ds x w) (hb:Below w.heap.size w w'):RecS mb rb ds x w' :=
 ⟨(hb.block rb (ξ h.1)).trans h.1,cell_on hb h.2⟩
theorem recz {a0 a1 a2 a3 a4:Option Addr} (h0:OB w.heap.size w' (.slice a0 r.key.length d0) r.key) (h1:OB w.heap.size w' (.slice a1 r.old.length d1) r.old) (h2:OB w.heap.size w' (.slice a2 r.new.length d2) r.new)
  (h3:dirtyE.Own w.heap.size w' (.slice a3 r.dirty.length d3) r.dirty) (h4:openE.Own w.heap.size w' (.slice a4 r.opn.length d4) r.opn) (fd:∀ x∈r.dirty,okPr x) (fp:∀ x∈r.opn,okPr x) (wf:r.Wf) (l1:r.key.length+r.old.length+r.new.length<=2000) (l2:r.dirty.length+r.opn.length<=300) :
  RecI w'.heap.size w' r a0 a1 a2 a3 a4 d0 d1 d2 d3 d4/\∀ a b o s,(a=a0∨a=a1∨a=a2∨a=a3∨a=a4)->a=some (⟨b,o,s⟩:Addr)->w.heap.size<=b/\b<w'.heap.size:=by
 obtain⟨b0,e0,q0,r0⟩:=h0.rb (by omega);obtain⟨b1,e1,q1,r1⟩:=h1.rb (by omega);obtain⟨b2,e2,q2,r2⟩:=h2.rb (by omega);obtain⟨b3,e3,q3,r3⟩:=h3.in_ fd;obtain⟨b4,e4,q4,r4⟩:=h4.in_ fp
 cases q0;cases q1;cases q2;cases q3;cases q4
 refine⟨⟨r0,r1,r2,r3,r4,wf,by omega,by omega⟩,fun a b o s ha e=>?_⟩;rcases ha with rfl|rfl|rfl|rfl|rfl
 ·subst e;exact Tx.rows_ge h0 b rfl
 ·subst e;exact Tx.rows_ge h1 b rfl
 ·subst e;exact Tx.rows_ge h2 b rfl
 ·subst e;exact Tx.rows_ge h3 b rfl
 ·subst e;exact Tx.rows_ge h4 b rfl
theorem DS.recd_S {w1:World} (h:DS base w gb mb n K d l p s m) (hx:BxR w gb mb n s m rb x) (h1:Below w.heap.size w w1) (hg:(w1.alloc o).grownBy w9 m.ds.ownBlock):RecS mb rb m.ds x w9:=by
 have k9:∀ k,k<w.heap.size->m.ds.ownBlock≠some k->w9.heap[k]? = w.heap[k]?:=fun k k0 k1=>(hg.block k (by show k<(w1.heap.push o).size;rw[Array.size_push];have:=h1.size;omega) (fun e=>k1 e.symm)).trans ((heap_alloc_old w1 o (Nat.lt_of_lt_of_le k0 h1.size)).trans (h1.block k k0))
 exact⟨(k9 rb (ξ hx.blk) (fun e=>hx.rs.2 (.inr (.inr (.inl e))))).trans hx.blk,(World.cell?_of_block (w:=w) (k9 mb (ξ h.mod.blk) (h.mod.drow.ne_model (by decide) h.mod.blk))).trans h.mod.mc.2⟩
theorem link_same (hp:PgOk (c r.page)) (h1:1<=r.lsn) (h2:r.lsn<=9223372036854775807) {act:List UInt8->Int×List UInt8} {y:Bool×Int×List UInt8} (h6:r.kind=6) (hy:y=doneF (c r.page) r.lsn (recAct r r.page)):(doneF (updI c r.page y.2.2 r.page) r.lsn act).1=false:=by
 have e:recAct r r.page=actNext r.next:=by unfold recAct;rw[if_neg (by omega),if_pos rfl]
 rw[e] at hy;rw[updI_at];have hn:¬ (lsnL y.2.2:Int)<r.lsn:=by
  by_cases hlt:(lsnL (c r.page):Int)<r.lsn
  ·rw[doneF_did hlt rfl] at hy;have hl:lsnL (setLsnL (actNext r.next (c r.page)).2 r.lsn)=r.lsn.toNat:=((actNext_ok r.next) _ hp).lsn (by omega) h2;rw[hy];show ¬ ((lsnL (setLsnL (actNext r.next (c r.page)).2 r.lsn):Nat):Int)<r.lsn;rw[hl];omega
  ·rw[doneF_no hlt] at hy;rw[hy];exact hlt
 rw[doneF_no hn]
end
end Go.Proofs.YtohlkkannjifmaaGreatDoor
