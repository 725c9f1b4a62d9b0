import Derived.Test.YtohlkkannjifmaaGreatDoorOCopy
import Derived.ProofKit
import Derived.OpenShut
import Derived.Deep.Slices
import Derived.Deep.Strs
import Derived.Test.YtohlkkannjifmaaGreatDoorPageC
import Derived.OwnWalk
import Derived.Test.YtohlkkannjifmaaGreatDoorLentT
import Derived.Deep.RegionHeld3
import Derived.Test.YtohlkkannjifmaaGreatDoorOAwake
import Derived.Test.YtohlkkannjifmaaGreatDoorLent
import Derived.Test.YtohlkkannjifmaaGreatDoorORecK
namespace Go.Proofs.YtohlkkannjifmaaGreatDoor
section
set_option maxRecDepth 100000
open Go.ChangeShapes Go.WideShapes Go.ChangeAt Go.RowKit Go.Shelf
section
variable {H:Type} {enc:TypeId×Value->H}
theorem Tryz.cellsU8:Tryz.prog.cellsOf 5=1:=by kernel_rfl
theorem Tryz.bytesU8:Tryz.prog.bytesOf 5=1:=by kernel_rfl
def Sized (t:TypeId) (d:DataW H):Prop:=∀ n∈d.weights Tryz.prog t,n<=reachBytes
theorem add_plain (b o i:Nat):(⟨b,o,none⟩:Addr).add i=⟨b,o+i,none⟩:=by unfold Addr.add;split<;>simp_all
theorem cell_lt {w:World} {a:Addr} {v:Value} (h:w.cell? a=some v):a.block<w.heap.size:=by
 unfold World.cell? at h;rcases Nat.lt_or_ge a.block w.heap.size with hl|hl
 ·exact hl
 ·rw[Array.getElem?_eq_none hl] at h;simp at h
theorem open_bytes {W:World} {fuel:Nat} {cs:List Value} {x:DataW H×List MemPlace} (h:DataW.trod enc Tryz.prog W 0 (fun _=>true) true fuel 27 cs=some x) (hs:Sized 27 x.1) :
  ∃ a n c l,cs=[.slice a n c]/\RB W.heap.size W a n c l:=by
 rcases open_ints Tryz.underlying27 Tryz.underlying5 Tryz.cellsU8 h with ⟨rfl,-⟩|⟨a,len,cap,zs,rfl,-,hl,hm,hz,rfl,hcell,hwf⟩
 ·exact⟨none,0,0,[],rfl,RB.emp _⟩
 ·have hz':zs.length=cap:=by simpa using hz
  have hw:=hs ((len+(cap-len))*1) (by
   simp only[DataW.weights,Tryz.underlying27,Tryz.bytesU8,List.mem_cons,lits,List.length_map,List.length_take,List.length_drop];left;rw[hz'];congr 1;omega)
  have hr:reachBytes=140737488351232:=rfl;have hv:∀ i,i<cap->0<=zs.getD i 0/\zs.getD i 0<256:=fun i hi=>by
   have hi':i<zs.length:=by omega
   have:=hwf (zs.getD i 0) (by rw[List.getD_eq_getElem?_getD,List.getElem?_eq_getElem hi'];exact List.getElem_mem hi');simp only[Lit.wf,Bool.and_eq_true,decide_eq_true_eq] at this;have e1:IntKind.u8.min=0:=by decide
   have e2:IntKind.u8.max=255:=by decide
   rw[e1,e2] at this;omega
  refine⟨some a,len,cap,(zs.take len).map fun z=>UInt8.ofNat z.toNat,rfl,⟨by simp;omega,hl,by simpa [maxLen] using hm,by omega,fun hc=>?_⟩⟩;obtain⟨b,o,s⟩:=a;have h0:=hcell 0 (by omega);have hspot:s=none:=by simpa [Addr.add] using World.cell?_spot h0
  subst hspot;refine⟨b,o,rfl,by simpa [Addr.add] using cell_lt h0,fun i hi=>?_⟩;have hc:=hcell i (by omega);rw[add_plain] at hc;rw[hc];have hi':i<zs.length:=by omega
  obtain⟨h1,h2⟩:=hv i (by omega);have e2:zs.getD i 0=zs[i]:=by rw[List.getD_eq_getElem?_getD,List.getElem?_eq_getElem hi'];rfl
  rw[e2] at h1 h2 ⊢;unfold bt;simp[List.getD_eq_getElem?_getD,hi,List.getElem?_eq_getElem hi'];omega
theorem weightsAll_mem {P:Program} {e:TypeId}:∀ {l:List (DataW H)} {d:DataW H},d∈l->∀ n∈d.weights P e,n∈DataW.weightsAll P e l
 | d'::r,d,hd,n,hn=>by
  simp only[DataW.weightsAll,List.mem_append];rcases List.mem_cons.1 hd with rfl|h
  ·exact Or.inl hn
  ·exact Or.inr (weightsAll_mem h n hn)
theorem Sized.field {t:TypeId} {fs:Array Field} {l:List (DataW H)} (h:Sized t (.agg l)) (ht:Tryz.prog.underlying t=some (.struct fs)) {j:Nat} {f:Field} {d:DataW H} (hf:fs[j]? = some f) (hd:l[j]? = some d):Sized f.type d:=fun n hn=>by
 refine h n ?_;simp only[DataW.weights,ht];exact DataW.weights_mem_each (by simp[hf]) hd n hn
theorem Sized.elem {t e:TypeId} {l sp:List (DataW H)} (h:Sized t (.slice l sp)) (ht:Tryz.prog.underlying t=some (.slice e)) {d:DataW H} (hd:d∈l):Sized e d:=fun n hn=>by
 refine h n ?_;simp only[DataW.weights,ht,List.mem_cons,List.mem_append];exact Or.inr (Or.inl (weightsAll_mem hd n hn))
theorem Tryz.cellsInt:Tryz.prog.cellsOf 3=1:=by kernel_rfl
theorem Tryz.cellsI64:Tryz.prog.cellsOf 2=1:=by kernel_rfl
theorem Tryz.cellsBool:Tryz.prog.cellsOf 4=1:=by kernel_rfl
theorem Tryz.cellsBytes:Tryz.prog.cellsOf 27=1:=by kernel_rfl
theorem Tryz.cellsTurn:Tryz.prog.cellsOf 29=3:=by kernel_rfl
theorem open_el {α:Type} [Inhabited α] (E:Ek α) (hk:Tryz.prog.cellsOf E.e=E.k) {W:World} (one:∀ {fuel:Nat} {cs:List Value} {x:DataW H×List MemPlace},DataW.trod enc Tryz.prog W 0 (fun _=>true) true fuel E.e cs=some x->∃ y:α,cs=E.enc y/\E.ok y) {fuel:Nat} {cs:List Value} {x:DataW H×List MemPlace} (h:DataW.trod enc Tryz.prog W 0 (fun _=>true) true fuel E.t cs=some x) :
  ∃ a n c X,cs=[.slice a n c]/\E.In W.heap.size W a n c X:=by
 rcases Go.Deep.open_slice E.under h with ⟨rfl,-⟩|⟨a,len,cap,m,n,D,Pl,rfl,-,hl,hm,hmm,rfl,hel⟩
 ·exact⟨none,0,0,[],rfl,Ek.In.nil _ _⟩
 ·have hmc:m=cap:=by simpa using hmm
  subst hmc;by_cases h0:m=0
  ·subst h0;obtain rfl:len=0:=by omega
   exact⟨_,_,_,[],rfl,⟨rfl,Nat.le_refl _,by omega,(fun x hx=>by cases hx),fun h=>by omega⟩⟩
  obtain⟨b,o,s⟩:=a;have hkp:=E.kpos;have hspot:s=none/\b<W.heap.size:=by
   obtain⟨cs',h1,-⟩:=hel 0 (by omega);obtain⟨-,h3,h4⟩:=World.cells?_some h1;rw[hk] at h3 h4;have h5:=h4 0 hkp;rw[List.getElem?_eq_getElem (by omega)] at h5;exact⟨by simpa [Addr.add] using World.cell?_spot h5,by simpa [Addr.add] using cell_lt h5⟩
  obtain⟨rfl,hb⟩:=hspot;have each:∀ i,i<len->∃ y:α,(∀ j,j<E.k->W.cell? ⟨b,o+i*E.k+j,none⟩=(E.enc y)[j]?)/\E.ok y:=fun i hi=>by
   obtain⟨cs',h1,h2⟩:=hel i (by omega);obtain⟨-,h3,h4⟩:=World.cells?_some h1;rw[hk] at h3 h4;obtain⟨y,e,hy⟩:=one h2;subst e;refine⟨y,fun j hj=>?_,hy⟩;have:=h4 j hj;rw[add_plain,add_plain] at this;exact this
  obtain⟨F,hF⟩:=Go.Deep.choose_lt each;have hlen:((List.range len).map F).length=len:=by simp
  have hget:∀ i,i<len->((List.range len).map F).getD i default=F i:=fun i hi=>by
   rw[List.getD_eq_getElem?_getD,List.getElem?_map,List.getElem?_range hi];rfl
  refine⟨_,_,_,(List.range len).map F,rfl,⟨hlen.symm,hl,by simpa [maxLen] using hm,fun p hp=>?_,fun _=>⟨b,o,rfl,hb,fun i hi j hj=>?_⟩⟩⟩
  ·obtain⟨i,hi,rfl⟩:=List.mem_map.1 hp;exact (hF i (List.mem_range.1 hi)).2
  ·rw[hget i hi];exact (hF i hi).1 j hj
theorem open_elS {α:Type} [Inhabited α] (E:Ek α) (hk:Tryz.prog.cellsOf E.e=E.k) {W:World} (one:∀ {fuel:Nat} {cs:List Value} {x:DataW H×List MemPlace},DataW.trod enc Tryz.prog W 0 (fun _=>true) true fuel E.e cs=some x->∃ y:α,cs=E.enc y/\E.ok y) {fuel:Nat} {cs:List Value} {x:DataW H×List MemPlace} (h:DataW.trod enc Tryz.prog W 0 (fun _=>true) true fuel E.t cs=some x) (hs:Sized E.t x.1) (hby:1<=Tryz.prog.bytesOf E.e) :
  ∃ a n c X,cs=[.slice a n c]/\E.In W.heap.size W a n c X/\n<=140737488355328:=by
 rcases Go.Deep.open_slice E.under h with ⟨rfl,-⟩|⟨a,len,cap,m,n,D,Pl,rfl,-,hl,hm,hmm,rfl,hel⟩
 ·exact⟨none,0,0,[],rfl,Ek.In.nil _ _,by omega⟩
 ·have hmc:m=cap:=by simpa using hmm
  subst hmc;by_cases h0:m=0
  ·subst h0;obtain rfl:len=0:=by omega
   exact⟨_,_,_,[],rfl,⟨rfl,Nat.le_refl _,by omega,(fun x hx=>by cases hx),fun h=>by omega⟩,by omega⟩
  have hw:=hs ((len+(m-len))*Tryz.prog.bytesOf E.e) (by simp[DataW.weights,E.under]);have hr:reachBytes=140737488351232:=rfl;have hlen2:len<=140737488355328:=by
   have h1:len<=len+(m-len):=Nat.le_add_right _ _;have h2:(len+(m-len))*1<=(len+(m-len))*Tryz.prog.bytesOf E.e:=Nat.mul_le_mul_left _ hby;omega
  obtain⟨b,o,s⟩:=a;have hkp:=E.kpos;have hspot:s=none/\b<W.heap.size:=by
   obtain⟨cs',h1,-⟩:=hel 0 (by omega);obtain⟨-,h3,h4⟩:=World.cells?_some h1;rw[hk] at h3 h4;have h5:=h4 0 hkp;rw[List.getElem?_eq_getElem (by omega)] at h5;exact⟨by simpa [Addr.add] using World.cell?_spot h5,by simpa [Addr.add] using cell_lt h5⟩
  obtain⟨rfl,hb⟩:=hspot;have each:∀ i,i<len->∃ y:α,(∀ j,j<E.k->W.cell? ⟨b,o+i*E.k+j,none⟩=(E.enc y)[j]?)/\E.ok y:=fun i hi=>by
   obtain⟨cs',h1,h2⟩:=hel i (by omega);obtain⟨-,h3,h4⟩:=World.cells?_some h1;rw[hk] at h3 h4;obtain⟨y,e,hy⟩:=one h2;subst e;refine⟨y,fun j hj=>?_,hy⟩;have:=h4 j hj;rw[add_plain,add_plain] at this;exact this
  obtain⟨F,hF⟩:=Go.Deep.choose_lt each;have hlen:((List.range len).map F).length=len:=by simp
  have hget:∀ i,i<len->((List.range len).map F).getD i default=F i:=fun i hi=>by
   rw[List.getD_eq_getElem?_getD,List.getElem?_map,List.getElem?_range hi];rfl
  refine⟨_,_,_,(List.range len).map F,rfl,⟨hlen.symm,hl,by simpa [maxLen] using hm,fun p hp=>?_,fun _=>⟨b,o,rfl,hb,fun i hi j hj=>?_⟩⟩,hlen2⟩
  ·obtain⟨i,hi,rfl⟩:=List.mem_map.1 hp;exact (hF i (List.mem_range.1 hi)).2
  ·rw[hget i hi];exact (hF i hi).1 j hj
theorem wf_u8' {a:Int} (h:(Lit.int .u8 a).wf=true):0<=a/\a<=255:=by
 simpa [Lit.wf,IntKind.min,IntKind.max,IntKind.signed,IntKind.bits] using h
theorem wf_in' {a:Int} (h:(Lit.int .i64 a).wf=true):-9223372036854775808<=a/\a<=9223372036854775807:=by
 simpa [Lit.wf,IntKind.min,IntKind.max,IntKind.signed,IntKind.bits] using h
theorem Tryz.cellsDirtyO:Tryz.prog.cellsOf 80=2:=by kernel_rfl
theorem Tryz.cellsOpenO:Tryz.prog.cellsOf 200=2:=by kernel_rfl
theorem Tryz.cellsDirtiesO:Tryz.prog.cellsOf 30=1:=by kernel_rfl
theorem Tryz.cellsOpensO:Tryz.prog.cellsOf 31=1:=by kernel_rfl
theorem Tryz.cellsKindO:Tryz.prog.cellsOf 26=1:=by kernel_rfl
theorem Tryz.cellsRecO:Tryz.prog.cellsOf 33=11:=by kernel_rfl
theorem Tryz.cellsDeedO:Tryz.prog.cellsOf 35=15:=by kernel_rfl
theorem open_dirtyO {W:World} {fuel:Nat} {cs:List Value} {x:DataW H×List MemPlace} (h:DataW.trod enc Tryz.prog W 0 (fun _=>true) true fuel 80 cs=some x):∃ y:Int×Int,cs=encPr y/\okPr y:=by
 obtain⟨xs,n,-,rfl,hl,hxl,hf⟩:=DataW.trod_struct Tryz.underlying80 h;rw[Tryz.cellsDirtyO] at hl
 match cs,hl with
 | [v0,v1],_ =>
  match xs,hxl with
  | [x0,x1],_ =>
   have g0:=hf 0 _ rfl;have g1:=hf 1 _ rfl;simp only[List.getElem?_cons_zero,List.getElem?_cons_succ] at g0 g1;obtain⟨q0,e0,-,h0⟩:=DataW.trod_int Tryz.underlying3 g0;obtain⟨q1,e1,-,h1⟩:=DataW.trod_int Tryz.underlying2 g1
   cases e0;cases e1
   exact⟨(_,_),rfl,wf_in' h0,wf_in' h1⟩
theorem open_openO {W:World} {fuel:Nat} {cs:List Value} {x:DataW H×List MemPlace} (h:DataW.trod enc Tryz.prog W 0 (fun _=>true) true fuel 200 cs=some x):∃ y:Int×Int,cs=encPr y/\okPr y:=by
 obtain⟨xs,n,-,rfl,hl,hxl,hf⟩:=DataW.trod_struct Tryz.underlying200 h;rw[Tryz.cellsOpenO] at hl
 match cs,hl with
 | [v0,v1],_ =>
  match xs,hxl with
  | [x0,x1],_ =>
   have g0:=hf 0 _ rfl;have g1:=hf 1 _ rfl;simp only[List.getElem?_cons_zero,List.getElem?_cons_succ] at g0 g1;obtain⟨q0,e0,-,h0⟩:=DataW.trod_int Tryz.underlying2 g0;obtain⟨q1,e1,-,h1⟩:=DataW.trod_int Tryz.underlying2 g1
   cases e0;cases e1
   exact⟨(_,_),rfl,wf_in' h0,wf_in' h1⟩
structure RecV.Wf (r:RecV):Prop where
 lsn:-9223372036854775808<=r.lsn/\r.lsn<=9223372036854775807
 work:-9223372036854775808<=r.work/\r.work<=9223372036854775807
 prev:-9223372036854775808<=r.prev/\r.prev<=9223372036854775807
 next:-9223372036854775808<=r.next/\r.next<=9223372036854775807
 page:-9223372036854775808<=r.page/\r.page<=9223372036854775807
 kind:r.kind<=255
structure RecI (B:Nat) (w:World) (r:RecV) (ka oa na da pa:Option Addr) (kc oc nc dc pc:Nat):Prop where
 k:RB B w ka r.key.length kc r.key
 o:RB B w oa r.old.length oc r.old
 n:RB B w na r.new.length nc r.new
 d:dirtyE.In B w da r.dirty.length dc r.dirty
 p:openE.In B w pa r.opn.length pc r.opn
 wf:r.Wf
 dl:r.dirty.length<=140737488355328
 pl:r.opn.length<=140737488355328
theorem RecI.below {B:Nat} {w w':World} {r:RecV} {ka oa na da pa:Option Addr} {kc oc nc dc pc:Nat} (h:RecI B w r ka oa na da pa kc oc nc dc pc) (hb:Below B w w'):RecI B w' r ka oa na da pa kc oc nc dc pc :=
 ⟨h.k.below hb,h.o.below hb,h.n.below hb,h.d.below hb,h.p.below hb,h.wf,h.dl,h.pl⟩
def recL (r:RecV) (ka oa na da pa:Option Addr) (kc oc nc dc pc:Nat):List Value :=
 [.int .i64 r.lsn,.int .i64 r.work,.int .i64 r.prev,.int .i64 r.next,.int .u8 r.kind,.int .i64 r.page,.slice ka r.key.length kc,.slice oa r.old.length oc,.slice na r.new.length nc,.slice da r.dirty.length dc,.slice pa r.opn.length pc]
theorem open_rec {W:World} {fuel:Nat} {cs:List Value} {x:DataW H×List MemPlace} (h:DataW.trod enc Tryz.prog W 0 (fun _=>true) true fuel 33 cs=some x) (hs:Sized 33 x.1) :
  ∃ r ka oa na da pa kc oc nc dc pc,cs=recL r ka oa na da pa kc oc nc dc pc/\RecI W.heap.size W r ka oa na da pa kc oc nc dc pc:=by
 obtain⟨xs,n,-,rfl,hl,hxl,hf⟩:=DataW.trod_struct Tryz.underlying33 h;rw[Tryz.cellsRecO] at hl
 match cs,hl with
 | [v0,v1,v2,v3,v4,v5,v6,v7,v8,v9,v10],_ =>
  match xs,hxl with
  | [x0,x1,x2,x3,x4,x5,x6,x7,x8],_ =>
   have g0:=hf 0 _ rfl;have g1:=hf 1 _ rfl;have g2:=hf 2 _ rfl;have g3:=hf 3 _ rfl;have g4:=hf 4 _ rfl;have g5:=hf 5 _ rfl;have g6:=hf 6 _ rfl;have g7:=hf 7 _ rfl;have g8:=hf 8 _ rfl;simp only[List.getElem?_cons_zero,List.getElem?_cons_succ] at g0 g1 g2 g3 g4 g5 g6 g7 g8;obtain⟨q0,e0,-,h0⟩:=DataW.trod_int Tryz.underlying2 g0;obtain⟨q1,e1,-,h1⟩:=DataW.trod_int Tryz.underlying2 g1;obtain⟨q2,e2,-,h2⟩:=DataW.trod_int Tryz.underlying2 g2;obtain⟨q3,e3,-,h3⟩:=DataW.trod_int Tryz.underlying2 g3;obtain⟨q4,e4,-,h4⟩:=DataW.trod_int Tryz.underlying26 g4;obtain⟨q5,e5,-,h5⟩:=DataW.trod_int Tryz.underlying3 g5;have s6:=hs.field Tryz.underlying33 (j:=6) rfl (by rfl);obtain⟨y0,y1,y2,m,rfl,-,k0,k1,k2⟩:=Go.Deep.trod_struct3 Tryz.underlying29 g6;simp only[Tryz.cellsBytes,List.drop_zero] at k0 k1 k2;have t0:=s6.field Tryz.underlying29 (j:=0) rfl (by rfl);have t1:=s6.field Tryz.underlying29 (j:=1) rfl (by rfl);have t2:=s6.field Tryz.underlying29 (j:=2) rfl (by rfl);obtain⟨ka,kn,kc,K,f0,r0⟩:=open_bytes k0 t0;obtain⟨oa,on,oc,O,f1,r1⟩:=open_bytes k1 t1;obtain⟨na,nn,nc,N,f2,r2⟩:=open_bytes k2 t2;have s7:=hs.field Tryz.underlying33 (j:=7) rfl (by rfl);have s8:=hs.field Tryz.underlying33 (j:=8) rfl (by rfl);obtain⟨da,dn,dc,D,e7,hD,hdl⟩:=open_elS dirtyE Tryz.cellsDirtyO (fun h=>open_dirtyO h) g7 s7 (by decide +kernel);obtain⟨pa,pn,pc,Q,e8,hQ,hpl⟩:=open_elS openE Tryz.cellsOpenO (fun h=>open_openO h) g8 s8 (by decide +kernel)
   cases e0;cases e1;cases e2;cases e3;cases e4;cases e5;cases f0;cases f1;cases f2;cases e7;cases e8
   obtain rfl:=r0.len;obtain rfl:=r1.len;obtain rfl:=r2.len;obtain rfl:=hD.len;obtain rfl:=hQ.len;have h4':=wf_u8' h4;obtain⟨qn,rfl⟩:∃ qn:Nat,q4=(qn:Int):=⟨q4.toNat,by omega⟩
   exact⟨⟨q0,q1,q2,q3,qn,q5,K,O,N,D,Q⟩,ka,oa,na,da,pa,kc,oc,nc,dc,pc,rfl,r0,r1,r2,hD,hQ,⟨wf_in' h0,wf_in' h1,wf_in' h2,wf_in' h3,wf_in' h5,by show qn<=255;omega⟩,hdl,hpl⟩
structure DeedV where
 kind:Int
 page:Int
 r:RecV
 ka:Option Addr
 oa:Option Addr
 na:Option Addr
 da:Option Addr
 pa:Option Addr
 kc:Nat
 oc:Nat
 nc:Nat
 dc:Nat
 pc:Nat
 n:Int
 odd:Bool
instance:Inhabited DeedV:=⟨⟨0,0,⟨0,0,0,0,0,0,[],[],[],[],[]⟩,none,none,none,none,none,0,0,0,0,0,0,false⟩⟩
def deedL (d:DeedV):List Value:=[.int .i64 d.kind,.int .i64 d.page]++recL d.r d.ka d.oa d.na d.da d.pa d.kc d.oc d.nc d.dc d.pc++[.int .i64 d.n,.bool d.odd]
structure DeedI (B:Nat) (w:World) (d:DeedV):Prop where
 r:RecI B w d.r d.ka d.oa d.na d.da d.pa d.kc d.oc d.nc d.dc d.pc
 kind:-9223372036854775808<=d.kind/\d.kind<=9223372036854775807
 page:-9223372036854775808<=d.page/\d.page<=9223372036854775807
 n:-9223372036854775808<=d.n/\d.n<=9223372036854775807
theorem open_deed {W:World} {fuel:Nat} {cs:List Value} {x:DataW H×List MemPlace} (h:DataW.trod enc Tryz.prog W 0 (fun _=>true) true fuel 35 cs=some x) (hs:Sized 35 x.1) :
  ∃ d:DeedV,cs=deedL d/\DeedI W.heap.size W d:=by
 obtain⟨xs,n,-,rfl,hl,hxl,hf⟩:=DataW.trod_struct Tryz.underlying35 h;rw[Tryz.cellsDeedO] at hl
 match cs,hl with
 | [v0,v1,v2,v3,v4,v5,v6,v7,v8,v9,v10,v11,v12,v13,v14],_ =>
  match xs,hxl with
  | [x0,x1,x2,x3,x4],_ =>
   have g0:=hf 0 _ rfl;have g1:=hf 1 _ rfl;have g2:=hf 2 _ rfl;have g3:=hf 3 _ rfl;have g4:=hf 4 _ rfl;simp only[List.getElem?_cons_zero,List.getElem?_cons_succ] at g0 g1 g2 g3 g4;obtain⟨q0,e0,-,h0⟩:=DataW.trod_int Tryz.underlying3 g0;obtain⟨q1,e1,-,h1⟩:=DataW.trod_int Tryz.underlying3 g1;obtain⟨q3,e3,-,h3⟩:=DataW.trod_int Tryz.underlying3 g3;obtain⟨b4,e4,-⟩:=DataW.trod_bool Tryz.underlying4 g4;have s2:=hs.field Tryz.underlying35 (j:=2) rfl (by rfl);obtain⟨r,ka,oa,na,da,pa,kc,oc,nc,dc,pc,e2,hr⟩:=open_rec g2 s2
   cases e0;cases e1;cases e3;cases e4
   unfold recL at e2;injection e2 with i0 e2
   injection e2 with i1 e2
   injection e2 with i2 e2
   injection e2 with i3 e2
   injection e2 with i4 e2
   injection e2 with i5 e2
   injection e2 with i6 e2
   injection e2 with i7 e2
   injection e2 with i8 e2
   injection e2 with i9 e2
   injection e2 with i10 e2
   subst i0;subst i1;subst i2;subst i3;subst i4;subst i5;subst i6;subst i7;subst i8;subst i9;subst i10;exact⟨⟨q0,q1,r,ka,oa,na,da,pa,kc,oc,nc,dc,pc,q3,b4⟩,rfl,hr,wf_in' h0,wf_in' h1,wf_in' h3⟩
structure DeedsAt (B:Nat) (w:World) (a:Option Addr) (n c:Nat) (D:Nat->DeedV):Prop where
 le:n<=c
 mx:c<=9223372036854775807
 at_:0<c->∃ b o,a=some ⟨b,o,none⟩/\b<B/\∀ i,i<n->(∀ j,j<15->w.cell? ⟨b,o+i*15+j,none⟩=(deedL (D i))[j]?)/\DeedI B w (D i)
theorem DeedsAt.below {B:Nat} {w w':World} {a:Option Addr} {n c:Nat} {D:Nat->DeedV} (h:DeedsAt B w a n c D) (hb:Below B w w'):DeedsAt B w' a n c D :=
 ⟨h.le,h.mx,fun hc=>by
  obtain⟨b,o,rfl,hB,he⟩:=h.at_ hc;exact⟨b,o,rfl,hB,fun i hi=>⟨fun j hj=>(hb.cell (p:=⟨b,o+i*15+j,none⟩) hB).trans ((he i hi).1 j hj),⟨(he i hi).2.r.below hb,(he i hi).2.kind,(he i hi).2.page,(he i hi).2.n⟩⟩⟩⟩
theorem open_deeds {W:World} {fuel:Nat} {cs:List Value} {x:DataW H×List MemPlace} (h:DataW.trod enc Tryz.prog W 0 (fun _=>true) true fuel 22 cs=some x) (hs:Sized 22 x.1) :
  ∃ a n c D,cs=[.slice a n c]/\DeedsAt W.heap.size W a n c D:=by
 rcases Go.Deep.open_slice Tryz.underlying22 h with ⟨rfl,-⟩|⟨a,len,cap,m,n,D,Pl,rfl,-,hl,hm,hmm,rfl,hel⟩
 ·exact⟨none,0,0,fun _=>default,rfl,Nat.le_refl _,by omega,fun h=>by omega⟩
 ·have hmc:m=cap:=by simpa using hmm
  subst hmc;by_cases h0:m=0
  ·subst h0;obtain rfl:len=0:=by omega
   exact⟨_,_,_,fun _=>default,rfl,Nat.le_refl _,by omega,fun h=>by omega⟩
  obtain⟨b,o,s⟩:=a;have hspot:s=none/\b<W.heap.size:=by
   obtain⟨cs',h1,-⟩:=hel 0 (by omega);obtain⟨-,h3,h4⟩:=World.cells?_some h1;rw[Tryz.cellsDeedO] at h3 h4;have h5:=h4 0 (by decide);rw[List.getElem?_eq_getElem (by omega)] at h5;exact⟨by simpa [Addr.add] using World.cell?_spot h5,by simpa [Addr.add] using cell_lt h5⟩
  obtain⟨rfl,hb⟩:=hspot;have each:∀ i,i<len->∃ d:DeedV,(∀ j,j<15->W.cell? ⟨b,o+i*15+j,none⟩=(deedL d)[j]?)/\DeedI W.heap.size W d:=fun i hi=>by
   obtain⟨cs',h1,h2⟩:=hel i (by omega);obtain⟨-,h3,h4⟩:=World.cells?_some h1;rw[Tryz.cellsDeedO] at h3 h4;obtain⟨d,rfl,hd⟩:=open_deed h2 (hs.elem Tryz.underlying22 (List.mem_map.2 ⟨i,List.mem_range.2 hi,rfl⟩));refine⟨d,fun j hj=>?_,hd⟩;have:=h4 j hj;rw[add_plain,add_plain] at this;exact this
  obtain⟨F,hF⟩:=Go.Deep.choose_lt each;exact⟨_,_,_,F,rfl,hl,by simpa [maxLen] using hm,fun _=>⟨b,o,rfl,hb,hF⟩⟩
end
end
section
open Go.RowKit
theorem rows_keep {base size n:Nat} {e:TypeId} {W W':World} {v:Value} {xs:List Value} (h:W.ownsRow base e size v n xs) (hk:∀ b,v.ownBlock=some b->W'.heap[b]? = W.heap[b]?):W'.ownsRow base e size v n xs:=by
 obtain⟨e1,h3|⟨g,cap,cur,hv,hg,hh,r⟩⟩:=h
 ·exact⟨e1,.inl h3⟩
 ·exact⟨e1,.inr ⟨g,cap,cur,hv,hg,(hk g (by rw[hv];rfl)).trans hh,r⟩⟩
theorem rows_ge {base size n:Nat} {e:TypeId} {W:World} {v:Value} {xs:List Value} (h:W.ownsRow base e size v n xs):∀ b,v.ownBlock=some b->base<=b/\b<W.heap.size:=by
 intro b hb;obtain⟨e1,⟨h3,-⟩|⟨g,cap,cur,hv,hg,hh,r⟩⟩:=h
 ·rw[h3] at hb;cases hb
 ·rw[hv] at hb;cases hb
  exact⟨hg,(Array.getElem?_eq_some_iff.1 hh).1⟩
theorem rows_below {base size n:Nat} {e:TypeId} {W W':World} {v:Value} {xs:List Value} (h:W.ownsRow base e size v n xs) (hb:Below W.heap.size W W'):W'.ownsRow base e size v n xs:=rows_keep h (fun b e=>hb.block b (rows_ge h b e).2)
theorem rows_mono {B B' size n:Nat} {e:TypeId} {W:World} {v:Value} {xs:List Value} (h:W.ownsRow B e size v n xs) (hb:B'<=B):W.ownsRow B' e size v n xs:=by
 obtain⟨e1,h3|⟨g,cap,cur,hv,hg,r⟩⟩:=h
 ·exact⟨e1,.inl h3⟩
 ·exact⟨e1,.inr ⟨g,cap,cur,hv,Nat.le_trans hb hg,r⟩⟩
theorem rows_form {base size n:Nat} {e:TypeId} {W:World} {v:Value} {xs:List Value} (h:W.ownsRow base e size v n xs):∃ a c,v=.slice a n c/\n<=c/\c<=9223372036854775807/\(0<n->∃ g,a=some ⟨g,0,none⟩):=by
 obtain⟨e1,⟨h3,h4⟩|⟨g,cap,cur,hv,hg,hh,hle,hcap,r⟩⟩:=h
 ·exact⟨none,0,by rw[h3,h4],by omega,by omega,fun h=>by omega⟩
 ·exact⟨_,cap,hv,hle,by simpa [maxLen] using hcap,fun _=>⟨g,rfl⟩⟩
theorem append_keepC {P:Program} {w:World} {base n m cs:Nat} {v:Value} {X Q:List Value} (t ty e:TypeId) (i0:TypeInfo) (z:Value) (hu:P.underlying t=some (.slice e)) (hi:P.info? e=some i0) (hz0:i0.zero=some z) (hz1:i0.size=cs) (hzc:z.cells.size=cs)
  (h:w.ownsRow base e cs v n X) (sa:Option Addr) (c:Nat) (hsrc:∃ ad,sa=some ad/\∀ j u,Q[j]? = some u->w.cell? (ad.add j)=some u) (hone:∀ u∈Q,u.oneCell'=true)
  (hQ:Q.length=m*cs) (hm:0<m) (hbase:base<=w.heap.size) (hsize:(n+m)*i0.bytes<=140737488355328) (hcnt:n+m<=140737488355328) :
  ∃ g cap w',(Builtin.append_ #[t,t] ty #[v,.slice sa m c]).run P w=.ok (.slice (some ⟨g,0,none⟩) (n+m) cap) w'/\w'.ownsRow base e cs (.slice (some ⟨g,0,none⟩) (n+m) cap) (n+m) (X++Q)/\w'.ownsRow base e cs v n X /\
   w.grownBy w' v.ownBlock/\(v.ownBlock=some g∨g=w.heap.size):=by
 obtain⟨ad,rfl,hcell⟩:=hsrc;have hlX:=h.1;have hnews:Q.length=m*i0.size:=by rw[hz1];exact hQ
 have hall:(X++Q).length=(n+m)*cs:=by rw[List.length_append,hlX,hQ,Nat.add_mul]
 have grown:∀ old,old<n+m->(w.drew.alloc (.cells (X.toArray++Q.toArray++Builtin.zeroCells z.cells (grownCap w (n+m) old e-(n+m))) e)).ownsRow base e cs
   (.slice (some ⟨w.heap.size,0,none⟩) (n+m) (grownCap w (n+m) old e)) (n+m) (X++Q):=by
  intro old ho;have hge:=grownCap_ge w (n+m) old e;have hcm:grownCap w (n+m) old e<=maxLen:=grownCap_le_maxLen w (n+m) old e (by simp only[maxLen];omega);refine⟨hall,.inr ⟨w.heap.size,_,_,rfl,hbase,heap_alloc_new w.drew _,hge,hcm,?_,?_⟩⟩
  ·simp only[Array.size_append,List.size_toArray,size_zeroCells,hzc,hlX,hQ];rw[<- Nat.add_mul,<- Nat.add_mul]
   congr 1
   omega
  ·simp only[Array.toList_append];rw[<- hall];exact List.take_left
 have hkeep:∀ o,(w.drew.alloc o).ownsRow base e cs v n X:=fun o=>rows_below h ((Below.refl _ w).drew.alloc (Nat.le_refl _) o)
 have hgrw:∀ o row,w.grownBy (w.drew.alloc o) row:=fun o row=>⟨rfl,rfl,rfl,by simp,fun k hk _=>((Below.refl w.heap.size w).drew.alloc (Nat.le_refl _) o).block k hk⟩
 obtain⟨h1,⟨rfl,h0⟩|⟨g,cap,cur,rfl,hg,hh,hle,hcap,hcs,htk⟩⟩:=id h
 ·subst h0;have hX:X=[]:=List.eq_nil_of_length_eq_zero (by rw[h1];simp);subst hX;have hr:=run_append_nil (P:=P) w t ty e i0 _ hu hi hz0 ad m c Q hnews hcell hm (by omega) (by simp only[Nat.zero_add] at hsize;omega);have hgr:=grown 0 (by omega);simp only[Nat.zero_add,List.nil_append,Array.empty_append] at hgr ⊢;exact⟨_,_,_,hr,hgr,World.ownsRow_nil _ _ _ _,hgrw _ _,.inr rfl⟩
 ·by_cases hroom:n+m<=cap
  ·have hfit:n*i0.size+Q.length<=cur.size:=by rw[hz1,hcs,hQ,<- Nat.add_mul];exact Nat.mul_le_mul_right _ hroom
   have hr:=run_append_room (P:=P) w t ty e i0 hu hi g n cap cur hh ad m c Q hnews hcell hone hroom hfit;rw[hz1,htk] at hr;have hnew:=setRow_heap w g cur (X++Q++cur.toList.drop (n*cs+Q.length)).toArray e (0,0) hh;have hle2:n*cs+Q.length<=cap*cs:=by rw[hQ,<- Nat.add_mul];exact Nat.mul_le_mul_right _ hroom
   have hsz2:(X++Q++cur.toList.drop (n*cs+Q.length)).toArray.size=cap*cs:=by
    simp only[List.size_toArray,List.length_append,List.length_drop,Array.length_toList,hlX,hcs];omega
   refine⟨g,cap,_,hr,⟨hall,.inr ⟨g,cap,_,rfl,hg,hnew,hroom,hcap,hsz2,?_⟩⟩,⟨h1,.inr ⟨g,cap,_,rfl,hg,hnew,hle,hcap,hsz2,?_⟩⟩,⟨rfl,rfl,rfl,by simp,fun k _ hk=>setRow_other w g k _ (fun e=>hk (by simp[Value.ownBlock,e]))⟩,.inl rfl⟩
   ·rw[<- hall];exact List.take_left
   ·show (X++Q++_).take (n*cs)=X;rw[List.append_assoc,<- hlX];exact List.take_left
  ·have holds:∀ j u,X[j]? = some u->w.cell? ((⟨g,0,none⟩:Addr).add j)=some u:=World.ownsRow.cells (g:=g) h rfl;have hr:=run_append_grow (P:=P) w t ty e i0 _ hu hi hz0 ⟨g,0,none⟩ n cap X (by rw[hz1];exact hlX) holds ad m c Q hnews hcell (by omega) (by omega) (growslice_fits (by omega) hsize);exact⟨_,_,_,hr,grown cap (by omega),hkeep _,hgrw _ _,.inr rfl⟩
section
variable {e le:TypeId} {cs:Nat} {T:World->List Value->Nat->Nat->Prop} {B N K:Nat} {V:Nat->Value} {n I:Nat->Nat} {w w':World}
end
section
variable {e le:TypeId} {cs:Nat} {T:World->List Value->Nat->Nat->Prop} {B N M gb K k:Nat} {V:Nat->Value} {n I m J:Nat->Nat} {w w' w0:World}
end
end
section
open Go.RowKit
theorem wrap_in {x:Int} (h:-9223372036854775808<=x) (h':x<=9223372036854775807):IntKind.i64.wrap x=x:=IntWalk.i64_in _ (by omega)
end
section
open Go.RowKit Go.Shelf
theorem RecI.fit {B:Nat} {w:World} {r:RecV} {ka oa na da pa:Option Addr} {kc oc nc dc pc:Nat} (h:RecI B w r ka oa na da pa kc oc nc dc pc):r.Fit :=
 ⟨h.wf.work.2,h.wf.prev.2,h.wf.next.2,h.wf.page.2,fun d hd=>(h.d.fine d hd).2.2,fun x hx=>⟨(h.p.fine x hx).1.2,(h.p.fine x hx).2.2⟩⟩
structure Two (w0 W:World) (ga gb da la pa db lb pb k:Nat) (Sa Sb:Nat->Prop) (Da:DK) (La:LK) (Pa:PK) (ca:Int->List UInt8) (Db:DK) (Lb:LK) (Pb:PK) (cb:Int->List UInt8):Prop where
 a:Rig Sa W da la pa k Da La Pa ca
 b:Rig Sb W db lb pb k Db Lb Pb cb
 ab:∀ g,Sa g->¬ Sb g
 xa:W.heap[ga]? = some (rigObj da la pa)
 xb:W.heap[gb]? = some (rigObj db lb pb)
 oa:¬ Sa ga/\¬ Sa gb
 ob:¬ Sb ga/\¬ Sb gb
 bel:Below w0.heap.size w0 W
 la_:∀ g,Sa g->w0.heap.size<=g
 lb_:∀ g,Sb g->w0.heap.size<=g
 na:Pa.count=30
 nb:Pb.count=30
theorem append_lsn_le {L:LK} (h:∃ k,L.Ok k) (r:RecV):(L.append r).1<=9223372036854775807:=by
 have hm:=LK.end_max h;obtain⟨k,hk⟩:=h;have hb:=hk.end_bd;have hs:L.sheet.end_=(L.last.num+1)*512+0+1:=by
  have e:L.sheet.last=⟨L.last.num+1,0,L.last.body.length,0,[],0,false⟩:=by
   show (L.sheets++[_]).getLastD sh0=_;simp
  unfold LK.end_;rw[e];rfl
 unfold LK.append;split
 ·exact (by omega:(0:Int)<=9223372036854775807)
 ·split
  ·exact hm
  ·split
   ·exact (by omega:(0:Int)<=9223372036854775807)
   ·show L.sheet.end_<=_;rw[hs];omega
end
section
set_option maxHeartbeats 4000000
set_option maxRecDepth 100000
open Go.RowKit Go.Shelf
variable {lsn:Int} {b:List UInt8}
def recAct (r:RecV) (at_:Int):List UInt8->Int×List UInt8:=if r.kind≠6 then actTurn r.key r.old r.new else if at_=r.page then actNext r.next else actNew
def TdG (w:World) (y:Bool×Int×List UInt8) (e:Ending) (w':World):Prop:=∃ a' c',e=.returned (.tuple #[.slice a' 512 c',.bool y.1,.int .i64 y.2.1])/\RB w'.heap.size w' a' 512 c' y.2.2/\Below w.heap.size w w'/\(y.1=true->OB w.heap.size w' (.slice a' 512 c') y.2.2)
theorem doneF_no {act:List UInt8->Int×List UInt8} (h:¬ (lsnL b:Int)<lsn):doneF b lsn act=(false,0,b):=by
 unfold doneF;rw[decide_eq_false h,if_neg h];rfl
theorem doneF_err {act:List UInt8->Int×List UInt8} (h:(lsnL b:Int)<lsn) (he:(act b).1≠0):doneF b lsn act=(false,(act b).1,b):=by
 unfold doneF;rw[decide_eq_true h,if_pos h,decide_eq_false he];rfl
theorem doneF_did {act:List UInt8->Int×List UInt8} (h:(lsnL b:Int)<lsn) (he:(act b).1=0):doneF b lsn act=(true,0,setLsnL (act b).2 lsn):=by
 unfold doneF;rw[decide_eq_true h,if_pos h,decide_eq_true he,he];rfl
theorem turned_old (N:Nat) (b:List UInt8) (a:Option Addr) (cc:Nat) (r:RecV) (ka oa na da pa:Option Addr) (kc oc nc dc pc:Nat) (at_:Int) (w:World) (hb:RB N w a 512 cc b) (hk:RB N w ka r.key.length kc r.key) (ho:RB N w oa r.old.length oc r.old) (hn:RB N w na r.new.length nc r.new) (hN:N<=w.heap.size) (hl:r.lsn<=9223372036854775807) (h:¬ (lsnL b:Int)<r.lsn) :
  Calls Tryz.prog 128 #[.slice a 512 cc,recV r ka oa na da pa kc oc nc dc pc,.int .i64 at_] w (TdG w (doneF b r.lsn (recAct r at_))):=by
 rw[doneF_no h];have e1:decide ((lsnL b:Int) ≥ r.lsn)=true:=decide_eq_true (by omega);have hbl:=hb.len;have HB0:=φ hb;have HK0:=φ (And.intro hk (And.intro ho hn));have HL:=φ hl;obtain⟨w1,hw1⟩:∃ w1,w1=w.alloc (recObj r ka oa na da pa kc oc nc dc pc):=⟨_,rfl⟩
 have hB1:Below w.heap.size w w1:=by rw[hw1];exact (Below.refl _ w).alloc (Nat.le_refl _) _
 have hT1:w1.heap[w.heap.size]? = some (recObj r ka oa na da pa kc oc nc dc pc):=by rw[hw1];exact heap_alloc_new w _
 have HN1:Hid (N<=w1.heap.size):=φ (Nat.le_trans hN hB1.size);have HCp:=φ (CopyBytes_any N a 512 cc b w1 (hb.below (hB1.mono hN)) HN1.out);have Hw1:=φ hw1;have HB1:=φ hB1;have HT1:=φ hT1;have HBl:=φ hbl;have HNN:=φ hN;unfold recObj at Hw1;clear hb hk ho hn hN hl hw1 hB1 hT1 hbl h;unfold recV;go_enter Tryz.func128,Tryz.ntmps128;go_upto_region 1 with (fail);rw[<- Hw1.out];obtain⟨z,hz⟩:∃ z,z=w.heap.size:=⟨_,rfl⟩
 have HT:Hid (w1.heap[z]? = some (recObj r ka oa na da pa kc oc nc dc pc)):=φ (by rw[hz];exact HT1.out);rw[<- hz];have HZ:=φ hz;clear hz HT1;obtain⟨c0,c1,c2,c3,c4,c5,c6,c7,c8,c9,c10⟩:=ζ HT.out;go_upto_region 2 with (go_at_call 85;refine HCp.out.mono ?_;rintro e w2 ⟨⟨v,rfl,ho2⟩,hb2⟩;obtain⟨gb,cb,X,rfl,hgb,hpg⟩:=ho2.pg HBl.out.symm;have HP2:=φ hpg;have HB2:=φ hb2;have HG2:=φ hgb;have HLs:=φ (Lsn_any w2.heap.size a 512 cc b w2.drew ((HB0.out.below ((HB1.out.mono HNN.out).trans (hb2.mono HN1.out)).drew).mono (Nat.le_trans HN1.out hb2.size)) (Nat.le_refl _));have HO2:=φ ho2;clear ho2 hb2 hgb hpg);have hT2:=(HB2.out.block z (ξ HT.out)).trans HT.out;clear c0 c1 c2 c3 c4 c5 c6 c7 c8 c9 c10;obtain⟨c0,c1,c2,c3,c4,c5,c6,c7,c8,c9,c10⟩:=ζ hT2;have HT2:=φ hT2;clear hT2;go_region_held3 (fun w'=>w'.cell? ⟨z,0,none⟩=some (.int .i64 r.lsn)) (first|go_keep|assumption) (first|(go_at_call 32;refine HLs.out.mono ?_;rintro e w3 ⟨rfl,hb3⟩;have hB3:=(Below.refl w2.heap.size w2).drew.trans hb3;have hT3:=(hB3.block z (ξ HT2.out)).trans HT2.out;obtain⟨k0,k1,k2,k3,k4,k5,k6,k7,k8,k9,k10⟩:=ζ hT3;have HT3:=φ hT3;have HB3:=φ hB3;clear hb3 hB3 hT3));clear c0 c1 c2 c3 c4 c5 c6 c7 c8 c9 c10;go_wp2_with (fail);go_ret3;have hr:=(HP2.out.ob (base:=w1.heap.size) HG2.out).below HB3.out;obtain⟨a',c',ev,hrb⟩:=hr.rb (by have:=HBl.out;omega);rw[<- HBl.out] at ev hrb
 cases ev
 exact⟨_,_,rfl,hrb,((HB1.out.trans (HB2.out.mono HB1.out.size)).trans (HB3.out.mono (Nat.le_trans HB1.out.size HB2.out.size))),fun h=>by cases h⟩
theorem turned_err (N:Nat) (b:List UInt8) (a:Option Addr) (cc:Nat) (r:RecV) (ka oa na da pa:Option Addr) (kc oc nc dc pc:Nat) (at_:Int) (w:World) (hb:RB N w a 512 cc b) (hk:RB N w ka r.key.length kc r.key) (ho:RB N w oa r.old.length oc r.old) (hn:RB N w na r.new.length nc r.new) (hN:N<=w.heap.size) (hl:r.lsn<=9223372036854775807) (h:(lsnL b:Int)<r.lsn) (h6:r.kind≠6) (he:(turnL b r.key r.old r.new).1≠0) :
  Calls Tryz.prog 128 #[.slice a 512 cc,recV r ka oa na da pa kc oc nc dc pc,.int .i64 at_] w (TdG w (doneF b r.lsn (recAct r at_))):=by
 rw[show recAct r at_=actTurn r.key r.old r.new from if_pos h6,doneF_err h (by show ((turnL b r.key r.old r.new).1:Int)≠0;omega)];have e1:decide ((lsnL b:Int) ≥ r.lsn)=false:=decide_eq_false (by omega);have e6:((r.kind:Int) == 6)=false:=by simp;omega
 have e7:(((turnL b r.key r.old r.new).1:Int) == 0)=false:=by simp;omega
 have hbl:=hb.len;have HB0:=φ hb;have HK0:=φ (And.intro hk (And.intro ho hn));have HL:=φ hl;obtain⟨w1,hw1⟩:∃ w1,w1=w.alloc (recObj r ka oa na da pa kc oc nc dc pc):=⟨_,rfl⟩
 have hB1:Below w.heap.size w w1:=by rw[hw1];exact (Below.refl _ w).alloc (Nat.le_refl _) _
 have hT1:w1.heap[w.heap.size]? = some (recObj r ka oa na da pa kc oc nc dc pc):=by rw[hw1];exact heap_alloc_new w _
 have HN1:Hid (N<=w1.heap.size):=φ (Nat.le_trans hN hB1.size);have HCp:=φ (CopyBytes_any N a 512 cc b w1 (hb.below (hB1.mono hN)) HN1.out);have Hw1:=φ hw1;have HB1:=φ hB1;have HT1:=φ hT1;have HBl:=φ hbl;have HNN:=φ hN;unfold recObj at Hw1;clear hb hk ho hn hN hl hw1 hB1 hT1 hbl h h6 he;unfold recV;go_enter Tryz.func128,Tryz.ntmps128;go_upto_region 1 with (fail);rw[<- Hw1.out];obtain⟨z,hz⟩:∃ z,z=w.heap.size:=⟨_,rfl⟩
 have HT:Hid (w1.heap[z]? = some (recObj r ka oa na da pa kc oc nc dc pc)):=φ (by rw[hz];exact HT1.out);rw[<- hz];have HZ:=φ hz;clear hz HT1;obtain⟨c0,c1,c2,c3,c4,c5,c6,c7,c8,c9,c10⟩:=ζ HT.out;go_upto_region 2 with (go_at_call 85;refine HCp.out.mono ?_;rintro e w2 ⟨⟨v,rfl,ho2⟩,hb2⟩;obtain⟨gb,cb,X,rfl,hgb,hpg⟩:=ho2.pg HBl.out.symm;have HP2:=φ hpg;have HB2:=φ hb2;have HG2:=φ hgb;have HLs:=φ (Lsn_any w2.heap.size a 512 cc b w2.drew ((HB0.out.below ((HB1.out.mono HNN.out).trans (hb2.mono HN1.out)).drew).mono (Nat.le_trans HN1.out hb2.size)) (Nat.le_refl _));have HO2:=φ ho2;clear ho2 hb2 hgb hpg);have hT2:=(HB2.out.block z (ξ HT.out)).trans HT.out;clear c0 c1 c2 c3 c4 c5 c6 c7 c8 c9 c10;obtain⟨c0,c1,c2,c3,c4,c5,c6,c7,c8,c9,c10⟩:=ζ hT2;have HT2:=φ hT2;clear hT2;go_region_held3 (fun w'=>w'.cell? ⟨z,0,none⟩=some (.int .i64 r.lsn)) (first|go_keep|assumption) (first|(go_at_call 32;refine HLs.out.mono ?_;rintro e w3 ⟨rfl,hb3⟩;have hB3:=(Below.refl w2.heap.size w2).drew.trans hb3;have hT3:=(hB3.block z (ξ HT2.out)).trans HT2.out;obtain⟨k0,k1,k2,k3,k4,k5,k6,k7,k8,k9,k10⟩:=ζ hT3;have HT3:=φ hT3;have HB3:=φ hB3;clear hb3 hB3 hT3));clear c0 c1 c2 c3 c4 c5 c6 c7 c8 c9 c10;have HTu:=φ (Turn_any gb cb b X w1.heap.size ka oa na _ kc _ oc _ nc r.key r.old r.new w3 (HP2.out.below HB3.out HP2.out.lt) (.of_rb ((HK0.out.1.below (HB1.out.mono HNN.out |>.trans (HB2.out.mono HN1.out) |>.trans (HB3.out.mono (Nat.le_trans HN1.out HB2.out.size)))).mono HN1.out) HG2.out) (.of_rb ((HK0.out.2.1.below (HB1.out.mono HNN.out |>.trans (HB2.out.mono HN1.out) |>.trans (HB3.out.mono (Nat.le_trans HN1.out HB2.out.size)))).mono HN1.out) HG2.out) (.of_rb ((HK0.out.2.2.below (HB1.out.mono HNN.out |>.trans (HB2.out.mono HN1.out) |>.trans (HB3.out.mono (Nat.le_trans HN1.out HB2.out.size)))).mono HN1.out) HG2.out) (Nat.le_trans HB2.out.size HB3.out.size));go_wp2_with (go_at_call 21;refine HTu.out.mono ?_;rintro e w4 ⟨rfl,hp4,hm4⟩;have HM4:=φ hm4;clear hp4 hm4);go_ret3;have hb4:=(((HB1.out.trans (HB2.out.mono HB1.out.size)).trans (HB3.out.mono (Nat.le_trans HB1.out.size HB2.out.size))):Below w.heap.size w w3).trans (mod_below HM4.out (by have:=HB1.out.size;have:=HG2.out;omega) (by have:=((HB1.out.trans (HB2.out.mono HB1.out.size)).trans (HB3.out.mono (Nat.le_trans HB1.out.size HB2.out.size))).size;exact this));exact⟨_,_,rfl,(HB0.out.below (hb4.mono HNN.out)).mono (Nat.le_trans HNN.out hb4.size),hb4,fun h=>by cases h⟩
theorem turned_turn (N:Nat) (b:List UInt8) (a:Option Addr) (cc:Nat) (r:RecV) (ka oa na da pa:Option Addr) (kc oc nc dc pc:Nat) (at_:Int) (w:World) (hb:RB N w a 512 cc b) (hk:RB N w ka r.key.length kc r.key) (ho:RB N w oa r.old.length oc r.old) (hn:RB N w na r.new.length nc r.new) (hN:N<=w.heap.size) (hl:r.lsn<=9223372036854775807) (h:(lsnL b:Int)<r.lsn) (h6:r.kind≠6) (he:(turnL b r.key r.old r.new).1=0) :
  Calls Tryz.prog 128 #[.slice a 512 cc,recV r ka oa na da pa kc oc nc dc pc,.int .i64 at_] w (TdG w (doneF b r.lsn (recAct r at_))):=by
 rw[show recAct r at_=actTurn r.key r.old r.new from if_pos h6,doneF_did h (by show ((turnL b r.key r.old r.new).1:Int)=0;omega)];have e1:decide ((lsnL b:Int) ≥ r.lsn)=false:=decide_eq_false (by omega);have e6:((r.kind:Int) == 6)=false:=by simp;omega
 have e7:(((turnL b r.key r.old r.new).1:Int) == 0)=true:=by simp;omega
 show Calls _ _ _ _ (TdG w (true,0,setLsnL (turnL b r.key r.old r.new).2 r.lsn));have hbl:=hb.len;have HB0:=φ hb;have HK0:=φ (And.intro hk (And.intro ho hn));have HL:=φ hl;obtain⟨w1,hw1⟩:∃ w1,w1=w.alloc (recObj r ka oa na da pa kc oc nc dc pc):=⟨_,rfl⟩
 have hB1:Below w.heap.size w w1:=by rw[hw1];exact (Below.refl _ w).alloc (Nat.le_refl _) _
 have hT1:w1.heap[w.heap.size]? = some (recObj r ka oa na da pa kc oc nc dc pc):=by rw[hw1];exact heap_alloc_new w _
 have HN1:Hid (N<=w1.heap.size):=φ (Nat.le_trans hN hB1.size);have HCp:=φ (CopyBytes_any N a 512 cc b w1 (hb.below (hB1.mono hN)) HN1.out);have Hw1:=φ hw1;have HB1:=φ hB1;have HT1:=φ hT1;have HBl:=φ hbl;have HNN:=φ hN;unfold recObj at Hw1;clear hb hk ho hn hN hl hw1 hB1 hT1 hbl h h6 he;unfold recV;go_enter Tryz.func128,Tryz.ntmps128;go_upto_region 1 with (fail);rw[<- Hw1.out];obtain⟨z,hz⟩:∃ z,z=w.heap.size:=⟨_,rfl⟩
 have HT:Hid (w1.heap[z]? = some (recObj r ka oa na da pa kc oc nc dc pc)):=φ (by rw[hz];exact HT1.out);rw[<- hz];have HZ:=φ hz;clear hz HT1;obtain⟨c0,c1,c2,c3,c4,c5,c6,c7,c8,c9,c10⟩:=ζ HT.out;go_upto_region 2 with (go_at_call 85;refine HCp.out.mono ?_;rintro e w2 ⟨⟨v,rfl,ho2⟩,hb2⟩;obtain⟨gb,cb,X,rfl,hgb,hpg⟩:=ho2.pg HBl.out.symm;have HP2:=φ hpg;have HB2:=φ hb2;have HG2:=φ hgb;have HLs:=φ (Lsn_any w2.heap.size a 512 cc b w2.drew ((HB0.out.below ((HB1.out.mono HNN.out).trans (hb2.mono HN1.out)).drew).mono (Nat.le_trans HN1.out hb2.size)) (Nat.le_refl _));have HO2:=φ ho2;clear ho2 hb2 hgb hpg);have hT2:=(HB2.out.block z (ξ HT.out)).trans HT.out;clear c0 c1 c2 c3 c4 c5 c6 c7 c8 c9 c10;obtain⟨c0,c1,c2,c3,c4,c5,c6,c7,c8,c9,c10⟩:=ζ hT2;have HT2:=φ hT2;clear hT2;go_region_held3 (fun w'=>w'.cell? ⟨z,0,none⟩=some (.int .i64 r.lsn)) (first|go_keep|assumption) (first|(go_at_call 32;refine HLs.out.mono ?_;rintro e w3 ⟨rfl,hb3⟩;have hB3:=(Below.refl w2.heap.size w2).drew.trans hb3;have hT3:=(hB3.block z (ξ HT2.out)).trans HT2.out;obtain⟨k0,k1,k2,k3,k4,k5,k6,k7,k8,k9,k10⟩:=ζ hT3;have HT3:=φ hT3;have HB3:=φ hB3;clear hb3 hB3 hT3));clear c0 c1 c2 c3 c4 c5 c6 c7 c8 c9 c10;have HTu:=φ (Turn_any gb cb b X w1.heap.size ka oa na _ kc _ oc _ nc r.key r.old r.new w3 (HP2.out.below HB3.out HP2.out.lt) (.of_rb ((HK0.out.1.below (HB1.out.mono HNN.out |>.trans (HB2.out.mono HN1.out) |>.trans (HB3.out.mono (Nat.le_trans HN1.out HB2.out.size)))).mono HN1.out) HG2.out) (.of_rb ((HK0.out.2.1.below (HB1.out.mono HNN.out |>.trans (HB2.out.mono HN1.out) |>.trans (HB3.out.mono (Nat.le_trans HN1.out HB2.out.size)))).mono HN1.out) HG2.out) (.of_rb ((HK0.out.2.2.below (HB1.out.mono HNN.out |>.trans (HB2.out.mono HN1.out) |>.trans (HB3.out.mono (Nat.le_trans HN1.out HB2.out.size)))).mono HN1.out) HG2.out) (Nat.le_trans HB2.out.size HB3.out.size));have HG9:Hid (w.heap.size<=gb):=φ (by have:=HB1.out.size;have:=HG2.out;omega);go_wp2_with (first|(go_at_call 21;refine HTu.out.mono ?_;rintro e w4 ⟨rfl,hp4,hm4⟩;have HB4:Hid (Below w.heap.size w w4):=φ ((((HB1.out.trans (HB2.out.mono HB1.out.size)).trans (HB3.out.mono (Nat.le_trans HB1.out.size HB2.out.size))):Below w.heap.size w w3).trans (mod_below hm4 HG9.out ((HB1.out.trans (HB2.out.mono HB1.out.size)).trans (HB3.out.mono (Nat.le_trans HB1.out.size HB2.out.size))).size));have hT4:=(hm4.block' (k:=z) (ξ HT3.out) (by have:=ξ HT.out;have:=HG2.out;omega)).trans HT3.out;obtain⟨q0,q1,q2,q3,q4,q5,q6,q7,q8,q9,q10⟩:=ζ hT4;have HSl:=φ (SetLsn_any gb cb _ X r.lsn w4 hp4 HL.out);clear hp4 hm4 hT4)|(go_at_call 27;refine HSl.out.mono ?_;rintro e w5 ⟨rfl,hp5,hm5⟩;have HP9:=φ hp5;have HB9:Hid (Below w.heap.size w w5):=φ (HB4.out.trans (mod_below hm5 HG9.out HB4.out.size));clear hp5 hm5));go_ret3;exact⟨_,_,rfl,(HP9.out.rb.mono (by have:=HP9.out.lt;omega)),HB9.out,fun _=>HP9.out.ob HG9.out⟩
theorem turned_next (N:Nat) (b:List UInt8) (a:Option Addr) (cc:Nat) (r:RecV) (ka oa na da pa:Option Addr) (kc oc nc dc pc:Nat) (at_:Int) (w:World) (hb:RB N w a 512 cc b) (hk:RB N w ka r.key.length kc r.key) (ho:RB N w oa r.old.length oc r.old) (hn:RB N w na r.new.length nc r.new) (hN:N<=w.heap.size) (hl:r.lsn<=9223372036854775807) (h:(lsnL b:Int)<r.lsn) (h6:r.kind=6) (hat:at_=r.page) :
  Calls Tryz.prog 128 #[.slice a 512 cc,recV r ka oa na da pa kc oc nc dc pc,.int .i64 at_] w (TdG w (doneF b r.lsn (recAct r at_))):=by
 rw[show recAct r at_=actNext r.next from (if_neg (by omega)).trans (if_pos hat),doneF_did h rfl];have e1:decide ((lsnL b:Int) ≥ r.lsn)=false:=decide_eq_false (by omega);have e6:((r.kind:Int) == 6)=true:=by simp;omega
 have e7:(at_ == r.page)=true:=by simpa using hat
 show Calls _ _ _ _ (TdG w (true,0,setLsnL (setNextL b r.next) r.lsn));have hbl:=hb.len;have HB0:=φ hb;have HK0:=φ (And.intro hk (And.intro ho hn));have HL:=φ hl;obtain⟨w1,hw1⟩:∃ w1,w1=w.alloc (recObj r ka oa na da pa kc oc nc dc pc):=⟨_,rfl⟩
 have hB1:Below w.heap.size w w1:=by rw[hw1];exact (Below.refl _ w).alloc (Nat.le_refl _) _
 have hT1:w1.heap[w.heap.size]? = some (recObj r ka oa na da pa kc oc nc dc pc):=by rw[hw1];exact heap_alloc_new w _
 have HN1:Hid (N<=w1.heap.size):=φ (Nat.le_trans hN hB1.size);have HCp:=φ (CopyBytes_any N a 512 cc b w1 (hb.below (hB1.mono hN)) HN1.out);have Hw1:=φ hw1;have HB1:=φ hB1;have HT1:=φ hT1;have HBl:=φ hbl;have HNN:=φ hN;unfold recObj at Hw1;clear hb hk ho hn hN hl hw1 hB1 hT1 hbl h h6 hat;unfold recV;go_enter Tryz.func128,Tryz.ntmps128;go_upto_region 1 with (fail);rw[<- Hw1.out];obtain⟨z,hz⟩:∃ z,z=w.heap.size:=⟨_,rfl⟩
 have HT:Hid (w1.heap[z]? = some (recObj r ka oa na da pa kc oc nc dc pc)):=φ (by rw[hz];exact HT1.out);rw[<- hz];have HZ:=φ hz;clear hz HT1;obtain⟨c0,c1,c2,c3,c4,c5,c6,c7,c8,c9,c10⟩:=ζ HT.out;go_upto_region 2 with (go_at_call 85;refine HCp.out.mono ?_;rintro e w2 ⟨⟨v,rfl,ho2⟩,hb2⟩;obtain⟨gb,cb,X,rfl,hgb,hpg⟩:=ho2.pg HBl.out.symm;have HP2:=φ hpg;have HB2:=φ hb2;have HG2:=φ hgb;have HLs:=φ (Lsn_any w2.heap.size a 512 cc b w2.drew ((HB0.out.below ((HB1.out.mono HNN.out).trans (hb2.mono HN1.out)).drew).mono (Nat.le_trans HN1.out hb2.size)) (Nat.le_refl _));have HO2:=φ ho2;clear ho2 hb2 hgb hpg);have hT2:=(HB2.out.block z (ξ HT.out)).trans HT.out;clear c0 c1 c2 c3 c4 c5 c6 c7 c8 c9 c10;obtain⟨c0,c1,c2,c3,c4,c5,c6,c7,c8,c9,c10⟩:=ζ hT2;have HT2:=φ hT2;clear hT2;go_region_held3 (fun w'=>w'.cell? ⟨z,0,none⟩=some (.int .i64 r.lsn)) (first|go_keep|assumption) (first|(go_at_call 32;refine HLs.out.mono ?_;rintro e w3 ⟨rfl,hb3⟩;have hB3:=(Below.refl w2.heap.size w2).drew.trans hb3;have hT3:=(hB3.block z (ξ HT2.out)).trans HT2.out;obtain⟨k0,k1,k2,k3,k4,k5,k6,k7,k8,k9,k10⟩:=ζ hT3;have HT3:=φ hT3;have HB3:=φ hB3;clear hb3 hB3 hT3));clear c0 c1 c2 c3 c4 c5 c6 c7 c8 c9 c10;have HTu:=φ (SetNext_any gb cb b X r.next w3 (HP2.out.below HB3.out HP2.out.lt));have HG9:Hid (w.heap.size<=gb):=φ (by have:=HB1.out.size;have:=HG2.out;omega);go_wp2_with (first|(go_at_call 52;refine HTu.out.mono ?_;rintro e w4 ⟨rfl,hp4,hm4⟩;have HB4:Hid (Below w.heap.size w w4):=φ ((((HB1.out.trans (HB2.out.mono HB1.out.size)).trans (HB3.out.mono (Nat.le_trans HB1.out.size HB2.out.size))):Below w.heap.size w w3).trans (mod_below hm4 HG9.out ((HB1.out.trans (HB2.out.mono HB1.out.size)).trans (HB3.out.mono (Nat.le_trans HB1.out.size HB2.out.size))).size));have hT4:=(hm4.block' (k:=z) (ξ HT3.out) (by have:=ξ HT.out;have:=HG2.out;omega)).trans HT3.out;obtain⟨q0,q1,q2,q3,q4,q5,q6,q7,q8,q9,q10⟩:=ζ hT4;have HSl:=φ (SetLsn_any gb cb _ X r.lsn w4 hp4 HL.out);clear hp4 hm4 hT4)|(go_at_call 27;refine HSl.out.mono ?_;rintro e w5 ⟨rfl,hp5,hm5⟩;have HP9:=φ hp5;have HB9:Hid (Below w.heap.size w w5):=φ (HB4.out.trans (mod_below hm5 HG9.out HB4.out.size));clear hp5 hm5));go_ret3;exact⟨_,_,rfl,(HP9.out.rb.mono (by have:=HP9.out.lt;omega)),HB9.out,fun _=>HP9.out.ob HG9.out⟩
theorem turned_new (N:Nat) (b:List UInt8) (a:Option Addr) (cc:Nat) (r:RecV) (ka oa na da pa:Option Addr) (kc oc nc dc pc:Nat) (at_:Int) (w:World) (hb:RB N w a 512 cc b) (hk:RB N w ka r.key.length kc r.key) (ho:RB N w oa r.old.length oc r.old) (hn:RB N w na r.new.length nc r.new) (hN:N<=w.heap.size) (hl:r.lsn<=9223372036854775807) (h:(lsnL b:Int)<r.lsn) (h6:r.kind=6) (hat:at_≠r.page) :
  Calls Tryz.prog 128 #[.slice a 512 cc,recV r ka oa na da pa kc oc nc dc pc,.int .i64 at_] w (TdG w (doneF b r.lsn (recAct r at_))):=by
 rw[show recAct r at_=actNew from (if_neg (by omega)).trans (if_neg hat),doneF_did h rfl];have e1:decide ((lsnL b:Int) ≥ r.lsn)=false:=decide_eq_false (by omega);have e6:((r.kind:Int) == 6)=true:=by simp;omega
 have e7:(at_ == r.page)=false:=by simpa using hat
 show Calls _ _ _ _ (TdG w (true,0,setLsnL (List.replicate 512 0) r.lsn));have hbl:=hb.len;have HB0:=φ hb;have HK0:=φ (And.intro hk (And.intro ho hn));have HL:=φ hl;obtain⟨w1,hw1⟩:∃ w1,w1=w.alloc (recObj r ka oa na da pa kc oc nc dc pc):=⟨_,rfl⟩
 have hB1:Below w.heap.size w w1:=by rw[hw1];exact (Below.refl _ w).alloc (Nat.le_refl _) _
 have hT1:w1.heap[w.heap.size]? = some (recObj r ka oa na da pa kc oc nc dc pc):=by rw[hw1];exact heap_alloc_new w _
 have HN1:Hid (N<=w1.heap.size):=φ (Nat.le_trans hN hB1.size);have HCp:=φ (CopyBytes_any N a 512 cc b w1 (hb.below (hB1.mono hN)) HN1.out);have Hw1:=φ hw1;have HB1:=φ hB1;have HT1:=φ hT1;have HBl:=φ hbl;have HNN:=φ hN;unfold recObj at Hw1;clear hb hk ho hn hN hl hw1 hB1 hT1 hbl h h6 hat;unfold recV;go_enter Tryz.func128,Tryz.ntmps128;go_upto_region 1 with (fail);rw[<- Hw1.out];obtain⟨z,hz⟩:∃ z,z=w.heap.size:=⟨_,rfl⟩
 have HT:Hid (w1.heap[z]? = some (recObj r ka oa na da pa kc oc nc dc pc)):=φ (by rw[hz];exact HT1.out);rw[<- hz];have HZ:=φ hz;clear hz HT1;obtain⟨c0,c1,c2,c3,c4,c5,c6,c7,c8,c9,c10⟩:=ζ HT.out;go_upto_region 2 with (go_at_call 85;refine HCp.out.mono ?_;rintro e w2 ⟨⟨v,rfl,ho2⟩,hb2⟩;obtain⟨gb,cb,X,rfl,hgb,hpg⟩:=ho2.pg HBl.out.symm;have HP2:=φ hpg;have HB2:=φ hb2;have HG2:=φ hgb;have HLs:=φ (Lsn_any w2.heap.size a 512 cc b w2.drew ((HB0.out.below ((HB1.out.mono HNN.out).trans (hb2.mono HN1.out)).drew).mono (Nat.le_trans HN1.out hb2.size)) (Nat.le_refl _));have HO2:=φ ho2;clear ho2 hb2 hgb hpg);have hT2:=(HB2.out.block z (ξ HT.out)).trans HT.out;clear c0 c1 c2 c3 c4 c5 c6 c7 c8 c9 c10;obtain⟨c0,c1,c2,c3,c4,c5,c6,c7,c8,c9,c10⟩:=ζ hT2;have HT2:=φ hT2;clear hT2;go_region_held3 (fun w'=>w'.cell? ⟨z,0,none⟩=some (.int .i64 r.lsn)) (first|go_keep|assumption) (first|(go_at_call 32;refine HLs.out.mono ?_;rintro e w3 ⟨rfl,hb3⟩;have hB3:=(Below.refl w2.heap.size w2).drew.trans hb3;have hT3:=(hB3.block z (ξ HT2.out)).trans HT2.out;obtain⟨k0,k1,k2,k3,k4,k5,k6,k7,k8,k9,k10⟩:=ζ hT3;have HT3:=φ hT3;have HB3:=φ hB3;clear hb3 hB3 hT3));clear c0 c1 c2 c3 c4 c5 c6 c7 c8 c9 c10;have HNw:=φ (New_any w3);have HG9:Hid (w.heap.size<=w3.heap.size):=φ (((HB1.out.trans (HB2.out.mono HB1.out.size)).trans (HB3.out.mono (Nat.le_trans HB1.out.size HB2.out.size))):Below w.heap.size w w3).size;go_wp2_with (first|(go_at_call 25;refine HNw.out.mono ?_;rintro e w4 ⟨rfl,hp4,hm4⟩;have HB4:Hid (Below w.heap.size w w4):=φ ((((HB1.out.trans (HB2.out.mono HB1.out.size)).trans (HB3.out.mono (Nat.le_trans HB1.out.size HB2.out.size))):Below w.heap.size w w3).trans (hm4.mono HG9.out));have hT4:=(hm4.block z (ξ HT3.out)).trans HT3.out;obtain⟨q0,q1,q2,q3,q4,q5,q6,q7,q8,q9,q10⟩:=ζ hT4;have HSl:=φ (SetLsn_any w3.heap.size 512 _ [] r.lsn w4 hp4 HL.out);clear hp4 hm4 hT4)|(go_at_call 27;refine HSl.out.mono ?_;rintro e w5 ⟨rfl,hp5,hm5⟩;have HP9:=φ hp5;have HB9:Hid (Below w.heap.size w w5):=φ (HB4.out.trans (mod_below hm5 HG9.out HB4.out.size));clear hp5 hm5));go_ret3;exact⟨_,_,rfl,(HP9.out.rb.mono (by have:=HP9.out.lt;omega)),HB9.out,fun _=>HP9.out.ob HG9.out⟩
theorem ldturned_any (N:Nat) (b:List UInt8) (a:Option Addr) (cc:Nat) (r:RecV) (ka oa na da pa:Option Addr) (kc oc nc dc pc:Nat) (at_:Int) (w:World) (hb:RB N w a 512 cc b) (hk:RB N w ka r.key.length kc r.key) (ho:RB N w oa r.old.length oc r.old) (hn:RB N w na r.new.length nc r.new) (hN:N<=w.heap.size) (hl:r.lsn<=9223372036854775807) :
  Calls Tryz.prog 128 #[.slice a 512 cc,recV r ka oa na da pa kc oc nc dc pc,.int .i64 at_] w (TdG w (doneF b r.lsn (recAct r at_))):=by
 by_cases h:(lsnL b:Int)<r.lsn
 ·by_cases h6:r.kind=6
  ·by_cases hat:at_=r.page
   ·exact turned_next N b a cc r ka oa na da pa kc oc nc dc pc at_ w hb hk ho hn hN hl h h6 hat
   ·exact turned_new N b a cc r ka oa na da pa kc oc nc dc pc at_ w hb hk ho hn hN hl h h6 hat
  ·by_cases he:(turnL b r.key r.old r.new).1=0
   ·exact turned_turn N b a cc r ka oa na da pa kc oc nc dc pc at_ w hb hk ho hn hN hl h h6 he
   ·exact turned_err N b a cc r ka oa na da pa kc oc nc dc pc at_ w hb hk ho hn hN hl h h6 he
 ·exact turned_old N b a cc r ka oa na da pa kc oc nc dc pc at_ w hb hk ho hn hN hl h
end
end Go.Proofs.YtohlkkannjifmaaGreatDoor
