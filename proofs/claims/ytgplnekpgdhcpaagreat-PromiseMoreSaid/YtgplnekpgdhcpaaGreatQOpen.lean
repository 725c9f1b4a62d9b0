/- Arguments opened: a slice of numbers; a slice of parts. A slice of parts opened, with int's range and the form's own reach. A slice of items opened, with int's range and the form's own reach. A state opened, with int's range and the form's own reach. -/
import Derived.Test.YtgplnekpgdhcpaaGreatQEnds
import Derived.ProofKit
import Derived.OpenShut
import Derived.Deep.Slices
import Derived.Deep.Strs
import Derived.Test.YtgplnekpgdhcpaaGreatTxA
import Derived.Test.YtgplnekpgdhcpaaGreatQMeet
import Derived.Test.YtgplnekpgdhcpaaGreatQTwSt
namespace Go.Proofs.YtgplnekpgdhcpaaGreat
open Go.ChangeShapes Go.WideShapes Go.ChangeAt Go.RowKit
section
variable {H:Type} {enc:TypeId×Value->H}
theorem Tryz.cellsI64:Tryz.prog.cellsOf 2=1:=by kernel_rfl
theorem Tryz.cellsStr:Tryz.prog.cellsOf 9=1:=by kernel_rfl
theorem Tryz.cellsPart:Tryz.prog.cellsOf 74=2:=by kernel_rfl
theorem add_plain (b o i:Nat):(⟨b,o,none⟩:Addr).add i=⟨b,o+i,none⟩:=by unfold Addr.add;split <;> simp_all
theorem cell_lt {w:World} {a:Addr} {v:Value} (h:w.cell? a=some v):a.block < w.heap.size:=by
 unfold World.cell? at h
 rcases Nat.lt_or_ge a.block w.heap.size with hl | hl
 ·exact hl
 ·rw[Array.getElem?_eq_none hl] at h;simp at h
theorem wf_in' {a:Int} (h:(Lit.int .i64 a).wf=true):-9223372036854775808<=a/\a<=9223372036854775807:=by
 simpa [Lit.wf,IntKind.min,IntKind.max,IntKind.signed,IntKind.bits] using h
end
end Go.Proofs.YtgplnekpgdhcpaaGreat
namespace Go.Proofs.YtgplnekpgdhcpaaGreat
open Go.ChangeShapes Go.WideShapes Go.ChangeAt Go.RowKit
section
variable {H:Type} {enc:TypeId×Value->H}
theorem Tryz.bytesPart:Tryz.prog.bytesOf 74=24:=by kernel_rfl
def Sized (t:TypeId) (d:DataW H):Prop:=∀ n∈d.weights Tryz.prog t,n<=reachBytes
theorem weightsAll_mem {P:Program} {e:TypeId}:∀ {l:List (DataW H)} {d:DataW H},d∈l->∀ n∈d.weights P e,n∈DataW.weightsAll P e l
 | d' :: r,d,hd,n,hn=>by
  simp only[DataW.weightsAll,List.mem_append]
  rcases List.mem_cons.1 hd with rfl | h
  ·exact Or.inl hn
  ·exact Or.inr (weightsAll_mem h n hn)
theorem Sized.elem {t e:TypeId} {l sp:List (DataW H)} (h:Sized t (.slice l sp)) (ht:Tryz.prog.underlying t=some (.slice e)) {d:DataW H} (hd:d∈l):Sized e d:=fun n hn=>by
 refine h n ?_
 simp only[DataW.weights,ht,List.mem_cons,List.mem_append]
 exact Or.inr (Or.inl (weightsAll_mem hd n hn))
set_option maxRecDepth 100000 in
theorem open_part' {W:World} {fuel:Nat} {cs:List Value} {x:DataW H×List MemPlace} (h:DataW.trod enc Tryz.prog W 0 (fun _=>true) true fuel 74 cs=some x) (hs:Sized 74 x.1) :
  ∃ p:Pt,cs=encP p/\(p.1.length<=9223372036854775807/\-9223372036854775808<=p.2/\p.2<=9223372036854775807)/\p.1.length<=140737488355328:=by
 obtain⟨xs,n,-,rfl,hl,hxl,hf⟩:=DataW.trod_struct Tryz.underlying74 h
 rw[Tryz.cellsPart] at hl
 match cs,hl with
 | [v0,v1],_ =>
  match xs,hxl with
  | [x0,x1],_ =>
   have g0:=hf 0 _ rfl
   have g1:=hf 1 _ rfl
   simp only[List.getElem?_cons_zero,List.getElem?_cons_succ] at g0 g1
   obtain⟨s,e0,ex,hs0⟩:=DataW.trod_string Tryz.underlying9 g0
   obtain⟨q,e1,-,hq⟩:=DataW.trod_int Tryz.underlying2 g1
   cases e0;cases e1;cases ex
   have hq':=wf_in' hq
   have hr:=hs s.data.toList.length (by
    simp only[DataW.weights,Tryz.underlying74]
    exact DataW.weights_mem_each (j:=0) rfl rfl _ (by simp[DataW.weights]))
   exact⟨(s.data.toList,q),by simp[encP],⟨by simpa [maxLen] using hs0,hq'.1,hq'.2⟩,by simp only[reachBytes] at hr;exact Nat.le_trans hr (by decide)⟩
set_option maxRecDepth 100000 in
theorem open_parts' {W:World} {fuel:Nat} {cs:List Value} {x:DataW H×List MemPlace} (h:DataW.trod enc Tryz.prog W 0 (fun _=>true) true fuel 64 cs=some x) (hs:Sized 64 x.1) :
  ∃ a n c P,cs=[.slice a n c]/\RP W.heap.size W a n c P/\n * 24<=140737488355328/\∀ p∈P,p.1.length<=140737488355328:=by
 rcases Go.Deep.open_slice Tryz.underlying64 h with ⟨rfl,-⟩ | ⟨a,len,cap,m,n,D,Pl,rfl,-,hl,hm,hmm,rfl,hel⟩
 ·exact⟨none,0,0,[],rfl,⟨rfl,Nat.le_refl _,by omega,(fun x hx=>by cases hx),fun h=>by omega⟩,by omega,fun p hp=>by cases hp⟩
 ·have hmc:m=cap:=by simpa using hmm
  subst hmc
  by_cases h0:m=0
  ·subst h0
   obtain rfl:len=0:=by omega
   exact⟨_,_,_,[],rfl,⟨rfl,Nat.le_refl _,by omega,(fun x hx=>by cases hx),fun h=>by omega⟩,by omega,fun p hp=>by cases hp⟩
  have hlw:=hs ((len+(m - len)) * 24) (by
   simp only[DataW.weights,Tryz.underlying64,Tryz.bytesPart,List.length_map,List.length_range,List.mem_cons]
   first | exact Or.inl trivial | exact Or.inl rfl)
  have hlen47:len * 24<=140737488355328:=by
   have hr:reachBytes<=140737488355328:=by decide
   omega
  obtain⟨b,o,s⟩:=a
  have hspot:s=none/\b < W.heap.size:=by
   obtain⟨cs',h1,-⟩:=hel 0 (by omega)
   obtain⟨-,h3,h4⟩:=World.cells?_some h1
   rw[Tryz.cellsPart] at h3 h4
   have h5:=h4 0 (by decide)
   rw[List.getElem?_eq_getElem (by omega)] at h5
   exact⟨by simpa [Addr.add] using World.cell?_spot h5,by simpa [Addr.add] using cell_lt h5⟩
  obtain⟨rfl,hb⟩:=hspot
  have each:∀ i,i < len->∃ p:Pt,(W.cell? ⟨b,o+i * 2,none⟩=some (encStr p.1)/\W.cell? ⟨b,o+i * 2+1,none⟩=some (.int .i64 p.2))/\(p.1.length<=9223372036854775807/\-9223372036854775808<=p.2/\p.2<=9223372036854775807)/\p.1.length<=140737488355328:=fun i hi=>by
   obtain⟨cs',h1,h2⟩:=hel i (by omega)
   obtain⟨-,h3,h4⟩:=World.cells?_some h1
   rw[Tryz.cellsPart] at h3 h4
   obtain⟨p,e,hp⟩:=open_part' h2 (hs.elem Tryz.underlying64 (List.mem_map.2 ⟨i,List.mem_range.2 hi,rfl⟩))
   subst e
   refine⟨p,⟨?_,?_⟩,hp⟩
   ·have:=h4 0 (by decide)
    rw[add_plain,add_plain] at this
    exact this
   ·have:=h4 1 (by decide)
    rw[add_plain,add_plain] at this
    exact this
  obtain⟨F,hF⟩:=Go.Deep.choose_lt each
  have hlen:((List.range len).map F).length=len:=by simp
  have hget:∀ i,i < len->((List.range len).map F).getD i default=F i:=fun i hi=>by
   rw[List.getD_eq_getElem?_getD,List.getElem?_map,List.getElem?_range hi];rfl
  refine⟨_,_,_,(List.range len).map F,rfl,⟨hlen.symm,hl,by simpa [maxLen] using hm,fun p hp=>?_,fun _=>⟨b,o,rfl,hb,fun i hi=>?_⟩⟩,hlen47,fun p hp=>?_⟩
  ·obtain⟨i,hi,rfl⟩:=List.mem_map.1 hp
   exact (hF i (List.mem_range.1 hi)).2.1
  ·rw[hget i hi]
   exact (hF i hi).1
  ·obtain⟨i,hi,rfl⟩:=List.mem_map.1 hp
   exact (hF i (List.mem_range.1 hi)).2.2
end
end Go.Proofs.YtgplnekpgdhcpaaGreat
namespace Go.Proofs.YtgplnekpgdhcpaaGreat
open Go.ChangeShapes Go.WideShapes Go.ChangeAt Go.RowKit
section
variable {H:Type} {enc:TypeId×Value->H}
theorem Tryz.bytesStr:Tryz.prog.bytesOf 9=16:=by kernel_rfl
set_option maxRecDepth 100000 in
theorem open_texts' {W:World} {fuel:Nat} {cs:List Value} {x:DataW H×List MemPlace} (h:DataW.trod enc Tryz.prog W 0 (fun _=>true) true fuel 43 cs=some x) (hs:Sized 43 x.1) :
  ∃ a n c T,cs=[.slice a n c]/\RT W.heap.size W a n c T/\n * 16<=140737488355328:=by
 rcases Go.Deep.open_slice Tryz.underlying43 h with ⟨rfl,-⟩ | ⟨a,len,cap,m,n,D,Pl,rfl,-,hl,hm,hmm,rfl,hel⟩
 ·exact⟨none,0,0,[],rfl,⟨rfl,Nat.le_refl _,by omega,(fun x hx=>by cases hx),fun h=>by omega⟩,by omega⟩
 ·have hmc:m=cap:=by simpa using hmm
  subst hmc
  by_cases h0:m=0
  ·subst h0
   obtain rfl:len=0:=by omega
   exact⟨_,_,_,[],rfl,⟨rfl,Nat.le_refl _,by omega,(fun x hx=>by cases hx),fun h=>by omega⟩,by omega⟩
  have hlw:=hs ((len+(m - len)) * 16) (by
   simp only[DataW.weights,Tryz.underlying43,Tryz.bytesStr,List.length_map,List.length_range,List.mem_cons]
   first | exact Or.inl trivial | exact Or.inl rfl)
  have hlen47:len * 16<=140737488355328:=by
   have hr:reachBytes<=140737488355328:=by decide
   omega
  obtain⟨b,o,s⟩:=a
  have hspot:s=none/\b < W.heap.size:=by
   obtain⟨cs',h1,-⟩:=hel 0 (by omega)
   obtain⟨-,h3,h4⟩:=World.cells?_some h1
   rw[Tryz.cellsStr] at h3 h4
   have h5:=h4 0 (by decide)
   rw[List.getElem?_eq_getElem (by omega)] at h5
   exact⟨by simpa [Addr.add] using World.cell?_spot h5,by simpa [Addr.add] using cell_lt h5⟩
  obtain⟨rfl,hb⟩:=hspot
  have each:∀ i,i < len->∃ t:List UInt8,W.cell? ⟨b,o+i,none⟩=some (encStr t)/\t.length<=9223372036854775807:=fun i hi=>by
   obtain⟨cs',h1,h2⟩:=hel i (by omega)
   obtain⟨-,h3,h4⟩:=World.cells?_some h1
   rw[Tryz.cellsStr] at h3 h4
   obtain⟨s,e0,-,hs0⟩:=DataW.trod_string Tryz.underlying9 h2
   subst e0
   refine⟨s.data.toList,?_,by simpa [maxLen] using hs0⟩
   have:=h4 0 (by decide)
   rw[add_plain,add_plain] at this
   simpa using this
  obtain⟨F,hF⟩:=Go.Deep.choose_lt each
  have hlen:((List.range len).map F).length=len:=by simp
  have hget:∀ i,i < len->((List.range len).map F).getD i []=F i:=fun i hi=>by
   rw[List.getD_eq_getElem?_getD,List.getElem?_map,List.getElem?_range hi];rfl
  refine⟨_,_,_,(List.range len).map F,rfl,⟨hlen.symm,hl,by simpa [maxLen] using hm,fun p hp=>?_,fun _=>⟨b,o,rfl,hb,fun i hi=>?_⟩⟩,hlen47⟩
  ·obtain⟨i,hi,rfl⟩:=List.mem_map.1 hp
   exact (hF i (List.mem_range.1 hi)).2
  ·rw[hget i hi]
   exact (hF i hi).1
theorem Tryz.cellsItem:Tryz.prog.cellsOf 87=4:=by kernel_rfl
theorem Tryz.cellsParts:Tryz.prog.cellsOf 64=1:=by kernel_rfl
theorem Tryz.cellsTexts:Tryz.prog.cellsOf 43=1:=by kernel_rfl
theorem Tryz.cellsIntK:Tryz.prog.cellsOf 3=1:=by kernel_rfl
def LowI (X:List It):Prop:=∀ i,i < X.length->(X.getD i default).code.length<=140737488355328/\(X.getD i default).ps.length * 24<=140737488355328/\(X.getD i default).os.length * 16<=140737488355328/\∀ p∈(X.getD i default).ps,p.1.length<=140737488355328
def LowOne (x:It):Prop:=x.code.length<=140737488355328/\x.ps.length * 24<=140737488355328/\x.os.length * 16<=140737488355328/\∀ p∈x.ps,p.1.length<=140737488355328
set_option maxRecDepth 100000 in
theorem open_item' {W:World} {fuel:Nat} {cs:List Value} {x:DataW H×List MemPlace} (h:DataW.trod enc Tryz.prog W 0 (fun _=>true) true fuel 87 cs=some x) (hs:Sized 87 x.1) :
  ∃ y:It,cs=encI y/\ItOk W.heap.size W y/\LowOne y:=by
 obtain⟨xs,n,-,rfl,hl,hxl,hf⟩:=DataW.trod_struct Tryz.underlying87 h
 rw[Tryz.cellsItem] at hl
 match cs,hl with
 | [v0,v1,v2,v3],_ =>
  match xs,hxl with
  | [x0,x1,x2,x3],_ =>
   have g0:=hf 0 _ rfl
   have g1:=hf 1 _ rfl
   have g2:=hf 2 _ rfl
   have g3:=hf 3 _ rfl
   simp only[List.getElem?_cons_zero,List.getElem?_cons_succ] at g0 g1 g2 g3
   obtain⟨s,e0,ex,hs0⟩:=DataW.trod_string Tryz.underlying9 g0
   obtain⟨q,e1,-,hq⟩:=DataW.trod_int Tryz.underlying3 g1
   cases e0;cases e1;cases ex
   have hq':=wf_in' hq
   have hr:=hs s.data.toList.length (by
    simp only[DataW.weights,Tryz.underlying87]
    exact DataW.weights_mem_each (j:=0) rfl rfl _ (by simp[DataW.weights]))
   have hs2:Sized 64 x2.1:=fun k hk=>hs k (by
    simp only[DataW.weights,Tryz.underlying87]
    exact DataW.weights_mem_each (j:=2) rfl rfl _ hk)
   have hs3:Sized 43 x3.1:=fun k hk=>hs k (by
    simp only[DataW.weights,Tryz.underlying87]
    exact DataW.weights_mem_each (j:=3) rfl rfl _ hk)
   obtain⟨pa,pn,pc,P,e2,hP,hP1,hP2⟩:=open_parts' g2 hs2
   obtain⟨ta,tn,tc,T,e3,hT,hT1⟩:=open_texts' g3 hs3
   cases e2;cases e3
   obtain rfl:=hP.len
   obtain rfl:=hT.len
   exact⟨⟨s.data.toList,q,pa,pc,P,ta,tc,T⟩,by simp[encI],⟨by simpa [maxLen] using hs0,hq'.1,hq'.2,hP,hT⟩,by simp only[reachBytes] at hr;exact Nat.le_trans hr (by decide),hP1,hT1,hP2⟩
set_option maxRecDepth 100000 in
theorem open_items' {W:World} {fuel:Nat} {cs:List Value} {x:DataW H×List MemPlace} (h:DataW.trod enc Tryz.prog W 0 (fun _=>true) true fuel 22 cs=some x) (hs:Sized 22 x.1) :
  ∃ a n c X,cs=[.slice a n c]/\RI W.heap.size W a n c X/\LowI X:=by
 rcases Go.Deep.open_slice Tryz.underlying22 h with ⟨rfl,-⟩ | ⟨a,len,cap,m,n,D,Pl,rfl,-,hl,hm,hmm,rfl,hel⟩
 ·exact⟨none,0,0,[],rfl,⟨rfl,Nat.le_refl _,by omega,(fun x hx=>by cases hx),fun h=>by omega⟩,fun i hi=>absurd hi (Nat.not_lt_zero _)⟩
 ·have hmc:m=cap:=by simpa using hmm
  subst hmc
  by_cases h0:m=0
  ·subst h0
   obtain rfl:len=0:=by omega
   exact⟨_,_,_,[],rfl,⟨rfl,Nat.le_refl _,by omega,(fun x hx=>by cases hx),fun h=>by omega⟩,fun i hi=>absurd hi (Nat.not_lt_zero _)⟩
  obtain⟨b,o,s⟩:=a
  have hspot:s=none/\b < W.heap.size:=by
   obtain⟨cs',h1,-⟩:=hel 0 (by omega)
   obtain⟨-,h3,h4⟩:=World.cells?_some h1
   rw[Tryz.cellsItem] at h3 h4
   have h5:=h4 0 (by decide)
   rw[List.getElem?_eq_getElem (by omega)] at h5
   exact⟨by simpa [Addr.add] using World.cell?_spot h5,by simpa [Addr.add] using cell_lt h5⟩
  obtain⟨rfl,hb⟩:=hspot
  have each:∀ i,i < len->∃ y:It,(∀ j,j < 4->W.cell? ⟨b,o+i * 4+j,none⟩=(encI y)[j]?)/\ItOk W.heap.size W y/\LowOne y:=fun i hi=>by
   obtain⟨cs',h1,h2⟩:=hel i (by omega)
   obtain⟨-,h3,h4⟩:=World.cells?_some h1
   rw[Tryz.cellsItem] at h3 h4
   obtain⟨y,e,hy⟩:=open_item' h2 (hs.elem Tryz.underlying22 (List.mem_map.2 ⟨i,List.mem_range.2 hi,rfl⟩))
   subst e
   refine⟨y,fun j hj=>?_,hy⟩
   have:=h4 j hj
   rw[add_plain,add_plain] at this
   exact this
  obtain⟨F,hF⟩:=Go.Deep.choose_lt each
  have hlen:((List.range len).map F).length=len:=by simp
  have hget:∀ i,i < len->((List.range len).map F).getD i default=F i:=fun i hi=>by
   rw[List.getD_eq_getElem?_getD,List.getElem?_map,List.getElem?_range hi];rfl
  refine⟨_,_,_,(List.range len).map F,rfl,⟨hlen.symm,hl,by simpa [maxLen] using hm,fun p hp=>?_,fun _=>⟨b,o,rfl,hb,fun i hi=>?_⟩⟩,fun i hi=>?_⟩
  ·obtain⟨i,hi,rfl⟩:=List.mem_map.1 hp
   exact (hF i (List.mem_range.1 hi)).2.1
  ·rw[hget i hi]
   have:=(hF i hi).1
   exact⟨this 0 (by decide),this 1 (by decide),this 2 (by decide),this 3 (by decide)⟩
  ·rw[hlen] at hi
   rw[hget i hi]
   exact (hF i hi).2.2
end
end Go.Proofs.YtgplnekpgdhcpaaGreat
namespace Go.Proofs.YtgplnekpgdhcpaaGreat
open Go.ChangeShapes Go.WideShapes Go.ChangeAt Go.RowKit
section
variable {H:Type} {enc:TypeId×Value->H}
theorem open_el {α:Type} [Inhabited α] (E:El α) (hk:Tryz.prog.cellsOf E.e=E.k) {W:World} (one:∀ {fuel:Nat} {cs:List Value} {x:DataW H×List MemPlace},DataW.trod enc Tryz.prog W 0 (fun _=>true) true fuel E.e cs=some x->∃ y:α,cs=E.enc y/\E.ok y) {fuel:Nat} {cs:List Value} {x:DataW H×List MemPlace} (h:DataW.trod enc Tryz.prog W 0 (fun _=>true) true fuel E.t cs=some x) :
  ∃ a n c X,cs=[.slice a n c]/\E.In W.heap.size W a n c X:=by
 rcases Go.Deep.open_slice E.under h with ⟨rfl,-⟩ | ⟨a,len,cap,m,n,D,Pl,rfl,-,hl,hm,hmm,rfl,hel⟩
 ·exact⟨none,0,0,[],rfl,El.In.nil _ _⟩
 ·have hmc:m=cap:=by simpa using hmm
  subst hmc
  by_cases h0:m=0
  ·subst h0
   obtain rfl:len=0:=by omega
   exact⟨_,_,_,[],rfl,⟨rfl,Nat.le_refl _,by omega,(fun x hx=>by cases hx),fun h=>by omega⟩⟩
  obtain⟨b,o,s⟩:=a
  have hkp:=E.kpos
  have hspot:s=none/\b < W.heap.size:=by
   obtain⟨cs',h1,-⟩:=hel 0 (by omega)
   obtain⟨-,h3,h4⟩:=World.cells?_some h1
   rw[hk] at h3 h4
   have h5:=h4 0 hkp
   rw[List.getElem?_eq_getElem (by omega)] at h5
   exact⟨by simpa [Addr.add] using World.cell?_spot h5,by simpa [Addr.add] using cell_lt h5⟩
  obtain⟨rfl,hb⟩:=hspot
  have each:∀ i,i < len->∃ y:α,(∀ j,j < E.k->W.cell? ⟨b,o+i * E.k+j,none⟩=(E.enc y)[j]?)/\E.ok y:=fun i hi=>by
   obtain⟨cs',h1,h2⟩:=hel i (by omega)
   obtain⟨-,h3,h4⟩:=World.cells?_some h1
   rw[hk] at h3 h4
   obtain⟨y,e,hy⟩:=one h2
   subst e
   refine⟨y,fun j hj=>?_,hy⟩
   have:=h4 j hj
   rw[add_plain,add_plain] at this
   exact this
  obtain⟨F,hF⟩:=Go.Deep.choose_lt each
  have hlen:((List.range len).map F).length=len:=by simp
  have hget:∀ i,i < len->((List.range len).map F).getD i default=F i:=fun i hi=>by
   rw[List.getD_eq_getElem?_getD,List.getElem?_map,List.getElem?_range hi];rfl
  refine⟨_,_,_,(List.range len).map F,rfl,⟨hlen.symm,hl,by simpa [maxLen] using hm,fun p hp=>?_,fun _=>⟨b,o,rfl,hb,fun i hi j hj=>?_⟩⟩⟩
  ·obtain⟨i,hi,rfl⟩:=List.mem_map.1 hp
   exact (hF i (List.mem_range.1 hi)).2
  ·rw[hget i hi]
   exact (hF i hi).1 j hj
theorem wf_u8' {a:Int} (h:(Lit.int .u8 a).wf=true):0<=a/\a<=255:=by
 simpa [Lit.wf,IntKind.min,IntKind.max,IntKind.signed,IntKind.bits] using h
theorem Tryz.cellsLotQ:Tryz.prog.cellsOf 50=6:=by kernel_rfl
theorem Tryz.cellsWinQ:Tryz.prog.cellsOf 48=2:=by kernel_rfl
theorem Tryz.cellsLineQ:Tryz.prog.cellsOf 29=8:=by kernel_rfl
theorem Tryz.cellsBoolQ:Tryz.prog.cellsOf 4=1:=by kernel_rfl
theorem Tryz.cellsStQ:Tryz.prog.cellsOf 27=1:=by kernel_rfl
theorem Tryz.cellsStateQ:Tryz.prog.cellsOf 26=6:=by kernel_rfl
theorem Tryz.cellsItemsQ:Tryz.prog.cellsOf 22=1:=by kernel_rfl
theorem Tryz.cellsLotsQ:Tryz.prog.cellsOf 23=1:=by kernel_rfl
theorem Tryz.cellsLinesQ:Tryz.prog.cellsOf 24=1:=by kernel_rfl
set_option maxRecDepth 100000 in
theorem open_winQ {W:World} {fuel:Nat} {cs:List Value} {x:DataW H×List MemPlace} (h:DataW.trod enc Tryz.prog W 0 (fun _=>true) true fuel 48 cs=some x) :
  ∃ p q:Int,cs=[.int .i64 p,.int .i64 q]/\(-9223372036854775808<=p/\p<=9223372036854775807)/\-9223372036854775808<=q/\q<=9223372036854775807:=by
 obtain⟨xs,n,-,rfl,hl,hxl,hf⟩:=DataW.trod_struct Tryz.underlying48 h
 rw[Tryz.cellsWinQ] at hl
 match cs,hl with
 | [v0,v1],_ =>
  match xs,hxl with
  | [x0,x1],_ =>
   have g0:=hf 0 _ rfl
   have g1:=hf 1 _ rfl
   simp only[List.getElem?_cons_zero,List.getElem?_cons_succ] at g0 g1
   obtain⟨q0,e0,-,h0⟩:=DataW.trod_int Tryz.underlying3 g0
   obtain⟨q1,e1,-,h1⟩:=DataW.trod_int Tryz.underlying3 g1
   cases e0;cases e1
   exact⟨_,_,rfl,wf_in' h0,wf_in' h1⟩
set_option maxRecDepth 100000 in
theorem open_lotQ {W:World} {fuel:Nat} {cs:List Value} {x:DataW H×List MemPlace} (h:DataW.trod enc Tryz.prog W 0 (fun _=>true) true fuel 50 cs=some x) :
  ∃ y:LotV,cs=encLot y/\okLot y:=by
 obtain⟨xs,n,-,rfl,hl,hxl,hf⟩:=DataW.trod_struct Tryz.underlying50 h
 rw[Tryz.cellsLotQ] at hl
 match cs,hl with
 | [v0,v1,v2,v3,v4,v5],_ =>
  match xs,hxl with
  | [x0,x1,x2,x3,x4],_ =>
   have g0:=hf 0 _ rfl
   have g1:=hf 1 _ rfl
   have g2:=hf 2 _ rfl
   have g3:=hf 3 _ rfl
   have g4:=hf 4 _ rfl
   simp only[List.getElem?_cons_zero,List.getElem?_cons_succ] at g0 g1 g2 g3 g4
   obtain⟨q0,e0,-,h0⟩:=DataW.trod_int Tryz.underlying3 g0
   obtain⟨s,e1,-,hs0⟩:=DataW.trod_string Tryz.underlying9 g1
   obtain⟨p,q,e2,h2,h3⟩:=open_winQ g2
   obtain⟨q3,e3,-,h4⟩:=DataW.trod_int Tryz.underlying2 g3
   obtain⟨r,e4,-⟩:=DataW.trod_bool Tryz.underlying4 g4
   cases e0;cases e1;cases e2;cases e3;cases e4
   exact⟨⟨q0,s.data.toList,p,q,q3,r⟩,by simp[encLot],⟨wf_in' h0,by simpa [maxLen] using hs0,h2,h3,wf_in' h4⟩⟩
set_option maxRecDepth 100000 in
theorem open_lineQ {W:World} {fuel:Nat} {cs:List Value} {x:DataW H×List MemPlace} (h:DataW.trod enc Tryz.prog W 0 (fun _=>true) true fuel 29 cs=some x) :
  ∃ y:LineV,cs=encLine y/\okLine y:=by
 obtain⟨xs,n,-,rfl,hl,hxl,hf⟩:=DataW.trod_struct Tryz.underlying29 h
 rw[Tryz.cellsLineQ] at hl
 match cs,hl with
 | [v0,v1,v2,v3,v4,v5,v6,v7],_ =>
  match xs,hxl with
  | [x0,x1,x2,x3,x4,x5,x6,x7],_ =>
   have g0:=hf 0 _ rfl
   have g1:=hf 1 _ rfl
   have g2:=hf 2 _ rfl
   have g3:=hf 3 _ rfl
   have g4:=hf 4 _ rfl
   have g5:=hf 5 _ rfl
   have g6:=hf 6 _ rfl
   have g7:=hf 7 _ rfl
   simp only[List.getElem?_cons_zero,List.getElem?_cons_succ] at g0 g1 g2 g3 g4 g5 g6 g7
   obtain⟨q0,e0,-,h0⟩:=DataW.trod_int Tryz.underlying3 g0
   obtain⟨s1,e1,-,hs1⟩:=DataW.trod_string Tryz.underlying9 g1
   obtain⟨q2,e2,-,h2⟩:=DataW.trod_int Tryz.underlying2 g2
   obtain⟨q3,e3,-,h3⟩:=DataW.trod_int Tryz.underlying3 g3
   obtain⟨q4,e4,-,h4⟩:=DataW.trod_int Tryz.underlying3 g4
   obtain⟨q5,e5,-,h5⟩:=DataW.trod_int Tryz.underlying27 g5
   obtain⟨q6,e6,-,h6⟩:=DataW.trod_int Tryz.underlying3 g6
   obtain⟨s7,e7,-,hs7⟩:=DataW.trod_string Tryz.underlying9 g7
   cases e0;cases e1;cases e2;cases e3;cases e4;cases e5;cases e6;cases e7
   exact⟨⟨q0,s1.data.toList,q2,q3,q4,q5,q6,s7.data.toList⟩,by simp[encLine],⟨wf_in' h0,by simpa [maxLen] using hs1,wf_in' h2,wf_in' h3,wf_in' h4,wf_u8' h5,wf_in' h6,by simpa [maxLen] using hs7⟩⟩
set_option maxRecDepth 100000 in
theorem open_stateQ {W:World} {fuel:Nat} {cs:List Value} {x:DataW H×List MemPlace} (h:DataW.trod enc Tryz.prog W 0 (fun _=>true) true fuel 26 cs=some x) (hs:Sized 26 x.1) :
  ∃ (now nl nx:Int) (a1:Option Addr) (n1 c1:Nat) (X:List It) (a2:Option Addr) (n2 c2:Nat) (L:List LotV) (a3:Option Addr) (n3 c3:Nat) (N:List LineV),cs=[.int .i64 now,.int .i64 nl,.int .i64 nx,.slice a1 n1 c1,.slice a2 n2 c2,.slice a3 n3 c3]/\(-9223372036854775808<=now/\now<=9223372036854775807)/\RI W.heap.size W a1 n1 c1 X/\LowI X/\lotE.In W.heap.size W a2 n2 c2 L/\lineE.In W.heap.size W a3 n3 c3 N:=by
 obtain⟨xs,n,-,rfl,hl,hxl,hf⟩:=DataW.trod_struct Tryz.underlying26 h
 rw[Tryz.cellsStateQ] at hl
 match cs,hl with
 | [v0,v1,v2,v3,v4,v5],_ =>
  match xs,hxl with
  | [x0,x1,x2,x3,x4,x5],_ =>
   have g0:=hf 0 _ rfl
   have g1:=hf 1 _ rfl
   have g2:=hf 2 _ rfl
   have g3:=hf 3 _ rfl
   have g4:=hf 4 _ rfl
   have g5:=hf 5 _ rfl
   simp only[List.getElem?_cons_zero,List.getElem?_cons_succ] at g0 g1 g2 g3 g4 g5
   obtain⟨q0,e0,-,h0⟩:=DataW.trod_int Tryz.underlying3 g0
   obtain⟨q1,e1,-,h1⟩:=DataW.trod_int Tryz.underlying3 g1
   obtain⟨q2,e2,-,h2⟩:=DataW.trod_int Tryz.underlying3 g2
   have hs3:Sized 22 x3.1:=fun k hk=>hs k (by
    simp only[DataW.weights,Tryz.underlying26]
    exact DataW.weights_mem_each (j:=3) rfl rfl _ hk)
   obtain⟨a1,n1,c1,X,e3,hX,hlow⟩:=open_items' g3 hs3
   obtain⟨a2,n2,c2,L,e4,hL⟩:=open_el lotE Tryz.cellsLotQ (fun h=>open_lotQ h) g4
   obtain⟨a3,n3,c3,N,e5,hN⟩:=open_el lineE Tryz.cellsLineQ (fun h=>open_lineQ h) g5
   cases e0;cases e1;cases e2;cases e3;cases e4;cases e5
   exact⟨_,_,_,_,_,_,X,_,_,_,L,_,_,_,N,rfl,wf_in' h0,hX,hlow,hL,hN⟩
end
end Go.Proofs.YtgplnekpgdhcpaaGreat
