import Derived.Test.YtohlkkannjifmaaGreatDoorOMap
import Derived.Test.YtohlkkannjifmaaGreatDoorPageC
import Derived.Deep.MidRow
import Derived.Deep.WholeRow
import Derived.Test.YtohlkkannjifmaaGreatDoorPure3
import Derived.Test.YtohlkkannjifmaaGreatDoorPageH
import Derived.Maps.AppendAt
namespace Go.Proofs.YtohlkkannjifmaaGreatDoor
section
open Go.RowKit
variable {B d i k o s:Nat} {S T:Nat->Prop} {a b c w w':World}
structure Trn (S:Nat->Prop) (w w':World):Prop where
 os:w'.os=w.os
 tape:w'.tape=w.tape
 output:w'.output=w.output
 size:w.heap.size<=w'.heap.size
 block:∀ k,k<w.heap.size->¬ S k->w'.heap[k]? = w.heap[k]?
theorem Trn.refl (S:Nat->Prop) (w:World):Trn S w w:=⟨rfl,rfl,rfl,Nat.le_refl _,fun _ _ _=>rfl⟩
theorem Trn.trans (h:Trn S a b) (k:Trn T b c) (hT:∀ i,T i->S i∨a.heap.size<=i):Trn S a c :=
 ⟨k.os.trans h.os,k.tape.trans h.tape,k.output.trans h.output,Nat.le_trans h.size k.size,fun i hi hn=>(k.block i (Nat.lt_of_lt_of_le hi h.size) (fun ht=>by rcases hT i ht with h1|h1;exact hn h1;omega)).trans (h.block i hi hn)⟩
theorem Trn.mono (h:Trn S a b) (hS:∀ i,S i->T i∨a.heap.size<=i):Trn T a b :=
 ⟨h.os,h.tape,h.output,h.size,fun i hi hn=>h.block i hi (fun hs=>by rcases hS i hs with h1|h1;exact hn h1;omega)⟩
theorem Trn.then (h:Trn S a b) (k:Trn S b c):Trn S a c:=h.trans k fun _ hi=>.inl hi
theorem Trn.grown {row:Option Nat} (h:Trn S a b) (k:b.grownBy c row) (hr:∀ i,row=some i->S i∨a.heap.size<=i):Trn S a c :=
 h.trans (T:=fun i=>row=some i) ⟨k.os,k.tape,k.output,k.size,fun i hi hn=>k.block i hi (fun e=>hn e.symm)⟩ hr
theorem Trn.below (h:Trn S a b) (k:Below B b c) (hB:a.heap.size<=B):Trn S a c :=
 h.trans (T:=fun i=>B<=i) ⟨k.os,k.tape,k.output,k.size,fun i _ hn=>k.block i (by simpa using hn)⟩ fun _ hi=>.inr (Nat.le_trans hB hi)
theorem Trn.alloc (h:Trn S a b) (o:Obj):Trn S a (b.alloc o):=h.grown (World.grownBy_alloc b o none) (by simp)
theorem Trn.drew (h:Trn S a b):Trn S a b.drew:=⟨h.os,h.tape,h.output,h.size,h.block⟩
theorem Trn.set (h:Trn S a b) (g i:Nat) (v:Value) (hg:S g∨a.heap.size<=g):Trn S a (b.setCell ⟨g,i,none⟩ v) :=
 h.grown (row:=some g) ⟨rfl,rfl,rfl,by simp[World.setCell],fun k hk hne=>Below.heap_setCell b ⟨g,i,none⟩ v k (fun e=>hne (by rw[e]))⟩ (fun j e=>by cases e;exact hg)
theorem Trn.out (h:Trn S a b) (hB:∀ i,S i->B<=i) (hs:B<=a.heap.size):Below B a b:=⟨h.os,h.tape,h.output,h.size,fun i hi=>h.block i (by omega) (fun hS=>by have:=hB i hS;omega)⟩
theorem RB.of_block {a:Option Addr} {n c:Nat} {l:List UInt8} (h:RB B w a n c l) (hb:∀ b o s,a=some ⟨b,o,s⟩->0<c->b<B->w'.heap[b]? = w.heap[b]?):RB B w' a n c l :=
 ⟨h.len,h.le,h.mx,h.lm,fun hc=>by
  obtain⟨b,o,rfl,hB,hcell⟩:=h.at_ hc;exact⟨b,o,rfl,hB,fun i hi=>(World.cell?_of_block (w:=w) (hb b o none rfl hc hB)).trans (hcell i hi)⟩⟩
def zB:List UInt8:=List.replicate 512 0
theorem zB_len:zB.length=512:=List.length_replicate ..
def cellsB (l:List UInt8):Array Value:=(l.map bv).toArray
theorem cellsB_size (l:List UInt8):(cellsB l).size=l.length:=by unfold cellsB;rw[List.size_toArray,List.length_map]
def arrV (l:List UInt8):Value:=.agg (cellsB l)
theorem Tryz.infoSector:(Tryz.prog.info? 163).map (fun i=>(i.zero,i.size))=some (some (arrV zB),512):=by kernel_rfl
theorem zero_sector (w:World):(zeroValue 163).run Tryz.prog w=.ok (arrV zB) w:=(zero_of_info Tryz.infoSector).1 w
theorem size_sector:(Tryz.prog.info? 163).map (·.size)=some 512:=(zero_of_info Tryz.infoSector).2
structure DK where
 n:Int
 sf:Int->List UInt8
 op:Int->Option (List UInt8)
 armed:Int
 down:Bool
def DK.latest (K:DK) (i:Int):List UInt8:=(K.op i).getD (K.sf i)
def DK.may (K:DK) (i:Int):Int:=if K.down then 8 else if i<0∨K.n<=i then 6 else 0
def DK.crash (K:DK):DK:=if 0<K.armed then { K with armed:=K.armed-1,down:=decide (K.armed-1=0) } else K
def DK.put (K:DK) (i:Int) (b:List UInt8):DK:={ K with op:=fun j=>if j=i then some b else K.op j }
def DK.shut (K:DK):DK:={ K with sf:=K.latest,op:=fun _=>none }
def DK.write (K:DK) (i:Int) (b:List UInt8):Int×DK :=
 if K.may i≠0 then (K.may i,K) else if b.length≠512 then (2,K) else (if (K.put i b).crash.down then 8 else 0,(K.put i b).crash)
def DK.sync (K:DK):Int×DK:=if K.may 0≠0 then (K.may 0,K) else if K.crash.down then (8,K.crash) else (0,K.crash.shut)
def DK.fresh (n:Int):DK:=⟨n,fun _=>zB,fun _=>none,0,false⟩
structure DK.Ok (K:DK):Prop where
 n1:1<=K.n
 n2:K.n<=8192
 a1:0<=K.armed
 a2:K.armed<=9223372036854775807
 sl:∀ i,(K.sf i).length=512
 ol:∀ i l,K.op i=some l->l.length=512
theorem DK.Ok.latest {K:DK} (h:K.Ok) (i:Int):(K.latest i).length=512:=by
 unfold DK.latest
 cases e:K.op i with
 | none=>exact h.sl i
 | some l=>exact h.ol i l e
theorem DK.Ok.put {K:DK} (h:K.Ok) (i:Int) {b:List UInt8} (hb:b.length=512):(K.put i b).Ok :=
 ⟨h.n1,h.n2,h.a1,h.a2,h.sl,fun j l e=>by
  simp only[DK.put] at e;split at e
  ·cases e;exact hb
  ·exact h.ol j l e⟩
theorem DK.Ok.shut {K:DK} (h:K.Ok):K.shut.Ok:=⟨h.n1,h.n2,h.a1,h.a2,h.latest,fun i l e=>by cases e⟩
theorem DK.Ok.fresh {n:Int} (h1:1<=n) (h2:n<=8192):(DK.fresh n).Ok:=⟨h1,h2,Int.le_refl _,by show (0:Int)<=_;omega,fun _=>zB_len,fun i l e=>by cases e⟩
theorem DK.put_latest (K:DK) (i:Int) (b:List UInt8) (j:Int):(K.put i b).latest j=if j=i then b else K.latest j:=by
 unfold DK.latest DK.put;by_cases e:j=i<;>simp[e]
structure DiskR (w:World) (d s o k:Nat) (K:DK):Prop where
 blk:w.heap[d]? = some (.cells #[.int .i64 K.n,.map (some s),.map (some o),.int .i64 K.armed,.bool K.down] 150 (0,0))
 mm:∃ ks ko f g f' g',ks+ko<=k/\MH w s ks (arrV zB) f g/\(∀ i,f i=arrV (K.sf i))/\MH w o ko (arrV zB) f' g'/\(∀ i,(K.op i).isSome=g' i)/\∀ i l,K.op i=some l->f' i=arrV l
 ok:K.Ok
 sd:s≠d
 od:o≠d
 so:s≠o
def DB (d s o:Nat) (i:Nat):Prop:=i=d∨i=s∨i=o
theorem DiskR.keep {K:DK} (h:DiskR w d s o k K) (hb:∀ i,DB d s o i->w'.heap[i]? = w.heap[i]?):DiskR w' d s o k K:=by
 obtain⟨ks,ko,f,g,f',g',h0,h1,h2,h3,h4⟩:=h.mm;exact⟨(hb d (.inl rfl)).trans h.blk,⟨ks,ko,f,g,f',g',h0,h1.block (hb s (.inr (.inl rfl))),h2,h3.block (hb o (.inr (.inr rfl))),h4⟩,h.ok,h.sd,h.od,h.so⟩
theorem DiskR.lt {K:DK} (h:DiskR w d s o k K) (hi:DB d s o i):i<w.heap.size:=by
 obtain⟨ks,ko,f,g,f',g',h0,h1,h2,h3,h4⟩:=h.mm;rcases hi with rfl|rfl|rfl
 ·exact (Array.getElem?_eq_some_iff.1 h.blk).1
 ·exact h1.lt
 ·exact h3.lt
theorem DiskR.mono {k':Nat} {K:DK} (h:DiskR w d s o k K) (hk:k<=k'):DiskR w d s o k' K:=by
 obtain⟨ks,ko,f,g,f',g',h0,h1⟩:=h.mm;exact⟨h.blk,⟨ks,ko,f,g,f',g',by omega,h1⟩,h.ok,h.sd,h.od,h.so⟩
theorem DiskR.cell {K:DK} (h:DiskR w d s o k K) {v:Value} (hi:(#[Value.int .i64 K.n,.map (some s),.map (some o),.int .i64 K.armed,.bool K.down])[i]? = some v):w.cell? ⟨d,i,none⟩=some v:=by
 simp[World.cell?,h.blk,hi]
end
section
structure RecV where
 lsn:Int
 work:Int
 prev:Int
 next:Int
 kind:Nat
 page:Int
 key:List UInt8
 old:List UInt8
 new:List UInt8
 dirty:List (Int×Int)
 opn:List (Int×Int)
def riseB (l:List Int) (least:Int) (most:Nat):Bool :=
 ((List.range l.length).all fun i=>decide (least<=l.getD i 0) && (i == 0 || decide (l.getD (i-1) 0<l.getD i 0))) && decide (l.length<=most)
def pagedB (n:Int):Bool:=decide (0<=n) && decide (n<8192)
def markedB (r:RecV):Bool :=
 r.dirty.all (fun d=>decide (1<=d.2) && pagedB d.1) && r.opn.all (fun o=>decide (1<=o.2)) && riseB (r.dirty.map (·.1)) 0 32 && riseB (r.opn.map (·.1)) 1 8
def RecV.none (r:RecV):Bool:=decide (r.key.length+r.old.length+r.new.length=0)
def turnB (r:RecV):Bool:=decide (0<r.key.length) && decide (r.key.length<=40) && decide (0<max r.old.length r.new.length) && decide (r.key.length+max r.old.length r.new.length<=220)
def rightB (r:RecV):Bool :=
 if r.kind=5 then decide (r.work=0) && decide (r.prev=0) && decide (r.next=0) && decide (r.page=0) && r.none && markedB r
 else if r.work<1∨r.prev<0∨0<r.dirty.length+r.opn.length then false
 else if r.kind=1 then decide (r.next=0) && pagedB r.page && turnB r
 else if r.kind=2 then decide (0<=r.next) && pagedB r.page && turnB r
 else if r.kind=3∨r.kind=4 then decide (r.next=0) && decide (r.page=0) && r.none
 else if r.kind=6 then pagedB r.page && decide (0<r.next) && decide (r.next<8192) && r.none
 else false
def numB (n:Int) (size:Nat):List UInt8:=(List.range size).map fun i=>UInt8.ofNat (n.toNat / 2 ^ (8*(size-1-i)))
def rowB (b:List UInt8):List UInt8:=UInt8.ofNat b.length::b
def bodyB (r:RecV):List UInt8 :=
 (UInt8.ofNat r.kind::(if r.kind=5 then numB r.dirty.length 2++r.dirty.flatMap (fun d=>numB d.1 2++numB d.2 8)++numB r.opn.length 2++r.opn.flatMap (fun o=>numB o.1 8++numB o.2 8) else numB r.work 8++numB r.prev 8)) ++
 (if r.kind=2 then numB r.next 8++numB r.page 2 else if r.kind=1 then numB r.page 2 else if r.kind=6 then numB r.page 2++numB r.next 2 else []) ++
 (if 0<r.key.length then rowB r.key++rowB r.old++rowB r.new else [])
def putB (r:RecV):List UInt8:=numB ((bodyB r).length) 2++bodyB r
structure ShV where
 num:Int
 turn:Int
 before:Int
 used:Int
 body:List UInt8
 safe:Int
 lost:Bool
def ShV.at_ (s:ShV) (i:Int):Int:=s.num*512+i+1
def ShV.wants (s:ShV):Bool:=!(decide (s.safe=s.body.length)) || s.lost
def ShV.bytes (s:ShV):List UInt8 :=
 (numB s.num 8++numB s.turn 4++numB s.before 2++numB s.body.length 2++s.body)++List.replicate (512-(numB s.num 8++numB s.turn 4++numB s.before 2++numB s.body.length 2++s.body).length) 0
structure LK where
 first:Int
 count:Int
 turn:Int
 oldest:Int
 sheets:List ShV
 lsns:List Int
def sh0:ShV:=⟨0,0,0,0,[],0,false⟩
def LK.last (L:LK):ShV:=L.sheets.getLastD sh0
def LK.end_ (L:LK):Int:=L.last.at_ L.last.body.length
def LK.more (L:LK):Int:=L.count-1-L.sheets.length
def LK.sector (L:LK) (n:Int):Int:=L.first+n.tmod L.count
def LK.grow (L:LK) (b:List UInt8):LK :=
 { L with sheets:=L.sheets.dropLast++[{ L.last with body:=L.last.body++b }],lsns:=L.lsns++[L.end_] }
def LK.sheet (L:LK):LK:={ L with sheets:=L.sheets++[⟨L.last.num+1,0,L.last.body.length,0,[],0,false⟩] }
def LK.append (L:LK) (r:RecV):Int×Int×LK :=
 if rightB r=false∨496<(putB r).length then (0,4,L)
 else if L.last.body.length+(putB r).length<=496 then (L.end_,0,L.grow (putB r))
 else if L.more=0 then (0,5,L)
 else (L.sheet.end_,0,L.sheet.grow (putB r))
def LK.safe (L:LK):Int :=
 match L.sheets.find? (fun s=>decide (s.safe<s.body.length)) with
 | some s=>(L.lsns.find? (fun x=>decide (s.at_ s.safe<=x))).getD L.end_
 | none=>L.end_
def writeAll (L:LK):List ShV->DK->Int×List ShV×DK
 | [],D=>(0,[],D)
 | s::r,D =>
  if s.wants then
   if (D.write (L.sector s.num) ({ s with turn:=L.turn }:ShV).bytes).1=0 then
    ((writeAll L r (D.write (L.sector s.num) ({ s with turn:=L.turn }:ShV).bytes).2).1,{ s with turn:=L.turn }::(writeAll L r (D.write (L.sector s.num) ({ s with turn:=L.turn }:ShV).bytes).2).2.1,(writeAll L r (D.write (L.sector s.num) ({ s with turn:=L.turn }:ShV).bytes).2).2.2)
   else ((D.write (L.sector s.num) ({ s with turn:=L.turn }:ShV).bytes).1,{ s with turn:=L.turn }::r,(D.write (L.sector s.num) ({ s with turn:=L.turn }:ShV).bytes).2)
  else ((writeAll L r D).1,s::(writeAll L r D).2.1,(writeAll L r D).2.2)
def ShV.sure (s:ShV):ShV:={ s with safe:=s.body.length,lost:=false }
def LK.force (L:LK) (D:DK):Int×LK×DK :=
 if L.safe=L.end_ then (0,L,D)
 else if (writeAll L L.sheets D).1≠0 then ((writeAll L L.sheets D).1,{ L with sheets:=(writeAll L L.sheets D).2.1 },(writeAll L L.sheets D).2.2)
 else if ((writeAll L L.sheets D).2.2.sync).1≠0 then (((writeAll L L.sheets D).2.2.sync).1,{ L with sheets:=(writeAll L L.sheets D).2.1 },((writeAll L L.sheets D).2.2.sync).2)
 else (0,{ L with sheets:=(writeAll L L.sheets D).2.1.map ShV.sure },((writeAll L L.sheets D).2.2.sync).2)
end
section
structure FrV where
 page:Int
 b:List UInt8
 dirty:Bool
 first:Int
structure PK where
 frames:List FrV
 most:Nat
 first:Int
 count:Int
def behind (f:FrV) (L:LK) (D:DK):Int×LK×DK:=if L.safe<=(lsnL f.b:Int) then L.force D else (0,L,D)
def PK.write (P:PK) (i:Nat) (f:FrV) (L:LK) (D:DK):Int×PK×LK×DK :=
 if (behind f L D).1≠0 then ((behind f L D).1,P,(behind f L D).2)
 else if ((behind f L D).2.2.write (P.first+f.page) f.b).1≠0 then (((behind f L D).2.2.write (P.first+f.page) f.b).1,P,(behind f L D).2.1,((behind f L D).2.2.write (P.first+f.page) f.b).2)
 else (0,{ P with frames:=P.frames.set i { f with dirty:=false,first:=0 } },(behind f L D).2.1,((behind f L D).2.2.write (P.first+f.page) f.b).2)
def PK.new (P:PK) (n:Int) (D:DK):FrV:=⟨n,D.latest (P.first+n),false,0⟩
def PK.come (P:PK) (n:Int) (was:Option Nat) (L:LK) (D:DK):Int×Nat×PK×LK×DK :=
 if D.may (P.first+n)≠0 then (D.may (P.first+n),0,P,L,D)
 else match was with
  | none=>(0,P.frames.length,{ P with frames:=P.frames++[P.new n D] },L,D)
  | some i=>(0,i,{ P with frames:=P.frames.set i (P.new n D) },L,D)
inductive OutP (P:PK) (n:Int) (j:Nat) (f:FrV) (L:LK) (D:DK):Int×Nat×PK×LK×DK->Prop
 | clean:f.dirty=false->OutP P n j f L D (P.come n (some j) L D)
 | bad:f.dirty=true->(P.write j f L D).1≠0->OutP P n j f L D ((P.write j f L D).1,0,(P.write j f L D).2)
 | good:f.dirty=true->(P.write j f L D).1=0->OutP P n j f L D ((P.write j f L D).2.1.come n (some j) (P.write j f L D).2.2.1 (P.write j f L D).2.2.2)
inductive FrameP (P:PK) (n:Int) (L:LK) (D:DK):Int×Nat×PK×LK×DK->Prop
 | here (i:Nat) (f:FrV):P.frames[i]? = some f->f.page=n->FrameP P n L D (0,i,P,L,D)
 | more:(∀ f∈P.frames,f.page≠n)->P.frames.length<P.most->FrameP P n L D (P.come n none L D)
 | out (j:Nat) (f:FrV) (x:Int×Nat×PK×LK×DK):(∀ f∈P.frames,f.page≠n)->P.most<=P.frames.length->P.frames[j]? = some f->OutP P n j f L D x->FrameP P n L D x
inductive DoneP (P:PK) (n:Int) (lsn:Int) (act:List UInt8->Int×List UInt8) (L:LK) (D:DK):Bool×Int×PK×LK×DK->Prop
 | bad (e:Int) (i:Nat) (s:PK×LK×DK):FrameP P n L D (e,i,s)->e≠0->DoneP P n lsn act L D (false,e,s)
 | was (i:Nat) (s:PK×LK×DK) (f:FrV):FrameP P n L D (0,i,s)->s.1.frames[i]? = some f->lsn<=(lsnL f.b:Int)->DoneP P n lsn act L D (false,0,s)
 | not (i:Nat) (s:PK×LK×DK) (f:FrV):FrameP P n L D (0,i,s)->s.1.frames[i]? = some f->(lsnL f.b:Int)<lsn->(act f.b).1≠0->DoneP P n lsn act L D (false,(act f.b).1,s)
 | did (i:Nat) (s:PK×LK×DK) (f:FrV):FrameP P n L D (0,i,s)->s.1.frames[i]? = some f->(lsnL f.b:Int)<lsn->(act f.b).1=0 ->
   DoneP P n lsn act L D (true,0,{ s.1 with frames:=s.1.frames.set i { f with b:=setLsnL (act f.b).2 lsn,dirty:=true,first:=if f.dirty then f.first else lsn } },s.2)
end
section
open Go.RowKit
variable {L:LK} {k:Nat} {w w':World}
def ptr (b:Nat):Value:=.pointer (some ⟨b,0,none⟩)
def li (x:Int):Value:=.int .i64 x
structure ShR (w:World) (p:Nat) (v:Value) (s:ShV):Prop where
 blk:w.heap[p]? = some (.cells #[li s.num,li s.turn,li s.before,li s.used,v,li s.safe,.bool s.lost] 105 (0,0))
 body:OB 0 w v s.body
structure LK.Ok (L:LK) (k:Nat):Prop where
 ne:L.sheets≠[]
 num:∃ m:Int,0<=m/\m<=2251799813685248/\∀ (j:Nat) s,L.sheets[j]? = some s->s.num=m+j
 len:∀ s∈L.sheets,s.body.length<=496/\0<=s.safe/\s.safe<=s.body.length
 f1:0<=L.first
 f2:L.first<=8192
 c1:4<=L.count
 c2:L.count<=8192
 t1:1<=L.turn
 t2:L.turn<2147483648
 ct:(L.sheets.length:Int)<=L.count-1
 lk:L.lsns.length<=k
 so:L.lsns.Pairwise (· < ·)
 sb:∀ x∈L.lsns,x<L.end_
 wk:(∃ s∈L.sheets,s.safe<(s.body.length:Int))->L.lsns≠[]
 hd:∀ s∈L.sheets,0<=s.turn/\s.turn<2147483648/\0<=s.before/\s.before<=496
theorem LK.Ok.last (h:L.Ok k):L.last∈L.sheets:=by
 unfold LK.last;rw[List.getLastD_eq_getLast?,List.getLast?_eq_some_getLast h.ne];exact List.getLast_mem h.ne
theorem LK.Ok.end_bd (h:L.Ok k):0<=L.last.num/\L.last.num<=2251799813693440/\L.last.body.length<=496:=by
 obtain⟨m,h1,h2,h3⟩:=h.num;have hl:=h.len _ h.last;obtain⟨j,hj,e⟩:=List.getElem_of_mem h.last;have:=h3 j L.last (by rw[List.getElem?_eq_getElem hj,e]);have:=h.ct;have:=h.c2;exact⟨by omega,by omega,hl.1⟩
structure LogR (w:World) (U:Nat->Prop) (l d k:Nat) (L:LK):Prop where
 mm:∃ (sv tv:Value) (T:List (Nat×Value×ShV)),L.sheets=T.map (·.2.2) /\
  w.heap[l]? = some (.cells #[ptr d,li L.first,li L.count,li L.turn,li L.oldest,sv,tv] 109 (0,0)) /\
  w.ownsRow 0 100 1 sv T.length (T.map fun x=>ptr x.1)/\w.ownsRow 0 2 1 tv L.lsns.length (L.lsns.map li) /\
  (∀ x∈T,ShR w x.1 x.2.1 x.2.2)/\T.Pairwise (fun x y=>x.1≠y.1/\∀ b,x.2.1.ownBlock=some b->y.2.1.ownBlock≠some b) /\
  U l/\(∀ b,sv.ownBlock=some b->U b)/\(∀ b,tv.ownBlock=some b->U b)/\(∀ x∈T,U x.1)/\∀ x∈T,∀ b,x.2.1.ownBlock=some b->U b
 lt:∀ i,U i->i<w.heap.size
 ok:L.Ok k
theorem ωK {b e n m:Nat} {v:Value} {xs:List Value} (h:w.ownsRow b e n v m xs) (hb:∀ g,v.ownBlock=some g->w'.heap[g]? = w.heap[g]?):w'.ownsRow b e n v m xs:=by
 obtain⟨h1,h2|⟨g,cap,cur,rfl,h3,h4,h5⟩⟩:=h
 ·exact⟨h1,.inl h2⟩
 ·exact⟨h1,.inr ⟨g,cap,cur,rfl,h3,(hb g rfl).trans h4,h5⟩⟩
theorem LogR.keep {U:Nat->Prop} {l d:Nat} (h:LogR w U l d k L) (hb:∀ i,U i->w'.heap[i]? = w.heap[i]?) (hs:w.heap.size<=w'.heap.size):LogR w' U l d k L:=by
 obtain⟨sv,tv,T,h1,h2,h3,h4,h5,h6,h7,h8,h9,h10,h11⟩:=h.mm;exact⟨⟨sv,tv,T,h1,(hb l h7).trans h2,ωK h3 fun g e=>hb g (h8 g e),ωK h4 fun g e=>hb g (h9 g e),fun x hx=>⟨(hb x.1 (h10 x hx)).trans (h5 x hx).blk,ωK (h5 x hx).body fun g e=>hb g (h11 x hx g e)⟩,h6,h7,h8,h9,h10,h11⟩,
  fun i hi=>Nat.lt_of_lt_of_le (h.lt i hi) hs,h.ok⟩
theorem lthere_any (w:World) (l d:Nat) (h:w.cell? ⟨l,0,none⟩=some (ptr d)):Calls Tryz.prog 41 #[ptr l] w fun e w'=>e=.returned (.bool true)/\w'=w:=by
 unfold ptr at *;go_enter Tryz.func41,Tryz.ntmps41;go_wp2_with (fail);go_ret;exact⟨rfl,rfl⟩
theorem lsn_any (w:World) (p:Nat) (v:Value) (s:ShV) (i:Int) (h:ShR w p v s) (h1:0<=s.num) (h2:s.num<=2251799813693440) (h3:0<=i) (h4:i<=512) :
  Calls Tryz.prog 45 #[ptr p,li i] w fun e w'=>e=.returned (li (s.at_ i))/\w'=w:=by
 have c0:w.cell? ⟨p,0,none⟩=some (.int .i64 s.num):=by
  have:=h.blk;simp[World.cell?,this,li]
 unfold ShV.at_ ptr li;have e1:IntKind.i64.wrap (s.num*512)=s.num*512:=IntWalk.i64_in _ (by omega);have e2:IntKind.i64.wrap (s.num*512+i)=s.num*512+i:=IntWalk.i64_in _ (by omega);have e3:IntKind.i64.wrap (s.num*512+i+1)=s.num*512+i+1:=IntWalk.i64_in _ (by omega);clear h;generalize s.num=m at *;go_enter Tryz.func45,Tryz.ntmps45;go_wp2_with (fail);go_ret;exact⟨rfl,rfl⟩
end
section
variable {D:DK} {i:Int} {L M:LK} {b:List UInt8} {k:Nat} {s:ShV}
structure CoreEq (L M:LK):Prop where
 first:L.first=M.first
 count:L.count=M.count
 sheets:L.sheets.map (fun s=>(s.num,s.body))=M.sheets.map (fun s=>(s.num,s.body))
 lsns:L.lsns=M.lsns
theorem CoreEq.refl (L:LK):CoreEq L L:=⟨rfl,rfl,rfl,rfl⟩
theorem CoreEq.trans {N:LK} (h:CoreEq L M) (k:CoreEq M N):CoreEq L N:=⟨h.first.trans k.first,h.count.trans k.count,h.sheets.trans k.sheets,h.lsns.trans k.lsns⟩
theorem map_getLastD {α β:Type} (f:α->β) (l:List α) (d:α):(l.map f).getLastD (f d)=f (l.getLastD d):=by
 rw[List.getLastD_eq_getLast?,List.getLastD_eq_getLast?,List.getLast?_map]
 cases l.getLast?<;>rfl
theorem CoreEq.last (h:CoreEq L M):L.last.num=M.last.num/\L.last.body=M.last.body:=by
 have e1:=map_getLastD (fun s:ShV=>(s.num,s.body)) L.sheets sh0;have e2:=map_getLastD (fun s:ShV=>(s.num,s.body)) M.sheets sh0;rw[h.sheets] at e1;rw[e1] at e2;simp only[Prod.mk.injEq] at e2;exact e2
theorem CoreEq.end_ (h:CoreEq L M):L.end_=M.end_:=by
 unfold LK.end_ ShV.at_;rw[h.last.1,h.last.2]
theorem CoreEq.len (h:CoreEq L M):L.sheets.length=M.sheets.length:=by
 have:=congrArg List.length h.sheets;simpa using this
structure DK.Up (D:DK):Prop where
 a:D.armed=0
 d:D.down=false
 ok:D.Ok
theorem DK.Up.crash (h:D.Up):D.crash=D:=by unfold DK.crash;rw[if_neg (by have:=h.a;omega)]
theorem DK.Up.may (h:D.Up) (h0:0<=i) (h1:i<D.n):D.may i=0:=by
 unfold DK.may;rw[h.d,if_neg (by simp),if_neg (by omega)]
theorem DK.Up.put (h:D.Up) (i:Int) (hb:b.length=512):(D.put i b).Up:=⟨h.a,h.d,h.ok.put i hb⟩
theorem DK.Up.shut (h:D.Up):D.shut.Up:=⟨h.a,h.d,h.ok.shut⟩
theorem DK.Up.write (h:D.Up) (h0:0<=i) (h1:i<D.n) (hb:b.length=512):D.write i b=(0,D.put i b):=by
 unfold DK.write;rw[if_neg (by rw[h.may h0 h1];omega),if_neg (by omega),(h.put i hb).crash];show (if D.down then 8 else 0,_)=_;rw[h.d];rfl
theorem DK.Up.sync (h:D.Up):D.sync=(0,D.shut):=by
 unfold DK.sync;have h1:=h.ok.n1;rw[if_neg (by rw[h.may (Int.le_refl _) (by omega)];omega),h.crash,h.d];rfl
theorem numB_length (n:Int) (s:Nat):(numB n s).length=s:=by simp[numB]
theorem ShV.bytes_len (h:s.body.length<=496):s.bytes.length=512:=by
 unfold ShV.bytes;simp only[List.length_append,numB_length,List.length_replicate];omega
def ShV.wrote (t:Int) (s:ShV):ShV:=if s.wants then { s with turn:=t } else s
theorem writeAll_up (L:LK) (hc:4<=L.count) (hf:0<=L.first):∀ (l:List ShV) (D:DK),D.Up->L.first+L.count<=D.n->(∀ s∈l,0<=s.num/\s.body.length<=496) ->
  ∃ D',writeAll L l D=(0,l.map (ShV.wrote L.turn),D')/\D'.Up/\D'.n=D.n/\∀ j,L.first+L.count<=j->D'.latest j=D.latest j
 | [],D,h,_,_=>⟨D,rfl,h,rfl,fun _ _=>rfl⟩
 | s::l,D,h,hn,hs=>by
  obtain⟨h0,h1⟩:=hs s (by simp);by_cases hw:s.wants
  ·have hm1:0<=s.num.tmod L.count:=Int.tmod_nonneg _ h0;have hm2:s.num.tmod L.count<L.count:=Int.tmod_lt_of_pos _ (by omega);have hlen:(({ s with turn:=L.turn }:ShV).bytes).length=512:=ShV.bytes_len h1;have hwr:D.write (L.sector s.num) (({ s with turn:=L.turn }:ShV).bytes)=(0,D.put (L.sector s.num) (({ s with turn:=L.turn }:ShV).bytes)):=h.write (by unfold LK.sector;omega) (by unfold LK.sector;omega) hlen;obtain⟨D',e,u,n,hj⟩:=writeAll_up L hc hf l (D.put (L.sector s.num) (({ s with turn:=L.turn }:ShV).bytes)) (h.put _ hlen) hn (fun x hx=>hs x (by simp[hx]));refine⟨D',?_,u,n,fun j hge=>?_⟩
   ·unfold writeAll;rw[if_pos hw,hwr];simp only[if_pos,e,List.map_cons];unfold ShV.wrote;rw[if_pos hw]
   ·rw[hj j hge,DK.put_latest,if_neg (by unfold LK.sector;omega)]
  ·obtain⟨D',e,u,n,hj⟩:=writeAll_up L hc hf l D h hn (fun x hx=>hs x (by simp[hx]));refine⟨D',?_,u,n,hj⟩;unfold writeAll;rw[if_neg hw,e];simp only[List.map_cons];unfold ShV.wrote;rw[if_neg hw]
theorem ShV.wrote_core (t:Int) (s:ShV):((ShV.wrote t s).num,(ShV.wrote t s).body)=(s.num,s.body):=by
 unfold ShV.wrote;split<;>rfl
theorem LK.Ok.sheet (h:L.Ok k) (hs:s∈L.sheets):0<=s.num/\s.body.length<=496:=by
 obtain⟨m,h1,h2,h3⟩:=h.num;obtain⟨j,hj,e⟩:=List.getElem_of_mem hs;have:=h3 j s (by rw[List.getElem?_eq_getElem hj,e]);exact⟨by omega,(h.len s hs).1⟩
theorem force_up (hl:L.Ok k) (h:D.Up) (hn:L.first+L.count<=D.n) :
  ∃ L' D',L.force D=(0,L',D')/\CoreEq L' L/\L'.turn=L.turn/\D'.Up/\D'.n=D.n/\(∀ j,L.first+L.count<=j->D'.latest j=D.latest j)/\L'.safe=L'.end_:=by
 unfold LK.force;by_cases hs:L.safe=L.end_
 ·rw[if_pos hs];exact⟨L,D,rfl,CoreEq.refl _,rfl,h,rfl,fun _ _=>rfl,hs⟩
 ·obtain⟨D',e,u,n,hj⟩:=writeAll_up L hl.c1 hl.f1 L.sheets D h hn fun s hs=>hl.sheet hs
  rw[if_neg hs,e];simp only[u.sync];refine⟨_,_,rfl,⟨rfl,rfl,?_,rfl⟩,rfl,u.shut,n,fun j hge=>hj j hge,?_⟩
  ·simp only[List.map_map];refine List.map_congr_left fun s _=>?_
   exact ShV.wrote_core _ _
  ·unfold LK.safe;have:(List.map ShV.sure (List.map (ShV.wrote L.turn) L.sheets)).find? (fun s=>decide (s.safe<s.body.length))=none:=by
    rw[List.find?_eq_none];intro s hs;obtain⟨s',-,rfl⟩:=List.mem_map.1 hs;simp[ShV.sure]
   simp only[this]
end
section
variable {D:DK} {f:FrV} {n:Int} {L:LK} {b:List UInt8} {i k:Nat} {P:PK}
def Cont (P:PK) (D:DK) (n:Int) (b:List UInt8):Prop:=(∃ f∈P.frames,f.page=n/\f.b=b)∨((∀ f∈P.frames,f.page≠n)/\D.latest (P.first+n)=b)
structure Well (D:DK) (L:LK) (P:PK):Prop where
 up:D.Up
 lo:∃ k,L.Ok k
 fc:L.first+L.count<=P.first
 dn:P.first+P.count<=D.n
 pc:0<=P.count
 dis:P.frames.Pairwise fun f g=>f.page≠g.page
 rng:∀ f∈P.frames,0<=f.page/\f.page<P.count/\f.b.length=512
 cl:∀ f∈P.frames,f.dirty=false->D.latest (P.first+f.page)=f.b
 sz:P.frames.length<=P.most
theorem Well.uniq (h:Well D L P) {j:Nat} {g:FrV} (hi:P.frames[i]? = some f) (hj:P.frames[j]? = some g) (he:f.page=g.page):i=j:=by
 obtain⟨hi1,rfl⟩:=List.getElem?_eq_some_iff.1 hi;obtain⟨hj1,rfl⟩:=List.getElem?_eq_some_iff.1 hj;have:=List.pairwise_iff_getElem.1 h.dis;rcases Nat.lt_trichotomy i j with h1|h1|h1
 ·exact absurd he (this i j hi1 hj1 h1)
 ·exact h1
 ·exact absurd he.symm (this j i hj1 hi1 h1)
theorem Well.cont_at (h:Well D L P) (hi:P.frames[i]? = some f):Cont P D f.page b↔f.b=b:=by
 constructor
 ·rintro (⟨g,hg,he,rfl⟩|⟨h1,-⟩)
  ·obtain⟨j,hj,e⟩:=List.getElem_of_mem hg;have hj':P.frames[j]? = some g:=by rw[List.getElem?_eq_getElem hj,e]
   have:=h.uniq hi hj' he.symm;subst this;rw[hi] at hj'
   cases hj'
   rfl
  ·exact absurd rfl (h1 f (List.mem_of_getElem? hi))
 ·rintro rfl;exact .inl ⟨f,List.mem_of_getElem? hi,rfl,rfl⟩
structure Kept (D:DK) (L:LK) (P:PK) (D':DK) (L':LK) (P':PK):Prop where
 well:Well D' L' P'
 core:CoreEq L' L
 cont:∀ m b,0<=m->Cont P D m b->Cont P' D' m b
 first:P'.first=P.first
 count:P'.count=P.count
 most:P'.most=P.most
 le:P.frames.length<=P'.frames.length
theorem LK.Ok.of_core {M:LK} (h:L.Ok k) (hc:CoreEq M L) (ht:M.turn=L.turn) (hs:∀ s∈M.sheets,0<=s.safe/\s.safe<=s.body.length) (hw:(∃ s∈M.sheets,s.safe<(s.body.length:Int))->L.lsns≠[]) (hd:∀ s∈M.sheets,0<=s.turn/\s.turn<2147483648/\0<=s.before/\s.before<=496):M.Ok k:=by
 have hlen:=hc.len;have hget:∀ (j:Nat) s,M.sheets[j]? = some s->∃ s',L.sheets[j]? = some s'/\s'.num=s.num/\s'.body=s.body:=by
  intro j s hj;have:=congrArg (fun l=>l[j]?) hc.sheets;simp only[List.getElem?_map,hj,Option.map_some] at this
  cases hL:L.sheets[j]? with
  | none=>rw[hL] at this;cases this
  | some s' =>
   rw[hL] at this;simp only[Option.map_some,Option.some.injEq,Prod.mk.injEq] at this;exact⟨s',rfl,this.1.symm,this.2.symm⟩
 obtain⟨m,h1,h2,h3⟩:=h.num;refine⟨fun e=>h.ne (List.eq_nil_of_length_eq_zero (by rw[<- hlen,e];rfl)),⟨m,h1,h2,fun j s hj=>?_⟩,fun s hs'=>?_,by rw[hc.first];exact h.f1,by rw[hc.first];exact h.f2,by rw[hc.count];exact h.c1,by rw[hc.count];exact h.c2,by rw[ht];exact h.t1,by rw[ht];exact h.t2,by rw[hlen,hc.count];exact h.ct,by rw[hc.lsns];exact h.lk,by rw[hc.lsns];exact h.so,by rw[hc.lsns,hc.end_];exact h.sb,by rw[hc.lsns];exact hw,hd⟩
 ·obtain⟨s',e1,e2,-⟩:=hget j s hj;rw[<- e2];exact h3 j s' e1
 ·obtain⟨j,hj,e⟩:=List.getElem_of_mem hs';obtain⟨s',e1,-,e3⟩:=hget j s (by rw[List.getElem?_eq_getElem hj,e]);rw[<- e3];exact⟨(h.len s' (List.mem_of_getElem? e1)).1,by rw[e3];exact hs s hs'⟩
theorem force_ok (hl:L.Ok k) (h:D.Up) (hn:L.first+L.count<=D.n):(L.force D).2.1.Ok k:=by
 obtain⟨L',D',e,hc,ht,-⟩:=force_up hl h hn;rw[e];unfold LK.force at e;by_cases hs0:L.safe=L.end_
 ·rw[if_pos hs0] at e
  cases e
  exact hl
 ·obtain⟨D2,e2,u,n,hj⟩:=writeAll_up L hl.c1 hl.f1 L.sheets D h hn fun s hs=>hl.sheet hs
  rw[if_neg hs0,e2] at e;simp only[u.sync] at e
  cases e
  refine hl.of_core hc ht (fun s hs=>?_) (fun hw=>?_) (fun s hs=>?_)
  ·obtain⟨s',-,rfl⟩:=List.mem_map.1 hs;exact⟨by simp[ShV.sure],by simp[ShV.sure]⟩
  ·obtain⟨s,hs,hlt⟩:=hw;obtain⟨s',-,rfl⟩:=List.mem_map.1 hs;simp[ShV.sure] at hlt
  ·obtain⟨s',hs',rfl⟩:=List.mem_map.1 hs;obtain⟨s2,hs2,rfl⟩:=List.mem_map.1 hs';have h1:=hl.hd s2 hs2;have h2:=hl.t1;have h3:=hl.t2;unfold ShV.sure ShV.wrote;split
   ·simp only;omega
   ·exact h1
theorem behind_up (f:FrV) (hl:L.Ok k) (h:D.Up) (hn:L.first+L.count<=D.n) :
  ∃ L' D',behind f L D=(0,L',D')/\CoreEq L' L/\L'.Ok k/\D'.Up/\D'.n=D.n/\(∀ j,L.first+L.count<=j->D'.latest j=D.latest j):=by
 unfold behind;by_cases hs:L.safe<=(lsnL f.b:Int)
 ·obtain⟨L',D',e,hc,ht,hu,hn',hj,-⟩:=force_up hl h hn;have:=force_ok hl h hn;rw[e] at this;rw[if_pos hs];exact⟨L',D',e,hc,this,hu,hn',hj⟩
 ·rw[if_neg hs];exact⟨L,D,rfl,CoreEq.refl _,hl,h,rfl,fun _ _=>rfl⟩
theorem mem_set_cases {α:Type} {l:List α} {x y:α} (h:y∈l.set i x):y=x∨∃ j,j≠i/\l[j]? = some y:=by
 obtain⟨j,hj⟩:=List.mem_iff_getElem?.1 h;rw[List.getElem?_set] at hj;by_cases e:i=j
 ·subst e;rw[if_pos rfl] at hj;split at hj
  ·cases hj;exact .inl rfl
  ·cases hj
 ·rw[if_neg e] at hj;exact .inr ⟨j,fun h=>e h.symm,hj⟩
theorem set_pairs {l:List FrV} {x:FrV} (h:l.Pairwise fun f g=>f.page≠g.page) (hx:∀ j f,j≠i->l[j]? = some f->f.page≠x.page):(l.set i x).Pairwise fun f g=>f.page≠g.page:=by
 rw[List.pairwise_iff_getElem] at h ⊢;intro a b ha hb hab;rw[List.length_set] at ha hb;rw[List.getElem_set,List.getElem_set];by_cases e1:i=a
 ·rw[if_pos e1,if_neg (by omega)];exact (hx b _ (by omega) (List.getElem?_eq_getElem hb)).symm
 ·rw[if_neg e1];by_cases e2:i=b
  ·rw[if_pos e2];exact hx a _ (by omega) (List.getElem?_eq_getElem ha)
  ·rw[if_neg e2];exact h a b ha hb hab
theorem write_well (h:Well D L P) (hi:P.frames[i]? = some f) :
  ∃ P' L' D',P.write i f L D=(0,P',L',D')/\P'={ P with frames:=P.frames.set i { f with dirty:=false,first:=0 } }/\Kept D L P D' L' P':=by
 obtain⟨k,hl⟩:=h.lo;have hmem:=List.mem_of_getElem? hi;obtain⟨r1,r2,r3⟩:=h.rng f hmem;have hfc:=h.fc;have hdn:=h.dn;obtain⟨L',D',e,hc,ho,hu,hn,hj⟩:=behind_up f hl h.up (by have:=h.pc;omega);have hw:D'.write (P.first+f.page) f.b=(0,D'.put (P.first+f.page) f.b):=hu.write (by have:=hl.f1;have:=hl.c1;omega) (by omega) r3;have hlat:∀ m:Int,0<=m->(D'.put (P.first+f.page) f.b).latest (P.first+m)=if m=f.page then f.b else D.latest (P.first+m):=by
  intro m hm;rw[DK.put_latest];by_cases e:m=f.page
  ·rw[if_pos e,if_pos (by omega)]
  ·rw[if_neg e,if_neg (by omega),hj _ (by omega)]
 refine⟨_,L',D'.put (P.first+f.page) f.b,?_,rfl,⟨hu.put _ r3,⟨k,ho⟩,?_,?_,h.pc,?_,?_,?_,?_⟩,hc,?_,rfl,rfl,rfl,?_⟩
 ·unfold PK.write;rw[e];simp only[hw];rw[if_neg (by omega),if_neg (by omega)]
 ·show L'.first+L'.count<=P.first
  rw[hc.first,hc.count];exact hfc
 ·show P.first+P.count<=D'.n
  omega
 ·exact set_pairs h.dis fun j g hne hj e=>hne (h.uniq hj hi e)
 ·intro g hg;rcases mem_set_cases hg with rfl|⟨j,-,hj⟩
  ·exact⟨r1,r2,r3⟩
  ·exact h.rng g (List.mem_of_getElem? hj)
 ·intro g hg hd;show (D'.put (P.first+f.page) f.b).latest (P.first+g.page)=g.b;rcases mem_set_cases hg with rfl|⟨j,hne,hj'⟩
  ·rw[hlat _ r1,if_pos rfl]
  ·rw[hlat _ (h.rng g (List.mem_of_getElem? hj')).1,if_neg (fun e=>hne (h.uniq hj' hi e))];exact h.cl g (List.mem_of_getElem? hj') hd
 ·show (P.frames.set i _).length<=P.most;rw[List.length_set];exact h.sz
 ·rintro m b hm (⟨g,hg,rfl,rfl⟩|⟨h1,h2⟩)
  ·obtain⟨j,hj',e⟩:=List.getElem_of_mem hg;have hj2:P.frames[j]? = some g:=by rw[List.getElem?_eq_getElem hj',e]
   by_cases e2:j=i
   ·subst e2;rw[hi] at hj2
    cases hj2
    exact .inl ⟨({ f with dirty:=false,first:=0 }:FrV),List.mem_iff_getElem?.2 ⟨j,by rw[List.getElem?_set,if_pos rfl,if_pos hj']⟩,rfl,rfl⟩
   ·exact .inl ⟨g,List.mem_iff_getElem?.2 ⟨j,by rw[List.getElem?_set,if_neg (fun e=>e2 e.symm)];exact hj2⟩,rfl,rfl⟩
  ·refine .inr ⟨fun g hg=>?_,?_⟩
   ·rcases mem_set_cases hg with rfl|⟨j,-,hj'⟩
    ·exact h1 f hmem
    ·exact h1 g (List.mem_of_getElem? hj')
   ·show (D'.put (P.first+f.page) f.b).latest (P.first+m)=b;rw[DK.put_latest,if_neg (fun e=>h1 f hmem (by omega)),hj _ (by omega)];exact h2
 ·show P.frames.length<=(P.frames.set i _).length;rw[List.length_set];omega
theorem Kept.refl (h:Well D L P):Kept D L P D L P:=⟨h,CoreEq.refl _,fun _ _ _ h=>h,rfl,rfl,rfl,Nat.le_refl _⟩
theorem Kept.trans {D1 D2:DK} {L1 L2:LK} {P1 P2:PK} (h:Kept D L P D1 L1 P1) (k:Kept D1 L1 P1 D2 L2 P2):Kept D L P D2 L2 P2 :=
 ⟨k.well,k.core.trans h.core,fun m b hm hb=>k.cont m b hm (h.cont m b hm hb),k.first.trans h.first,k.count.trans h.count,k.most.trans h.most,Nat.le_trans h.le k.le⟩
theorem PK.come_none (h:D.may (P.first+n)=0):P.come n none L D=(0,P.frames.length,{ P with frames:=P.frames++[P.new n D] },L,D):=by
 unfold PK.come;rw[if_neg (by omega)]
theorem PK.come_some (i:Nat) (h:D.may (P.first+n)=0):P.come n (some i) L D=(0,i,{ P with frames:=P.frames.set i (P.new n D) },L,D):=by
 unfold PK.come;rw[if_neg (by omega)]
structure GotF (D:DK) (L:LK) (P:PK) (n:Int) (x:Int×Nat×PK×LK×DK):Prop where
 ok:x.1=0
 kept:Kept D L P x.2.2.2.2 x.2.2.2.1 x.2.2.1
 fr:∃ f,x.2.2.1.frames[x.2.1]? = some f/\f.page=n
 more:(∀ f∈P.frames,f.page≠n)->P.frames.length<P.most->x.2.2.1.frames.length=P.frames.length+1
 sub:∀ f∈x.2.2.1.frames,f.page=n∨∃ g∈P.frames,g.page=f.page
theorem come_more (h:Well D L P) (h0:0<=n) (h1:n<P.count) (hnew:∀ f∈P.frames,f.page≠n) (hroom:P.frames.length<P.most):GotF D L P n (P.come n none L D):=by
 obtain⟨k,hl⟩:=h.lo;have hfc:=h.fc;have hdn:=h.dn;have h5:=hl.f1;have h6:=hl.c1;rw[PK.come_none (h.up.may (by omega) (by omega))];have hnb:(P.new n D).b.length=512:=h.up.ok.latest _;refine⟨rfl,⟨⟨h.up,h.lo,hfc,hdn,h.pc,?_,fun f hf=>?_,fun f hf hd=>?_,?_⟩,CoreEq.refl _,?_,rfl,rfl,rfl,by simp⟩,⟨P.new n D,by simp,rfl⟩,fun _ _=>by simp,fun f hf=>?_⟩
 ·show (P.frames++[P.new n D]).Pairwise _;rw[List.pairwise_append];exact⟨h.dis,by simp,fun f hf g hg=>by rw[List.mem_singleton] at hg;subst hg;exact hnew f hf⟩
 ·rcases List.mem_append.1 hf with hf|hf
  ·exact h.rng f hf
  ·rw[List.mem_singleton] at hf;subst hf;exact⟨h0,h1,hnb⟩
 ·rcases List.mem_append.1 hf with hf|hf
  ·exact h.cl f hf hd
  ·rw[List.mem_singleton] at hf;subst hf;rfl
 ·show (P.frames++[P.new n D]).length<=P.most;rw[List.length_append];exact hroom
 ·rintro m b hm (⟨g,hg,rfl,rfl⟩|⟨h2,h3⟩)
  ·exact .inl ⟨g,List.mem_append_left _ hg,rfl,rfl⟩
  ·by_cases e:m=n
   ·subst e;exact .inl ⟨P.new m D,List.mem_append_right _ (by simp),rfl,h3⟩
   ·refine .inr ⟨fun f hf=>?_,h3⟩;rcases List.mem_append.1 hf with hf|hf
    ·exact h2 f hf
    ·rw[List.mem_singleton] at hf;subst hf;exact fun e2=>e e2.symm
 ·rcases List.mem_append.1 hf with hf|hf
  ·exact .inr ⟨f,hf,rfl⟩
  ·rw[List.mem_singleton] at hf;subst hf;exact .inl rfl
theorem come_out (h:Well D L P) (h0:0<=n) (h1:n<P.count) (hnew:∀ f∈P.frames,f.page≠n) (hi:P.frames[i]? = some f) (hd:f.dirty=false) (hfull:P.most<=P.frames.length):GotF D L P n (P.come n (some i) L D):=by
 obtain⟨k,hl⟩:=h.lo;have hfc:=h.fc;have hdn:=h.dn;have h5:=hl.f1;have h6:=hl.c1;rw[PK.come_some i (h.up.may (by omega) (by omega))];have hnb:(P.new n D).b.length=512:=h.up.ok.latest _;have hil:i<P.frames.length:=(List.getElem?_eq_some_iff.1 hi).1;have hat:(P.frames.set i (P.new n D))[i]? = some (P.new n D):=by rw[List.getElem?_set,if_pos rfl,if_pos hil]
 have hne:∀ j g,j≠i->P.frames[j]? = some g->g∈P.frames.set i (P.new n D):=fun j g e hj=>List.mem_iff_getElem?.2 ⟨j,by rw[List.getElem?_set,if_neg (fun e2=>e e2.symm)];exact hj⟩
 refine⟨rfl,⟨⟨h.up,h.lo,hfc,hdn,h.pc,?_,fun g hg=>?_,fun g hg hgd=>?_,?_⟩,CoreEq.refl _,?_,rfl,rfl,rfl,by simp⟩,⟨P.new n D,hat,rfl⟩,fun _ hlt=>by omega,fun g hg=>?_⟩
 ·exact set_pairs h.dis fun j g _ hj e=>hnew g (List.mem_of_getElem? hj) e
 ·rcases mem_set_cases hg with rfl|⟨j,-,hj⟩
  ·exact⟨h0,h1,hnb⟩
  ·exact h.rng g (List.mem_of_getElem? hj)
 ·rcases mem_set_cases hg with rfl|⟨j,-,hj⟩
  ·rfl
  ·exact h.cl g (List.mem_of_getElem? hj) hgd
 ·show (P.frames.set i _).length<=P.most;rw[List.length_set];exact h.sz
 ·rintro m b hm (⟨g,hg,rfl,rfl⟩|⟨h2,h3⟩)
  ·obtain⟨j,hj',e⟩:=List.getElem_of_mem hg;have hj2:P.frames[j]? = some g:=by rw[List.getElem?_eq_getElem hj',e]
   by_cases e2:j=i
   ·subst e2;rw[hi] at hj2
    cases hj2
    refine .inr ⟨fun x hx=>?_,h.cl f hg hd⟩;rcases mem_set_cases hx with rfl|⟨q,hq,hq2⟩
    ·exact fun e=>hnew f hg e.symm
    ·exact fun e=>hq (h.uniq hq2 hi e)
   ·exact .inl ⟨g,hne j g e2 hj2,rfl,rfl⟩
  ·by_cases e:m=n
   ·subst e;exact .inl ⟨P.new m D,List.mem_of_getElem? hat,rfl,h3⟩
   ·refine .inr ⟨fun x hx=>?_,h3⟩;rcases mem_set_cases hx with rfl|⟨q,hq,hq2⟩
    ·exact fun e2=>e e2.symm
    ·exact h2 x (List.mem_of_getElem? hq2)
 ·rcases mem_set_cases hg with rfl|⟨q,hq,hq2⟩
  ·exact .inl rfl
  ·exact .inr ⟨g,List.mem_of_getElem? hq2,rfl⟩
theorem frame_well (h:Well D L P) (h0:0<=n) (h1:n<P.count) {x:Int×Nat×PK×LK×DK} (hx:FrameP P n L D x):GotF D L P n x:=by
 cases hx with
 | here i f hi e=>exact⟨rfl,Kept.refl h,⟨f,hi,e⟩,fun hn _=>absurd e (hn f (List.mem_of_getElem? hi)),fun f hf=>.inr ⟨f,hf,rfl⟩⟩
 | more hnew hroom=>exact come_more h h0 h1 hnew hroom
 | out j f x hnew hfull hj ho =>
  obtain⟨P',L',D',e,rfl,hk⟩:=write_well h hj
  cases ho with
  | clean hd=>exact come_out h h0 h1 hnew hj hd hfull
  | bad hd hb=>rw[e] at hb;exact absurd rfl hb
  | good hd hb =>
   rw[e];have hjl:j<P.frames.length:=(List.getElem?_eq_some_iff.1 hj).1;have hat:(P.frames.set j { f with dirty:=false,first:=0 })[j]? = some { f with dirty:=false,first:=0 }:=by rw[List.getElem?_set,if_pos rfl,if_pos hjl]
   have hg:=come_out hk.well (n:=n) h0 h1 (fun g hg=>by
    rcases mem_set_cases hg with rfl|⟨q,hq,hq2⟩
    ·exact hnew f (List.mem_of_getElem? hj)
    ·exact hnew g (List.mem_of_getElem? hq2)) hat rfl (by show P.most<=(P.frames.set j _).length;rw[List.length_set];exact hfull)
   refine⟨hg.ok,hk.trans hg.kept,hg.fr,fun _ hlt=>by omega,fun g hgm=>?_⟩;rcases hg.sub g hgm with h2|⟨y,hy,hye⟩
   ·exact .inl h2
   ·rcases mem_set_cases hy with rfl|⟨q,hq,hq2⟩
    ·exact .inr ⟨f,List.mem_of_getElem? hj,hye⟩
    ·exact .inr ⟨y,List.mem_of_getElem? hq2,hye⟩
theorem done_well (h:Well D L P) {lsn:Int} (h0:0<=n) (h1:n<P.count) {act:List UInt8->Int×List UInt8} (hb:Cont P D n b) (ha:(act b).1=0->(setLsnL (act b).2 lsn).length=512)
  {x:Bool×Int×PK×LK×DK} (hx:DoneP P n lsn act L D x) :
  Well x.2.2.2.2 x.2.2.2.1 x.2.2.1/\CoreEq x.2.2.2.1 L/\x.2.2.1.first=P.first/\x.2.2.1.count=P.count/\x.2.2.1.most=P.most/\P.frames.length<=x.2.2.1.frames.length /\
  x.1=(decide ((lsnL b:Int)<lsn) && decide ((act b).1=0))/\x.2.1=(if (lsnL b:Int)<lsn then (act b).1 else 0)/\(∀ m c,0<=m->m≠n->Cont P D m c->Cont x.2.2.1 x.2.2.2.2 m c) /\
  Cont x.2.2.1 x.2.2.2.2 n (if x.1 then setLsnL (act b).2 lsn else b)/\((∀ f∈P.frames,f.page≠n)->P.frames.length<P.most->x.2.2.1.frames.length=P.frames.length+1)/\(∀ f∈x.2.2.1.frames,f.page=n∨∃ g∈P.frames,g.page=f.page):=by
 cases hx with
 | bad e i s hf he=>exact absurd (frame_well h h0 h1 hf).ok he
 | was i s f hf hi hlt =>
  have hg:=frame_well h h0 h1 hf;obtain⟨f',hf',hp⟩:=hg.fr;rw[hi] at hf'
  cases hf'
  have hfb:f.b=b:=(hg.kept.well.cont_at hi).1 (by rw[hp];exact hg.kept.cont n b h0 hb);rw[hfb] at hlt;refine⟨hg.kept.well,hg.kept.core,hg.kept.first,hg.kept.count,hg.kept.most,hg.kept.le,?_,?_,fun m c hm _ hc=>hg.kept.cont m c hm hc,hg.kept.cont n b h0 hb,hg.more,hg.sub⟩
  ·rw[decide_eq_false (by omega),Bool.false_and]
  ·rw[if_neg (by omega)]
 | not i s f hf hi hlt hne =>
  have hg:=frame_well h h0 h1 hf;obtain⟨f',hf',hp⟩:=hg.fr;rw[hi] at hf'
  cases hf'
  have hfb:f.b=b:=(hg.kept.well.cont_at hi).1 (by rw[hp];exact hg.kept.cont n b h0 hb);rw[hfb] at hlt hne ⊢;refine⟨hg.kept.well,hg.kept.core,hg.kept.first,hg.kept.count,hg.kept.most,hg.kept.le,?_,?_,fun m c hm _ hc=>hg.kept.cont m c hm hc,hg.kept.cont n b h0 hb,hg.more,hg.sub⟩
  ·rw[decide_eq_false hne,Bool.and_false]
  ·rw[if_pos hlt]
 | did i s f hf hi hlt heq =>
  have hg:=frame_well h h0 h1 hf;obtain⟨f',hf',hp⟩:=hg.fr;rw[hi] at hf'
  cases hf'
  have hfb:f.b=b:=(hg.kept.well.cont_at hi).1 (by rw[hp];exact hg.kept.cont n b h0 hb);rw[hfb] at hlt heq ⊢;have hw:=hg.kept.well;have hil:i<s.1.frames.length:=(List.getElem?_eq_some_iff.1 hi).1;obtain⟨P1,L1,D1⟩:=s;have hmem:=List.mem_of_getElem? hi;generalize hfx:({ f with b:=setLsnL (act b).2 lsn,dirty:=true,first:=if f.dirty then f.first else lsn }:FrV)=fx;have hpx:fx.page=n:=by rw[<- hfx];exact hp
  have hbx:fx.b=setLsnL (act b).2 lsn:=by rw[<- hfx]
  have hdx:fx.dirty=true:=by rw[<- hfx]
  have hat:(P1.frames.set i fx)[i]? = some fx:=by rw[List.getElem?_set,if_pos rfl,if_pos hil]
  refine⟨⟨hw.up,hw.lo,hw.fc,hw.dn,hw.pc,?_,fun g hg'=>?_,fun g hg' hd=>?_,?_⟩,hg.kept.core,hg.kept.first,hg.kept.count,hg.kept.most,?_,?_,?_,fun m c hm hne hc=>?_,?_,fun hn hr=>?_,fun g hg'=>?_⟩
  ·exact set_pairs hw.dis fun j g hne hj e=>hne (hw.uniq hj hi (by rw[e,hpx,hp]))
  ·rcases mem_set_cases hg' with rfl|⟨j,-,hj⟩
   ·have:=hw.rng f hmem;rw[hp] at this;exact⟨by rw[hpx];exact this.1,by rw[hpx];exact this.2.1,by rw[hbx];exact ha heq⟩
   ·exact hw.rng g (List.mem_of_getElem? hj)
  ·rcases mem_set_cases hg' with rfl|⟨j,-,hj⟩
   ·rw[hdx] at hd;cases hd
   ·exact hw.cl g (List.mem_of_getElem? hj) hd
  ·show (P1.frames.set i _).length<=P1.most;rw[List.length_set];exact hw.sz
  ·show P.frames.length<=(P1.frames.set i _).length;rw[List.length_set];exact hg.kept.le
  ·rw[decide_eq_true hlt,decide_eq_true heq];rfl
  ·rw[if_pos hlt,heq]
  ·rcases hg.kept.cont m c hm hc with ⟨g,hgm,rfl,rfl⟩|⟨h2,h3⟩
   ·obtain⟨j,hj',e⟩:=List.getElem_of_mem hgm;have hj2:P1.frames[j]? = some g:=(by rw[List.getElem?_eq_getElem hj',e]);by_cases e2:j=i
    ·subst e2;rw[hi] at hj2
     cases hj2
     exact absurd hp hne
    ·exact .inl ⟨g,List.mem_iff_getElem?.2 ⟨j,by rw[List.getElem?_set,if_neg (fun e=>e2 e.symm)];exact hj2⟩,rfl,rfl⟩
   ·refine .inr ⟨fun g hgm=>?_,h3⟩;rcases mem_set_cases hgm with rfl|⟨j,-,hj⟩
    ·rw[hpx];exact fun e=>hne e.symm
    ·exact h2 g (List.mem_of_getElem? hj)
  ·rw[if_pos rfl];exact .inl ⟨fx,List.mem_of_getElem? hat,hpx,hbx⟩
  ·show (P1.frames.set i _).length=_;rw[List.length_set];exact hg.more hn hr
  ·rcases mem_set_cases hg' with rfl|⟨j,-,hj⟩
   ·exact .inl hpx
   ·exact hg.sub g (List.mem_of_getElem? hj)
end
end Go.Proofs.YtohlkkannjifmaaGreatDoor
