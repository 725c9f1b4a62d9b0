/- A range over a function whose iterator is itself a range over a function: the contract that its loop may be told of, and the law for the caller. Memory predicates and small lemmas that the walks share: what it is for a slice of bytes to read as a list, and what a call keeps of memory. Plain Lean: parts that are joined, as a list that rises by its keys. -/
import Derived.RangeFuncWrites
import Derived.Test.YtgplnekpgdhcpaaGreatRows
import Derived.WalkKit
import Derived.WalkSpells
import Derived.WalkLawsBesides
import Derived.Deep.QuietTactic
import Derived.BigQuiet
import Derived.Handy
import Derived.Deep.Light
import Derived.Lib.Hide
import Derived.Sort.Statements
import Derived.Lib.Bytealg
import GoSem.Op.String
namespace Go.Proofs.YtgplnekpgdhcpaaGreat
open Go.RowKit
def SeqO {α:Type} (F:Fence) (n:Nat) (P:Program) (g:Nat) (lb:Array Value) (encs:α->Array Value) (Kp:World->World->Prop) (S Sp:List α->Prop) (N M:Nat) (w:World):Prop :=
 ∀ (l:Nat) (J Jx:List α->World->Prop) (W:World),Below w.heap.size w W->OwnFrom W.heap.size J->OwnFrom W.heap.size Jx ->
  (∀ pre x W1,J pre W1->pre.length < N->YieldAt F (n - 1) P l (encs x) W1 fun e W' =>
   (e = .returned (.bool true)/\J (pre ++ [x]) W'/\Kp W1 W')∨(e = .returned (.bool false)/\Jx (pre ++ [x]) W'/\KeepsFrom M W1 W')) ->
  J [] W ->
  CallsIn F n P g (#[.func (.yield l) #[] #[]] ++ lb) W fun e W'=>(∃ v,e = .returned v)/\((∃ xs,S xs/\J xs W')∨(∃ pre,Sp pre/\Jx pre W'))
theorem range_own {α:Type} {F:Fence} {n:Nat} {P:Program} {g:Operand} {ps:Array Tmp} {assign body:Code} {Q:Exit->Act->World->Prop} {a:Act} {w:World}
  (hro:F.round=none) (h1:1<=n) {gf:Nat} {lb:Array Value} (hg:a.eval g = .func (.func gf) #[] lb) (hFg:F.fn gf) (eg:∀ args w,(callFunc gf args).run P w = .ok (.enter gf args) w)
  {encs:α->Array Value} {Kp:World->World->Prop} {S Sp:List α->Prop} {N:Nat} {w0:World} (hseq:SeqO F (n - 1) P gf lb encs Kp S Sp N (w.heap.size+2) w0)
  (hKt:∀ {A B C:World},Kp A B->Kp B C->Kp A C) (hKb:∀ (W:World) (l:Nat) (o o':Obj),l=w.heap.size+1->W.heap[l]? = some o->o.isCells=false->o.isWalk=false->Kp W (W.putObj l o')) (hb0:Below w0.heap.size w0 w) (hps:∀ x,(encs x).size=ps.size)
  (I:List α->World->Prop) (Ix:Code->List α->World->Prop) (hI:OwnFrom w.heap.size I) (hIx:∀ c,OwnFrom w.heap.size (Ix c)) (h0:I [] w) (a₁:α->Act)
  (hassign:∀ (l:Nat) (x:α) (W:World) (K:Act->World->Prop),K (a₁ x) W ->
   assign.wpIn (F.inRound l) (n - 1 - 1) P (Exit.then K (fun _ _ _=>False)) { tmps:=(ps.zip (encs x)).foldl (fun t (p,v)=>t.setIfInBounds p v) a.tmps,defers:=[] } W)
  (hbody:∀ (l:Nat) (pre:List α) (x:α) (W:World),I pre W->pre.length < N->body.wpIn (F.inRound l) (n - 1 - 1) P (ownPostG w.heap.size Kp I Ix (pre ++ [x]) W) (a₁ x) W)
  (hdone:∀ (D:Nat) (xs:List α) (W:World),w.heap.size<=D->S xs->I xs W->W.heap[D]? = some (.deferred (some []))->Q .normal { a with defers:={ target:=.collected D,args:=#[] } :: a.defers } W)
  (hstop:∀ (D:Nat) (c:Code) (pre:List α) (W:World),w.heap.size<=D->Sp pre->Ix c pre W->W.heap[D]? = some (.deferred (some []))->c.wpIn F n P Q { a with defers:={ target:=.collected D,args:=#[] } :: a.defers } W) :
  (Code.rangeFunc g ps assign body).wpIn F n P Q a w:=by
 refine wpIn_rangeFunc ?_
 intro fn hfn
 rw[hro]
 obtain⟨m,hm⟩:∃ m,m=w.heap.size:=⟨_,rfl⟩
 obtain⟨st,hst⟩:∃ st:LoopState->Option Code->Loop,st=fun s j=>{ state:=s,pending:=j,fn,tmps:=a.tmps,params:=ps,assign,body,defers:=w.heap.size }:=⟨_,rfl⟩
 obtain⟨V,hV⟩:∃ V,V=(w.alloc (.deferred (some []))).alloc (.loop (st .ready none)):=⟨_,rfl⟩
 have hVs:V.heap.size=m+2:=by rw[hV,World.size_alloc,World.size_alloc,hm]
 have hVl:V.heap[m+1]? = some (.loop (st .ready none)):=by
  have:=World.alloc_heap_new (w.alloc (.deferred (some []))) (.loop (st .ready none))
  rw[World.size_alloc] at this
  rw[hV,hm];exact this
 have hVd:V.heap[m]? = some (.deferred (some [])):=by
  rw[hV,hm];exact (Below.heap_alloc _ _ _ (by rw[World.size_alloc];omega)).trans (World.alloc_heap_new w _)
 have hVI:I [] V:=by rw[hV];exact hI.alloc _ (hI.alloc _ h0)
 have hVb:Below w0.heap.size w0 V:=by
  rw[hV];exact hb0.trans ((((Below.refl _ w).alloc (Nat.le_refl _) _).alloc (by rw[World.size_alloc];omega) _).mono hb0.size)
 rw[<- hm] at hI hIx
 have far:∀ {A B:World} {row:Option Nat} {k:Nat} {o:Obj},k < m+2->A.grownBy B row->(∀ r,row=some r->V.heap.size<=r/\∃ o:Obj,A.heap[r]? = some o/\o.isCells=false)->A.heap[k]? = some o->B.heap[k]? = some o:=fun hk hg' hr ho =>
  (hg'.block _ (Array.getElem?_eq_some_iff.1 ho).1 (fun e=>by have:=(hr _ e.symm).1;omega)).trans ho
 have near:∀ {A:World} {row:Option Nat},(∀ r,row=some r->V.heap.size<=r/\∃ o:Obj,A.heap[r]? = some o/\o.isCells=false)->∀ r,row=some r->m<=r/\∃ o:Obj,A.heap[r]? = some o/\o.isCells=false:=fun hr r e=>⟨by have:=(hr r e).1;omega,(hr r e).2⟩
 refine⟨m+1,[{ target:=.collected m,args:=#[] }],V,{ target:=.fn (.func gf) lb,args:=#[.func (.yield (m+1)) #[] #[]] },V,gf,#[.func (.yield (m+1)) #[] #[]] ++ lb,V,?_,?_,?_,?_,fun _=>h1,?_⟩
 ·rw[hV,hst,hm];exact run_enterLoop_outer _ _ _ _ _
 ·simp only[resolve,hg]
  simp[go_sem]
 ·intro f' hf';simp[Target.leads] at hf';subst hf';exact hFg
 ·simp[invoke,go_sem,eg]
 ·refine (hseq (m+1) (fun pre W=>I pre W/\W.heap[m+1]? = some (.loop (st .ready none))/\W.heap[m]? = some (.deferred (some [])))
   (fun pre W=>∃ c,Ix c pre W/\W.heap[m+1]? = some (.loop (st .done (some c)))/\W.heap[m]? = some (.deferred (some []))) V hVb
   (fun s A B row hs hg' hr=>⟨hI s A B row hs.1 hg' (near hr),far (by omega) hg' hr hs.2.1,far (by omega) hg' hr hs.2.2⟩)
   (fun s A B row hs hg' hr=>by
    obtain⟨c,k1,k2,k3⟩:=hs
    exact⟨c,hIx c s A B row k1 hg' (near hr),far (by omega) hg' hr k2,far (by omega) hg' hr k3⟩) ?_ ⟨hVI,hVl,hVd⟩).mono ?_
  ·rintro pre x W ⟨hi,hl,hd⟩ hlen
   have hlt:m+1 < W.heap.size:=(Array.getElem?_eq_some_iff.1 hl).1
   have hy:=run_yield (P:=P) (args:=encs x) hl (by rw[hst];exact hps x)
   rw[hst] at hy
   refine⟨fn,_,assign,body,hy,roundIn_of_wpIn hfn (hassign _ x W _ ⟨_,run_beginRound hl (by rw[hst]),?_⟩)⟩
   obtain⟨U,hU⟩:∃ U,U=W.putObj (m+1) (.loop { st .ready none with state:=.busy }):=⟨_,rfl⟩
   rw[<- hU]
   have hUl:U.heap[m+1]? = some (.loop { st .ready none with state:=.busy }):=by rw[hU];exact World.putObj_heap_same hlt
   have hUd:U.heap[m]? = some (.deferred (some [])):=by rw[hU];exact (World.putObj_heap_other (by omega)).trans hd
   have hUk:Kp W U:=by rw[hU];exact hKb _ _ _ _ (by omega) hl rfl rfl
   have hUi:I pre U:=by rw[hU];exact hI.putObj _ hi (by omega) hl rfl
   refine wpIn_mono (hbody _ pre x U hUi hlen) ?_
   have last:∀ (j:Option Code) (Z:World),KeepsFrom m U Z->(Instr.endRound (m+1) j).run P Z = .ok (.bool j.isNone) (Z.putObj (m+1) (.loop (st (if j.isNone then .ready else .done) j)))/\Z.heap[m+1]? = some (.loop { st .ready none with state:=.busy }) /\
     (Z.putObj (m+1) (.loop (st (if j.isNone then .ready else .done) j))).heap[m+1]? = some (.loop (st (if j.isNone then .ready else .done) j))/\(Z.putObj (m+1) (.loop (st (if j.isNone then .ready else .done) j))).heap[m]? = some (.deferred (some [])):=fun j Z hk=>by
    have hz:=hk.same _ _ (by omega) hUl rfl
    have he:=run_endRound (P:=P) j hz
    rw[hst] at he ⊢
    refine⟨he,?_,World.putObj_heap_same (Array.getElem?_eq_some_iff.1 hz).1,(World.putObj_heap_other (by omega)).trans (hk.same _ _ (Nat.le_refl _) hUd rfl)⟩
    rw[hst] at hz;exact hz
   have keep:∀ (Z:World) (o':Obj),KeepsFrom m U Z->KeepsFrom (w.heap.size+2) W (Z.putObj (m+1) o'):=fun Z o' hk=>⟨by
     have h1:U.heap.size=W.heap.size:=by rw[hU];simp[World.putObj]
     have h2:(Z.putObj (m+1) o').heap.size=Z.heap.size:=by simp[World.putObj]
     have h3:=hk.size
     omega,fun k o hk1 hk2 hk3=>by
     have h1:U.heap[k]? = some o:=by rw[hU];exact (World.putObj_heap_other (by omega)).trans hk2
     exact (World.putObj_heap_other (by omega)).trans (hk.same k o (by omega) h1 hk3)⟩
   rintro e a3 Z hp
   rw[<- hm] at hp
   cases e with
   | normal =>
    obtain⟨k1,k2,k3⟩:=hp
    obtain⟨q1,q2,q3,q4⟩:=last none Z k1
    exact⟨_,_,q1,.inl ⟨rfl,⟨hI.putObj _ k3 (by omega) q2 rfl,q3,q4⟩,hKt (hKt hUk k2) (hKb _ _ _ _ (by omega) q2 rfl rfl)⟩⟩
   | ret =>
    obtain⟨k1,k3⟩:=hp
    obtain⟨q1,q2,q3,q4⟩:=last (some .ret) Z k1
    exact⟨_,_,q1,.inr ⟨rfl,⟨.ret,(hIx _).putObj _ k3 (by omega) q2 rfl,q3,q4⟩,keep _ _ k1⟩⟩
   | exit id =>
    obtain⟨k1,k3⟩:=hp
    obtain⟨q1,q2,q3,q4⟩:=last (some (.exit id)) Z k1
    exact⟨_,_,q1,.inr ⟨rfl,⟨.exit id,(hIx _).putObj _ k3 (by omega) q2 rfl,q3,q4⟩,keep _ _ k1⟩⟩
   | goto t =>
    obtain⟨k1,k3⟩:=hp
    obtain⟨q1,q2,q3,q4⟩:=last (some (.goto t)) Z k1
    exact⟨_,_,q1,.inr ⟨rfl,⟨.goto t,(hIx _).putObj _ k3 (by omega) q2 rfl,q3,q4⟩,keep _ _ k1⟩⟩
   | panic ch=>exact hp.elim
   | outgrown=>exact hp.elim
  ·rintro e Z ⟨⟨v,rfl⟩,(⟨xs,hS,hi,hl,hd⟩ | ⟨pre,hSp,c,hi,hl,hd⟩)⟩
   ·exact⟨none,_,by have:=run_endLoop (P:=P) hl (by rw[hst];simp);rw[hst] at this;exact this,hdone _ xs _ (by omega) hS (hI.putObj _ hi (by omega) hl rfl) ((World.putObj_heap_other (by omega)).trans hd)⟩
   ·exact⟨some c,_,by have:=run_endLoop (P:=P) hl (by rw[hst];simp);rw[hst] at this;exact this,hstop _ c pre _ (by omega) hSp ((hIx c).putObj _ hi (by omega) hl rfl) ((World.putObj_heap_other (by omega)).trans hd)⟩
end Go.Proofs.YtgplnekpgdhcpaaGreat
namespace Go.Proofs.YtgplnekpgdhcpaaGreat
open Go.RowKit
def bt (l:List UInt8) (i:Nat):Int:=((l.getD i 0).toNat:Int)
structure RB (B:Nat) (w:World) (a:Option Addr) (n c:Nat) (l:List UInt8):Prop where
 len:n=l.length
 le:n<=c
 mx:c<=9223372036854775807
 lm:n<=140737488355328
 at_:0 < c->∃ b o,a=some ⟨b,o,none⟩/\b < B/\∀ i,i < n->w.cell? ⟨b,o+i,none⟩=some (.int .u8 (bt l i))
end Go.Proofs.YtgplnekpgdhcpaaGreat
namespace Go.Proofs.YtgplnekpgdhcpaaGreat
abbrev Pt:=List UInt8×Int
def mostA:Int:=1125899906842624
def okA (n:Int):Bool:=decide (0<=n) && decide (n<=mostA)
def addA (a b:Int):Option Int:=if okA a && (okA b && decide (a+b<=mostA)) then some (a+b) else none
def sumL:Int->List Int->Option Int
 | n,[]=>some n
 | n,m :: L=>if okA m && decide (n+m<=mostA) then sumL (n+m) L else none
theorem okA_iff {n:Int}:okA n=true↔0<=n/\n<=1125899906842624:=by unfold okA mostA;rw[Bool.and_eq_true,decide_eq_true_eq,decide_eq_true_eq]
theorem sumL_two (a b:Int):sumL 0 [a,b]=addA a b:=by
 unfold sumL sumL sumL addA
 cases ha:okA a
 ·simp
 ·have:=okA_iff.1 ha
  have h1:decide ((0:Int)+a<=mostA)=true:=by simp[mostA];omega
  rw[h1]
  simp
theorem addA_some {a b n:Int} (h:addA a b=some n):okA a=true/\okA b=true/\okA n=true/\n=a+b:=by
 unfold addA at h
 split at h
 ·rename_i hc
  simp only[Bool.and_eq_true,decide_eq_true_eq] at hc
  cases h
  obtain⟨h1,h2,h3⟩:=hc
  have e1:=okA_iff.1 h1
  have e2:=okA_iff.1 h2
  simp only[mostA] at h3
  exact⟨h1,h2,okA_iff.2 (by omega),rfl⟩
 ·cases h
def sumAt:List Pt->List UInt8->Int
 | [],_=>0
 | p :: S,k=>if p.1=k then p.2 else sumAt S k
def setAt:List Pt->List UInt8->Int->List Pt
 | [],k,n=>[(k,n)]
 | p :: S,k,n=>if p.1 < k then p :: setAt S k n else if p.1=k then (k,n) :: S else (k,n) :: p :: S
def joinL:List Pt->List Pt->Option (List Pt)
 | S,[]=>some S
 | S,p :: L=>match addA (sumAt S p.1) p.2 with | none=>none | some n=>joinL (setAt S p.1 n) L
def Up (S:List Pt):Prop:=S.Pairwise (fun p q=>p.1 < q.1)/\∀ p∈S,okA p.2=true
theorem Up.nil:Up []:=⟨List.Pairwise.nil,fun p hp=>by cases hp⟩
theorem Up.tail {p:Pt} {S:List Pt} (h:Up (p :: S)):Up S:=⟨(List.pairwise_cons.1 h.1).2,fun q hq=>h.2 q (List.mem_cons_of_mem _ hq)⟩
theorem lt_asymm' {a b:List UInt8} (h:a < b) (h':b < a):False:=List.lt_irrefl a (List.lt_trans h h')
theorem lt_or {a b:List UInt8} (h:¬ a < b):a=b∨b < a:=by
 have h1:b<=a:=List.not_lt.1 h
 rcases Classical.em (b < a) with h2 | h2
 ·exact .inr h2
 ·exact .inl (List.le_antisymm (List.not_lt.1 h2) h1)
theorem mem_setAt:∀ {S:List Pt} {k:List UInt8} {n:Int} {p:Pt},p∈setAt S k n->p=(k,n)∨p∈S
 | [],k,n,p,h=>by simp[setAt] at h;exact .inl h
 | q :: S,k,n,p,h=>by
  unfold setAt at h
  split at h
  ·rcases List.mem_cons.1 h with rfl | h
   ·exact .inr (by simp)
   ·rcases mem_setAt h with h | h
    ·exact .inl h
    ·exact .inr (List.mem_cons_of_mem _ h)
  ·split at h
   ·rcases List.mem_cons.1 h with rfl | h
    ·exact .inl rfl
    ·exact .inr (List.mem_cons_of_mem _ h)
   ·rcases List.mem_cons.1 h with rfl | h
    ·exact .inl rfl
    ·exact .inr h
theorem Up.set:∀ {S:List Pt} (k:List UInt8) {n:Int},Up S->okA n=true->Up (setAt S k n)
 | [],k,n,_,hn=>⟨by simp[setAt],fun p hp=>by simp[setAt] at hp;rw[hp];exact hn⟩
 | q :: S,k,n,h,hn=>by
  have ih:=Up.set k h.tail hn
  obtain⟨h1,h2⟩:=List.pairwise_cons.1 h.1
  refine⟨?_,fun p hp=>by rcases mem_setAt hp with rfl | hp;exact hn;exact h.2 p hp⟩
  unfold setAt
  split
  ·rename_i hlt
   refine List.pairwise_cons.2 ⟨fun p hp=>?_,ih.1⟩
   rcases mem_setAt hp with rfl | hp
   ·exact hlt
   ·exact h1 p hp
  ·rename_i hge
   split
   ·rename_i he
    exact List.pairwise_cons.2 ⟨fun p hp=>by rw[<- he];exact h1 p hp,h2⟩
   ·rename_i hne
    have hk:k < q.1:=(lt_or hge).resolve_left hne
    refine List.pairwise_cons.2 ⟨fun p hp=>?_,h.1⟩
    rcases List.mem_cons.1 hp with rfl | hp
    ·exact hk
    ·exact List.lt_trans hk (h1 p hp)
theorem sumAt_none:∀ {S:List Pt} {k:List UInt8},k ∉ S.map (·.1)->sumAt S k=0
 | [],_,_=>rfl
 | p :: S,k,h=>by
  simp only[List.map_cons,List.mem_cons,not_or] at h
  unfold sumAt
  rw[if_neg (fun e=>h.1 e.symm),sumAt_none h.2]
theorem sumAt_set:∀ {S:List Pt} (k:List UInt8) (n:Int) (k':List UInt8),Up S->sumAt (setAt S k n) k'=if k'=k then n else sumAt S k'
 | [],k,n,k',_=>by
  unfold setAt sumAt sumAt
  by_cases h:k'=k
  ·rw[if_pos h.symm,if_pos h]
  ·rw[if_neg (fun e=>h e.symm),if_neg h]
 | q :: S,k,n,k',h=>by
  unfold setAt
  split
  ·rename_i hlt
   conv=>lhs;unfold sumAt
   conv=>rhs;unfold sumAt
   rw[sumAt_set k n k' h.tail]
   by_cases e:q.1=k'
   ·have:k'≠k:=fun e2=>by rw[e,e2] at hlt;exact List.lt_irrefl _ hlt
    rw[if_pos e,if_neg this,if_pos e]
   ·rw[if_neg e,if_neg e]
  ·split
   ·rename_i he
    unfold sumAt
    by_cases e:k'=k
    ·rw[if_pos e.symm,if_pos e]
    ·rw[if_neg (fun e2=>e e2.symm),if_neg e,if_neg (fun e2=>e (e2.symm.trans he))]
   ·rename_i hne
    conv=>lhs;unfold sumAt
    by_cases e:k'=k
    ·rw[if_pos e.symm,if_pos e]
    ·rw[if_neg (fun e2=>e e2.symm),if_neg e]
theorem keys_set:∀ {S:List Pt} (k:List UInt8) (n:Int) (k':List UInt8),k'∈(setAt S k n).map (·.1)↔k'=k∨k'∈S.map (·.1)
 | [],k,n,k'=>by simp[setAt]
 | q :: S,k,n,k'=>by
  have ih:=keys_set (S:=S) k n k'
  unfold setAt
  split
  ·rw[List.map_cons,List.mem_cons,ih,List.map_cons,List.mem_cons]
   constructor
   ·rintro (h | h | h)
    ·exact .inr (.inl h)
    ·exact .inl h
    ·exact .inr (.inr h)
   ·rintro (h | h | h)
    ·exact .inr (.inl h)
    ·exact .inl h
    ·exact .inr (.inr h)
  ·split
   ·rename_i he
    rw[List.map_cons,List.mem_cons,List.map_cons,List.mem_cons,he]
    constructor
    ·rintro (h | h)
     ·exact .inl h
     ·exact .inr (.inr h)
    ·rintro (h | h | h)
     ·exact .inl h
     ·exact .inl h
     ·exact .inr h
   ·simp
theorem Up.sum_ok:∀ {S:List Pt} (k:List UInt8),Up S->okA (sumAt S k)=true
 | [],_,_=>by show okA 0=true;decide
 | p :: S,k,h=>by
  unfold sumAt
  split
  ·exact h.2 p (by simp)
  ·exact Up.sum_ok k h.tail
theorem Up.sum_mem:∀ {S:List Pt} {p:Pt},Up S->p∈S->sumAt S p.1=p.2
 | q :: S,p,h,hp=>by
  unfold sumAt
  rcases List.mem_cons.1 hp with rfl | hp
  ·rw[if_pos rfl]
  ·have:=(List.pairwise_cons.1 h.1).1 p hp
   rw[if_neg (fun e=>by rw[e] at this;exact List.lt_irrefl _ this),Up.sum_mem h.tail hp]
theorem mem_of_key:∀ {S:List Pt} {k:List UInt8},k∈S.map (·.1)->(k,sumAt S k)∈S
 | p :: S,k,h=>by
  unfold sumAt
  split
  ·rename_i e
   rw[<- e];simp
  ·rename_i e
   rcases List.mem_cons.1 h with h | h
   ·exact (e h.symm).elim
   ·exact List.mem_cons_of_mem _ (mem_of_key h)
theorem Up.nodup {S:List Pt} (h:Up S):S.Nodup:=h.1.imp (fun {a b} hlt e=>by rw[e] at hlt;exact List.lt_irrefl _ hlt)
theorem Up.perm {S out:List Pt} (h:Up S) (hnd:(out.map (·.1)).Nodup) (hm:∀ k,k∈out.map (·.1)↔k∈S.map (·.1)) (hv:∀ p∈out,p.2=sumAt S p.1):out.Perm S:=by
 refine (List.perm_ext_iff_of_nodup ((List.pairwise_map.1 hnd).imp fun {a b} hne e=>hne (by rw[e])) h.nodup).2 fun p=>?_
 constructor
 ·intro hp
  have h1:=mem_of_key ((hm p.1).1 (List.mem_map.2 ⟨p,hp,rfl⟩))
  rw[<- hv p hp] at h1
  exact h1
 ·intro hp
  obtain⟨q,hq,e⟩:=List.mem_map.1 ((hm p.1).2 (List.mem_map.2 ⟨p,hp,rfl⟩))
  have e2:=hv q hq
  have e':q.1=p.1:=e
  rw[e',h.sum_mem hp] at e2
  have:q=p:=Prod.ext e' e2
  rw[<- this];exact hq
theorem Up.sorted {S l:List Pt} (h:Up S) (hp:l.Perm S) (hs:l.Pairwise (fun a b=>¬ b.1 < a.1)):l=S:=by
 refine List.Perm.eq_of_pairwise (le:=fun a b=>¬ b.1 < a.1) (fun a b ha hb h1 h2=>?_) hs (h.1.imp fun {a b} hlt hgt=>lt_asymm' hlt hgt) hp
 have e:a.1=b.1:=by
  rcases lt_or h2 with e | e
  ·exact e
  ·exact (h1 e).elim
 have e1:=h.sum_mem (hp.mem_iff.1 ha)
 have e2:=h.sum_mem hb
 rw[e] at e1
 exact Prod.ext e (e1.symm.trans e2)
theorem joinL_up:∀ {L S R:List Pt},Up S->joinL S L=some R->Up R
 | [],S,R,h,e=>by cases e;exact h
 | p :: L,S,R,h,e=>by
  unfold joinL at e
  split at e
  ·cases e
  ·rename_i n hn
   exact joinL_up (h.set p.1 (addA_some hn).2.2.1) e
/-! Two strings held against one another. -/
theorem cmp_lt:∀ (a b:List UInt8),(Lib.compareBytes a b < 0↔a < b)/\(Lib.compareBytes a b > 0↔b < a)
 | [],[]=>by simp[Lib.compareBytes]
 | [],y :: b=>by simp[Lib.compareBytes]
 | x :: a,[]=>by simp[Lib.compareBytes]
 | x :: a,y :: b=>by
  have ih:=cmp_lt a b
  unfold Lib.compareBytes
  rw[List.cons_lt_cons_iff,List.cons_lt_cons_iff]
  by_cases h:x < y
  ·have h2:¬ y < x:=fun h2=>UInt8.lt_irrefl _ (UInt8.lt_trans h h2)
   have h3:¬ y=x:=fun e=>by subst e;exact UInt8.lt_irrefl _ h
   simp[h,h2,h3]
  ·by_cases h2:y < x
   ·have h3:¬ x=y:=fun e=>by subst e;exact UInt8.lt_irrefl _ h2
    simp[h,h2,h3]
   ·have h3:x=y:=UInt8.le_antisymm (UInt8.not_lt.1 h2) (UInt8.not_lt.1 h)
    subst h3
    simp[h,ih]
theorem less_iff:∀ (a b:List UInt8),Op.bytesLess a b=decide (a < b)
 | a,[]=>by cases a <;> simp[Op.bytesLess]
 | [],y :: b=>by simp[Op.bytesLess]
 | x :: a,y :: b=>by
  unfold Op.bytesLess
  rw[less_iff a b,Bool.eq_iff_iff]
  simp[List.cons_lt_cons_iff]
def cfP (x y:Pt):Int:=Lib.compareBytes x.1 y.1
theorem cfP_lt (x y:Pt):decide (cfP x y < 0)=decide (x.1 < y.1):=by
 unfold cfP
 simp only[decide_eq_decide]
 exact (cmp_lt x.1 y.1).1
theorem Up.sorted_in [Inhabited Pt] {S:List Pt} (h:Up S) {lt:Pt->Pt->Bool} (hlt:∀ x y,lt x y=decide (x.1 < y.1)) {d d':Array Pt} (hp:Sort.PermIn 0 d.size d d') (hs:Sort.SortedIn lt 0 d.size d') (hd:d.toList.Perm S):d'.toList=S:=by
 obtain⟨hsz,_,hperm⟩:=hp
 have e1:d'.extract 0 d.size=d':=by rw[<- hsz];exact Array.extract_size
 rw[e1,Array.extract_size] at hperm
 refine h.sorted (hperm.trans hd) ?_
 rw[List.pairwise_iff_getElem]
 intro i j hi hj hij
 have hi':i < d'.size:=by simpa using hi
 have hj':j < d'.size:=by simpa using hj
 have:=hs i j (Nat.zero_le _) hij (by omega)
 rw[getElem!_pos d' j hj',getElem!_pos d' i hi',hlt] at this
 simpa using this
/-! Products. -/
theorem times_nat {a b:Int} (ha:0<=a) (hb:0<=b) :
  ((a.toNat * b.toNat / 18446744073709551616=0/\a.toNat * b.toNat % 18446744073709551616<=1125899906842624)↔a * b<=1125899906842624):=by
 have e:((a.toNat * b.toNat:Nat):Int)=a * b:=by rw[Int.natCast_mul,Int.toNat_of_nonneg ha,Int.toNat_of_nonneg hb]
 constructor
 ·rintro⟨h1,h2⟩
  omega
 ·intro h
  omega
end Go.Proofs.YtgplnekpgdhcpaaGreat
