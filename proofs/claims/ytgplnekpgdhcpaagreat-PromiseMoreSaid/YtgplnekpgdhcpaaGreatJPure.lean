/- A region that draws its order, whose last operations wait for all the others: those in the text's order, in a class of worlds, then these, inside a fence (a call of yield may be among them). A range over a function whose iterator is itself a range over a function: the contract that its loop may be told of, and the law for the caller. Memory predicates and small lemmas that the walks share: what it is for a slice of bytes to read as a list, and what a call keeps of memory. Plain Lean: parts that are joined, as a list that rises by its keys. -/
import Derived.BigQuiet
import Derived.StillTail
import Derived.OwnWalkIn
import Derived.RangeFuncCalls
import Derived.RangeFuncWrites
import Derived.Test.YtgplnekpgdhcpaaGreatRows
import Derived.WalkKit
import Derived.WalkSpells
import Derived.WalkLawsBesides
import Derived.Deep.QuietTactic
import Derived.Handy
import Derived.Deep.Light
import Derived.Lib.Hide
import Derived.Sort.Statements
import Derived.Lib.Bytealg
import GoSem.Op.String
namespace Go.Proofs.YtgplnekpgdhcpaaGreat
open Go.RowKit
def muteT (n:Nat) (l:List Oper):List Oper:=l.take n ++ (l.drop n).map fun o=>Oper.mk none (.move (.const undef)) 0 "" o.after none
theorem muteT_len (n:Nat) (l:List Oper):(muteT n l).length=l.length:=by
 unfold muteT
 rw[List.length_append,List.length_map,List.length_take,List.length_drop]
 omega
theorem muteT_head {n i:Nat} {l:List Oper} (h:i < n):(muteT n l)[i]? = l[i]?:=by
 unfold muteT
 by_cases hl:i < (l.take n).length
 ·rw[List.getElem?_append_left hl,List.getElem?_take_of_lt h]
 ·rw[List.length_take] at hl
  rw[List.getElem?_append_right (by rw[List.length_take];omega),List.getElem?_eq_none (by rw[List.length_map,List.length_drop,List.length_take];omega),List.getElem?_eq_none (by omega)]
theorem muteT_tail {n i:Nat} {l:List Oper} (h:n<=i):(muteT n l)[i]? = (l[i]?).map fun o=>Oper.mk none (.move (.const undef)) 0 "" o.after none:=by
 unfold muteT
 by_cases hl:n<=l.length
 ·have e:(l.take n).length=n:=by rw[List.length_take];omega
  rw[List.getElem?_append_right (by omega),e,List.getElem?_map,List.getElem?_drop,show n+(i - n)=i by omega]
 ·rw[List.getElem?_eq_none (by rw[List.length_append,List.length_map,List.length_take,List.length_drop];omega),List.getElem?_eq_none (by omega)]
  rfl
theorem muteT_after (n i:Nat) (l:List Oper):((muteT n l)[i]?).map (·.after)=(l[i]?).map (·.after):=by
 rcases Nat.lt_or_ge i n with h | h
 ·rw[muteT_head h]
 ·rw[muteT_tail h,Option.map_map]
  rfl
theorem muteT_ready (n:Nat) (l:List Oper) (listed:Array Bool):Region.ready .any (muteT n l).toArray listed=Region.ready .any l.toArray listed:=by
 unfold Region.ready
 rw[List.size_toArray,List.size_toArray,muteT_len]
 apply List.filter_congr
 intro i _
 have h:=muteT_after n i l
 simp only[List.getElem?_toArray]
 cases h1:(muteT n l)[i]? <;> cases h2:l[i]? <;> rw[h1,h2] at h <;> simp only[Option.map_none,Option.map_some,reduceCtorEq,Option.some.injEq] at h ⊢
 rw[h]
def okP (R:Act->World->Prop):Exit->Act->World->Prop
 | .normal,a,w=>R a w
 | _,_,_=>False
structure Wd (F:Fence) (n:Nat) (P:Program):Prop where
 fn:∀ f,F.fn f
 depth:F.depth=none
 calls:∀ {f args w R},Calls P f args w R->CallsIn F (n - 1) P f args w R
 steps:∀ {m m'},Steps P m m'->StepsIn (Machine.fenced P F) P m m'
theorem Wd.wide (n:Nat) (P:Program):Wd Fence.wide n P:=⟨fun _=>trivial,rfl,fun h=>callsIn_wide.2 h,fun h=>stepsIn_wide.2 h⟩
theorem Wd.round (l n:Nat) (P:Program):Wd (Fence.wide.inRound l) n P:=⟨fun _=>trivial,rfl,fun h=>CallsIn.inRound l (callsIn_wide.2 h),fun h=>stepsIn_wide.2 h⟩
def noDeferT (l:List Oper):Bool:=l.all fun o=>match o.op with | .defer _=>false | _=>true
theorem noDeferT_spec {l:List Oper} (h:noDeferT l=true) {o:Oper} (ho:o∈l) (c:Call):o.op≠.defer c:=by
 intro e
 have:=List.all_eq_true.1 h o ho
 rw[e] at this
 cases this
theorem opIn {F:Fence} {n:Nat} {P:Program} (W:Wd F n P) {o:Oper} {a:Act} {w:World} {R K K':Act->World->Prop} {Q:Exit->Act->World->Prop} (hd:∀ c,o.op≠.defer c) (hk:∀ a w,K a w->K' a w) (h:o.wp P a w K (okP R)):o.wpIn F n P a w K' Q:=by
 refine⟨fun _ _=>W.fn _,?_⟩
 rw[Oper.semAt_plain F _ o hd]
 unfold Oper.wp at h
 generalize (execOp a.eval o).run P w=r at h
 cases r with
 | halt x w' =>
  cases x with
  | panic v=>exact h.elim
  | _=>exact h.elim
 | ok x w' =>
  cases x with
  | value v=>exact hk _ _ h
  | skip=>exact hk _ _ h
  | defer d=>exact hk _ _ h
  | enter f args =>
   refine⟨fun h0=>(by rw[W.depth] at h0;cases h0),W.calls ?_⟩
   refine Calls.mono h fun e w'' he=>?_
   cases e with
   | returned v=>exact hk _ _ he
   | panicked c=>exact he.elim
   | outgrown=>obtain⟨a0,w0,hq⟩:=he;exact hq.elim
  | row row args =>
   refine⟨fun h0=>(by rw[W.depth] at h0;cases h0),?_⟩
   intro c cs _
   obtain⟨v,w2,hR2,hst⟩:=h c cs
   exact⟨v,w2,hk _ _ hR2,W.steps hst⟩
  | _=>exact h.elim
section
variable {F:Fence} {m n:Nat} {P:Program} {l:List Oper} {R:Act->World->Prop} {Q:Exit->Act->World->Prop}
theorem stepIn (W:Wd F m P) (hnd:noDeferT l=true) {i:Nat} {rest:List Nat} {K:Act->World->Prop} {a:Act} {w:World} (hi:i < n) (hk:∀ a w,K a w->wpOpsIn F m P l.toArray Q rest a w) (h:wpOp P (muteT n l).toArray (okP R) i K a w) (hg:∀ j o,l[j]? = some o->j < n->∀ g b,o.guard=some (g,b)->g < n):wpOpsIn F m P l.toArray Q (i :: rest) a w:=by
 unfold wpOp at h
 simp only[wpOpsIn]
 rw[List.getElem?_toArray,muteT_head hi] at h
 rw[List.getElem?_toArray]
 cases ho:l[i]? with
 | none=>simp only[ho] at h ⊢;exact hk _ _ h
 | some o =>
  simp only[ho] at h ⊢
  have hw:Region.wanted o (yielded (muteT n l).toArray a.tmps)=Region.wanted o (yielded l.toArray a.tmps):=by
   cases hgd:o.guard with
   | none=>simp[Region.wanted,hgd]
   | some p =>
    obtain⟨g,b⟩:=p
    have:=hg i o ho hi g b hgd
    simp only[Region.wanted,hgd,yielded,List.getElem?_toArray,muteT_head this]
  rw[hw] at h
  by_cases hx:Region.wanted o (yielded l.toArray a.tmps)=true
  ·rw[if_pos hx] at h ⊢
   rcases h with h | ⟨_,a0,w0,hq⟩
   ·exact opIn W (fun c=>noDeferT_spec hnd (List.mem_of_getElem? ho) c) hk h
   ·exact hq.elim
  ·rw[if_neg hx] at h ⊢
   exact⟨fun _ _=>W.fn _,hk _ _ h⟩
theorem lastIn:∀ (g k fuel t:Nat) (listed:Array Bool) (a:Act) (w:World),n<=k->Region.seqB .any l.toArray g k listed=true->wpAny P .any (muteT n l).toArray (okP R) fuel listed a w ->
  Region.linearise.go .any l.toArray fuel t listed []=List.range' k g/\R a w
 | 0,k,fuel,t,listed,a,w,_,hs,h=>by
  have hr:Region.ready .any l.toArray listed=[]:=by simpa [Region.seqB] using hs
  have hr':Region.ready .any (muteT n l).toArray listed=[]:=by rw[muteT_ready];exact hr
  cases fuel with
  | zero=>exact⟨rfl,h.2⟩
  | succ f =>
   refine⟨?_,h.1 hr'⟩
   simp only[Region.linearise.go]
   change (match (Region.ready .any l.toArray listed)[t % (Region.ready .any l.toArray listed).length]? with | some i=>Region.linearise.go .any l.toArray f (t / (Region.ready .any l.toArray listed).length) (listed.setIfInBounds i true) [i] | none=>[].reverse)=_
   rw[hr]
   rfl
 | g+1,k,fuel,t,listed,a,w,hk,hs,h=>by
  simp only[Region.seqB,Bool.and_eq_true,decide_eq_true_eq] at hs
  have hr':Region.ready .any (muteT n l).toArray listed=[k]:=by rw[muteT_ready];exact hs.1
  cases fuel with
  | zero=>have:=h.1;rw[hr'] at this;cases this
  | succ f =>
   have h2:=h.2 k (by rw[hr'];exact List.mem_cons_self)
   have h3:wpAny P .any (muteT n l).toArray (okP R) f (listed.setIfInBounds k true) a w:=by
    unfold wpOp at h2
    rw[List.getElem?_toArray,muteT_tail hk] at h2
    cases ho:l[k]? with
    | none=>rw[ho] at h2;exact h2
    | some o =>
     rw[ho] at h2
     simp only[Option.map_some,Region.wanted,if_true] at h2
     rcases h2 with h2 | ⟨_,a0,w0,hq⟩
     ·exact h2
     ·exact hq.elim
   obtain⟨e1,e2⟩:=lastIn g (k+1) f (t / 1) (listed.setIfInBounds k true) a w (by omega) hs.2 h3
   refine⟨?_,e2⟩
   simp only[Region.linearise.go]
   change (match (Region.ready .any l.toArray listed)[t % (Region.ready .any l.toArray listed).length]? with | some i=>Region.linearise.go .any l.toArray f (t / (Region.ready .any l.toArray listed).length) (listed.setIfInBounds i true) [i] | none=>[].reverse)=_
   rw[hs.1]
   simp only[List.length_singleton,Nat.mod_one,List.getElem?_cons_zero]
   rw[linearise_go_acc,e1]
   rfl
theorem fin_of (hn:n < l.toArray.size) {listed:Array Bool} (inv:HeadInv .any l.toArray n listed) (hall:∀ i,i < n->listed.getD i true=true):listed=(List.replicate n true ++ List.replicate (l.length - n) false).toArray:=by
 have hsz:listed.size=l.length:=by simpa using inv.size
 have hn':n < l.length:=by simpa using hn
 apply Array.ext
 ·simp;omega
 ·intro i h1 h2
  have e:(List.replicate n true ++ List.replicate (l.length - n) false).toArray[i]=(List.replicate n true ++ List.replicate (l.length - n) false)[i]'(by simpa using h2):=rfl
  rw[e]
  by_cases h:i < n
  ·have:=hall i h
   simp[h1] at this
   rw[List.getElem_append_left (by simpa using h)]
   simp[this]
  ·have:=inv.tail i (by omega) (by simpa [hsz] using h1)
   simp[h1] at this
   rw[List.getElem_append_right (by simpa using h)]
   simp[this]
def backT (l:List Oper):Bool:=(List.range l.length).all fun j=>match l[j]? with | some o=>o.after.all fun e=>decide (e.on < j) | none=>true
theorem backT_spec (h:backT l=true) {j:Nat} {o:Oper} (ho:l[j]? = some o) {e:Edge} (he:e∈o.after):e.on < j:=by
 have h1:=List.all_eq_true.1 h j (List.mem_range.2 (List.getElem?_eq_some_iff.1 ho).1)
 simp only[ho] at h1
 have:=Array.all_eq_true'.1 h1 e he
 simpa using this
theorem ready_ne (hb:backT l=true) {listed:Array Bool} (hs:listed.size=l.length):∀ (d i:Nat),i=d->i < l.length->listed.getD i true=false->Region.ready .any l.toArray listed≠[]:=by
 intro d
 induction d using Nat.strongRecOn with
 | _ d ih =>
  intro i hd hi hun hr
  obtain⟨o,ho⟩:∃ o,l[i]? = some o:=⟨_,List.getElem?_eq_getElem hi⟩
  by_cases hall:∀ e∈o.after,Region.binds .any e=true->listed.getD e.on false=true
  ·have:i∈Region.ready .any l.toArray listed:=mem_ready.2 ⟨hun,o,by rw[List.getElem?_toArray];exact ho,hall⟩
   rw[hr] at this
   cases this
  ·simp only[Classical.not_forall] at hall
   obtain⟨e,he,hbd,hl⟩:=hall
   have hlt:=backT_spec hb ho he
   have hf:listed.getD e.on false=false:=by simpa using hl
   exact ih e.on (by omega) e.on rfl (by omega) (getD_in (by omega) hf) hr
theorem allIn (W:Wd F m P) (hnd:noDeferT l=true) (hg:∀ j o,l[j]? = some o->j < n->∀ g b,o.guard=some (g,b)->g < n) (hs:Region.sinkB .any l.toArray n=true) (hc:Region.chainB .any l.toArray n=true) (hn:n < l.toArray.size) (hb:backT l=true)
  (hfin:Region.seqB .any l.toArray (l.length - n) n (List.replicate n true ++ List.replicate (l.length - n) false).toArray=true) (hR:∀ a w,R a w->wpOpsIn F m P l.toArray Q (List.range' n (l.length - n)) a w) :
  ∀ (fuel t:Nat) (listed:Array Bool) (a:Act) (w:World),HeadInv .any l.toArray n listed->listed.countP (fun b=>!b)<=fuel->wpAny P .any (muteT n l).toArray (okP R) fuel listed a w->wpOpsIn F m P l.toArray Q (Region.linearise.go .any l.toArray fuel t listed []) a w:=by
 intro fuel
 induction fuel with
 | zero =>
  intro t listed a w inv hcnt h
  by_cases hall:∀ i,i < n->listed.getD i true=true
  ·rw[fin_of hn inv hall] at h ⊢
   obtain⟨e1,e2⟩:=lastIn (l.length - n) n 0 t _ a w (Nat.le_refl _) hfin h
   rw[e1]
   exact hR _ _ e2
  ·exfalso
   simp only[Classical.not_forall] at hall
   obtain⟨i,hi,hun⟩:=hall
   have hun':listed.getD i true=false:=by simpa using hun
   have hlt:i < listed.size:=by rw[inv.size];omega
   have hmem:false∈listed:=by
    have e:listed[i]=false:=by simpa [hlt] using hun'
    rw[<- e];exact Array.getElem_mem hlt
   have:0 < listed.countP (fun b=>!b):=Array.countP_pos_iff.2 ⟨false,hmem,rfl⟩
   omega
 | succ fuel ih =>
  intro t listed a w inv hcnt h
  by_cases hall:∀ i,i < n->listed.getD i true=true
  ·rw[fin_of hn inv hall] at h ⊢
   obtain⟨e1,e2⟩:=lastIn (l.length - n) n (fuel+1) t _ a w (Nat.le_refl _) hfin h
   rw[e1]
   exact hR _ _ e2
  ·simp only[Classical.not_forall] at hall
   obtain⟨i0,hi0,hun⟩:=hall
   have hun':listed.getD i0 true=false:=by simpa using hun
   have hne:=ready_ne hb (by simpa using inv.size) i0 i0 rfl (by simp at hn;omega) hun'
   have hlow:∀ j∈Region.ready .any l.toArray listed,j < n:=fun j hj=>by
    rcases Nat.lt_or_ge j n with h1 | h1
    ·exact h1
    ·exact absurd hj (tail_waits hs hc hn inv (n - i0) i0 rfl hi0 hun' j h1)
   simp only[Region.linearise.go]
   change wpOpsIn F m P l.toArray Q (match (Region.ready .any l.toArray listed)[t % (Region.ready .any l.toArray listed).length]? with | some i=>Region.linearise.go .any l.toArray fuel (t / (Region.ready .any l.toArray listed).length) (listed.setIfInBounds i true) [i] | none=>[].reverse) a w
   have hpos:0 < (Region.ready .any l.toArray listed).length:=List.length_pos_iff.2 hne
   have hlt:=Nat.mod_lt t hpos
   rw[List.getElem?_eq_getElem hlt]
   obtain⟨i,hi⟩:∃ i,i=(Region.ready .any l.toArray listed)[t % (Region.ready .any l.toArray listed).length]:=⟨_,rfl⟩
   have him:i∈Region.ready .any l.toArray listed:=by rw[hi];exact List.getElem_mem hlt
   rw[<- hi]
   simp only
   rw[linearise_go_acc,List.reverse_singleton,List.singleton_append]
   have hun2:=(mem_ready.1 him).1
   have hil:i < listed.size:=by rw[inv.size];have:=hlow i him;omega
   refine stepIn W hnd (hlow i him) (fun a' w' h'=>ih _ _ a' w' (inv.set him (hlow i him)) ?_ h') (h.2 i (by rw[muteT_ready];exact him)) hg
   have hli:listed[i]=false:=by simpa [hil] using hun2
   rw[Array.setIfInBounds,dif_pos hil,Array.countP_set hil]
   have hpos2:0 < listed.countP (fun b=>!b):=Array.countP_pos_iff.2 ⟨false,by rw[<- hli];exact Array.getElem_mem hil,rfl⟩
   simp only[hli,Bool.not_false,if_true,Bool.not_true,Bool.false_eq_true,if_false]
   omega
end
def guardT (n:Nat) (l:List Oper):Bool:=(l.take n).all fun o=>match o.guard with | some (g,_)=>decide (g < n) | none=>true
theorem guardT_spec {n:Nat} {l:List Oper} (h:guardT n l=true):∀ j o,l[j]? = some o->j < n->∀ g b,o.guard=some (g,b)->g < n:=fun j o ho hj g b hgd=>by
 have hm:o∈l.take n:=List.mem_of_getElem? (i:=j) (by rw[List.getElem?_take_of_lt hj];exact ho)
 have:=List.all_eq_true.1 h o hm
 rw[hgd] at this
 simpa using this
def tailT (n:Nat) (l:List Oper):Bool:=noDeferT l && guardT n l && Region.sinkB .any l.toArray n && Region.chainB .any l.toArray n && decide (n < l.length) && backT l && Region.seqB .any l.toArray (l.length - n) n (List.replicate n true ++ List.replicate (l.length - n) false).toArray && Region.lexB .any (muteT n l).toArray
theorem region_tail {F:Fence} {m:Nat} {P:Program} (W:Wd F m P) {id:Nat} {Q:Exit->Act->World->Prop} {a:Act} {w:World} {l:List Oper} (n:Nat) (hm:P.follows .mixedOrders=true) (hB:tailT n l=true) (C:World->Prop) (hC:C { w with drawn:=w.drawn+1 }) (R:Act->Prop)
  (h:wpQuiet P (muteT n l).toArray C R (muteT n l) a) (hT:∀ a' w',C w'->R a'->wpListIn F m P l.toArray Q (l.drop n) a' w'):(Code.region id l.toArray true).wpIn F m P Q a w:=by
 unfold tailT at hB
 simp only[Bool.and_eq_true,decide_eq_true_eq] at hB
 obtain⟨⟨⟨⟨⟨⟨⟨b1,b2⟩,b3⟩,b4⟩,b5⟩,b6⟩,b7⟩,b8⟩:=hB
 have b8':=b8
 simp only[Region.lexB,Bool.and_eq_true] at b8'
 have hq:=wpAnyQ_lex (P:=P) (C:=C) (Q:=R) (md:=.any) b8'.1 (muteT n l).toArray.toList 0 (Array.replicate (muteT n l).toArray.size false) a (by simp) (by simpa using b8'.2) (by simpa using h)
 have ha:=wpAny_of_quiet (P:=P) (C:=C) (Q:=R) (Q':=okP fun a w=>C w/\R a) (fun a w h1 h2=>⟨h1,h2⟩) _ _ a _ hC hq
 have e1:(muteT n l).toArray.toList.length=l.toArray.size:=by simp[muteT_len]
 have e2:(muteT n l).toArray.size=l.toArray.size:=by simp[muteT_len]
 rw[e1,e2] at ha
 refine wpIn_region_draw fun t=>?_
 simp only[Region.schedule,hm,Bool.true_or,if_true]
 have inv0:HeadInv .any l.toArray n (Array.replicate l.toArray.size false) :=
  ⟨by simp,fun j oj _ hl=>(by rw[getD_replicate_false] at hl;cases hl),fun t _ ht=>getD_in (by simpa using ht) (getD_replicate_false _ _)⟩
 have hdl:(l.drop n).length=l.length - n:=List.length_drop
 refine allIn (R:=fun a w=>C w/\R a) W b1 (guardT_spec b2) b3 b4 (by simpa using b5) b6 b7 (fun a' w' hr=>?_) l.toArray.size t _ a _ inv0 ?_ ha
 ·rw[<- hdl,wpOpsIn_eq_wpListIn (l.drop n) n (fun j=>by simp[List.getElem?_drop])]
  exact hT a' w' hr.1 hr.2
 ·exact Nat.le_trans Array.countP_le_size (by simp)
end Go.Proofs.YtgplnekpgdhcpaaGreat
namespace Go.Proofs.YtgplnekpgdhcpaaGreat
open Go.RowKit
def SeqO {α:Type} (F:Fence) (n:Nat) (P:Program) (g:Nat) (lb:Array Value) (encs:α->Array Value) (Kp:World->World->Prop) (S Sp:List α->Prop) (N M:Nat) (w:World):Prop :=
 ∀ (l:Nat) (J Jx:List α->World->Prop) (W:World),Below w.heap.size w W->OwnFrom W.heap.size J->OwnFrom W.heap.size Jx ->
  (∀ pre x W1,J pre W1->pre.length < N->YieldAt F (n - 1) P l (encs x) W1 fun e W' =>
   (e = .returned (.bool true)/\J (pre ++ [x]) W'/\Kp W1 W')∨(e = .returned (.bool false)/\Jx (pre ++ [x]) W'/\KeepsFrom M W1 W')) ->
  J [] W ->
  CallsIn F n P g (#[.func (.yield l) #[] #[]] ++ lb) W fun e W'=>(∃ v,e = .returned v)/\((∃ xs,S xs/\J xs W')∨(∃ pre,Sp pre/\Jx pre W'))
theorem range_own {α:Type} {F:Fence} {n:Nat} {P:Program} {g:Operand} {ps:Array Tmp} {assign body:Code} {Q:Exit->Act->World->Prop} {a:Act} {w:World}
  (hro:F.round=none) (h1:1<=n) {gf:Nat} {lb:Array Value} (hg:a.eval g = .func (.func gf) #[] lb) (hFg:F.fn gf) (eg:∀ args w,(callFunc gf args).run P w = .ok (.enter gf args) w)
  {encs:α->Array Value} {Kp:World->World->Prop} {S Sp:List α->Prop} {N:Nat} {w0:World} (hseq:SeqO F (n - 1) P gf lb encs Kp S Sp N (w.heap.size+2) w0)
  (hKt:∀ {A B C:World},Kp A B->Kp B C->Kp A C) (hKb:∀ (W:World) (l:Nat) (o o':Obj),l=w.heap.size+1->W.heap[l]? = some o->o.isCells=false->o.isWalk=false->Kp W (W.putObj l o')) (hb0:Below w0.heap.size w0 w) (hps:∀ x,(encs x).size=ps.size)
  (I:List α->World->Prop) (Ix:Code->List α->World->Prop) (hI:OwnFrom w.heap.size I) (hIx:∀ c,OwnFrom w.heap.size (Ix c)) (h0:I [] w) (a₁:α->Act)
  (hassign:∀ (l:Nat) (x:α) (W:World) (K:Act->World->Prop),K (a₁ x) W ->
   assign.wpIn (F.inRound l) (n - 1 - 1) P (Exit.then K (fun _ _ _=>False)) { tmps:=(ps.zip (encs x)).foldl (fun t (p,v)=>t.setIfInBounds p v) a.tmps,defers:=[] } W)
  (hbody:∀ (l:Nat) (pre:List α) (x:α) (W:World),I pre W->pre.length < N->body.wpIn (F.inRound l) (n - 1 - 1) P (ownPostG w.heap.size Kp I Ix (pre ++ [x]) W) (a₁ x) W)
  (hdone:∀ (D:Nat) (xs:List α) (W:World),w.heap.size<=D->S xs->I xs W->W.heap[D]? = some (.deferred (some []))->Q .normal { a with defers:={ target:=.collected D,args:=#[] } :: a.defers } W)
  (hstop:∀ (D:Nat) (c:Code) (pre:List α) (W:World),w.heap.size<=D->Sp pre->Ix c pre W->W.heap[D]? = some (.deferred (some []))->c.wpIn F n P Q { a with defers:={ target:=.collected D,args:=#[] } :: a.defers } W) :
  (Code.rangeFunc g ps assign body).wpIn F n P Q a w:=by
 refine wpIn_rangeFunc ?_
 intro fn hfn
 rw[hro]
 obtain⟨m,hm⟩:∃ m,m=w.heap.size:=⟨_,rfl⟩
 obtain⟨st,hst⟩:∃ st:LoopState->Option Code->Loop,st=fun s j=>{ state:=s,pending:=j,fn,tmps:=a.tmps,params:=ps,assign,body,defers:=w.heap.size }:=⟨_,rfl⟩
 obtain⟨V,hV⟩:∃ V,V=(w.alloc (.deferred (some []))).alloc (.loop (st .ready none)):=⟨_,rfl⟩
 have hVs:V.heap.size=m+2:=by rw[hV,World.size_alloc,World.size_alloc,hm]
 have hVl:V.heap[m+1]? = some (.loop (st .ready none)):=by
  have:=World.alloc_heap_new (w.alloc (.deferred (some []))) (.loop (st .ready none))
  rw[World.size_alloc] at this
  rw[hV,hm];exact this
 have hVd:V.heap[m]? = some (.deferred (some [])):=by
  rw[hV,hm];exact (Below.heap_alloc _ _ _ (by rw[World.size_alloc];omega)).trans (World.alloc_heap_new w _)
 have hVI:I [] V:=by rw[hV];exact hI.alloc _ (hI.alloc _ h0)
 have hVb:Below w0.heap.size w0 V:=by
  rw[hV];exact hb0.trans ((((Below.refl _ w).alloc (Nat.le_refl _) _).alloc (by rw[World.size_alloc];omega) _).mono hb0.size)
 rw[<- hm] at hI hIx
 have far:∀ {A B:World} {row:Option Nat} {k:Nat} {o:Obj},k < m+2->A.grownBy B row->(∀ r,row=some r->V.heap.size<=r/\∃ o:Obj,A.heap[r]? = some o/\o.isCells=false)->A.heap[k]? = some o->B.heap[k]? = some o:=fun hk hg' hr ho =>
  (hg'.block _ (Array.getElem?_eq_some_iff.1 ho).1 (fun e=>by have:=(hr _ e.symm).1;omega)).trans ho
 have near:∀ {A:World} {row:Option Nat},(∀ r,row=some r->V.heap.size<=r/\∃ o:Obj,A.heap[r]? = some o/\o.isCells=false)->∀ r,row=some r->m<=r/\∃ o:Obj,A.heap[r]? = some o/\o.isCells=false:=fun hr r e=>⟨by have:=(hr r e).1;omega,(hr r e).2⟩
 refine⟨m+1,[{ target:=.collected m,args:=#[] }],V,{ target:=.fn (.func gf) lb,args:=#[.func (.yield (m+1)) #[] #[]] },V,gf,#[.func (.yield (m+1)) #[] #[]] ++ lb,V,?_,?_,?_,?_,fun _=>h1,?_⟩
 ·rw[hV,hst,hm];exact run_enterLoop_outer _ _ _ _ _
 ·simp only[resolve,hg]
  simp[go_sem]
 ·intro f' hf';simp[Target.leads] at hf';subst hf';exact hFg
 ·simp[invoke,go_sem,eg]
 ·refine (hseq (m+1) (fun pre W=>I pre W/\W.heap[m+1]? = some (.loop (st .ready none))/\W.heap[m]? = some (.deferred (some [])))
   (fun pre W=>∃ c,Ix c pre W/\W.heap[m+1]? = some (.loop (st .done (some c)))/\W.heap[m]? = some (.deferred (some []))) V hVb
   (fun s A B row hs hg' hr=>⟨hI s A B row hs.1 hg' (near hr),far (by omega) hg' hr hs.2.1,far (by omega) hg' hr hs.2.2⟩)
   (fun s A B row hs hg' hr=>by
    obtain⟨c,k1,k2,k3⟩:=hs
    exact⟨c,hIx c s A B row k1 hg' (near hr),far (by omega) hg' hr k2,far (by omega) hg' hr k3⟩) ?_ ⟨hVI,hVl,hVd⟩).mono ?_
  ·rintro pre x W ⟨hi,hl,hd⟩ hlen
   have hlt:m+1 < W.heap.size:=(Array.getElem?_eq_some_iff.1 hl).1
   have hy:=run_yield (P:=P) (args:=encs x) hl (by rw[hst];exact hps x)
   rw[hst] at hy
   refine⟨fn,_,assign,body,hy,roundIn_of_wpIn hfn (hassign _ x W _ ⟨_,run_beginRound hl (by rw[hst]),?_⟩)⟩
   obtain⟨U,hU⟩:∃ U,U=W.putObj (m+1) (.loop { st .ready none with state:=.busy }):=⟨_,rfl⟩
   rw[<- hU]
   have hUl:U.heap[m+1]? = some (.loop { st .ready none with state:=.busy }):=by rw[hU];exact World.putObj_heap_same hlt
   have hUd:U.heap[m]? = some (.deferred (some [])):=by rw[hU];exact (World.putObj_heap_other (by omega)).trans hd
   have hUk:Kp W U:=by rw[hU];exact hKb _ _ _ _ (by omega) hl rfl rfl
   have hUi:I pre U:=by rw[hU];exact hI.putObj _ hi (by omega) hl rfl
   refine wpIn_mono (hbody _ pre x U hUi hlen) ?_
   have last:∀ (j:Option Code) (Z:World),KeepsFrom m U Z->(Instr.endRound (m+1) j).run P Z = .ok (.bool j.isNone) (Z.putObj (m+1) (.loop (st (if j.isNone then .ready else .done) j)))/\Z.heap[m+1]? = some (.loop { st .ready none with state:=.busy }) /\
     (Z.putObj (m+1) (.loop (st (if j.isNone then .ready else .done) j))).heap[m+1]? = some (.loop (st (if j.isNone then .ready else .done) j))/\(Z.putObj (m+1) (.loop (st (if j.isNone then .ready else .done) j))).heap[m]? = some (.deferred (some [])):=fun j Z hk=>by
    have hz:=hk.same _ _ (by omega) hUl rfl
    have he:=run_endRound (P:=P) j hz
    rw[hst] at he ⊢
    refine⟨he,?_,World.putObj_heap_same (Array.getElem?_eq_some_iff.1 hz).1,(World.putObj_heap_other (by omega)).trans (hk.same _ _ (Nat.le_refl _) hUd rfl)⟩
    rw[hst] at hz;exact hz
   have keep:∀ (Z:World) (o':Obj),KeepsFrom m U Z->KeepsFrom (w.heap.size+2) W (Z.putObj (m+1) o'):=fun Z o' hk=>⟨by
     have h1:U.heap.size=W.heap.size:=by rw[hU];simp[World.putObj]
     have h2:(Z.putObj (m+1) o').heap.size=Z.heap.size:=by simp[World.putObj]
     have h3:=hk.size
     omega,fun k o hk1 hk2 hk3=>by
     have h1:U.heap[k]? = some o:=by rw[hU];exact (World.putObj_heap_other (by omega)).trans hk2
     exact (World.putObj_heap_other (by omega)).trans (hk.same k o (by omega) h1 hk3)⟩
   rintro e a3 Z hp
   rw[<- hm] at hp
   cases e with
   | normal =>
    obtain⟨k1,k2,k3⟩:=hp
    obtain⟨q1,q2,q3,q4⟩:=last none Z k1
    exact⟨_,_,q1,.inl ⟨rfl,⟨hI.putObj _ k3 (by omega) q2 rfl,q3,q4⟩,hKt (hKt hUk k2) (hKb _ _ _ _ (by omega) q2 rfl rfl)⟩⟩
   | ret =>
    obtain⟨k1,k3⟩:=hp
    obtain⟨q1,q2,q3,q4⟩:=last (some .ret) Z k1
    exact⟨_,_,q1,.inr ⟨rfl,⟨.ret,(hIx _).putObj _ k3 (by omega) q2 rfl,q3,q4⟩,keep _ _ k1⟩⟩
   | exit id =>
    obtain⟨k1,k3⟩:=hp
    obtain⟨q1,q2,q3,q4⟩:=last (some (.exit id)) Z k1
    exact⟨_,_,q1,.inr ⟨rfl,⟨.exit id,(hIx _).putObj _ k3 (by omega) q2 rfl,q3,q4⟩,keep _ _ k1⟩⟩
   | goto t =>
    obtain⟨k1,k3⟩:=hp
    obtain⟨q1,q2,q3,q4⟩:=last (some (.goto t)) Z k1
    exact⟨_,_,q1,.inr ⟨rfl,⟨.goto t,(hIx _).putObj _ k3 (by omega) q2 rfl,q3,q4⟩,keep _ _ k1⟩⟩
   | panic ch=>exact hp.elim
   | outgrown=>exact hp.elim
  ·rintro e Z ⟨⟨v,rfl⟩,(⟨xs,hS,hi,hl,hd⟩ | ⟨pre,hSp,c,hi,hl,hd⟩)⟩
   ·exact⟨none,_,by have:=run_endLoop (P:=P) hl (by rw[hst];simp);rw[hst] at this;exact this,hdone _ xs _ (by omega) hS (hI.putObj _ hi (by omega) hl rfl) ((World.putObj_heap_other (by omega)).trans hd)⟩
   ·exact⟨some c,_,by have:=run_endLoop (P:=P) hl (by rw[hst];simp);rw[hst] at this;exact this,hstop _ c pre _ (by omega) hSp ((hIx c).putObj _ hi (by omega) hl rfl) ((World.putObj_heap_other (by omega)).trans hd)⟩
end Go.Proofs.YtgplnekpgdhcpaaGreat
namespace Go.Proofs.YtgplnekpgdhcpaaGreat
open Go.RowKit
def bt (l:List UInt8) (i:Nat):Int:=((l.getD i 0).toNat:Int)
structure RB (B:Nat) (w:World) (a:Option Addr) (n c:Nat) (l:List UInt8):Prop where
 len:n=l.length
 le:n<=c
 mx:c<=9223372036854775807
 lm:n<=140737488355328
 at_:0 < c->∃ b o,a=some ⟨b,o,none⟩/\b < B/\∀ i,i < n->w.cell? ⟨b,o+i,none⟩=some (.int .u8 (bt l i))
end Go.Proofs.YtgplnekpgdhcpaaGreat
namespace Go.Proofs.YtgplnekpgdhcpaaGreat
abbrev Pt:=List UInt8×Int
def mostA:Int:=1125899906842624
def okA (n:Int):Bool:=decide (0<=n) && decide (n<=mostA)
def addA (a b:Int):Option Int:=if okA a && (okA b && decide (a+b<=mostA)) then some (a+b) else none
def sumL:Int->List Int->Option Int
 | n,[]=>some n
 | n,m :: L=>if okA m && decide (n+m<=mostA) then sumL (n+m) L else none
theorem okA_iff {n:Int}:okA n=true↔0<=n/\n<=1125899906842624:=by unfold okA mostA;rw[Bool.and_eq_true,decide_eq_true_eq,decide_eq_true_eq]
theorem sumL_two (a b:Int):sumL 0 [a,b]=addA a b:=by
 unfold sumL sumL sumL addA
 cases ha:okA a
 ·simp
 ·have:=okA_iff.1 ha
  have h1:decide ((0:Int)+a<=mostA)=true:=by simp[mostA];omega
  rw[h1]
  simp
theorem addA_some {a b n:Int} (h:addA a b=some n):okA a=true/\okA b=true/\okA n=true/\n=a+b:=by
 unfold addA at h
 split at h
 ·rename_i hc
  simp only[Bool.and_eq_true,decide_eq_true_eq] at hc
  cases h
  obtain⟨h1,h2,h3⟩:=hc
  have e1:=okA_iff.1 h1
  have e2:=okA_iff.1 h2
  simp only[mostA] at h3
  exact⟨h1,h2,okA_iff.2 (by omega),rfl⟩
 ·cases h
def sumAt:List Pt->List UInt8->Int
 | [],_=>0
 | p :: S,k=>if p.1=k then p.2 else sumAt S k
def setAt:List Pt->List UInt8->Int->List Pt
 | [],k,n=>[(k,n)]
 | p :: S,k,n=>if p.1 < k then p :: setAt S k n else if p.1=k then (k,n) :: S else (k,n) :: p :: S
def joinL:List Pt->List Pt->Option (List Pt)
 | S,[]=>some S
 | S,p :: L=>match addA (sumAt S p.1) p.2 with | none=>none | some n=>joinL (setAt S p.1 n) L
def Up (S:List Pt):Prop:=S.Pairwise (fun p q=>p.1 < q.1)/\∀ p∈S,okA p.2=true
theorem Up.nil:Up []:=⟨List.Pairwise.nil,fun p hp=>by cases hp⟩
theorem Up.tail {p:Pt} {S:List Pt} (h:Up (p :: S)):Up S:=⟨(List.pairwise_cons.1 h.1).2,fun q hq=>h.2 q (List.mem_cons_of_mem _ hq)⟩
theorem lt_asymm' {a b:List UInt8} (h:a < b) (h':b < a):False:=List.lt_irrefl a (List.lt_trans h h')
theorem lt_or {a b:List UInt8} (h:¬ a < b):a=b∨b < a:=by
 have h1:b<=a:=List.not_lt.1 h
 rcases Classical.em (b < a) with h2 | h2
 ·exact .inr h2
 ·exact .inl (List.le_antisymm (List.not_lt.1 h2) h1)
theorem mem_setAt:∀ {S:List Pt} {k:List UInt8} {n:Int} {p:Pt},p∈setAt S k n->p=(k,n)∨p∈S
 | [],k,n,p,h=>by simp[setAt] at h;exact .inl h
 | q :: S,k,n,p,h=>by
  unfold setAt at h
  split at h
  ·rcases List.mem_cons.1 h with rfl | h
   ·exact .inr (by simp)
   ·rcases mem_setAt h with h | h
    ·exact .inl h
    ·exact .inr (List.mem_cons_of_mem _ h)
  ·split at h
   ·rcases List.mem_cons.1 h with rfl | h
    ·exact .inl rfl
    ·exact .inr (List.mem_cons_of_mem _ h)
   ·rcases List.mem_cons.1 h with rfl | h
    ·exact .inl rfl
    ·exact .inr h
theorem Up.set:∀ {S:List Pt} (k:List UInt8) {n:Int},Up S->okA n=true->Up (setAt S k n)
 | [],k,n,_,hn=>⟨by simp[setAt],fun p hp=>by simp[setAt] at hp;rw[hp];exact hn⟩
 | q :: S,k,n,h,hn=>by
  have ih:=Up.set k h.tail hn
  obtain⟨h1,h2⟩:=List.pairwise_cons.1 h.1
  refine⟨?_,fun p hp=>by rcases mem_setAt hp with rfl | hp;exact hn;exact h.2 p hp⟩
  unfold setAt
  split
  ·rename_i hlt
   refine List.pairwise_cons.2 ⟨fun p hp=>?_,ih.1⟩
   rcases mem_setAt hp with rfl | hp
   ·exact hlt
   ·exact h1 p hp
  ·rename_i hge
   split
   ·rename_i he
    exact List.pairwise_cons.2 ⟨fun p hp=>by rw[<- he];exact h1 p hp,h2⟩
   ·rename_i hne
    have hk:k < q.1:=(lt_or hge).resolve_left hne
    refine List.pairwise_cons.2 ⟨fun p hp=>?_,h.1⟩
    rcases List.mem_cons.1 hp with rfl | hp
    ·exact hk
    ·exact List.lt_trans hk (h1 p hp)
theorem sumAt_none:∀ {S:List Pt} {k:List UInt8},k ∉ S.map (·.1)->sumAt S k=0
 | [],_,_=>rfl
 | p :: S,k,h=>by
  simp only[List.map_cons,List.mem_cons,not_or] at h
  unfold sumAt
  rw[if_neg (fun e=>h.1 e.symm),sumAt_none h.2]
theorem sumAt_set:∀ {S:List Pt} (k:List UInt8) (n:Int) (k':List UInt8),Up S->sumAt (setAt S k n) k'=if k'=k then n else sumAt S k'
 | [],k,n,k',_=>by
  unfold setAt sumAt sumAt
  by_cases h:k'=k
  ·rw[if_pos h.symm,if_pos h]
  ·rw[if_neg (fun e=>h e.symm),if_neg h]
 | q :: S,k,n,k',h=>by
  unfold setAt
  split
  ·rename_i hlt
   conv=>lhs;unfold sumAt
   conv=>rhs;unfold sumAt
   rw[sumAt_set k n k' h.tail]
   by_cases e:q.1=k'
   ·have:k'≠k:=fun e2=>by rw[e,e2] at hlt;exact List.lt_irrefl _ hlt
    rw[if_pos e,if_neg this,if_pos e]
   ·rw[if_neg e,if_neg e]
  ·split
   ·rename_i he
    unfold sumAt
    by_cases e:k'=k
    ·rw[if_pos e.symm,if_pos e]
    ·rw[if_neg (fun e2=>e e2.symm),if_neg e,if_neg (fun e2=>e (e2.symm.trans he))]
   ·rename_i hne
    conv=>lhs;unfold sumAt
    by_cases e:k'=k
    ·rw[if_pos e.symm,if_pos e]
    ·rw[if_neg (fun e2=>e e2.symm),if_neg e]
theorem keys_set:∀ {S:List Pt} (k:List UInt8) (n:Int) (k':List UInt8),k'∈(setAt S k n).map (·.1)↔k'=k∨k'∈S.map (·.1)
 | [],k,n,k'=>by simp[setAt]
 | q :: S,k,n,k'=>by
  have ih:=keys_set (S:=S) k n k'
  unfold setAt
  split
  ·rw[List.map_cons,List.mem_cons,ih,List.map_cons,List.mem_cons]
   constructor
   ·rintro (h | h | h)
    ·exact .inr (.inl h)
    ·exact .inl h
    ·exact .inr (.inr h)
   ·rintro (h | h | h)
    ·exact .inr (.inl h)
    ·exact .inl h
    ·exact .inr (.inr h)
  ·split
   ·rename_i he
    rw[List.map_cons,List.mem_cons,List.map_cons,List.mem_cons,he]
    constructor
    ·rintro (h | h)
     ·exact .inl h
     ·exact .inr (.inr h)
    ·rintro (h | h | h)
     ·exact .inl h
     ·exact .inl h
     ·exact .inr h
   ·simp
theorem Up.sum_ok:∀ {S:List Pt} (k:List UInt8),Up S->okA (sumAt S k)=true
 | [],_,_=>by show okA 0=true;decide
 | p :: S,k,h=>by
  unfold sumAt
  split
  ·exact h.2 p (by simp)
  ·exact Up.sum_ok k h.tail
theorem Up.sum_mem:∀ {S:List Pt} {p:Pt},Up S->p∈S->sumAt S p.1=p.2
 | q :: S,p,h,hp=>by
  unfold sumAt
  rcases List.mem_cons.1 hp with rfl | hp
  ·rw[if_pos rfl]
  ·have:=(List.pairwise_cons.1 h.1).1 p hp
   rw[if_neg (fun e=>by rw[e] at this;exact List.lt_irrefl _ this),Up.sum_mem h.tail hp]
theorem mem_of_key:∀ {S:List Pt} {k:List UInt8},k∈S.map (·.1)->(k,sumAt S k)∈S
 | p :: S,k,h=>by
  unfold sumAt
  split
  ·rename_i e
   rw[<- e];simp
  ·rename_i e
   rcases List.mem_cons.1 h with h | h
   ·exact (e h.symm).elim
   ·exact List.mem_cons_of_mem _ (mem_of_key h)
theorem Up.nodup {S:List Pt} (h:Up S):S.Nodup:=h.1.imp (fun {a b} hlt e=>by rw[e] at hlt;exact List.lt_irrefl _ hlt)
theorem Up.perm {S out:List Pt} (h:Up S) (hnd:(out.map (·.1)).Nodup) (hm:∀ k,k∈out.map (·.1)↔k∈S.map (·.1)) (hv:∀ p∈out,p.2=sumAt S p.1):out.Perm S:=by
 refine (List.perm_ext_iff_of_nodup ((List.pairwise_map.1 hnd).imp fun {a b} hne e=>hne (by rw[e])) h.nodup).2 fun p=>?_
 constructor
 ·intro hp
  have h1:=mem_of_key ((hm p.1).1 (List.mem_map.2 ⟨p,hp,rfl⟩))
  rw[<- hv p hp] at h1
  exact h1
 ·intro hp
  obtain⟨q,hq,e⟩:=List.mem_map.1 ((hm p.1).2 (List.mem_map.2 ⟨p,hp,rfl⟩))
  have e2:=hv q hq
  have e':q.1=p.1:=e
  rw[e',h.sum_mem hp] at e2
  have:q=p:=Prod.ext e' e2
  rw[<- this];exact hq
theorem Up.sorted {S l:List Pt} (h:Up S) (hp:l.Perm S) (hs:l.Pairwise (fun a b=>¬ b.1 < a.1)):l=S:=by
 refine List.Perm.eq_of_pairwise (le:=fun a b=>¬ b.1 < a.1) (fun a b ha hb h1 h2=>?_) hs (h.1.imp fun {a b} hlt hgt=>lt_asymm' hlt hgt) hp
 have e:a.1=b.1:=by
  rcases lt_or h2 with e | e
  ·exact e
  ·exact (h1 e).elim
 have e1:=h.sum_mem (hp.mem_iff.1 ha)
 have e2:=h.sum_mem hb
 rw[e] at e1
 exact Prod.ext e (e1.symm.trans e2)
theorem joinL_up:∀ {L S R:List Pt},Up S->joinL S L=some R->Up R
 | [],S,R,h,e=>by cases e;exact h
 | p :: L,S,R,h,e=>by
  unfold joinL at e
  split at e
  ·cases e
  ·rename_i n hn
   exact joinL_up (h.set p.1 (addA_some hn).2.2.1) e
/-! Two strings held against one another. -/
theorem cmp_lt:∀ (a b:List UInt8),(Lib.compareBytes a b < 0↔a < b)/\(Lib.compareBytes a b > 0↔b < a)
 | [],[]=>by simp[Lib.compareBytes]
 | [],y :: b=>by simp[Lib.compareBytes]
 | x :: a,[]=>by simp[Lib.compareBytes]
 | x :: a,y :: b=>by
  have ih:=cmp_lt a b
  unfold Lib.compareBytes
  rw[List.cons_lt_cons_iff,List.cons_lt_cons_iff]
  by_cases h:x < y
  ·have h2:¬ y < x:=fun h2=>UInt8.lt_irrefl _ (UInt8.lt_trans h h2)
   have h3:¬ y=x:=fun e=>by subst e;exact UInt8.lt_irrefl _ h
   simp[h,h2,h3]
  ·by_cases h2:y < x
   ·have h3:¬ x=y:=fun e=>by subst e;exact UInt8.lt_irrefl _ h2
    simp[h,h2,h3]
   ·have h3:x=y:=UInt8.le_antisymm (UInt8.not_lt.1 h2) (UInt8.not_lt.1 h)
    subst h3
    simp[h,ih]
theorem less_iff:∀ (a b:List UInt8),Op.bytesLess a b=decide (a < b)
 | a,[]=>by cases a <;> simp[Op.bytesLess]
 | [],y :: b=>by simp[Op.bytesLess]
 | x :: a,y :: b=>by
  unfold Op.bytesLess
  rw[less_iff a b,Bool.eq_iff_iff]
  simp[List.cons_lt_cons_iff]
def cfP (x y:Pt):Int:=Lib.compareBytes x.1 y.1
theorem cfP_lt (x y:Pt):decide (cfP x y < 0)=decide (x.1 < y.1):=by
 unfold cfP
 simp only[decide_eq_decide]
 exact (cmp_lt x.1 y.1).1
theorem Up.sorted_in [Inhabited Pt] {S:List Pt} (h:Up S) {lt:Pt->Pt->Bool} (hlt:∀ x y,lt x y=decide (x.1 < y.1)) {d d':Array Pt} (hp:Sort.PermIn 0 d.size d d') (hs:Sort.SortedIn lt 0 d.size d') (hd:d.toList.Perm S):d'.toList=S:=by
 obtain⟨hsz,_,hperm⟩:=hp
 have e1:d'.extract 0 d.size=d':=by rw[<- hsz];exact Array.extract_size
 rw[e1,Array.extract_size] at hperm
 refine h.sorted (hperm.trans hd) ?_
 rw[List.pairwise_iff_getElem]
 intro i j hi hj hij
 have hi':i < d'.size:=by simpa using hi
 have hj':j < d'.size:=by simpa using hj
 have:=hs i j (Nat.zero_le _) hij (by omega)
 rw[getElem!_pos d' j hj',getElem!_pos d' i hi',hlt] at this
 simpa using this
/-! Products. -/
theorem times_nat {a b:Int} (ha:0<=a) (hb:0<=b) :
  ((a.toNat * b.toNat / 18446744073709551616=0/\a.toNat * b.toNat % 18446744073709551616<=1125899906842624)↔a * b<=1125899906842624):=by
 have e:((a.toNat * b.toNat:Nat):Int)=a * b:=by rw[Int.natCast_mul,Int.toNat_of_nonneg ha,Int.toNat_of_nonneg hb]
 constructor
 ·rintro⟨h1,h2⟩
  omega
 ·intro h
  omega
end Go.Proofs.YtgplnekpgdhcpaaGreat
