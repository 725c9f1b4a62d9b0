/- A region that draws its order, whose last operations wait for all the others: those in the text's order, in a class of worlds, then these, inside a fence (a call of yield may be among them). -/
import Derived.BigQuiet
import Derived.StillTail
import Derived.OwnWalkIn
import Derived.RangeFuncCalls
namespace Go.Proofs.YtgplnekpgdhcpaaGreat
open Go.RowKit
def muteT (n:Nat) (l:List Oper):List Oper:=l.take n ++ (l.drop n).map fun o=>Oper.mk none (.move (.const undef)) 0 "" o.after none
theorem muteT_len (n:Nat) (l:List Oper):(muteT n l).length=l.length:=by
 unfold muteT
 rw[List.length_append,List.length_map,List.length_take,List.length_drop]
 omega
theorem muteT_head {n i:Nat} {l:List Oper} (h:i < n):(muteT n l)[i]? = l[i]?:=by
 unfold muteT
 by_cases hl:i < (l.take n).length
 ·rw[List.getElem?_append_left hl,List.getElem?_take_of_lt h]
 ·rw[List.length_take] at hl
  rw[List.getElem?_append_right (by rw[List.length_take];omega),List.getElem?_eq_none (by rw[List.length_map,List.length_drop,List.length_take];omega),List.getElem?_eq_none (by omega)]
theorem muteT_tail {n i:Nat} {l:List Oper} (h:n<=i):(muteT n l)[i]? = (l[i]?).map fun o=>Oper.mk none (.move (.const undef)) 0 "" o.after none:=by
 unfold muteT
 by_cases hl:n<=l.length
 ·have e:(l.take n).length=n:=by rw[List.length_take];omega
  rw[List.getElem?_append_right (by omega),e,List.getElem?_map,List.getElem?_drop,show n+(i - n)=i by omega]
 ·rw[List.getElem?_eq_none (by rw[List.length_append,List.length_map,List.length_take,List.length_drop];omega),List.getElem?_eq_none (by omega)]
  rfl
theorem muteT_after (n i:Nat) (l:List Oper):((muteT n l)[i]?).map (·.after)=(l[i]?).map (·.after):=by
 rcases Nat.lt_or_ge i n with h | h
 ·rw[muteT_head h]
 ·rw[muteT_tail h,Option.map_map]
  rfl
theorem muteT_ready (n:Nat) (l:List Oper) (listed:Array Bool):Region.ready .any (muteT n l).toArray listed=Region.ready .any l.toArray listed:=by
 unfold Region.ready
 rw[List.size_toArray,List.size_toArray,muteT_len]
 apply List.filter_congr
 intro i _
 have h:=muteT_after n i l
 simp only[List.getElem?_toArray]
 cases h1:(muteT n l)[i]? <;> cases h2:l[i]? <;> rw[h1,h2] at h <;> simp only[Option.map_none,Option.map_some,reduceCtorEq,Option.some.injEq] at h ⊢
 rw[h]
def okP (R:Act->World->Prop):Exit->Act->World->Prop
 | .normal,a,w=>R a w
 | _,_,_=>False
structure Wd (F:Fence) (n:Nat) (P:Program):Prop where
 fn:∀ f,F.fn f
 depth:F.depth=none
 calls:∀ {f args w R},Calls P f args w R->CallsIn F (n - 1) P f args w R
 steps:∀ {m m'},Steps P m m'->StepsIn (Machine.fenced P F) P m m'
theorem Wd.wide (n:Nat) (P:Program):Wd Fence.wide n P:=⟨fun _=>trivial,rfl,fun h=>callsIn_wide.2 h,fun h=>stepsIn_wide.2 h⟩
theorem Wd.round (l n:Nat) (P:Program):Wd (Fence.wide.inRound l) n P:=⟨fun _=>trivial,rfl,fun h=>CallsIn.inRound l (callsIn_wide.2 h),fun h=>stepsIn_wide.2 h⟩
def noDeferT (l:List Oper):Bool:=l.all fun o=>match o.op with | .defer _=>false | _=>true
theorem noDeferT_spec {l:List Oper} (h:noDeferT l=true) {o:Oper} (ho:o∈l) (c:Call):o.op≠.defer c:=by
 intro e
 have:=List.all_eq_true.1 h o ho
 rw[e] at this
 cases this
theorem opIn {F:Fence} {n:Nat} {P:Program} (W:Wd F n P) {o:Oper} {a:Act} {w:World} {R K K':Act->World->Prop} {Q:Exit->Act->World->Prop} (hd:∀ c,o.op≠.defer c) (hk:∀ a w,K a w->K' a w) (h:o.wp P a w K (okP R)):o.wpIn F n P a w K' Q:=by
 refine⟨fun _ _=>W.fn _,?_⟩
 rw[Oper.semAt_plain F _ o hd]
 unfold Oper.wp at h
 generalize (execOp a.eval o).run P w=r at h
 cases r with
 | halt x w' =>
  cases x with
  | panic v=>exact h.elim
  | _=>exact h.elim
 | ok x w' =>
  cases x with
  | value v=>exact hk _ _ h
  | skip=>exact hk _ _ h
  | defer d=>exact hk _ _ h
  | enter f args =>
   refine⟨fun h0=>(by rw[W.depth] at h0;cases h0),W.calls ?_⟩
   refine Calls.mono h fun e w'' he=>?_
   cases e with
   | returned v=>exact hk _ _ he
   | panicked c=>exact he.elim
   | outgrown=>obtain⟨a0,w0,hq⟩:=he;exact hq.elim
  | row row args =>
   refine⟨fun h0=>(by rw[W.depth] at h0;cases h0),?_⟩
   intro c cs _
   obtain⟨v,w2,hR2,hst⟩:=h c cs
   exact⟨v,w2,hk _ _ hR2,W.steps hst⟩
  | _=>exact h.elim
section
variable {F:Fence} {m n:Nat} {P:Program} {l:List Oper} {R:Act->World->Prop} {Q:Exit->Act->World->Prop}
theorem stepIn (W:Wd F m P) (hnd:noDeferT l=true) {i:Nat} {rest:List Nat} {K:Act->World->Prop} {a:Act} {w:World} (hi:i < n) (hk:∀ a w,K a w->wpOpsIn F m P l.toArray Q rest a w) (h:wpOp P (muteT n l).toArray (okP R) i K a w) (hg:∀ j o,l[j]? = some o->j < n->∀ g b,o.guard=some (g,b)->g < n):wpOpsIn F m P l.toArray Q (i :: rest) a w:=by
 unfold wpOp at h
 simp only[wpOpsIn]
 rw[List.getElem?_toArray,muteT_head hi] at h
 rw[List.getElem?_toArray]
 cases ho:l[i]? with
 | none=>simp only[ho] at h ⊢;exact hk _ _ h
 | some o =>
  simp only[ho] at h ⊢
  have hw:Region.wanted o (yielded (muteT n l).toArray a.tmps)=Region.wanted o (yielded l.toArray a.tmps):=by
   cases hgd:o.guard with
   | none=>simp[Region.wanted,hgd]
   | some p =>
    obtain⟨g,b⟩:=p
    have:=hg i o ho hi g b hgd
    simp only[Region.wanted,hgd,yielded,List.getElem?_toArray,muteT_head this]
  rw[hw] at h
  by_cases hx:Region.wanted o (yielded l.toArray a.tmps)=true
  ·rw[if_pos hx] at h ⊢
   rcases h with h | ⟨_,a0,w0,hq⟩
   ·exact opIn W (fun c=>noDeferT_spec hnd (List.mem_of_getElem? ho) c) hk h
   ·exact hq.elim
  ·rw[if_neg hx] at h ⊢
   exact⟨fun _ _=>W.fn _,hk _ _ h⟩
theorem lastIn:∀ (g k fuel t:Nat) (listed:Array Bool) (a:Act) (w:World),n<=k->Region.seqB .any l.toArray g k listed=true->wpAny P .any (muteT n l).toArray (okP R) fuel listed a w ->
  Region.linearise.go .any l.toArray fuel t listed []=List.range' k g/\R a w
 | 0,k,fuel,t,listed,a,w,_,hs,h=>by
  have hr:Region.ready .any l.toArray listed=[]:=by simpa [Region.seqB] using hs
  have hr':Region.ready .any (muteT n l).toArray listed=[]:=by rw[muteT_ready];exact hr
  cases fuel with
  | zero=>exact⟨rfl,h.2⟩
  | succ f =>
   refine⟨?_,h.1 hr'⟩
   simp only[Region.linearise.go]
   change (match (Region.ready .any l.toArray listed)[t % (Region.ready .any l.toArray listed).length]? with | some i=>Region.linearise.go .any l.toArray f (t / (Region.ready .any l.toArray listed).length) (listed.setIfInBounds i true) [i] | none=>[].reverse)=_
   rw[hr]
   rfl
 | g+1,k,fuel,t,listed,a,w,hk,hs,h=>by
  simp only[Region.seqB,Bool.and_eq_true,decide_eq_true_eq] at hs
  have hr':Region.ready .any (muteT n l).toArray listed=[k]:=by rw[muteT_ready];exact hs.1
  cases fuel with
  | zero=>have:=h.1;rw[hr'] at this;cases this
  | succ f =>
   have h2:=h.2 k (by rw[hr'];exact List.mem_cons_self)
   have h3:wpAny P .any (muteT n l).toArray (okP R) f (listed.setIfInBounds k true) a w:=by
    unfold wpOp at h2
    rw[List.getElem?_toArray,muteT_tail hk] at h2
    cases ho:l[k]? with
    | none=>rw[ho] at h2;exact h2
    | some o =>
     rw[ho] at h2
     simp only[Option.map_some,Region.wanted,if_true] at h2
     rcases h2 with h2 | ⟨_,a0,w0,hq⟩
     ·exact h2
     ·exact hq.elim
   obtain⟨e1,e2⟩:=lastIn g (k+1) f (t / 1) (listed.setIfInBounds k true) a w (by omega) hs.2 h3
   refine⟨?_,e2⟩
   simp only[Region.linearise.go]
   change (match (Region.ready .any l.toArray listed)[t % (Region.ready .any l.toArray listed).length]? with | some i=>Region.linearise.go .any l.toArray f (t / (Region.ready .any l.toArray listed).length) (listed.setIfInBounds i true) [i] | none=>[].reverse)=_
   rw[hs.1]
   simp only[List.length_singleton,Nat.mod_one,List.getElem?_cons_zero]
   rw[linearise_go_acc,e1]
   rfl
theorem fin_of (hn:n < l.toArray.size) {listed:Array Bool} (inv:HeadInv .any l.toArray n listed) (hall:∀ i,i < n->listed.getD i true=true):listed=(List.replicate n true ++ List.replicate (l.length - n) false).toArray:=by
 have hsz:listed.size=l.length:=by simpa using inv.size
 have hn':n < l.length:=by simpa using hn
 apply Array.ext
 ·simp;omega
 ·intro i h1 h2
  have e:(List.replicate n true ++ List.replicate (l.length - n) false).toArray[i]=(List.replicate n true ++ List.replicate (l.length - n) false)[i]'(by simpa using h2):=rfl
  rw[e]
  by_cases h:i < n
  ·have:=hall i h
   simp[h1] at this
   rw[List.getElem_append_left (by simpa using h)]
   simp[this]
  ·have:=inv.tail i (by omega) (by simpa [hsz] using h1)
   simp[h1] at this
   rw[List.getElem_append_right (by simpa using h)]
   simp[this]
def backT (l:List Oper):Bool:=(List.range l.length).all fun j=>match l[j]? with | some o=>o.after.all fun e=>decide (e.on < j) | none=>true
theorem backT_spec (h:backT l=true) {j:Nat} {o:Oper} (ho:l[j]? = some o) {e:Edge} (he:e∈o.after):e.on < j:=by
 have h1:=List.all_eq_true.1 h j (List.mem_range.2 (List.getElem?_eq_some_iff.1 ho).1)
 simp only[ho] at h1
 have:=Array.all_eq_true'.1 h1 e he
 simpa using this
theorem ready_ne (hb:backT l=true) {listed:Array Bool} (hs:listed.size=l.length):∀ (d i:Nat),i=d->i < l.length->listed.getD i true=false->Region.ready .any l.toArray listed≠[]:=by
 intro d
 induction d using Nat.strongRecOn with
 | _ d ih =>
  intro i hd hi hun hr
  obtain⟨o,ho⟩:∃ o,l[i]? = some o:=⟨_,List.getElem?_eq_getElem hi⟩
  by_cases hall:∀ e∈o.after,Region.binds .any e=true->listed.getD e.on false=true
  ·have:i∈Region.ready .any l.toArray listed:=mem_ready.2 ⟨hun,o,by rw[List.getElem?_toArray];exact ho,hall⟩
   rw[hr] at this
   cases this
  ·simp only[Classical.not_forall] at hall
   obtain⟨e,he,hbd,hl⟩:=hall
   have hlt:=backT_spec hb ho he
   have hf:listed.getD e.on false=false:=by simpa using hl
   exact ih e.on (by omega) e.on rfl (by omega) (getD_in (by omega) hf) hr
theorem allIn (W:Wd F m P) (hnd:noDeferT l=true) (hg:∀ j o,l[j]? = some o->j < n->∀ g b,o.guard=some (g,b)->g < n) (hs:Region.sinkB .any l.toArray n=true) (hc:Region.chainB .any l.toArray n=true) (hn:n < l.toArray.size) (hb:backT l=true)
  (hfin:Region.seqB .any l.toArray (l.length - n) n (List.replicate n true ++ List.replicate (l.length - n) false).toArray=true) (hR:∀ a w,R a w->wpOpsIn F m P l.toArray Q (List.range' n (l.length - n)) a w) :
  ∀ (fuel t:Nat) (listed:Array Bool) (a:Act) (w:World),HeadInv .any l.toArray n listed->listed.countP (fun b=>!b)<=fuel->wpAny P .any (muteT n l).toArray (okP R) fuel listed a w->wpOpsIn F m P l.toArray Q (Region.linearise.go .any l.toArray fuel t listed []) a w:=by
 intro fuel
 induction fuel with
 | zero =>
  intro t listed a w inv hcnt h
  by_cases hall:∀ i,i < n->listed.getD i true=true
  ·rw[fin_of hn inv hall] at h ⊢
   obtain⟨e1,e2⟩:=lastIn (l.length - n) n 0 t _ a w (Nat.le_refl _) hfin h
   rw[e1]
   exact hR _ _ e2
  ·exfalso
   simp only[Classical.not_forall] at hall
   obtain⟨i,hi,hun⟩:=hall
   have hun':listed.getD i true=false:=by simpa using hun
   have hlt:i < listed.size:=by rw[inv.size];omega
   have hmem:false∈listed:=by
    have e:listed[i]=false:=by simpa [hlt] using hun'
    rw[<- e];exact Array.getElem_mem hlt
   have:0 < listed.countP (fun b=>!b):=Array.countP_pos_iff.2 ⟨false,hmem,rfl⟩
   omega
 | succ fuel ih =>
  intro t listed a w inv hcnt h
  by_cases hall:∀ i,i < n->listed.getD i true=true
  ·rw[fin_of hn inv hall] at h ⊢
   obtain⟨e1,e2⟩:=lastIn (l.length - n) n (fuel+1) t _ a w (Nat.le_refl _) hfin h
   rw[e1]
   exact hR _ _ e2
  ·simp only[Classical.not_forall] at hall
   obtain⟨i0,hi0,hun⟩:=hall
   have hun':listed.getD i0 true=false:=by simpa using hun
   have hne:=ready_ne hb (by simpa using inv.size) i0 i0 rfl (by simp at hn;omega) hun'
   have hlow:∀ j∈Region.ready .any l.toArray listed,j < n:=fun j hj=>by
    rcases Nat.lt_or_ge j n with h1 | h1
    ·exact h1
    ·exact absurd hj (tail_waits hs hc hn inv (n - i0) i0 rfl hi0 hun' j h1)
   simp only[Region.linearise.go]
   change wpOpsIn F m P l.toArray Q (match (Region.ready .any l.toArray listed)[t % (Region.ready .any l.toArray listed).length]? with | some i=>Region.linearise.go .any l.toArray fuel (t / (Region.ready .any l.toArray listed).length) (listed.setIfInBounds i true) [i] | none=>[].reverse) a w
   have hpos:0 < (Region.ready .any l.toArray listed).length:=List.length_pos_iff.2 hne
   have hlt:=Nat.mod_lt t hpos
   rw[List.getElem?_eq_getElem hlt]
   obtain⟨i,hi⟩:∃ i,i=(Region.ready .any l.toArray listed)[t % (Region.ready .any l.toArray listed).length]:=⟨_,rfl⟩
   have him:i∈Region.ready .any l.toArray listed:=by rw[hi];exact List.getElem_mem hlt
   rw[<- hi]
   simp only
   rw[linearise_go_acc,List.reverse_singleton,List.singleton_append]
   have hun2:=(mem_ready.1 him).1
   have hil:i < listed.size:=by rw[inv.size];have:=hlow i him;omega
   refine stepIn W hnd (hlow i him) (fun a' w' h'=>ih _ _ a' w' (inv.set him (hlow i him)) ?_ h') (h.2 i (by rw[muteT_ready];exact him)) hg
   have hli:listed[i]=false:=by simpa [hil] using hun2
   rw[Array.setIfInBounds,dif_pos hil,Array.countP_set hil]
   have hpos2:0 < listed.countP (fun b=>!b):=Array.countP_pos_iff.2 ⟨false,by rw[<- hli];exact Array.getElem_mem hil,rfl⟩
   simp only[hli,Bool.not_false,if_true,Bool.not_true,Bool.false_eq_true,if_false]
   omega
end
def guardT (n:Nat) (l:List Oper):Bool:=(l.take n).all fun o=>match o.guard with | some (g,_)=>decide (g < n) | none=>true
theorem guardT_spec {n:Nat} {l:List Oper} (h:guardT n l=true):∀ j o,l[j]? = some o->j < n->∀ g b,o.guard=some (g,b)->g < n:=fun j o ho hj g b hgd=>by
 have hm:o∈l.take n:=List.mem_of_getElem? (i:=j) (by rw[List.getElem?_take_of_lt hj];exact ho)
 have:=List.all_eq_true.1 h o hm
 rw[hgd] at this
 simpa using this
def tailT (n:Nat) (l:List Oper):Bool:=noDeferT l && guardT n l && Region.sinkB .any l.toArray n && Region.chainB .any l.toArray n && decide (n < l.length) && backT l && Region.seqB .any l.toArray (l.length - n) n (List.replicate n true ++ List.replicate (l.length - n) false).toArray && Region.lexB .any (muteT n l).toArray
theorem region_tail {F:Fence} {m:Nat} {P:Program} (W:Wd F m P) {id:Nat} {Q:Exit->Act->World->Prop} {a:Act} {w:World} {l:List Oper} (n:Nat) (hm:P.follows .mixedOrders=true) (hB:tailT n l=true) (C:World->Prop) (hC:C { w with drawn:=w.drawn+1 }) (R:Act->Prop)
  (h:wpQuiet P (muteT n l).toArray C R (muteT n l) a) (hT:∀ a' w',C w'->R a'->wpListIn F m P l.toArray Q (l.drop n) a' w'):(Code.region id l.toArray true).wpIn F m P Q a w:=by
 unfold tailT at hB
 simp only[Bool.and_eq_true,decide_eq_true_eq] at hB
 obtain⟨⟨⟨⟨⟨⟨⟨b1,b2⟩,b3⟩,b4⟩,b5⟩,b6⟩,b7⟩,b8⟩:=hB
 have b8':=b8
 simp only[Region.lexB,Bool.and_eq_true] at b8'
 have hq:=wpAnyQ_lex (P:=P) (C:=C) (Q:=R) (md:=.any) b8'.1 (muteT n l).toArray.toList 0 (Array.replicate (muteT n l).toArray.size false) a (by simp) (by simpa using b8'.2) (by simpa using h)
 have ha:=wpAny_of_quiet (P:=P) (C:=C) (Q:=R) (Q':=okP fun a w=>C w/\R a) (fun a w h1 h2=>⟨h1,h2⟩) _ _ a _ hC hq
 have e1:(muteT n l).toArray.toList.length=l.toArray.size:=by simp[muteT_len]
 have e2:(muteT n l).toArray.size=l.toArray.size:=by simp[muteT_len]
 rw[e1,e2] at ha
 refine wpIn_region_draw fun t=>?_
 simp only[Region.schedule,hm,Bool.true_or,if_true]
 have inv0:HeadInv .any l.toArray n (Array.replicate l.toArray.size false) :=
  ⟨by simp,fun j oj _ hl=>(by rw[getD_replicate_false] at hl;cases hl),fun t _ ht=>getD_in (by simpa using ht) (getD_replicate_false _ _)⟩
 have hdl:(l.drop n).length=l.length - n:=List.length_drop
 refine allIn (R:=fun a w=>C w/\R a) W b1 (guardT_spec b2) b3 b4 (by simpa using b5) b6 b7 (fun a' w' hr=>?_) l.toArray.size t _ a _ inv0 ?_ ha
 ·rw[<- hdl,wpOpsIn_eq_wpListIn (l.drop n) n (fun j=>by simp[List.getElem?_drop])]
  exact hT a' w' hr.1 hr.2
 ·exact Nat.le_trans Array.countP_le_size (by simp)
end Go.Proofs.YtgplnekpgdhcpaaGreat
