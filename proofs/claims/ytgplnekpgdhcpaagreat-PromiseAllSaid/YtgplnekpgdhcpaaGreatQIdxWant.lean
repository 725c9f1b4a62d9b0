/-  -/
import Derived.Test.YtgplnekpgdhcpaaGreatProg
import Derived.Test.YtgplnekpgdhcpaaGreatJPure
import Derived.Maps.OwnSet
import Derived.Maps.Views
import Derived.WideKeyArgs2
import Derived.OwnWalk
import Derived.Sort.EncStr
import Derived.Test.YtgplnekpgdhcpaaGreatQBridge
import Derived.Test.YtgplnekpgdhcpaaGreatQWant
import Derived.Shelf.SlLaysF0
namespace Go.Proofs.YtgplnekpgdhcpaaGreat
section
section
variable {α:Type}
def hgt (kids:α->List α):Nat->α->Option Nat
 | 0,_=>none
 | k+1,c=>(kids c).foldl (fun acc p=>match acc,hgt kids k p with|some n,some d=>some (max n (d+1))|_,_=>none) (some 1)
def stepH (f:α->Option Nat) (acc:Option Nat) (p:α):Option Nat:=match acc,f p with|some n,some d=>some (max n (d+1))|_,_=>none
theorem hgt_succ (kids:α->List α) (k:Nat) (c:α):hgt kids (k+1) c=(kids c).foldl (stepH (hgt kids k)) (some 1):=rfl
theorem stepH_none (f:α->Option Nat) (l:List α):l.foldl (stepH f) none=none:=by
 induction l with
 | nil=>rfl
 | cons x l ih=>rw[List.foldl_cons];exact ih
theorem foldH_some {f:α->Option Nat}:∀ {l:List α} {n m:Nat},l.foldl (stepH f) (some n)=some m->n<=m/\∀ p∈l,∃ d,f p=some d/\d+1<=m
 | [],n,m,h=>by
  cases h
  exact⟨Nat.le_refl _,fun p hp=>by cases hp⟩
 | x::l,n,m,h=>by
  rw[List.foldl_cons] at h
  cases hx:f x with
  | none =>
   have:stepH f (some n) x=none:=by simp[stepH,hx]
   rw[this,stepH_none] at h
   cases h
  | some d =>
   have e:stepH f (some n) x=some (max n (d+1)):=by simp[stepH,hx]
   rw[e] at h;obtain⟨h1,h2⟩:=foldH_some h;refine⟨by omega,fun p hp=>?_⟩;rcases List.mem_cons.1 hp with rfl|hp
   ·exact⟨d,hx,by omega⟩
   ·exact h2 p hp
theorem foldH_congr {f g:α->Option Nat}:∀ {l:List α} {n m:Nat},(∀ p∈l,∀ d,f p=some d->g p=some d)->l.foldl (stepH f) (some n)=some m->l.foldl (stepH g) (some n)=some m
 | [],n,m,_,h=>h
 | x::l,n,m,hc,h=>by
  rw[List.foldl_cons] at h ⊢
  cases hx:f x with
  | none =>
   have:stepH f (some n) x=none:=by simp[stepH,hx]
   rw[this,stepH_none] at h
   cases h
  | some d =>
   have e:stepH f (some n) x=some (max n (d+1)):=by simp[stepH,hx]
   have e':stepH g (some n) x=some (max n (d+1)):=by simp[stepH,hc x (List.mem_cons_self ..) d hx]
   rw[e] at h;rw[e'];exact foldH_congr (fun p hp=>hc p (List.mem_cons_of_mem _ hp)) h
theorem foldH_top {f:α->Option Nat}:∀ {l:List α} {n m:Nat},l.foldl (stepH f) (some n)=some m->m=n∨∃ p∈l,∃ d,f p=some d/\m=d+1
 | [],n,m,h=>by cases h;exact Or.inl rfl
 | x::l,n,m,h=>by
  rw[List.foldl_cons] at h
  cases hx:f x with
  | none =>
   have:stepH f (some n) x=none:=by simp[stepH,hx]
   rw[this,stepH_none] at h
   cases h
  | some d =>
   have e:stepH f (some n) x=some (max n (d+1)):=by simp[stepH,hx]
   rw[e] at h;rcases foldH_top h with h|⟨p,hp,d',hd,hm⟩
   ·by_cases hle:n<=d+1
    ·exact Or.inr ⟨x,List.mem_cons_self ..,d,hx,by omega⟩
    ·exact Or.inl (by omega)
   ·exact Or.inr ⟨p,List.mem_cons_of_mem _ hp,d',hd,hm⟩
variable {kids:α->List α}
theorem hgt_mono1:∀ (k:Nat) (c:α) (d:Nat),hgt kids k c=some d->hgt kids (k+1) c=some d
 | 0,_,_,h=>by cases h
 | k+1,c,d,h=>by
  rw[hgt_succ] at h ⊢;exact foldH_congr (fun p _ d hd=>hgt_mono1 k p d hd) h
theorem hgt_mono {k k':Nat} (hk:k<=k') {c:α} {d:Nat} (h:hgt kids k c=some d):hgt kids k' c=some d:=by
 induction hk with
 | refl=>exact h
 | step _ ih=>exact hgt_mono1 _ _ _ ih
theorem hgt_one {k k':Nat} {c:α} {d d':Nat} (h:hgt kids k c=some d) (h':hgt kids k' c=some d'):d=d':=by
 have a:=hgt_mono (Nat.le_max_left k k') h;have b:=hgt_mono (Nat.le_max_right k k') h';rw[a] at b
 cases b;rfl
theorem hgt_pos {k:Nat} {c:α} {d:Nat} (h:hgt kids k c=some d):1<=d:=by
 cases k with
 | zero=>cases h
 | succ k=>exact (foldH_some h).1
theorem hgt_kid {k:Nat} {c p:α} {d:Nat} (h:hgt kids k c=some d) (hp:p∈kids c):∃ k' d',hgt kids k' p=some d'/\d' < d:=by
 cases k with
 | zero=>cases h
 | succ k =>
  obtain⟨d',h1,h2⟩:=(foldH_some h).2 p hp;exact⟨k,d',h1,h2⟩
theorem hgt_fuel:∀ (d k:Nat) (c:α),hgt kids k c=some d->hgt kids d c=some d
 | d,0,_,h=>by cases h
 | d,k+1,c,h=>by
  have h0:=h;rw[hgt_succ] at h;have hp:=hgt_pos h0;obtain⟨e,rfl⟩:∃ e,d=e+1:=⟨d-1,by omega⟩
  rw[hgt_succ];refine foldH_congr (fun p hpm d' hd=>?_) h;obtain⟨d2,h2,hle⟩:=(foldH_some h).2 p hpm;rw[hd] at h2
  cases h2
  exact hgt_mono (by omega) (hgt_fuel d' k p hd)
theorem hgt_below {k:Nat} {c:α} {d:Nat} (h:hgt kids k c=some (d+1)) (hd:1<=d):∃ p∈kids c,∃ k',hgt kids k' p=some d:=by
 cases k with
 | zero=>cases h
 | succ k =>
  rcases foldH_top h with h|⟨p,hp,d',hd',hm⟩
  ·omega
  ·exact⟨p,hp,k,by rw[hd'];congr 1;omega⟩
theorem hgt_chain {V:List α} (hV:∀ c∈V,∀ p∈kids c,p∈V):∀ (d:Nat) {k:Nat} {c:α},c∈V->hgt kids k c=some d->∀ e,1<=e->e<=d->∃ x∈V,∃ k',hgt kids k' x=some e
 | 0,_,_,_,h,_,_,_=>absurd (hgt_pos h) (by omega)
 | d+1,k,c,hc,h,e,h1,h2=>by
  by_cases he:e=d+1
  ·exact⟨c,hc,k,by rw[he];exact h⟩
  ·obtain⟨p,hp,k',hk'⟩:=hgt_below h (by omega);exact hgt_chain hV d (hV c hc p hp) hk' e h1 (by omega)
theorem many [DecidableEq α] (f:Nat->α) (V:List α) (d:Nat) (hf:∀ e,1<=e->e<=d->f e∈V) (hi:∀ a b,1<=a->a<=d->1<=b->b<=d->f a=f b->a=b):d<=V.length:=by
 induction d generalizing V with
 | zero=>exact Nat.zero_le _
 | succ d ih =>
  have hm:=hf (d+1) (by omega) (Nat.le_refl _);have h:=ih (V.erase (f (d+1))) (fun e h1 h2=>by
   have h3:=hf e h1 (by omega);refine (List.mem_erase_of_ne (fun he=>?_)).2 h3;have:=hi e (d+1) h1 (by omega) (by omega) (Nat.le_refl _) he;omega) (fun a b h1 h2 h3 h4=>hi a b h1 (by omega) h3 (by omega))
  rw[List.length_erase_of_mem hm] at h;have:0<V.length:=List.length_pos_of_mem hm;omega
theorem hgt_le [DecidableEq α] {V:List α} (hV:∀ c∈V,∀ p∈kids c,p∈V) {k:Nat} {c:α} (hc:c∈V) {d:Nat} (h:hgt kids k c=some d):d<=V.length:=by
 have hch:=hgt_chain hV d hc h;have hex:∀ e,∃ x,(1<=e->e<=d->x∈V/\∃ k',hgt kids k' x=some e):=fun e=>by
  by_cases he:1<=e/\e<=d
  ·obtain⟨x,hx,k',hk⟩:=hch e he.1 he.2;exact⟨x,fun _ _=>⟨hx,k',hk⟩⟩
  ·exact⟨c,fun a b=>absurd ⟨a,b⟩ he⟩
 let f:Nat->α:=fun e=>Classical.choose (hex e)
 have hf:∀ e,1<=e->e<=d->f e∈V/\∃ k',hgt kids k' (f e)=some e:=fun e=>Classical.choose_spec (hex e)
 refine many f V d (fun e h1 h2=>(hf e h1 h2).1) (fun a b h1 h2 h3 h4 he=>?_);obtain⟨k1,e1⟩:=(hf a h1 h2).2;obtain⟨k2,e2⟩:=(hf b h3 h4).2;rw[he] at e1;exact hgt_one e1 e2
theorem hgt_all [DecidableEq α] {V:List α} (hV:∀ c∈V,∀ p∈kids c,p∈V) {k:Nat} {c:α} (hc:c∈V) {d:Nat} (h:hgt kids k c=some d):hgt kids V.length c=some d :=
 hgt_mono (hgt_le hV hc h) (hgt_fuel d k c h)
inductive Way (kids:α->List α):α->α->Prop
 | one {a b:α}:b∈kids a->Way kids a b
 | more {a b c:α}:Way kids a b->c∈kids b->Way kids a c
theorem Way.lower {a b:α} (h:Way kids a b):∀ {k d:Nat},hgt kids k a=some d->∃ k' d',hgt kids k' b=some d'/\d' < d:=by
 induction h with
 | one hb=>intro k d hk;exact hgt_kid hk hb
 | more _ hc ih =>
  intro k d hk;obtain⟨k1,d1,h1,l1⟩:=ih hk;obtain⟨k2,d2,h2,l2⟩:=hgt_kid h1 hc;exact⟨k2,d2,h2,by omega⟩
theorem Way.round {a:α} (h:Way kids a a) (k:Nat):hgt kids k a=none:=by
 cases hk:hgt kids k a with
 | none=>rfl
 | some d =>
  obtain⟨k',d',h',hl⟩:=h.lower hk;have:=hgt_one hk h';omega
theorem foldH_of {g:α->Option Nat} {f:α->Nat}:∀ {l:List α} {n:Nat},(∀ p∈l,g p=some (f p))->l.foldl (stepH g) (some n)=some (l.foldl (fun n p=>max n (f p+1)) n)
 | [],_,_=>rfl
 | x::l,n,hk=>by
  rw[List.foldl_cons,List.foldl_cons];have e:stepH g (some n) x=some (max n (f x+1)):=by simp[stepH,hk x (List.mem_cons_self ..)]
  rw[e];exact foldH_of (fun p hp=>hk p (List.mem_cons_of_mem _ hp))
theorem hgt_of_kids {c:α} {f:α->Nat} (h:∀ p∈kids c,∃ k,hgt kids k p=some (f p)):∃ k,hgt kids k c=some ((kids c).foldl (fun n p=>max n (f p+1)) 1):=by
 have hall:∃ k,∀ p∈kids c,hgt kids k p=some (f p):=by
  generalize kids c=l at h
  induction l with
  | nil=>exact⟨0,fun p hp=>by cases hp⟩
  | cons x l ih =>
   obtain⟨k1,h1⟩:=ih (fun p hp=>h p (List.mem_cons_of_mem _ hp));obtain⟨k2,h2⟩:=h x (List.mem_cons_self ..);refine⟨max k1 k2,fun p hp=>?_⟩;rcases List.mem_cons.1 hp with rfl|hp
   ·exact hgt_mono (Nat.le_max_right _ _) h2
   ·exact hgt_mono (Nat.le_max_left _ _) (h1 p hp)
 obtain⟨k,hk⟩:=hall;refine⟨k+1,?_⟩;rw[hgt_succ];exact foldH_of hk
end
end
section
section
variable {α:Type} {kids:α->List α}
def valO (o:α->Nat) (l:List α):Nat:=l.foldl (fun n p=>if n=0∨o p=0 then 0 else max n (o p+1)) 1
def goV (o:α->Nat) (n:Nat) (p:α):Nat:=if n=0∨o p=0 then 0 else max n (o p+1)
theorem valO_eq (o:α->Nat) (l:List α):valO o l=l.foldl (goV o) 1:=rfl
theorem goV_zero (o:α->Nat) (l:List α):l.foldl (goV o) 0=0:=by
 induction l with
 | nil=>rfl
 | cons x l ih=>rw[List.foldl_cons,show goV o 0 x=0 by simp[goV]];exact ih
theorem goV_pos {o:α->Nat}:∀ {l:List α} {n:Nat},l.foldl (goV o) n≠0->n≠0/\(∀ p∈l,o p≠0)/\l.foldl (goV o) n=l.foldl (fun n p=>max n (o p+1)) n
 | [],n,h=>⟨h,fun p hp=>(by cases hp),rfl⟩
 | x::l,n,h=>by
  rw[List.foldl_cons] at h ⊢;by_cases hx:n=0∨o x=0
  ·rw[show goV o n x=0 by simp[goV,hx],goV_zero] at h;exact absurd rfl h
  ·have e:goV o n x=max n (o x+1):=by simp[goV,hx]
   rw[e] at h ⊢;obtain⟨h1,h2,h3⟩:=goV_pos h;refine⟨fun e=>hx (Or.inl e),fun p hp=>?_,h3⟩;rcases List.mem_cons.1 hp with rfl|hp
   ·exact fun e=>hx (Or.inr e)
   ·exact h2 p hp
theorem goV_all {o:α->Nat}:∀ {l:List α} {n:Nat},n≠0->(∀ p∈l,o p≠0)->l.foldl (goV o) n=l.foldl (fun n p=>max n (o p+1)) n
 | [],n,_,_=>rfl
 | x::l,n,hn,h=>by
  rw[List.foldl_cons,List.foldl_cons];have e:goV o n x=max n (o x+1):=by simp[goV,hn,h x (List.mem_cons_self ..)]
  rw[e];exact goV_all (by omega) (fun p hp=>h p (List.mem_cons_of_mem _ hp))
def Snd (kids:α->List α) (o:α->Nat):Prop:=∀ c,o c≠0->∃ k,hgt kids k c=some (o c)
def Cmp (kids:α->List α) (V:List α) (r:Nat) (o:α->Nat):Prop:=∀ c∈V,∀ d,hgt kids r c=some d->o c=d
def setO [DecidableEq α] {β:Type} (o:α->β) (c:α) (v:β):α->β:=fun x=>if x=c then v else o x
theorem Snd.zero:Snd kids (fun _=>0):=fun _ h=>absurd rfl h
theorem Cmp.zero (V:List α) (o:α->Nat):Cmp kids V 0 o:=fun c _ d h=>by cases h
theorem Snd.val {o:α->Nat} (h:Snd kids o) {c:α} (hv:valO o (kids c)≠0):∃ k,hgt kids k c=some (valO o (kids c)):=by
 obtain⟨-,h2,h3⟩:=goV_pos hv;rw[valO_eq,h3];exact hgt_of_kids fun p hp=>h p (h2 p hp)
theorem Snd.step [DecidableEq α] {o:α->Nat} (h:Snd kids o) (c:α):Snd kids (setO o c (valO o (kids c))):=fun x hx=>by
 by_cases e:x=c
 ·subst e;simp only[setO,if_true] at hx ⊢;exact h.val hx
 ·simp only[setO,if_neg e] at hx ⊢;exact h x hx
theorem val_of {V:List α} {r:Nat} {o:α->Nat} (h:Cmp kids V r o) {c:α} (hV:∀ p∈kids c,p∈V) {d:Nat} (hd:hgt kids (r+1) c=some d):valO o (kids c)=d:=by
 have hk:=(foldH_some (by rw[hgt_succ] at hd;exact hd)).2;have ho:∀ p∈kids c,∃ k,hgt kids k p=some (o p):=fun p hp=>by
  obtain⟨d',h1,-⟩:=hk p hp;exact⟨r,by rw[h p (hV p hp) d' h1];exact h1⟩
 have hz:∀ p∈kids c,o p≠0:=fun p hp=>by
  obtain⟨k,hk'⟩:=ho p hp;have:=hgt_pos hk';omega
 obtain⟨k,hk'⟩:=hgt_of_kids ho;rw[valO_eq,goV_all (by omega) hz];exact hgt_one hk' hd
theorem Cmp.step [DecidableEq α] {V:List α} {r:Nat} {o:α->Nat} (h:Cmp kids V r o) {c:α} (hV:∀ p∈kids c,p∈V):Cmp kids V r (setO o c (valO o (kids c))):=fun x hx d hd=>by
 by_cases e:x=c
 ·subst e;simp only[setO,if_true];exact val_of h hV (hgt_mono1 _ _ _ hd)
 ·simp only[setO,if_neg e];exact h x hx d hd
theorem rounds_end [DecidableEq α] {V:List α} (hV:∀ c∈V,∀ p∈kids c,p∈V) {o:α->Nat} {r:Nat} (hr:V.length<=r) (h1:Snd kids o) (h2:Cmp kids V r o) {c:α} (hc:c∈V):o c=(hgt kids V.length c).getD 0:=by
 cases hk:hgt kids V.length c with
 | some d=>exact h2 c hc d (hgt_mono hr hk)
 | none =>
  by_cases h0:o c=0
  ·exact h0
  ·obtain⟨k,hk'⟩:=h1 c h0;rw[hgt_all hV hc hk'] at hk
   cases hk
def DI (kids:α->List α) (o:α->Int):Prop:=∀ c,o c=0∨o c=-1∨∃ k d,hgt kids k c=some d/\o c=(d:Int)
def Ext (o o':α->Int):Prop:=(∀ x,o x≠0->o' x=o x)/\∀ x,o' x=-1->o x=-1
theorem Ext.refl (o:α->Int):Ext o o:=⟨fun _ _=>rfl,fun _ h=>h⟩
theorem Ext.trans {a b c:α->Int} (h:Ext a b) (k:Ext b c):Ext a c :=
 ⟨fun x hx=>by have:=h.1 x hx;rw[k.1 x (by rw[this];exact hx),this],fun x hx=>h.2 x (k.2 x hx)⟩
def zc (V:List α) (o:α->Int):Nat:=V.countP fun x=>decide (o x=0)
theorem zc_cons (x:α) (V:List α) (o:α->Int):zc (x::V) o=zc V o+(if o x=0 then 1 else 0):=by simp[zc,List.countP_cons]
theorem zc_le {V:List α} {a b:α->Int} (h:∀ x∈V,b x=0->a x=0):zc V b<=zc V a:=by
 induction V with
 | nil=>exact Nat.le_refl _
 | cons x V ih =>
  rw[zc_cons,zc_cons];have:=ih (fun y hy=>h y (List.mem_cons_of_mem _ hy));have h1:=h x (List.mem_cons_self ..);by_cases hb:b x=0
  ·rw[if_pos hb,if_pos (h1 hb)];omega
  ·rw[if_neg hb];omega
theorem Ext.zc {a b:α->Int} (h:Ext a b) (V:List α):zc V b<=zc V a:=zc_le fun x _ hb=>by
 by_cases ha:a x=0
 ·exact ha
 ·rw[h.1 x ha] at hb;exact hb
theorem setO_same [DecidableEq α] {β:Type} (o:α->β) (c:α) (v:β):setO o c v c=v:=if_pos rfl
theorem setO_other [DecidableEq α] {β:Type} (o:α->β) {c x:α} (h:x≠c) (v:β):setO o c v x=o x:=if_neg h
theorem zc_set [DecidableEq α] {o:α->Int} {c:α} {V:List α} (h0:o c=0) (hc:c∈V):zc V (setO o c (-1))<zc V o:=by
 have hz:∀ x,setO o c (-1) x=0->o x=0:=fun x hx=>by
  by_cases e:x=c
  ·rw[e];exact h0
  ·rw[setO_other o e] at hx;exact hx
 induction V with
 | nil=>cases hc
 | cons x V ih =>
  rw[zc_cons,zc_cons];by_cases e:x=c
  ·subst e;have:=zc_le (V:=V) (fun y _=>hz y);rw[setO_same,if_pos h0,if_neg (by decide)];omega
  ·have hm:c∈V:=by
    rcases List.mem_cons.1 hc with h|h
    ·exact absurd h.symm e
    ·exact h
   have:=ih hm;rw[setO_other o e];omega
def Up2 (kids:α->List α) (o:α->Int) (c:α):Prop:=∀ x,o x=-1->Way kids x c
theorem Up2.kid [DecidableEq α] {o o':α->Int} {c p:α} (h:Up2 kids o c) (he:∀ x,o' x=-1->setO o c (-1) x=-1) (hp:p∈kids c):Up2 kids o' p:=fun x hx=>by
 have h1:=he x hx;by_cases e:x=c
 ·subst e;exact Way.one hp
 ·simp only[setO,if_neg e] at h1;exact Way.more (h x h1) hp
theorem DI.set [DecidableEq α] {o:α->Int} (h:DI kids o) (c:α):DI kids (setO o c (-1)):=fun x=>by
 by_cases e:x=c
 ·subst e;exact Or.inr (Or.inl (by simp[setO]))
 ·simp only[setO,if_neg e];exact h x
theorem DI.done [DecidableEq α] {o:α->Int} (h:DI kids o) {c:α} (hk:∀ p∈kids c,0<o p):∃ k,hgt kids k c=some ((kids c).foldl (fun n p=>max n ((o p).toNat+1)) 1) :=
 hgt_of_kids fun p hp=>by
  rcases h p with h0|h0|⟨k,d,hd,e⟩
  ·have:=hk p hp;omega
  ·have:=hk p hp;omega
  ·exact⟨k,by rw[hd,e];simp⟩
theorem DI.put [DecidableEq α] {o:α->Int} (h:DI kids o) {c:α} {k d:Nat} (hd:hgt kids k c=some d):DI kids (setO o c (d:Int)):=fun x=>by
 by_cases e:x=c
 ·subst e;exact Or.inr (Or.inr ⟨k,d,hd,by simp[setO]⟩)
 ·simp only[setO,if_neg e];exact h x
theorem Ext.back [DecidableEq α] {o oj:α->Int} {c:α} (h0:o c=0) (h:Ext (setO o c (-1)) oj) {d:Nat}:Ext o (setO oj c (d:Int)):=by
 refine⟨fun x hx=>?_,fun x hx=>?_⟩
 ·by_cases e:x=c
  ·subst e;exact absurd h0 hx
  ·simp only[setO,if_neg e];have:=h.1 x (by simp only[setO,if_neg e];exact hx);simp only[setO,if_neg e] at this;exact this
 ·by_cases e:x=c
  ·subst e;simp only[setO,if_true] at hx;omega
  ·simp only[setO,if_neg e] at hx;have:=h.2 x hx;simp only[setO,if_neg e] at this;exact this
theorem maxfold_congr {o o':α->Int} {l:List α} {n:Nat} (h:∀ p∈l,o p=o' p):l.foldl (fun n p=>max n ((o p).toNat+1)) n=l.foldl (fun n p=>max n ((o' p).toNat+1)) n:=by
 induction l generalizing n with
 | nil=>rfl
 | cons x l ih =>
  rw[List.foldl_cons,List.foldl_cons,h x (List.mem_cons_self ..)];exact ih fun p hp=>h p (List.mem_cons_of_mem _ hp)
end
end
section
open Go.RowKit Go.Maps
def RVal (v:Value):Option (DataW Value×List MemPlace):=some (.held v,[])
def MF (w:World) (b n:Nat) (z:Value) (f:List UInt8->Value):Prop:=∃ D,w.ownsMap Tryz.prog 9 RVal b n D/\(∀ s,D.atKey (.string s) (.held z)=.held (f s))/\∀ s,Maps.has D (.string s)=true↔f s≠z
theorem skey:Keyed Tryz.prog 9:=string_keyed Tryz.underlying9
theorem skey_of (s:List UInt8) (hs:s.length<=9223372036854775807):keyOf Tryz.prog 9 (.string ⟨s.toArray⟩)=some (.string s):=by
 have h:=WideMaps.keyOf_string_mk (s:=⟨s.toArray⟩) Tryz.underlying9 (by simpa [ByteArray.size,maxLen] using hs);simpa using h
theorem MF.made (w:World) (z:Value):MF (w.alloc (.map #[] 0)) w.heap.size 0 z (fun _=>z):=⟨_,World.ownsMap_made _ _ _ _,fun _=>rfl,fun s=>Iff.intro (fun h=>by simp[Maps.has] at h) (fun h=>absurd rfl h)⟩
section
variable {w w':World} {b n:Nat} {z:Value} {f:List UInt8->Value}
theorem MF.lt (h:MF w b n z f):b<w.heap.size:=by
 obtain⟨D,h1,-⟩:=h;exact h1.lt
theorem MF.kept (h:MF w b n z f) {row:Option Nat} (hg:w.grownBy w' row) (hne:some b≠row):MF w' b n z f:=by
 obtain⟨D,h1,h2⟩:=h;exact⟨D,h1.kept hg hne,h2⟩
theorem MF.block (h:MF w b n z f) (hb:w'.heap[b]? = w.heap[b]?):MF w' b n z f:=by
 obtain⟨D,⟨es,clock,h1,h2⟩,h3⟩:=h;exact⟨D,⟨es,clock,hb.trans h1,h2⟩,h3⟩
theorem MF.below (h:MF w b n z f) {B:Nat} (hb:Below B w w') (hB:b<B):MF w' b n z f:=h.block (hb.block b hB)
theorem MF.look (h:MF w b n z f) {t e:TypeId} (ht:Tryz.prog.underlying t=some (.map 9 e)) (hz:(zeroValue e).run Tryz.prog w=.ok z w) (s:List UInt8) (hs:s.length<=9223372036854775807) :
  (Instr.lookup t (.map (some b)) (.string ⟨s.toArray⟩) false).run Tryz.prog w=.ok (f s) w:=by
 obtain⟨D,h1,h2,-⟩:=h;obtain⟨v,ps,hrun,hv⟩:=h1.lookup skey ht hz (zd:=.held z) (zp:=[]) rfl (skey_of s hs);rw[h2 s] at hv
 cases hv
 exact hrun
theorem MF.put (h:MF w b n z f) {t e:TypeId} (ht:Tryz.prog.underlying t=some (.map 9 e)) (hn:n<9223372036854775807) (s:List UInt8) (hs:s.length<=9223372036854775807) (v:Value) (hne:v≠z) :
  ∃ w',(Instr.mapUpdate t (.map (some b)) (.string ⟨s.toArray⟩) v).run Tryz.prog w=.ok () w'/\MF w' b (n+1) z (setO f s v)/\w.grownBy w' (some b):=by
 obtain⟨D,h1,h2,h3⟩:=h;obtain⟨w',hrun,r1,r2⟩:=h1.update skey ht (by simpa [maxLen] using hn) (skey_of s hs) (val:=v) (d:=.held v) (ps:=[]) rfl;refine⟨w',hrun,⟨_,r1,fun x=>?_,fun x=>?_⟩,r2⟩
 ·by_cases e:x=s
  ·subst e;rw[atKey_put_same h1.isMap (show WideAt.IsKeyLit (.string x) by trivial),setO_same]
  ·rw[atKey_put_other (fun e2=>e (by cases e2;rfl)),h2,setO_other _ e]
 ·by_cases e:x=s
  ·subst e;rw[has_put_same h1.isMap (show WideAt.IsKeyLit (.string x) by trivial),setO_same];exact⟨fun _=>hne,fun _=>rfl⟩
  ·rw[has_put_other (fun e2=>e (by cases e2;rfl)),h3,setO_other _ e]
end
theorem wpList_put_mf {w:World} {ops:Array Oper} {rest:List Oper} {o:Oper} {a:Act} {Q:Exit->Act->World->Prop} (hgd:o.guard=none) (m x v:Operand) (t:TypeId) (ho:o.op=.mapUpdate t m x v) {e:TypeId}
  (ht:Tryz.prog.underlying t=some (.map 9 e)) {b n:Nat} {z:Value} {f:List UInt8->Value} (h:MF w b n z f) (hn:n<9223372036854775807) (s:List UInt8) (val:Value) (hm:a.eval m=.map (some b)) (hx:a.eval x=.string ⟨s.toArray⟩) (hv:a.eval v=val) (hs:s.length<=9223372036854775807) (hne:val≠z)
  (hK:∀ w',MF w' b (n+1) z (setO f s val)->w.grownBy w' (some b)->wpList Tryz.prog ops Q rest (a.put o.dst undef) w'):wpList Tryz.prog ops Q (o::rest) a w:=by
 refine wpList_plain hgd fun K' hK'=>?_
 obtain⟨w',hrun,r1,r2⟩:=h.put ht hn s hs val hne;unfold Oper.wp;simp[execOp,ho,hm,hx,hv,hrun,Result.andThen];exact hK' _ _ (hK w' r1 r2)
theorem zeroInt (w:World):(zeroValue 3).run Tryz.prog w=.ok (.int .i64 0) w:=by kernel_rfl
def zItem:Value:=.agg #[.string ⟨#[]⟩,.int .i64 0,.slice none 0 0,.slice none 0 0]
theorem zeroItem (w:World):(zeroValue 87).run Tryz.prog w=.ok zItem w:=by kernel_rfl
end
section
open Go.RowKit Go.Maps
def updV (f:Int->Value) (i:Int) (v:Value):Int->Value:=fun j=>if j=i then v else f j
theorem updV_same (f:Int->Value) (i:Int) (v:Value):updV f i v i=v:=by unfold updV;rw[if_pos rfl]
theorem updV_other (f:Int->Value) {i j:Int} (v:Value) (h:j≠i):updV f i v j=f j:=by unfold updV;rw[if_neg h]
def MI (w:World) (b n:Nat) (z:Value) (f:Int->Value):Prop:=∃ D,w.ownsMap Tryz.prog 3 RVal b n D/\∀ s,D.atKey (.int .i64 s) (.held z)=.held (f s)
theorem ikey:Keyed Tryz.prog 3:=int_keyed Tryz.underlying3
theorem ikey_of (s:Int) (h1:-9223372036854775808<=s) (h2:s<=9223372036854775807):keyOf Tryz.prog 3 (.int .i64 s)=some (.int .i64 s) :=
 keyOf_int_mk Tryz.underlying3 (by
  have e1:IntKind.i64.min=-9223372036854775808:=by decide
  have e2:IntKind.i64.max=9223372036854775807:=by decide
  simp only[Lit.wf,Bool.and_eq_true,decide_eq_true_eq,e1,e2];exact⟨h1,h2⟩)
theorem MI.made (w:World) (z:Value):MI (w.alloc (.map #[] 0)) w.heap.size 0 z (fun _=>z):=⟨_,World.ownsMap_made _ _ _ _,fun _=>rfl⟩
section
variable {w w':World} {b n:Nat} {z:Value} {f:Int->Value}
theorem MI.lt (h:MI w b n z f):b<w.heap.size:=by
 obtain⟨D,h1,-⟩:=h;exact h1.lt
theorem MI.kept (h:MI w b n z f) {row:Option Nat} (hg:w.grownBy w' row) (hne:some b≠row):MI w' b n z f:=by
 obtain⟨D,h1,h2⟩:=h;exact⟨D,h1.kept hg hne,h2⟩
theorem MI.block (h:MI w b n z f) (hb:w'.heap[b]? = w.heap[b]?):MI w' b n z f:=by
 obtain⟨D,⟨es,clock,h1,h2⟩,h3⟩:=h;exact⟨D,⟨es,clock,hb.trans h1,h2⟩,h3⟩
theorem MI.below (h:MI w b n z f) {B:Nat} (hb:Below B w w') (hB:b<B):MI w' b n z f:=h.block (hb.block b hB)
theorem MI.look (h:MI w b n z f) {t e:TypeId} (ht:Tryz.prog.underlying t=some (.map 3 e)) (hz:(zeroValue e).run Tryz.prog w=.ok z w) (s:Int) (h1:-9223372036854775808<=s) (h2:s<=9223372036854775807) :
  (Instr.lookup t (.map (some b)) (.int .i64 s) false).run Tryz.prog w=.ok (f s) w:=by
 obtain⟨D,h3,h4⟩:=h;obtain⟨v,ps,hrun,hv⟩:=h3.lookup ikey ht hz (zd:=.held z) (zp:=[]) rfl (ikey_of s h1 h2);rw[h4 s] at hv
 cases hv
 exact hrun
theorem MI.put (h:MI w b n z f) {t e:TypeId} (ht:Tryz.prog.underlying t=some (.map 3 e)) (hn:n<9223372036854775807) (s:Int) (h1:-9223372036854775808<=s) (h2:s<=9223372036854775807) (v:Value) :
  ∃ w',(Instr.mapUpdate t (.map (some b)) (.int .i64 s) v).run Tryz.prog w=.ok () w'/\MI w' b (n+1) z (updV f s v)/\w.grownBy w' (some b):=by
 obtain⟨D,h3,h4⟩:=h;obtain⟨w',hrun,r1,r2⟩:=h3.update ikey ht (by simpa [maxLen] using hn) (ikey_of s h1 h2) (val:=v) (d:=.held v) (ps:=[]) rfl;refine⟨w',hrun,⟨_,r1,fun x=>?_⟩,r2⟩;by_cases e:x=s
 ·subst e;rw[atKey_put_same h3.isMap (show WideAt.IsKeyLit (.int .i64 x) by trivial),updV_same]
 ·rw[atKey_put_other (fun e2=>e (by cases e2;rfl)),h4,updV_other _ _ e]
end
theorem wpList_put_mi {w:World} {ops:Array Oper} {rest:List Oper} {o:Oper} {a:Act} {Q:Exit->Act->World->Prop} (hgd:o.guard=none) (m x v:Operand) (t:TypeId) (ho:o.op=.mapUpdate t m x v) {e:TypeId}
  (ht:Tryz.prog.underlying t=some (.map 3 e)) {b n:Nat} {z:Value} {f:Int->Value} (h:MI w b n z f) (hn:n<9223372036854775807) (s:Int) (val:Value) (hm:a.eval m=.map (some b)) (hx:a.eval x=.int .i64 s) (hv:a.eval v=val) (h1:-9223372036854775808<=s) (h2:s<=9223372036854775807)
  (hK:∀ w',MI w' b (n+1) z (updV f s val)->w.grownBy w' (some b)->wpList Tryz.prog ops Q rest (a.put o.dst undef) w'):wpList Tryz.prog ops Q (o::rest) a w:=by
 refine wpList_plain hgd fun K' hK'=>?_
 obtain⟨w',hrun,r1,r2⟩:=h.put ht hn s h1 h2 val;unfold Oper.wp;simp[execOp,ho,hm,hx,hv,hrun,Result.andThen];exact hK' _ _ (hK w' r1 r2)
end
section
variable {α:Type}
def idxI (p:α->Bool) (X:List α):Int:=match X.findIdx? p with
 | some i=>(i:Nat)
 | none=>-1
theorem idx_more [Inhabited α] {p:α->Bool} {X:List α} {j:Nat} (h:∀ k,k<j->p (X.getD k default)=false) (hj:p (X.getD j default)=false):∀ k,k<j+1->p (X.getD k default)=false:=fun k hk=>by
 rcases Nat.lt_or_ge k j with h1|h1
 ·exact h k h1
 ·rw[show k=j by omega];exact hj
theorem idxI_some [Inhabited α] {p:α->Bool} {X:List α} {j:Nat} (hj:j<X.length) (h:∀ k,k<j->p (X.getD k default)=false) (hp:p (X.getD j default)=true):idxI p X=(j:Nat):=by
 unfold idxI;have:X.findIdx? p=some j:=by
  rw[List.findIdx?_eq_some_iff_getElem];refine⟨hj,?_,fun k hk=>?_⟩
  ·rwa [List.getD_eq_getElem?_getD,List.getElem?_eq_getElem hj] at hp
  ·have:=h k hk;rw[List.getD_eq_getElem?_getD,List.getElem?_eq_getElem (by omega)] at this;simpa using this
 rw[this]
theorem idxI_none [Inhabited α] {p:α->Bool} {X:List α} (h:∀ k,k<X.length->p (X.getD k default)=false):idxI p X=-1:=by
 unfold idxI;have:X.findIdx? p=none:=by
  rw[List.findIdx?_eq_none_iff];intro x hx;obtain⟨i,hi,rfl⟩:=List.getElem_of_mem hx;have:=h i hi
  rwa [List.getD_eq_getElem?_getD,List.getElem?_eq_getElem hi] at this
 rw[this]
theorem idxI_ge {p:α->Bool} {X:List α}:0<=idxI p X↔X.any p=true:=by
 unfold idxI
 cases h:X.findIdx? p with
 | none =>
  simp only[List.findIdx?_eq_none_iff] at h;constructor
  ·intro h2;exact absurd h2 (by decide)
  ·intro h2;obtain⟨x,hx,hp⟩:=List.any_eq_true.1 h2;rw[h x hx] at hp
   cases hp
 | some i =>
  rw[List.findIdx?_eq_some_iff_getElem] at h;obtain⟨hi,hp,-⟩:=h;constructor
  ·intro _;exact List.any_eq_true.2 ⟨_,List.getElem_mem hi,hp⟩
  ·intro _;show (0:Int)<=(i:Nat);omega
end
section
open Go.RowKit Go.Shelf
structure IxWant (P:Program):Prop where
 fI:P.funcs[114]? = some Tryz.f114
 fC:P.funcs[83]? = some Tryz.f83
 t3:P.underlying 3=some (TypeDesc.int IntKind.i64)
 a3:∀ w,(isAgg 3).run P w=.ok false w
 z3:∀ w,(Go.sizeOf 3).run P w=.ok 1 w
 v3:∀ w,(zeroValue 3).run P w=.ok (Value.int IntKind.i64 0) w
 t4:P.underlying 4=some (TypeDesc.bool)
 a4:∀ w,(isAgg 4).run P w=.ok false w
 z4:∀ w,(Go.sizeOf 4).run P w=.ok 1 w
 v4:∀ w,(zeroValue 4).run P w=.ok (Value.bool false) w
 t22:P.underlying 35=some (TypeDesc.slice 71)
 a22:∀ w,(isAgg 35).run P w=.ok false w
 z22:∀ w,(Go.sizeOf 35).run P w=.ok 1 w
 v22:∀ w,(zeroValue 35).run P w=.ok (Value.slice none 0 0) w
 a25:∀ w,(isAgg 111).run P w=.ok false w
 z25:∀ w,(Go.sizeOf 111).run P w=.ok 1 w
 v25:∀ w,(zeroValue 111).run P w=.ok (Value.nilFunc) w
 aE:∀ w,(isAgg 71).run P w=.ok true w
 zE:∀ w,(Go.sizeOf 71).run P w=.ok 3 w
theorem ixWant_laid:IxWant Tryz.prog where
 fI:=Tryz.func114
 fC:=Tryz.func83
 t3:=Tryz.underlying3
 a3:=Tryz.isAgg3
 z3:=Tryz.sizeOf3
 v3:=Tryz.zeroValue3
 t4:=Tryz.underlying4
 a4:=Tryz.isAgg4
 z4:=Tryz.sizeOf4
 v4:=Tryz.zeroValue4
 t22:=Tryz.underlying35
 a22:=Tryz.isAgg35
 z22:=Tryz.sizeOf35
 v22:=Tryz.zeroValue35
 a25:=Tryz.isAgg111
 z25:=Tryz.sizeOf111
 v25:=Tryz.zeroValue111
 aE:=Tryz.isAgg71
 zE:=Tryz.sizeOf71
section
variable {P:Program}
set_option maxHeartbeats 1000000 in
theorem indexWant_any (L:IxWant P) (p:WantV->Bool) (fn:Nat) (cb:Array Value) (eg:∀ args w,(callFunc fn args).run P w=.ok (.enter fn args) w) (B:Nat) (a:Option Addr) (n c:Nat) (X:List WantV) (w:World) (h:wantE.In B w a n c X) (hB:B<=w.heap.size)
  (hp:∀ (W:World) (x:WantV),Below w.heap.size w W->wantE.ok x->Calls P fn (#[.agg #[encStr x.item,.int .i64 x.day,.int .i64 x.qty]]++cb) W fun e w'=>e=.returned (.bool (p x))/\Below W.heap.size W w') :
  Calls P 114 #[.slice a n c,.func (.func fn) #[] cb] w fun e w'=>e=.returned (.int .i64 (idxI p X))/\Below w.heap.size w w':=by
 generalize hr:idxI p X=r;have HQ:=Lib.hid hr;clear hr;have hle:=h.le;have hmx:=h.mx;have Hln:=Lib.hid h.len;have H:=Lib.hid h;have HP:=Lib.hid hp;clear h hp;have t3:=L.t3;have a3:=L.a3;have z3:=L.z3;have v3:=L.v3;have t4:=L.t4;have a4:=L.a4;have z4:=L.z4;have v4:=L.v4;have t22:=L.t22;have a22:=L.a22;have z22:=L.z22;have v22:=L.v22;have a25:=L.a25;have z25:=L.z25;have v25:=L.v25;have aE:=L.aE;have zE:=L.zE;have u3:=run_underlying L.t3;have u4:=run_underlying L.t4;have u22:=run_underlying L.t22;have FG:=L.fI;go_enter FG,Tryz.ntmps114;go_wp2_with (fail);go_loopw [8] (fun i wr=>∃ j:Nat,j<=n/\i=.int .i64 j/\Hid (∀ k,k<j->p (X.getD k default)=false)/\Hid (Below w.heap.size w wr)) (fun i _=>n-(intOf i).toNat)
 case atStart=>exact⟨0,Nat.zero_le _,rfl,Lib.hid (fun k hk=>absurd hk (Nat.not_lt_zero _)),Lib.hid (Below.refl _ _)⟩
 case round =>
  obtain⟨j,hj,rfl,hno,Hb⟩:=hrel;by_cases hlt:j<n
  ·obtain⟨b,o,rfl,-,hc⟩:=wantE_at (H.out.below (Hb.out.mono hB)) (by omega);obtain⟨g0,g1,g2⟩:=hc j hlt;have hok:=H.out.ok_at hlt;clear hc;have HC:=Lib.hid (HP.out wr (X.getD j default) Hb.out hok);clear hok
   cases hpx:p (X.getD j default) with
   | true =>
    have hX:=Lib.hid (idxI_some (by rw[<- Hln.out];exact hlt) hno.out hpx);rw[hpx] at HC;clear hpx;generalize X.getD j default=x at g0 g1 g2 HC;obtain⟨x_item,x_day,x_qty⟩:=x;simp only at g0 g1 g2 HC;go_wp2_with (go_at_fn fn;refine HC.out.mono ?_;rintro e w9 ⟨rfl,hb9⟩);go_ret;exact⟨by rw[<- HQ.out,hX.out];rfl,Hb.out.trans (hb9.mono Hb.out.size)⟩
   | false =>
    have hX:=Lib.hid (hpx);rw[hpx] at HC;clear hpx;have Hno:=Lib.hid (idx_more hno.out hX.out);clear hX;generalize X.getD j default=x at g0 g1 g2 HC;obtain⟨x_item,x_day,x_qty⟩:=x;simp only at g0 g1 g2 HC;go_wp2_with (go_at_fn fn;refine HC.out.mono ?_;rintro e w9 ⟨rfl,hb9⟩;have B9:=Lib.hid (Hb.out.trans (hb9.mono Hb.out.size));clear hb9);go_roundw
    case rel=>exact⟨j+1,by omega,by go_num,Hno,B9⟩
    case measure=>simp[intOf];omega
  ·have hge:j=n:=by omega
   have hnn:=Lib.hid (idxI_none (by rw[<- Hln.out,<- hge];exact hno.out));go_wp2_with (fail);go_ret;exact⟨by rw[<- HQ.out,hnn.out];rfl,Hb.out⟩
theorem containsWant_any (L:IxWant P) (p:WantV->Bool) (fn:Nat) (cb:Array Value) (eg:∀ args w,(callFunc fn args).run P w=.ok (.enter fn args) w) (B:Nat) (a:Option Addr) (n c:Nat) (X:List WantV) (w:World) (h:wantE.In B w a n c X) (hB:B<=w.heap.size)
  (hp:∀ (W:World) (x:WantV),Below w.heap.size w W->wantE.ok x->Calls P fn (#[.agg #[encStr x.item,.int .i64 x.day,.int .i64 x.qty]]++cb) W fun e w'=>e=.returned (.bool (p x))/\Below W.heap.size W w') :
  Calls P 83 #[.slice a n c,.func (.func fn) #[] cb] w fun e w'=>e=.returned (.bool (X.any p))/\Below w.heap.size w w':=by
 have HI:=Lib.hid (indexWant_any L p fn cb eg B a n c X w h hB hp);generalize hr:X.any p=r;have HQ:=Lib.hid hr;clear hr;clear h hB hp eg;have t3:=L.t3;have a3:=L.a3;have z3:=L.z3;have v3:=L.v3;have t4:=L.t4;have a4:=L.a4;have z4:=L.z4;have v4:=L.v4;have t22:=L.t22;have a22:=L.a22;have z22:=L.z22;have v22:=L.v22;have a25:=L.a25;have z25:=L.z25;have v25:=L.v25;have aE:=L.aE;have zE:=L.zE;have u3:=run_underlying L.t3;have u4:=run_underlying L.t4;have u22:=run_underlying L.t22;have eI:∀ args w,(callFunc 114 args).run P w=.ok (.enter 114 args) w:=enters_of L.fI (by kernel_rfl) rfl;have FG:=L.fC
 cases r with
 | true =>
  have hz:=(idxI_ge (p:=p) (X:=X)).2 HQ.out;generalize idxI p X=z at HI hz;go_enter FG,Tryz.ntmps83;go_wp2_with (go_at_call 114;refine HI.out.mono ?_;rintro e w9 ⟨rfl,hb9⟩);go_ret;exact⟨by first|rfl|simp[*],hb9⟩
 | false =>
  have hz:¬ 0<=idxI p X:=fun e=>by have:=(idxI_ge (p:=p) (X:=X)).1 e;rw[HQ.out] at this;cases this
  generalize idxI p X=z at HI hz;go_enter FG,Tryz.ntmps83;go_wp2_with (go_at_call 114;refine HI.out.mono ?_;rintro e w9 ⟨rfl,hb9⟩);go_ret;exact⟨by first|rfl|simp[*],hb9⟩
end
end
end Go.Proofs.YtgplnekpgdhcpaaGreat
