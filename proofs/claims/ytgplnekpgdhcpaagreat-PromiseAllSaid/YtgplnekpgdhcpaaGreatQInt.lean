/-  -/
import Derived.Test.YtgplnekpgdhcpaaGreatQFill
import Derived.Test.YtgplnekpgdhcpaaGreatQBridge
import Derived.Test.YtgplnekpgdhcpaaGreatQMeet
import Derived.Test.YtgplnekpgdhcpaaGreatJShelf
import Derived.Deep.Upon
namespace Go.Proofs.YtgplnekpgdhcpaaGreat
section
open Go.RowKit
def usable (l:LotV) (w:WantV):Bool:=decide (l.item=w.item) && hasW l.fr l.un w.day
def totF (S:List LotV) (a:Int->Int):Int:=(S.map fun l=>a l.id).sum
theorem totF_cons (l:LotV) (S:List LotV) (a:Int->Int):totF (l::S) a=a l.id+totF S a:=by simp[totF]
theorem totF_append (A B:List LotV) (a:Int->Int):totF (A++B) a=totF A a+totF B a:=by simp[totF,List.sum_append]
theorem totF_upd_out {S:List LotV} {a:Int->Int} {i v:Int} (h:∀ l∈S,l.id≠i):totF S (upd a i v)=totF S a:=by
 induction S with
 | nil=>rfl
 | cons l S ih =>
  rw[totF_cons,totF_cons,ih fun x hx=>h x (List.mem_cons_of_mem _ hx),upd_other _ _ (h l List.mem_cons_self)]
theorem totF_upd {S:List LotV} {a:Int->Int} {k:LotV} {v:Int} (hd:(S.map (·.id)).Nodup) (hk:k∈S):totF S (upd a k.id v)=totF S a+v-a k.id:=by
 induction S with
 | nil=>cases hk
 | cons l S ih =>
  rw[List.map_cons,List.nodup_cons] at hd;rw[totF_cons,totF_cons];rcases List.mem_cons.1 hk with rfl|hk
  ·rw[upd_same,totF_upd_out fun x hx e=>hd.1 (List.mem_map.2 ⟨x,hx,e⟩)];omega
  ·rw[ih hd.2 hk,upd_other _ _ (fun e=>hd.1 (List.mem_map.2 ⟨k,hk,e.symm⟩))];omega
theorem totF_nonneg {S:List LotV} {a:Int->Int} (h:∀ l∈S,0<=a l.id):0<=totF S a:=by
 induction S with
 | nil=>exact Int.le_refl _
 | cons l S ih =>
  rw[totF_cons];have:=ih fun x hx=>h x (List.mem_cons_of_mem _ hx)
  have:=h l List.mem_cons_self;omega
theorem totF_pos {S:List LotV} {a:Int->Int} (h:0<totF S a):∃ l∈S,0<a l.id:=by
 induction S with
 | nil=>exact absurd h (Int.lt_irrefl 0)
 | cons l S ih =>
  rw[totF_cons] at h;by_cases h0:0<a l.id
  ·exact⟨l,List.mem_cons_self,h0⟩
  ·obtain⟨k,h1,h2⟩:=ih (by omega);exact⟨k,List.mem_cons_of_mem _ h1,h2⟩
theorem totF_congr {S:List LotV} {a b:Int->Int} (h:∀ l∈S,a l.id=b l.id):totF S a=totF S b:=by
 unfold totF;rw[List.map_congr_left h]
def mvU (f:Int->Int) (i j:Int):Int->Int:=fun k=>if k=i then f k-1 else if k=j then f k+1 else f k
theorem mvU_i (f:Int->Int) (i j:Int):mvU f i j i=f i-1:=by unfold mvU;rw[if_pos rfl]
theorem mvU_j (f:Int->Int) {i j:Int} (h:j≠i):mvU f i j j=f j+1:=by unfold mvU;rw[if_neg h,if_pos rfl]
theorem mvU_o (f:Int->Int) {i j k:Int} (h:k≠i) (h2:k≠j):mvU f i j k=f k:=by unfold mvU;rw[if_neg h,if_neg h2]
theorem mvU_sub (f a:Int->Int) (i j:Int):(fun k=>mvU f i j k-a k)=mvU (fun k=>f k-a k) i j:=by
 funext k;unfold mvU;dsimp only;split
 ·omega
 ·split<;>omega
theorem mvU_upd (f:Int->Int) {i j:Int} (h:i≠j):mvU f i j=upd (upd f i (f i-1)) j (f j+1):=by
 funext k;unfold mvU upd;split
 ·next e=>subst e;rw[if_neg h]
 ·split
  ·next e=>rw[e]
  ·rfl
theorem totF_mv {S:List LotV} {a:Int->Int} {p q:LotV} (hd:(S.map (·.id)).Nodup) (hp:p∈S) (hq:q∈S) (hne:p.id≠q.id):totF S (mvU a p.id q.id)=totF S a:=by
 rw[mvU_upd _ hne,totF_upd hd hq,totF_upd hd hp,upd_other _ _ (fun e=>hne e.symm)];omega
def Choice (S:List LotV) (w:WantV) (f a:Int->Int):Prop:=(∀ l∈S,0<=a l.id/\a l.id<=f l.id/\(0<a l.id->usable l w=true))/\totF S a=w.qty
def Feas (S:List LotV):List WantV->(Int->Int)->Prop
 | [],_=>True
 | w::W,f=>∃ a,Choice S w f a/\Feas S W (fun i=>f i-a i)
theorem Feas.congr {S:List LotV}:∀ {W:List WantV} {f g:Int->Int},(∀ l∈S,f l.id=g l.id)->Feas S W f->Feas S W g
 | [],_,_,_,_=>trivial
 | w::W,f,g,h,⟨a,⟨h1,h2⟩,h3⟩=>⟨a,⟨fun l hl=>by rw[<- h l hl];exact h1 l hl,h2⟩,Feas.congr (fun l hl=>by simp only[h l hl]) h3⟩
theorem Feas.swap {S:List LotV} {w v:WantV} {W:List WantV} {f:Int->Int} (h:Feas S (w::v::W) f):Feas S (v::w::W) f:=by
 obtain⟨a,⟨h1,h2⟩,b,⟨k1,k2⟩,h3⟩:=h;refine⟨b,⟨fun l hl=>⟨(k1 l hl).1,?_,(k1 l hl).2.2⟩,k2⟩,a,⟨fun l hl=>⟨(h1 l hl).1,?_,(h1 l hl).2.2⟩,h2⟩,?_⟩
 ·have:=(h1 l hl).1;have:=(k1 l hl).2.1;simp only at this;omega
 ·have:=(k1 l hl).2.1;simp only at this ⊢;omega
 ·have e:(fun i=>f i-b i-a i)=fun i=>f i-a i-b i:=by funext i;omega
  rw[e];exact h3
theorem Feas.perm {S:List LotV} {W V:List WantV} (hp:W.Perm V):∀ {f:Int->Int},Feas S W f->Feas S V f:=by
 induction hp with
 | nil=>exact fun h=>h
 | cons x _ ih=>exact fun ⟨a,h1,h2⟩=>⟨a,h1,ih h2⟩
 | swap x y l=>exact fun h=>h.swap
 | trans _ _ ih1 ih2=>exact fun h=>ih2 (ih1 h)
theorem ids_inj {S:List LotV} (hd:(S.map (·.id)).Nodup) {l k:LotV} (hl:l∈S) (hk:k∈S) (e:l.id=k.id):l=k:=by
 obtain⟨i,hi1,rfl⟩:=List.getElem_of_mem hl;obtain⟨j,hj1,rfl⟩:=List.getElem_of_mem hk;have:=(List.getElem?_inj (i:=i) (j:=j) (by simpa using hi1) hd).1 (by simp[hi1,hj1,e]);subst this;rfl
theorem feas_mv {S:List LotV} (hd:(S.map (·.id)).Nodup) {p q:LotV} (hp:p∈S) (hq:q∈S) (hne:p.id≠q.id) (hi:p.item=q.item) (hu:p.un<=q.un) (hok:0<=q.fr/\q.fr<=q.un/\q.un<=4001) {t:Int} (ht:q.fr<=t) :
  ∀ {W:List WantV} {f:Int->Int},(∀ w∈W,t<=w.day)->1<=f p.id->Feas S W f->Feas S W (mvU f p.id q.id)
 | [],_,_,_,_=>trivial
 | w::W,f,hW,hf,⟨a,⟨h1,h2⟩,h3⟩=>by
  have hW':∀ x∈W,t<=x.day:=fun x hx=>hW x (List.mem_cons_of_mem _ hx)
  have hw:=hW w List.mem_cons_self;obtain⟨a0,a1,a2⟩:=h1 p hp;have hids:∀ l∈S,l.id=p.id->l=p:=fun l hl e=>ids_inj hd hl hp e
  have hidq:∀ l∈S,l.id=q.id->l=q:=fun l hl e=>ids_inj hd hl hq e
  by_cases hlt:a p.id<=f p.id-1
  ·refine⟨a,⟨fun l hl=>⟨(h1 l hl).1,?_,(h1 l hl).2.2⟩,h2⟩,?_⟩
   ·have:=(h1 l hl).2.1;unfold mvU;split
    ·next e=>rw[e];exact hlt
    ·split<;>omega
   ·rw[mvU_sub];exact feas_mv hd hp hq hne hi hu hok ht hW' (by show 1<=f p.id-a p.id;omega) h3
  ·have hus:=a2 (by omega);have huq:usable q w=true:=by
    unfold usable hasW at *;simp only[Bool.and_eq_true,decide_eq_true_eq] at *;obtain⟨e1,⟨⟨⟨⟨e2,e3⟩,e4⟩,e5⟩,e6⟩⟩:=hus;exact⟨hi ▸ e1,⟨⟨⟨hok.1,hok.2.1⟩,hok.2.2⟩,by omega⟩,by omega⟩
   refine⟨mvU a p.id q.id,⟨fun l hl=>?_,by rw[totF_mv hd hp hq hne];exact h2⟩,?_⟩
   ·have hl1:=h1 l hl;by_cases e1:l.id=p.id
    ·have:=hids l hl e1;subst this;rw[mvU_i,mvU_i];exact⟨by omega,by omega,fun _=>hus⟩
    ·by_cases e2:l.id=q.id
     ·have:=hidq l hl e2;subst this;rw[mvU_j _ e1,mvU_j _ e1];exact⟨by omega,by omega,fun _=>huq⟩
     ·rw[mvU_o _ e1 e2,mvU_o _ e1 e2];exact hl1
   ·refine Feas.congr (fun l _=>?_) h3;unfold mvU;split
    ·omega
    ·split<;>omega
theorem feas_most {S C:List LotV} {W:List WantV} {w:WantV} (hd:(S.map (·.id)).Nodup) {l:LotV} (hsub:∀ x∈l::C,x∈S/\x.item=w.item/\0<=x.fr/\x.fr<=x.un/\x.un<=4001) (hCd:((l::C).map (·.id)).Nodup) (hle:∀ x∈C,l.un<=x.un) (hW:∀ x∈W,w.day<=x.day) (hh:hasW l.fr l.un w.day=true) (f:Int->Int) (m:Int) (hm:m<=f l.id) :
  ∀ (k:Nat) (a:Int->Int),(m-a l.id).toNat=k->a l.id<=m->(∀ x∈l::C,0<=a x.id/\a x.id<=f x.id/\(0<a x.id->hasW x.fr x.un w.day=true))->(∀ i,i ∉ (l::C).map (·.id)->a i=0)->m<=totF (l::C) a->Feas S W (fun i=>f i-a i) ->
   ∃ b,b l.id=m/\(∀ x∈l::C,0<=b x.id/\b x.id<=f x.id/\(0<b x.id->hasW x.fr x.un w.day=true))/\(∀ i,i ∉ (l::C).map (·.id)->b i=0)/\totF (l::C) b=totF (l::C) a/\Feas S W (fun i=>f i-b i)
 | 0,a,hk,hle',h1,h0,ht,hF=>⟨a,by omega,h1,h0,rfl,hF⟩
 | k+1,a,hk,hle',h1,h0,ht,hF=>by
  have hlt:a l.id<m:=by omega
  have hpos:0<totF C a:=by
   rw[totF_cons] at ht;omega
  obtain⟨q,hq,hq0⟩:=totF_pos hpos;have hql:q∈l::C:=List.mem_cons_of_mem _ hq;have hll:l∈l::C:=List.mem_cons_self;have hne:l.id≠q.id:=fun e=>by
   rw[List.map_cons,List.nodup_cons] at hCd;exact hCd.1 (List.mem_map.2 ⟨q,hq,e.symm⟩)
  obtain⟨hqS,hqi,hq1,hq2,hq3⟩:=hsub q hql;obtain⟨hlS,hli,-⟩:=hsub l hll;have hqh:=(h1 q hql).2.2 hq0;have hfr:q.fr<=w.day:=by
   unfold hasW at hqh;simp only[Bool.and_eq_true,decide_eq_true_eq] at hqh;exact hqh.1.2
  have hF2:=feas_mv hd hlS hqS hne (hli.trans hqi.symm) (hle q hq) ⟨hq1,hq2,hq3⟩ hfr hW (by show 1<=f l.id-a l.id;omega) hF;have e:(fun i=>f i-mvU a q.id l.id i)=mvU (fun i=>f i-a i) l.id q.id:=by
   funext i;unfold mvU;dsimp only;by_cases e1:i=q.id
   ·rw[if_pos e1,if_neg (fun e=>hne (e.symm.trans e1)),if_pos e1];omega
   ·rw[if_neg e1];by_cases e2:i=l.id
    ·rw[if_pos e2,if_pos e2];omega
    ·rw[if_neg e2,if_neg e2,if_neg e1]
  have hb:(mvU a q.id l.id) l.id=a l.id+1:=mvU_j _ hne;obtain⟨b,b1,b2,b3,b4,b5⟩:=feas_most hd hsub hCd hle hW hh f m hm k (mvU a q.id l.id) (by rw[hb];omega) (by rw[hb];omega) (fun x hx=>by
    obtain⟨c1,c2,c3⟩:=h1 x hx;by_cases e1:x.id=q.id
    ·have hxq:x=q:=ids_inj hCd hx hql e1;subst hxq;rw[mvU_i];exact⟨by omega,by omega,fun _=>hqh⟩
    ·by_cases e2:x.id=l.id
     ·have hxl:x=l:=ids_inj hCd hx hll e2;subst hxl;rw[hb];exact⟨by omega,by omega,fun _=>hh⟩
     ·rw[mvU_o _ e1 e2];exact⟨c1,c2,c3⟩) (fun i hi=>by
    rw[mvU_o _ (fun e=>hi (List.mem_map.2 ⟨q,hql,e.symm⟩)) (fun e=>hi (List.mem_map.2 ⟨l,hll,e.symm⟩))];exact h0 i hi) (by rw[totF_mv hCd hql hll (fun e=>hne e.symm)];exact ht) (by rw[e];exact hF2)
  exact⟨b,b1,b2,b3,by rw[b4,totF_mv hCd hql hll (fun e=>hne e.symm)],b5⟩
theorem feas_pass {S:List LotV} {W:List WantV} {w:WantV} (at_:Int) (hd:(S.map (·.id)).Nodup) (hW:∀ x∈W,w.day<=x.day) :
  ∀ (C:List LotV) (f a:Int->Int) (need:Int),(∀ x∈C,x∈S/\x.item=w.item/\0<=x.fr/\x.fr<=x.un/\x.un<=4001)->(C.map (·.id)).Nodup->(C.Pairwise fun x y=>x.un<=y.un)->(∀ x∈C,0<=a x.id/\a x.id<=f x.id/\(0<a x.id->hasW x.fr x.un w.day=true))->(∀ i,i ∉ C.map (·.id)->a i=0)->totF C a=need->Feas S W (fun i=>f i-a i) ->
   (pass w.day at_ C f need).2.2=0/\Feas S W (pass w.day at_ C f need).2.1
 | [],f,a,need,_,_,_,_,h0,ht,hF=>by
  refine⟨ht.symm,?_⟩;have e:(fun i=>f i-a i)=f:=by funext i;rw[h0 i (by simp)];omega
  rw[e] at hF;exact hF
 | l::C,f,a,need,hsub,hCd,hs,h1,h0,ht,hF=>by
  have hsub':∀ x∈C,x∈S/\x.item=w.item/\0<=x.fr/\x.fr<=x.un/\x.un<=4001:=fun x hx=>hsub x (List.mem_cons_of_mem _ hx)
  have hCd':(C.map (·.id)).Nodup:=by rw[List.map_cons,List.nodup_cons] at hCd;exact hCd.2
  have hln:l.id ∉ C.map (·.id):=by rw[List.map_cons,List.nodup_cons] at hCd;exact hCd.1
  obtain⟨hs1,hs2⟩:=List.pairwise_cons.1 hs;have hl:=h1 l List.mem_cons_self;have hnn:0<=totF C a:=totF_nonneg fun x hx=>(h1 x (List.mem_cons_of_mem _ hx)).1
  rw[totF_cons] at ht;rw[pass_cons];split
  ·next hc =>
   have hal:a l.id=0:=by
    rcases hc with hc|hc
    ·omega
    ·have:=hl.2.2;by_cases h:0<a l.id
     ·rw[this h] at hc;cases hc
     ·omega
   refine feas_pass at_ hd hW C f a need hsub' hCd' hs2 (fun x hx=>h1 x (List.mem_cons_of_mem _ hx)) (fun i hi=>?_) (by omega) hF;by_cases e:i=l.id
   ·rw[e];exact hal
   ·exact h0 i (by rw[List.map_cons];exact fun h=>(List.mem_cons.1 h).elim e hi)
  ·next hc =>
   have hh:hasW l.fr l.un w.day=true:=by
    cases h:hasW l.fr l.un w.day
    ·exact absurd (.inr h) hc
    ·rfl
   obtain⟨m,hm⟩:∃ m,m=min need (f l.id):=⟨_,rfl⟩
   rw[<- hm] at hc ⊢;have hm0:a l.id<=m:=by omega
   obtain⟨b,b1,b2,b3,b4,b5⟩:=feas_most hd hsub hCd hs1 hW hh f m (by omega) _ a rfl hm0 h1 h0 (by rw[totF_cons];omega) hF;rw[totF_cons,totF_cons] at b4;refine feas_pass at_ hd hW C (upd f l.id (f l.id-m)) (upd b l.id 0) (need-m) hsub' hCd' hs2 (fun x hx=>?_) (fun i hi=>?_) (by rw[totF_upd_out fun x hx e=>hln (List.mem_map.2 ⟨x,hx,e⟩)];omega) (by
    have e:(fun i=>upd f l.id (f l.id-m) i-upd b l.id 0 i)=fun i=>f i-b i:=by
     funext i;unfold upd;by_cases h:i=l.id
     ·rw[if_pos h,if_pos h,h,b1];omega
     ·rw[if_neg h,if_neg h]
    rw[e];exact b5)
   ·have hne:x.id≠l.id:=fun e=>hln (List.mem_map.2 ⟨x,hx,e⟩)
    rw[upd_other _ _ hne,upd_other _ _ hne];exact b2 x (List.mem_cons_of_mem _ hx)
   ·by_cases e:i=l.id
    ·rw[e,upd_same]
    ·rw[upd_other _ _ e];exact b3 i (by rw[List.map_cons];exact fun h=>(List.mem_cons.1 h).elim e hi)
theorem pass_choice {w:WantV} (at_:Int):∀ (C:List LotV) (f:Int->Int) (need:Int),(C.map (·.id)).Nodup->(∀ x∈C,0<=f x.id)->0<=need ->
  ∃ a:Int->Int,(∀ x∈C,0<=a x.id/\a x.id<=f x.id/\(0<a x.id->hasW x.fr x.un w.day=true))/\(∀ i,i ∉ C.map (·.id)->a i=0)/\totF C a=need-(pass w.day at_ C f need).2.2/\(pass w.day at_ C f need).2.1=fun i=>f i-a i
 | [],f,need,_,_,_=>⟨fun _=>0,⟨fun x hx=>absurd hx List.not_mem_nil,fun _ _=>rfl,by show (0:Int)=need-need;omega,by funext i;show f i=f i-0;omega⟩⟩
 | l::C,f,need,hCd,h0,hn=>by
  have hCd':(C.map (·.id)).Nodup:=by rw[List.map_cons,List.nodup_cons] at hCd;exact hCd.2
  have hln:l.id ∉ C.map (·.id):=by rw[List.map_cons,List.nodup_cons] at hCd;exact hCd.1
  have hl:=h0 l List.mem_cons_self;rw[pass_cons];split
  ·obtain⟨a,a1,a2,a3,a4⟩:=pass_choice (w:=w) at_ C f need hCd' (fun x hx=>h0 x (List.mem_cons_of_mem _ hx)) hn;have hal:=a2 l.id hln;refine⟨a,fun x hx=>?_,fun i hi=>a2 i (fun h=>hi (by rw[List.map_cons];exact List.mem_cons_of_mem _ h)),by rw[totF_cons,a3,hal];omega,a4⟩;rcases List.mem_cons.1 hx with rfl|hx
   ·rw[hal];exact⟨Int.le_refl _,hl,fun h=>absurd h (by decide)⟩
   ·exact a1 x hx
  ·next hc =>
   have hh:hasW l.fr l.un w.day=true:=by
    cases h:hasW l.fr l.un w.day
    ·exact absurd (.inr h) hc
    ·rfl
   obtain⟨m,hm⟩:∃ m,m=min need (f l.id):=⟨_,rfl⟩
   rw[<- hm] at hc ⊢;obtain⟨a,a1,a2,a3,a4⟩:=pass_choice (w:=w) at_ C (upd f l.id (f l.id-m)) (need-m) hCd' (fun x hx=>by rw[upd_other _ _ (fun e=>hln (List.mem_map.2 ⟨x,hx,e⟩))];exact h0 x (List.mem_cons_of_mem _ hx)) (by omega);have hal:=a2 l.id hln;refine⟨upd a l.id m,fun x hx=>?_,fun i hi=>?_,?_,?_⟩
   ·rcases List.mem_cons.1 hx with rfl|hx
    ·rw[upd_same];exact⟨by omega,by omega,fun _=>hh⟩
    ·have hne:x.id≠l.id:=fun e=>hln (List.mem_map.2 ⟨x,hx,e⟩)
     have:=a1 x hx;rw[upd_other _ _ hne] at this ⊢;exact this
   ·rw[List.map_cons] at hi;rw[upd_other _ _ (fun e=>hi (List.mem_cons.2 (.inl e)))];exact a2 i (fun h=>hi (List.mem_cons_of_mem _ h))
   ·rw[totF_cons,upd_same,totF_upd_out fun x hx e=>hln (List.mem_map.2 ⟨x,hx,e⟩),a3];dsimp only;omega
   ·rw[a4];funext i;unfold upd;by_cases e:i=l.id
    ·rw[if_pos e,if_pos e,e,hal];omega
    ·rw[if_neg e,if_neg e]
theorem totF_filter {S:List LotV} {a:Int->Int} {c:List UInt8} (h:∀ x∈S,x.item≠c->a x.id=0):totF S a=totF (S.filter fun l=>decide (l.item=c)) a:=by
 induction S with
 | nil=>rfl
 | cons l S ih =>
  have ih':=ih fun x hx=>h x (List.mem_cons_of_mem _ hx)
  rw[totF_cons,List.filter_cons];by_cases e:l.item=c
  ·rw[if_pos (decide_eq_true e),totF_cons,ih']
  ·rw[if_neg (by simpa using e),ih',h l List.mem_cons_self e];omega
theorem totF_sub {S C:List LotV} {a:Int->Int} (hd:(S.map (·.id)).Nodup) (hCd:(C.map (·.id)).Nodup) (hsub:∀ x∈C,x∈S) (h0:∀ x∈S,x ∉ C->a x.id=0):totF S a=totF C a:=by
 induction S generalizing C with
 | nil =>
  cases C with
  | nil=>rfl
  | cons c C=>exact absurd (hsub c List.mem_cons_self) (by simp)
 | cons l S ih =>
  rw[List.map_cons,List.nodup_cons] at hd;rw[totF_cons];by_cases h:l∈C
  ·have hn:C.Nodup:=by
    have:=hCd;exact List.Pairwise.of_map _ (fun a b h e=>h (by rw[e])) this
   obtain⟨A,B,rfl⟩:=List.append_of_mem h;have hperm:(A++l::B).Perm (l::(A++B)):=List.perm_middle;have e:totF (A++l::B) a=a l.id+totF (A++B) a:=by
    rw[totF_append,totF_append,totF_cons];omega
   rw[e,ih hd.2 (C:=A++B) ?_ (fun x hx=>?_) (fun x hx hn2=>?_)]
   ·exact (List.nodup_cons.1 ((hperm.map (·.id)).nodup_iff.1 hCd)).2
   ·have hxm:x∈A++l::B:=hperm.mem_iff.2 (List.mem_cons_of_mem _ hx);rcases List.mem_cons.1 (hsub x hxm) with rfl|h2
    ·have:=hperm.nodup_iff.1 hn;exact absurd hx (List.nodup_cons.1 this).1
    ·exact h2
   ·refine h0 x (List.mem_cons_of_mem _ hx) (fun h3=>?_);rcases List.mem_cons.1 (hperm.mem_iff.1 h3) with rfl|h4
    ·exact hd.1 (List.mem_map.2 ⟨x,hx,rfl⟩)
    ·exact hn2 h4
  ·rw[h0 l List.mem_cons_self h,ih hd.2 hCd (fun x hx=>?_) (fun x hx hn=>h0 x (List.mem_cons_of_mem _ hx) hn)]
   ·omega
   ·rcases List.mem_cons.1 (hsub x hx) with rfl|h2
    ·exact absurd hx h
    ·exact h2
theorem pass_best {S C:List LotV} {W:List WantV} {w:WantV} (hd:(S.map (·.id)).Nodup) (hsub:∀ x∈C,x∈S/\x.item=w.item/\0<=x.fr/\x.fr<=x.un/\x.un<=4001) (hCd:(C.map (·.id)).Nodup) (hCs:C.Pairwise fun x y=>x.un<=y.un) (hday:∀ x∈W,w.day<=x.day) (f b:Int->Int) (k1:∀ l∈S,0<=b l.id/\b l.id<=f l.id/\(0<b l.id->usable l w=true)) (hb0:∀ x∈S,x ∉ C->b x.id=0) (k2:totF S b=w.qty) (k3:Feas S W (fun i=>f i-b i)) (_hCm:∀ x,x∈C↔x∈S/\x.item=w.item) (i:Int):(pass w.day i C f w.qty).2.2=0/\Feas S W (pass w.day i C f w.qty).2.1:=by
 -- the choice,nought outside C
 obtain⟨a,ha⟩:∃ a:Int->Int,a=fun i=>if i∈C.map (·.id) then b i else 0:=⟨_,rfl⟩
 have haC:∀ x∈C,a x.id=b x.id:=fun x hx=>by rw[ha];simp only;rw[if_pos (List.mem_map.2 ⟨x,hx,rfl⟩)]
 have haS:∀ x∈S,a x.id=b x.id:=fun x hx=>by
  by_cases h:x∈C
  ·exact haC x h
  ·rw[ha];simp only;rw[if_neg,hb0 x hx h];intro h2;obtain⟨y,hy,e⟩:=List.mem_map.1 h2;have:=ids_inj hd (hsub y hy).1 hx e;subst this;exact h hy
 have hfil:totF S a=totF C a:=by
  have h0:∀ x∈S,x ∉ C->a x.id=0:=fun x hx hn=>by rw[haS x hx,hb0 x hx hn]
  exact totF_sub hd hCd (fun x hx=>(hsub x hx).1) h0
 refine feas_pass i hd hday C f a w.qty hsub hCd hCs (fun x hx=>?_) (fun i hi=>by rw[ha];simp only;rw[if_neg hi]) (by rw[<- hfil,totF_congr haS];exact k2) (Feas.congr (fun l hl=>by simp only[haS l hl]) k3);obtain⟨c1,c2,c3⟩:=k1 x (hsub x hx).1;rw[haC x hx];exact⟨c1,c2,fun h=>by have:=c3 h;unfold usable at this;simp only[Bool.and_eq_true] at this;exact this.2⟩
theorem pass_only {S C:List LotV} {W:List WantV} {w:WantV} (hd:(S.map (·.id)).Nodup) (hsub:∀ x∈C,x∈S/\x.item=w.item/\0<=x.fr/\x.fr<=x.un/\x.un<=4001) (hCd:(C.map (·.id)).Nodup) (hCs:C.Pairwise fun x y=>x.un<=y.un) (hday:∀ x∈W,w.day<=x.day) (f b:Int->Int) (k1:∀ l∈S,0<=b l.id/\b l.id<=f l.id/\(0<b l.id->usable l w=true)) (hb0:∀ x∈S,x ∉ C->b x.id=0) (k2:totF S b=w.qty) (k3:Feas S W (fun i=>f i-b i)) (hCm:∀ x,x∈C↔x∈S/\x.item=w.item) (_:(C.map (·.id)).Nodup) (i:Int):(pass w.day i C f w.qty).2.2=0 :=
 (pass_best hd hsub hCd hCs hday f b k1 hb0 k2 k3 hCm i).1
theorem fillF_iff {S:List LotV} {W:List WantV} (hd:(S.map (·.id)).Nodup) (hs:S.Pairwise fun x y=>x.un<=y.un) (hok:∀ x∈S,0<=x.fr/\x.fr<=x.un/\x.un<=4001) (hq:∀ i,0<=(W.getD i default).qty) :
  ∀ (os:List Nat) (f:Int->Int) (out:List UseV),(os.Pairwise fun a b=>(W.getD a default).day<=(W.getD b default).day)->(∀ l∈S,0<=f l.id)->((fillF S W os f out).isSome=true↔Feas S (os.map fun i=>W.getD i default) f)
 | [],f,out,_,_=>⟨fun _=>trivial,fun _=>rfl⟩
 | i::os,f,out,ho,hf=>by
  obtain⟨ho1,ho2⟩:=List.pairwise_cons.1 ho;obtain⟨w,hw⟩:∃ w,w=W.getD i default:=⟨_,rfl⟩
  obtain⟨C,hC⟩:∃ C,C=S.filter fun l=>decide (l.item=w.item):=⟨_,rfl⟩
  have hCm:∀ x,x∈C↔x∈S/\x.item=w.item:=fun x=>by rw[hC,List.mem_filter,decide_eq_true_eq]
  have hsub:∀ x∈C,x∈S/\x.item=w.item/\0<=x.fr/\x.fr<=x.un/\x.un<=4001:=fun x hx=>⟨((hCm x).1 hx).1,((hCm x).1 hx).2,hok x ((hCm x).1 hx).1⟩
  have hCd:(C.map (·.id)).Nodup:=by
   rw[hC];exact (List.Sublist.map _ List.filter_sublist).nodup hd
  have hCs:C.Pairwise fun x y=>x.un<=y.un:=by rw[hC];exact hs.sublist List.filter_sublist
  have hday:∀ x∈os.map (fun i=>W.getD i default),w.day<=x.day:=fun x hx=>by
   obtain⟨j,hj,rfl⟩:=List.mem_map.1 hx;rw[hw];exact ho1 j hj
  have htC:∀ a:Int->Int,(∀ i,i ∉ C.map (·.id)->a i=0)->totF S a=totF C a:=fun a ha=>by
   rw[hC];exact totF_filter fun x hx hne=>ha _ (fun h=>by
    obtain⟨y,hy,e⟩:=List.mem_map.1 h;have:=ids_inj hd ((hCm y).1 hy).1 hx e;subst this;exact hne ((hCm y).1 hy).2)
  have hqi:=hq i;rw[<- hw] at hqi;simp only[fillF,List.map_cons];rw[<- hw,<- hC];obtain⟨a,a1,a2,a3,a4⟩:=pass_choice (w:=w) i C f w.qty hCd (fun x hx=>hf x ((hCm x).1 hx).1) hqi;have hpl:=pass_left w.day i C f w.qty hqi (fun x hx=>hf x ((hCm x).1 hx).1);split
  ·next hpos =>
   refine⟨fun h=>(by cases h),?_⟩;rintro⟨b,⟨k1,k2⟩,k3⟩
   exfalso
   have hb0:∀ x∈S,x ∉ C->b x.id=0:=fun x hx hn=>by
    obtain⟨c1,c2,c3⟩:=k1 x hx;by_cases h:0<b x.id
    ·have:=c3 h;unfold usable at this;simp only[Bool.and_eq_true,decide_eq_true_eq] at this;exact absurd ((hCm x).2 ⟨hx,this.1⟩) hn
    ·omega
   have:=pass_only hd hsub hCd hCs hday f b k1 hb0 k2 k3 hCm hCd i;omega
  ·next hz =>
   have hz0:(pass w.day i C f w.qty).2.2=0:=by omega
   rw[fillF_iff hd hs hok hq os _ _ ho2 (fun l hl=>hpl.1 _ (hf l hl)),a4];constructor
   ·intro h;refine⟨a,⟨fun x hx=>?_,by rw[htC a a2,a3,hz0];omega⟩,h⟩;by_cases hxC:x∈C
    ·obtain⟨c1,c2,c3⟩:=a1 x hxC;exact⟨c1,c2,fun h=>by unfold usable;rw[c3 h,((hCm x).1 hxC).2];simp⟩
    ·have:a x.id=0:=a2 _ (fun h=>by
      obtain⟨y,hy,e⟩:=List.mem_map.1 h;have:=ids_inj hd ((hCm y).1 hy).1 hx e;subst this;exact hxC hy)
     rw[this];exact⟨Int.le_refl _,hf x hx,fun h=>absurd h (by decide)⟩
   ·rintro⟨b,⟨k1,k2⟩,k3⟩;have hb0:∀ x∈S,x ∉ C->b x.id=0:=fun x hx hn=>by
     obtain⟨c1,c2,c3⟩:=k1 x hx;by_cases h:0<b x.id
     ·have:=c3 h;unfold usable at this;simp only[Bool.and_eq_true,decide_eq_true_eq] at this;exact absurd ((hCm x).2 ⟨hx,this.1⟩) hn
     ·omega
    have:=(pass_best hd hsub hCd hCs hday f b k1 hb0 k2 k3 hCm i).2;rw[a4] at this;exact this
end
section
open Go.RowKit
theorem left0_ofH {L:List LotV} (hd:(L.map (·.id)).Nodup) {l:LotV} (hl:l∈L):left0 L l.id=l.qty:=by
 unfold left0
 cases h:L.find? fun x=>decide (x.id=l.id) with
 | none =>
  have:=List.find?_eq_none.1 h l hl;simp at this
 | some x =>
  have h1:=List.find?_some h;have h2:=List.mem_of_find?_eq_some h;have:x=l:=ids_inj hd h2 hl (by simpa using h1);rw[this];rfl
theorem dayO_map (W:List WantV):((dayO W).map fun i=>W.getD i default).Perm W:=by
 have h:=(dayO_perm W).map fun i=>W.getD i default
 have e:(List.range W.length).map (fun i=>W.getD i default)=W:=by
  apply List.ext_getElem
  ·simp
  ·intro i h1 h2;simp[List.getD_eq_getElem?_getD,h2]
 rw[e] at h;exact h
theorem fillX_iff (L:List LotV) (W:List WantV):(fillX L W).isSome=true↔mayB L W=true/\Feas (srt L) W (left0 L):=by
 unfold fillX;by_cases hm:mayB L W=true
 ·rw[if_pos hm];have hm':=hm;unfold mayB idsOk at hm';simp only[Bool.and_eq_true,decide_eq_true_eq,List.all_eq_true] at hm';obtain⟨⟨⟨⟨-,-⟩,hl⟩,hd⟩,hw⟩:=hm';have hp:=srt_perm L;have hdS:((srt L).map (·.id)).Nodup:=(hp.map _).nodup_iff.2 hd;have hok:∀ x∈srt L,0<=x.fr/\x.fr<=x.un/\x.un<=4001/\1<=x.qty:=fun x hx=>by
   have:=hl x (hp.mem_iff.1 hx);unfold lotOk at this;simp only[Bool.and_eq_true,decide_eq_true_eq] at this;omega
  have hq:∀ i,0<=(W.getD i default).qty:=fun i=>by
   rw[List.getD_eq_getElem?_getD]
   cases h:W[i]? with
   | none=>show (0:Int)<=0;exact Int.le_refl _
   | some w =>
    have:=hw w (List.mem_of_getElem? h);unfold wantOk at this;simp only[Bool.and_eq_true,decide_eq_true_eq] at this;show 0<=w.qty;omega
  rw[fillF_iff hdS ((srt_sorted L).imp fun {a b} h=>by
    unfold leL at h;simp only[Bool.or_eq_true,Bool.and_eq_true,decide_eq_true_eq] at h;omega) (fun x hx=>⟨(hok x hx).1,(hok x hx).2.1,(hok x hx).2.2.1⟩) hq (dayO W) (left0 L) [] ((dayO_sorted W).imp fun {a b} h=>by
    unfold leD at h;simp only[Bool.or_eq_true,Bool.and_eq_true,decide_eq_true_eq] at h;omega) (fun l hl'=>by rw[left0_ofH hd (hp.mem_iff.1 hl')];have:=(hok l hl').2.2.2;omega)]
  exact⟨fun h=>⟨hm,h.perm (dayO_map W)⟩,fun h=>h.2.perm (dayO_map W).symm⟩
 ·rw[if_neg hm];exact⟨fun h=>(by cases h),fun h=>absurd h.1 hm⟩
def moreW (d:Int) (P:List (List UInt8×Int)):List WantV:=P.map fun p=>⟨p.1,d,p.2⟩
def hadB (L:List LotV) (W:List WantV) (P:List (List UInt8×Int)) (d:Int):Bool:=(fillX L (W++moreW d P)).isSome
theorem feas_more {S:List LotV} {d d':Int} (h:∀ l∈S,hasW l.fr l.un d=hasW l.fr l.un d'):∀ (P:List (List UInt8×Int)) {f:Int->Int},Feas S (moreW d P) f->Feas S (moreW d' P) f
 | [],_,_=>trivial
 | p::P,_,⟨a,⟨h1,h2⟩,h3⟩=>⟨a,⟨fun l hl=>⟨(h1 l hl).1,(h1 l hl).2.1,fun h0=>by
   have:=(h1 l hl).2.2 h0;unfold usable at this ⊢;simp only at this ⊢;rw[<- h l hl];exact this⟩,h2⟩,feas_more h P h3⟩
theorem feas_app {S:List LotV} {A A':List WantV} (h:∀ {f:Int->Int},Feas S A f->Feas S A' f):∀ (W:List WantV) {f:Int->Int},Feas S (W++A) f->Feas S (W++A') f
 | [],_,k=>h k
 | _::W,_,⟨a,h1,h2⟩=>⟨a,h1,feas_app h W h2⟩
theorem mayB_more {L:List LotV} {W:List WantV} {P:List (List UInt8×Int)} {d d':Int} (_hd:0<=d/\d<=4000) (hd':0<=d'/\d'<=4000) (h:mayB L (W++moreW d P)=true):mayB L (W++moreW d' P)=true:=by
 unfold mayB at *;simp only[Bool.and_eq_true,decide_eq_true_eq,List.length_append,List.all_append] at *;obtain⟨⟨⟨⟨h1,h2⟩,h3⟩,h4⟩,h5,h6⟩:=h;refine⟨⟨⟨⟨h1,?_⟩,h3⟩,h4⟩,h5,?_⟩
 ·simpa [moreW] using h2
 ·unfold moreW at *;rw[List.all_map,List.all_eq_true] at *;intro p hp;have:=h6 p hp;simp only[Function.comp,wantOk,Bool.and_eq_true,decide_eq_true_eq] at this ⊢;exact⟨⟨⟨⟨this.1.1.1.1,hd'.1⟩,hd'.2⟩,this.1.2⟩,this.2⟩
theorem had_same {L:List LotV} {W:List WantV} {P:List (List UInt8×Int)} {d d':Int} (hd:0<=d/\d<=4000) (hd':0<=d'/\d'<=4000) (h:∀ l∈L,hasW l.fr l.un d=hasW l.fr l.un d'):hadB L W P d=hadB L W P d':=by
 have hS:∀ l∈srt L,hasW l.fr l.un d=hasW l.fr l.un d':=fun l hl=>h l ((srt_perm L).mem_iff.1 hl)
 have go:∀ {d d':Int},(0<=d/\d<=4000)->(0<=d'/\d'<=4000)->(∀ l∈srt L,hasW l.fr l.un d=hasW l.fr l.un d')->hadB L W P d=true->hadB L W P d'=true:=fun h1 h2 hs hh=>by
  unfold hadB at *;rw[fillX_iff] at hh ⊢;exact⟨mayB_more h1 h2 hh.1,feas_app (feas_more hs P) W hh.2⟩
 rw[Bool.eq_iff_iff];exact⟨go hd hd' hS,go hd' hd fun l hl=>(hS l hl).symm⟩
end
section
open Go.RowKit
def scanD (had:Int->Bool):Nat->Int->Option Int
 | 0,_=>none
 | n+1,d=>if had d=true then some d else scanD had n (d+1)
def jumpD (had:Int->Bool):List Int->Option Int
 | a::b::r=>if had a=true then some a else jumpD had (b::r)
 | _=>none
theorem scanD_none {had:Int->Bool}:∀ (n:Nat) (d:Int),(∀ x,d<=x->x<d+n->had x=false)->scanD had n d=none
 | 0,_,_=>rfl
 | n+1,d,h=>by
  rw[scanD,if_neg (by rw[h d (by omega) (by omega)];decide)];exact scanD_none n (d+1) fun x h1 h2=>h x (by omega) (by omega)
theorem scanD_add {had:Int->Bool}:∀ (m n:Nat) (d:Int),scanD had m d=none->scanD had (m+n) d=scanD had n (d+m)
 | 0,n,d,_=>by rw[Nat.zero_add];show _=scanD had n (d+0);rw[Int.add_zero]
 | m+1,n,d,h=>by
  rw[scanD] at h;split at h
  ·cases h
  ·next hd =>
   rw[show m+1+n=(m+n)+1 by omega,scanD,if_neg hd,scanD_add m n (d+1) h]
   congr 1
   omega
theorem jump_scan {had:Int->Bool}:∀ (S:List Int) (a z:Int),(a::S).Pairwise (· < ·)->(a::S).getLast? = some z->(∀ i,i<S.length->∀ d,(a::S).getD i 0<=d->d<(a::S).getD (i+1) 0->had d=had ((a::S).getD i 0))->jumpD had (a::S)=scanD had (z-a).toNat a
 | [],a,z,_,hz,_=>by
  obtain rfl:a=z:=by simpa using hz
  rw[Int.sub_self];rfl
 | b::S,a,z,hs,hz,hc=>by
  have hab:a<b:=(List.pairwise_cons.1 hs).1 b List.mem_cons_self;have hs':=(List.pairwise_cons.1 hs).2;have hz':(b::S).getLast? = some z:=by rw[List.getLast?_cons_cons] at hz;exact hz
  have hbz:b<=z:=by
   have hm:=List.mem_of_getLast? hz';rcases List.mem_cons.1 hm with h|h
   ·omega
   ·have:=(List.pairwise_cons.1 hs').1 z h;omega
  have h0:∀ d,a<=d->d<b->had d=had a:=fun d h1 h2=>hc 0 (by simp) d h1 h2
  have ih:=jump_scan S b z hs' hz' fun i hi d h1 h2=>hc (i+1) (by simpa using hi) d h1 h2
  rw[jumpD];by_cases ha:had a=true
  ·rw[if_pos ha,show (z-a).toNat=((z-a).toNat-1)+1 by omega,scanD,if_pos ha]
  ·rw[if_neg ha,ih];have hn:=scanD_none (had:=had) (b-a).toNat a fun x h1 h2=>by
    rw[h0 x h1 (by omega)];simpa using ha
   have:=scanD_add (b-a).toNat (z-b).toNat a hn;rw[show (z-a).toNat=(b-a).toNat+(z-b).toNat by omega,this]
   congr 1
   omega
def endsOf (lo hi:Int) (l:LotV):List Int:=if 0<=l.fr/\l.fr<=l.un/\l.un<=4001/\max l.fr lo<min l.un (hi+1) then [max l.fr lo,min l.un (hi+1)] else []
theorem ends_alike {lo hi:Int} {L:List LotV} {S:List Int} {a:Int} (hs:(a::S).Pairwise (· < ·)) (hm:∀ x,x∈a::S↔x=lo∨x=hi+1∨∃ l∈L,x∈endsOf lo hi l) (_hlo:0<=lo/\lo<=hi) (_hhi:hi<=4000) :
  ∀ i,i<S.length->∀ d,(a::S).getD i 0<=d->d<(a::S).getD (i+1) 0->∀ l∈L,hasW l.fr l.un d=hasW l.fr l.un ((a::S).getD i 0):=by
 intro i hi' d h1 h2 l hl;obtain⟨c,hc⟩:∃ c,c=(a::S).getD i 0:=⟨_,rfl⟩
 have hcm:c∈a::S:=by
  rw[hc,List.getD_eq_getElem?_getD,List.getElem?_eq_getElem (by simp;omega)];exact List.getElem_mem _
 -- nothing of the row lies between
 have hgap:∀ x∈a::S,x<=d->x<=c:=fun x hx hxd=>by
  obtain⟨k,hk,rfl⟩:=List.mem_iff_getElem.1 hx;have hki:k<=i:=by
   by_cases h:k<=i
   ·exact h
   ·exfalso
    have hlen:i+1<(a::S).length:=(by simp;omega);have e:(a::S).getD (i+1) 0=(a::S)[i+1]:=(by rw[List.getD_eq_getElem?_getD,List.getElem?_eq_getElem hlen];rfl);rw[e] at h2;by_cases hk2:k=i+1
    ·subst hk2;omega
    ·have:=List.pairwise_iff_getElem.1 hs (i+1) k hlen hk (by omega);omega
  have e:c=(a::S)[i]'(by simp;omega):=by rw[hc,List.getD_eq_getElem?_getD,List.getElem?_eq_getElem (by simp;omega)];rfl
  rw[e];by_cases hk2:k=i
  ·subst hk2;exact Int.le_refl _
  ·have:=List.pairwise_iff_getElem.1 hs k i hk (by simp;omega) (by omega);omega
 rw[<- hc] at h1 ⊢;have hrange:∀ x∈a::S,lo<=x/\x<=hi+1:=fun x hx=>by
  rcases (hm x).1 hx with h|h|⟨k,-,h⟩
  ·omega
  ·omega
  ·unfold endsOf at h;split at h
   ·rcases List.mem_cons.1 h with h|h
    ·omega
    ·have:=List.mem_singleton.1 h;omega
   ·cases h
 have hclo:=hrange c hcm;have hdhi:d<hi+1:=by
  have hlen:i+1<(a::S).length:=by simp;omega
  have e:(a::S).getD (i+1) 0=(a::S)[i+1]:=by rw[List.getD_eq_getElem?_getD,List.getElem?_eq_getElem hlen];rfl
  have:=hrange _ (List.getElem_mem hlen);omega
 unfold hasW;by_cases hr:0<=l.fr/\l.fr<=l.un/\l.un<=4001
 ·obtain⟨r1,r2,r3⟩:=hr;rw[decide_eq_true r1,decide_eq_true r2,decide_eq_true r3];simp only[Bool.true_and,Bool.and_true];rw[Bool.eq_iff_iff];simp only[Bool.and_eq_true,decide_eq_true_eq];by_cases hme:max l.fr lo<min l.un (hi+1)
  ·have he:endsOf lo hi l=[max l.fr lo,min l.un (hi+1)]:=by unfold endsOf;rw[if_pos ⟨r1,r2,r3,hme⟩]
   have m1:max l.fr lo∈a::S:=(hm _).2 (.inr (.inr ⟨l,hl,by rw[he];exact List.mem_cons_self⟩));have m2:min l.un (hi+1)∈a::S:=(hm _).2 (.inr (.inr ⟨l,hl,by rw[he];exact List.mem_cons_of_mem _ List.mem_cons_self⟩));have g1:=hgap _ m1;have g2:=hgap _ m2;constructor
   ·rintro⟨k1,k2⟩;have:=g1 (by omega);omega
   ·rintro⟨k1,k2⟩;refine⟨by omega,?_⟩;by_cases h:d<l.un
    ·exact h
    ·have:=g2 (by omega);omega
  ·constructor<;>(rintro⟨k1,k2⟩;omega)
 ·have hf:∀ (p q:Bool),(decide (0<=l.fr) && decide (l.fr<=l.un) && decide (l.un<=4001) && p && q)=false:=fun p q=>by
   cases h:(decide (0<=l.fr) && decide (l.fr<=l.un) && decide (l.un<=4001))
   ·rfl
   ·simp only[Bool.and_eq_true,decide_eq_true_eq] at h;exact absurd ⟨h.1.1,h.1.2,h.2⟩ hr
  rw[hf,hf]
theorem day_same {lo hi:Int} {L:List LotV} {W:List WantV} {P:List (List UInt8×Int)} {S:List Int} {a:Int} (hs:(a::S).Pairwise (· < ·)) (hm:∀ x,x∈a::S↔x=lo∨x=hi+1∨∃ l∈L,x∈endsOf lo hi l) (hlo:0<=lo/\lo<=hi) (hhi:hi<=4000) :
  jumpD (hadB L W P) (a::S)=scanD (hadB L W P) (hi+1-lo).toNat lo:=by
 have hrange:∀ x∈a::S,lo<=x/\x<=hi+1:=fun x hx=>by
  rcases (hm x).1 hx with h|h|⟨k,-,h⟩
  ·omega
  ·omega
  ·unfold endsOf at h;split at h
   ·rcases List.mem_cons.1 h with h|h
    ·omega
    ·have:=List.mem_singleton.1 h;omega
   ·cases h
 have ha:a=lo:=by
  have h1:=hrange a List.mem_cons_self;have h2:lo∈a::S:=(hm lo).2 (.inl rfl);rcases List.mem_cons.1 h2 with h|h
  ·exact h.symm
  ·have:=(List.pairwise_cons.1 hs).1 lo h;omega
 have hz:(a::S).getLast? = some (hi+1):=by
  obtain⟨z,hz⟩:∃ z,(a::S).getLast? = some z:=⟨_,List.getLast?_eq_some_getLast (List.cons_ne_nil _ _)⟩
  have h1:=hrange z (List.mem_of_getLast? hz);have h2:hi+1∈a::S:=(hm _).2 (.inr (.inl rfl));rw[hz]
  congr 1
  -- the last one is the greatest
  obtain⟨A,hA⟩:=List.getLast?_eq_some_iff.1 hz;rw[hA] at h2 hs;rcases List.mem_append.1 h2 with h|h
  ·have:=(List.pairwise_append.1 hs).2.2 _ h z List.mem_cons_self;omega
  ·exact (List.mem_singleton.1 h).symm
 have hal:=ends_alike hs hm hlo hhi;rw[jump_scan S a (hi+1) hs hz fun i hi' d h1 h2=>?_,ha];have hi0:(a::S).getD i 0∈a::S:=by
  rw[List.getD_eq_getElem?_getD,List.getElem?_eq_getElem (by simp;omega)];exact List.getElem_mem _
 have hi1:(a::S).getD (i+1) 0∈a::S:=by
  rw[List.getD_eq_getElem?_getD,List.getElem?_eq_getElem (by simp;omega)];exact List.getElem_mem _
 have r0:=hrange _ hi0;have r1:=hrange _ hi1;exact had_same (by omega) (by omega) (hal i hi' d h1 h2)
end
section
open Go.RowKit Go.Sort
theorem intE_under:Tryz.prog.underlying 119=some (.slice 3):=Tryz.underlying119
theorem intE_info:(Tryz.prog.info? 3).map (fun i=>(i.zero,i.size,i.bytes))=some (some (.int .i64 0),1,8):=by kernel_rfl
def intE:El Int where
 e:=3
 t:=119
 k:=1
 bytes:=8
 z:=.int .i64 0
 enc:=fun x=>[.int .i64 x]
 ok:=fun x=>-9223372036854775808<=x/\x<=9223372036854775807
 len:=fun _=>rfl
 one:=fun x u hu=>by
  simp only[List.mem_cons,List.not_mem_nil,or_false] at hu;subst hu;rfl
 kpos:=by decide
 under:=intE_under
 info:=intE_info
 zc:=rfl
 small:=by decide
theorem intE_cells (X:List Int):intE.cells X=X.map (Value.int .i64):=by
 induction X with
 | nil=>rfl
 | cons x X ih =>
  show [Value.int .i64 x]++intE.cells X=_;rw[ih];rfl
theorem intE_row {base g n c:Nat} {w:World} {X:List Int} (h:intE.Own base w (.slice (some ⟨g,0,none⟩) n c) X):w.ownsRow base 3 1 (.slice (some ⟨g,0,none⟩) n c) n (X.map (Value.int .i64)):=by
 obtain⟨hn,-⟩:=h.cell;subst hn;have h1:w.ownsRow base 3 1 (.slice (some ⟨g,0,none⟩) X.length c) X.length (intE.cells X):=h
 rwa [intE_cells] at h1
theorem intE_own {base g n c:Nat} {w:World} {X:List Int} (hn:n=X.length) (h:w.ownsRow base 3 1 (.slice (some ⟨g,0,none⟩) n c) n (X.map (Value.int .i64))):intE.Own base w (.slice (some ⟨g,0,none⟩) n c) X:=by
 subst hn;show w.ownsRow base 3 1 (.slice (some ⟨g,0,none⟩) X.length c) X.length (intE.cells X)
 rwa [intE_cells]
theorem wpList_appendY {α:Type} [Inhabited α] {w:World} {ops:Array Oper} {rest:List Oper} {o:Oper} {a:Act} {K:Exit->Act->World->Prop} (E:El α) (hgd:o.guard=none) (s x:Operand)
  (ho:o.op=.call { callee:=.builtin .append,args:=#[s,x],argTypes:=#[E.t,E.t] }) (base:Nat) (v:Value) (X Y:List α) (m k:Nat) (hm:m=X.length+k) (hY:k=Y.length) (hs:a.eval s=v) (h:E.Own base w v X) (ad:Addr) (c:Nat)
  (hx:a.eval x=.slice (some ad) k c) (hsrc:∀ j u,(E.cells Y)[j]? = some u->w.cell? (ad.add j)=some u) (hY0:0<k) (hbase:base<=w.heap.size) (hl:X.length+Y.length<=1000000000)
  (hK:∀ g cap w',(m<=cap/\cap<=9223372036854775807)->E.Own base w' (.slice (some ⟨g,0,none⟩) m cap) (X++Y)->w.grownBy w' v.ownBlock->(v.ownBlock=some g∨g=w.heap.size)->wpList Tryz.prog ops K rest (a.put o.dst (.slice (some ⟨g,0,none⟩) m cap)) w'):wpList Tryz.prog ops K (o::rest) a w:=by
 subst hm;subst hY;obtain⟨g,cap,w',hr,h1,h2,h3,h4⟩:=El.run_append h o.type (some ad) c ⟨ad,rfl,hsrc⟩ hY0 hbase hl;refine wpList_plain hgd fun K' hK'=>?_
 unfold Oper.wp execOp;simp only[ho,resolve,invoke,builtin,Sem.run_bind,Sem.run_pure,Result.andThen_ok,List.map_toArray,List.map_cons,List.map_nil,hs,hx,hr];have hc:=h1.cell;exact hK' _ _ (hK g cap w' ⟨hc.2.1,hc.2.2.1⟩ h1 h3 h4)
theorem lit_cells {α:Type} [Inhabited α] (E:El α) (W:World) (Y:List α) (cs:Array Value) (t:TypeId) (hcs:cs=(E.cells Y).toArray):∀ j u,(E.cells Y)[j]? = some u->(W.alloc (.cells cs t)).cell? ((⟨W.heap.size,0,none⟩:Addr).add j)=some u:=by
 intro j u hu;have e:(⟨W.heap.size,0,none⟩:Addr).add j=⟨W.heap.size,0+j,none⟩:=by unfold Addr.add;split<;>simp_all
 rw[e];simp only[World.cell?,(Go.MapKept.heap_alloc W _).1];subst hcs;simpa using hu
theorem compactUpTo_sorted {d:Array Int} (hs:∀ i j,i<j->j<d.size->d[i]!<=d[j]!):∀ m,m<=d.size->(Lib.compactUpTo d m).Pairwise (· < ·)/\(∀ x,x∈Lib.compactUpTo d m↔∃ j,j<m/\d[j]! = x)
 | 0,_=>⟨by simp[Lib.compactUpTo],fun x=>⟨fun h=>by simp[Lib.compactUpTo] at h,fun ⟨j,h,_⟩=>by omega⟩⟩
 | m+1,hm=>by
  obtain⟨h1,h2⟩:=compactUpTo_sorted hs m (by omega);rw[Lib.compactUpTo_succ];by_cases hk:Lib.keeps d m=true
  ·rw[if_pos hk];refine⟨List.pairwise_append.2 ⟨h1,List.pairwise_singleton _ _,fun x hx y hy=>?_⟩,fun x=>?_⟩
   ·obtain rfl:=List.mem_singleton.1 hy;obtain⟨j,hj,rfl⟩:=(h2 x).1 hx;unfold Lib.keeps at hk;have hk2:=of_decide_eq_true hk;rcases hk2 with hk2|hk2
    ·omega
    ·have a1:d[j]!<=d[m-1]!:=by
      by_cases e:j=m-1
      ·rw[e];exact Int.le_refl _
      ·exact hs j (m-1) (by omega) (by omega)
     have a2:=hs (m-1) m (by omega) (by omega);have:d[m]!≠d[m-1]!:=hk2;omega
   ·rw[List.mem_append,h2,List.mem_singleton];constructor
    ·rintro (⟨j,hj,e⟩|rfl)
     ·exact⟨j,by omega,e⟩
     ·exact⟨m,by omega,rfl⟩
    ·rintro⟨j,hj,e⟩;by_cases hj2:j=m
     ·subst hj2;exact .inr e.symm
     ·exact .inl ⟨j,by omega,e⟩
  ·rw[if_neg hk,List.append_nil];refine⟨h1,fun x=>?_⟩;rw[h2];constructor
   ·rintro⟨j,hj,e⟩;exact⟨j,by omega,e⟩
   ·rintro⟨j,hj,e⟩;by_cases hj2:j=m
    ·subst hj2;unfold Lib.keeps at hk;have hk2:¬ (j=0∨d[j]!≠d[j-1]!):=fun h=>hk (decide_eq_true h)
     have hz:j≠0:=fun h=>hk2 (.inl h)
     have he:d[j]! = d[j-1]!:=Classical.byContradiction fun h=>hk2 (.inr h)
     exact⟨j-1,by omega,he.symm.trans e⟩
    ·exact⟨j,by omega,e⟩
theorem compact_sorted (zs:List Int):(Lib.compact (zs.mergeSort fun x y=>decide (x<=y))).Pairwise (· < ·)/\∀ x,x∈Lib.compact (zs.mergeSort fun x y=>decide (x<=y))↔x∈zs:=by
 have hp:(zs.mergeSort fun x y=>decide (x<=y)).Pairwise fun a b=>decide (a<=b)=true:=List.pairwise_mergeSort (fun a b c h1 h2=>by simp only[decide_eq_true_eq] at *;omega) (fun a b=>by simp only[Bool.or_eq_true,decide_eq_true_eq];omega) zs
 obtain⟨S,hS⟩:∃ S,S=zs.mergeSort fun x y=>decide (x<=y):=⟨_,rfl⟩
 have hmem:∀ x,x∈S↔x∈zs:=fun x=>by rw[hS];exact List.mem_mergeSort
 rw[<- hS] at hp ⊢;clear hS;have hget:∀ i (h:i<S.length),S.toArray[i]! = S[i]:=fun i h=>by rw[getElem!_pos _ _ (by simpa using h)];rfl
 have:=compactUpTo_sorted (d:=S.toArray) (fun i j hij hj=>by
  have hj':j<S.length:=by simpa using hj
  rw[hget i (by omega),hget j hj'];have:=List.pairwise_iff_getElem.1 hp i j (by omega) hj' hij;simpa using this) S.length (by simp)
 refine⟨this.1,fun x=>?_⟩;rw[<- hmem];refine (this.2 x).trans ⟨?_,fun h=>?_⟩
 ·rintro⟨j,hj,rfl⟩;rw[hget j hj];exact List.getElem_mem hj
 ·obtain⟨j,hj,rfl⟩:=List.mem_iff_getElem.1 h;exact⟨j,hj,hget j hj⟩
theorem endsOf_eq (lo hi:Int) (l:LotV):endsOf lo hi l=if meetB l.fr l.un lo (hi+1)=true then [max l.fr lo,min l.un (hi+1)] else []:=by
 unfold endsOf meetB winB;by_cases h:0<=l.fr/\l.fr<=l.un/\l.un<=4001/\max l.fr lo<min l.un (hi+1)
 ·rw[if_pos h];obtain⟨h1,h2,h3,h4⟩:=h;rw[decide_eq_true h1,decide_eq_true h2,decide_eq_true h3,decide_eq_true h4];rfl
 ·rw[if_neg h,if_neg];simp only[Bool.and_eq_true,decide_eq_true_eq];rintro⟨⟨⟨h1,h2⟩,h3⟩,h4⟩;exact h ⟨h1,h2,h3,h4⟩
theorem own_frozenI {α:Type} [Inhabited α] {E:El α} {base g n c:Nat} {w:World} {Y:List α} (h:E.Own base w (.slice (some ⟨g,0,none⟩) n c) Y) (t:Nat):w.frozen? ⟨g,t,none⟩=false:=by
 obtain⟨hx,-⟩:=h.cell;subst hx;exact World.ownsRow.frozenAt h t
theorem size_setCellI (w:World) (p k:Nat) (v:Value):(w.setCell ⟨p,k,none⟩ v).heap.size=w.heap.size:=by
 rw[setCell_eq];simp[mapBlock]
theorem below_setsI {B:Nat} {w:World} (g:Nat):∀ (vs:List Value) (o:Nat) {w':World} (_:Below B w w') (_:B<=g),Below B w (w'.setCells g o vs)
 | [],_,_,h,_=>h
 | v::vs,o,_,h,hg=>below_setsI g vs (o+1) (below_set h g o v hg) hg
structure EI (w wr:World) (g m c:Nat) (X:List Int):Prop where
 own:intE.Own w.heap.size wr (.slice (some ⟨g,0,none⟩) m c) X
 ne:g≠w.heap.size+1
 box:wr.heap[w.heap.size+1]? = some (.cells #[.slice (some ⟨g,0,none⟩) m c] 119)
 below:Below w.heap.size w wr
theorem EI.keep {w wr w':World} {g m c:Nat} {X:List Int} (h:EI w wr g m c X) (hb:Below wr.heap.size wr w'):EI w w' g m c X :=
 ⟨h.own.below hb,h.ne,(hb.block _ (Array.getElem?_eq_some_iff.1 h.box).1).trans h.box,h.below.trans (hb.mono h.below.size)⟩
theorem EI.cells {w wr:World} {g m c:Nat} {X:List Int} (h:EI w wr g m c X):wr.cell? ⟨w.heap.size+1,0,none⟩=some (.slice (some ⟨g,0,none⟩) m c)/\wr.frozen? ⟨w.heap.size+1,0,none⟩=false/\m=X.length/\m<=c/\c<=9223372036854775807:=by
 refine⟨by unfold World.cell?;rw[h.box];rfl,by unfold World.frozen?;rw[h.box];simp,?_⟩;obtain⟨h1,h2,h3,-⟩:=h.own.cell;exact⟨h1,h2,h3⟩
theorem EI.grow {w wr w':World} {g m c g2 m2 c2:Nat} {X Y:List Int} (h:EI w wr g m c X) (hg:wr.grownBy w' (some g)) (ho:intE.Own w.heap.size w' (.slice (some ⟨g2,0,none⟩) m2 c2) Y) (hr:some g=some g2∨g2=wr.heap.size) :
  w'.cell? ⟨w.heap.size+1,0,none⟩=some (.slice (some ⟨g,0,none⟩) m c)/\w'.frozen? ⟨w.heap.size+1,0,none⟩=false/\EI w (w'.setCell ⟨w.heap.size+1,0,none⟩ (.slice (some ⟨g2,0,none⟩) m2 c2)) g2 m2 c2 Y:=by
 have hlt:=(Array.getElem?_eq_some_iff.1 h.box).1;have hge:=h.own.cell.2.2.2.1;have hb:Below w.heap.size w w':=h.below.grown hg h.below.size (fun k e=>by cases e;exact hge);obtain⟨k1,k2,k3,k4,k5⟩:=hg;have hbox:w'.heap[w.heap.size+1]? = some (.cells #[.slice (some ⟨g,0,none⟩) m c] 119):=by
  rw[k5 _ hlt (fun e=>h.ne (by cases e;rfl))];exact h.box
 have hne2:g2≠w.heap.size+1:=by
  rcases hr with hr|hr
  ·cases hr;exact h.ne
  ·omega
 refine⟨by unfold World.cell?;rw[hbox];rfl,by unfold World.frozen?;rw[hbox];simp,⟨ho.keep fun b e=>?_,hne2,?_,below_set hb _ _ _ (by omega)⟩⟩
 ·cases e
  exact setCell_block _ _ _ _ (by omega)
 ·rw[heap_setCell_same _ _ 0 _ _ _ hbox];rfl
theorem EI.start (w:World) (x y:Int):EI w ((w.alloc (.cells #[.int .i64 x,.int .i64 y] 3)).alloc (.cells #[.slice (some ⟨w.heap.size,0,none⟩) 2 2] 119)) w.heap.size 2 2 [x,y]:=by
 have h0:intE.Own w.heap.size (w.alloc (.cells #[.int .i64 x,.int .i64 y] 3)) (.slice (some ⟨w.heap.size,0,none⟩) 2 2) [x,y]:=El.Own.lit (E:=intE) w [x,y] _ rfl (Nat.le_refl _) (by simp);have b0:Below w.heap.size w (w.alloc (.cells #[.int .i64 x,.int .i64 y] 3)):=(Below.refl _ w).alloc (Nat.le_refl _) _;obtain⟨A,hA⟩:∃ A,A=w.alloc (.cells #[.int .i64 x,.int .i64 y] 3):=⟨_,rfl⟩
 have hs:A.heap.size=w.heap.size+1:=by rw[hA,World.size_alloc]
 rw[<- hA] at h0 b0 ⊢;have b1:Below A.heap.size A (A.alloc (.cells #[.slice (some ⟨w.heap.size,0,none⟩) 2 2] 119)):=(Below.refl _ A).alloc (Nat.le_refl _) _;have e1:=heap_alloc_new A (.cells #[.slice (some ⟨w.heap.size,0,none⟩) 2 2] 119);rw[hs] at e1;exact⟨h0.below b1,by omega,e1,b0.trans (b1.mono b0.size)⟩
theorem EI.sorted {w wr w5:World} {g m c:Nat} {X:List Int} {d:Array Int} (h:EI w wr g m c X) (hs:SW (Value.int .i64) wr g 0 d w5) (hd:d.size=m):EI w w5 g m c d.toList:=by
 obtain⟨h1,h2⟩:=own_sorted1 (intE_row h.own) hs hd;have hge:=h.own.cell.2.2.2.1;exact⟨intE_own (by rw[Array.length_toList,hd]) h1,h.ne,(h2.block _ (fun e=>h.ne e.symm) (Array.getElem?_eq_some_iff.1 h.box).1).trans h.box,below_only h.below h2 (Nat.le_refl _) hge⟩
theorem EI.at_ {w wr:World} {g m c:Nat} {X:List Int} (h:EI w wr g m c X):(∀ j,j<X.length->wr.cell? ⟨g,0+j,none⟩=some (.int .i64 (X.getD j 0)))/\(∀ j,j<m->wr.frozen? ⟨g,0+j,none⟩=false):=by
 obtain⟨hn,-,-,-,-,hc⟩:=h.own.cell;refine⟨fun j hj=>?_,fun j _=>own_frozenI h.own _⟩;have:=hc j (by omega) 0 (by decide);rw[Nat.zero_add];rw[show intE.k=1 from rfl,Nat.mul_one,Nat.add_zero] at this;exact this
theorem compact_length_leI (zs:List Int):(Lib.compact zs).length<=zs.length:=by
 unfold Lib.compact Lib.compactUpTo;rw[List.length_map];exact Nat.le_trans (List.length_filter_le _ _) (by simp)
theorem EI.compacted {w w5 w6:World} {g m c:Nat} {S D:List Int} (h:EI w w5 g m c S) (q:Nat) (hD:D.length<=m) (hw:w6=(w5.drewN q).setCells g 0 ((D++List.replicate (m-D.length) 0).map (Value.int .i64))) (v:Value) :
  w6.cell? ⟨w.heap.size+1,0,none⟩=some (.slice (some ⟨g,0,none⟩) m c)/\w6.frozen? ⟨w.heap.size+1,0,none⟩=false/\(∀ i,i<D.length->(w6.setCell ⟨w.heap.size+1,0,none⟩ v).cell? ⟨g,i,none⟩=some (.int .i64 (D.getD i 0)))/\(w6.setCell ⟨w.heap.size+1,0,none⟩ v).cell? ⟨w.heap.size+1,0,none⟩=some v/\Below w.heap.size w (w6.setCell ⟨w.heap.size+1,0,none⟩ v)/\w.heap.size<=g/\g<(w6.setCell ⟨w.heap.size+1,0,none⟩ v).heap.size/\w.heap.size+1<(w6.setCell ⟨w.heap.size+1,0,none⟩ v).heap.size:=by
 obtain⟨hn,hle,hmx,hge,hlt,hc⟩:=h.own.cell;obtain⟨hcl,-⟩:=h.at_;have hbs:=(Array.getElem?_eq_some_iff.1 h.box).1;have hbox:w6.heap[w.heap.size+1]? = some (.cells #[.slice (some ⟨g,0,none⟩) m c] 119):=by
  rw[hw,World.heap_setCells_other _ _ _ _ (by exact hbs) (fun e=>h.ne e.symm)];exact h.box
 have hsz:w6.heap.size=w5.heap.size:=by rw[hw,size_setCells];rfl
 have hbel:Below w.heap.size w w6:=by
  have h1:Below w.heap.size w (w5.drewN q):=h.below.trans ⟨rfl,rfl,rfl,Nat.le_refl _,fun _ _=>rfl⟩;rw[hw];exact below_setsI g _ 0 h1 hge
 refine⟨by unfold World.cell?;rw[hbox];rfl,by unfold World.frozen?;rw[hbox];simp,fun i hi=>?_,?_,below_set hbel _ _ _ (by omega),hge,?_,?_⟩
 ·have e1:(w6.setCell ⟨w.heap.size+1,0,none⟩ v).cell? ⟨g,i,none⟩=w6.cell? ⟨g,i,none⟩:=World.cell?_of_block (setCell_block _ _ _ _ h.ne);rw[e1,hw];have h2:=World.cell?_setCells_in g ((D++List.replicate (m-D.length) 0).map (Value.int .i64)) 0 (w5.drewN q) (fun j hj=>by
   rw[List.length_map,List.length_append,List.length_replicate] at hj;have:=hcl j (by omega);show (w5.cell? ⟨g,0+j,none⟩).isSome=true;rw[this];rfl) i (by rw[List.length_map,List.length_append];omega)
  rw[Nat.zero_add] at h2;rw[h2];simp[List.getD_eq_getElem?_getD,hi]
 ·unfold World.cell?;rw[heap_setCell_same _ _ 0 _ _ _ hbox];rfl
 ·rw[size_setCellI,hsz];exact hlt
 ·rw[size_setCellI,hsz];exact hbs
theorem flatEnds_succ (lo hi:Int) {L:List LotV} {j:Nat} (hj:j<L.length):(L.take (j+1)).flatMap (endsOf lo hi)=(L.take j).flatMap (endsOf lo hi)++endsOf lo hi (L.getD j default):=by
 rw[List.take_succ_eq_append_getElem hj,List.flatMap_append,List.getD_eq_getElem?_getD,List.getElem?_eq_getElem hj];simp
theorem flatEnds_len (lo hi:Int):∀ L:List LotV,(L.flatMap (endsOf lo hi)).length<=2*L.length
 | []=>by simp
 | l::L=>by
  have:=flatEnds_len lo hi L;have h2:(endsOf lo hi l).length<=2:=by unfold endsOf;split<;>simp
  rw[List.flatMap_cons,List.length_append,List.length_cons];omega
end
end Go.Proofs.YtgplnekpgdhcpaaGreat
