/- Wants are filled just if they can be: what flow.fill does is the best. (Plain.) -/
import Derived.Test.YtgplnekpgdhcpaaGreatQFill
namespace Go.Proofs.YtgplnekpgdhcpaaGreat
open Go.RowKit
def usable (l:LotV) (w:WantV):Bool:=decide (l.item=w.item) && hasW l.fr l.un w.day
def totF (S:List LotV) (a:Int->Int):Int:=(S.map fun l=>a l.id).sum
theorem totF_cons (l:LotV) (S:List LotV) (a:Int->Int):totF (l :: S) a=a l.id+totF S a:=by simp[totF]
theorem totF_append (A B:List LotV) (a:Int->Int):totF (A ++ B) a=totF A a+totF B a:=by simp[totF,List.sum_append]
theorem totF_upd_out {S:List LotV} {a:Int->Int} {i v:Int} (h:∀ l∈S,l.id≠i):totF S (upd a i v)=totF S a:=by
 induction S with
 | nil=>rfl
 | cons l S ih =>
  rw[totF_cons,totF_cons,ih fun x hx=>h x (List.mem_cons_of_mem _ hx),upd_other _ _ (h l List.mem_cons_self)]
theorem totF_upd {S:List LotV} {a:Int->Int} {k:LotV} {v:Int} (hd:(S.map (·.id)).Nodup) (hk:k∈S):totF S (upd a k.id v)=totF S a+v - a k.id:=by
 induction S with
 | nil=>cases hk
 | cons l S ih =>
  rw[List.map_cons,List.nodup_cons] at hd
  rw[totF_cons,totF_cons]
  rcases List.mem_cons.1 hk with rfl | hk
  ·rw[upd_same,totF_upd_out fun x hx e=>hd.1 (List.mem_map.2 ⟨x,hx,e⟩)]
   omega
  ·rw[ih hd.2 hk,upd_other _ _ (fun e=>hd.1 (List.mem_map.2 ⟨k,hk,e.symm⟩))]
   omega
theorem totF_nonneg {S:List LotV} {a:Int->Int} (h:∀ l∈S,0<=a l.id):0<=totF S a:=by
 induction S with
 | nil=>exact Int.le_refl _
 | cons l S ih =>
  rw[totF_cons]
  have:=ih fun x hx=>h x (List.mem_cons_of_mem _ hx)
  have:=h l List.mem_cons_self
  omega
theorem totF_pos {S:List LotV} {a:Int->Int} (h:0 < totF S a):∃ l∈S,0 < a l.id:=by
 induction S with
 | nil=>exact absurd h (Int.lt_irrefl 0)
 | cons l S ih =>
  rw[totF_cons] at h
  by_cases h0:0 < a l.id
  ·exact⟨l,List.mem_cons_self,h0⟩
  ·obtain⟨k,h1,h2⟩:=ih (by omega)
   exact⟨k,List.mem_cons_of_mem _ h1,h2⟩
theorem totF_congr {S:List LotV} {a b:Int->Int} (h:∀ l∈S,a l.id=b l.id):totF S a=totF S b:=by
 unfold totF
 rw[List.map_congr_left h]
def mvU (f:Int->Int) (i j:Int):Int->Int:=fun k=>if k=i then f k - 1 else if k=j then f k+1 else f k
theorem mvU_i (f:Int->Int) (i j:Int):mvU f i j i=f i - 1:=by unfold mvU;rw[if_pos rfl]
theorem mvU_j (f:Int->Int) {i j:Int} (h:j≠i):mvU f i j j=f j+1:=by unfold mvU;rw[if_neg h,if_pos rfl]
theorem mvU_o (f:Int->Int) {i j k:Int} (h:k≠i) (h2:k≠j):mvU f i j k=f k:=by unfold mvU;rw[if_neg h,if_neg h2]
theorem mvU_sub (f a:Int->Int) (i j:Int):(fun k=>mvU f i j k - a k)=mvU (fun k=>f k - a k) i j:=by
 funext k
 unfold mvU
 dsimp only
 split
 ·omega
 ·split <;> omega
theorem mvU_upd (f:Int->Int) {i j:Int} (h:i≠j):mvU f i j=upd (upd f i (f i - 1)) j (f j+1):=by
 funext k
 unfold mvU upd
 split
 ·next e=>subst e;rw[if_neg h]
 ·split
  ·next e=>rw[e]
  ·rfl
theorem totF_mv {S:List LotV} {a:Int->Int} {p q:LotV} (hd:(S.map (·.id)).Nodup) (hp:p∈S) (hq:q∈S) (hne:p.id≠q.id):totF S (mvU a p.id q.id)=totF S a:=by
 rw[mvU_upd _ hne,totF_upd hd hq,totF_upd hd hp,upd_other _ _ (fun e=>hne e.symm)]
 omega
def Choice (S:List LotV) (w:WantV) (f a:Int->Int):Prop:=(∀ l∈S,0<=a l.id/\a l.id<=f l.id/\(0 < a l.id->usable l w=true))/\totF S a=w.qty
def Feas (S:List LotV):List WantV->(Int->Int)->Prop
 | [],_=>True
 | w :: W,f=>∃ a,Choice S w f a/\Feas S W (fun i=>f i - a i)
theorem Feas.congr {S:List LotV}:∀ {W:List WantV} {f g:Int->Int},(∀ l∈S,f l.id=g l.id)->Feas S W f->Feas S W g
 | [],_,_,_,_=>trivial
 | w :: W,f,g,h,⟨a,⟨h1,h2⟩,h3⟩=>⟨a,⟨fun l hl=>by rw[<- h l hl];exact h1 l hl,h2⟩,Feas.congr (fun l hl=>by simp only[h l hl]) h3⟩
theorem Feas.swap {S:List LotV} {w v:WantV} {W:List WantV} {f:Int->Int} (h:Feas S (w :: v :: W) f):Feas S (v :: w :: W) f:=by
 obtain⟨a,⟨h1,h2⟩,b,⟨k1,k2⟩,h3⟩:=h
 refine⟨b,⟨fun l hl=>⟨(k1 l hl).1,?_,(k1 l hl).2.2⟩,k2⟩,a,⟨fun l hl=>⟨(h1 l hl).1,?_,(h1 l hl).2.2⟩,h2⟩,?_⟩
 ·have:=(h1 l hl).1
  have:=(k1 l hl).2.1
  simp only at this
  omega
 ·have:=(k1 l hl).2.1
  simp only at this ⊢
  omega
 ·have e:(fun i=>f i - b i - a i)=fun i=>f i - a i - b i:=by funext i;omega
  rw[e]
  exact h3
theorem Feas.perm {S:List LotV} {W V:List WantV} (hp:W.Perm V):∀ {f:Int->Int},Feas S W f->Feas S V f:=by
 induction hp with
 | nil=>exact fun h=>h
 | cons x _ ih=>exact fun ⟨a,h1,h2⟩=>⟨a,h1,ih h2⟩
 | swap x y l=>exact fun h=>h.swap
 | trans _ _ ih1 ih2=>exact fun h=>ih2 (ih1 h)
theorem ids_inj {S:List LotV} (hd:(S.map (·.id)).Nodup) {l k:LotV} (hl:l∈S) (hk:k∈S) (e:l.id=k.id):l=k:=by
 obtain⟨i,hi1,rfl⟩:=List.getElem_of_mem hl
 obtain⟨j,hj1,rfl⟩:=List.getElem_of_mem hk
 have:=(List.getElem?_inj (i:=i) (j:=j) (by simpa using hi1) hd).1 (by simp[hi1,hj1,e])
 subst this
 rfl
theorem feas_mv {S:List LotV} (hd:(S.map (·.id)).Nodup) {p q:LotV} (hp:p∈S) (hq:q∈S) (hne:p.id≠q.id) (hi:p.item=q.item) (hu:p.un<=q.un) (hok:0<=q.fr/\q.fr<=q.un/\q.un<=4001) {t:Int} (ht:q.fr<=t) :
  ∀ {W:List WantV} {f:Int->Int},(∀ w∈W,t<=w.day)->1<=f p.id->Feas S W f->Feas S W (mvU f p.id q.id)
 | [],_,_,_,_=>trivial
 | w :: W,f,hW,hf,⟨a,⟨h1,h2⟩,h3⟩=>by
  have hW':∀ x∈W,t<=x.day:=fun x hx=>hW x (List.mem_cons_of_mem _ hx)
  have hw:=hW w List.mem_cons_self
  obtain⟨a0,a1,a2⟩:=h1 p hp
  have hids:∀ l∈S,l.id=p.id->l=p:=fun l hl e=>ids_inj hd hl hp e
  have hidq:∀ l∈S,l.id=q.id->l=q:=fun l hl e=>ids_inj hd hl hq e
  by_cases hlt:a p.id<=f p.id - 1
  ·refine⟨a,⟨fun l hl=>⟨(h1 l hl).1,?_,(h1 l hl).2.2⟩,h2⟩,?_⟩
   ·have:=(h1 l hl).2.1
    unfold mvU
    split
    ·next e=>rw[e];exact hlt
    ·split <;> omega
   ·rw[mvU_sub]
    exact feas_mv hd hp hq hne hi hu hok ht hW' (by show 1<=f p.id - a p.id;omega) h3
  ·have hus:=a2 (by omega)
   have huq:usable q w=true:=by
    unfold usable hasW at *
    simp only[Bool.and_eq_true,decide_eq_true_eq] at *
    obtain⟨e1,⟨⟨⟨⟨e2,e3⟩,e4⟩,e5⟩,e6⟩⟩:=hus
    exact⟨hi ▸ e1,⟨⟨⟨hok.1,hok.2.1⟩,hok.2.2⟩,by omega⟩,by omega⟩
   refine⟨mvU a p.id q.id,⟨fun l hl=>?_,by rw[totF_mv hd hp hq hne];exact h2⟩,?_⟩
   ·have hl1:=h1 l hl
    by_cases e1:l.id=p.id
    ·have:=hids l hl e1
     subst this
     rw[mvU_i,mvU_i]
     exact⟨by omega,by omega,fun _=>hus⟩
    ·by_cases e2:l.id=q.id
     ·have:=hidq l hl e2
      subst this
      rw[mvU_j _ e1,mvU_j _ e1]
      exact⟨by omega,by omega,fun _=>huq⟩
     ·rw[mvU_o _ e1 e2,mvU_o _ e1 e2]
      exact hl1
   ·refine Feas.congr (fun l _=>?_) h3
    unfold mvU
    split
    ·omega
    ·split <;> omega
theorem feas_most {S C:List LotV} {W:List WantV} {w:WantV} (hd:(S.map (·.id)).Nodup) {l:LotV} (hsub:∀ x∈l :: C,x∈S/\x.item=w.item/\0<=x.fr/\x.fr<=x.un/\x.un<=4001) (hCd:((l :: C).map (·.id)).Nodup) (hle:∀ x∈C,l.un<=x.un) (hW:∀ x∈W,w.day<=x.day) (hh:hasW l.fr l.un w.day=true) (f:Int->Int) (m:Int) (hm:m<=f l.id) :
  ∀ (k:Nat) (a:Int->Int),(m - a l.id).toNat=k->a l.id<=m->(∀ x∈l :: C,0<=a x.id/\a x.id<=f x.id/\(0 < a x.id->hasW x.fr x.un w.day=true))->(∀ i,i ∉ (l :: C).map (·.id)->a i=0)->m<=totF (l :: C) a->Feas S W (fun i=>f i - a i) ->
   ∃ b,b l.id=m/\(∀ x∈l :: C,0<=b x.id/\b x.id<=f x.id/\(0 < b x.id->hasW x.fr x.un w.day=true))/\(∀ i,i ∉ (l :: C).map (·.id)->b i=0)/\totF (l :: C) b=totF (l :: C) a/\Feas S W (fun i=>f i - b i)
 | 0,a,hk,hle',h1,h0,ht,hF=>⟨a,by omega,h1,h0,rfl,hF⟩
 | k+1,a,hk,hle',h1,h0,ht,hF=>by
  have hlt:a l.id < m:=by omega
  have hpos:0 < totF C a:=by
   rw[totF_cons] at ht
   omega
  obtain⟨q,hq,hq0⟩:=totF_pos hpos
  have hql:q∈l :: C:=List.mem_cons_of_mem _ hq
  have hll:l∈l :: C:=List.mem_cons_self
  have hne:l.id≠q.id:=fun e=>by
   rw[List.map_cons,List.nodup_cons] at hCd
   exact hCd.1 (List.mem_map.2 ⟨q,hq,e.symm⟩)
  obtain⟨hqS,hqi,hq1,hq2,hq3⟩:=hsub q hql
  obtain⟨hlS,hli,-⟩:=hsub l hll
  have hqh:=(h1 q hql).2.2 hq0
  have hfr:q.fr<=w.day:=by
   unfold hasW at hqh
   simp only[Bool.and_eq_true,decide_eq_true_eq] at hqh
   exact hqh.1.2
  have hF2:=feas_mv hd hlS hqS hne (hli.trans hqi.symm) (hle q hq) ⟨hq1,hq2,hq3⟩ hfr hW (by show 1<=f l.id - a l.id;omega) hF
  have e:(fun i=>f i - mvU a q.id l.id i)=mvU (fun i=>f i - a i) l.id q.id:=by
   funext i
   unfold mvU
   dsimp only
   by_cases e1:i=q.id
   ·rw[if_pos e1,if_neg (fun e=>hne (e.symm.trans e1)),if_pos e1];omega
   ·rw[if_neg e1]
    by_cases e2:i=l.id
    ·rw[if_pos e2,if_pos e2];omega
    ·rw[if_neg e2,if_neg e2,if_neg e1]
  have hb:(mvU a q.id l.id) l.id=a l.id+1:=mvU_j _ hne
  obtain⟨b,b1,b2,b3,b4,b5⟩:=feas_most hd hsub hCd hle hW hh f m hm k (mvU a q.id l.id) (by rw[hb];omega) (by rw[hb];omega) (fun x hx=>by
    obtain⟨c1,c2,c3⟩:=h1 x hx
    by_cases e1:x.id=q.id
    ·have hxq:x=q:=ids_inj hCd hx hql e1
     subst hxq
     rw[mvU_i]
     exact⟨by omega,by omega,fun _=>hqh⟩
    ·by_cases e2:x.id=l.id
     ·have hxl:x=l:=ids_inj hCd hx hll e2
      subst hxl
      rw[hb]
      exact⟨by omega,by omega,fun _=>hh⟩
     ·rw[mvU_o _ e1 e2]
      exact⟨c1,c2,c3⟩) (fun i hi=>by
    rw[mvU_o _ (fun e=>hi (List.mem_map.2 ⟨q,hql,e.symm⟩)) (fun e=>hi (List.mem_map.2 ⟨l,hll,e.symm⟩))]
    exact h0 i hi) (by rw[totF_mv hCd hql hll (fun e=>hne e.symm)];exact ht) (by rw[e];exact hF2)
  exact⟨b,b1,b2,b3,by rw[b4,totF_mv hCd hql hll (fun e=>hne e.symm)],b5⟩
theorem feas_pass {S:List LotV} {W:List WantV} {w:WantV} (at_:Int) (hd:(S.map (·.id)).Nodup) (hW:∀ x∈W,w.day<=x.day) :
  ∀ (C:List LotV) (f a:Int->Int) (need:Int),(∀ x∈C,x∈S/\x.item=w.item/\0<=x.fr/\x.fr<=x.un/\x.un<=4001)->(C.map (·.id)).Nodup->(C.Pairwise fun x y=>x.un<=y.un)->(∀ x∈C,0<=a x.id/\a x.id<=f x.id/\(0 < a x.id->hasW x.fr x.un w.day=true))->(∀ i,i ∉ C.map (·.id)->a i=0)->totF C a=need->Feas S W (fun i=>f i - a i) ->
   (pass w.day at_ C f need).2.2=0/\Feas S W (pass w.day at_ C f need).2.1
 | [],f,a,need,_,_,_,_,h0,ht,hF=>by
  refine⟨ht.symm,?_⟩
  have e:(fun i=>f i - a i)=f:=by funext i;rw[h0 i (by simp)];omega
  rw[e] at hF
  exact hF
 | l :: C,f,a,need,hsub,hCd,hs,h1,h0,ht,hF=>by
  have hsub':∀ x∈C,x∈S/\x.item=w.item/\0<=x.fr/\x.fr<=x.un/\x.un<=4001:=fun x hx=>hsub x (List.mem_cons_of_mem _ hx)
  have hCd':(C.map (·.id)).Nodup:=by rw[List.map_cons,List.nodup_cons] at hCd;exact hCd.2
  have hln:l.id ∉ C.map (·.id):=by rw[List.map_cons,List.nodup_cons] at hCd;exact hCd.1
  obtain⟨hs1,hs2⟩:=List.pairwise_cons.1 hs
  have hl:=h1 l List.mem_cons_self
  have hnn:0<=totF C a:=totF_nonneg fun x hx=>(h1 x (List.mem_cons_of_mem _ hx)).1
  rw[totF_cons] at ht
  rw[pass_cons]
  split
  ·next hc =>
   have hal:a l.id=0:=by
    rcases hc with hc | hc
    ·omega
    ·have:=hl.2.2
     by_cases h:0 < a l.id
     ·rw[this h] at hc;cases hc
     ·omega
   refine feas_pass at_ hd hW C f a need hsub' hCd' hs2 (fun x hx=>h1 x (List.mem_cons_of_mem _ hx)) (fun i hi=>?_) (by omega) hF
   by_cases e:i=l.id
   ·rw[e];exact hal
   ·exact h0 i (by rw[List.map_cons];exact fun h=>(List.mem_cons.1 h).elim e hi)
  ·next hc =>
   have hh:hasW l.fr l.un w.day=true:=by
    cases h:hasW l.fr l.un w.day
    ·exact absurd (.inr h) hc
    ·rfl
   obtain⟨m,hm⟩:∃ m,m=min need (f l.id):=⟨_,rfl⟩
   rw[<- hm] at hc ⊢
   have hm0:a l.id<=m:=by omega
   obtain⟨b,b1,b2,b3,b4,b5⟩:=feas_most hd hsub hCd hs1 hW hh f m (by omega) _ a rfl hm0 h1 h0 (by rw[totF_cons];omega) hF
   rw[totF_cons,totF_cons] at b4
   refine feas_pass at_ hd hW C (upd f l.id (f l.id - m)) (upd b l.id 0) (need - m) hsub' hCd' hs2 (fun x hx=>?_) (fun i hi=>?_) (by rw[totF_upd_out fun x hx e=>hln (List.mem_map.2 ⟨x,hx,e⟩)];omega) (by
    have e:(fun i=>upd f l.id (f l.id - m) i - upd b l.id 0 i)=fun i=>f i - b i:=by
     funext i
     unfold upd
     by_cases h:i=l.id
     ·rw[if_pos h,if_pos h,h,b1];omega
     ·rw[if_neg h,if_neg h]
    rw[e];exact b5)
   ·have hne:x.id≠l.id:=fun e=>hln (List.mem_map.2 ⟨x,hx,e⟩)
    rw[upd_other _ _ hne,upd_other _ _ hne]
    exact b2 x (List.mem_cons_of_mem _ hx)
   ·by_cases e:i=l.id
    ·rw[e,upd_same]
    ·rw[upd_other _ _ e]
     exact b3 i (by rw[List.map_cons];exact fun h=>(List.mem_cons.1 h).elim e hi)
theorem pass_choice {w:WantV} (at_:Int):∀ (C:List LotV) (f:Int->Int) (need:Int),(C.map (·.id)).Nodup->(∀ x∈C,0<=f x.id)->0<=need ->
  ∃ a:Int->Int,(∀ x∈C,0<=a x.id/\a x.id<=f x.id/\(0 < a x.id->hasW x.fr x.un w.day=true))/\(∀ i,i ∉ C.map (·.id)->a i=0)/\totF C a=need - (pass w.day at_ C f need).2.2/\(pass w.day at_ C f need).2.1=fun i=>f i - a i
 | [],f,need,_,_,_=>⟨fun _=>0,⟨fun x hx=>absurd hx List.not_mem_nil,fun _ _=>rfl,by show (0:Int)=need - need;omega,by funext i;show f i=f i - 0;omega⟩⟩
 | l :: C,f,need,hCd,h0,hn=>by
  have hCd':(C.map (·.id)).Nodup:=by rw[List.map_cons,List.nodup_cons] at hCd;exact hCd.2
  have hln:l.id ∉ C.map (·.id):=by rw[List.map_cons,List.nodup_cons] at hCd;exact hCd.1
  have hl:=h0 l List.mem_cons_self
  rw[pass_cons]
  split
  ·obtain⟨a,a1,a2,a3,a4⟩:=pass_choice (w:=w) at_ C f need hCd' (fun x hx=>h0 x (List.mem_cons_of_mem _ hx)) hn
   have hal:=a2 l.id hln
   refine⟨a,fun x hx=>?_,fun i hi=>a2 i (fun h=>hi (by rw[List.map_cons];exact List.mem_cons_of_mem _ h)),by rw[totF_cons,a3,hal];omega,a4⟩
   rcases List.mem_cons.1 hx with rfl | hx
   ·rw[hal];exact⟨Int.le_refl _,hl,fun h=>absurd h (by decide)⟩
   ·exact a1 x hx
  ·next hc =>
   have hh:hasW l.fr l.un w.day=true:=by
    cases h:hasW l.fr l.un w.day
    ·exact absurd (.inr h) hc
    ·rfl
   obtain⟨m,hm⟩:∃ m,m=min need (f l.id):=⟨_,rfl⟩
   rw[<- hm] at hc ⊢
   obtain⟨a,a1,a2,a3,a4⟩:=pass_choice (w:=w) at_ C (upd f l.id (f l.id - m)) (need - m) hCd' (fun x hx=>by rw[upd_other _ _ (fun e=>hln (List.mem_map.2 ⟨x,hx,e⟩))];exact h0 x (List.mem_cons_of_mem _ hx)) (by omega)
   have hal:=a2 l.id hln
   refine⟨upd a l.id m,fun x hx=>?_,fun i hi=>?_,?_,?_⟩
   ·rcases List.mem_cons.1 hx with rfl | hx
    ·rw[upd_same];exact⟨by omega,by omega,fun _=>hh⟩
    ·have hne:x.id≠l.id:=fun e=>hln (List.mem_map.2 ⟨x,hx,e⟩)
     have:=a1 x hx
     rw[upd_other _ _ hne] at this ⊢
     exact this
   ·rw[List.map_cons] at hi
    rw[upd_other _ _ (fun e=>hi (List.mem_cons.2 (.inl e)))]
    exact a2 i (fun h=>hi (List.mem_cons_of_mem _ h))
   ·rw[totF_cons,upd_same,totF_upd_out fun x hx e=>hln (List.mem_map.2 ⟨x,hx,e⟩),a3]
    dsimp only
    omega
   ·rw[a4]
    funext i
    unfold upd
    by_cases e:i=l.id
    ·rw[if_pos e,if_pos e,e,hal];omega
    ·rw[if_neg e,if_neg e]
theorem totF_filter {S:List LotV} {a:Int->Int} {c:List UInt8} (h:∀ x∈S,x.item≠c->a x.id=0):totF S a=totF (S.filter fun l=>decide (l.item=c)) a:=by
 induction S with
 | nil=>rfl
 | cons l S ih =>
  have ih':=ih fun x hx=>h x (List.mem_cons_of_mem _ hx)
  rw[totF_cons,List.filter_cons]
  by_cases e:l.item=c
  ·rw[if_pos (decide_eq_true e),totF_cons,ih']
  ·rw[if_neg (by simpa using e),ih',h l List.mem_cons_self e];omega
theorem totF_sub {S C:List LotV} {a:Int->Int} (hd:(S.map (·.id)).Nodup) (hCd:(C.map (·.id)).Nodup) (hsub:∀ x∈C,x∈S) (h0:∀ x∈S,x ∉ C->a x.id=0):totF S a=totF C a:=by
 induction S generalizing C with
 | nil =>
  cases C with
  | nil=>rfl
  | cons c C=>exact absurd (hsub c List.mem_cons_self) (by simp)
 | cons l S ih =>
  rw[List.map_cons,List.nodup_cons] at hd
  rw[totF_cons]
  by_cases h:l∈C
  ·have hn:C.Nodup:=by
    have:=hCd
    exact List.Pairwise.of_map _ (fun a b h e=>h (by rw[e])) this
   obtain⟨A,B,rfl⟩:=List.append_of_mem h
   have hperm:(A ++ l :: B).Perm (l :: (A ++ B)):=List.perm_middle
   have e:totF (A ++ l :: B) a=a l.id+totF (A ++ B) a:=by
    rw[totF_append,totF_append,totF_cons]
    omega
   rw[e,ih hd.2 (C:=A ++ B) ?_ (fun x hx=>?_) (fun x hx hn2=>?_)]
   ·exact (List.nodup_cons.1 ((hperm.map (·.id)).nodup_iff.1 hCd)).2
   ·have hxm:x∈A ++ l :: B:=hperm.mem_iff.2 (List.mem_cons_of_mem _ hx)
    rcases List.mem_cons.1 (hsub x hxm) with rfl | h2
    ·have:=hperm.nodup_iff.1 hn
     exact absurd hx (List.nodup_cons.1 this).1
    ·exact h2
   ·refine h0 x (List.mem_cons_of_mem _ hx) (fun h3=>?_)
    rcases List.mem_cons.1 (hperm.mem_iff.1 h3) with rfl | h4
    ·exact hd.1 (List.mem_map.2 ⟨x,hx,rfl⟩)
    ·exact hn2 h4
  ·rw[h0 l List.mem_cons_self h,ih hd.2 hCd (fun x hx=>?_) (fun x hx hn=>h0 x (List.mem_cons_of_mem _ hx) hn)]
   ·omega
   ·rcases List.mem_cons.1 (hsub x hx) with rfl | h2
    ·exact absurd hx h
    ·exact h2
theorem pass_best {S C:List LotV} {W:List WantV} {w:WantV} (hd:(S.map (·.id)).Nodup) (hsub:∀ x∈C,x∈S/\x.item=w.item/\0<=x.fr/\x.fr<=x.un/\x.un<=4001) (hCd:(C.map (·.id)).Nodup) (hCs:C.Pairwise fun x y=>x.un<=y.un) (hday:∀ x∈W,w.day<=x.day) (f b:Int->Int) (k1:∀ l∈S,0<=b l.id/\b l.id<=f l.id/\(0 < b l.id->usable l w=true)) (hb0:∀ x∈S,x ∉ C->b x.id=0) (k2:totF S b=w.qty) (k3:Feas S W (fun i=>f i - b i)) (_hCm:∀ x,x∈C↔x∈S/\x.item=w.item) (i:Int):(pass w.day i C f w.qty).2.2=0/\Feas S W (pass w.day i C f w.qty).2.1:=by
 -- the choice,nought outside C
 obtain⟨a,ha⟩:∃ a:Int->Int,a=fun i=>if i∈C.map (·.id) then b i else 0:=⟨_,rfl⟩
 have haC:∀ x∈C,a x.id=b x.id:=fun x hx=>by rw[ha];simp only;rw[if_pos (List.mem_map.2 ⟨x,hx,rfl⟩)]
 have haS:∀ x∈S,a x.id=b x.id:=fun x hx=>by
  by_cases h:x∈C
  ·exact haC x h
  ·rw[ha];simp only
   rw[if_neg,hb0 x hx h]
   intro h2
   obtain⟨y,hy,e⟩:=List.mem_map.1 h2
   have:=ids_inj hd (hsub y hy).1 hx e
   subst this
   exact h hy
 have hfil:totF S a=totF C a:=by
  have h0:∀ x∈S,x ∉ C->a x.id=0:=fun x hx hn=>by rw[haS x hx,hb0 x hx hn]
  exact totF_sub hd hCd (fun x hx=>(hsub x hx).1) h0
 refine feas_pass i hd hday C f a w.qty hsub hCd hCs (fun x hx=>?_) (fun i hi=>by rw[ha];simp only;rw[if_neg hi]) (by rw[<- hfil,totF_congr haS];exact k2) (Feas.congr (fun l hl=>by simp only[haS l hl]) k3)
 obtain⟨c1,c2,c3⟩:=k1 x (hsub x hx).1
 rw[haC x hx]
 exact⟨c1,c2,fun h=>by have:=c3 h;unfold usable at this;simp only[Bool.and_eq_true] at this;exact this.2⟩
theorem pass_only {S C:List LotV} {W:List WantV} {w:WantV} (hd:(S.map (·.id)).Nodup) (hsub:∀ x∈C,x∈S/\x.item=w.item/\0<=x.fr/\x.fr<=x.un/\x.un<=4001) (hCd:(C.map (·.id)).Nodup) (hCs:C.Pairwise fun x y=>x.un<=y.un) (hday:∀ x∈W,w.day<=x.day) (f b:Int->Int) (k1:∀ l∈S,0<=b l.id/\b l.id<=f l.id/\(0 < b l.id->usable l w=true)) (hb0:∀ x∈S,x ∉ C->b x.id=0) (k2:totF S b=w.qty) (k3:Feas S W (fun i=>f i - b i)) (hCm:∀ x,x∈C↔x∈S/\x.item=w.item) (_:(C.map (·.id)).Nodup) (i:Int):(pass w.day i C f w.qty).2.2=0 :=
 (pass_best hd hsub hCd hCs hday f b k1 hb0 k2 k3 hCm i).1
theorem fillF_iff {S:List LotV} {W:List WantV} (hd:(S.map (·.id)).Nodup) (hs:S.Pairwise fun x y=>x.un<=y.un) (hok:∀ x∈S,0<=x.fr/\x.fr<=x.un/\x.un<=4001) (hq:∀ i,0<=(W.getD i default).qty) :
  ∀ (os:List Nat) (f:Int->Int) (out:List UseV),(os.Pairwise fun a b=>(W.getD a default).day<=(W.getD b default).day)->(∀ l∈S,0<=f l.id)->((fillF S W os f out).isSome=true↔Feas S (os.map fun i=>W.getD i default) f)
 | [],f,out,_,_=>⟨fun _=>trivial,fun _=>rfl⟩
 | i :: os,f,out,ho,hf=>by
  obtain⟨ho1,ho2⟩:=List.pairwise_cons.1 ho
  obtain⟨w,hw⟩:∃ w,w=W.getD i default:=⟨_,rfl⟩
  obtain⟨C,hC⟩:∃ C,C=S.filter fun l=>decide (l.item=w.item):=⟨_,rfl⟩
  have hCm:∀ x,x∈C↔x∈S/\x.item=w.item:=fun x=>by rw[hC,List.mem_filter,decide_eq_true_eq]
  have hsub:∀ x∈C,x∈S/\x.item=w.item/\0<=x.fr/\x.fr<=x.un/\x.un<=4001:=fun x hx=>⟨((hCm x).1 hx).1,((hCm x).1 hx).2,hok x ((hCm x).1 hx).1⟩
  have hCd:(C.map (·.id)).Nodup:=by
   rw[hC]
   exact (List.Sublist.map _ List.filter_sublist).nodup hd
  have hCs:C.Pairwise fun x y=>x.un<=y.un:=by rw[hC];exact hs.sublist List.filter_sublist
  have hday:∀ x∈os.map (fun i=>W.getD i default),w.day<=x.day:=fun x hx=>by
   obtain⟨j,hj,rfl⟩:=List.mem_map.1 hx
   rw[hw];exact ho1 j hj
  have htC:∀ a:Int->Int,(∀ i,i ∉ C.map (·.id)->a i=0)->totF S a=totF C a:=fun a ha=>by
   rw[hC]
   exact totF_filter fun x hx hne=>ha _ (fun h=>by
    obtain⟨y,hy,e⟩:=List.mem_map.1 h
    have:=ids_inj hd ((hCm y).1 hy).1 hx e
    subst this
    exact hne ((hCm y).1 hy).2)
  have hqi:=hq i
  rw[<- hw] at hqi
  simp only[fillF,List.map_cons]
  rw[<- hw,<- hC]
  obtain⟨a,a1,a2,a3,a4⟩:=pass_choice (w:=w) i C f w.qty hCd (fun x hx=>hf x ((hCm x).1 hx).1) hqi
  have hpl:=pass_left w.day i C f w.qty hqi (fun x hx=>hf x ((hCm x).1 hx).1)
  split
  ·next hpos =>
   refine⟨fun h=>(by cases h),?_⟩
   rintro⟨b,⟨k1,k2⟩,k3⟩
   exfalso
   have hb0:∀ x∈S,x ∉ C->b x.id=0:=fun x hx hn=>by
    obtain⟨c1,c2,c3⟩:=k1 x hx
    by_cases h:0 < b x.id
    ·have:=c3 h
     unfold usable at this
     simp only[Bool.and_eq_true,decide_eq_true_eq] at this
     exact absurd ((hCm x).2 ⟨hx,this.1⟩) hn
    ·omega
   have:=pass_only hd hsub hCd hCs hday f b k1 hb0 k2 k3 hCm hCd i
   omega
  ·next hz =>
   have hz0:(pass w.day i C f w.qty).2.2=0:=by omega
   rw[fillF_iff hd hs hok hq os _ _ ho2 (fun l hl=>hpl.1 _ (hf l hl)),a4]
   constructor
   ·intro h
    refine⟨a,⟨fun x hx=>?_,by rw[htC a a2,a3,hz0];omega⟩,h⟩
    by_cases hxC:x∈C
    ·obtain⟨c1,c2,c3⟩:=a1 x hxC
     exact⟨c1,c2,fun h=>by unfold usable;rw[c3 h,((hCm x).1 hxC).2];simp⟩
    ·have:a x.id=0:=a2 _ (fun h=>by
      obtain⟨y,hy,e⟩:=List.mem_map.1 h
      have:=ids_inj hd ((hCm y).1 hy).1 hx e
      subst this
      exact hxC hy)
     rw[this]
     exact⟨Int.le_refl _,hf x hx,fun h=>absurd h (by decide)⟩
   ·rintro⟨b,⟨k1,k2⟩,k3⟩
    have hb0:∀ x∈S,x ∉ C->b x.id=0:=fun x hx hn=>by
     obtain⟨c1,c2,c3⟩:=k1 x hx
     by_cases h:0 < b x.id
     ·have:=c3 h
      unfold usable at this
      simp only[Bool.and_eq_true,decide_eq_true_eq] at this
      exact absurd ((hCm x).2 ⟨hx,this.1⟩) hn
     ·omega
    have:=(pass_best hd hsub hCd hCs hday f b k1 hb0 k2 k3 hCm i).2
    rw[a4] at this
    exact this
end Go.Proofs.YtgplnekpgdhcpaaGreat
