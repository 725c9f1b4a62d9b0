/- Whether more can be had hangs on the day only by which lots are there on it. (Plain.) The first day on which more can be had: by stretches, and day by day. (Plain.) Lists of whole numbers as they stand in memory; a sorted list without its repeats; append of some elements. -/
import Derived.Test.YtgplnekpgdhcpaaGreatQFeas
import Derived.Test.YtgplnekpgdhcpaaGreatQBridge
import Derived.Test.YtgplnekpgdhcpaaGreatQMeet
import Derived.Test.YtgplnekpgdhcpaaGreatJShelf
import Derived.Deep.Upon
namespace Go.Proofs.YtgplnekpgdhcpaaGreat
open Go.RowKit
theorem left0_ofH {L:List LotV} (hd:(L.map (·.id)).Nodup) {l:LotV} (hl:l∈L):left0 L l.id=l.qty:=by
 unfold left0
 cases h:L.find? fun x=>decide (x.id=l.id) with
 | none =>
  have:=List.find?_eq_none.1 h l hl
  simp at this
 | some x =>
  have h1:=List.find?_some h
  have h2:=List.mem_of_find?_eq_some h
  have:x=l:=ids_inj hd h2 hl (by simpa using h1)
  rw[this];rfl
theorem dayO_map (W:List WantV):((dayO W).map fun i=>W.getD i default).Perm W:=by
 have h:=(dayO_perm W).map fun i=>W.getD i default
 have e:(List.range W.length).map (fun i=>W.getD i default)=W:=by
  apply List.ext_getElem
  ·simp
  ·intro i h1 h2
   simp[List.getD_eq_getElem?_getD,h2]
 rw[e] at h
 exact h
theorem fillX_iff (L:List LotV) (W:List WantV):(fillX L W).isSome=true↔mayB L W=true/\Feas (srt L) W (left0 L):=by
 unfold fillX
 by_cases hm:mayB L W=true
 ·rw[if_pos hm]
  have hm':=hm
  unfold mayB idsOk at hm'
  simp only[Bool.and_eq_true,decide_eq_true_eq,List.all_eq_true] at hm'
  obtain⟨⟨⟨⟨-,-⟩,hl⟩,hd⟩,hw⟩:=hm'
  have hp:=srt_perm L
  have hdS:((srt L).map (·.id)).Nodup:=(hp.map _).nodup_iff.2 hd
  have hok:∀ x∈srt L,0<=x.fr/\x.fr<=x.un/\x.un<=4001/\1<=x.qty:=fun x hx=>by
   have:=hl x (hp.mem_iff.1 hx)
   unfold lotOk at this
   simp only[Bool.and_eq_true,decide_eq_true_eq] at this
   omega
  have hq:∀ i,0<=(W.getD i default).qty:=fun i=>by
   rw[List.getD_eq_getElem?_getD]
   cases h:W[i]? with
   | none=>show (0:Int)<=0;exact Int.le_refl _
   | some w =>
    have:=hw w (List.mem_of_getElem? h)
    unfold wantOk at this
    simp only[Bool.and_eq_true,decide_eq_true_eq] at this
    show 0<=w.qty
    omega
  rw[fillF_iff hdS ((srt_sorted L).imp fun {a b} h=>by
    unfold leL at h
    simp only[Bool.or_eq_true,Bool.and_eq_true,decide_eq_true_eq] at h
    omega) (fun x hx=>⟨(hok x hx).1,(hok x hx).2.1,(hok x hx).2.2.1⟩) hq (dayO W) (left0 L) [] ((dayO_sorted W).imp fun {a b} h=>by
    unfold leD at h
    simp only[Bool.or_eq_true,Bool.and_eq_true,decide_eq_true_eq] at h
    omega) (fun l hl'=>by rw[left0_ofH hd (hp.mem_iff.1 hl')];have:=(hok l hl').2.2.2;omega)]
  exact⟨fun h=>⟨hm,h.perm (dayO_map W)⟩,fun h=>h.2.perm (dayO_map W).symm⟩
 ·rw[if_neg hm]
  exact⟨fun h=>(by cases h),fun h=>absurd h.1 hm⟩
def moreW (d:Int) (P:List (List UInt8×Int)):List WantV:=P.map fun p=>⟨p.1,d,p.2⟩
def hadB (L:List LotV) (W:List WantV) (P:List (List UInt8×Int)) (d:Int):Bool:=(fillX L (W ++ moreW d P)).isSome
theorem feas_more {S:List LotV} {d d':Int} (h:∀ l∈S,hasW l.fr l.un d=hasW l.fr l.un d'):∀ (P:List (List UInt8×Int)) {f:Int->Int},Feas S (moreW d P) f->Feas S (moreW d' P) f
 | [],_,_=>trivial
 | p :: P,_,⟨a,⟨h1,h2⟩,h3⟩=>⟨a,⟨fun l hl=>⟨(h1 l hl).1,(h1 l hl).2.1,fun h0=>by
   have:=(h1 l hl).2.2 h0
   unfold usable at this ⊢
   simp only at this ⊢
   rw[<- h l hl]
   exact this⟩,h2⟩,feas_more h P h3⟩
theorem feas_app {S:List LotV} {A A':List WantV} (h:∀ {f:Int->Int},Feas S A f->Feas S A' f):∀ (W:List WantV) {f:Int->Int},Feas S (W ++ A) f->Feas S (W ++ A') f
 | [],_,k=>h k
 | _ :: W,_,⟨a,h1,h2⟩=>⟨a,h1,feas_app h W h2⟩
theorem mayB_more {L:List LotV} {W:List WantV} {P:List (List UInt8×Int)} {d d':Int} (_hd:0<=d/\d<=4000) (hd':0<=d'/\d'<=4000) (h:mayB L (W ++ moreW d P)=true):mayB L (W ++ moreW d' P)=true:=by
 unfold mayB at *
 simp only[Bool.and_eq_true,decide_eq_true_eq,List.length_append,List.all_append] at *
 obtain⟨⟨⟨⟨h1,h2⟩,h3⟩,h4⟩,h5,h6⟩:=h
 refine⟨⟨⟨⟨h1,?_⟩,h3⟩,h4⟩,h5,?_⟩
 ·simpa [moreW] using h2
 ·unfold moreW at *
  rw[List.all_map,List.all_eq_true] at *
  intro p hp
  have:=h6 p hp
  simp only[Function.comp,wantOk,Bool.and_eq_true,decide_eq_true_eq] at this ⊢
  exact⟨⟨⟨⟨this.1.1.1.1,hd'.1⟩,hd'.2⟩,this.1.2⟩,this.2⟩
theorem had_same {L:List LotV} {W:List WantV} {P:List (List UInt8×Int)} {d d':Int} (hd:0<=d/\d<=4000) (hd':0<=d'/\d'<=4000) (h:∀ l∈L,hasW l.fr l.un d=hasW l.fr l.un d'):hadB L W P d=hadB L W P d':=by
 have hS:∀ l∈srt L,hasW l.fr l.un d=hasW l.fr l.un d':=fun l hl=>h l ((srt_perm L).mem_iff.1 hl)
 have go:∀ {d d':Int},(0<=d/\d<=4000)->(0<=d'/\d'<=4000)->(∀ l∈srt L,hasW l.fr l.un d=hasW l.fr l.un d')->hadB L W P d=true->hadB L W P d'=true:=fun h1 h2 hs hh=>by
  unfold hadB at *
  rw[fillX_iff] at hh ⊢
  exact⟨mayB_more h1 h2 hh.1,feas_app (feas_more hs P) W hh.2⟩
 rw[Bool.eq_iff_iff]
 exact⟨go hd hd' hS,go hd' hd fun l hl=>(hS l hl).symm⟩
end Go.Proofs.YtgplnekpgdhcpaaGreat
namespace Go.Proofs.YtgplnekpgdhcpaaGreat
open Go.RowKit
def scanD (had:Int->Bool):Nat->Int->Option Int
 | 0,_=>none
 | n+1,d=>if had d=true then some d else scanD had n (d+1)
def jumpD (had:Int->Bool):List Int->Option Int
 | a :: b :: r=>if had a=true then some a else jumpD had (b :: r)
 | _=>none
theorem scanD_none {had:Int->Bool}:∀ (n:Nat) (d:Int),(∀ x,d<=x->x < d+n->had x=false)->scanD had n d=none
 | 0,_,_=>rfl
 | n+1,d,h=>by
  rw[scanD,if_neg (by rw[h d (by omega) (by omega)];decide)]
  exact scanD_none n (d+1) fun x h1 h2=>h x (by omega) (by omega)
theorem scanD_add {had:Int->Bool}:∀ (m n:Nat) (d:Int),scanD had m d=none->scanD had (m+n) d=scanD had n (d+m)
 | 0,n,d,_=>by rw[Nat.zero_add];show _=scanD had n (d+0);rw[Int.add_zero]
 | m+1,n,d,h=>by
  rw[scanD] at h
  split at h
  ·cases h
  ·next hd =>
   rw[show m+1+n=(m+n)+1 by omega,scanD,if_neg hd,scanD_add m n (d+1) h]
   congr 1
   omega
theorem jump_scan {had:Int->Bool}:∀ (S:List Int) (a z:Int),(a :: S).Pairwise (· < ·)->(a :: S).getLast? = some z->(∀ i,i < S.length->∀ d,(a :: S).getD i 0<=d->d < (a :: S).getD (i+1) 0->had d=had ((a :: S).getD i 0))->jumpD had (a :: S)=scanD had (z - a).toNat a
 | [],a,z,_,hz,_=>by
  obtain rfl:a=z:=by simpa using hz
  rw[Int.sub_self]
  rfl
 | b :: S,a,z,hs,hz,hc=>by
  have hab:a < b:=(List.pairwise_cons.1 hs).1 b List.mem_cons_self
  have hs':=(List.pairwise_cons.1 hs).2
  have hz':(b :: S).getLast? = some z:=by rw[List.getLast?_cons_cons] at hz;exact hz
  have hbz:b<=z:=by
   have hm:=List.mem_of_getLast? hz'
   rcases List.mem_cons.1 hm with h | h
   ·omega
   ·have:=(List.pairwise_cons.1 hs').1 z h
    omega
  have h0:∀ d,a<=d->d < b->had d=had a:=fun d h1 h2=>hc 0 (by simp) d h1 h2
  have ih:=jump_scan S b z hs' hz' fun i hi d h1 h2=>hc (i+1) (by simpa using hi) d h1 h2
  rw[jumpD]
  by_cases ha:had a=true
  ·rw[if_pos ha,show (z - a).toNat=((z - a).toNat - 1)+1 by omega,scanD,if_pos ha]
  ·rw[if_neg ha,ih]
   have hn:=scanD_none (had:=had) (b - a).toNat a fun x h1 h2=>by
    rw[h0 x h1 (by omega)]
    simpa using ha
   have:=scanD_add (b - a).toNat (z - b).toNat a hn
   rw[show (z - a).toNat=(b - a).toNat+(z - b).toNat by omega,this]
   congr 1
   omega
def endsOf (lo hi:Int) (l:LotV):List Int:=if 0<=l.fr/\l.fr<=l.un/\l.un<=4001/\max l.fr lo < min l.un (hi+1) then [max l.fr lo,min l.un (hi+1)] else []
theorem ends_alike {lo hi:Int} {L:List LotV} {S:List Int} {a:Int} (hs:(a :: S).Pairwise (· < ·)) (hm:∀ x,x∈a :: S↔x=lo∨x=hi+1∨∃ l∈L,x∈endsOf lo hi l) (_hlo:0<=lo/\lo<=hi) (_hhi:hi<=4000) :
  ∀ i,i < S.length->∀ d,(a :: S).getD i 0<=d->d < (a :: S).getD (i+1) 0->∀ l∈L,hasW l.fr l.un d=hasW l.fr l.un ((a :: S).getD i 0):=by
 intro i hi' d h1 h2 l hl
 obtain⟨c,hc⟩:∃ c,c=(a :: S).getD i 0:=⟨_,rfl⟩
 have hcm:c∈a :: S:=by
  rw[hc,List.getD_eq_getElem?_getD,List.getElem?_eq_getElem (by simp;omega)];exact List.getElem_mem _
 -- nothing of the row lies between
 have hgap:∀ x∈a :: S,x<=d->x<=c:=fun x hx hxd=>by
  obtain⟨k,hk,rfl⟩:=List.mem_iff_getElem.1 hx
  have hki:k<=i:=by
   by_cases h:k<=i
   ·exact h
   ·exfalso
    have hlen:i+1 < (a :: S).length:=by simp;omega
    have e:(a :: S).getD (i+1) 0=(a :: S)[i+1]:=by rw[List.getD_eq_getElem?_getD,List.getElem?_eq_getElem hlen];rfl
    rw[e] at h2
    by_cases hk2:k=i+1
    ·subst hk2;omega
    ·have:=List.pairwise_iff_getElem.1 hs (i+1) k hlen hk (by omega)
     omega
  have e:c=(a :: S)[i]'(by simp;omega):=by rw[hc,List.getD_eq_getElem?_getD,List.getElem?_eq_getElem (by simp;omega)];rfl
  rw[e]
  by_cases hk2:k=i
  ·subst hk2;exact Int.le_refl _
  ·have:=List.pairwise_iff_getElem.1 hs k i hk (by simp;omega) (by omega)
   omega
 rw[<- hc] at h1 ⊢
 have hrange:∀ x∈a :: S,lo<=x/\x<=hi+1:=fun x hx=>by
  rcases (hm x).1 hx with h | h | ⟨k,-,h⟩
  ·omega
  ·omega
  ·unfold endsOf at h
   split at h
   ·rcases List.mem_cons.1 h with h | h
    ·omega
    ·have:=List.mem_singleton.1 h
     omega
   ·cases h
 have hclo:=hrange c hcm
 have hdhi:d < hi+1:=by
  have hlen:i+1 < (a :: S).length:=by simp;omega
  have e:(a :: S).getD (i+1) 0=(a :: S)[i+1]:=by rw[List.getD_eq_getElem?_getD,List.getElem?_eq_getElem hlen];rfl
  have:=hrange _ (List.getElem_mem hlen)
  omega
 unfold hasW
 by_cases hr:0<=l.fr/\l.fr<=l.un/\l.un<=4001
 ·obtain⟨r1,r2,r3⟩:=hr
  rw[decide_eq_true r1,decide_eq_true r2,decide_eq_true r3]
  simp only[Bool.true_and,Bool.and_true]
  rw[Bool.eq_iff_iff]
  simp only[Bool.and_eq_true,decide_eq_true_eq]
  by_cases hme:max l.fr lo < min l.un (hi+1)
  ·have he:endsOf lo hi l=[max l.fr lo,min l.un (hi+1)]:=by unfold endsOf;rw[if_pos ⟨r1,r2,r3,hme⟩]
   have m1:max l.fr lo∈a :: S:=(hm _).2 (.inr (.inr ⟨l,hl,by rw[he];exact List.mem_cons_self⟩))
   have m2:min l.un (hi+1)∈a :: S:=(hm _).2 (.inr (.inr ⟨l,hl,by rw[he];exact List.mem_cons_of_mem _ List.mem_cons_self⟩))
   have g1:=hgap _ m1
   have g2:=hgap _ m2
   constructor
   ·rintro⟨k1,k2⟩
    have:=g1 (by omega)
    omega
   ·rintro⟨k1,k2⟩
    refine⟨by omega,?_⟩
    by_cases h:d < l.un
    ·exact h
    ·have:=g2 (by omega)
     omega
  ·constructor <;> (rintro⟨k1,k2⟩;omega)
 ·have hf:∀ (p q:Bool),(decide (0<=l.fr) && decide (l.fr<=l.un) && decide (l.un<=4001) && p && q)=false:=fun p q=>by
   cases h:(decide (0<=l.fr) && decide (l.fr<=l.un) && decide (l.un<=4001))
   ·rfl
   ·simp only[Bool.and_eq_true,decide_eq_true_eq] at h
    exact absurd ⟨h.1.1,h.1.2,h.2⟩ hr
  rw[hf,hf]
theorem day_same {lo hi:Int} {L:List LotV} {W:List WantV} {P:List (List UInt8×Int)} {S:List Int} {a:Int} (hs:(a :: S).Pairwise (· < ·)) (hm:∀ x,x∈a :: S↔x=lo∨x=hi+1∨∃ l∈L,x∈endsOf lo hi l) (hlo:0<=lo/\lo<=hi) (hhi:hi<=4000) :
  jumpD (hadB L W P) (a :: S)=scanD (hadB L W P) (hi+1 - lo).toNat lo:=by
 have hrange:∀ x∈a :: S,lo<=x/\x<=hi+1:=fun x hx=>by
  rcases (hm x).1 hx with h | h | ⟨k,-,h⟩
  ·omega
  ·omega
  ·unfold endsOf at h
   split at h
   ·rcases List.mem_cons.1 h with h | h
    ·omega
    ·have:=List.mem_singleton.1 h
     omega
   ·cases h
 have ha:a=lo:=by
  have h1:=hrange a List.mem_cons_self
  have h2:lo∈a :: S:=(hm lo).2 (.inl rfl)
  rcases List.mem_cons.1 h2 with h | h
  ·exact h.symm
  ·have:=(List.pairwise_cons.1 hs).1 lo h
   omega
 have hz:(a :: S).getLast? = some (hi+1):=by
  obtain⟨z,hz⟩:∃ z,(a :: S).getLast? = some z:=⟨_,List.getLast?_eq_some_getLast (List.cons_ne_nil _ _)⟩
  have h1:=hrange z (List.mem_of_getLast? hz)
  have h2:hi+1∈a :: S:=(hm _).2 (.inr (.inl rfl))
  rw[hz]
  congr 1
  -- the last one is the greatest
  obtain⟨A,hA⟩:=List.getLast?_eq_some_iff.1 hz
  rw[hA] at h2 hs
  rcases List.mem_append.1 h2 with h | h
  ·have:=(List.pairwise_append.1 hs).2.2 _ h z List.mem_cons_self
   omega
  ·exact (List.mem_singleton.1 h).symm
 have hal:=ends_alike hs hm hlo hhi
 rw[jump_scan S a (hi+1) hs hz fun i hi' d h1 h2=>?_,ha]
 have hi0:(a :: S).getD i 0∈a :: S:=by
  rw[List.getD_eq_getElem?_getD,List.getElem?_eq_getElem (by simp;omega)];exact List.getElem_mem _
 have hi1:(a :: S).getD (i+1) 0∈a :: S:=by
  rw[List.getD_eq_getElem?_getD,List.getElem?_eq_getElem (by simp;omega)];exact List.getElem_mem _
 have r0:=hrange _ hi0
 have r1:=hrange _ hi1
 exact had_same (by omega) (by omega) (hal i hi' d h1 h2)
end Go.Proofs.YtgplnekpgdhcpaaGreat
namespace Go.Proofs.YtgplnekpgdhcpaaGreat
open Go.RowKit Go.Sort
theorem intE_under:Tryz.prog.underlying 119=some (.slice 3):=Tryz.underlying119
theorem intE_info:(Tryz.prog.info? 3).map (fun i=>(i.zero,i.size,i.bytes))=some (some (.int .i64 0),1,8):=by kernel_rfl
def intE:El Int where
 e:=3
 t:=119
 k:=1
 bytes:=8
 z:=.int .i64 0
 enc:=fun x=>[.int .i64 x]
 ok:=fun x=>-9223372036854775808<=x/\x<=9223372036854775807
 len:=fun _=>rfl
 one:=fun x u hu=>by
  simp only[List.mem_cons,List.not_mem_nil,or_false] at hu
  subst hu
  rfl
 kpos:=by decide
 under:=intE_under
 info:=intE_info
 zc:=rfl
 small:=by decide
theorem intE_cells (X:List Int):intE.cells X=X.map (Value.int .i64):=by
 induction X with
 | nil=>rfl
 | cons x X ih =>
  show [Value.int .i64 x] ++ intE.cells X=_
  rw[ih]
  rfl
theorem intE_row {base g n c:Nat} {w:World} {X:List Int} (h:intE.Own base w (.slice (some ⟨g,0,none⟩) n c) X):w.ownsRow base 3 1 (.slice (some ⟨g,0,none⟩) n c) n (X.map (Value.int .i64)):=by
 obtain⟨hn,-⟩:=h.cell
 subst hn
 have h1:w.ownsRow base 3 1 (.slice (some ⟨g,0,none⟩) X.length c) X.length (intE.cells X):=h
 rwa [intE_cells] at h1
theorem intE_own {base g n c:Nat} {w:World} {X:List Int} (hn:n=X.length) (h:w.ownsRow base 3 1 (.slice (some ⟨g,0,none⟩) n c) n (X.map (Value.int .i64))):intE.Own base w (.slice (some ⟨g,0,none⟩) n c) X:=by
 subst hn
 show w.ownsRow base 3 1 (.slice (some ⟨g,0,none⟩) X.length c) X.length (intE.cells X)
 rwa [intE_cells]
theorem wpList_appendY {α:Type} [Inhabited α] {w:World} {ops:Array Oper} {rest:List Oper} {o:Oper} {a:Act} {K:Exit->Act->World->Prop} (E:El α) (hgd:o.guard=none) (s x:Operand)
  (ho:o.op = .call { callee:=.builtin .append,args:=#[s,x],argTypes:=#[E.t,E.t] }) (base:Nat) (v:Value) (X Y:List α) (m k:Nat) (hm:m=X.length+k) (hY:k=Y.length) (hs:a.eval s=v) (h:E.Own base w v X) (ad:Addr) (c:Nat)
  (hx:a.eval x = .slice (some ad) k c) (hsrc:∀ j u,(E.cells Y)[j]? = some u->w.cell? (ad.add j)=some u) (hY0:0 < k) (hbase:base<=w.heap.size) (hl:X.length+Y.length<=1000000000)
  (hK:∀ g cap w',(m<=cap/\cap<=9223372036854775807)->E.Own base w' (.slice (some ⟨g,0,none⟩) m cap) (X ++ Y)->w.grownBy w' v.ownBlock->(v.ownBlock=some g∨g=w.heap.size)->wpList Tryz.prog ops K rest (a.put o.dst (.slice (some ⟨g,0,none⟩) m cap)) w'):wpList Tryz.prog ops K (o :: rest) a w:=by
 subst hm
 subst hY
 obtain⟨g,cap,w',hr,h1,h2,h3,h4⟩:=El.run_append h o.type (some ad) c ⟨ad,rfl,hsrc⟩ hY0 hbase hl
 refine wpList_plain hgd fun K' hK'=>?_
 unfold Oper.wp execOp
 simp only[ho,resolve,invoke,builtin,Sem.run_bind,Sem.run_pure,Result.andThen_ok,List.map_toArray,List.map_cons,List.map_nil,hs,hx,hr]
 have hc:=h1.cell
 exact hK' _ _ (hK g cap w' ⟨hc.2.1,hc.2.2.1⟩ h1 h3 h4)
theorem lit_cells {α:Type} [Inhabited α] (E:El α) (W:World) (Y:List α) (cs:Array Value) (t:TypeId) (hcs:cs=(E.cells Y).toArray):∀ j u,(E.cells Y)[j]? = some u->(W.alloc (.cells cs t)).cell? ((⟨W.heap.size,0,none⟩:Addr).add j)=some u:=by
 intro j u hu
 have e:(⟨W.heap.size,0,none⟩:Addr).add j=⟨W.heap.size,0+j,none⟩:=by unfold Addr.add;split <;> simp_all
 rw[e]
 simp only[World.cell?,(Go.MapKept.heap_alloc W _).1]
 subst hcs
 simpa using hu
theorem compactUpTo_sorted {d:Array Int} (hs:∀ i j,i < j->j < d.size->d[i]!<=d[j]!):∀ m,m<=d.size->(Lib.compactUpTo d m).Pairwise (· < ·)/\(∀ x,x∈Lib.compactUpTo d m↔∃ j,j < m/\d[j]! = x)
 | 0,_=>⟨by simp[Lib.compactUpTo],fun x=>⟨fun h=>by simp[Lib.compactUpTo] at h,fun ⟨j,h,_⟩=>by omega⟩⟩
 | m+1,hm=>by
  obtain⟨h1,h2⟩:=compactUpTo_sorted hs m (by omega)
  rw[Lib.compactUpTo_succ]
  by_cases hk:Lib.keeps d m=true
  ·rw[if_pos hk]
   refine⟨List.pairwise_append.2 ⟨h1,List.pairwise_singleton _ _,fun x hx y hy=>?_⟩,fun x=>?_⟩
   ·obtain rfl:=List.mem_singleton.1 hy
    obtain⟨j,hj,rfl⟩:=(h2 x).1 hx
    unfold Lib.keeps at hk
    have hk2:=of_decide_eq_true hk
    rcases hk2 with hk2 | hk2
    ·omega
    ·have a1:d[j]!<=d[m - 1]!:=by
      by_cases e:j=m - 1
      ·rw[e];exact Int.le_refl _
      ·exact hs j (m - 1) (by omega) (by omega)
     have a2:=hs (m - 1) m (by omega) (by omega)
     have:d[m]!≠d[m - 1]!:=hk2
     omega
   ·rw[List.mem_append,h2,List.mem_singleton]
    constructor
    ·rintro (⟨j,hj,e⟩ | rfl)
     ·exact⟨j,by omega,e⟩
     ·exact⟨m,by omega,rfl⟩
    ·rintro⟨j,hj,e⟩
     by_cases hj2:j=m
     ·subst hj2;exact .inr e.symm
     ·exact .inl ⟨j,by omega,e⟩
  ·rw[if_neg hk,List.append_nil]
   refine⟨h1,fun x=>?_⟩
   rw[h2]
   constructor
   ·rintro⟨j,hj,e⟩
    exact⟨j,by omega,e⟩
   ·rintro⟨j,hj,e⟩
    by_cases hj2:j=m
    ·subst hj2
     unfold Lib.keeps at hk
     have hk2:¬ (j=0∨d[j]!≠d[j - 1]!):=fun h=>hk (decide_eq_true h)
     have hz:j≠0:=fun h=>hk2 (.inl h)
     have he:d[j]! = d[j - 1]!:=Classical.byContradiction fun h=>hk2 (.inr h)
     exact⟨j - 1,by omega,he.symm.trans e⟩
    ·exact⟨j,by omega,e⟩
theorem compact_sorted (zs:List Int):(Lib.compact (zs.mergeSort fun x y=>decide (x<=y))).Pairwise (· < ·)/\∀ x,x∈Lib.compact (zs.mergeSort fun x y=>decide (x<=y))↔x∈zs:=by
 have hp:(zs.mergeSort fun x y=>decide (x<=y)).Pairwise fun a b=>decide (a<=b)=true:=List.pairwise_mergeSort (fun a b c h1 h2=>by simp only[decide_eq_true_eq] at *;omega) (fun a b=>by simp only[Bool.or_eq_true,decide_eq_true_eq];omega) zs
 obtain⟨S,hS⟩:∃ S,S=zs.mergeSort fun x y=>decide (x<=y):=⟨_,rfl⟩
 have hmem:∀ x,x∈S↔x∈zs:=fun x=>by rw[hS];exact List.mem_mergeSort
 rw[<- hS] at hp ⊢
 clear hS
 have hget:∀ i (h:i < S.length),S.toArray[i]! = S[i]:=fun i h=>by rw[getElem!_pos _ _ (by simpa using h)];rfl
 have:=compactUpTo_sorted (d:=S.toArray) (fun i j hij hj=>by
  have hj':j < S.length:=by simpa using hj
  rw[hget i (by omega),hget j hj']
  have:=List.pairwise_iff_getElem.1 hp i j (by omega) hj' hij
  simpa using this) S.length (by simp)
 refine⟨this.1,fun x=>?_⟩
 rw[<- hmem]
 refine (this.2 x).trans ⟨?_,fun h=>?_⟩
 ·rintro⟨j,hj,rfl⟩
  rw[hget j hj]
  exact List.getElem_mem hj
 ·obtain⟨j,hj,rfl⟩:=List.mem_iff_getElem.1 h
  exact⟨j,hj,hget j hj⟩
theorem endsOf_eq (lo hi:Int) (l:LotV):endsOf lo hi l=if meetB l.fr l.un lo (hi+1)=true then [max l.fr lo,min l.un (hi+1)] else []:=by
 unfold endsOf meetB winB
 by_cases h:0<=l.fr/\l.fr<=l.un/\l.un<=4001/\max l.fr lo < min l.un (hi+1)
 ·rw[if_pos h]
  obtain⟨h1,h2,h3,h4⟩:=h
  rw[decide_eq_true h1,decide_eq_true h2,decide_eq_true h3,decide_eq_true h4]
  rfl
 ·rw[if_neg h,if_neg]
  simp only[Bool.and_eq_true,decide_eq_true_eq]
  rintro⟨⟨⟨h1,h2⟩,h3⟩,h4⟩
  exact h ⟨h1,h2,h3,h4⟩
theorem own_frozenI {α:Type} [Inhabited α] {E:El α} {base g n c:Nat} {w:World} {Y:List α} (h:E.Own base w (.slice (some ⟨g,0,none⟩) n c) Y) (t:Nat):w.frozen? ⟨g,t,none⟩=false:=by
 obtain⟨hx,-⟩:=h.cell
 subst hx
 exact World.ownsRow.frozenAt h t
theorem size_setCellI (w:World) (p k:Nat) (v:Value):(w.setCell ⟨p,k,none⟩ v).heap.size=w.heap.size:=by
 rw[setCell_eq];simp[mapBlock]
theorem below_setsI {B:Nat} {w:World} (g:Nat):∀ (vs:List Value) (o:Nat) {w':World} (_:Below B w w') (_:B<=g),Below B w (w'.setCells g o vs)
 | [],_,_,h,_=>h
 | v :: vs,o,_,h,hg=>below_setsI g vs (o+1) (below_set h g o v hg) hg
structure EI (w wr:World) (g m c:Nat) (X:List Int):Prop where
 own:intE.Own w.heap.size wr (.slice (some ⟨g,0,none⟩) m c) X
 ne:g≠w.heap.size+1
 box:wr.heap[w.heap.size+1]? = some (.cells #[.slice (some ⟨g,0,none⟩) m c] 119)
 below:Below w.heap.size w wr
theorem EI.keep {w wr w':World} {g m c:Nat} {X:List Int} (h:EI w wr g m c X) (hb:Below wr.heap.size wr w'):EI w w' g m c X :=
 ⟨h.own.below hb,h.ne,(hb.block _ (Array.getElem?_eq_some_iff.1 h.box).1).trans h.box,h.below.trans (hb.mono h.below.size)⟩
theorem EI.cells {w wr:World} {g m c:Nat} {X:List Int} (h:EI w wr g m c X):wr.cell? ⟨w.heap.size+1,0,none⟩=some (.slice (some ⟨g,0,none⟩) m c)/\wr.frozen? ⟨w.heap.size+1,0,none⟩=false/\m=X.length/\m<=c/\c<=9223372036854775807:=by
 refine⟨by unfold World.cell?;rw[h.box];rfl,by unfold World.frozen?;rw[h.box];simp,?_⟩
 obtain⟨h1,h2,h3,-⟩:=h.own.cell
 exact⟨h1,h2,h3⟩
theorem EI.grow {w wr w':World} {g m c g2 m2 c2:Nat} {X Y:List Int} (h:EI w wr g m c X) (hg:wr.grownBy w' (some g)) (ho:intE.Own w.heap.size w' (.slice (some ⟨g2,0,none⟩) m2 c2) Y) (hr:some g=some g2∨g2=wr.heap.size) :
  w'.cell? ⟨w.heap.size+1,0,none⟩=some (.slice (some ⟨g,0,none⟩) m c)/\w'.frozen? ⟨w.heap.size+1,0,none⟩=false/\EI w (w'.setCell ⟨w.heap.size+1,0,none⟩ (.slice (some ⟨g2,0,none⟩) m2 c2)) g2 m2 c2 Y:=by
 have hlt:=(Array.getElem?_eq_some_iff.1 h.box).1
 have hge:=h.own.cell.2.2.2.1
 have hb:Below w.heap.size w w':=h.below.grown hg h.below.size (fun k e=>by cases e;exact hge)
 obtain⟨k1,k2,k3,k4,k5⟩:=hg
 have hbox:w'.heap[w.heap.size+1]? = some (.cells #[.slice (some ⟨g,0,none⟩) m c] 119):=by
  rw[k5 _ hlt (fun e=>h.ne (by cases e;rfl))]
  exact h.box
 have hne2:g2≠w.heap.size+1:=by
  rcases hr with hr | hr
  ·cases hr;exact h.ne
  ·omega
 refine⟨by unfold World.cell?;rw[hbox];rfl,by unfold World.frozen?;rw[hbox];simp,⟨ho.keep fun b e=>?_,hne2,?_,below_set hb _ _ _ (by omega)⟩⟩
 ·cases e
  exact setCell_block _ _ _ _ (by omega)
 ·rw[heap_setCell_same _ _ 0 _ _ _ hbox]
  rfl
theorem EI.start (w:World) (x y:Int):EI w ((w.alloc (.cells #[.int .i64 x,.int .i64 y] 3)).alloc (.cells #[.slice (some ⟨w.heap.size,0,none⟩) 2 2] 119)) w.heap.size 2 2 [x,y]:=by
 have h0:intE.Own w.heap.size (w.alloc (.cells #[.int .i64 x,.int .i64 y] 3)) (.slice (some ⟨w.heap.size,0,none⟩) 2 2) [x,y]:=El.Own.lit (E:=intE) w [x,y] _ rfl (Nat.le_refl _) (by simp)
 have b0:Below w.heap.size w (w.alloc (.cells #[.int .i64 x,.int .i64 y] 3)):=(Below.refl _ w).alloc (Nat.le_refl _) _
 obtain⟨A,hA⟩:∃ A,A=w.alloc (.cells #[.int .i64 x,.int .i64 y] 3):=⟨_,rfl⟩
 have hs:A.heap.size=w.heap.size+1:=by rw[hA,World.size_alloc]
 rw[<- hA] at h0 b0 ⊢
 have b1:Below A.heap.size A (A.alloc (.cells #[.slice (some ⟨w.heap.size,0,none⟩) 2 2] 119)):=(Below.refl _ A).alloc (Nat.le_refl _) _
 have e1:=heap_alloc_new A (.cells #[.slice (some ⟨w.heap.size,0,none⟩) 2 2] 119)
 rw[hs] at e1
 exact⟨h0.below b1,by omega,e1,b0.trans (b1.mono b0.size)⟩
theorem EI.sorted {w wr w5:World} {g m c:Nat} {X:List Int} {d:Array Int} (h:EI w wr g m c X) (hs:SW (Value.int .i64) wr g 0 d w5) (hd:d.size=m):EI w w5 g m c d.toList:=by
 obtain⟨h1,h2⟩:=own_sorted1 (intE_row h.own) hs hd
 have hge:=h.own.cell.2.2.2.1
 exact⟨intE_own (by rw[Array.length_toList,hd]) h1,h.ne,(h2.block _ (fun e=>h.ne e.symm) (Array.getElem?_eq_some_iff.1 h.box).1).trans h.box,below_only h.below h2 (Nat.le_refl _) hge⟩
theorem EI.at_ {w wr:World} {g m c:Nat} {X:List Int} (h:EI w wr g m c X):(∀ j,j < X.length->wr.cell? ⟨g,0+j,none⟩=some (.int .i64 (X.getD j 0)))/\(∀ j,j < m->wr.frozen? ⟨g,0+j,none⟩=false):=by
 obtain⟨hn,-,-,-,-,hc⟩:=h.own.cell
 refine⟨fun j hj=>?_,fun j _=>own_frozenI h.own _⟩
 have:=hc j (by omega) 0 (by decide)
 rw[Nat.zero_add]
 rw[show intE.k=1 from rfl,Nat.mul_one,Nat.add_zero] at this
 exact this
theorem compact_length_leI (zs:List Int):(Lib.compact zs).length<=zs.length:=by
 unfold Lib.compact Lib.compactUpTo
 rw[List.length_map]
 exact Nat.le_trans (List.length_filter_le _ _) (by simp)
theorem EI.compacted {w w5 w6:World} {g m c:Nat} {S D:List Int} (h:EI w w5 g m c S) (q:Nat) (hD:D.length<=m) (hw:w6=(w5.drewN q).setCells g 0 ((D ++ List.replicate (m - D.length) 0).map (Value.int .i64))) (v:Value) :
  w6.cell? ⟨w.heap.size+1,0,none⟩=some (.slice (some ⟨g,0,none⟩) m c)/\w6.frozen? ⟨w.heap.size+1,0,none⟩=false/\(∀ i,i < D.length->(w6.setCell ⟨w.heap.size+1,0,none⟩ v).cell? ⟨g,i,none⟩=some (.int .i64 (D.getD i 0)))/\(w6.setCell ⟨w.heap.size+1,0,none⟩ v).cell? ⟨w.heap.size+1,0,none⟩=some v/\Below w.heap.size w (w6.setCell ⟨w.heap.size+1,0,none⟩ v)/\w.heap.size<=g/\g < (w6.setCell ⟨w.heap.size+1,0,none⟩ v).heap.size/\w.heap.size+1 < (w6.setCell ⟨w.heap.size+1,0,none⟩ v).heap.size:=by
 obtain⟨hn,hle,hmx,hge,hlt,hc⟩:=h.own.cell
 obtain⟨hcl,-⟩:=h.at_
 have hbs:=(Array.getElem?_eq_some_iff.1 h.box).1
 have hbox:w6.heap[w.heap.size+1]? = some (.cells #[.slice (some ⟨g,0,none⟩) m c] 119):=by
  rw[hw,World.heap_setCells_other _ _ _ _ (by exact hbs) (fun e=>h.ne e.symm)]
  exact h.box
 have hsz:w6.heap.size=w5.heap.size:=by rw[hw,size_setCells];rfl
 have hbel:Below w.heap.size w w6:=by
  have h1:Below w.heap.size w (w5.drewN q):=h.below.trans ⟨rfl,rfl,rfl,Nat.le_refl _,fun _ _=>rfl⟩
  rw[hw]
  exact below_setsI g _ 0 h1 hge
 refine⟨by unfold World.cell?;rw[hbox];rfl,by unfold World.frozen?;rw[hbox];simp,fun i hi=>?_,?_,below_set hbel _ _ _ (by omega),hge,?_,?_⟩
 ·have e1:(w6.setCell ⟨w.heap.size+1,0,none⟩ v).cell? ⟨g,i,none⟩=w6.cell? ⟨g,i,none⟩:=World.cell?_of_block (setCell_block _ _ _ _ h.ne)
  rw[e1,hw]
  have h2:=World.cell?_setCells_in g ((D ++ List.replicate (m - D.length) 0).map (Value.int .i64)) 0 (w5.drewN q) (fun j hj=>by
   rw[List.length_map,List.length_append,List.length_replicate] at hj
   have:=hcl j (by omega)
   show (w5.cell? ⟨g,0+j,none⟩).isSome=true
   rw[this]
   rfl) i (by rw[List.length_map,List.length_append];omega)
  rw[Nat.zero_add] at h2
  rw[h2]
  simp[List.getD_eq_getElem?_getD,hi]
 ·unfold World.cell?
  rw[heap_setCell_same _ _ 0 _ _ _ hbox]
  rfl
 ·rw[size_setCellI,hsz];exact hlt
 ·rw[size_setCellI,hsz];exact hbs
theorem flatEnds_succ (lo hi:Int) {L:List LotV} {j:Nat} (hj:j < L.length):(L.take (j+1)).flatMap (endsOf lo hi)=(L.take j).flatMap (endsOf lo hi) ++ endsOf lo hi (L.getD j default):=by
 rw[List.take_succ_eq_append_getElem hj,List.flatMap_append,List.getD_eq_getElem?_getD,List.getElem?_eq_getElem hj]
 simp
theorem flatEnds_len (lo hi:Int):∀ L:List LotV,(L.flatMap (endsOf lo hi)).length<=2 * L.length
 | []=>by simp
 | l :: L=>by
  have:=flatEnds_len lo hi L
  have h2:(endsOf lo hi l).length<=2:=by unfold endsOf;split <;> simp
  rw[List.flatMap_cons,List.length_append,List.length_cons]
  omega
end Go.Proofs.YtgplnekpgdhcpaaGreat
