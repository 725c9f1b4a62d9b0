/- least.Day: what its loop finds is what one finds day by day. (Plain.) What is promised: to one line, to all lines anew; the document's way and the program's come to the same. (Plain.) append to a slice of the call's own, as far as the language lets a slice grow. (Printed by gen/txw.py.) slices.Grow from nothing and slices.Concat at texts: walks. slices.IndexFunc at api.Item: walks. (Printed by gen/idxit.py.) swap.Row: its walk. What a line may be. (Plain; printed by gen/rright.py.) -/
import Derived.Test.YtgplnekpgdhcpaaGreatQSpansI
import Derived.Test.YtgplnekpgdhcpaaGreatQInt
import Derived.Test.YtgplnekpgdhcpaaGreatTxA
import Derived.Deep.DeepAppendWide
import Derived.Test.YtgplnekpgdhcpaaGreatQMeet
import Derived.Lib.AppendZerosOnto
import Derived.Lib.Walk
import Derived.Lib.SliceRun
import Derived.Test.YtgplnekpgdhcpaaGreatQFillQ
import Derived.Shelf.SlLaysF0
import Derived.Deep.RegionHeld3
import Derived.Test.YtgplnekpgdhcpaaGreatQFill
namespace Go.Proofs.YtgplnekpgdhcpaaGreat
open Go.RowKit Go.Sort Go.Shelf
def dayOf (X:List ((Int×Int)×Bool)):Option Int:=(X.find? fun e=>e.2).map fun e=>e.1.1
theorem dayOf_none {X:List ((Int×Int)×Bool)} (h:∀ e∈X,e.2=false):dayOf X=none:=by
 unfold dayOf
 rw[List.find?_eq_none.2 (fun e he=>by simp[h e he])]
 rfl
theorem dayOf_some {X pre:List ((Int×Int)×Bool)} {d x:Int} (hp:pre ++ [((d,x),true)] <+: X) (h:∀ e∈pre,e.2=false):dayOf X=some d:=by
 obtain⟨R,rfl⟩:=hp
 unfold dayOf
 rw[List.append_assoc,List.find?_append,List.find?_eq_none.2 (fun e he=>by simp[h e he])]
 rfl
theorem dayOf_jump (had:Int->Bool):∀ D:List Int,dayOf ((pairsI D).map fun p=>(p,had p.1))=jumpD had D
 | a :: b :: r=>by
  have ih:=dayOf_jump had (b :: r)
  unfold dayOf at *
  rw[pairsI,List.map_cons,jumpD]
  cases ha:had a with
  | true=>simp
  | false =>
   simp only[List.find?_cons,Bool.false_eq_true,if_false]
   exact ih
 | [_]=>rfl
 | []=>rfl
theorem dayOf_spans (L:List LotV) (W:List WantV) (P:List Pt) (lo hi:Int):dayOf (spansL L W P lo hi)=if max lo 0<=min hi 4000 then scanD (hadB L W P) (min hi 4000+1 - max lo 0).toNat (max lo 0) else none:=by
 unfold spansL
 by_cases h:max lo 0<=min hi 4000
 ·rw[if_pos h,if_pos h,dayOf_jump]
  obtain⟨h1,h2,-⟩:=spanD_facts (L:=L) (lo:=max lo 0) (hi:=min hi 4000) (by omega) h (by omega)
  obtain⟨h3,-⟩:=spanD_len L (max lo 0) (min hi 4000)
  generalize spanD L (max lo 0) (min hi 4000)=D at h1 h2 h3 ⊢
  cases D with
  | nil=>simp at h3
  | cons a S=>exact day_same h1 h2 ⟨by omega,h⟩ (by omega)
 ·rw[if_neg h,if_neg h]
  rfl
end Go.Proofs.YtgplnekpgdhcpaaGreat
namespace Go.Proofs.YtgplnekpgdhcpaaGreat
open Go.RowKit
theorem mayB_perm {L:List LotV} {W V:List WantV} (hp:W.Perm V):mayB L W=mayB L V:=by
 unfold mayB
 rw[hp.length_eq,hp.all_eq]
theorem hadB_perm {L:List LotV} {W V:List WantV} (hp:W.Perm V) (P:List (List UInt8×Int)) (d:Int):hadB L W P d=hadB L V P d:=by
 have hq:(W ++ moreW d P).Perm (V ++ moreW d P):=hp.append_right _
 unfold hadB
 rw[Bool.eq_iff_iff,fillX_iff,fillX_iff,mayB_perm hq]
 exact⟨fun h=>⟨h.1,h.2.perm hq⟩,fun h=>⟨h.1,h.2.perm hq.symm⟩⟩
def dayX (L:List LotV) (W:List WantV) (P:List (List UInt8×Int)) (from_ to_:Int):Option Int:=scanD (hadB L W P) (min to_ 4000+1 - max from_ 0).toNat (max from_ 0)
theorem dayX_perm {L:List LotV} {W V:List WantV} (hp:W.Perm V) (P:List (List UInt8×Int)) (a b:Int):dayX L W P a b=dayX L V P a b:=by
 unfold dayX
 rw[show hadB L W P=hadB L V P from funext fun d=>hadB_perm hp P d]
section
variable (parts:List UInt8->Int->Option (List (List UInt8×Int))) (row:List UInt8->List (List UInt8)) (right:LineV->Bool) (L:List LotV) (now:Int)
def wantsL (l:LineV):List WantV:=if l.st=1/\0<=l.day then (match parts l.code l.qty with | some P=>moreW l.day P | none=>[]) else []
def wantsN (N:List LineV):List WantV:=N.flatMap (wantsL parts)
def promC (W:List WantV) (l:LineV):List (List UInt8)->LineV
 | []=>{ l with day:=-1,code:=[] }
 | c :: cs=>match parts c l.qty with
  | none=>promC W l cs
  | some P=>match dayX L W P (max l.asked now) (min (now+400) 4000) with
   | some d=>{ l with day:=d,code:=c }
   | none=>promC W l cs
def promL (W:List WantV) (l:LineV):LineV:=promC parts L now W l (row l.item)
def nowOk:Bool:=decide (0<=now) && decide (now<=4000)
def oneX (N:List LineV) (l:LineV):LineV:=if nowOk now=true/\right l=true/\l.st=1 then promL parts row L now (wantsN parts (N.filter fun x=>decide (x.id≠l.id))) l else l
theorem promC_perm {W V:List WantV} (hp:W.Perm V) (l:LineV):∀ cs,promC parts L now W l cs=promC parts L now V l cs
 | []=>rfl
 | c :: cs=>by
  simp only[promC]
  rw[promC_perm hp l cs]
  cases parts c l.qty with
  | none=>rfl
  | some P=>simp only[dayX_perm hp]
theorem promC_form (W:List WantV) (l:LineV):∀ cs,∃ d c,promC parts L now W l cs = { l with day:=d,code:=c }
 | []=>⟨-1,[],rfl⟩
 | c :: cs=>by
  obtain⟨d,k,h⟩:=promC_form W l cs
  simp only[promC]
  cases parts c l.qty with
  | none=>exact⟨d,k,h⟩
  | some P =>
   cases hd:dayX L W P (max l.asked now) (min (now+400) 4000) with
   | none=>simp only[hd];exact⟨d,k,h⟩
   | some x=>simp only[hd];exact⟨x,c,rfl⟩
def leK (a b:LineV):Bool:=decide (a.rank < b.rank) || (decide (a.rank=b.rank) && decide (a.id<=b.id))
theorem leK_trans (a b c:LineV) (h:leK a b=true) (h2:leK b c=true):leK a c=true:=by
 unfold leK at *
 simp only[Bool.or_eq_true,Bool.and_eq_true,decide_eq_true_eq] at *
 omega
theorem leK_total (a b:LineV):(leK a b || leK b a)=true:=by
 unfold leK
 simp only[Bool.or_eq_true,Bool.and_eq_true,decide_eq_true_eq]
 omega
def openX (N:List LineV):List LineV:=(N.filter fun l=>decide (l.st=1)).mergeSort leK
def allF:List LineV->List LineV×List WantV->List LineV×List WantV
 | [],s=>s
 | l :: R,(out,W)=>allF R ((out.map fun x=>if x.id=l.id then promL parts row L now W l else x),W ++ wantsL parts (promL parts row L now W l))
def idsN (N:List LineV):Bool:=decide ((N.map (·.id)).Nodup)
def allX (N:List LineV):List LineV:=if nowOk now=true/\idsN N=true/\N.all right=true then (allF parts row L now (openX N) (N,[])).1 else []
end
theorem openX_only {N S:List LineV} (hd:(N.map (·.id)).Nodup) (hp:S.Perm (N.filter fun l=>decide (l.st=1))) (hs:S.Pairwise fun a b=>leK a b=true):S=openX N:=by
 refine List.Perm.eq_of_pairwise (le:=fun a b=>leK a b=true) (fun a b ha hb h1 h2=>?_) hs (List.pairwise_mergeSort leK_trans leK_total _) (hp.trans (List.mergeSort_perm _ _).symm)
 have hid:a.id=b.id:=by
  unfold leK at h1 h2
  simp only[Bool.or_eq_true,Bool.and_eq_true,decide_eq_true_eq] at h1 h2
  omega
 have ha':a∈N:=(List.mem_filter.1 (hp.mem_iff.1 ha)).1
 have hb':b∈N:=(List.mem_filter.1 ((List.mergeSort_perm _ _).mem_iff.1 hb)).1
 obtain⟨i,hi1,rfl⟩:=List.getElem_of_mem ha'
 obtain⟨j,hj1,rfl⟩:=List.getElem_of_mem hb'
 have:=(List.getElem?_inj (i:=i) (j:=j) (by simpa using hi1) hd).1 (by simp[hi1,hj1,hid])
 subst this
 rfl
section
variable {parts:List UInt8->Int->Option (List (List UInt8×Int))} {row:List UInt8->List (List UInt8)} {right:LineV->Bool} {L:List LotV} {now:Int}
end
end Go.Proofs.YtgplnekpgdhcpaaGreat
namespace Go.Proofs.YtgplnekpgdhcpaaGreat.Tx
open Go.RowKit
theorem append_keepCW {P:Program} {w:World} {base n m cs:Nat} {v:Value} {X Q:List Value} (t ty e:TypeId) (i0:TypeInfo) (z:Value) (hu:P.underlying t=some (.slice e)) (hi:P.info? e=some i0) (hz0:i0.zero=some z) (hz1:i0.size=cs) (hzc:z.cells.size=cs)
  (h:w.ownsRow base e cs v n X) (sa:Option Addr) (c:Nat) (hsrc:∃ ad,sa=some ad/\∀ j u,Q[j]? = some u->w.cell? (ad.add j)=some u) (hone:∀ u∈Q,u.oneCell'=true)
  (hQ:Q.length=m * cs) (hm:0 < m) (hbase:base<=w.heap.size) (hsize:((n+m)+(n+m) / 4+192) * i0.bytes<=281474976710656) (hcnt:n+m<=140737488355328) :
  ∃ g cap w',(Builtin.append_ #[t,t] ty #[v,.slice sa m c]).run P w = .ok (.slice (some ⟨g,0,none⟩) (n+m) cap) w'/\w'.ownsRow base e cs (.slice (some ⟨g,0,none⟩) (n+m) cap) (n+m) (X ++ Q)/\w'.ownsRow base e cs v n X /\
   w.grownBy w' v.ownBlock/\(v.ownBlock=some g∨g=w.heap.size):=by
 obtain⟨ad,rfl,hcell⟩:=hsrc
 have hlX:=h.1
 have hnews:Q.length=m * i0.size:=by rw[hz1];exact hQ
 have hall:(X ++ Q).length=(n+m) * cs:=by rw[List.length_append,hlX,hQ,Nat.add_mul]
 have grown:∀ old,old < n+m->(w.drew.alloc (.cells (X.toArray ++ Q.toArray ++ Builtin.zeroCells z.cells (grownCap w (n+m) old e - (n+m))) e)).ownsRow base e cs
   (.slice (some ⟨w.heap.size,0,none⟩) (n+m) (grownCap w (n+m) old e)) (n+m) (X ++ Q):=by
  intro old ho
  have hge:=grownCap_ge w (n+m) old e
  have hcm:grownCap w (n+m) old e<=maxLen:=grownCap_le_maxLen w (n+m) old e (by simp only[maxLen];omega)
  refine⟨hall,.inr ⟨w.heap.size,_,_,rfl,hbase,heap_alloc_new w.drew _,hge,hcm,?_,?_⟩⟩
  ·simp only[Array.size_append,List.size_toArray,size_zeroCells,hzc,hlX,hQ]
   rw[<- Nat.add_mul,<- Nat.add_mul]
   congr 1
   omega
  ·simp only[Array.toList_append]
   rw[<- hall]
   exact List.take_left
 have hkeep:∀ o,(w.drew.alloc o).ownsRow base e cs v n X:=fun o=>rows_below h ((Below.refl _ w).drew.alloc (Nat.le_refl _) o)
 have hgrw:∀ o row,w.grownBy (w.drew.alloc o) row:=fun o row=>⟨rfl,rfl,rfl,by simp,fun k hk _=>((Below.refl w.heap.size w).drew.alloc (Nat.le_refl _) o).block k hk⟩
 obtain⟨h1,⟨rfl,h0⟩ | ⟨g,cap,cur,rfl,hg,hh,hle,hcap,hcs,htk⟩⟩:=id h
 ·subst h0
  have hX:X=[]:=List.eq_nil_of_length_eq_zero (by rw[h1];simp)
  subst hX
  have hr:=run_append_nil (P:=P) w t ty e i0 _ hu hi hz0 ad m c Q hnews hcell hm (by omega) (Nat.le_trans (Nat.mul_le_mul_right _ (by omega)) hsize)
  have hgr:=grown 0 (by omega)
  simp only[Nat.zero_add,List.nil_append,Array.empty_append] at hgr ⊢
  exact⟨_,_,_,hr,hgr,World.ownsRow_nil _ _ _ _,hgrw _ _,.inr rfl⟩
 ·by_cases hroom:n+m<=cap
  ·have hfit:n * i0.size+Q.length<=cur.size:=by rw[hz1,hcs,hQ,<- Nat.add_mul];exact Nat.mul_le_mul_right _ hroom
   have hr:=run_append_room (P:=P) w t ty e i0 hu hi g n cap cur hh ad m c Q hnews hcell hone hroom hfit
   rw[hz1,htk] at hr
   have hnew:=setRow_heap w g cur (X ++ Q ++ cur.toList.drop (n * cs+Q.length)).toArray e (0,0) hh
   have hle2:n * cs+Q.length<=cap * cs:=by rw[hQ,<- Nat.add_mul];exact Nat.mul_le_mul_right _ hroom
   have hsz2:(X ++ Q ++ cur.toList.drop (n * cs+Q.length)).toArray.size=cap * cs:=by
    simp only[List.size_toArray,List.length_append,List.length_drop,Array.length_toList,hlX,hcs]
    omega
   refine⟨g,cap,_,hr,⟨hall,.inr ⟨g,cap,_,rfl,hg,hnew,hroom,hcap,hsz2,?_⟩⟩,⟨h1,.inr ⟨g,cap,_,rfl,hg,hnew,hle,hcap,hsz2,?_⟩⟩,⟨rfl,rfl,rfl,by simp,fun k _ hk=>setRow_other w g k _ (fun e=>hk (by simp[Value.ownBlock,e]))⟩,.inl rfl⟩
   ·rw[<- hall]
    exact List.take_left
   ·show (X ++ Q ++ _).take (n * cs)=X
    rw[List.append_assoc,<- hlX]
    exact List.take_left
  ·have holds:∀ j u,X[j]? = some u->w.cell? ((⟨g,0,none⟩:Addr).add j)=some u:=World.ownsRow.cells (g:=g) h rfl
   have hr:=run_append_grow (P:=P) w t ty e i0 _ hu hi hz0 ⟨g,0,none⟩ n cap X (by rw[hz1];exact hlX) holds ad m c Q hnews hcell (by omega) (by omega) (growslice_fits_wide (by omega) hsize)
   exact⟨_,_,_,hr,grown cap (by omega),hkeep _,hgrw _ _,.inr rfl⟩
end Go.Proofs.YtgplnekpgdhcpaaGreat.Tx
namespace Go.Proofs.YtgplnekpgdhcpaaGreat
open Go.RowKit Go.Lib
abbrev txMax:Nat:=10000000000000
set_option maxRecDepth 100000 in
set_option maxHeartbeats 2000000 in
theorem growTx_any (n:Nat) (w:World) (h0:0 < n) (hn:n<=txMax) :
  Calls Tryz.prog 125 #[.slice none 0 0,.int .i64 n] w fun e w'=>∃ a c,e = .returned (.slice a 0 c)/\txE.Own w.heap.size w' (.slice a 0 c) []/\Below w.heap.size w w':=by
 obtain⟨i0,hi,hz0,hz1,hz2⟩:=txE.info'
 have hb1:i0.bytes=16:=hz2
 have hs1:i0.size=1:=hz1
 unfold txMax at hn
 have hold:(Builtin.firstCells i0.size 0 (.slice none 0 0)).run Tryz.prog w.drew = .ok #[] w.drew:=run_firstCells_none w.drew i0.size 0 0 0
 have hrz:∀ ty,(Builtin.append_ #[43,3] ty #[.slice none 0 0,.int .i64 n]).run Tryz.prog w = .ok (.slice (some ⟨w.heap.size,0,none⟩) n (grownCap w n 0 9)) (w.drew.alloc (.cells (Builtin.zeroCells (Value.cells txE.z) n ++ Builtin.zeroCells (Value.cells txE.z) (grownCap w n 0 9 - n)) 9)):=fun ty=>by
  have h:=Lib.run_append_grow_zeros w 43 3 ty 9 i0 txE.z .i64 .i64 txE_under Tryz.underlying3 hi hz0 none 0 0 [] hold n h0 (by omega) (by omega) (by omega) (by rw[hb1];omega) (by rw[Nat.zero_add];exact growslice_fits_wide h0 (by rw[hb1];omega))
  simpa using h
 obtain⟨G,hG⟩:∃ G,G=grownCap w n 0 9:=⟨_,rfl⟩
 have hge:n<=G:=by rw[hG];exact grownCap_ge w _ _ _
 have hmx:G<=maxLen:=by rw[hG];exact grownCap_le_maxLen w n 0 _ (by unfold maxLen;omega)
 rw[<- hG] at hrz
 have HG:=Lib.hid hmx
 clear hold hG hmx
 obtain⟨cs,hcs⟩:∃ cs,cs=Builtin.zeroCells (Value.cells txE.z) n ++ Builtin.zeroCells (Value.cells txE.z) (G - n):=⟨_,rfl⟩
 have hsz:cs.size=G:=by
  rw[hcs,Array.size_append,size_zeroCells,size_zeroCells]
  have e:(Value.cells txE.z).size=1:=rfl
  rw[e]
  omega
 rw[<- hcs] at hrz
 have HS:=Lib.hid hsz
 clear hcs hsz
 go_enter Tryz.func125,Tryz.ntmps125
 go_wp2_with (at_builtin;refine Lib.wpList_append_run _ rfl _ _ _ _ rfl _ _ rfl rfl _ _ (hrz _) ?_)
 all_goals
  go_ret
  refine⟨_,_,rfl,⟨rfl,.inr ⟨w.heap.size,G,cs,rfl,Nat.le_refl _,heap_alloc_new w.drew _,Nat.zero_le _,HG.out,?_,by simp[El.cells]⟩⟩,((Below.refl _ _).drew).alloc (Nat.le_refl _) _⟩
  rw[HS.out]
  exact (Nat.mul_one _).symm
structure TV where
 a:Option Addr
 n:Nat
 c:Nat
 P:List (List UInt8)
instance:Inhabited TV:=⟨⟨none,0,0,[]⟩⟩
def flatT (V:List TV):List (List UInt8):=V.flatMap (·.P)
structure RTV (B:Nat) (w:World) (a:Option Addr) (n c:Nat) (V:List TV):Prop where
 len:n=V.length
 le:n<=c
 mx:c<=9223372036854775807
 at_:0 < c->∃ b o,a=some ⟨b,o,none⟩/\b < B/\∀ i,i < n->w.cell? ⟨b,o+i,none⟩=some (.slice (V.getD i default).a (V.getD i default).n (V.getD i default).c)
 each:∀ i,i < n->txE.In B w (V.getD i default).a (V.getD i default).n (V.getD i default).c (V.getD i default).P
theorem RTV.below {B:Nat} {w w':World} {a:Option Addr} {n c:Nat} {V:List TV} (h:RTV B w a n c V) (hb:Below B w w'):RTV B w' a n c V:=by
 refine⟨h.len,h.le,h.mx,fun hc=>?_,fun i hi=>(h.each i hi).below hb⟩
 obtain⟨b,o,e,hB,hcell⟩:=h.at_ hc
 exact⟨b,o,e,hB,fun i hi=>(hb.cell hB).trans (hcell i hi)⟩
theorem flatT_take {V:List TV} {i:Nat} (h:i < V.length):flatT (V.take (i+1))=flatT (V.take i) ++ (V.getD i default).P:=by
 unfold flatT
 rw[List.take_succ_eq_append_getElem h,List.flatMap_append,List.getD_eq_getElem?_getD,List.getElem?_eq_getElem h]
 simp
theorem flatT_le (V:List TV) (i:Nat):(flatT (V.take i)).length<=(flatT V).length:=by
 conv=>rhs;rw[<- List.take_append_drop i V]
 unfold flatT
 rw[List.flatMap_append,List.length_append]
 omega
theorem wpList_append_tx {w:World} {ops:Array Oper} {rest:List Oper} {o:Oper} {a:Act} {K:Exit->Act->World->Prop} (hgd:o.guard=none) (s x:Operand)
  (ho:o.op = .call { callee:=.builtin .append,args:=#[s,x],argTypes:=#[43,43] }) (base:Nat) (a0:Option Addr) (n c0:Nat) (X Y:List (List UInt8)) (m:Nat) (hm:m=Y.length) (hs:a.eval s = .slice a0 n c0) (h:txE.Own base w (.slice a0 n c0) X) (hn:n=X.length) (sa:Option Addr) (c:Nat)
  (hx:a.eval x = .slice sa m c) (hsrc:0 < Y.length->∃ ad,sa=some ad/\∀ j u,(txE.cells Y)[j]? = some u->w.cell? (ad.add j)=some u) (hbase:base<=w.heap.size) (hl:n+m<=txMax)
  (hK:∀ a' c' w',txE.Own base w' (.slice a' (n+m) c') (X ++ Y)->w.grownBy w' (Value.slice a0 n c0).ownBlock->wpList Tryz.prog ops K rest (a.put o.dst (.slice a' (n+m) c')) w'):wpList Tryz.prog ops K (o :: rest) a w:=by
 subst hm
 subst hn
 obtain⟨i0,hi,hz0,hz1,hz2⟩:=txE.info'
 by_cases h0:Y.length=0
 ·obtain rfl:Y=[]:=List.eq_nil_of_length_eq_zero h0
  have hle:X.length<=c0:=by
   obtain⟨a1,c1,e1,h1,-⟩:=h.form
   injection e1 with e1 e2 e3
   rw[e3];exact h1
  have hr:=run_append_nothing (P:=Tryz.prog) w txE.t o.type txE.e i0 txE.under hi a0 sa X.length c0 c hle
  refine wpList_plain hgd fun K' hK'=>?_
  unfold Oper.wp execOp
  simp only[List.length_nil] at hx
  simp only[show txE.t=43 from rfl] at hr
  simp only[ho,resolve,invoke,builtin,Sem.run_bind,Sem.run_pure,Result.andThen_ok,List.map_toArray,List.map_cons,List.map_nil,hs,hx,hr]
  exact hK' _ _ (hK a0 c0 w (by simpa using h) ⟨rfl,rfl,rfl,Nat.le_refl _,fun _ _ _=>rfl⟩)
 ·unfold txMax at hl
  obtain⟨g,cap,w',hr,h1,h2,h3,h4⟩:=Tx.append_keepCW (P:=Tryz.prog) (m:=Y.length) (cs:=1) (Q:=txE.cells Y) txE.t o.type txE.e i0 txE.z txE.under hi hz0 hz1 rfl h sa c (hsrc (by omega)) txE.cells_one (by rw[txE.cells_len];rfl) (by omega) hbase (by rw[hz2];show _ * 16<=_;omega) (by omega)
  refine wpList_plain hgd fun K' hK'=>?_
  unfold Oper.wp execOp
  simp only[show txE.t=43 from rfl] at hr
  simp only[ho,resolve,invoke,builtin,Sem.run_bind,Sem.run_pure,Result.andThen_ok,List.map_toArray,List.map_cons,List.map_nil,hs,hx,hr]
  refine hK' _ _ (hK _ cap w' ?_ h3)
  unfold El.Own
  rw[List.length_append,El.cells_append]
  exact h1
set_option maxHeartbeats 2000000 in
set_option maxRecDepth 100000 in
theorem ConcatTx_any (B:Nat) (a:Option Addr) (n c:Nat) (V:List TV) (w:World) (hl:RTV B w a n c V) (hB:B<=w.heap.size) (h0:0 < (flatT V).length) (htot:(flatT V).length<=txMax) :
  Calls Tryz.prog 90 #[.slice a n c] w fun e w'=>∃ a' c',e = .returned (.slice a' (flatT V).length c')/\txE.Own w.heap.size w' (.slice a' (flatT V).length c') (flatT V)/\Below w.heap.size w w':=by
 have hle:=hl.le;have hmx:=hl.mx
 have Hln:=Lib.hid hl.len
 have HR:=Lib.hid hl
 have hle2:=flatT_le V
 have Hle:=Lib.hid hle2
 have H0:=Lib.hid h0
 obtain⟨M,hM⟩:∃ M,M=txMax:=⟨_,rfl⟩
 have hMv:M<=4611686018427387904:=by rw[hM];decide
 rw[<- hM] at htot
 have HM:=Lib.hid hM
 clear hle2 hl h0 hM
 go_enter Tryz.func90,Tryz.ntmps90
 go_wp2_with (fail)
 go_loop [3,11] (fun s t=>∃ (i m:Nat),s = .int .i64 m/\t = .int .i64 i/\i<=n/\m<=M/\Hid (m=(flatT (V.take i)).length)) (fun _ t=>n - (intOf t).toNat)
 case atStart=>exact⟨0,0,rfl,rfl,by omega,by omega,Lib.hid (by simp[flatT])⟩
 case round =>
  obtain⟨i,m,rfl,rfl,hi,hm,ht⟩:=hrel
  by_cases hin:i < n
  ·obtain⟨b,o,rfl,hbB,hc⟩:=HR.out.at_ (by omega)
   have g:=hc i hin
   have hp:=HR.out.each i hin
   have hf:=flatT_take (V:=V) (i:=i) (by have:=Hln.out;omega)
   have hf2:=Hle.out (i+1)
   have hpl:=hp.len
   have hple:=hp.le
   have hpmx:=hp.mx
   clear hc hp
   generalize V.getD i default=p at g hf hpl hple hpmx
   obtain⟨pa,pn,pc,P⟩:=p
   simp only at g hpl hple hpmx
   have hm2:m+pn<=M:=by have:=ht.out;rw[hf,List.length_append] at hf2;simp only at hf2;omega
   have ht2:=Lib.hid (show m+pn=(flatT (V.take (i+1))).length by rw[hf,List.length_append,<- ht.out];simp only;omega)
   have hw1:=wrap_in (x:=(m:Int)+(pn:Int)) (by omega) (by omega)
   clear hf hf2 hpl
   go_wp2_with (fail)
   go_round
   case rel=>exact⟨i+1,m+pn,by simp,by simp,by omega,hm2,ht2⟩
   case measure=>simp[intOf];omega
  ·have ei:i=V.length:=by have:=Hln.out;omega
   have HMm:=Lib.hid (show m=(flatT V).length by rw[ht.out,ei,List.take_length])
   have hg:=fun w=>growTx_any m w (by rw[HMm.out];exact H0.out) (by rw[<- HM.out];exact hm)
   go_wp2_with (go_at_call 125;refine (hg _).mono ?_;rintro e w1 ⟨a1,c1,rfl,ho1,hb1⟩)
   have Ho1:=Lib.hid ho1
   have Hb1:=Lib.hid hb1
   clear ho1 hb1 hg ei
   go_loopw [6,27] (fun s t wr=>∃ (j:Nat) (a':Option Addr) (c':Nat),s = .slice a' (flatT (V.take j)).length c'/\t = .int .i64 j/\j<=n/\Hid (txE.Own w.heap.size wr (.slice a' (flatT (V.take j)).length c') (flatT (V.take j)))/\Hid (Below w.heap.size w wr)) (fun _ t _=>n - (intOf t).toNat)
   case atStart=>exact⟨0,a1,c1,by simp[flatT],rfl,by omega,by simpa [flatT] using Ho1,Hb1⟩
   case round =>
    obtain⟨j,a2,c2,rfl,rfl,hj,ho2,hb2⟩:=hrel
    by_cases hjn:j < n
    ·have hRw:=HR.out.below (hb2.out.mono hB)
     obtain⟨b,o,rfl,hbB,hc⟩:=hRw.at_ (by omega)
     have g:=hc j hjn
     have hp:=hRw.each j hjn
     have hf:=flatT_take (V:=V) (i:=j) (by have:=Hln.out;omega)
     have hf2:=Hle.out (j+1)
     have hpl:=hp.len
     have hple:=hp.le
     have hpmx:=hp.mx
     have HP:=Lib.hid hp
     clear hc hp hRw
     have hq0:=Hle.out j
     generalize V.getD j default=p at g hf hpl hple hpmx HP
     obtain⟨pa,pn,pc,P⟩:=p
     simp only at g hpl hple hpmx HP hf
     have hlen:(flatT (V.take j)).length+P.length<=M:=by rw[hf,List.length_append] at hf2;omega
     have Hf:=Lib.hid hf
     subst hpl
     generalize flatT (V.take j)=Q at Hf ho2 hlen
     clear hf hf2 hq0
     go_wp2_with (at_builtin;refine wpList_append_tx rfl _ _ rfl w.heap.size a2 Q.length c2 Q P _ rfl rfl ho2.out rfl pa pc rfl HP.out.src hb2.out.size (by rw[<- HM.out];exact hlen) ?_;intro a3 c3 w3 ho3 hg3)
     go_round
     case rel =>
      refine⟨j+1,a3,c3,?_,by simp,by omega,?_,Lib.hid (hb2.out.grown hg3 hb2.out.size (fun k hk=>(ho2.out.ge k hk).1))⟩
      ·rw[Hf.out,List.length_append]
      ·rw[Hf.out,List.length_append];exact Lib.hid ho3
     case measure=>simp[intOf];omega
    ·have ej:j=V.length:=by have:=Hln.out;omega
     have ef:flatT (V.take j)=flatT V:=by rw[ej,List.take_length]
     rw[ef] at ho2 ⊢
     go_wp2_with (fail)
     go_ret
     exact⟨a2,c2,rfl,ho2.out,hb2.out⟩
end Go.Proofs.YtgplnekpgdhcpaaGreat
namespace Go.Proofs.YtgplnekpgdhcpaaGreat
open Go.RowKit Go.Shelf
structure IxItem (P:Program):Prop where
 fI:P.funcs[54]? = some Tryz.f54
 t3:P.underlying 3=some (TypeDesc.int IntKind.i64)
 a3:∀ w,(isAgg 3).run P w = .ok false w
 z3:∀ w,(Go.sizeOf 3).run P w = .ok 1 w
 v3:∀ w,(zeroValue 3).run P w = .ok (Value.int IntKind.i64 0) w
 t4:P.underlying 4=some (TypeDesc.bool)
 a4:∀ w,(isAgg 4).run P w = .ok false w
 z4:∀ w,(Go.sizeOf 4).run P w = .ok 1 w
 v4:∀ w,(zeroValue 4).run P w = .ok (Value.bool false) w
 t22:P.underlying 22=some (TypeDesc.slice 87)
 a22:∀ w,(isAgg 22).run P w = .ok false w
 z22:∀ w,(Go.sizeOf 22).run P w = .ok 1 w
 v22:∀ w,(zeroValue 22).run P w = .ok (Value.slice none 0 0) w
 a25:∀ w,(isAgg 88).run P w = .ok false w
 z25:∀ w,(Go.sizeOf 88).run P w = .ok 1 w
 v25:∀ w,(zeroValue 88).run P w = .ok (Value.nilFunc) w
 aE:∀ w,(isAgg 87).run P w = .ok true w
 zE:∀ w,(Go.sizeOf 87).run P w = .ok 4 w
theorem ixItem_laid:IxItem Tryz.prog where
 fI:=Tryz.func54
 t3:=Tryz.underlying3
 a3:=Tryz.isAgg3
 z3:=Tryz.sizeOf3
 v3:=Tryz.zeroValue3
 t4:=Tryz.underlying4
 a4:=Tryz.isAgg4
 z4:=Tryz.sizeOf4
 v4:=Tryz.zeroValue4
 t22:=Tryz.underlying22
 a22:=Tryz.isAgg22
 z22:=Tryz.sizeOf22
 v22:=Tryz.zeroValue22
 a25:=Tryz.isAgg88
 z25:=Tryz.sizeOf88
 v25:=Tryz.zeroValue88
 aE:=Tryz.isAgg87
 zE:=Tryz.sizeOf87
theorem itE_at {B:Nat} {w:World} {a:Option Addr} {n c:Nat} {X:List It} (h:itE.In B w a n c X) (hc:0 < c):∃ b o,a=some ⟨b,o,none⟩/\b < B/\∀ i,i < n->w.cell? ⟨b,o+i * 4,none⟩=some (encStr (X.getD i default).code)/\w.cell? ⟨b,o+i * 4+1,none⟩=some (.int .i64 (X.getD i default).life) /\
  w.cell? ⟨b,o+i * 4+2,none⟩=some (.slice (X.getD i default).pa (X.getD i default).ps.length (X.getD i default).pc)/\w.cell? ⟨b,o+i * 4+3,none⟩=some (.slice (X.getD i default).oa (X.getD i default).os.length (X.getD i default).oc):=by
 obtain⟨b,o,e,hb,hcell⟩:=h.at_ hc
 exact⟨b,o,e,hb,fun i hi=>⟨hcell i hi 0 (by decide),hcell i hi 1 (by decide),hcell i hi 2 (by decide),hcell i hi 3 (by decide)⟩⟩
section
variable {P:Program}
set_option maxHeartbeats 1000000 in
theorem indexItem_any (L:IxItem P) (p:It->Bool) (fn:Nat) (cb:Array Value) (eg:∀ args w,(callFunc fn args).run P w = .ok (.enter fn args) w) (B:Nat) (a:Option Addr) (n c:Nat) (X:List It) (w:World) (h:itE.In B w a n c X) (hB:B<=w.heap.size)
  (hp:∀ (W:World) (x:It),Below w.heap.size w W->itE.ok x->Calls P fn (#[.agg #[encStr x.code,.int .i64 x.life,.slice x.pa x.ps.length x.pc,.slice x.oa x.os.length x.oc]] ++ cb) W fun e w'=>e = .returned (.bool (p x))/\Below W.heap.size W w') :
  Calls P 54 #[.slice a n c,.func (.func fn) #[] cb] w fun e w'=>e = .returned (.int .i64 (idxI p X))/\Below w.heap.size w w':=by
 generalize hr:idxI p X=r
 have HQ:=Lib.hid hr
 clear hr
 have hle:=h.le;have hmx:=h.mx
 have Hln:=Lib.hid h.len
 have H:=Lib.hid h
 have HP:=Lib.hid hp
 clear h hp
 have t3:=L.t3;have a3:=L.a3;have z3:=L.z3;have v3:=L.v3;have t4:=L.t4;have a4:=L.a4;have z4:=L.z4;have v4:=L.v4;have t22:=L.t22;have a22:=L.a22;have z22:=L.z22;have v22:=L.v22;have a25:=L.a25;have z25:=L.z25;have v25:=L.v25;have aE:=L.aE;have zE:=L.zE
 have u3:=run_underlying L.t3;have u4:=run_underlying L.t4;have u22:=run_underlying L.t22
 have FG:=L.fI
 go_enter FG,Tryz.ntmps54
 go_wp2_with (fail)
 go_loopw [8] (fun i wr=>∃ j:Nat,j<=n/\i = .int .i64 j/\Hid (∀ k,k < j->p (X.getD k default)=false)/\Hid (Below w.heap.size w wr)) (fun i _=>n - (intOf i).toNat)
 case atStart=>exact⟨0,Nat.zero_le _,rfl,Lib.hid (fun k hk=>absurd hk (Nat.not_lt_zero _)),Lib.hid (Below.refl _ _)⟩
 case round =>
  obtain⟨j,hj,rfl,hno,Hb⟩:=hrel
  by_cases hlt:j < n
  ·obtain⟨b,o,rfl,-,hc⟩:=itE_at (H.out.below (Hb.out.mono hB)) (by omega)
   obtain⟨g0,g1,g2,g3⟩:=hc j hlt
   have hok:=H.out.ok_at hlt
   clear hc
   have HC:=Lib.hid (HP.out wr (X.getD j default) Hb.out hok)
   clear hok
   cases hpx:p (X.getD j default) with
   | true =>
    have hX:=Lib.hid (idxI_some (by rw[<- Hln.out];exact hlt) hno.out hpx)
    rw[hpx] at HC
    clear hpx
    generalize X.getD j default=x at g0 g1 g2 g3 HC
    obtain⟨x_code,x_life,x_pa,x_pc,x_ps,x_oa,x_oc,x_os⟩:=x
    simp only at g0 g1 g2 g3 HC
    go_wp2_with (go_at_fn fn;refine HC.out.mono ?_;rintro e w9 ⟨rfl,hb9⟩)
    go_ret
    exact⟨by rw[<- HQ.out,hX.out];rfl,Hb.out.trans (hb9.mono Hb.out.size)⟩
   | false =>
    have hX:=Lib.hid (hpx)
    rw[hpx] at HC
    clear hpx
    have Hno:=Lib.hid (idx_more hno.out hX.out)
    clear hX
    generalize X.getD j default=x at g0 g1 g2 g3 HC
    obtain⟨x_code,x_life,x_pa,x_pc,x_ps,x_oa,x_oc,x_os⟩:=x
    simp only at g0 g1 g2 g3 HC
    go_wp2_with (go_at_fn fn;refine HC.out.mono ?_;rintro e w9 ⟨rfl,hb9⟩;have B9:=Lib.hid (Hb.out.trans (hb9.mono Hb.out.size));clear hb9)
    go_roundw
    case rel=>exact⟨j+1,by omega,by go_num,Hno,B9⟩
    case measure=>simp[intOf];omega
  ·have hge:j=n:=by omega
   have hnn:=Lib.hid (idxI_none (by rw[<- Hln.out,<- hge];exact hno.out))
   go_wp2_with (fail)
   go_ret
   exact⟨by rw[<- HQ.out,hnn.out];rfl,Hb.out⟩
end
end Go.Proofs.YtgplnekpgdhcpaaGreat
namespace Go.Proofs.YtgplnekpgdhcpaaGreat
open Go.RowKit Go.Lib
def rowX (X:List It) (c:List UInt8):List (List UInt8):=match X.find? (fun x=>decide (x.code=c)) with
 | some x=>c :: x.os
 | none=>[]
theorem lit_tx (w:World) (c:List UInt8) (hc:c.length<=9223372036854775807) (B:Nat) (hB:w.heap.size < B):txE.In B (w.alloc (.cells #[.string ⟨c.toArray⟩] 9)) (some ⟨w.heap.size,0,none⟩) 1 1 [c]:=by
 refine⟨rfl,Nat.le_refl _,by decide,fun x hx=>by rw[List.mem_singleton.1 hx];exact hc,fun _=>⟨_,_,rfl,hB,fun i hi j hj=>?_⟩⟩
 obtain rfl:i=0:=by omega
 have hj':j < 1:=hj
 obtain rfl:j=0:=by omega
 unfold World.cell?
 rw[heap_alloc_new]
 rfl
set_option maxHeartbeats 2000000 in
set_option maxRecDepth 100000 in
theorem row_any (B:Nat) (a:Option Addr) (n c:Nat) (T:List (List UInt8)) (k:List UInt8) (w:World) (h:txE.In B w a n c T) (hB:B<=w.heap.size) (hk:k.length<=9223372036854775807) (hn:n * 16<=140737488355328) :
  Calls Tryz.prog 56 #[.string ⟨k.toArray⟩,.slice a n c] w fun e w'=>∃ a' c',e = .returned (.slice a' (n+1) c')/\txE.Own w.heap.size w' (.slice a' (n+1) c') (k :: T)/\Below w.heap.size w w':=by
 obtain⟨W1,hW1⟩:∃ V,V=w.alloc (.cells #[.string ⟨k.toArray⟩] 9):=⟨_,rfl⟩
 obtain⟨W2,hW2⟩:∃ V,V=W1.alloc (.cells #[.slice (some ⟨w.heap.size,0,none⟩) 1 1,.slice a n c] 43):=⟨_,rfl⟩
 have b1:Below w.heap.size w W1:=by rw[hW1];exact (Below.refl _ w).alloc (Nat.le_refl _) _
 have s1:W1.heap.size=w.heap.size+1:=by rw[hW1,World.size_alloc]
 have s2:W2.heap.size=w.heap.size+2:=by rw[hW2,World.size_alloc,s1]
 have b2:Below W1.heap.size W1 W2:=by rw[hW2];exact (Below.refl _ W1).alloc (Nat.le_refl _) _
 have b12:Below w.heap.size w W2:=b1.trans (b2.mono (by omega))
 have hV:RTV W2.heap.size W2 (some ⟨w.heap.size+1,0,none⟩) 2 2 [⟨some ⟨w.heap.size,0,none⟩,1,1,[k]⟩,⟨a,n,c,T⟩]:=by
  refine⟨rfl,Nat.le_refl _,by decide,fun _=>⟨_,_,rfl,by omega,fun i hi=>?_⟩,fun i hi=>?_⟩
  ·have e:i=0∨i=1:=by omega
   have hh:W2.heap[w.heap.size+1]? = some (.cells #[.slice (some ⟨w.heap.size,0,none⟩) 1 1,.slice a n c] 43):=by rw[hW2,<- s1];exact heap_alloc_new _ _
   unfold World.cell?
   rw[hh]
   rcases e with rfl | rfl <;> rfl
  ·have e:i=0∨i=1:=by omega
   rcases e with rfl | rfl
   ·have:txE.In W1.heap.size W1 (some ⟨w.heap.size,0,none⟩) 1 1 [k]:=by rw[hW1];exact lit_tx w k hk _ (by rw[World.size_alloc];omega)
    exact (this.below b2).mono (by omega)
   ·exact (h.below (b12.mono hB)).mono (by omega)
 have HC:=Lib.hid (ConcatTx_any W2.heap.size _ 2 2 _ W2 hV (Nat.le_refl _) (by simp[flatT]) (by have:=h.len;simp[flatT];unfold txMax;omega))
 have e:flatT [⟨some ⟨w.heap.size,0,none⟩,1,1,[k]⟩,⟨a,n,c,T⟩]=k :: T:=by simp[flatT]
 rw[e] at HC
 have el:(k :: T).length=n+1:=by rw[List.length_cons,h.len]
 rw[el] at HC
 have HW2:=Lib.hid hW2
 have HW1:=Lib.hid hW1
 have HB:=Lib.hid b12
 have HS:=Lib.hid s1
 clear hV e el hW1 hW2 b1 b2 b12 s1 s2 h
 go_enter Tryz.func56,Tryz.ntmps56
 go_wp2_with (go_at_call 90;rw[<- HW1.out,<- HW2.out];refine HC.out.mono ?_;rintro e w9 ⟨a9,c9,rfl,ho9,hb9⟩;have O9:=Lib.hid ho9;have B9:=Lib.hid (HB.out.trans (hb9.mono HB.out.size));clear ho9 hb9)
 go_ret
 exact⟨a9,c9,rfl,O9.out.mono HB.out.size,B9.out⟩
theorem row1_any (p:Nat) (c:List UInt8) (x:It) (w:World) (hlt:p < w.heap.size) (hp:w.cell? ⟨p,0,none⟩=some (.string ⟨c.toArray⟩)) :
  Calls Tryz.prog 55 (#[.agg #[encStr x.code,.int .i64 x.life,.slice x.pa x.ps.length x.pc,.slice x.oa x.os.length x.oc]] ++ #[.pointer (some ⟨p,0,none⟩)]) w fun e w'=>e = .returned (.bool (decide (x.code=c)))/\Below w.heap.size w w':=by
 have hp2:∀ o,(w.alloc o).cell? ⟨p,0,none⟩=some (.string ⟨c.toArray⟩):=fun o=>(((Below.refl w.heap.size w).alloc (Nat.le_refl _) o).cell (p:=⟨p,0,none⟩) hlt).trans hp
 have HB:=Lib.hid (fun o=>(Below.refl w.heap.size w).alloc (Nat.le_refl _) o)
 obtain⟨x_code,x_life,x_pa,x_pc,x_ps,x_oa,x_oc,x_os⟩:=x
 unfold encStr
 simp only
 clear hp
 show Calls _ _ #[_,_] w _
 by_cases hcc:x_code=c
 ·have e1:(x_code == c)=true:=by simpa using hcc
  have E:=Lib.hid (show decide (x_code=c)=true from decide_eq_true hcc)
  clear hcc
  go_enter Tryz.func55,Tryz.ntmps55
  go_wp2_with (fail)
  go_ret
  exact⟨by rw[E.out];first | rfl | simp[*],HB.out _⟩
 ·have e1:(x_code == c)=false:=by simpa using hcc
  have E:=Lib.hid (show decide (x_code=c)=false from decide_eq_false hcc)
  clear hcc
  go_enter Tryz.func55,Tryz.ntmps55
  go_wp2_with (fail)
  go_ret
  exact⟨by rw[E.out];first | rfl | simp[*],HB.out _⟩
theorem rowX_some {X:List It} {c:List UInt8} {j:Nat} (hj:j < X.length) (h:idxI (fun x:It=>decide (x.code=c)) X=(j:Nat)):rowX X c=c :: (X.getD j default).os:=by
 unfold idxI at h
 cases hf:X.findIdx? (fun x=>decide (x.code=c)) with
 | none=>rw[hf] at h;simp only at h;omega
 | some i =>
  rw[hf] at h
  simp only at h
  obtain rfl:i=j:=by omega
  obtain⟨hi,hp,hall⟩:=List.findIdx?_eq_some_iff_getElem.1 hf
  unfold rowX
  have h1:X.find? (fun x=>decide (x.code=c))=some (X.getD i default):=by
   rw[List.find?_eq_some_iff_getElem]
   refine⟨?_,i,hi,?_,fun k hk=>?_⟩
   ·rw[List.getD_eq_getElem?_getD,List.getElem?_eq_getElem hi];exact hp
   ·rw[List.getD_eq_getElem?_getD,List.getElem?_eq_getElem hi];rfl
   ·simpa using hall k hk
  rw[h1]
theorem rowX_no {X:List It} {c:List UInt8} (h:idxI (fun x:It=>decide (x.code=c)) X = -1):rowX X c=[]:=by
 unfold rowX
 rw[List.find?_eq_none.2 (fun x hx=>by
  cases ha:decide (x.code=c) with
  | false=>simp
  | true =>
   have:0<=idxI (fun x:It=>decide (x.code=c)) X:=idxI_ge.2 (List.any_eq_true.2 ⟨x,hx,ha⟩)
   omega)]
theorem idxI_formT {α:Type} (p:α->Bool) (X:List α):idxI p X = -1∨∃ j:Nat,j < X.length/\idxI p X=j:=by
 unfold idxI
 cases h:X.findIdx? p with
 | none=>exact .inl rfl
 | some i=>exact .inr ⟨i,(List.findIdx?_eq_some_iff_getElem.1 h).1,rfl⟩
theorem below_drewT {B:Nat} {w w':World} (h:Below B w w'):Below B w w'.drew:=h.trans ⟨rfl,rfl,rfl,Nat.le_refl _,fun _ _=>rfl⟩
set_option maxHeartbeats 4000000 in
set_option maxRecDepth 100000 in
theorem Row_any (B:Nat) (a:Option Addr) (n cp:Nat) (X:List It) (c:List UInt8) (w:World) (hr:RI B w a n cp X) (hB:B<=w.heap.size) (hc:c.length<=9223372036854775807) (hsz:∀ x∈X,x.os.length * 16<=140737488355328) :
  Calls Tryz.prog 23 #[.slice a n cp,.string ⟨c.toArray⟩] w fun e w'=>(∃ a' c',e = .returned (.slice a' (rowX X c).length c')/\txE.Own w.heap.size w' (.slice a' (rowX X c).length c') (rowX X c))/\Below w.heap.size w w':=by
 obtain⟨W1,hW1⟩:∃ V,V=w.alloc (.cells #[.string ⟨c.toArray⟩] 9):=⟨_,rfl⟩
 have b1:Below w.heap.size w W1:=by rw[hW1];exact (Below.refl _ w).alloc (Nat.le_refl _) _
 have s1:W1.heap.size=w.heap.size+1:=by rw[hW1,World.size_alloc]
 have k1:W1.cell? ⟨w.heap.size,0,none⟩=some (.string ⟨c.toArray⟩):=by rw[hW1];unfold World.cell?;rw[heap_alloc_new];rfl
 have hp:∀ V,Below W1.heap.size W1 V->V.cell? ⟨w.heap.size,0,none⟩=some (.string ⟨c.toArray⟩):=fun V hb=>(hb.cell (p:=⟨w.heap.size,0,none⟩) (by show w.heap.size < _;omega)).trans k1
 have HP:=Lib.hid hp
 have HI:=Lib.hid (indexItem_any ixItem_laid (fun x:It=>decide (x.code=c)) 55 #[.pointer (some ⟨w.heap.size,0,none⟩)] (enters_of Tryz.func55 (by kernel_rfl) rfl) B a n cp X W1 (RI.el (hr.below (b1.mono hB))) (Nat.le_trans hB b1.size) (fun V x hb _=>row1_any w.heap.size c x V (by have:=hb.size;omega) (hp V hb)))
 have hle:=hr.le;have hmx:=hr.mx
 have HW1:=Lib.hid hW1
 have B1:=Lib.hid b1
 have Hc:=Lib.hid hc
 rcases idxI_formT (fun x:It=>decide (x.code=c)) X with hi | ⟨j,hj,hi⟩
 ·rw[hi] at HI
  have E:=Lib.hid (rowX_no hi)
  clear hi hr hp k1 hW1 b1 s1
  go_enter Tryz.func23,Tryz.ntmps23
  go_wp2_with (go_at_call 54;rw[<- HW1.out];refine HI.out.mono ?_;rintro e w2 ⟨rfl,hb2⟩;have B2:=Lib.hid (B1.out.trans (hb2.mono B1.out.size));clear hb2)
  go_ret
  rw[E.out]
  exact⟨⟨_,_,rfl,El.Own.nil _ _ _⟩,B2.out⟩
 ·rw[hi] at HI
  have E:=Lib.hid (rowX_some hj hi)
  have hin:j < n:=by rw[hr.len];exact hj
  have hsj:=hsz _ (getD_mem hj)
  obtain⟨b,o,rfl,hbB,hok,c0,c1,c2,c3⟩:=hr.item hin
  generalize X.getD j default=x at E c0 c1 c2 c3 hok hsj
  have hbW:b < w.heap.size:=Nat.lt_of_lt_of_le hbB hB
  have HT:=Lib.hid (RT.el hok.rt)
  have HRW:=Lib.hid (fun (V:World) (hb:Below w.heap.size w V)=>row_any B x.oa x.os.length x.oc x.os c V (HT.out.below (hb.mono hB)) (Nat.le_trans hB hb.size) hc hsj)
  have HS:=Lib.hid s1
  have H3:=Lib.hid c3
  clear hi hr hp k1 hW1 b1 s1 hok c0 c1 c2 c3 hsj hj hc
  go_enter Tryz.func23,Tryz.ntmps23
  go_upto_region 4 with (go_at_call 54;rw[<- HW1.out];refine HI.out.mono ?_;rintro e w2 ⟨rfl,hb2⟩;have B2:=Lib.hid (B1.out.trans (hb2.mono B1.out.size));have z0:=HP.out w2 hb2;have z1:=((B1.out.trans (hb2.mono B1.out.size)).cell (p:=⟨b,o+j * 4+3,none⟩) hbW).trans H3.out;have hl2:w.heap.size < w2.heap.size:=(by have:=HS.out;have:=hb2.size;omega);clear hb2)
  go_region_held3 (fun w'=>(w'.cell? ⟨w.heap.size,0,none⟩=some (.string ⟨c.toArray⟩)/\w'.cell? ⟨b,o+j * 4+3,none⟩=some (.slice x.oa x.os.length x.oc))/\Hid (Below w.heap.size w w')) (first | exact⟨⟨by assumption,by assumption⟩,Lib.hid (below_drewT B2.out)⟩ | exact⟨⟨by assumption,by assumption⟩,by assumption⟩ | go_keep | exact⟨⟨by assumption,by assumption⟩,Lib.hid (below_drewT (Hid.out (by assumption)))⟩) (first | (go_at_call 56;refine (HRW.out _ (below_drewT B2.out)).mono ?_;rintro e w3 ⟨a3,c3,rfl,ho3,hb3⟩;have d0:=(hb3.cell (p:=⟨w.heap.size,0,none⟩) hl2).trans z0;have d1:=(hb3.cell (p:=⟨b,o+j * 4+3,none⟩) (Nat.lt_of_lt_of_le hbW B2.out.size)).trans z1;have O3:=Lib.hid ho3;have B3:Hid (Below w.heap.size w w3):=Lib.hid ((below_drewT B2.out).trans (hb3.mono B2.out.size));clear ho3 hb3))
  clear d0 d1 z0 z1
  go_wp2_with (fail)
  go_ret
  rw[E.out]
  exact⟨⟨_,_,rfl,O3.out.mono B2.out.size⟩,B3.out⟩
end Go.Proofs.YtgplnekpgdhcpaaGreat
namespace Go.Proofs.YtgplnekpgdhcpaaGreat
open Go.RowKit
def LineV.val (x:LineV):Value:=.agg #[.int .i64 x.id,encStr x.item,.int .i64 x.qty,.int .i64 x.asked,.int .i64 x.rank,.int .u8 x.st,.int .i64 x.day,encStr x.code]
def lineOk (l:LineV):Bool:=decide (1<=l.id) && okCode l.item && decide (1<=l.qty) && decide (l.qty<=1073741824) && decide (0<=l.asked) && decide (l.asked<=4000) && decide (0<=l.rank) && decide (l.rank<=99) && decide (1<=l.st) && decide (l.st<=3) &&
 (if l.day = -1 then decide (l.code=[]) && !decide (l.st=2) else decide (0<=l.day) && decide (l.day<=4000) && okCode l.code && !decide (l.st=3))
end Go.Proofs.YtgplnekpgdhcpaaGreat
