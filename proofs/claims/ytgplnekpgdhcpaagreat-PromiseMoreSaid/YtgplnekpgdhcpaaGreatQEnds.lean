/- Parts and numbers in memory: slices that came in, and slices of the call's own. The walks of amount's Right, Sum, Add, Times, and of the document's. Marks; lists of numbers that are lent, and kept. least.ends$1: what the iterator hands to its loop. -/
import Derived.Test.YtgplnekpgdhcpaaGreatJPure
import Derived.OwnWalk
import Derived.Sort.EncStr
import Derived.RangeFuncFrom
import Derived.RangeFuncBound
import Derived.RangeFuncCalls
import Derived.RangeFuncLeaves
import Derived.Shelf.Abstract
import Derived.Shelf.RegionOpen
import Derived.OwnWalkIn
import Derived.TacticsInMore
import Derived.LoopNIn
import Derived.LoopIn
namespace Go.Proofs.YtgplnekpgdhcpaaGreat
open Go.RowKit
def intOf:Value->Int | .int _ x=>x | _=>0
theorem wrap_in {x:Int} (h:-9223372036854775808<=x) (h':x<=9223372036854775807):IntKind.i64.wrap x=x:=IntWalk.i64_in _ (by omega)
theorem wrap64_in {x:Int} (h:-9223372036854775808<=x) (h':x<=9223372036854775807):wrap64 x=x:=by
 unfold wrap64;omega
def encP (p:Pt):List Value:=[encStr p.1,.int .i64 p.2]
instance:Inhabited Pt:=⟨([],0)⟩
def cellsP (P:List Pt):List Value:=P.flatMap encP
theorem cellsP_len:∀ P:List Pt,(cellsP P).length=P.length * 2
 | []=>rfl
 | p :: P=>by
  have:=cellsP_len P
  unfold cellsP at *
  rw[List.flatMap_cons,List.length_append,this]
  simp[encP];omega
theorem cellsP_append (P Q:List Pt):cellsP (P ++ Q)=cellsP P ++ cellsP Q:=by simp[cellsP]
theorem cellsP_one {P:List Pt}:∀ u∈cellsP P,u.oneCell'=true:=by
 intro u hu
 obtain⟨p,_,hp⟩:=List.mem_flatMap.1 hu
 simp only[encP,List.mem_cons,List.not_mem_nil,or_false] at hp
 rcases hp with rfl | rfl <;> rfl
theorem cellsP_at:∀ (P:List Pt) (i:Nat),i < P.length->(cellsP P)[i * 2]? = some (encStr (P.getD i default).1)/\(cellsP P)[i * 2+1]? = some (.int .i64 (P.getD i default).2)
 | [],i,h=>by simp at h
 | p :: P,0,_=>by simp[cellsP,encP]
 | p :: P,i+1,h=>by
  have ih:=cellsP_at P i (by simpa using h)
  have e:cellsP (p :: P)=encStr p.1 :: Value.int .i64 p.2 :: cellsP P:=rfl
  rw[e,show (i+1) * 2=i * 2+1+1 by omega]
  simpa using ih
def Fine (P:List Pt):Prop:=∀ p∈P,p.1.length<=9223372036854775807/\-9223372036854775808<=p.2/\p.2<=9223372036854775807
theorem Fine.at_ {P:List Pt} (h:Fine P) {i:Nat} (hi:i < P.length):(P.getD i default).1.length<=9223372036854775807/\-9223372036854775808<=(P.getD i default).2/\(P.getD i default).2<=9223372036854775807 :=
 h _ (by rw[List.getD_eq_getElem?_getD,List.getElem?_eq_getElem hi];exact List.getElem_mem hi)
structure RP (B:Nat) (w:World) (a:Option Addr) (n c:Nat) (P:List Pt):Prop where
 len:n=P.length
 le:n<=c
 mx:c<=9223372036854775807
 fine:Fine P
 at_:0 < c->∃ b o,a=some ⟨b,o,none⟩/\b < B/\∀ i,i < n->w.cell? ⟨b,o+i * 2,none⟩=some (encStr (P.getD i default).1)/\w.cell? ⟨b,o+i * 2+1,none⟩=some (.int .i64 (P.getD i default).2)
theorem RP.below {B:Nat} {w w':World} {a:Option Addr} {n c:Nat} {P:List Pt} (h:RP B w a n c P) (hb:Below B w w'):RP B w' a n c P:=by
 refine⟨h.len,h.le,h.mx,h.fine,fun hc=>?_⟩
 obtain⟨b,o,e,hB,hcell⟩:=h.at_ hc
 exact⟨b,o,e,hB,fun i hi=>⟨(hb.cell hB).trans (hcell i hi).1,(hb.cell hB).trans (hcell i hi).2⟩⟩
theorem RP.mono {B B':Nat} {w:World} {a:Option Addr} {n c:Nat} {P:List Pt} (h:RP B w a n c P) (hb:B<=B'):RP B' w a n c P:=by
 refine⟨h.len,h.le,h.mx,h.fine,fun hc=>?_⟩
 obtain⟨b,o,e,hB,hcell⟩:=h.at_ hc
 exact⟨b,o,e,Nat.lt_of_lt_of_le hB hb,hcell⟩
theorem RP.cells {B:Nat} {w:World} {b o n c:Nat} {P:List Pt} (h:RP B w (some ⟨b,o,none⟩) n c P) (hc:0 < c):∀ j u,(cellsP P)[j]? = some u->w.cell? ((⟨b,o,none⟩:Addr).add j)=some u:=by
 intro j u hu
 obtain⟨b',o',e,-,hcell⟩:=h.at_ hc
 cases e
 have hj:j < P.length * 2:=by
  rw[<- cellsP_len]
  rcases Nat.lt_or_ge j (cellsP P).length with h1 | h1
  ·exact h1
  ·rw[List.getElem?_eq_none h1] at hu;cases hu
 have hat:=cellsP_at P (j / 2) (by omega)
 have hcell':=hcell (j / 2) (by rw[h.len];omega)
 have e:(⟨b,o,none⟩:Addr).add j=⟨b,o+j,none⟩:=by unfold Addr.add;split <;> simp_all
 rw[e]
 rcases (show j=j / 2 * 2∨j=j / 2 * 2+1 by omega) with hj2 | hj2
 ·rw[hj2] at hu ⊢
  rw[hat.1] at hu
  cases hu
  exact hcell'.1
 ·rw[hj2] at hu ⊢
  rw[hat.2] at hu
  cases hu
  rw[<- Nat.add_assoc]
  exact hcell'.2
theorem RP.src {B:Nat} {w:World} {a:Option Addr} {n c:Nat} {P:List Pt} (h:RP B w a n c P):0 < P.length->∃ ad,a=some ad/\∀ j u,(cellsP P)[j]? = some u->w.cell? (ad.add j)=some u:=by
 intro h0
 have hc:0 < c:=by have:=h.le;have:=h.len;omega
 obtain⟨b,o,rfl,-⟩:=h.at_ hc
 exact⟨_,rfl,h.cells hc⟩
def OP (base:Nat) (w:World) (v:Value) (P:List Pt):Prop:=w.ownsRow base 74 2 v P.length (cellsP P)
theorem Tryz.infoPart:(Tryz.prog.info? 74).map (fun i=>(i.zero,i.size,i.bytes))=some (some (.agg #[.string ByteArray.empty,.int .i64 0]),2,24):=by kernel_rfl
theorem OP.nil (base:Nat) (w:World):OP base w (.slice none 0 0) []:=World.ownsRow_nil _ _ _ _
theorem OP.mono {B B':Nat} {w:World} {v:Value} {P:List Pt} (h:OP B w v P) (hb:B'<=B):OP B' w v P:=by
 obtain⟨h1,h2 | ⟨g,cap,cur,hv,hg,r⟩⟩:=h
 ·exact⟨h1,.inl h2⟩
 ·exact⟨h1,.inr ⟨g,cap,cur,hv,Nat.le_trans hb hg,r⟩⟩
theorem OP.keep {base:Nat} {W W':World} {v:Value} {P:List Pt} (h:OP base W v P) (hk:∀ b,v.ownBlock=some b->W'.heap[b]? = W.heap[b]?):OP base W' v P:=by
 obtain⟨e1,h3 | ⟨g,cap,cur,hv,hg,hh,r⟩⟩:=h
 ·exact⟨e1,.inl h3⟩
 ·exact⟨e1,.inr ⟨g,cap,cur,hv,hg,(hk g (by rw[hv];rfl)).trans hh,r⟩⟩
theorem OP.ge {base:Nat} {W:World} {v:Value} {P:List Pt} (h:OP base W v P):∀ b,v.ownBlock=some b->base<=b/\b < W.heap.size:=by
 intro b hb
 obtain⟨e1,⟨rfl,-⟩ | ⟨g,cap,cur,rfl,hg,hh,r⟩⟩:=h
 ·cases hb
 ·cases hb
  exact⟨hg,(Array.getElem?_eq_some_iff.1 hh).1⟩
theorem OP.below {base:Nat} {W W':World} {v:Value} {P:List Pt} (h:OP base W v P) (hb:Below W.heap.size W W'):OP base W' v P :=
 h.keep fun b e=>hb.block b (h.ge b e).2
theorem OP.rp {base:Nat} {w:World} {v:Value} {P:List Pt} (h:OP base w v P) (ht:Fine P):∃ a c,v = .slice a P.length c/\RP w.heap.size w a P.length c P:=by
 obtain⟨h1,⟨rfl,h0⟩ | ⟨g,cap,cur,rfl,hg,hh,hle,hcap,hsz,htk⟩⟩:=h
 ·have:P=[]:=List.eq_nil_of_length_eq_zero h0
  subst this
  exact⟨none,0,rfl,⟨rfl,Nat.le_refl _,by omega,ht,fun h=>by omega⟩⟩
 ·refine⟨some ⟨g,0,none⟩,cap,rfl,⟨rfl,hle,by simpa [maxLen] using hcap,ht,fun _=>⟨g,0,rfl,(Array.getElem?_eq_some_iff.1 hh).1,fun i hi=>?_⟩⟩⟩
  have hat:=cellsP_at P i hi
  rw[<- htk] at hat
  simp only[World.cell?,hh,Nat.zero_add,Option.isSome_none,Bool.false_eq_true,if_false]
  rw[List.getElem?_take,if_pos (by omega),List.getElem?_take,if_pos (by omega)] at hat
  simpa using hat
theorem run_append_nothing {P:Program} (w:World) (t ty e:TypeId) (i:TypeInfo) (ht:P.underlying t=some (.slice e)) (hi:P.info? e=some i) (sa xa:Option Addr) (n c d:Nat) (hnc:n<=c) :
  (Builtin.append_ #[t,t] ty #[.slice sa n c,.slice xa 0 d]).run P w = .ok (.slice sa n c) w:=by
 have hn:n+0<=c:=by omega
 have hl:∀ a,(loadCells a 0).run P w = .ok #[] w:=fun a=>by simpa using run_loadCells_list (P:=P) w a [] (by simp)
 cases sa <;> cases xa <;> simp[Builtin.append_,run_underlying ht,sizeOf,typeInfo,hi,Builtin.lenOf,Builtin.firstCells,hnc,hl,storeCells]
theorem run_append_parts {w:World} {base:Nat} {v:Value} {P Q:List Pt} (h:OP base w v P) (ty:TypeId) (sa:Option Addr) (c:Nat) (hsrc:0 < Q.length->∃ ad,sa=some ad/\∀ j u,(cellsP Q)[j]? = some u->w.cell? (ad.add j)=some u)
  (hbase:base<=w.heap.size) (hsize:(P.length+Q.length) * 24<=140737488355328) :
  ∃ v' w',(Builtin.append_ #[64,64] ty #[v,.slice sa Q.length c]).run Tryz.prog w = .ok v' w'/\OP base w' v' (P ++ Q)/\w.grownBy w' v.ownBlock:=by
 obtain⟨i0,hi,hz0,hz1,hz2⟩:=info_parts Tryz.infoPart
 by_cases h0:Q.length=0
 ·obtain rfl:Q=[]:=List.eq_nil_of_length_eq_zero h0
  have hv:∃ va vc,v = .slice va P.length vc/\P.length<=vc:=by
   obtain⟨h1,⟨rfl,h0⟩ | ⟨g,cap,cur,rfl,hg,hh,hle,r⟩⟩:=h
   ·exact⟨none,0,by rw[h0],by omega⟩
   ·exact⟨_,_,rfl,hle⟩
  obtain⟨va,vc,rfl,hle⟩:=hv
  have hrun:=run_append_nothing (P:=Tryz.prog) w 64 ty 74 i0 Tryz.underlying64 hi va sa P.length vc c hle
  exact⟨_,w,hrun,by simpa using h,⟨rfl,rfl,rfl,Nat.le_refl _,fun _ _ _=>rfl⟩⟩
 ·obtain⟨ad,rfl,hcell⟩:=hsrc (by omega)
  obtain⟨v',w',hrun,hown,hg,-⟩:=run_append_own (P:=Tryz.prog) w base 64 ty 74 i0 _ 2 24 Tryz.underlying64 hi hz0 hz1 hz2 rfl (by decide) v P.length (cellsP P) h ad Q.length c (cellsP Q) (cellsP_len Q) hcell
   cellsP_one (by simp only[maxLen];omega) hsize hbase
  refine⟨v',w',hrun,?_,hg⟩
  unfold OP
  rw[List.length_append,cellsP_append]
  exact hown
theorem wpList_append_parts {w:World} {ops:Array Oper} {rest:List Oper} {o:Oper} {a:Act} {Q:Exit->Act->World->Prop} (hgd:o.guard=none) (s x:Operand)
  (ho:o.op = .call { callee:=.builtin .append,args:=#[s,x],argTypes:=#[64,64] }) (base:Nat) (v:Value) (P R:List Pt) (hs:a.eval s=v) (h:OP base w v P) (sa:Option Addr) (c:Nat)
  (hx:a.eval x = .slice sa R.length c) (hsrc:0 < R.length->∃ ad,sa=some ad/\∀ j u,(cellsP R)[j]? = some u->w.cell? (ad.add j)=some u) (hbase:base<=w.heap.size) (hsize:(P.length+R.length) * 24<=140737488355328)
  (hK:∀ a' c' w',OP base w' (.slice a' (P ++ R).length c') (P ++ R)->w.grownBy w' v.ownBlock->wpList Tryz.prog ops Q rest (a.put o.dst (.slice a' (P ++ R).length c')) w'):wpList Tryz.prog ops Q (o :: rest) a w:=by
 obtain⟨v',w',hr,hq,hg⟩:=run_append_parts h o.type sa c hsrc hbase hsize
 have hv:∃ a' c',v' = .slice a' (P ++ R).length c':=by
  obtain⟨h1,⟨rfl,h0⟩ | ⟨g,cap,cur,rfl,r⟩⟩:=hq
  ·exact⟨none,0,by rw[h0]⟩
  ·exact⟨_,_,rfl⟩
 obtain⟨a',c',rfl⟩:=hv
 refine wpList_plain hgd fun K hK'=>?_
 unfold Oper.wp execOp
 simp only[ho,resolve,invoke,builtin,Sem.run_bind,Sem.run_pure,Result.andThen_ok,List.map_toArray,List.map_cons,List.map_nil,hs,hx,hr]
 exact hK' _ _ (hK a' c' w' hq hg)
structure RL (B:Nat) (w:World) (a:Option Addr) (n c:Nat) (L:List Int):Prop where
 len:n=L.length
 le:n<=c
 mx:c<=9223372036854775807
 wf:∀ x∈L,-9223372036854775808<=x/\x<=9223372036854775807
 at_:0 < c->∃ b o,a=some ⟨b,o,none⟩/\b < B/\∀ i,i < n->w.cell? ⟨b,o+i,none⟩=some (.int .i64 (L.getD i 0))
end Go.Proofs.YtgplnekpgdhcpaaGreat
namespace Go.Proofs.YtgplnekpgdhcpaaGreat
open Go.RowKit
set_option maxHeartbeats 1000000 in
theorem Right_any (n:Int) (w:World):Calls Tryz.prog 97 #[.int .i64 n] w fun e w'=>e = .returned (.bool (okA n))/\w=w':=by
 have hr:okA n=(decide (0<=n) && decide (n<=1125899906842624)):=rfl
 rw[hr];clear hr
 by_cases h1:0<=n
 ·by_cases h2:n<=1125899906842624
  ·go_enter Tryz.func97,Tryz.ntmps97
   go_wp2
   go_ret
   simp[h1,h2]
  ·go_enter Tryz.func97,Tryz.ntmps97
   go_wp2
   go_ret
   simp[h2]
 ·go_enter Tryz.func97,Tryz.ntmps97
  go_wp2
  go_ret
  simp
  omega
def ansV:Option Int->Int
 | some n=>n
 | none=>0
theorem sumL_take {L:List Int} {i:Nat} (h:i < L.length) (n:Int):sumL n (L.drop i)=if okA (L.getD i 0) && decide (n+L.getD i 0<=mostA) then sumL (n+L.getD i 0) (L.drop (i+1)) else none:=by
 rw[List.drop_eq_getElem_cons h]
 conv=>lhs;unfold sumL
 rw[List.getD_eq_getElem?_getD,List.getElem?_eq_getElem h,Option.getD_some]
set_option maxHeartbeats 2000000 in
theorem Sum_any (B:Nat) (a:Option Addr) (n c:Nat) (L:List Int) (w:World) (hl:RL B w a n c L) :
  Calls Tryz.prog 160 #[.slice a n c] w fun e w'=>e = .returned (.tuple #[.int .i64 (ansV (sumL 0 L)),.bool (sumL 0 L).isSome])/\w=w':=by
 have hle:=hl.le;have hmx:=hl.mx;have hln:=hl.len
 have Hwf:=Lib.hid hl.wf
 have Hln:=Lib.hid hln;clear hln
 obtain⟨T,hT⟩:∃ T,T=sumL 0 L:=⟨_,rfl⟩
 rw[<- hT]
 have HT:=Lib.hid hT
 clear hT
 go_enter Tryz.func160,Tryz.ntmps160
 go_wp2
 go_loop [4,9] (fun t s=>∃ (m:Int) (i:Nat),t = .int .i64 m/\s = .int .i64 i/\i<=n/\0<=m/\m<=1125899906842624/\Hid (T=sumL m (L.drop i))) (fun _ s=>n - (intOf s).toNat)
 case atStart=>exact⟨0,0,rfl,rfl,by omega,by omega,by omega,HT⟩
 case round =>
  obtain⟨m,i,rfl,rfl,hi,h0,h1,ht⟩:=hrel
  by_cases hin:i < n
  ·obtain⟨b,o,rfl,hB,hc⟩:=hl.at_ (by omega)
   have g:=hc i hin
   clear hc
   have hx:=Hwf.out (L.getD i 0) (by rw[List.getD_eq_getElem?_getD,List.getElem?_eq_getElem (by have:=Hln.out;omega)];exact List.getElem_mem (by have:=Hln.out;omega))
   have hs:=sumL_take (L:=L) (i:=i) (by have:=Hln.out;omega) m
   rw[<- ht.out] at hs
   have HS:=Lib.hid hs
   clear hs
   obtain⟨x,hxe⟩:∃ x,x=L.getD i 0:=⟨_,rfl⟩
   rw[<- hxe] at g hx HS
   clear hxe
   by_cases hk:okA x=true
   ·have hk':=okA_iff.1 hk
    have hw:=wrap_in (x:=m+x) (by omega) (by omega)
    have hw2:=wrap64_in (x:=m+x) (by omega) (by omega)
    have hr:=fun w=>Right_any x w
    rw[hk] at hr
    by_cases hm:m+x<=1125899906842624
    ·go_wp2_with (go_at_call 97;refine (hr _).mono ?_;rintro e w' ⟨rfl,rfl⟩)
     go_round
     case rel =>
      refine⟨m+x,i+1,rfl,rfl,by omega,by omega,hm,?_⟩
      show _=_
      have e:decide (m+x<=mostA)=true:=decide_eq_true (show m+x<=1125899906842624 from hm)
      rw[HS.out,hk,e];rfl
     case measure=>simp[intOf];omega
    ·go_wp2_with (go_at_call 97;refine (hr _).mono ?_;rintro e w' ⟨rfl,rfl⟩)
     go_ret2
     have e:decide (m+x<=mostA)=false:=decide_eq_false (show ¬ m+x<=1125899906842624 by omega)
     rw[HS.out,hk,e]
     exact⟨rfl,rfl⟩
   ·have hk0:okA x=false:=by simpa using hk
    have hr:=fun w=>Right_any x w
    rw[hk0] at hr
    go_wp2_with (go_at_call 97;refine (hr _).mono ?_;rintro e w' ⟨rfl,rfl⟩)
    go_ret2
    rw[HS.out,hk0]
    exact⟨rfl,rfl⟩
  ·go_wp2_with (fail)
   go_ret2
   have e:i=L.length:=by have:=Hln.out;omega
   rw[ht.out,e,List.drop_length]
   exact⟨rfl,rfl⟩
set_option maxHeartbeats 2000000 in
theorem Add_any (a b:Int) (w:World) (ha:-9223372036854775808<=a/\a<=9223372036854775807) (hb:-9223372036854775808<=b/\b<=9223372036854775807) :
  Calls Tryz.prog 132 #[.int .i64 a,.int .i64 b] w fun e w'=>e = .returned (.tuple #[.int .i64 (ansV (addA a b)),.bool (addA a b).isSome])/\Below w.heap.size w w':=by
 have hl:RL (w.heap.size+1) (w.alloc (.cells #[.int .i64 a,.int .i64 b] 2)) (some ⟨w.heap.size,0,none⟩) 2 2 [a,b]:=by
  refine⟨rfl,by omega,by omega,fun x hx=>?_,fun _=>⟨w.heap.size,0,rfl,by omega,fun i hi=>?_⟩⟩
  ·simp at hx
   rcases hx with rfl | rfl
   ·exact ha
   ·exact hb
  ·have hb:=(Go.MapKept.heap_alloc w (.cells #[.int .i64 a,.int .i64 b] 2)).1
   rcases (show i=0∨i=1 by omega) with rfl | rfl <;> simp only[World.cell?,hb] <;> rfl
 have hs:=Sum_any _ _ _ _ _ _ hl
 rw[sumL_two] at hs
 have Hs:=Lib.hid hs
 clear hs
 have HB:=Lib.hid (show Below w.heap.size w (w.alloc (.cells #[.int .i64 a,.int .i64 b] 2)) from (Below.refl _ w).alloc (Nat.le_refl _) _)
 go_enter Tryz.func132,Tryz.ntmps132
 go_wp2_with (go_at_call 160;refine Hs.out.mono ?_;rintro e w' ⟨rfl,rfl⟩)
 go_ret2
 exact⟨rfl,HB.out⟩
end Go.Proofs.YtgplnekpgdhcpaaGreat
namespace Go.Proofs.YtgplnekpgdhcpaaGreat
open Go.RowKit
def lv (x:Int):Value:=.int .i64 x
def OL (base:Nat) (w:World) (v:Value) (L:List Int):Prop:=w.ownsRow base 2 1 v L.length (L.map lv)
end Go.Proofs.YtgplnekpgdhcpaaGreat
namespace Go.Proofs.YtgplnekpgdhcpaaGreat
open Go.RowKit Go.Shelf
attribute [local go_sem] Oper.semAt_some
theorem wpQuiet_mute {P:Program} {ops:Array Oper} {C:World->Prop} {Q:Act->Prop} {rest:List Oper} {a:Act} {after:Array Edge} (h:wpQuiet P ops C Q rest a):wpQuiet P ops C Q (Oper.mk none (.move (.const undef)) 0 "" after none :: rest) a :=
 wpQuiet_step fun K hK=>by
  have e:Region.wanted (Oper.mk none (.move (.const undef)) 0 "" after none) (yielded ops a.tmps)=true:=rfl
  rw[if_pos e]
  exact BigFrame.quiet_move (.const undef) rfl (hK a h)
def KpE (S:Nat->Prop) (W W':World):Prop:=∀ k,S k->W'.heap[k]? = W.heap[k]?
theorem KpE.trans {S:Nat->Prop} {A B C:World} (h:KpE S A B) (k:KpE S B C):KpE S A C:=fun i hi=>(k i hi).trans (h i hi)
theorem KpE.refl (S:Nat->Prop) (A:World):KpE S A A:=fun _ _=>rfl
theorem KpE.cell {S:Nat->Prop} {A B:World} (h:KpE S A B) {b o:Nat} (hb:S b):B.cell? ⟨b,o,none⟩=A.cell? ⟨b,o,none⟩:=World.cell?_of_block (w:=A) (h b hb)
def pairsI:List Int->List (Int×Int)
 | a :: b :: r=>(a,b) :: pairsI (b :: r)
 | _=>[]
theorem pairsI_len:∀ L:List Int,(pairsI L).length=L.length - 1
 | []=>rfl
 | [_]=>rfl
 | a :: b :: r=>by
  have:=pairsI_len (b :: r)
  simp only[pairsI,List.length_cons] at *
  omega
theorem pairsI_at:∀ (L:List Int) (j:Nat),j+1 < L.length->(pairsI L)[j]? = some (L.getD j 0,L.getD (j+1) 0)
 | [],j,h=>by simp at h
 | [_],j,h=>by simp at h
 | a :: b :: r,0,_=>rfl
 | a :: b :: r,j+1,h=>by
  have:=pairsI_at (b :: r) j (by simpa using h)
  simp only[pairsI,List.getElem?_cons_succ]
  rw[this]
  rfl
abbrev ElE (P:Int×Int->Prop):={ x:Int×Int // P x }
set_option maxRecDepth 100000 in
set_option maxHeartbeats 2000000 in
theorem ends1_in (n:Nat) (hn:1<=n) (l Bs b c:Nat) (L:List Int) (P:Int×Int->Prop) (hP:∀ x∈pairsI L,P x) (S:Nat->Prop) (hSb:S b) (hSB:S Bs) (hL:1<=L.length/\L.length<=1000000) (hc:L.length<=c/\c<=9223372036854775807) (J Jx:List (ElE P)->World->Prop)
  (hJd:∀ pre W q,J pre W->J pre (W.drewN q))
  (hY:∀ pre (x:ElE P) W,J pre W->pre.length < (pairsI L).length->YieldAt Fence.wide (n - 1) Tryz.prog l #[.int .i64 x.1.1,.int .i64 x.1.2] W fun e W' =>
   (e = .returned (.bool true)/\J (pre ++ [x]) W'/\KpE S W W')∨(e = .returned (.bool false)/\Jx (pre ++ [x]) W'))
  (W:World) (hBs:W.cell? ⟨Bs,0,none⟩=some (.slice (some ⟨b,0,none⟩) L.length c)) (hcell:∀ i,i < L.length->W.cell? ⟨b,i,none⟩=some (.int .i64 (L.getD i 0))) (h0:J [] W) :
  CallsIn Fence.wide n Tryz.prog 166 #[.func (.yield l) #[] #[],.pointer (some ⟨Bs,0,none⟩)] W fun e W'=>(∃ v,e = .returned v) /\
   ((∃ ys,ys.map (·.1)=pairsI L/\J ys W')∨(∃ pre,pre.map (·.1) <+: pairsI L/\Jx pre W')):=by
 obtain⟨hc1,hc2⟩:=hc
 obtain⟨m,hm⟩:∃ m,m=L.length:=⟨_,rfl⟩
 have Hm:=Lib.hid hm
 have HP:=Lib.hid hP
 have Hcell:=Lib.hid hcell
 have hpl:=pairsI_len L
 have HPL:=Lib.hid hpl
 rw[<- hm] at hBs hL hc1
 clear hP hcell hm hpl
 refine callsIn_of_wp Tryz.func166 rfl trivial ?_ rfl
 simp only[Tryz.ntmps166,List.size_toArray,List.length_cons,List.length_nil,Nat.reduceAdd,Nat.reduceSub,Array.replicate_succ,Array.replicate_zero,List.push_toArray,List.append_toArray,List.nil_append,List.cons_append]
 gi_wp2
 gi_loopw [7] (fun i wr=>∃ (j:Nat) (pre:List (ElE P)),i = .int .i64 j/\j<=m - 1/\Hid (pairsI L=pre.map (·.1) ++ (pairsI L).drop j)/\J pre wr/\Hid (KpE S W wr))
  (fun i _=>m - 1 - (intOf i).toNat)
 case atStart=>exact⟨0,[],rfl,Nat.zero_le _,Lib.hid rfl,h0,Lib.hid (KpE.refl _ _)⟩
 case round =>
  obtain⟨j,pre,rfl,hj,hsc,hJ,hK⟩:=hrel
  have hBs':=(hK.out.cell (o:=0) hSB).trans hBs
  by_cases hlt:j < m - 1
  ·have hat:(pairsI L)[j]? = some (L.getD j 0,L.getD (j+1) 0):=pairsI_at L j (by rw[<- Hm.out];omega)
   have hlen:pre.length < (pairsI L).length:=by
    have h1:=congrArg List.length hsc.out
    rw[List.length_append,List.length_map,List.length_drop,HPL.out,<- Hm.out] at h1
    rw[HPL.out,<- Hm.out]
    omega
   obtain⟨xe,hxe⟩:∃ xe:ElE P,xe.1=(L.getD j 0,L.getD (j+1) 0):=⟨⟨_,HP.out _ (List.mem_of_getElem? hat)⟩,rfl⟩
   have hsc':pairsI L=(pre ++ [xe]).map (·.1) ++ (pairsI L).drop (j+1):=by
    have h1:=hsc.out
    rw[List.drop_eq_getElem_cons (by rw[HPL.out,<- Hm.out];omega)] at h1
    rw[List.map_append,List.map_singleton,hxe,List.append_assoc]
    obtain⟨h2,h3⟩:=List.getElem?_eq_some_iff.1 hat
    rw[h3] at h1
    exact h1
   have Hsc:=Lib.hid hsc'
   have Hxe:=Lib.hid hxe
   have g1:=(hK.out.cell (o:=j) hSb).trans (Hcell.out j (by rw[<- Hm.out];omega))
   have g2:=(hK.out.cell (o:=j+1) hSb).trans (Hcell.out (j+1) (by rw[<- Hm.out];omega))
   have hlt1:j < m:=by omega
   have hlt2:j+1 < m:=by omega
   clear hat hsc' hxe hsc
   have HY:=Lib.hid (fun q=>hY pre xe (wr.drewN q) (hJd _ _ _ hJ) hlen)
   generalize L.getD j 0=va at g1 Hxe
   generalize L.getD (j+1) 0=vb at g2 Hxe
   have f1:IntKind.i64.wrap ((j:Int)+1)=((j+1:Nat):Int):=by rw[wrap_in (by omega) (by omega)];omega
   have i0:(0:Int)<=(j:Int):=by omega
   have i1:(j:Int) < (m:Int):=by omega
   have i2:(0:Int)<=((j+1:Nat):Int):=by omega
   have i3:((j+1:Nat):Int) < (m:Int):=by omega
   gi_wp2
   refine region_tail (Wd.wide _ _) 10 (by kernel_rfl) (by kernel_rfl) (fun w'=>∃ q,w'=wr.drewN q) ⟨1,rfl⟩ (fun a'=>a' = ?A) ?h ?t
   case h =>
    simp only[muteT,List.take_succ_cons,List.take_zero,List.drop_succ_cons,List.drop_zero,List.map_cons,List.map_nil,List.cons_append,List.nil_append]
    repeat (first | refine wpQuiet_mute ?_ | go_big_quiet_step (fail))
    refine wpQuiet_nil ?_
    rfl
   case t =>
    rintro _ w' ⟨q,rfl⟩ rfl
    simp only[List.drop_succ_cons,List.drop_zero]
    obtain⟨fn,tmps,assign,body,hy,hR⟩:=HY.out q
    rw[Hxe.out] at hy
    dsimp only at hy
    gi_wp2
    refine hR.mono ?_
    rintro e W3 (⟨rfl,hJ3,hk3⟩ | ⟨rfl,hJx3⟩)
    ·have hK3:KpE S W W3:=hK.out.trans hk3
     gi_wp2
     go_roundw
     case rel=>exact⟨j+1,pre ++ [xe],by go_num,by omega,Hsc,hJ3,Lib.hid hK3⟩
     case measure=>simp[intOf];omega
    ·gi_wp2
     refine bodyPost_ret (results_none rfl _ _ _) rfl ?_
     refine⟨⟨_,rfl⟩,.inr ⟨pre ++ [xe],?_,hJx3⟩⟩
     rw[Hsc.out]
     exact List.prefix_append _ _
  ·have hge:m - 1<=j:=by omega
   gi_wp2
   go_end0
   refine⟨⟨_,rfl⟩,.inl ⟨pre,?_,hJ⟩⟩
   have h1:=hsc.out
   rw[List.drop_eq_nil_of_le (by rw[HPL.out,<- Hm.out];omega),List.append_nil] at h1
   exact h1.symm
end Go.Proofs.YtgplnekpgdhcpaaGreat
