/- Maps keyed by numbers, as functions. The first place of which a test holds: plain Lean. slices.IndexFunc, slices.ContainsFunc at api.Want: walks. (Printed by gen/idx.py.) flow.together: its walk. Lists of api.Use as they stand in memory; storemankit's equality of them: its walk. (Printed by gen/kinds.py.) For flow.fill: frames, and the plain steps. For flow.fill: more frames, and the passes. -/
import Derived.Test.YtgplnekpgdhcpaaGreatKMap
import Derived.Test.YtgplnekpgdhcpaaGreatQBridge
import Derived.Test.YtgplnekpgdhcpaaGreatQPick
import Derived.Shelf.SlLaysF0
import Derived.Test.YtgplnekpgdhcpaaGreatQFill
import Derived.Test.YtgplnekpgdhcpaaGreatQEnds
import Derived.Laws.StructEq
import Derived.StillTailTactics
namespace Go.Proofs.YtgplnekpgdhcpaaGreat
open Go.RowKit Go.Maps
def updV (f:Int->Value) (i:Int) (v:Value):Int->Value:=fun j=>if j=i then v else f j
theorem updV_same (f:Int->Value) (i:Int) (v:Value):updV f i v i=v:=by unfold updV;rw[if_pos rfl]
theorem updV_other (f:Int->Value) {i j:Int} (v:Value) (h:j≠i):updV f i v j=f j:=by unfold updV;rw[if_neg h]
def MI (w:World) (b n:Nat) (z:Value) (f:Int->Value):Prop:=∃ D,w.ownsMap Tryz.prog 3 RVal b n D/\∀ s,D.atKey (.int .i64 s) (.held z) = .held (f s)
theorem ikey:Keyed Tryz.prog 3:=int_keyed Tryz.underlying3
theorem ikey_of (s:Int) (h1:-9223372036854775808<=s) (h2:s<=9223372036854775807):keyOf Tryz.prog 3 (.int .i64 s)=some (.int .i64 s) :=
 keyOf_int_mk Tryz.underlying3 (by
  have e1:IntKind.i64.min = -9223372036854775808:=by decide
  have e2:IntKind.i64.max=9223372036854775807:=by decide
  simp only[Lit.wf,Bool.and_eq_true,decide_eq_true_eq,e1,e2]
  exact⟨h1,h2⟩)
theorem MI.made (w:World) (z:Value):MI (w.alloc (.map #[] 0)) w.heap.size 0 z (fun _=>z):=⟨_,World.ownsMap_made _ _ _ _,fun _=>rfl⟩
section
variable {w w':World} {b n:Nat} {z:Value} {f:Int->Value}
theorem MI.lt (h:MI w b n z f):b < w.heap.size:=by
 obtain⟨D,h1,-⟩:=h
 exact h1.lt
theorem MI.kept (h:MI w b n z f) {row:Option Nat} (hg:w.grownBy w' row) (hne:some b≠row):MI w' b n z f:=by
 obtain⟨D,h1,h2⟩:=h
 exact⟨D,h1.kept hg hne,h2⟩
theorem MI.block (h:MI w b n z f) (hb:w'.heap[b]? = w.heap[b]?):MI w' b n z f:=by
 obtain⟨D,⟨es,clock,h1,h2⟩,h3⟩:=h
 exact⟨D,⟨es,clock,hb.trans h1,h2⟩,h3⟩
theorem MI.below (h:MI w b n z f) {B:Nat} (hb:Below B w w') (hB:b < B):MI w' b n z f:=h.block (hb.block b hB)
theorem MI.look (h:MI w b n z f) {t e:TypeId} (ht:Tryz.prog.underlying t=some (.map 3 e)) (hz:(zeroValue e).run Tryz.prog w = .ok z w) (s:Int) (h1:-9223372036854775808<=s) (h2:s<=9223372036854775807) :
  (Instr.lookup t (.map (some b)) (.int .i64 s) false).run Tryz.prog w = .ok (f s) w:=by
 obtain⟨D,h3,h4⟩:=h
 obtain⟨v,ps,hrun,hv⟩:=h3.lookup ikey ht hz (zd:=.held z) (zp:=[]) rfl (ikey_of s h1 h2)
 rw[h4 s] at hv
 cases hv
 exact hrun
theorem MI.put (h:MI w b n z f) {t e:TypeId} (ht:Tryz.prog.underlying t=some (.map 3 e)) (hn:n < 9223372036854775807) (s:Int) (h1:-9223372036854775808<=s) (h2:s<=9223372036854775807) (v:Value) :
  ∃ w',(Instr.mapUpdate t (.map (some b)) (.int .i64 s) v).run Tryz.prog w = .ok () w'/\MI w' b (n+1) z (updV f s v)/\w.grownBy w' (some b):=by
 obtain⟨D,h3,h4⟩:=h
 obtain⟨w',hrun,r1,r2⟩:=h3.update ikey ht (by simpa [maxLen] using hn) (ikey_of s h1 h2) (val:=v) (d:=.held v) (ps:=[]) rfl
 refine⟨w',hrun,⟨_,r1,fun x=>?_⟩,r2⟩
 by_cases e:x=s
 ·subst e
  rw[atKey_put_same h3.isMap (show WideAt.IsKeyLit (.int .i64 x) by trivial),updV_same]
 ·rw[atKey_put_other (fun e2=>e (by cases e2;rfl)),h4,updV_other _ _ e]
end
theorem wpList_put_mi {w:World} {ops:Array Oper} {rest:List Oper} {o:Oper} {a:Act} {Q:Exit->Act->World->Prop} (hgd:o.guard=none) (m x v:Operand) (t:TypeId) (ho:o.op = .mapUpdate t m x v) {e:TypeId}
  (ht:Tryz.prog.underlying t=some (.map 3 e)) {b n:Nat} {z:Value} {f:Int->Value} (h:MI w b n z f) (hn:n < 9223372036854775807) (s:Int) (val:Value) (hm:a.eval m = .map (some b)) (hx:a.eval x = .int .i64 s) (hv:a.eval v=val) (h1:-9223372036854775808<=s) (h2:s<=9223372036854775807)
  (hK:∀ w',MI w' b (n+1) z (updV f s val)->w.grownBy w' (some b)->wpList Tryz.prog ops Q rest (a.put o.dst undef) w'):wpList Tryz.prog ops Q (o :: rest) a w:=by
 refine wpList_plain hgd fun K' hK'=>?_
 obtain⟨w',hrun,r1,r2⟩:=h.put ht hn s h1 h2 val
 unfold Oper.wp
 simp[execOp,ho,hm,hx,hv,hrun,Result.andThen]
 exact hK' _ _ (hK w' r1 r2)
end Go.Proofs.YtgplnekpgdhcpaaGreat
namespace Go.Proofs.YtgplnekpgdhcpaaGreat
variable {α:Type}
def idxI (p:α->Bool) (X:List α):Int:=match X.findIdx? p with
 | some i=>(i:Nat)
 | none=>-1
theorem idx_more [Inhabited α] {p:α->Bool} {X:List α} {j:Nat} (h:∀ k,k < j->p (X.getD k default)=false) (hj:p (X.getD j default)=false):∀ k,k < j+1->p (X.getD k default)=false:=fun k hk=>by
 rcases Nat.lt_or_ge k j with h1 | h1
 ·exact h k h1
 ·rw[show k=j by omega];exact hj
theorem idxI_some [Inhabited α] {p:α->Bool} {X:List α} {j:Nat} (hj:j < X.length) (h:∀ k,k < j->p (X.getD k default)=false) (hp:p (X.getD j default)=true):idxI p X=(j:Nat):=by
 unfold idxI
 have:X.findIdx? p=some j:=by
  rw[List.findIdx?_eq_some_iff_getElem]
  refine⟨hj,?_,fun k hk=>?_⟩
  ·rwa [List.getD_eq_getElem?_getD,List.getElem?_eq_getElem hj] at hp
  ·have:=h k hk
   rw[List.getD_eq_getElem?_getD,List.getElem?_eq_getElem (by omega)] at this
   simpa using this
 rw[this]
theorem idxI_none [Inhabited α] {p:α->Bool} {X:List α} (h:∀ k,k < X.length->p (X.getD k default)=false):idxI p X = -1:=by
 unfold idxI
 have:X.findIdx? p=none:=by
  rw[List.findIdx?_eq_none_iff]
  intro x hx
  obtain⟨i,hi,rfl⟩:=List.getElem_of_mem hx
  have:=h i hi
  rwa [List.getD_eq_getElem?_getD,List.getElem?_eq_getElem hi] at this
 rw[this]
theorem idxI_ge {p:α->Bool} {X:List α}:0<=idxI p X↔X.any p=true:=by
 unfold idxI
 cases h:X.findIdx? p with
 | none =>
  simp only[List.findIdx?_eq_none_iff] at h
  constructor
  ·intro h2;exact absurd h2 (by decide)
  ·intro h2
   obtain⟨x,hx,hp⟩:=List.any_eq_true.1 h2
   rw[h x hx] at hp
   cases hp
 | some i =>
  rw[List.findIdx?_eq_some_iff_getElem] at h
  obtain⟨hi,hp,-⟩:=h
  constructor
  ·intro _;exact List.any_eq_true.2 ⟨_,List.getElem_mem hi,hp⟩
  ·intro _;show (0:Int)<=(i:Nat);omega
end Go.Proofs.YtgplnekpgdhcpaaGreat
namespace Go.Proofs.YtgplnekpgdhcpaaGreat
open Go.RowKit Go.Shelf
structure IxWant (P:Program):Prop where
 fI:P.funcs[114]? = some Tryz.f114
 fC:P.funcs[83]? = some Tryz.f83
 t3:P.underlying 3=some (TypeDesc.int IntKind.i64)
 a3:∀ w,(isAgg 3).run P w = .ok false w
 z3:∀ w,(Go.sizeOf 3).run P w = .ok 1 w
 v3:∀ w,(zeroValue 3).run P w = .ok (Value.int IntKind.i64 0) w
 t4:P.underlying 4=some (TypeDesc.bool)
 a4:∀ w,(isAgg 4).run P w = .ok false w
 z4:∀ w,(Go.sizeOf 4).run P w = .ok 1 w
 v4:∀ w,(zeroValue 4).run P w = .ok (Value.bool false) w
 t22:P.underlying 35=some (TypeDesc.slice 71)
 a22:∀ w,(isAgg 35).run P w = .ok false w
 z22:∀ w,(Go.sizeOf 35).run P w = .ok 1 w
 v22:∀ w,(zeroValue 35).run P w = .ok (Value.slice none 0 0) w
 a25:∀ w,(isAgg 111).run P w = .ok false w
 z25:∀ w,(Go.sizeOf 111).run P w = .ok 1 w
 v25:∀ w,(zeroValue 111).run P w = .ok (Value.nilFunc) w
 aE:∀ w,(isAgg 71).run P w = .ok true w
 zE:∀ w,(Go.sizeOf 71).run P w = .ok 3 w
theorem ixWant_laid:IxWant Tryz.prog where
 fI:=Tryz.func114
 fC:=Tryz.func83
 t3:=Tryz.underlying3
 a3:=Tryz.isAgg3
 z3:=Tryz.sizeOf3
 v3:=Tryz.zeroValue3
 t4:=Tryz.underlying4
 a4:=Tryz.isAgg4
 z4:=Tryz.sizeOf4
 v4:=Tryz.zeroValue4
 t22:=Tryz.underlying35
 a22:=Tryz.isAgg35
 z22:=Tryz.sizeOf35
 v22:=Tryz.zeroValue35
 a25:=Tryz.isAgg111
 z25:=Tryz.sizeOf111
 v25:=Tryz.zeroValue111
 aE:=Tryz.isAgg71
 zE:=Tryz.sizeOf71
section
variable {P:Program}
set_option maxHeartbeats 1000000 in
theorem indexWant_any (L:IxWant P) (p:WantV->Bool) (fn:Nat) (cb:Array Value) (eg:∀ args w,(callFunc fn args).run P w = .ok (.enter fn args) w) (B:Nat) (a:Option Addr) (n c:Nat) (X:List WantV) (w:World) (h:wantE.In B w a n c X) (hB:B<=w.heap.size)
  (hp:∀ (W:World) (x:WantV),Below w.heap.size w W->wantE.ok x->Calls P fn (#[.agg #[encStr x.item,.int .i64 x.day,.int .i64 x.qty]] ++ cb) W fun e w'=>e = .returned (.bool (p x))/\Below W.heap.size W w') :
  Calls P 114 #[.slice a n c,.func (.func fn) #[] cb] w fun e w'=>e = .returned (.int .i64 (idxI p X))/\Below w.heap.size w w':=by
 generalize hr:idxI p X=r
 have HQ:=Lib.hid hr
 clear hr
 have hle:=h.le;have hmx:=h.mx
 have Hln:=Lib.hid h.len
 have H:=Lib.hid h
 have HP:=Lib.hid hp
 clear h hp
 have t3:=L.t3;have a3:=L.a3;have z3:=L.z3;have v3:=L.v3;have t4:=L.t4;have a4:=L.a4;have z4:=L.z4;have v4:=L.v4;have t22:=L.t22;have a22:=L.a22;have z22:=L.z22;have v22:=L.v22;have a25:=L.a25;have z25:=L.z25;have v25:=L.v25;have aE:=L.aE;have zE:=L.zE
 have u3:=run_underlying L.t3;have u4:=run_underlying L.t4;have u22:=run_underlying L.t22
 have FG:=L.fI
 go_enter FG,Tryz.ntmps114
 go_wp2_with (fail)
 go_loopw [8] (fun i wr=>∃ j:Nat,j<=n/\i = .int .i64 j/\Hid (∀ k,k < j->p (X.getD k default)=false)/\Hid (Below w.heap.size w wr)) (fun i _=>n - (intOf i).toNat)
 case atStart=>exact⟨0,Nat.zero_le _,rfl,Lib.hid (fun k hk=>absurd hk (Nat.not_lt_zero _)),Lib.hid (Below.refl _ _)⟩
 case round =>
  obtain⟨j,hj,rfl,hno,Hb⟩:=hrel
  by_cases hlt:j < n
  ·obtain⟨b,o,rfl,-,hc⟩:=wantE_at (H.out.below (Hb.out.mono hB)) (by omega)
   obtain⟨g0,g1,g2⟩:=hc j hlt
   have hok:=H.out.ok_at hlt
   clear hc
   have HC:=Lib.hid (HP.out wr (X.getD j default) Hb.out hok)
   clear hok
   cases hpx:p (X.getD j default) with
   | true =>
    have hX:=Lib.hid (idxI_some (by rw[<- Hln.out];exact hlt) hno.out hpx)
    rw[hpx] at HC
    clear hpx
    generalize X.getD j default=x at g0 g1 g2 HC
    obtain⟨x_item,x_day,x_qty⟩:=x
    simp only at g0 g1 g2 HC
    go_wp2_with (go_at_fn fn;refine HC.out.mono ?_;rintro e w9 ⟨rfl,hb9⟩)
    go_ret
    exact⟨by rw[<- HQ.out,hX.out];rfl,Hb.out.trans (hb9.mono Hb.out.size)⟩
   | false =>
    have hX:=Lib.hid (hpx)
    rw[hpx] at HC
    clear hpx
    have Hno:=Lib.hid (idx_more hno.out hX.out)
    clear hX
    generalize X.getD j default=x at g0 g1 g2 HC
    obtain⟨x_item,x_day,x_qty⟩:=x
    simp only at g0 g1 g2 HC
    go_wp2_with (go_at_fn fn;refine HC.out.mono ?_;rintro e w9 ⟨rfl,hb9⟩;have B9:=Lib.hid (Hb.out.trans (hb9.mono Hb.out.size));clear hb9)
    go_roundw
    case rel=>exact⟨j+1,by omega,by go_num,Hno,B9⟩
    case measure=>simp[intOf];omega
  ·have hge:j=n:=by omega
   have hnn:=Lib.hid (idxI_none (by rw[<- Hln.out,<- hge];exact hno.out))
   go_wp2_with (fail)
   go_ret
   exact⟨by rw[<- HQ.out,hnn.out];rfl,Hb.out⟩
theorem containsWant_any (L:IxWant P) (p:WantV->Bool) (fn:Nat) (cb:Array Value) (eg:∀ args w,(callFunc fn args).run P w = .ok (.enter fn args) w) (B:Nat) (a:Option Addr) (n c:Nat) (X:List WantV) (w:World) (h:wantE.In B w a n c X) (hB:B<=w.heap.size)
  (hp:∀ (W:World) (x:WantV),Below w.heap.size w W->wantE.ok x->Calls P fn (#[.agg #[encStr x.item,.int .i64 x.day,.int .i64 x.qty]] ++ cb) W fun e w'=>e = .returned (.bool (p x))/\Below W.heap.size W w') :
  Calls P 83 #[.slice a n c,.func (.func fn) #[] cb] w fun e w'=>e = .returned (.bool (X.any p))/\Below w.heap.size w w':=by
 have HI:=Lib.hid (indexWant_any L p fn cb eg B a n c X w h hB hp)
 generalize hr:X.any p=r
 have HQ:=Lib.hid hr
 clear hr
 clear h hB hp eg
 have t3:=L.t3;have a3:=L.a3;have z3:=L.z3;have v3:=L.v3;have t4:=L.t4;have a4:=L.a4;have z4:=L.z4;have v4:=L.v4;have t22:=L.t22;have a22:=L.a22;have z22:=L.z22;have v22:=L.v22;have a25:=L.a25;have z25:=L.z25;have v25:=L.v25;have aE:=L.aE;have zE:=L.zE
 have u3:=run_underlying L.t3;have u4:=run_underlying L.t4;have u22:=run_underlying L.t22
 have eI:∀ args w,(callFunc 114 args).run P w = .ok (.enter 114 args) w:=enters_of L.fI (by kernel_rfl) rfl
 have FG:=L.fC
 cases r with
 | true =>
  have hz:=(idxI_ge (p:=p) (X:=X)).2 HQ.out
  generalize idxI p X=z at HI hz
  go_enter FG,Tryz.ntmps83
  go_wp2_with (go_at_call 114;refine HI.out.mono ?_;rintro e w9 ⟨rfl,hb9⟩)
  go_ret
  exact⟨by first | rfl | simp[*],hb9⟩
 | false =>
  have hz:¬ 0<=idxI p X:=fun e=>by have:=(idxI_ge (p:=p) (X:=X)).1 e;rw[HQ.out] at this;cases this
  generalize idxI p X=z at HI hz
  go_enter FG,Tryz.ntmps83
  go_wp2_with (go_at_call 114;refine HI.out.mono ?_;rintro e w9 ⟨rfl,hb9⟩)
  go_ret
  exact⟨by first | rfl | simp[*],hb9⟩
end
end Go.Proofs.YtgplnekpgdhcpaaGreat
namespace Go.Proofs.YtgplnekpgdhcpaaGreat
open Go.RowKit Go.Shelf
def idsF (L:List LotV):Int->Value:=fun i=>.bool (L.any fun l=>decide (l.id=i))
theorem idsF_nil:idsF []=fun _=>.bool false:=rfl
theorem idsF_succ {L:List LotV} {j:Nat} (hj:j < L.length):idsF (L.take (j+1))=updV (idsF (L.take j)) (L.getD j default).id (.bool true):=by
 funext i
 unfold idsF updV
 rw[List.take_succ_eq_append_getElem hj,List.any_append,List.getD_eq_getElem?_getD,List.getElem?_eq_getElem hj]
 simp only[Option.getD_some,List.any_cons,List.any_nil,Bool.or_false]
 by_cases h:i=(L[j]).id
 ·rw[if_pos h,h];simp
 ·rw[if_neg h,decide_eq_false (fun e=>h e.symm),Bool.or_false]
def lotsOk (L:List LotV):Prop:=(∀ l∈L,lotOk l=true)/\(L.map (·.id)).Nodup
theorem lotsOk_more {L:List LotV} {j:Nat} (hj:j < L.length) (h:lotsOk (L.take j)) (h1:lotOk (L.getD j default)=true) (h2:((L.take j).any fun l=>decide (l.id=(L.getD j default).id))=false):lotsOk (L.take (j+1)):=by
 rw[List.getD_eq_getElem?_getD,List.getElem?_eq_getElem hj] at h1 h2
 simp only[Option.getD_some] at h1 h2
 obtain⟨k1,k2⟩:=h
 rw[List.take_succ_eq_append_getElem hj]
 refine⟨fun l hl=>?_,?_⟩
 ·rcases List.mem_append.1 hl with hl | hl
  ·exact k1 l hl
  ·rw[List.mem_singleton.1 hl];exact h1
 ·rw[List.map_append,List.nodup_append]
  refine⟨k2,by simp,fun a ha b hb e=>?_⟩
  obtain⟨l,hl,rfl⟩:=List.mem_map.1 ha
  simp only[List.map_cons,List.map_nil,List.mem_singleton] at hb
  have:=List.any_eq_false.1 h2 l hl
  rw[hb] at e
  simp[e] at this
theorem lotsOk_no1 {L:List LotV} {j:Nat} (hj:j < L.length) (h1:lotOk (L.getD j default)=false):¬ lotsOk L:=fun h=>by
 rw[List.getD_eq_getElem?_getD,List.getElem?_eq_getElem hj] at h1
 have:=h.1 L[j] (List.getElem_mem hj)
 simp only[Option.getD_some] at h1
 rw[this] at h1
 cases h1
theorem lotsOk_no2 {L:List LotV} {j:Nat} (hj:j < L.length) (h2:((L.take j).any fun l=>decide (l.id=(L.getD j default).id))=true):¬ lotsOk L:=fun h=>by
 rw[List.getD_eq_getElem?_getD,List.getElem?_eq_getElem hj] at h2
 obtain⟨l,hl,he⟩:=List.any_eq_true.1 h2
 have hn:=h.2
 rw[<- List.take_append_drop j L,List.drop_eq_getElem_cons hj,List.map_append,List.nodup_append] at hn
 exact hn.2.2 l.id (List.mem_map_of_mem hl) L[j].id (by rw[List.map_cons];exact List.mem_cons_self) (by simpa using he)
theorem mayB_eq {L:List LotV} {W:List WantV} (h1:L.length<=300) (h2:W.length<=20000) (h3:lotsOk L):mayB L W = !(W.any fun w=>!wantOk w):=by
 have e:W.all wantOk = !(W.any fun w=>!wantOk w):=by simp[List.all_eq_not_any_not]
 rw[<- e]
 cases h:W.all wantOk with
 | true=>exact mayB_iff.2 ⟨h1,h2,h3.1,h3.2,List.all_eq_true.1 h⟩
 | false =>
  cases hm:mayB L W with
  | false=>rfl
  | true =>
   have:=List.all_eq_true.2 (mayB_iff.1 hm).2.2.2.2
   rw[this] at h
   cases h
theorem mayB_not {L:List LotV} {W:List WantV} (h:¬ (L.length<=300/\W.length<=20000/\lotsOk L)):mayB L W=false:=by
 cases hm:mayB L W with
 | false=>rfl
 | true =>
  obtain⟨k1,k2,k3,k4,-⟩:=mayB_iff.1 hm
  exact absurd ⟨k1,k2,k3,k4⟩ h
theorem zeroBool (w:World):(zeroValue 4).run Tryz.prog w = .ok (.bool false) w:=by kernel_rfl
set_option maxHeartbeats 2000000 in
theorem together_any (B:Nat) (a a2:Option Addr) (n c n2 c2:Nat) (L:List LotV) (W:List WantV) (w:World) (hl:lotE.In B w a n c L) (hw:wantE.In B w a2 n2 c2 W) (hB:B<=w.heap.size) :
  Calls Tryz.prog 80 #[.slice a n c,.slice a2 n2 c2] w fun e w'=>e = .returned (.bool (mayB L W))/\Below w.heap.size w w':=by
 generalize hr:mayB L W=r
 have HQ:=Lib.hid hr
 clear hr
 have hle:=hl.le;have hmx:=hl.mx;have hle2:=hw.le;have hmx2:=hw.mx
 have Hln:=Lib.hid hl.len
 have Hln2:=Lib.hid hw.len
 have HL:=Lib.hid hl
 have HW:=Lib.hid hw
 have HR:=Lib.hid lotRight_any
 have HC:=Lib.hid (fun (v:World) (hb:Below w.heap.size w v)=>containsWant_any ixWant_laid (fun x=>!wantOk x) 112 #[] (enters_of Tryz.func112 (by kernel_rfl) rfl) w.heap.size a2 n2 c2 W v ((hw.mono hB).below hb) hb.size (fun V x _ hok=>by
  have:=wantBad_any x hok.1 V
  simpa [WantV.val] using this))
 clear hl hw
 have hmk:=@run_makeMap Tryz.prog
 by_cases h1:300 < n
 ·have E:=Lib.hid (mayB_not (L:=L) (W:=W) (fun h=>by have:=Hln.out;omega))
  go_enter Tryz.func80,Tryz.ntmps80
  go_wp2_with (fail)
  go_ret
  exact⟨by rw[<- HQ.out,E.out];rfl,Below.refl _ _⟩
 ·by_cases h2:20000 < n2
  ·have E:=Lib.hid (mayB_not (L:=L) (W:=W) (fun h=>by have:=Hln2.out;omega))
   go_enter Tryz.func80,Tryz.ntmps80
   go_wp2_with (fail)
   go_ret
   exact⟨by rw[<- HQ.out,E.out];rfl,Below.refl _ _⟩
  ·go_enter Tryz.func80,Tryz.ntmps80
   go_wp2_with (fail)
   have hM0:=Lib.hid (MI.made w (.bool false))
   have hB0:Hid (Below w.heap.size w (w.alloc (.map #[] 0))):=Lib.hid ((Below.refl _ w).alloc (Nat.le_refl _) _)
   go_loopw [19] (fun s19 wr=>∃ j:Nat,s19 = .int .i64 j/\j<=n/\Hid (MI wr w.heap.size j (.bool false) (idsF (L.take j)))/\Hid (lotsOk (L.take j))/\Hid (Below w.heap.size w wr)) (fun s19 _=>n - (intOf s19).toNat)
   case atStart=>exact⟨0,rfl,Nat.zero_le _,by rw[List.take_zero,idsF_nil];exact hM0,Lib.hid ⟨fun l hl=>by simp at hl,by simp⟩,hB0⟩
   case round =>
    obtain⟨j,rfl,hj,HM,HO,Hb⟩:=hrel
    clear hM0 hB0
    by_cases hlt:j < n
    ·obtain⟨b,o,rfl,hbB,hc⟩:=lotE_at (HL.out.below (Hb.out.mono hB)) (by omega)
     obtain⟨g0,g1,g2,g3,g4,g5⟩:=hc j hlt
     have hok:=Lib.hid (HL.out.ok_at hlt)
     clear hc
     have hjL:=Lib.hid (show j < L.length by rw[<- Hln.out];exact hlt)
     have Hsucc:=Lib.hid (idsF_succ hjL.out)
     have Hmore:=Lib.hid (lotsOk_more hjL.out HO.out)
     have Hno1:=Lib.hid (lotsOk_no1 hjL.out)
     have Hno2:=Lib.hid (lotsOk_no2 hjL.out)
     generalize L.getD j default=x at g0 g1 g2 g3 g4 g5 hok Hsucc Hmore Hno1 Hno2
     obtain⟨hok1,hok2,hok3,hok4,hok5⟩:=hok.out
     obtain⟨id,item,fr,un,qty,arr⟩:=x
     simp only at g0 g1 g2 g3 g4 g5 hok1 hok2
     have hid1:=hok1.1
     have hid2:=hok1.2
     have hit:=hok2
     unfold encStr at g1
     obtain⟨W1,hW1⟩:∃ V,V=wr.alloc (.cells #[.int .i64 id,.string ⟨item.toArray⟩,.int .i64 fr,.int .i64 un,.int .i64 qty,.bool arr] 50):=⟨_,rfl⟩
     have bW1:Below wr.heap.size wr W1:=by rw[hW1];exact (Below.refl _ wr).alloc (Nat.le_refl _) _
     have z0:W1.cell? ⟨wr.heap.size,0,none⟩=some (.int .i64 id):=by rw[hW1];simp
     have y0:W1.cell? ⟨wr.heap.size,0,none⟩=some (.int .i64 id):=by rw[hW1];simp
     have y1:W1.cell? ⟨wr.heap.size,1,none⟩=some (.string ⟨item.toArray⟩):=by rw[hW1];simp
     have y2:W1.cell? ⟨wr.heap.size,2,none⟩=some (.int .i64 fr):=by rw[hW1];simp
     have y3:W1.cell? ⟨wr.heap.size,3,none⟩=some (.int .i64 un):=by rw[hW1];simp
     have y4:W1.cell? ⟨wr.heap.size,4,none⟩=some (.int .i64 qty):=by rw[hW1];simp
     have y5:W1.cell? ⟨wr.heap.size,5,none⟩=some (.bool arr):=by rw[hW1];simp
     have hs1:W1.heap.size=wr.heap.size+1:=by rw[hW1,World.size_alloc]
     have HX:Hid (∀ V,Below W1.heap.size W1 V->V.cell? ⟨wr.heap.size,0,none⟩=some (.int .i64 id)/\MI V w.heap.size j (.bool false) (idsF (L.take j))/\Below w.heap.size w V/\wr.heap.size < V.heap.size):=Lib.hid fun V hb=>⟨(hb.cell (p:=⟨wr.heap.size,0,none⟩) (by show wr.heap.size < _;omega)).trans z0,(HM.out.below bW1 HM.out.lt).below hb (by have:=HM.out.lt;omega),(Hb.out.trans (bW1.mono Hb.out.size)).trans (hb.mono (by have:=Hb.out.size;omega)),by have:=hb.size;omega⟩
     have HRx:=Lib.hid (HR.out ⟨id,item,fr,un,qty,arr⟩ hit W1)
     unfold LotV.val encStr at HRx
     simp only at HRx
     have HW1:=Lib.hid hW1
     have HID:=Lib.hid (And.intro hid1 hid2)
     clear hW1 bW1 z0 hs1 hok1 hok2 hok3 hok4 hok5 hit hid1 hid2
     cases hlo:lotOk ⟨id,item,fr,un,qty,arr⟩ with
     | false =>
      rw[hlo] at HRx
      have E:=Lib.hid (mayB_not (L:=L) (W:=W) (fun h=>Hno1.out hlo h.2.2))
      clear hlo
      go_upto_region 7 with (fail)
      rw[<- HW1.out]
      go_wp2_with (go_at_call 111;refine HRx.out.mono ?_;rintro e w9 ⟨rfl,hb9⟩;obtain⟨z0,zM,zB,zs⟩:=HX.out w9 hb9;have B9:=Lib.hid zB;clear zM zB)
      go_ret
      exact⟨by rw[<- HQ.out,E.out];rfl,B9.out⟩
     | true =>
      rw[hlo] at HRx
      cases hany:(L.take j).any fun l=>decide (l.id=id) with
      | true =>
       have E:=Lib.hid (mayB_not (L:=L) (W:=W) (fun h=>Hno2.out hany h.2.2))
       have hif:Hid (idsF (L.take j) id = .bool true):=Lib.hid (by unfold idsF;rw[hany])
       clear hlo hany
       go_upto_region 7 with (fail)
       rw[<- HW1.out]
       go_wp2_with (go_at_call 111;refine HRx.out.mono ?_;rintro e w9 ⟨rfl,hb9⟩;obtain⟨z0,zM,zB,zs⟩:=HX.out w9 hb9;have B9:=Lib.hid zB;have lk:=zM.look Tryz.underlying139 (zeroBool _) id HID.out.1 HID.out.2;rw[hif.out] at lk;clear zM zB)
       go_ret
       exact⟨by rw[<- HQ.out,E.out];rfl,B9.out⟩
      | false =>
       have hmo:=Lib.hid (Hmore.out hlo hany)
       have hif:Hid (idsF (L.take j) id = .bool false):=Lib.hid (by unfold idsF;rw[hany])
       clear hlo hany
       go_upto_region 7 with (fail)
       rw[<- HW1.out]
       go_wp2_with (first | (go_at_call 111;refine HRx.out.mono ?_;rintro e w9 ⟨rfl,hb9⟩;obtain⟨z0,zM,zB,zs⟩:=HX.out w9 hb9;have B9:=Lib.hid zB;have M9:=Lib.hid zM;have lk:=zM.look Tryz.underlying139 (zeroBool _) id HID.out.1 HID.out.2;rw[hif.out] at lk;clear zM zB) | (at_mapUpdate;refine wpList_put_mi rfl _ _ _ 139 rfl Tryz.underlying139 M9.out (by omega) id (.bool true) rfl rfl rfl HID.out.1 HID.out.2 ?_;intro w10 hM10 hg10;have M10:=Lib.hid hM10;have B10:=Lib.hid (B9.out.grown hg10 B9.out.size (fun k e=>by have:=Option.some.inj e;omega));clear hM10 hg10))
       go_roundw
       case rel=>exact⟨j+1,by go_num,by omega,by rw[Hsucc.out];exact M10,hmo,B10⟩
       case measure=>simp[intOf];omega
    ·have hge:j=n:=by omega
     have hlo:=Lib.hid (show lotsOk L by have:=HO.out;rwa [List.take_of_length_le (by have:=Hln.out;omega)] at this)
     have HCC:=Lib.hid (HC.out wr Hb.out)
     have E:=Lib.hid (mayB_eq (by have:=Hln.out;omega) (by have:=Hln2.out;omega) hlo.out:mayB L W=_)
     generalize (W.any fun x=>!wantOk x)=bb at HCC E
     go_wp2_with (go_at_call 83;refine HCC.out.mono ?_;rintro e w9 ⟨rfl,hb9⟩)
     go_ret
     exact⟨by rw[<- HQ.out,E.out];rfl,Hb.out.trans (hb9.mono Hb.out.size)⟩
end Go.Proofs.YtgplnekpgdhcpaaGreat
namespace Go.Proofs.YtgplnekpgdhcpaaGreat
open Go.RowKit
def encUse (x:UseV):List Value:=[.int .i64 x.want,.int .i64 x.lot,.int .i64 x.qty]
def okUse (x:UseV):Prop:=(-9223372036854775808<=x.want/\x.want<=9223372036854775807)/\(-9223372036854775808<=x.lot/\x.lot<=9223372036854775807)/\(-9223372036854775808<=x.qty/\x.qty<=9223372036854775807)
set_option maxRecDepth 100000 in
theorem useE_under:Tryz.prog.underlying 81=some (.slice 106):=Tryz.underlying81
theorem useE_info:(Tryz.prog.info? 106).map (fun i=>(i.zero,i.size,i.bytes))=some (some (.agg #[.int .i64 0,.int .i64 0,.int .i64 0]),3,24):=by kernel_rfl
def useE:El UseV where
 e:=106
 t:=81
 k:=3
 bytes:=24
 z:=.agg #[.int .i64 0,.int .i64 0,.int .i64 0]
 enc:=encUse
 ok:=okUse
 len:=fun _=>rfl
 one:=fun x u hu=>by
  unfold encUse at hu
  simp only[List.mem_cons,List.not_mem_nil,or_false] at hu
  rcases hu with rfl | rfl | rfl <;> rfl
 kpos:=by decide
 under:=useE_under
 info:=useE_info
 zc:=rfl
 small:=by decide
theorem useE_lit (W:World) (x:UseV) (t:TypeId):∀ j u,(useE.cells [x])[j]? = some u->(W.alloc (.cells #[.int .i64 x.want,.int .i64 x.lot,.int .i64 x.qty] t)).cell? ((⟨W.heap.size,0,none⟩:Addr).add j)=some u:=El.one_lit (E:=useE) W x _ t rfl
end Go.Proofs.YtgplnekpgdhcpaaGreat
namespace Go.Proofs.YtgplnekpgdhcpaaGreat
open Go.RowKit Go.Sort
theorem OnlyB.refl (g:Nat) (w:World):OnlyB g w w:=⟨rfl,rfl,rfl,Nat.le_refl _,fun _ _ _=>rfl⟩
theorem OnlyB.below {g:Nat} {w w' w2:World} (h:OnlyB g w w') (hb:Below w'.heap.size w' w2):OnlyB g w w2 :=
 ⟨hb.os.trans h.os,hb.tape.trans h.tape,hb.output.trans h.output,Nat.le_trans h.size hb.size,fun b h1 h2=>(hb.block b (by have:=h.size;omega)).trans (h.block b h1 h2)⟩
theorem OnlyB.grown {g:Nat} {w w' w2:World} {row:Option Nat} (h:OnlyB g w w') (hg:w'.grownBy w2 row) (hr:∀ b,row=some b->b=g∨w.heap.size<=b):OnlyB g w w2:=by
 obtain⟨k1,k2,k3,k4,k5⟩:=hg
 refine⟨k1.trans h.os,k2.trans h.tape,k3.trans h.output,Nat.le_trans h.size k4,fun b h1 h2=>?_⟩
 rw[k5 b (by have:=h.size;omega) (fun e=>by rcases hr b e.symm with h3 | h3 <;> omega)]
 exact h.block b h1 h2
theorem OnlyB.belowB {g B:Nat} {w w':World} (h:OnlyB g w w') (hB:B<=w.heap.size) (hg:B<=g):Below B w w':=⟨h.os,h.tape,h.output,h.size,fun k hk=>h.block k (by omega) (by omega)⟩
theorem OnlyB.cell {g:Nat} {w w':World} (h:OnlyB g w w') {b o:Nat} (h1:b≠g) (h2:b < w.heap.size):w'.cell? ⟨b,o,none⟩=w.cell? ⟨b,o,none⟩:=by
 unfold World.cell?
 simp only[h.block b h1 h2]
def leftV (f:Int->Int):Int->Value:=fun i=>.int .i64 (f i)
theorem leftV_upd (f:Int->Int) (i v:Int):updV (leftV f) i (.int .i64 v)=leftV (upd f i v):=by
 funext j
 unfold updV leftV upd
 split <;> rfl
theorem left0_succ {S:List LotV} {j:Nat} (hj:j < S.length) (hn:(S.map (·.id)).Nodup):left0 (S.take (j+1))=upd (left0 (S.take j)) (S.getD j default).id (S.getD j default).qty:=by
 funext i
 rw[List.take_succ_eq_append_getElem hj,List.getD_eq_getElem?_getD,List.getElem?_eq_getElem hj]
 simp only[Option.getD_some]
 unfold left0 upd
 rw[List.find?_append]
 have hno:∀ l∈S.take j,l.id≠(S[j]).id:=fun l hl e=>by
  rw[<- List.take_append_drop j S,List.drop_eq_getElem_cons hj,List.map_append,List.nodup_append] at hn
  exact hn.2.2 l.id (List.mem_map_of_mem hl) S[j].id (by rw[List.map_cons];exact List.mem_cons_self) e
 by_cases h:i=(S[j]).id
 ·rw[if_pos h]
  have:(S.take j).find? (fun l=>decide (l.id=i))=none:=by
   rw[List.find?_eq_none]
   intro l hl
   rw[h]
   simp[hno l hl]
  rw[this,List.find?_singleton]
  simp[h]
 ·rw[if_neg h]
  have:[S[j]].find? (fun l=>decide (l.id=i))=none:=by
   rw[List.find?_singleton]
   simp[Ne.symm h]
  rw[this,Option.or_none]
theorem left0_perm {S L:List LotV} (hp:S.Perm L) (hn:(L.map (·.id)).Nodup):left0 S=left0 L:=by
 funext i
 have hnS:(S.map (·.id)).Nodup:=(hp.map _).nodup_iff.2 hn
 by_cases h:∃ l∈L,l.id=i
 ·obtain⟨l,hl,rfl⟩:=h
  rw[left0_of hn hl,left0_of hnS (hp.mem_iff.2 hl)]
 ·have h1:L.find? (fun l=>decide (l.id=i))=none:=by
   rw[List.find?_eq_none]
   intro l hl
   simpa using fun e=>h ⟨l,hl,e⟩
  have h2:S.find? (fun l=>decide (l.id=i))=none:=by
   rw[List.find?_eq_none]
   intro l hl
   simpa using fun e=>h ⟨l,hp.mem_iff.1 hl,e⟩
  unfold left0
  rw[h1,h2]
def ofI (S:List LotV) (t:List UInt8):List LotV:=S.filter fun l=>decide (l.item=t)
theorem ofI_succ {S:List LotV} {j:Nat} (hj:j < S.length) (t:List UInt8):ofI (S.take (j+1)) t=if (S.getD j default).item=t then ofI (S.take j) t ++ [S.getD j default] else ofI (S.take j) t:=by
 unfold ofI
 rw[List.take_succ_eq_append_getElem hj,List.filter_append,List.getD_eq_getElem?_getD,List.getElem?_eq_getElem hj]
 simp only[Option.getD_some,List.filter_cons,List.filter_nil,decide_eq_true_eq]
 split <;> simp
structure Items (base:Nat) (w:World) (f:List UInt8->Value) (S:List LotV):Prop where
 own:∀ t,lotE.Own base w (f t) (ofI S t)
 apart:∀ t u b,t≠u->(f t).ownBlock=some b->(f u).ownBlock≠some b
theorem Items.nil (base:Nat) (w:World):Items base w (fun _=>.slice none 0 0) []:=⟨fun _=>El.Own.nil _ _ _,fun t u b _ h=>by cases h⟩
theorem Items.keep {base:Nat} {w w':World} {f:List UInt8->Value} {S:List LotV} (h:Items base w f S) (hk:∀ t b,(f t).ownBlock=some b->w'.heap[b]? = w.heap[b]?):Items base w' f S :=
 ⟨fun t=>(h.own t).keep (hk t),h.apart⟩
theorem Items.below {base:Nat} {w w':World} {f:List UInt8->Value} {S:List LotV} (h:Items base w f S) (hb:Below w.heap.size w w'):Items base w' f S :=
 h.keep fun t b e=>hb.block b ((h.own t).ge b e).2
theorem Items.more {base:Nat} {w w':World} {f:List UInt8->Value} {S:List LotV} {j:Nat} (hj:j < S.length) (h:Items base w f (S.take j)) {v:Value} (ho:lotE.Own base w' v (ofI (S.take j) (S.getD j default).item ++ [S.getD j default])) (hg:w.grownBy w' (f (S.getD j default).item).ownBlock) (hv:v.ownBlock=(f (S.getD j default).item).ownBlock∨∀ b,v.ownBlock=some b->w.heap.size<=b):Items base w' (setO f (S.getD j default).item v) (S.take (j+1)):=by
 obtain⟨k1,k2,k3,k4,k5⟩:=hg
 refine⟨fun t=>?_,fun t u b hne=>?_⟩
 ·rw[ofI_succ hj]
  by_cases e:(S.getD j default).item=t
  ·subst e
   rw[if_pos rfl,setO_same]
   exact ho
  ·rw[if_neg e,setO_other _ (fun h2=>e h2.symm)]
   refine (h.own t).keep fun b hb=>k5 b ((h.own t).ge b hb).2 fun e2=>?_
   exact h.apart t _ b (fun h3=>e h3.symm) hb e2.symm
 ·by_cases e:t=(S.getD j default).item
  ·subst e
   rw[setO_same,setO_other _ (fun h2=>hne h2.symm)]
   intro hb hc
   rcases hv with hv | hv
   ·rw[hv] at hb
    exact h.apart _ u b hne hb hc
   ·have:=hv b hb
    have:=((h.own u).ge b hc).2
    omega
  ·rw[setO_other _ e]
   by_cases e2:u=(S.getD j default).item
   ·subst e2
    rw[setO_same]
    intro hb hc
    rcases hv with hv | hv
    ·rw[hv] at hc
     exact h.apart t _ b e hb hc
    ·have:=hv b hc
     have:=((h.own t).ge b hb).2
     omega
   ·rw[setO_other _ e2]
    exact h.apart t u b hne
end Go.Proofs.YtgplnekpgdhcpaaGreat
namespace Go.Proofs.YtgplnekpgdhcpaaGreat
open Go.RowKit Go.Sort Go.Shelf
theorem zeroLots (w:World):(zeroValue 23).run Tryz.prog w = .ok (.slice none 0 0) w:=by kernel_rfl
theorem zeroI64 (w:World):(zeroValue 2).run Tryz.prog w = .ok (.int .i64 0) w:=by kernel_rfl
theorem okCode_le {l:List UInt8} (h:okCode l=true):l.length<=12:=by
 rcases Nat.lt_or_ge 12 l.length with h1 | h1
 ·rw[okCode_len (by omega)] at h;cases h
 ·exact h1
structure Only2 (g g2:Nat) (w w':World):Prop where
 os:w'.os=w.os
 tape:w'.tape=w.tape
 output:w'.output=w.output
 size:w.heap.size<=w'.heap.size
 block:∀ b,b≠g->b≠g2->b < w.heap.size->w'.heap[b]? = w.heap[b]?
theorem Only2.refl (g g2:Nat) (w:World):Only2 g g2 w w:=⟨rfl,rfl,rfl,Nat.le_refl _,fun _ _ _ _=>rfl⟩
theorem Only2.below {g g2:Nat} {w w' w2:World} (h:Only2 g g2 w w') (hb:Below w'.heap.size w' w2):Only2 g g2 w w2 :=
 ⟨hb.os.trans h.os,hb.tape.trans h.tape,hb.output.trans h.output,Nat.le_trans h.size hb.size,fun b h1 h3 h2=>(hb.block b (by have:=h.size;omega)).trans (h.block b h1 h3 h2)⟩
theorem Only2.grown {g g2:Nat} {w w' w2:World} {row:Option Nat} (h:Only2 g g2 w w') (hg:w'.grownBy w2 row) (hr:∀ b,row=some b->b=g∨b=g2∨w.heap.size<=b):Only2 g g2 w w2:=by
 obtain⟨k1,k2,k3,k4,k5⟩:=hg
 refine⟨k1.trans h.os,k2.trans h.tape,k3.trans h.output,Nat.le_trans h.size k4,fun b h1 h3 h2=>?_⟩
 rw[k5 b (by have:=h.size;omega) (fun e=>by rcases hr b e.symm with h4 | h4 | h4 <;> omega)]
 exact h.block b h1 h3 h2
theorem Only2.belowB {g g2 B:Nat} {w w':World} (h:Only2 g g2 w w') (hB:B<=w.heap.size) (hg:B<=g) (hg2:B<=g2):Below B w w':=⟨h.os,h.tape,h.output,h.size,fun k hk=>h.block k (by omega) (by omega) (by omega)⟩
theorem lot_own_cells {base g n c:Nat} {w:World} {X:List LotV} (h:lotE.Own base w (.slice (some ⟨g,0,none⟩) n c) X) {i:Nat} (hi:i < n):w.cell? ⟨g,i * 6,none⟩=some (.int .i64 (X.getD i default).id)/\w.cell? ⟨g,i * 6+1,none⟩=some (encStr (X.getD i default).item)/\w.cell? ⟨g,i * 6+2,none⟩=some (.int .i64 (X.getD i default).fr)/\w.cell? ⟨g,i * 6+3,none⟩=some (.int .i64 (X.getD i default).un)/\w.cell? ⟨g,i * 6+4,none⟩=some (.int .i64 (X.getD i default).qty)/\w.cell? ⟨g,i * 6+5,none⟩=some (.bool (X.getD i default).arr):=by
 obtain⟨-,-,-,-,-,hc⟩:=h.cell
 exact⟨hc i hi 0 (by decide),hc i hi 1 (by decide),hc i hi 2 (by decide),hc i hi 3 (by decide),hc i hi 4 (by decide),hc i hi 5 (by decide)⟩
def lotObj (id:Int) (item:List UInt8) (fr un qty:Int) (arr:Bool):Obj:=.cells #[.int .i64 id,.string ⟨item.toArray⟩,.int .i64 fr,.int .i64 un,.int .i64 qty,.bool arr] 50
theorem lotObj_cells {w:World} {p:Nat} {id:Int} {item:List UInt8} {fr un qty:Int} {arr:Bool} (h:w.heap[p]? = some (lotObj id item fr un qty arr)):w.cell? ⟨p,0,none⟩=some (.int .i64 id)/\w.cell? ⟨p,1,none⟩=some (.string ⟨item.toArray⟩)/\w.cell? ⟨p,2,none⟩=some (.int .i64 fr)/\w.cell? ⟨p,3,none⟩=some (.int .i64 un)/\w.cell? ⟨p,4,none⟩=some (.int .i64 qty)/\w.cell? ⟨p,5,none⟩=some (.bool arr):=by
 unfold lotObj at h
 refine⟨?_,?_,?_,?_,?_,?_⟩ <;> (unfold World.cell?;rw[h];rfl)
def FillPost (w:World) (L:List LotV) (W:List WantV) (e:Ending) (w':World):Prop:=Below w.heap.size w w'/\match fillX L W with
 | none=>e = .returned (.tuple #[.slice none 0 0,.map none,.bool false])
 | some (U,f)=>∃ v mb cnt,e = .returned (.tuple #[v,.map (some mb),.bool true])/\useE.Own w.heap.size w' v U/\MI w' mb cnt (.int .i64 0) (leftV f)/\cnt<=100000000
theorem FillPost.none {w w':World} {L:List LotV} {W:List WantV} {e:Ending} (hb:Below w.heap.size w w') (h:fillX L W=none) (he:e = .returned (.tuple #[.slice none 0 0,.map none,.bool false])):FillPost w L W e w':=by
 unfold FillPost
 rw[h]
 exact⟨hb,he⟩
def dropQ:Nat->Code->Code
 | n+1,.seq _ b=>dropQ n b
 | _,c=>c
def FB (S:List LotV) (f:Int->Int):Prop:=∀ l∈S,0<=f l.id/\f l.id<=1073741824
theorem rowsBase {base e size g n c m:Nat} {w:World} {xs:List Value} (h:w.ownsRow base e size (.slice (some ⟨g,0,none⟩) n c) m xs):base<=g:=(Tx.rows_ge h g rfl).1
theorem FillPost.some {w w':World} {L:List LotV} {W:List WantV} {U:List UseV} {f:Int->Int} {v:Value} {mb cnt:Nat} {e:Ending} (hb:Below w.heap.size w w') (h:fillX L W=some (U,f)) (ho:useE.Own w.heap.size w' v U) (hm:MI w' mb cnt (.int .i64 0) (leftV f)) (hc:cnt<=100000000) (he:e = .returned (.tuple #[v,.map (some mb),.bool true])):FillPost w L W e w':=by
 unfold FillPost
 rw[h]
 exact⟨hb,v,mb,cnt,he,ho,hm,hc⟩
theorem fillF_cons (S:List LotV) (W:List WantV) (i:Nat) (os:List Nat) (f:Int->Int) (out:List UseV):fillF S W (i :: os) f out=if 0 < (pass (W.getD i default).day i (ofI S (W.getD i default).item) f (W.getD i default).qty).2.2 then none else fillF S W os (pass (W.getD i default).day i (ofI S (W.getD i default).item) f (W.getD i default).qty).2.1 (out ++ (pass (W.getD i default).day i (ofI S (W.getD i default).item) f (W.getD i default).qty).1):=rfl
def wantObj (item:List UInt8) (day qty:Int):Obj:=.cells #[.string ⟨item.toArray⟩,.int .i64 day,.int .i64 qty] 71
theorem wantObj_cells {w:World} {p:Nat} {item:List UInt8} {day qty:Int} (h:w.heap[p]? = some (wantObj item day qty)):w.cell? ⟨p,0,none⟩=some (.string ⟨item.toArray⟩)/\w.cell? ⟨p,1,none⟩=some (.int .i64 day)/\w.cell? ⟨p,2,none⟩=some (.int .i64 qty):=by
 unfold wantObj at h
 refine⟨?_,?_,?_⟩ <;> (unfold World.cell?;rw[h];rfl)
theorem FB.upd {S:List LotV} {f:Int->Int} (h:FB S f) (i t:Int) (h0:0<=f i - t) (h1:f i - t<=1073741824):FB S (upd f i (f i - t)):=fun l hl=>by
 unfold Go.Proofs.YtgplnekpgdhcpaaGreat.upd
 split
 ·exact⟨h0,h1⟩
 ·exact h l hl
theorem ofI_sub {S:List LotV} {t:List UInt8} {l:LotV} (h:l∈ofI S t):l∈S:=(List.mem_filter.1 h).1
end Go.Proofs.YtgplnekpgdhcpaaGreat
