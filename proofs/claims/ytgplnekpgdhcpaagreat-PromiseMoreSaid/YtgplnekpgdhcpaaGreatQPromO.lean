/- Maps of numbers by numbers, as functions, and what they have. promise.All behind its first loop: its walk. (Printed by gen/pall.py.) What All answers: there is enough; done again it is the same; each line beside those ahead of it; one lot more. (Plain.) -/
import Derived.Test.YtgplnekpgdhcpaaGreatQFillQ
import Derived.Test.YtgplnekpgdhcpaaGreatQStM
import Derived.Test.YtgplnekpgdhcpaaGreatQROpen
import Derived.Test.YtgplnekpgdhcpaaGreatQMeet
import Derived.Test.YtgplnekpgdhcpaaGreatQLineOk
namespace Go.Proofs.YtgplnekpgdhcpaaGreat
open Go.RowKit Go.Maps
def MH (w:World) (b n:Nat) (z:Value) (f:Int->Value) (g:Int->Bool):Prop:=∃ D,w.ownsMap Tryz.prog 3 RVal b n D/\(∀ s,D.atKey (.int .i64 s) (.held z) = .held (f s))/\∀ s,Maps.has D (.int .i64 s)=g s
theorem MH.made (w:World) (z:Value):MH (w.alloc (.map #[] 0)) w.heap.size 0 z (fun _=>z) (fun _=>false):=⟨_,World.ownsMap_made _ _ _ _,fun _=>rfl,fun _=>rfl⟩
section
variable {w w':World} {b n:Nat} {z:Value} {f:Int->Value} {g:Int->Bool}
theorem MH.mi (h:MH w b n z f g):MI w b n z f:=by
 obtain⟨D,h1,h2,-⟩:=h
 exact⟨D,h1,h2⟩
theorem MH.lt (h:MH w b n z f g):b < w.heap.size:=h.mi.lt
theorem MH.block (h:MH w b n z f g) (hb:w'.heap[b]? = w.heap[b]?):MH w' b n z f g:=by
 obtain⟨D,⟨es,clock,h1,h2⟩,h3⟩:=h
 exact⟨D,⟨es,clock,hb.trans h1,h2⟩,h3⟩
theorem MH.below (h:MH w b n z f g) {B:Nat} (hb:Below B w w') (hB:b < B):MH w' b n z f g:=h.block (hb.block b hB)
theorem MH.lookOk (h:MH w b n z f g) {t e:TypeId} (ht:Tryz.prog.underlying t=some (.map 3 e)) (hz:(zeroValue e).run Tryz.prog w = .ok z w) (s:Int) (h1:-9223372036854775808<=s) (h2:s<=9223372036854775807) :
  (Instr.lookup t (.map (some b)) (.int .i64 s) true).run Tryz.prog w = .ok (.tuple #[f s,.bool (g s)]) w:=by
 obtain⟨D,h3,h4,h5⟩:=h
 obtain⟨v,ps,hrun,hv⟩:=h3.look_ok ikey ht hz (zd:=.held z) (zp:=[]) rfl (ikey_of s h1 h2)
 rw[h4 s] at hv
 cases hv
 rw[h5 s] at hrun
 exact hrun
theorem MH.put (h:MH w b n z f g) {t e:TypeId} (ht:Tryz.prog.underlying t=some (.map 3 e)) (hn:n < 9223372036854775807) (s:Int) (h1:-9223372036854775808<=s) (h2:s<=9223372036854775807) (v:Value) :
  ∃ w',(Instr.mapUpdate t (.map (some b)) (.int .i64 s) v).run Tryz.prog w = .ok () w'/\MH w' b (n+1) z (updV f s v) (fun x=>if x=s then true else g x)/\w.grownBy w' (some b):=by
 obtain⟨D,h3,h4,h5⟩:=h
 obtain⟨w',hrun,r1,r2⟩:=h3.update ikey ht (by simpa [maxLen] using hn) (ikey_of s h1 h2) (val:=v) (d:=.held v) (ps:=[]) rfl
 refine⟨w',hrun,⟨_,r1,fun x=>?_,fun x=>?_⟩,r2⟩
 ·by_cases e:x=s
  ·subst e
   rw[atKey_put_same h3.isMap (show WideAt.IsKeyLit (.int .i64 x) by trivial),updV_same]
  ·rw[atKey_put_other (fun e2=>e (by cases e2;rfl)),h4,updV_other _ _ e]
 ·by_cases e:x=s
  ·subst e
   rw[has_put_same h3.isMap (show WideAt.IsKeyLit (.int .i64 x) by trivial)]
   exact (if_pos rfl).symm
  ·rw[has_put_other (fun e2=>e (by cases e2;rfl)),h5]
   exact (if_neg e).symm
end
theorem wpList_put_mh {w:World} {ops:Array Oper} {rest:List Oper} {o:Oper} {a:Act} {Q:Exit->Act->World->Prop} (hgd:o.guard=none) (m x v:Operand) (t:TypeId) (ho:o.op = .mapUpdate t m x v) {e:TypeId}
  (ht:Tryz.prog.underlying t=some (.map 3 e)) {b n:Nat} {z:Value} {f:Int->Value} {g:Int->Bool} (h:MH w b n z f g) (hn:n < 9223372036854775807) (s:Int) (val:Value) (hm:a.eval m = .map (some b)) (hx:a.eval x = .int .i64 s) (hv:a.eval v=val) (h1:-9223372036854775808<=s) (h2:s<=9223372036854775807)
  (hK:∀ w',MH w' b (n+1) z (updV f s val) (fun x=>if x=s then true else g x)->w.grownBy w' (some b)->wpList Tryz.prog ops Q rest (a.put o.dst undef) w'):wpList Tryz.prog ops Q (o :: rest) a w:=by
 refine wpList_plain hgd fun K' hK'=>?_
 obtain⟨w',hrun,r1,r2⟩:=h.put ht hn s h1 h2 val
 unfold Oper.wp
 simp[execOp,ho,hm,hx,hv,hrun,Result.andThen]
 exact hK' _ _ (hK w' r1 r2)
end Go.Proofs.YtgplnekpgdhcpaaGreat
namespace Go.Proofs.YtgplnekpgdhcpaaGreat
open Go.RowKit Go.Sort Go.Lib Go.Shelf
structure Kp2 (g1 g2:Nat) (w w':World):Prop where
 os:w'.os=w.os
 tape:w'.tape=w.tape
 output:w'.output=w.output
 size:w.heap.size<=w'.heap.size
 block:∀ b,b≠g1->b≠g2->b < w.heap.size->w'.heap[b]? = w.heap[b]?
theorem Kp2.refl (g1 g2:Nat) (w:World):Kp2 g1 g2 w w:=⟨rfl,rfl,rfl,Nat.le_refl _,fun _ _ _ _=>rfl⟩
theorem Kp2.below {g1 g2:Nat} {w w1 w2:World} (h:Kp2 g1 g2 w w1) (hb:Below w1.heap.size w1 w2):Kp2 g1 g2 w w2:=⟨hb.os.trans h.os,hb.tape.trans h.tape,hb.output.trans h.output,Nat.le_trans h.size hb.size,fun b e1 e2 hl=>(hb.block b (Nat.lt_of_lt_of_le hl h.size)).trans (h.block b e1 e2 hl)⟩
theorem Kp2.grown {g1 g2:Nat} {w w1 w2:World} {row:Option Nat} (h:Kp2 g1 g2 w w1) (hg:w1.grownBy w2 row) (hr:∀ b,row=some b->w.heap.size<=b):Kp2 g1 g2 w w2:=⟨hg.os.trans h.os,hg.tape.trans h.tape,hg.output.trans h.output,Nat.le_trans h.size hg.size,fun b e1 e2 hl=>(hg.block b (Nat.lt_of_lt_of_le hl h.size) (fun e=>by have:=hr b e.symm;omega)).trans (h.block b e1 e2 hl)⟩
theorem Kp2.set {g1 g2:Nat} {w w1:World} (h:Kp2 g1 g2 w w1) {p:Nat} (hp:p=g1∨p=g2) (k:Nat) (v:Value):Kp2 g1 g2 w (w1.setCell ⟨p,k,none⟩ v) :=
 ⟨h.os,h.tape,h.output,by rw[size_setCellI];exact h.size,fun b e1 e2 hl=>(setCell_block _ _ _ _ (by rcases hp with e | e <;> rw[e] <;> assumption)).trans (h.block b e1 e2 hl)⟩
theorem Kp2.out {g1 g2 B:Nat} {w0 w w1:World} (h:Kp2 g1 g2 w w1) (hb:Below B w0 w) (h1:B<=g1) (h2:B<=g2) (hB:B<=w.heap.size):Below B w0 w1 :=
 ⟨h.os.trans hb.os,h.tape.trans hb.tape,h.output.trans hb.output,Nat.le_trans hb.size h.size,fun b hl=>(h.block b (by omega) (by omega) (by omega)).trans (hb.block b hl)⟩
def put8L (W:World) (g i:Nat) (id:Int) (item:List UInt8) (qty asked rank st day:Int) (code:List UInt8):World:=(((((((W.setCell ⟨g,i * 8,none⟩ (.int .i64 id)).setCell ⟨g,i * 8+1,none⟩ (.string ⟨item.toArray⟩)).setCell ⟨g,i * 8+2,none⟩ (.int .i64 qty)).setCell ⟨g,i * 8+3,none⟩ (.int .i64 asked)).setCell ⟨g,i * 8+4,none⟩ (.int .i64 rank)).setCell ⟨g,i * 8+5,none⟩ (.int .u8 st)).setCell ⟨g,i * 8+6,none⟩ (.int .i64 day)).setCell ⟨g,i * 8+7,none⟩ (.string ⟨code.toArray⟩)
theorem own_set8 {base g n c:Nat} {w:World} {Y:List LineV} (h:lineE.Own base w (.slice (some ⟨g,0,none⟩) n c) Y) {i:Nat} (hi:i < n) (id:Int) (item:List UInt8) (qty asked rank st day:Int) (code:List UInt8):lineE.Own base (put8L w g i id item qty asked rank st day code) (.slice (some ⟨g,0,none⟩) n c) (Y.set i ⟨id,item,qty,asked,rank,st,day,code⟩):=by
 have hl:=(h.cell).1
 obtain⟨y1,y2,y3,y4,y5,y6,y7,y8⟩:∃ y:LineV,Y.getD i default=y:=⟨_,rfl⟩
 have key:∀ (W:World) (Z:List LineV) (a b:LineV) (j:Nat) (v:Value),lineE.Own base W (.slice (some ⟨g,0,none⟩) n c) (Y.set i a)->j < 8->lineE.enc b=(lineE.enc a).set j v->lineE.Own base (W.setCell ⟨g,i * 8+j,none⟩ v) (.slice (some ⟨g,0,none⟩) n c) (Y.set i b):=fun W Z a b j v hW hj he=>by
  have e:(Y.set i a).getD i default=a:=by
   rw[List.getD_eq_getElem?_getD,List.getElem?_set_self (by omega)]
   rfl
  have:=own_setCell hW i j b v hi hj (by rw[e];exact he)
  rwa [List.set_set] at this
 have h0:lineE.Own base w (.slice (some ⟨g,0,none⟩) n c) (Y.set i (Y.getD i default)):=by
  have e:Y.set i (Y.getD i default)=Y:=by
   rw[List.getD_eq_getElem?_getD,List.getElem?_eq_getElem (by omega)]
   exact List.set_getElem_self _
  rw[e];exact h
 generalize Y.getD i default=y at h0
 obtain⟨y1,y2,y3,y4,y5,y6,y7,y8⟩:=y
 have k1:=key w Y _ ⟨id,y2,y3,y4,y5,y6,y7,y8⟩ 0 (.int .i64 id) h0 (by decide) rfl
 have k2:=key _ Y _ ⟨id,item,y3,y4,y5,y6,y7,y8⟩ 1 (encStr item) k1 (by decide) rfl
 have k3:=key _ Y _ ⟨id,item,qty,y4,y5,y6,y7,y8⟩ 2 (.int .i64 qty) k2 (by decide) rfl
 have k4:=key _ Y _ ⟨id,item,qty,asked,y5,y6,y7,y8⟩ 3 (.int .i64 asked) k3 (by decide) rfl
 have k5:=key _ Y _ ⟨id,item,qty,asked,rank,y6,y7,y8⟩ 4 (.int .i64 rank) k4 (by decide) rfl
 have k6:=key _ Y _ ⟨id,item,qty,asked,rank,st,y7,y8⟩ 5 (.int .u8 st) k5 (by decide) rfl
 have k7:=key _ Y _ ⟨id,item,qty,asked,rank,st,day,y8⟩ 6 (.int .i64 day) k6 (by decide) rfl
 have k8:=key _ Y _ ⟨id,item,qty,asked,rank,st,day,code⟩ 7 (encStr code) k7 (by decide) rfl
 exact k8
theorem put8L_kp {g1 g2 g i:Nat} {w w1:World} (h:Kp2 g1 g2 w w1) (hg:g=g1) (id:Int) (item:List UInt8) (qty asked rank st day:Int) (code:List UInt8):Kp2 g1 g2 w (put8L w1 g i id item qty asked rank st day code):=by
 unfold put8L
 exact (((((((h.set (.inl hg) _ _).set (.inl hg) _ _).set (.inl hg) _ _).set (.inl hg) _ _).set (.inl hg) _ _).set (.inl hg) _ _).set (.inl hg) _ _).set (.inl hg) _ _
theorem put8L_block {W:World} {g i:Nat} (id:Int) (item:List UInt8) (qty asked rank st day:Int) (code:List UInt8) {b:Nat} (hb:b≠g):(put8L W g i id item qty asked rank st day code).heap[b]? = W.heap[b]?:=by
 unfold put8L
 simp only[setCell_block _ _ _ _ hb]
theorem put8L_size (W:World) (g i:Nat) (id:Int) (item:List UInt8) (qty asked rank st day:Int) (code:List UInt8):(put8L W g i id item qty asked rank st day code).heap.size=W.heap.size:=by
 unfold put8L
 simp only[size_setCellI]
theorem map_set_id {O:List LineV} (hd:(O.map (·.id)).Nodup) {i:Nat} (hi:i < O.length) {k:Int} (hk:(O.getD i default).id=k) (p:LineV):(O.map fun x=>if x.id=k then p else x)=O.set i p:=by
 apply List.ext_getElem
 ·simp
 ·intro j h1 h2
  rw[List.getElem_map,List.getElem_set]
  have hj:j < O.length:=by simpa using h1
  rw[List.getD_eq_getElem?_getD,List.getElem?_eq_getElem hi] at hk
  simp only[Option.getD_some] at hk
  by_cases e:i=j
  ·subst e
   rw[if_pos hk,if_pos rfl]
  ·rw[if_neg e,if_neg]
   intro h
   exact e ((List.getElem?_inj (i:=i) (j:=j) (by simpa using hi) hd).1 (by simp[hi,hj,hk,h]))
theorem step_appendN {α:Type} [Inhabited α] {w:World} {ops:Array Oper} {o:Oper} {a:Act} {K:Act->World->Prop} {Q:Exit->Act->World->Prop} {Z:Prop} (E:El α) (hgd:o.guard=none) (s x:Operand)
  (ho:o.op = .call { callee:=.builtin .append,args:=#[s,x],argTypes:=#[E.t,E.t] }) (base:Nat) (va:Option Addr) (vn vc:Nat) (X Y:List α) (k:Nat) (hk:k=Y.length) (hn:vn=X.length) (hs:a.eval s = .slice va vn vc) (h:E.Own base w (.slice va vn vc) X) (sa:Option Addr) (c:Nat)
  (hx:a.eval x = .slice sa k c) (hsrc:0 < Y.length->∃ ad,sa=some ad/\∀ j u,(E.cells Y)[j]? = some u->w.cell? (ad.add j)=some u) (hbase:base<=w.heap.size) (hl:vn+k<=1000000000)
  (hK:∀ a' c' w',E.Own base w' (.slice a' (vn+k) c') (X ++ Y)->w.grownBy w' (Value.slice va vn vc).ownBlock->K (a.put o.dst (.slice a' (vn+k) c')) w') :
  if Region.wanted o (yielded ops a.tmps)=true then Oper.wp Tryz.prog o a w K Q else Z:=by
 have hw:Region.wanted o (yielded ops a.tmps)=true:=by simp[Region.wanted,hgd]
 rw[if_pos hw]
 subst hk
 subst hn
 by_cases h0:Y.length=0
 ·obtain rfl:Y=[]:=List.eq_nil_of_length_eq_zero h0
  obtain⟨i0,hi,-⟩:=E.info'
  have hle:X.length<=vc:=by
   obtain⟨a1,c1,e1,h1,-⟩:=h.form
   injection e1 with e1 e2 e3
   rw[e3];exact h1
  have hr:=run_append_nothing (P:=Tryz.prog) w E.t o.type E.e i0 E.under hi va sa X.length vc c hle
  unfold Oper.wp execOp
  simp only[List.length_nil] at hx
  simp only[ho,resolve,invoke,builtin,Sem.run_bind,Sem.run_pure,Result.andThen_ok,List.map_toArray,List.map_cons,List.map_nil,hs,hx,hr]
  exact hK va vc w (by simpa using h) ⟨rfl,rfl,rfl,Nat.le_refl _,fun _ _ _=>rfl⟩
 ·obtain⟨g,cap,w',hr,h1,h2,h3,h4⟩:=El.run_append h o.type sa c (hsrc (by omega)) (by omega) hbase hl
  unfold Oper.wp execOp
  simp only[ho,resolve,invoke,builtin,Sem.run_bind,Sem.run_pure,Result.andThen_ok,List.map_toArray,List.map_cons,List.map_nil,hs,hx,hr]
  exact hK _ cap w' h1 h3
theorem ent_wants:Enters Tryz.prog 43:=enters_of Tryz.func43 (by kernel_rfl) rfl
theorem zeroIntH (w:World):(zeroValue 3).run Tryz.prog w = .ok (.int .i64 0) w:=Tryz.zeroValue3 w
end Go.Proofs.YtgplnekpgdhcpaaGreat
namespace Go.Proofs.YtgplnekpgdhcpaaGreat
open Go.RowKit
theorem scanD_iff {had:Int->Bool}:∀ (n:Nat) (d x:Int),scanD had n d=some x↔d<=x/\x < d+n/\had x=true/\∀ y,d<=y->y < x->had y=false
 | 0,d,x=>by
  simp only[scanD]
  exact⟨fun h=>(by cases h),fun ⟨h1,h2,_⟩=>by omega⟩
 | n+1,d,x=>by
  rw[scanD]
  split
  ·next h =>
   constructor
   ·intro e
    injection e with e
    subst e
    exact⟨by omega,by omega,h,fun y h1 h2=>by omega⟩
   ·rintro⟨h1,h2,h3,h4⟩
    by_cases e:d=x
    ·rw[e]
    ·have:=h4 d (Int.le_refl _) (by omega)
     rw[h] at this
     cases this
  ·next h =>
   rw[scanD_iff n (d+1) x]
   constructor
   ·rintro⟨h1,h2,h3,h4⟩
    refine⟨by omega,by omega,h3,fun y k1 k2=>?_⟩
    by_cases e:y=d
    ·rw[e];simpa using h
    ·exact h4 y (by omega) k2
   ·rintro⟨h1,h2,h3,h4⟩
    refine⟨?_,by omega,h3,fun y k1 k2=>h4 y (by omega) k2⟩
    by_cases e:x=d
    ·rw[e] at h3;exact absurd h3 h
    ·omega
theorem dayX_iff {L:List LotV} {W:List WantV} {P:List (List UInt8×Int)} {a b x:Int}:dayX L W P a b=some x↔max a 0<=x/\x<=min b 4000/\hadB L W P x=true/\∀ y,max a 0<=y->y < x->hadB L W P y=false:=by
 unfold dayX
 rw[scanD_iff]
 constructor
 ·rintro⟨h1,h2,h3,h4⟩
  exact⟨h1,by omega,h3,h4⟩
 ·rintro⟨h1,h2,h3,h4⟩
  exact⟨h1,by omega,h3,h4⟩
theorem dayX_none {L:List LotV} {W:List WantV} {P:List (List UInt8×Int)} {a b:Int} (h:dayX L W P a b=none):∀ y,max a 0<=y->y<=min b 4000->hadB L W P y=false:=by
 have key:∀ (had:Int->Bool) (n:Nat) (d:Int),scanD had n d=none->∀ y,d<=y->y < d+n->had y=false:=by
  intro had n
  induction n with
  | zero=>intro d _ y h1 h2;omega
  | succ n ih =>
   intro d h y h1 h2
   rw[scanD] at h
   split at h
   ·cases h
   ·next hd =>
    by_cases e:y=d
    ·rw[e];simpa using hd
    ·exact ih (d+1) h y (by omega) (by omega)
 intro y h1 h2
 exact key _ _ _ h y h1 (by omega)
theorem sum_permI {A B:List Int} (h:A.Perm B):A.sum=B.sum:=by
 induction h with
 | nil=>rfl
 | cons x _ ih=>simp only[List.sum_cons,ih]
 | swap x y l=>simp only[List.sum_cons];omega
 | trans _ _ ih1 ih2=>exact ih1.trans ih2
theorem feas_lot {S S':List LotV} {x:LotV} (hp:S'.Perm (x :: S)) (hx:∀ l∈S,l.id≠x.id):∀ {W:List WantV} {f f':Int->Int},(∀ l∈S,f' l.id=f l.id)->0<=f' x.id->Feas S W f->Feas S' W f'
 | [],_,_,_,_,_=>trivial
 | w :: W,f,f',h,h0,⟨a,⟨h1,h2⟩,h3⟩=>by
  have ha:∀ l∈S,upd a x.id 0 l.id=a l.id:=fun l hl=>upd_other _ _ (hx l hl)
  refine⟨upd a x.id 0,⟨fun l hl=>?_,?_⟩,feas_lot hp hx (fun l hl=>by simp only[ha l hl,h l hl]) (by simp only[upd_same];omega) h3⟩
  ·rcases List.mem_cons.1 (hp.mem_iff.1 hl) with rfl | hl
   ·rw[upd_same]
    exact⟨Int.le_refl _,h0,fun h=>absurd h (Int.lt_irrefl _)⟩
   ·rw[ha l hl,h l hl]
    exact h1 l hl
  ·have:totF S' (upd a x.id 0)=totF (x :: S) (upd a x.id 0):=by
    unfold totF
    exact sum_permI (hp.map _)
   rw[this,totF_cons,upd_same,totF_congr ha,h2]
   omega
theorem mayB_parts {L:List LotV} {W:List WantV}:mayB L W=true↔mayB L []=true/\W.length<=20000/\W.all wantOk=true:=by
 unfold mayB
 simp only[Bool.and_eq_true,decide_eq_true_eq,List.length_nil,List.all_nil]
 constructor
 ·rintro⟨⟨⟨⟨h1,h2⟩,h3⟩,h4⟩,h5⟩
  exact⟨⟨⟨⟨⟨h1,by omega⟩,h3⟩,h4⟩,trivial⟩,h2,h5⟩
 ·rintro⟨⟨⟨⟨⟨h1,-⟩,h3⟩,h4⟩,-⟩,h2,h5⟩
  exact⟨⟨⟨⟨h1,h2⟩,h3⟩,h4⟩,h5⟩
theorem mayB_lots {L:List LotV} (h:mayB L []=true):(L.map (·.id)).Nodup/\∀ l∈L,lotOk l=true:=by
 unfold mayB idsOk at h
 simp only[Bool.and_eq_true,decide_eq_true_eq,List.all_eq_true] at h
 exact⟨h.1.2,h.1.1.2⟩
theorem lotOk_qty {l:LotV} (h:lotOk l=true):1<=l.qty:=by
 unfold lotOk at h
 simp only[Bool.and_eq_true,decide_eq_true_eq] at h
 omega
theorem fill_lot {L:List LotV} {x:LotV} (hL:mayB (L ++ [x]) []=true) {W:List WantV} (h:(fillX L W).isSome=true):(fillX (L ++ [x]) W).isSome=true:=by
 rw[fillX_iff] at h ⊢
 obtain⟨h1,h2⟩:=h
 obtain⟨k1,k2,k3⟩:=mayB_parts.1 h1
 obtain⟨hd,hok⟩:=mayB_lots hL
 obtain⟨hd0,hok0⟩:=mayB_lots k1
 refine⟨mayB_parts.2 ⟨hL,k2,k3⟩,?_⟩
 have hxid:∀ l∈L,l.id≠x.id:=fun l hl e=>by
  rw[List.map_append,List.nodup_append] at hd
  exact hd.2.2 l.id (List.mem_map_of_mem hl) x.id (by simp) e
 refine feas_lot (S:=srt L) (x:=x) ?_ (fun l hl=>hxid l ((srt_perm L).mem_iff.1 hl)) (fun l hl=>?_) ?_ h2
 ·refine (srt_perm _).trans (List.perm_append_comm.trans ?_)
  exact List.Perm.cons x (srt_perm L).symm
 ·have hl':=(srt_perm L).mem_iff.1 hl
  rw[left0_ofH hd (List.mem_append_left _ hl'),left0_ofH hd0 hl']
 ·rw[left0_ofH hd (by simp)]
  have:=lotOk_qty (hok x (by simp))
  omega
theorem had_lot {L:List LotV} {x:LotV} (hL:mayB (L ++ [x]) []=true) {W:List WantV} {P:List (List UInt8×Int)} {d:Int} (h:hadB L W P d=true):hadB (L ++ [x]) W P d=true:=fill_lot hL h
theorem day_lot {L:List LotV} {x:LotV} (hL:mayB (L ++ [x]) []=true) {W:List WantV} {P:List (List UInt8×Int)} {a b d:Int} (h:dayX L W P a b=some d):∃ d',dayX (L ++ [x]) W P a b=some d'/\d'<=d:=by
 obtain⟨h1,h2,h3,h4⟩:=dayX_iff.1 h
 have h5:=had_lot hL h3
 cases e:dayX (L ++ [x]) W P a b with
 | none =>
  have:=dayX_none e d h1 h2
  rw[h5] at this
  cases this
 | some d' =>
  refine⟨d',rfl,?_⟩
  obtain⟨-,-,-,k4⟩:=dayX_iff.1 e
  rcases Int.lt_or_le d d' with hlt | hle
  ·have:=k4 d h1 hlt
   rw[h5] at this
   cases this
  ·exact hle
section
variable {parts:List UInt8->Int->Option (List (List UInt8×Int))} {row:List UInt8->List (List UInt8)} {L:List LotV} {now:Int}
theorem promC_cases (W:List WantV) (l:LineV):∀ cs:List (List UInt8),(promC parts L now W l cs = { l with day:=-1,code:=[] }/\∀ c∈cs,∀ P,parts c l.qty=some P->dayX L W P (max l.asked now) (min (now+400) 4000)=none) ∨
  ∃ A c B P d,cs=A ++ c :: B/\parts c l.qty=some P/\dayX L W P (max l.asked now) (min (now+400) 4000)=some d/\promC parts L now W l cs = { l with day:=d,code:=c }/\∀ c'∈A,∀ P',parts c' l.qty=some P'->dayX L W P' (max l.asked now) (min (now+400) 4000)=none
 | []=>.inl ⟨rfl,fun c hc=>by cases hc⟩
 | c :: cs=>by
  rw[promC]
  cases hp:parts c l.qty with
  | none =>
   simp only
   rcases promC_cases W l cs with ⟨h1,h2⟩ | ⟨A,c1,B,P,d,h1,h2,h3,h4,h5⟩
   ·refine .inl ⟨h1,fun c' hc' P hP=>?_⟩
    rcases List.mem_cons.1 hc' with rfl | hc'
    ·rw[hp] at hP;cases hP
    ·exact h2 c' hc' P hP
   ·refine .inr ⟨c :: A,c1,B,P,d,by rw[h1];rfl,h2,h3,h4,fun c' hc' P' hP=>?_⟩
    rcases List.mem_cons.1 hc' with rfl | hc'
    ·rw[hp] at hP;cases hP
    ·exact h5 c' hc' P' hP
  | some P =>
   simp only
   cases hd:dayX L W P (max l.asked now) (min (now+400) 4000) with
   | some d =>
    simp only
    exact .inr ⟨[],c,cs,P,d,rfl,hp,hd,rfl,fun c' hc'=>by cases hc'⟩
   | none =>
    simp only
    rcases promC_cases W l cs with ⟨h1,h2⟩ | ⟨A,c1,B,P1,d,h1,h2,h3,h4,h5⟩
    ·refine .inl ⟨h1,fun c' hc' P' hP=>?_⟩
     rcases List.mem_cons.1 hc' with rfl | hc'
     ·rw[hp] at hP
      injection hP with hP
      subst hP
      exact hd
     ·exact h2 c' hc' P' hP
    ·refine .inr ⟨c :: A,c1,B,P1,d,by rw[h1];rfl,h2,h3,h4,fun c' hc' P' hP=>?_⟩
     rcases List.mem_cons.1 hc' with rfl | hc'
     ·rw[hp] at hP
      injection hP with hP
      subst hP
      exact hd
     ·exact h5 c' hc' P' hP
theorem promC_lot {x:LotV} (hL:mayB (L ++ [x]) []=true) (W:List WantV) (l:LineV):∀ cs:List (List UInt8),0<=(promC parts L now W l cs).day->0<=(promC parts (L ++ [x]) now W l cs).day/\((promC parts (L ++ [x]) now W l cs).code=(promC parts L now W l cs).code->(promC parts (L ++ [x]) now W l cs).day<=(promC parts L now W l cs).day)
 | [],h=>absurd (show (0:Int)<=-1 from h) (by decide)
 | c :: cs,h=>by
  have hrest:=promC_cases (parts:=parts) (L:=L) (now:=now) W l cs
  rw[promC] at h ⊢
  rw[promC]
  cases hp:parts c l.qty with
  | none =>
   rw[hp] at h
   simp only at h ⊢
   exact promC_lot hL W l cs h
  | some P =>
   rw[hp] at h
   simp only at h ⊢
   cases hd:dayX L W P (max l.asked now) (min (now+400) 4000) with
   | some d =>
    obtain⟨d',e,hle⟩:=day_lot hL hd
    rw[e]
    simp only
    obtain⟨h1,-,-,-⟩:=dayX_iff.1 e
    exact⟨by omega,fun _=>hle⟩
   | none =>
    rw[hd] at h
    simp only at h ⊢
    cases he:dayX (L ++ [x]) W P (max l.asked now) (min (now+400) 4000) with
    | none =>
     simp only
     exact promC_lot hL W l cs h
    | some d' =>
     simp only
     obtain⟨h1,-,-,-⟩:=dayX_iff.1 he
     refine⟨by omega,fun hc=>?_⟩
     rcases hrest with ⟨k1,-⟩ | ⟨A,c1,B,P1,d,k1,k2,k3,k4,-⟩
     ·rw[k1] at h
      exact absurd (show (0:Int)<=-1 from h) (by decide)
     ·rw[k4] at hc
      simp only at hc
      subst hc
      rw[hp] at k2
      injection k2 with k2
      subst k2
      rw[hd] at k3
      cases k3
theorem promL_keys (W:List WantV) (l:LineV):(promL parts row L now W l).id=l.id/\(promL parts row L now W l).st=l.st/\(promL parts row L now W l).rank=l.rank/\(promL parts row L now W l).qty=l.qty/\(promL parts row L now W l).item=l.item:=by
 obtain⟨d,c,h⟩:=promC_form parts L now W l (row l.item)
 have e:promL parts row L now W l = { l with day:=d,code:=c }:=h
 rw[e]
 exact⟨rfl,rfl,rfl,rfl,rfl⟩
def prF (parts:List UInt8->Int->Option (List (List UInt8×Int))) (row:List UInt8->List (List UInt8)) (L:List LotV) (now:Int):List WantV->List LineV->List LineV
 | _,[]=>[]
 | W,l :: R=>promL parts row L now W l :: prF parts row L now (W ++ wantsL parts (promL parts row L now W l)) R
theorem prF_ids:∀ (R:List LineV) (W:List WantV),(prF parts row L now W R).map (·.id)=R.map (·.id)
 | [],_=>rfl
 | l :: R,W=>by
  rw[prF,List.map_cons,List.map_cons,prF_ids R,(promL_keys W l).1]
def repl (Z:List LineV) (x:LineV):LineV:=(Z.find? fun z=>decide (z.id=x.id)).getD x
theorem repl_id (Z:List LineV) (x:LineV):(repl Z x).id=x.id:=by
 unfold repl
 cases h:Z.find? fun z=>decide (z.id=x.id) with
 | none=>rfl
 | some z=>simpa using List.find?_some h
theorem allF_map:∀ (R:List LineV) (out:List LineV) (W:List WantV),(R.map (·.id)).Nodup->(allF parts row L now R (out,W)).1=out.map (repl (prF parts row L now W R))
 | [],out,W,_=>by
  simp only[allF,prF]
  have:out.map (repl [])=out.map id:=List.map_congr_left fun x _=>rfl
  rw[this,List.map_id]
 | l :: R,out,W,hd=>by
  rw[List.map_cons,List.nodup_cons] at hd
  rw[allF,allF_map R _ _ hd.2,List.map_map]
  apply List.map_congr_left
  intro x _
  simp only[Function.comp,prF]
  have hid:=(promL_keys (parts:=parts) (row:=row) (L:=L) (now:=now) W l).1
  obtain⟨p,hp⟩:∃ p,p=promL parts row L now W l:=⟨_,rfl⟩
  rw[<- hp] at hid ⊢
  have hZ:=prF_ids (parts:=parts) (row:=row) (L:=L) (now:=now) R (W ++ wantsL parts p)
  generalize prF parts row L now (W ++ wantsL parts p) R=Z at hZ ⊢
  have hno:Z.find? (fun z=>decide (z.id=l.id))=none:=by
   rw[List.find?_eq_none]
   intro z hz
   have:z.id∈R.map (·.id):=by rw[<- hZ];exact List.mem_map_of_mem hz
   simp only[decide_eq_true_eq]
   intro e
   rw[e] at this
   exact hd.1 this
  by_cases e:x.id=l.id
  ·rw[if_pos e]
   unfold repl
   rw[hid,hno,List.find?_cons,hid,e]
   simp
  ·rw[if_neg e]
   unfold repl
   rw[List.find?_cons]
   have:decide (p.id=x.id)=false:=decide_eq_false (fun h=>e (by rw[<- h,hid]))
   rw[this]
variable (parts row L now)
def openP (N:List LineV):List LineV:=prF parts row L now [] (openX N)
variable {parts row L now}
theorem openX_sorted (N:List LineV):(openX N).Pairwise fun a b=>leK a b=true:=List.pairwise_mergeSort leK_trans leK_total _
theorem openX_perm (N:List LineV):(openX N).Perm (N.filter fun l=>decide (l.st=1)):=List.mergeSort_perm _ _
theorem openX_nodup {N:List LineV} (hd:(N.map (·.id)).Nodup):((openX N).map (·.id)).Nodup:=((openX_perm N).map _).nodup_iff.2 (hd.sublist (List.filter_sublist.map _))
theorem prF_forall {Q:LineV->Prop} (hQ:∀ W l,Q l->Q (promL parts row L now W l)):∀ (R:List LineV) (W:List WantV),(∀ l∈R,Q l)->∀ z∈prF parts row L now W R,Q z
 | [],_,_,z,hz=>by rw[prF] at hz;cases hz
 | l :: R,W,h,z,hz=>by
  rw[prF] at hz
  rcases List.mem_cons.1 hz with rfl | hz
  ·exact hQ W l (h l List.mem_cons_self)
  ·exact prF_forall hQ R _ (fun x hx=>h x (List.mem_cons_of_mem _ hx)) z hz
theorem prF_sorted:∀ (R:List LineV) (W:List WantV),R.Pairwise (fun a b=>leK a b=true)->(prF parts row L now W R).Pairwise fun a b=>leK a b=true
 | [],_,_=>by rw[prF];exact List.Pairwise.nil
 | l :: R,W,h=>by
  rw[prF,List.pairwise_cons]
  obtain⟨h1,h2⟩:=List.pairwise_cons.1 h
  refine⟨fun z hz=>?_,prF_sorted R _ h2⟩
  have key:∀ (R:List LineV) (W:List WantV),(∀ b∈R,leK l b=true)->∀ z∈prF parts row L now W R,leK l z=true:=fun R W hR=>prF_forall (Q:=fun z=>leK l z=true) (fun W b hb=>by
   obtain⟨k1,-,k3,-,-⟩:=promL_keys (parts:=parts) (row:=row) (L:=L) (now:=now) W b
   unfold leK at hb ⊢
   rw[k1,k3]
   exact hb) R W hR
  have:=key R _ h1 z hz
  obtain⟨k1,-,k3,-,-⟩:=promL_keys (parts:=parts) (row:=row) (L:=L) (now:=now) W l
  unfold leK at this ⊢
  rw[k1,k3]
  exact this
section
variable {right:LineV->Bool} {N:List LineV}
theorem allX_form (hnow:nowOk now=true) (hid:(N.map (·.id)).Nodup) (hr:N.all right=true):allX parts row right L now N=N.map (repl (openP parts row L now N)):=by
 unfold allX
 rw[if_pos ⟨hnow,by unfold idsN;exact decide_eq_true hid,hr⟩,allF_map _ _ _ (openX_nodup hid)]
 rfl
theorem repl_open (hid:(N.map (·.id)).Nodup) {x:LineV} (hx:x∈N):(x.st=1->repl (openP parts row L now N) x∈openP parts row L now N)/\(x.st≠1->repl (openP parts row L now N) x=x)/\(repl (openP parts row L now N) x).st=x.st:=by
 have hZ:=prF_ids (parts:=parts) (row:=row) (L:=L) (now:=now) (openX N) []
 have hst:∀ z∈openP parts row L now N,z.st=1:=prF_forall (Q:=fun z=>z.st=1) (fun W l h=>by rw[(promL_keys W l).2.1];exact h) _ _ (fun l hl=>by
  have:=(openX_perm N).mem_iff.1 hl
  simpa using (List.mem_filter.1 this).2)
 have h1:x.st=1->∃ z,(openP parts row L now N).find? (fun z=>decide (z.id=x.id))=some z:=fun hs=>by
  have hm:x∈openX N:=(openX_perm N).mem_iff.2 (List.mem_filter.2 ⟨hx,by simpa using hs⟩)
  have:x.id∈(openP parts row L now N).map (·.id):=by
   unfold openP
   rw[hZ]
   exact List.mem_map_of_mem hm
  obtain⟨z,hz1,hz2⟩:=List.mem_map.1 this
  cases hf:(openP parts row L now N).find? (fun z=>decide (z.id=x.id)) with
  | some z=>exact⟨z,rfl⟩
  | none =>
   have:=List.find?_eq_none.1 hf z hz1
   simp[hz2] at this
 have h2:x.st≠1->(openP parts row L now N).find? (fun z=>decide (z.id=x.id))=none:=fun hs=>by
  rw[List.find?_eq_none]
  intro z hz
  simp only[decide_eq_true_eq]
  intro e
  have:z.id∈(openX N).map (·.id):=by
   unfold openP at hz
   rw[<- hZ]
   exact List.mem_map_of_mem hz
  obtain⟨y,hy1,hy2⟩:=List.mem_map.1 this
  have hy:=(openX_perm N).mem_iff.1 hy1
  obtain⟨hyN,hys⟩:=List.mem_filter.1 hy
  have hyx:y=x:=by
   obtain⟨i,hi1,rfl⟩:=List.getElem_of_mem hyN
   obtain⟨j,hj1,rfl⟩:=List.getElem_of_mem hx
   have:=(List.getElem?_inj (i:=i) (j:=j) (by simpa using hi1) hid).1 (by simp[hi1,hj1,hy2,e])
   subst this
   rfl
  rw[hyx] at hys
  exact hs (by simpa using hys)
 refine⟨fun hs=>?_,fun hs=>?_,?_⟩
 ·obtain⟨z,hz⟩:=h1 hs
  unfold repl
  rw[hz]
  exact List.mem_of_find?_eq_some hz
 ·unfold repl
  rw[h2 hs]
  rfl
 ·by_cases hs:x.st=1
  ·obtain⟨z,hz⟩:=h1 hs
   unfold repl
   rw[hz,hs]
   exact hst z (List.mem_of_find?_eq_some hz)
  ·unfold repl
   rw[h2 hs]
   rfl
theorem map_ids (Z:List LineV):(N.map (repl Z)).map (·.id)=N.map (·.id):=by
 rw[List.map_map]
 exact List.map_congr_left fun x _=>repl_id Z x
theorem open_all (hid:(N.map (·.id)).Nodup):openX (N.map (repl (openP parts row L now N)))=openP parts row L now N:=by
 have hid2:((N.map (repl (openP parts row L now N))).map (·.id)).Nodup:=by rw[map_ids];exact hid
 refine (openX_only hid2 ?_ (prF_sorted _ _ (openX_sorted N))).symm
 have e:(N.map (repl (openP parts row L now N))).filter (fun l=>decide (l.st=1))=(N.filter fun l=>decide (l.st=1)).map (repl (openP parts row L now N)):=by
  rw[List.filter_map]
  congr 1
  apply List.filter_congr
  intro x hx
  simp only[Function.comp,(repl_open (parts:=parts) (row:=row) (L:=L) (now:=now) hid hx).2.2]
 rw[e]
 refine List.Perm.trans ?_ ((openX_perm N).map _)
 have hZ:=prF_ids (parts:=parts) (row:=row) (L:=L) (now:=now) (openX N) []
 have hnd:=openX_nodup hid
 have:(openX N).map (repl (openP parts row L now N))=openP parts row L now N:=by
  unfold openP
  generalize prF parts row L now [] (openX N)=Z at hZ ⊢
  clear e
  have hl:Z.length=(openX N).length:=by have:=congrArg List.length hZ;simpa using this
  apply List.ext_getElem
  ·rw[List.length_map];exact hl.symm
  ·intro i h1 h2
   rw[List.getElem_map]
   have hi:((openX N).map (·.id))[i]'(by simpa using h1)=(Z.map (·.id))[i]'(by simpa using h2):=by simp only[hZ]
   simp only[List.getElem_map] at hi
   unfold repl
   cases hf:Z.find? (fun z=>decide (z.id=((openX N)[i]'(by simpa using h1)).id)) with
   | none =>
    have:=List.find?_eq_none.1 hf (Z[i]) (List.getElem_mem h2)
    simp[hi] at this
   | some z =>
    have hm:=List.mem_of_find?_eq_some hf
    have hz:z.id=((openX N)[i]'(by simpa using h1)).id:=by simpa using List.find?_some hf
    obtain⟨j,hj,rfl⟩:=List.getElem_of_mem hm
    rw[<- hZ] at hnd
    have:=(List.getElem?_inj (i:=i) (j:=j) (by simpa using h2) hnd).1 (by simp[h2,hj,hz,hi])
    subst this
    rfl
 rw[this]
 exact List.Perm.refl _
end
end
end Go.Proofs.YtgplnekpgdhcpaaGreat
