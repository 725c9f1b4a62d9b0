import Derived.Test.YtohlkkannjifmaaGreatDoorPageC
import Derived.Maps.RangeWalk
import Derived.WideKeyArgs2
import Derived.OwnWalk
namespace Go.Proofs.YtohlkkannjifmaaGreatDoor
open Go.RowKit Go.Maps Go.ChangeMaps Go.MapKept Go.WideShapes
def RVal (v:Value):Option (DataW Value×List MemPlace):=some (.held v,[])
def updV (f:Int->Value) (i:Int) (v:Value):Int->Value:=fun j=>if j=i then v else f j
theorem ikey:Keyed Tryz.prog 3:=int_keyed Tryz.underlying3
theorem ikey_of (s:Int) (h1:-9223372036854775808<=s) (h2:s<=9223372036854775807):keyOf Tryz.prog 3 (.int .i64 s)=some (.int .i64 s) :=
 keyOf_int_mk Tryz.underlying3 (by
  have e1:IntKind.i64.min=-9223372036854775808:=by decide
  have e2:IntKind.i64.max=9223372036854775807:=by decide
  simp only[Lit.wf,Bool.and_eq_true,decide_eq_true_eq,e1,e2];exact⟨h1,h2⟩)
theorem sameKey_int (s x:Int):(Lit.int .i64 s).sameKey (.int .i64 x)=decide (s=x):=decide_eq_decide.2 ⟨And.right,fun h=>⟨rfl,h⟩⟩
def MH (w:World) (b n:Nat) (z:Value) (f:Int->Value) (g:Int->Bool):Prop:=∃ D,w.ownsMap Tryz.prog 3 RVal b n D/\(∀ s,D.atKey (.int .i64 s) (.held z)=.held (f s))/\∀ s,Maps.has D (.int .i64 s)=g s
theorem MH.made (w:World) (z:Value):MH (w.alloc (.map #[] 0)) w.heap.size 0 z (fun _=>z) (fun _=>false):=⟨_,World.ownsMap_made _ _ _ _,fun _=>rfl,fun _=>rfl⟩
section
variable {w w':World} {b n:Nat} {z:Value} {f:Int->Value} {g:Int->Bool}
theorem MH.lt (h:MH w b n z f g):b<w.heap.size:=by
 obtain⟨D,h1,-⟩:=h;exact h1.lt
theorem MH.block (h:MH w b n z f g) (hb:w'.heap[b]? = w.heap[b]?):MH w' b n z f g:=by
 obtain⟨D,⟨es,clock,h1,h2⟩,h3⟩:=h;exact⟨D,⟨es,clock,hb.trans h1,h2⟩,h3⟩
theorem MH.off (h:MH w b n z f g) {s:Int} (hs:g s=false):f s=z:=by
 obtain⟨D,h1,h2,h3⟩:=h;have e:=atKey_of_not_has ((h3 s).trans hs) (.held z);rw[h2] at e;exact DataW.held.inj e
theorem MH.lookOk (h:MH w b n z f g) {t e:TypeId} (ht:Tryz.prog.underlying t=some (.map 3 e)) (hz:(zeroValue e).run Tryz.prog w=.ok z w) (s:Int) (h1:-9223372036854775808<=s) (h2:s<=9223372036854775807) :
  (Instr.lookup t (.map (some b)) (.int .i64 s) true).run Tryz.prog w=.ok (.tuple #[f s,.bool (g s)]) w:=by
 obtain⟨D,h3,h4,h5⟩:=h;obtain⟨v,ps,hrun,hv⟩:=h3.look_ok ikey ht hz (zd:=.held z) (zp:=[]) rfl (ikey_of s h1 h2);rw[h4 s] at hv
 cases hv
 rw[h5 s] at hrun;exact hrun
theorem MH.look (h:MH w b n z f g) {t e:TypeId} (ht:Tryz.prog.underlying t=some (.map 3 e)) (hz:(zeroValue e).run Tryz.prog w=.ok z w) (s:Int) (h1:-9223372036854775808<=s) (h2:s<=9223372036854775807) :
  (Instr.lookup t (.map (some b)) (.int .i64 s) false).run Tryz.prog w=.ok (f s) w:=by
 obtain⟨D,h3,h4,-⟩:=h;obtain⟨v,ps,hrun,hv⟩:=h3.lookup ikey ht hz (zd:=.held z) (zp:=[]) rfl (ikey_of s h1 h2);rw[h4 s] at hv
 cases hv
 exact hrun
theorem MH.put (h:MH w b n z f g) {t e:TypeId} (ht:Tryz.prog.underlying t=some (.map 3 e)) (hn:n<9223372036854775807) (s:Int) (h1:-9223372036854775808<=s) (h2:s<=9223372036854775807) (v:Value) :
  ∃ w',(Instr.mapUpdate t (.map (some b)) (.int .i64 s) v).run Tryz.prog w=.ok () w'/\MH w' b (n+1) z (updV f s v) (fun x=>if x=s then true else g x)/\w.grownBy w' (some b):=by
 obtain⟨D,h3,h4,h5⟩:=h;obtain⟨w',hrun,r1,r2⟩:=h3.update ikey ht (by simpa [maxLen] using hn) (ikey_of s h1 h2) (val:=v) (d:=.held v) (ps:=[]) rfl;refine⟨w',hrun,⟨_,r1,fun x=>?_,fun x=>?_⟩,r2⟩
 ·by_cases e:x=s
  ·subst e;rw[atKey_put_same h3.isMap (show WideAt.IsKeyLit (.int .i64 x) by trivial)];simp[updV]
  ·rw[atKey_put_other (fun e2=>e (by cases e2;rfl)),h4];simp[updV,e]
 ·by_cases e:x=s
  ·subst e;rw[has_put_same h3.isMap (show WideAt.IsKeyLit (.int .i64 x) by trivial)];exact (if_pos rfl).symm
  ·rw[has_put_other (fun e2=>e (by cases e2;rfl)),h5];exact (if_neg e).symm
theorem MH.del (h:MH w b n z f g) {t e:TypeId} (ht:Tryz.prog.underlying t=some (.map 3 e)) (s:Int) (h1:-9223372036854775808<=s) (h2:s<=9223372036854775807) (ty:TypeId) :
  ∃ w',(Builtin.delete_ #[t,3] ty #[.map (some b),.int .i64 s]).run Tryz.prog w=.ok (.tuple #[]) w'/\MH w' b n z (updV f s z) (fun x=>if x=s then false else g x)/\w.grownBy w' (some b):=by
 obtain⟨D,h3,h4,h5⟩:=h;obtain⟨w',hrun,r1,r2⟩:=h3.drop ikey ht (ikey_of s h1 h2) ty;refine⟨w',hrun,⟨_,r1,fun x=>?_,fun x=>?_⟩,r2.grown⟩
 ·by_cases e:x=s
  ·subst e;rw[atKey_del_same];simp[updV]
  ·rw[atKey_del_other (fun e2=>e (by cases e2;rfl)),h4];simp[updV,e]
 ·by_cases e:x=s
  ·subst e;rw[has_del_same];exact (if_pos rfl).symm
  ·rw[has_del_other (fun e2=>e (by cases e2;rfl)),h5];exact (if_neg e).symm
theorem MH.clear (h:MH w b n z f g) {t e:TypeId} (ht:Tryz.prog.underlying t=some (.map 3 e)) (ty:TypeId) :
  ∃ w',(Builtin.clear_ #[t] ty #[.map (some b)]).run Tryz.prog w=.ok (.tuple #[]) w'/\MH w' b 0 z (fun _=>z) (fun _=>false)/\w.grownBy w' (some b):=by
 obtain⟨D,⟨es,clock,hb,F,hs,rfl⟩,h4,h5⟩:=h;have hrun:(Builtin.clear_ #[t] ty #[.map (some b)]).run Tryz.prog w=.ok (.tuple #[]) (setBlock w b (.map #[] clock)):=by
  simp[Builtin.clear_,run_underlying ht,Go.MapKept.run_getObj_map hb,Go.MapKept.run_setObj_map _ hb,Result.andThen,setBlock]
 refine⟨_,hrun,⟨_,⟨#[],clock,heap_setBlock_same hb _,⟨by simp,stamped_empty _,by simp⟩,Nat.le_refl _,rfl⟩,fun _=>rfl,fun _=>rfl⟩,⟨rfl,rfl,rfl,by simp[setBlock],fun i _ hi=>heap_setBlock_other hb _ (fun e=>hi (by rw[e]))⟩⟩
end
def MR (w:World) (b r n:Nat) (z:Value) (f:Int->Value) (g lf:Int->Bool) (cnt:Nat):Prop :=
 ∃ D left,w.ranges Tryz.prog 3 RVal b r n D left cnt/\(∀ s,D.atKey (.int .i64 s) (.held z)=.held (f s))/\(∀ s,Maps.has D (.int .i64 s)=g s)/\∀ s,left (.int .i64 s)=lf s
section
variable {w w':World} {b r n cnt:Nat} {z:Value} {f:Int->Value} {g lf:Int->Bool}
theorem MR.left_eq (h:MR w b r n z f g lf cnt):w.rangeLeft b r=cnt:=by
 obtain⟨D,left,h1,-⟩:=h;exact h1.left_eq
theorem MR.next (h:MR w b r n z f g lf cnt) (ty:TypeId) :
  ((∀ s,lf s=false)/\(Instr.next (.pointer (some ⟨r,0,none⟩)) false ty).run Tryz.prog w=.ok (.tuple #[.bool false]) w) ∨
  ∃ x w' cnt',-9223372036854775808<=x/\x<=9223372036854775807/\lf x=true/\(Instr.next (.pointer (some ⟨r,0,none⟩)) false ty).run Tryz.prog w=.ok (.tuple #[.bool true,.int .i64 x,f x]) w' /\
   MR w' b r n z f g (fun s=>lf s && !decide (s=x)) cnt'/\cnt' < cnt/\w.grownBy w' (some r)/\w'.heap.size=w.heap.size/\(Instr.entry (.pointer (some ⟨r,0,none⟩))).run Tryz.prog w'=.ok (.tuple #[.int .i64 x,f x]) w':=by
 obtain⟨D,left,h1,h2,h3,h4⟩:=h;rcases h1.next ikey ty with ⟨-,hl,hrun⟩|⟨key,v,kl,y,w',cnt',hkey,hlk,hv,hat,hrun,hrg,hlt,hg,hs,hen⟩
 ·exact .inl ⟨fun s=>by rw[<- h4];exact hl _,hrun⟩
 ·obtain⟨x,rfl,rfl,hw⟩:=Maps.keyOf_int_inv Tryz.underlying3 hkey
  cases hv
  have e2:=hat (.held z);rw[h2] at e2
  cases e2
  have e3:IntKind.i64.min=-9223372036854775808:=by decide
  have e4:IntKind.i64.max=9223372036854775807:=by decide
  simp only[Lit.wf,Bool.and_eq_true,decide_eq_true_eq,e3,e4] at hw;exact .inr ⟨x,w',cnt',hw.1,hw.2,by rw[<- h4];exact hlk,hrun,⟨D,_,hrg,h2,h3,fun s=>by
   show (left (.int .i64 s) && !(Lit.int .i64 s).sameKey (.int .i64 x))=_;rw[h4,sameKey_int]⟩,hlt,hg,hs,hen⟩
theorem MR.mh (h:MR w b r n z f g lf cnt):MH w b n z f g:=by
 obtain⟨D,left,h1,h2,h3,-⟩:=h;exact⟨D,h1.owns,h2,h3⟩
theorem MR.kept (h:MR w b r n z f g lf cnt) {row:Option Nat} (hg:w.grownBy w' row) (hb:some b≠row) (hr:some r≠row):MR w' b r n z f g lf cnt:=by
 obtain⟨D,left,h1,h2⟩:=h;exact⟨D,left,h1.kept hg hb hr,h2⟩
theorem MR.alloc (h:MR w b r n z f g lf cnt) (o:Obj):MR (w.alloc o) b r n z f g lf cnt:=h.kept (World.grownBy_alloc w o none) (by simp) (by simp)
end
section
variable {w:World} {ops:Array Oper} {rest:List Oper} {o:Oper} {a:Act} {Q:Exit->Act->World->Prop}
theorem wpList_range_mh (hgd:o.guard=none) (m:Operand) (t:TypeId) (ho:o.op=.range t m) {e:TypeId} (ht:Tryz.prog.underlying t=some (.map 3 e)) {b n:Nat} {z:Value} {f:Int->Value} {g:Int->Bool}
  (h:MH w b n z f g) (hm:a.eval m=.map (some b))
  (hK:∀ w' cnt,cnt<=n->MR w' b w.heap.size n z f g g cnt->w.grownBy w' none->w'.heap.size=w.heap.size+1->wpList Tryz.prog ops Q rest (a.put o.dst (.pointer (some ⟨w.heap.size,0,none⟩))) w'):wpList Tryz.prog ops Q (o::rest) a w:=by
 obtain⟨D,h3,h4,h5⟩:=h;exact wpList_range_own w hgd m t ho _ e ikey ht RVal b n D hm h3 fun w' hr hg hs=>hK w' _ h3.size_le ⟨D,_,hr,h4,h5,h5⟩ hg hs
theorem wpList_put_mh (hgd:o.guard=none) (m x v:Operand) (t:TypeId) (ho:o.op=.mapUpdate t m x v) {e:TypeId}
  (ht:Tryz.prog.underlying t=some (.map 3 e)) {b n:Nat} {z:Value} {f:Int->Value} {g:Int->Bool} (h:MH w b n z f g) (hn:n<9223372036854775807) (s:Int) (val:Value) (hm:a.eval m=.map (some b)) (hx:a.eval x=.int .i64 s) (hv:a.eval v=val) (h1:-9223372036854775808<=s) (h2:s<=9223372036854775807)
  (hK:∀ w',MH w' b (n+1) z (updV f s val) (fun x=>if x=s then true else g x)->w.grownBy w' (some b)->wpList Tryz.prog ops Q rest (a.put o.dst undef) w'):wpList Tryz.prog ops Q (o::rest) a w:=by
 refine wpList_plain hgd fun K' hK'=>?_
 obtain⟨w',hrun,r1,r2⟩:=h.put ht hn s h1 h2 val;unfold Oper.wp;simp[execOp,ho,hm,hx,hv,hrun,Result.andThen];exact hK' _ _ (hK w' r1 r2)
end
end Go.Proofs.YtohlkkannjifmaaGreatDoor
