/- rank.Compare, rank.Open: walks. Maps of numbers by numbers, as functions, and what they have. promise.All behind its first loop: its walk. (Printed by gen/pall.py.) What All answers: there is enough; done again it is the same; each line beside those ahead of it; one lot more. (Plain.) -/
import Derived.Test.YtgplnekpgdhcpaaGreatQDelR
import Derived.Test.YtgplnekpgdhcpaaGreatQWant
import Derived.Test.YtgplnekpgdhcpaaGreatQLineOk
import Derived.Test.YtgplnekpgdhcpaaGreatQIdxWant
import Derived.Test.YtgplnekpgdhcpaaGreatQPromOne
import Derived.Test.YtgplnekpgdhcpaaGreatQMeet
import Derived.Test.YtgplnekpgdhcpaaGreatQFillQ
namespace Go.Proofs.YtgplnekpgdhcpaaGreat
open Go.RowKit Go.Sort Go.Lib Go.Shelf

def cmpR (a b:LineV):Int:=orI (cmpI a.rank b.rank) (cmpI a.id b.id)
set_option maxHeartbeats 2000000 in
theorem rankCompare_any (a b:LineV) (w:World):Calls Tryz.prog 59 #[a.val,b.val] w fun e w'=>e = .returned (.int .i64 (cmpR a b))/\∃ q os',w'=Go.Sort.grow (w.drewN q) os':=by
 have HC:=Lib.hid (fun (x y:Int) (W:World)=>compare_any x y W)
 have HO:=Lib.hid or_any
 obtain⟨i1,n1,q1,a1,r1,s1,d1,c1⟩:=a
 obtain⟨i2,n2,q2,a2,r2,s2,d2,c2⟩:=b
 unfold cmpR LineV.val encStr
 simp only
 go_enter Tryz.func59,Tryz.ntmps59
 go_wp2_with (fail)
 obtain⟨O1,hO1⟩:∃ O,O=Obj.cells #[.int .i64 i1,.string ⟨n1.toArray⟩,.int .i64 q1,.int .i64 a1,.int .i64 r1,.int .u8 s1,.int .i64 d1,.string ⟨c1.toArray⟩] 29:=⟨_,rfl⟩
 obtain⟨O2,hO2⟩:∃ O,O=Obj.cells #[.int .i64 i2,.string ⟨n2.toArray⟩,.int .i64 q2,.int .i64 a2,.int .i64 r2,.int .u8 s2,.int .i64 d2,.string ⟨c2.toArray⟩] 29:=⟨_,rfl⟩
 obtain⟨W2,hW2⟩:∃ W,W=(w.alloc (.cells #[.int .i64 i1,.string ⟨n1.toArray⟩,.int .i64 q1,.int .i64 a1,.int .i64 r1,.int .u8 s1,.int .i64 d1,.string ⟨c1.toArray⟩] 29)).alloc (.cells #[.int .i64 i2,.string ⟨n2.toArray⟩,.int .i64 q2,.int .i64 a2,.int .i64 r2,.int .u8 s2,.int .i64 d2,.string ⟨c2.toArray⟩] 29):=⟨_,rfl⟩
 rw[<- hW2]
 have a0:W2.cell? ⟨w.heap.size,0,none⟩=some (.int .i64 i1):=by rw[hW2];simp
 have a3:W2.cell? ⟨w.heap.size,4,none⟩=some (.int .i64 r1):=by rw[hW2];simp
 have b0:W2.cell? ⟨w.heap.size+1,0,none⟩=some (.int .i64 i2):=by rw[hW2];simp
 have b3:W2.cell? ⟨w.heap.size+1,4,none⟩=some (.int .i64 r2):=by rw[hW2];simp
 rw[<- hO1,<- hO2] at hW2
 have HW2:=Lib.hid hW2
 clear hW2 hO1 hO2
 go_region_held3 (fun w'=>(w'.cell? ⟨w.heap.size,0,none⟩=some (.int .i64 i1)/\w'.cell? ⟨w.heap.size,4,none⟩=some (.int .i64 r1))/\(w'.cell? ⟨w.heap.size+1,0,none⟩=some (.int .i64 i2)/\w'.cell? ⟨w.heap.size+1,4,none⟩=some (.int .i64 r2))) (first | go_keep | exact⟨⟨by assumption,by assumption⟩,⟨by assumption,by assumption⟩⟩) (first | (go_at_call 93;refine (HC.out _ _ _).mono ?_;rintro e wA ⟨rfl,rfl⟩) | (go_at_call 92;refine (HO.out _ (cmpI r1 r2) (cmpI i1 i2) _ (by simp) (by simp)).mono ?_;rintro e wB ⟨rfl,rfl⟩))
 go_wp2_with (fail)
 go_ret
 refine⟨rfl,1,#[O1] ++ #[O2] ++ #[.cells #[.int .i64 (cmpI r1 r2),.int .i64 (cmpI i1 i2)] 3],?_⟩
 rw[HW2.out,Go.Sort.alloc_eq_grow,Go.Sort.alloc_eq_grow,Go.Sort.alloc_eq_grow,Go.Sort.grow_grow,Go.Sort.grow_grow]
 rfl
theorem cmpR_lt {a b:LineV}:cmpR a b < 0↔leK b a=false:=by
 unfold cmpR orI cmpI leK
 simp only[Bool.or_eq_false_iff,Bool.and_eq_false_iff,decide_eq_false_iff_not]
 repeat' split
 all_goals omega
theorem ltR_iff {a b:LineV}:ltOf cmpR a b = !leK b a:=by
 unfold ltOf
 cases h:leK b a with
 | false=>exact decide_eq_true (cmpR_lt.2 h)
 | true=>exact decide_eq_false (fun e=>by rw[cmpR_lt.1 e] at h;cases h)
theorem ltR_true {a b:LineV}:ltOf cmpR a b=true↔a.rank < b.rank∨(a.rank=b.rank/\a.id < b.id):=by
 rw[ltR_iff]
 unfold leK
 simp only[Bool.not_eq_true',Bool.or_eq_false_iff,Bool.and_eq_false_iff,decide_eq_false_iff_not]
 omega
theorem ltR_false {a b:LineV}:ltOf cmpR a b=false↔¬ (a.rank < b.rank∨(a.rank=b.rank/\a.id < b.id)):=by
 rw[<- ltR_true]
 cases ltOf cmpR a b <;> simp
theorem swoR:Go.Sort.SWO (ltOf cmpR) where
 irrefl x:=by rw[ltR_false];omega
 trans x y z h1 h2:=by rw[ltR_true] at *;omega
 ntrans x y z h1 h2:=by rw[ltR_false] at *;omega
set_option maxRecDepth 100000 in
/-- slices.SortStableFunc of nothing. -/
theorem sortStableM_none (p:Option Addr) (cap:Nat) (fv:Value) (w:World):Calls Tryz.prog 58 #[.slice p 0 cap,fv] w fun e w'=>e = .returned (.tuple #[])/\w'=w:=by
 have HI:=Lib.hid (AnyF.insertionSortCmpFunc_none Tryz.insM p cap fv w)
 have HS:Hid (Calls Tryz.prog 91 #[.slice p 0 cap,.int .i64 0,fv] w fun e w'=>e = .returned (.tuple #[])/\w'=w):=by
  refine Lib.hid ?_
  go_enter Tryz.func91,Tryz.ntmps91
  go_wp2_with (fail)
  go_loopw [7,8] (fun s7 s8 wr=>s7 = .int .i64 0/\s8 = .int .i64 20/\w=wr) (fun _ _ _=>0)
  case atStart=>exact⟨rfl,rfl,rfl⟩
  case round =>
   obtain⟨rfl,rfl,rfl⟩:=hrel
   go_wp2_with (go_at_call 126;refine HI.out.mono ?_;rintro e w9 ⟨rfl,rfl⟩)
   go_loopw [6] (fun s6 wr=>s6 = .int .i64 20/\w9=wr) (fun _ _=>0)
   case atStart=>exact⟨rfl,rfl⟩
   case round =>
    obtain⟨rfl,rfl⟩:=hrel
    go_wp2_with (fail)
    go_end0
    exact⟨rfl,rfl⟩
 go_enter Tryz.func58,Tryz.ntmps58
 go_wp2_with (go_at_call 91;refine HS.out.mono ?_;rintro e w9 ⟨rfl,rfl⟩)
 go_end0
 exact⟨rfl,rfl⟩
set_option maxRecDepth 100000 in
theorem sortLines (base g n c:Nat) (X:List LineV) (w:World) (h:lineE.Own base w (.slice (some ⟨g,0,none⟩) n c) X) (hn:n<=100000000) :
  Calls Tryz.prog 58 #[.slice (some ⟨g,0,none⟩) n c,.func (.func 59) #[] #[]] w fun e w'=>e = .returned (.tuple #[])/\∃ Y:List LineV,lineE.Own base w' (.slice (some ⟨g,0,none⟩) n c) Y/\Y.Perm X/\(Y.Pairwise fun a b=>leK a b=true)/\OnlyB g w w':=by
 have hx:=(h.cell).1
 have hlt:=(h.ge g rfl).2
 have hH:=own_holds h
 have R:RowK encLine 8 w g 0 X.toArray:=⟨lineE.len,lineE.one,hH,hlt⟩
 refine (sortStableM encLine cmpR (ltOf cmpR) swoR 59 #[] g 0 c n X.toArray w (enters_of Tryz.func59 (by kernel_rfl) rfl) (fun m os dk _ x y=>?_) R (by simp[hx]) (by omega) (SWK.start hH) (fun i j _ _ _=>rfl)).mono ?_
 ·have:=rankCompare_any x y (sortWorldK encLine 8 w g 0 m dk os)
  simpa [LineV.val,encLine] using this
 ·rintro e w' ⟨rfl,d',h1,h2,h3,h4⟩
  obtain⟨q1,q2⟩:=own_sorted h h2 (by omega)
  have hsz:X.toArray.size=n:=by simp[hx]
  refine⟨rfl,d'.toList,q1,?_,?_,q2⟩
  ·have:=permIn_list (d:=X.toArray) (d':=d') (by rw[hsz];exact h3)
   simpa using this
  ·refine (sortedIn_list h1 h4).imp fun {x y} hxy=>?_
   rw[ltR_iff] at hxy
   simpa using hxy
set_option maxHeartbeats 1000000 in
set_option maxRecDepth 100000 in
/-- rank.Open: the open ones, in order. -/
theorem open_any (B:Nat) (a:Option Addr) (n c:Nat) (X:List LineV) (w:World) (h:lineE.In B w a n c X) (hB:B<=w.heap.size) (hn:n<=100000000) :
  Calls Tryz.prog 26 #[.slice a n c] w fun e w'=>(∃ a' c' Y,e = .returned (.slice a' (X.filter keepR).length c')/\lineE.Own w.heap.size w' (.slice a' (X.filter keepR).length c') Y/\Y.Perm (X.filter keepR)/\(Y.Pairwise fun a b=>leK a b=true))/\Below w.heap.size w w':=by
 have HC:=Lib.hid (cloneLine_any B a n c X w h hB hn)
 have HF:=Lib.hid h.fine
 have HN:Hid (X.length<=100000000):=Lib.hid (by rw[<- h.len];exact hn)
 have HL:=Lib.hid h.len
 have HD:=Lib.hid (fun (v:Value) (W:World) (hv:lineE.Own w.heap.size W v X) (hb:w.heap.size<=W.heap.size)=>delR_any w.heap.size v X W hv HF.out HN.out hb)
 clear h
 obtain⟨F,hF⟩:∃ F,F=X.filter keepR:=⟨_,rfl⟩
 obtain⟨m,hm⟩:∃ m,m=F.length:=⟨_,rfl⟩
 have hm2:m<=100000000:=by rw[hm,hF];exact Nat.le_trans (List.length_filter_le _ _) HN.out
 rw[<- hF] at HD ⊢
 rw[<- hm] at HD ⊢
 have Hm:=Lib.hid hm
 clear hF hm
 by_cases h0:m=0
 ·subst h0
  have HS:=Lib.hid sortStableM_none
  go_enter Tryz.func26,Tryz.ntmps26
  go_wp2_with (first | (go_at_call 36;refine HC.out.mono ?_;rintro e w8 ⟨⟨a',c',rfl,-,hown⟩,hb⟩;have O8:=Lib.hid hown;have B8:=Lib.hid hb;have HD8:=Lib.hid (HD.out _ w8 O8.out B8.out.size);clear hown hb) | (go_at_call 35;refine HD8.out.mono ?_;rintro e w7 ⟨a7,c7,rfl,hown,hb⟩;have O7:=Lib.hid hown;have B7:=Lib.hid (B8.out.trans hb);clear hown hb) | (go_at_call 58;refine (HS.out _ _ _ _).mono ?_;rintro e w9 ⟨rfl,rfl⟩))
  go_ret
  refine⟨⟨a7,c7,F,rfl,O7.out,List.Perm.refl _,?_⟩,B7.out⟩
  rw[List.eq_nil_of_length_eq_zero Hm.out.symm]
  exact List.Pairwise.nil
 ·have HS:=Lib.hid sortLines
  go_enter Tryz.func26,Tryz.ntmps26
  go_wp2_with (first | (go_at_call 36;refine HC.out.mono ?_;rintro e w8 ⟨⟨a',c',rfl,-,hown⟩,hb⟩;have O8:=Lib.hid hown;have B8:=Lib.hid hb;have HD8:=Lib.hid (HD.out _ w8 O8.out B8.out.size);clear hown hb) | (go_at_call 35;refine HD8.out.mono ?_;rintro e w7 ⟨a7,c7,rfl,hown,hb⟩;obtain⟨g,rfl⟩:∃ g,a7=some ⟨g,0,none⟩:=(by obtain⟨a2,c2,e2,-,-,hg⟩:=hown.form;obtain⟨g,hg⟩:=hg (by have:=Hm.out;omega);injection e2 with e3;exact⟨g,e3.trans hg⟩);have O7:=Lib.hid hown;have B7:=Lib.hid (B8.out.trans hb);clear hown hb) | (go_at_call 58;refine (HS.out _ _ _ _ _ _ O7.out hm2).mono ?_;rintro e w9 ⟨rfl,Y,hY,hp,hs,ho⟩;have O9:=Lib.hid hY;have P9:=Lib.hid hp;have S9:=Lib.hid hs;have W9:=Lib.hid ho;clear hY hp hs ho))
  go_ret
  refine⟨⟨_,c7,Y,rfl,O9.out,P9.out,S9.out⟩,?_⟩
  have hg:=(O7.out.ge g rfl).1
  exact below_only B7.out W9.out (Nat.le_refl _) hg
end Go.Proofs.YtgplnekpgdhcpaaGreat
namespace Go.Proofs.YtgplnekpgdhcpaaGreat
open Go.RowKit Go.Maps

def MH (w:World) (b n:Nat) (z:Value) (f:Int->Value) (g:Int->Bool):Prop:=∃ D,w.ownsMap Tryz.prog 3 RVal b n D/\(∀ s,D.atKey (.int .i64 s) (.held z) = .held (f s))/\∀ s,Maps.has D (.int .i64 s)=g s
theorem MH.made (w:World) (z:Value):MH (w.alloc (.map #[] 0)) w.heap.size 0 z (fun _=>z) (fun _=>false):=⟨_,World.ownsMap_made _ _ _ _,fun _=>rfl,fun _=>rfl⟩
section
variable {w w':World} {b n:Nat} {z:Value} {f:Int->Value} {g:Int->Bool}
theorem MH.mi (h:MH w b n z f g):MI w b n z f:=by
 obtain⟨D,h1,h2,-⟩:=h
 exact⟨D,h1,h2⟩
theorem MH.lt (h:MH w b n z f g):b < w.heap.size:=h.mi.lt
theorem MH.block (h:MH w b n z f g) (hb:w'.heap[b]? = w.heap[b]?):MH w' b n z f g:=by
 obtain⟨D,⟨es,clock,h1,h2⟩,h3⟩:=h
 exact⟨D,⟨es,clock,hb.trans h1,h2⟩,h3⟩
theorem MH.below (h:MH w b n z f g) {B:Nat} (hb:Below B w w') (hB:b < B):MH w' b n z f g:=h.block (hb.block b hB)
theorem MH.lookOk (h:MH w b n z f g) {t e:TypeId} (ht:Tryz.prog.underlying t=some (.map 3 e)) (hz:(zeroValue e).run Tryz.prog w = .ok z w) (s:Int) (h1:-9223372036854775808<=s) (h2:s<=9223372036854775807) :
  (Instr.lookup t (.map (some b)) (.int .i64 s) true).run Tryz.prog w = .ok (.tuple #[f s,.bool (g s)]) w:=by
 obtain⟨D,h3,h4,h5⟩:=h
 obtain⟨v,ps,hrun,hv⟩:=h3.look_ok ikey ht hz (zd:=.held z) (zp:=[]) rfl (ikey_of s h1 h2)
 rw[h4 s] at hv
 cases hv
 rw[h5 s] at hrun
 exact hrun
theorem MH.put (h:MH w b n z f g) {t e:TypeId} (ht:Tryz.prog.underlying t=some (.map 3 e)) (hn:n < 9223372036854775807) (s:Int) (h1:-9223372036854775808<=s) (h2:s<=9223372036854775807) (v:Value) :
  ∃ w',(Instr.mapUpdate t (.map (some b)) (.int .i64 s) v).run Tryz.prog w = .ok () w'/\MH w' b (n+1) z (updV f s v) (fun x=>if x=s then true else g x)/\w.grownBy w' (some b):=by
 obtain⟨D,h3,h4,h5⟩:=h
 obtain⟨w',hrun,r1,r2⟩:=h3.update ikey ht (by simpa [maxLen] using hn) (ikey_of s h1 h2) (val:=v) (d:=.held v) (ps:=[]) rfl
 refine⟨w',hrun,⟨_,r1,fun x=>?_,fun x=>?_⟩,r2⟩
 ·by_cases e:x=s
  ·subst e
   rw[atKey_put_same h3.isMap (show WideAt.IsKeyLit (.int .i64 x) by trivial),updV_same]
  ·rw[atKey_put_other (fun e2=>e (by cases e2;rfl)),h4,updV_other _ _ e]
 ·by_cases e:x=s
  ·subst e
   rw[has_put_same h3.isMap (show WideAt.IsKeyLit (.int .i64 x) by trivial)]
   exact (if_pos rfl).symm
  ·rw[has_put_other (fun e2=>e (by cases e2;rfl)),h5]
   exact (if_neg e).symm
end
theorem wpList_put_mh {w:World} {ops:Array Oper} {rest:List Oper} {o:Oper} {a:Act} {Q:Exit->Act->World->Prop} (hgd:o.guard=none) (m x v:Operand) (t:TypeId) (ho:o.op = .mapUpdate t m x v) {e:TypeId}
  (ht:Tryz.prog.underlying t=some (.map 3 e)) {b n:Nat} {z:Value} {f:Int->Value} {g:Int->Bool} (h:MH w b n z f g) (hn:n < 9223372036854775807) (s:Int) (val:Value) (hm:a.eval m = .map (some b)) (hx:a.eval x = .int .i64 s) (hv:a.eval v=val) (h1:-9223372036854775808<=s) (h2:s<=9223372036854775807)
  (hK:∀ w',MH w' b (n+1) z (updV f s val) (fun x=>if x=s then true else g x)->w.grownBy w' (some b)->wpList Tryz.prog ops Q rest (a.put o.dst undef) w'):wpList Tryz.prog ops Q (o :: rest) a w:=by
 refine wpList_plain hgd fun K' hK'=>?_
 obtain⟨w',hrun,r1,r2⟩:=h.put ht hn s h1 h2 val
 unfold Oper.wp
 simp[execOp,ho,hm,hx,hv,hrun,Result.andThen]
 exact hK' _ _ (hK w' r1 r2)
end Go.Proofs.YtgplnekpgdhcpaaGreat
namespace Go.Proofs.YtgplnekpgdhcpaaGreat
open Go.RowKit Go.Sort Go.Lib Go.Shelf

structure Kp2 (g1 g2:Nat) (w w':World):Prop where
 os:w'.os=w.os
 tape:w'.tape=w.tape
 output:w'.output=w.output
 size:w.heap.size<=w'.heap.size
 block:∀ b,b≠g1->b≠g2->b < w.heap.size->w'.heap[b]? = w.heap[b]?
theorem Kp2.refl (g1 g2:Nat) (w:World):Kp2 g1 g2 w w:=⟨rfl,rfl,rfl,Nat.le_refl _,fun _ _ _ _=>rfl⟩
theorem Kp2.below {g1 g2:Nat} {w w1 w2:World} (h:Kp2 g1 g2 w w1) (hb:Below w1.heap.size w1 w2):Kp2 g1 g2 w w2:=⟨hb.os.trans h.os,hb.tape.trans h.tape,hb.output.trans h.output,Nat.le_trans h.size hb.size,fun b e1 e2 hl=>(hb.block b (Nat.lt_of_lt_of_le hl h.size)).trans (h.block b e1 e2 hl)⟩
theorem Kp2.grown {g1 g2:Nat} {w w1 w2:World} {row:Option Nat} (h:Kp2 g1 g2 w w1) (hg:w1.grownBy w2 row) (hr:∀ b,row=some b->w.heap.size<=b):Kp2 g1 g2 w w2:=⟨hg.os.trans h.os,hg.tape.trans h.tape,hg.output.trans h.output,Nat.le_trans h.size hg.size,fun b e1 e2 hl=>(hg.block b (Nat.lt_of_lt_of_le hl h.size) (fun e=>by have:=hr b e.symm;omega)).trans (h.block b e1 e2 hl)⟩
theorem Kp2.set {g1 g2:Nat} {w w1:World} (h:Kp2 g1 g2 w w1) {p:Nat} (hp:p=g1∨p=g2) (k:Nat) (v:Value):Kp2 g1 g2 w (w1.setCell ⟨p,k,none⟩ v) :=
 ⟨h.os,h.tape,h.output,by rw[size_setCellI];exact h.size,fun b e1 e2 hl=>(setCell_block _ _ _ _ (by rcases hp with e | e <;> rw[e] <;> assumption)).trans (h.block b e1 e2 hl)⟩
theorem Kp2.out {g1 g2 B:Nat} {w0 w w1:World} (h:Kp2 g1 g2 w w1) (hb:Below B w0 w) (h1:B<=g1) (h2:B<=g2) (hB:B<=w.heap.size):Below B w0 w1 :=
 ⟨h.os.trans hb.os,h.tape.trans hb.tape,h.output.trans hb.output,Nat.le_trans hb.size h.size,fun b hl=>(h.block b (by omega) (by omega) (by omega)).trans (hb.block b hl)⟩
def put8L (W:World) (g i:Nat) (id:Int) (item:List UInt8) (qty asked rank st day:Int) (code:List UInt8):World:=(((((((W.setCell ⟨g,i * 8,none⟩ (.int .i64 id)).setCell ⟨g,i * 8+1,none⟩ (.string ⟨item.toArray⟩)).setCell ⟨g,i * 8+2,none⟩ (.int .i64 qty)).setCell ⟨g,i * 8+3,none⟩ (.int .i64 asked)).setCell ⟨g,i * 8+4,none⟩ (.int .i64 rank)).setCell ⟨g,i * 8+5,none⟩ (.int .u8 st)).setCell ⟨g,i * 8+6,none⟩ (.int .i64 day)).setCell ⟨g,i * 8+7,none⟩ (.string ⟨code.toArray⟩)
theorem own_set8 {base g n c:Nat} {w:World} {Y:List LineV} (h:lineE.Own base w (.slice (some ⟨g,0,none⟩) n c) Y) {i:Nat} (hi:i < n) (id:Int) (item:List UInt8) (qty asked rank st day:Int) (code:List UInt8):lineE.Own base (put8L w g i id item qty asked rank st day code) (.slice (some ⟨g,0,none⟩) n c) (Y.set i ⟨id,item,qty,asked,rank,st,day,code⟩):=by
 have hl:=(h.cell).1
 obtain⟨y1,y2,y3,y4,y5,y6,y7,y8⟩:∃ y:LineV,Y.getD i default=y:=⟨_,rfl⟩
 have key:∀ (W:World) (Z:List LineV) (a b:LineV) (j:Nat) (v:Value),lineE.Own base W (.slice (some ⟨g,0,none⟩) n c) (Y.set i a)->j < 8->lineE.enc b=(lineE.enc a).set j v->lineE.Own base (W.setCell ⟨g,i * 8+j,none⟩ v) (.slice (some ⟨g,0,none⟩) n c) (Y.set i b):=fun W Z a b j v hW hj he=>by
  have e:(Y.set i a).getD i default=a:=by
   rw[List.getD_eq_getElem?_getD,List.getElem?_set_self (by omega)]
   rfl
  have:=own_setCell hW i j b v hi hj (by rw[e];exact he)
  rwa [List.set_set] at this
 have h0:lineE.Own base w (.slice (some ⟨g,0,none⟩) n c) (Y.set i (Y.getD i default)):=by
  have e:Y.set i (Y.getD i default)=Y:=by
   rw[List.getD_eq_getElem?_getD,List.getElem?_eq_getElem (by omega)]
   exact List.set_getElem_self _
  rw[e];exact h
 generalize Y.getD i default=y at h0
 obtain⟨y1,y2,y3,y4,y5,y6,y7,y8⟩:=y
 have k1:=key w Y _ ⟨id,y2,y3,y4,y5,y6,y7,y8⟩ 0 (.int .i64 id) h0 (by decide) rfl
 have k2:=key _ Y _ ⟨id,item,y3,y4,y5,y6,y7,y8⟩ 1 (encStr item) k1 (by decide) rfl
 have k3:=key _ Y _ ⟨id,item,qty,y4,y5,y6,y7,y8⟩ 2 (.int .i64 qty) k2 (by decide) rfl
 have k4:=key _ Y _ ⟨id,item,qty,asked,y5,y6,y7,y8⟩ 3 (.int .i64 asked) k3 (by decide) rfl
 have k5:=key _ Y _ ⟨id,item,qty,asked,rank,y6,y7,y8⟩ 4 (.int .i64 rank) k4 (by decide) rfl
 have k6:=key _ Y _ ⟨id,item,qty,asked,rank,st,y7,y8⟩ 5 (.int .u8 st) k5 (by decide) rfl
 have k7:=key _ Y _ ⟨id,item,qty,asked,rank,st,day,y8⟩ 6 (.int .i64 day) k6 (by decide) rfl
 have k8:=key _ Y _ ⟨id,item,qty,asked,rank,st,day,code⟩ 7 (encStr code) k7 (by decide) rfl
 exact k8
theorem put8L_kp {g1 g2 g i:Nat} {w w1:World} (h:Kp2 g1 g2 w w1) (hg:g=g1) (id:Int) (item:List UInt8) (qty asked rank st day:Int) (code:List UInt8):Kp2 g1 g2 w (put8L w1 g i id item qty asked rank st day code):=by
 unfold put8L
 exact (((((((h.set (.inl hg) _ _).set (.inl hg) _ _).set (.inl hg) _ _).set (.inl hg) _ _).set (.inl hg) _ _).set (.inl hg) _ _).set (.inl hg) _ _).set (.inl hg) _ _
theorem put8L_block {W:World} {g i:Nat} (id:Int) (item:List UInt8) (qty asked rank st day:Int) (code:List UInt8) {b:Nat} (hb:b≠g):(put8L W g i id item qty asked rank st day code).heap[b]? = W.heap[b]?:=by
 unfold put8L
 simp only[setCell_block _ _ _ _ hb]
theorem put8L_size (W:World) (g i:Nat) (id:Int) (item:List UInt8) (qty asked rank st day:Int) (code:List UInt8):(put8L W g i id item qty asked rank st day code).heap.size=W.heap.size:=by
 unfold put8L
 simp only[size_setCellI]
theorem map_set_id {O:List LineV} (hd:(O.map (·.id)).Nodup) {i:Nat} (hi:i < O.length) {k:Int} (hk:(O.getD i default).id=k) (p:LineV):(O.map fun x=>if x.id=k then p else x)=O.set i p:=by
 apply List.ext_getElem
 ·simp
 ·intro j h1 h2
  rw[List.getElem_map,List.getElem_set]
  have hj:j < O.length:=by simpa using h1
  rw[List.getD_eq_getElem?_getD,List.getElem?_eq_getElem hi] at hk
  simp only[Option.getD_some] at hk
  by_cases e:i=j
  ·subst e
   rw[if_pos hk,if_pos rfl]
  ·rw[if_neg e,if_neg]
   intro h
   exact e ((List.getElem?_inj (i:=i) (j:=j) (by simpa using hi) hd).1 (by simp[hi,hj,hk,h]))
theorem step_appendN {α:Type} [Inhabited α] {w:World} {ops:Array Oper} {o:Oper} {a:Act} {K:Act->World->Prop} {Q:Exit->Act->World->Prop} {Z:Prop} (E:El α) (hgd:o.guard=none) (s x:Operand)
  (ho:o.op = .call { callee:=.builtin .append,args:=#[s,x],argTypes:=#[E.t,E.t] }) (base:Nat) (va:Option Addr) (vn vc:Nat) (X Y:List α) (k:Nat) (hk:k=Y.length) (hn:vn=X.length) (hs:a.eval s = .slice va vn vc) (h:E.Own base w (.slice va vn vc) X) (sa:Option Addr) (c:Nat)
  (hx:a.eval x = .slice sa k c) (hsrc:0 < Y.length->∃ ad,sa=some ad/\∀ j u,(E.cells Y)[j]? = some u->w.cell? (ad.add j)=some u) (hbase:base<=w.heap.size) (hl:vn+k<=1000000000)
  (hK:∀ a' c' w',E.Own base w' (.slice a' (vn+k) c') (X ++ Y)->w.grownBy w' (Value.slice va vn vc).ownBlock->K (a.put o.dst (.slice a' (vn+k) c')) w') :
  if Region.wanted o (yielded ops a.tmps)=true then Oper.wp Tryz.prog o a w K Q else Z:=by
 have hw:Region.wanted o (yielded ops a.tmps)=true:=by simp[Region.wanted,hgd]
 rw[if_pos hw]
 subst hk
 subst hn
 by_cases h0:Y.length=0
 ·obtain rfl:Y=[]:=List.eq_nil_of_length_eq_zero h0
  obtain⟨i0,hi,-⟩:=E.info'
  have hle:X.length<=vc:=by
   obtain⟨a1,c1,e1,h1,-⟩:=h.form
   injection e1 with e1 e2 e3
   rw[e3];exact h1
  have hr:=run_append_nothing (P:=Tryz.prog) w E.t o.type E.e i0 E.under hi va sa X.length vc c hle
  unfold Oper.wp execOp
  simp only[List.length_nil] at hx
  simp only[ho,resolve,invoke,builtin,Sem.run_bind,Sem.run_pure,Result.andThen_ok,List.map_toArray,List.map_cons,List.map_nil,hs,hx,hr]
  exact hK va vc w (by simpa using h) ⟨rfl,rfl,rfl,Nat.le_refl _,fun _ _ _=>rfl⟩
 ·obtain⟨g,cap,w',hr,h1,h2,h3,h4⟩:=El.run_append h o.type sa c (hsrc (by omega)) (by omega) hbase hl
  unfold Oper.wp execOp
  simp only[ho,resolve,invoke,builtin,Sem.run_bind,Sem.run_pure,Result.andThen_ok,List.map_toArray,List.map_cons,List.map_nil,hs,hx,hr]
  exact hK _ cap w' h1 h3
theorem ent_wants:Enters Tryz.prog 43:=enters_of Tryz.func43 (by kernel_rfl) rfl
theorem zeroIntH (w:World):(zeroValue 3).run Tryz.prog w = .ok (.int .i64 0) w:=Tryz.zeroValue3 w
end Go.Proofs.YtgplnekpgdhcpaaGreat
namespace Go.Proofs.YtgplnekpgdhcpaaGreat
open Go.RowKit

theorem scanD_iff {had:Int->Bool}:∀ (n:Nat) (d x:Int),scanD had n d=some x↔d<=x/\x < d+n/\had x=true/\∀ y,d<=y->y < x->had y=false
 | 0,d,x=>by
  simp only[scanD]
  exact⟨fun h=>(by cases h),fun ⟨h1,h2,_⟩=>by omega⟩
 | n+1,d,x=>by
  rw[scanD]
  split
  ·next h =>
   constructor
   ·intro e
    injection e with e
    subst e
    exact⟨by omega,by omega,h,fun y h1 h2=>by omega⟩
   ·rintro⟨h1,h2,h3,h4⟩
    by_cases e:d=x
    ·rw[e]
    ·have:=h4 d (Int.le_refl _) (by omega)
     rw[h] at this
     cases this
  ·next h =>
   rw[scanD_iff n (d+1) x]
   constructor
   ·rintro⟨h1,h2,h3,h4⟩
    refine⟨by omega,by omega,h3,fun y k1 k2=>?_⟩
    by_cases e:y=d
    ·rw[e];simpa using h
    ·exact h4 y (by omega) k2
   ·rintro⟨h1,h2,h3,h4⟩
    refine⟨?_,by omega,h3,fun y k1 k2=>h4 y (by omega) k2⟩
    by_cases e:x=d
    ·rw[e] at h3;exact absurd h3 h
    ·omega
theorem dayX_iff {L:List LotV} {W:List WantV} {P:List (List UInt8×Int)} {a b x:Int}:dayX L W P a b=some x↔max a 0<=x/\x<=min b 4000/\hadB L W P x=true/\∀ y,max a 0<=y->y < x->hadB L W P y=false:=by
 unfold dayX
 rw[scanD_iff]
 constructor
 ·rintro⟨h1,h2,h3,h4⟩
  exact⟨h1,by omega,h3,h4⟩
 ·rintro⟨h1,h2,h3,h4⟩
  exact⟨h1,by omega,h3,h4⟩
theorem mayB_parts {L:List LotV} {W:List WantV}:mayB L W=true↔mayB L []=true/\W.length<=20000/\W.all wantOk=true:=by
 unfold mayB
 simp only[Bool.and_eq_true,decide_eq_true_eq,List.length_nil,List.all_nil]
 constructor
 ·rintro⟨⟨⟨⟨h1,h2⟩,h3⟩,h4⟩,h5⟩
  exact⟨⟨⟨⟨⟨h1,by omega⟩,h3⟩,h4⟩,trivial⟩,h2,h5⟩
 ·rintro⟨⟨⟨⟨⟨h1,-⟩,h3⟩,h4⟩,-⟩,h2,h5⟩
  exact⟨⟨⟨⟨h1,h2⟩,h3⟩,h4⟩,h5⟩
section
variable {parts:List UInt8->Int->Option (List (List UInt8×Int))} {row:List UInt8->List (List UInt8)} {L:List LotV} {now:Int}
theorem promL_keys (W:List WantV) (l:LineV):(promL parts row L now W l).id=l.id/\(promL parts row L now W l).st=l.st/\(promL parts row L now W l).rank=l.rank/\(promL parts row L now W l).qty=l.qty/\(promL parts row L now W l).item=l.item:=by
 obtain⟨d,c,h⟩:=promC_form parts L now W l (row l.item)
 have e:promL parts row L now W l = { l with day:=d,code:=c }:=h
 rw[e]
 exact⟨rfl,rfl,rfl,rfl,rfl⟩
variable (parts row L now)
variable {parts row L now}
section
variable {right:LineV->Bool} {N:List LineV}
end
end
end Go.Proofs.YtgplnekpgdhcpaaGreat
