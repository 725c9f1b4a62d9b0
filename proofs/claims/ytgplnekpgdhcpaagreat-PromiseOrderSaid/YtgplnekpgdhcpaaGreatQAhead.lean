/- What PromiseOrder leans on: plain. storemanlaw10.open: its walk. (Printed by gen/lopen.py.) rank.Ahead at an open line of its own lines: those ahead of it. -/
import Derived.Test.YtgplnekpgdhcpaaGreatQLineK
import Derived.Test.YtgplnekpgdhcpaaGreatQLRight
import Derived.Test.YtgplnekpgdhcpaaGreatQStM
import Derived.Test.YtgplnekpgdhcpaaGreatQPromO
import Derived.Test.YtgplnekpgdhcpaaGreatQTwSt
import Derived.Test.YtgplnekpgdhcpaaGreatQFillQ
import Derived.Deep.DeepCutAuto
import Derived.Test.YtgplnekpgdhcpaaGreatQROpen
import Derived.Test.YtgplnekpgdhcpaaGreatKRight
namespace Go.Proofs.YtgplnekpgdhcpaaGreat
open Go.RowKit
section
variable {parts:List UInt8->Int->Option (List (List UInt8×Int))} {row:List UInt8->List (List UInt8)} {L:List LotV} {now:Int} {right:LineV->Bool} {N:List LineV}
theorem all_again2 (hnow:nowOk now=true) (hid:(N.map (·.id)).Nodup) (hr:N.all right=true) (hr2:∀ W l,l.st=1->right l=true->right (promL parts row L now W l)=true):allX parts row right L now (allX parts row right L now N)=allX parts row right L now N:=by
 rw[allX_form hnow hid hr]
 have hid2:((N.map (repl (openP parts row L now N))).map (·.id)).Nodup:=by rw[map_ids];exact hid
 have hr3:(N.map (repl (openP parts row L now N))).all right=true:=by
  rw[List.all_eq_true]
  intro y hy
  obtain⟨x,hx,rfl⟩:=List.mem_map.1 hy
  have hxr:=List.all_eq_true.1 hr x hx
  obtain⟨h1,h2,-⟩:=repl_open (parts:=parts) (row:=row) (L:=L) (now:=now) hid hx
  by_cases hs:x.st=1
  ·have hm:=h1 hs
   exact (prF_forall (Q:=fun z=>z.st=1/\right z=true) (fun W l h=>⟨by rw[(promL_keys W l).2.1];exact h.1,hr2 W l h.1 h.2⟩) _ _ (fun l hl=>⟨by have:=(List.mem_filter.1 ((openX_perm N).mem_iff.1 hl)).2;simpa using this,List.all_eq_true.1 hr l (List.mem_filter.1 ((openX_perm N).mem_iff.1 hl)).1⟩) _ hm).2
  ·rw[h2 hs];exact hxr
 rw[allX_form hnow hid2 hr3]
 have e:openP parts row L now (N.map (repl (openP parts row L now N)))=openP parts row L now N:=by
  show prF parts row L now [] (openX (N.map (repl (openP parts row L now N))))=_
  rw[open_all hid]
  exact prF_again _ _
 rw[e,List.map_map]
 apply List.map_congr_left
 intro x hx
 simp only[Function.comp]
 have h0:(openP parts row L now N).find? (fun z=>decide (z.id=(repl (openP parts row L now N) x).id))=(openP parts row L now N).find? (fun z=>decide (z.id=x.id)):=by rw[repl_id]
 conv=>lhs;unfold repl
 rw[show (((openP parts row L now N).find? fun z=>decide (z.id=x.id)).getD x)=repl (openP parts row L now N) x from rfl,h0]
 unfold repl
 cases (openP parts row L now N).find? (fun z=>decide (z.id=x.id)) <;> rfl
theorem one_ahead2 (hnow:nowOk now=true) (hid:(N.map (·.id)).Nodup) (hr:N.all right=true) (hr2:∀ W l,l.st=1->right l=true->right (promL parts row L now W l)=true) {A:List LineV} {z:LineV} {B:List LineV} (h:openP parts row L now N=A ++ z :: B):oneX parts row right L now (A ++ [{ z with day:=-1,code:=[] }]) z=z:=by
 have hzm:z∈openP parts row L now N:=by rw[h];simp
 have hz1:z.st=1:=prF_forall (Q:=fun z=>z.st=1) (fun W l h=>by rw[(promL_keys W l).2.1];exact h) _ _ (fun l hl=>by
  have:=(List.mem_filter.1 ((openX_perm N).mem_iff.1 hl)).2
  simpa using this) z hzm
 have hzr:right z=true:=(prF_forall (Q:=fun z=>z.st=1/\right z=true) (fun W l h=>⟨by rw[(promL_keys W l).2.1];exact h.1,hr2 W l h.1 h.2⟩) _ _ (fun l hl=>⟨by have:=(List.mem_filter.1 ((openX_perm N).mem_iff.1 hl)).2;simpa using this,List.all_eq_true.1 hr l (List.mem_filter.1 ((openX_perm N).mem_iff.1 hl)).1⟩) _ hzm).2
 have hnd:((openP parts row L now N).map (·.id)).Nodup:=by
  unfold openP
  rw[prF_ids]
  exact openX_nodup hid
 unfold oneX
 rw[if_pos ⟨hnow,hzr,hz1⟩]
 have e:(A ++ [{ z with day:=-1,code:=[] }]).filter (fun x=>decide (x.id≠z.id))=A:=by
  rw[List.filter_append]
  have e1:A.filter (fun x=>decide (x.id≠z.id))=A:=by
   rw[List.filter_eq_self]
   intro x hx
   rw[h,List.map_append,List.map_cons,List.nodup_append] at hnd
   simp only[ne_eq,decide_not,Bool.not_eq_true',decide_eq_false_iff_not]
   intro he
   exact hnd.2.2 x.id (List.mem_map_of_mem hx) z.id List.mem_cons_self he
  rw[e1]
  simp
 rw[e]
 have:=prF_each (parts:=parts) (row:=row) (L:=L) (now:=now) (openX N) [] A z B h
 rw[List.nil_append] at this
 exact this
end
theorem parts_code {X:List It} {c:List UInt8} {q:Int} {P:List Pt} (h:partsO X c q=some P):okCode c=true:=by
 obtain⟨h0,-⟩:=partsO_ps h
 unfold partsE at h0
 split at h0
 ·next h=>exact absurd h0 h
 ·next hk =>
  split at h0
  ·exact absurd h0 (by decide)
  ·split at h0
   ·exact absurd h0 (by decide)
   ·next h =>
    have hc:c∈codes X:=Classical.not_not.1 h
    have hs:=sound_of (Classical.not_not.1 hk)
    unfold codes at hc
    obtain⟨x,hx,e⟩:=List.mem_map.1 hc
    obtain⟨i,hi,rfl⟩:=List.getElem_of_mem hx
    have:=(okIt_parts (hs.ok i hi)).1
    unfold cd at this
    rw[List.getD_eq_getElem?_getD,List.getElem?_eq_getElem hi] at this
    rw[<- e]
    exact this
theorem right_prom {X:List It} {L:List LotV} {now:Int} (W:List WantV) (l:LineV) (hs:l.st=1) (h:lineOk l=true):lineOk (promL (partsO X) (rowX X) L now W l)=true:=by
 obtain⟨id,item,qty,asked,rank,st,day,code⟩:=l
 simp only at hs
 subst hs
 unfold lineOk at h
 rw[Bool.and_eq_true] at h
 rcases prom_right (ok:=okCode) (fun c q P=>parts_code) W ⟨id,item,qty,asked,rank,1,day,code⟩ with e | ⟨d,c,e,h1,h2,h3⟩
 ·rw[e]
  unfold lineOk
  rw[Bool.and_eq_true]
  exact⟨h.1,by simp⟩
 ·rw[e]
  unfold lineOk
  rw[Bool.and_eq_true]
  refine⟨h.1,?_⟩
  simp only
  rw[if_neg (by omega),h3]
  simp[h1,h2]
theorem repl_fine {X:List It} (hX:∀ x∈X,x.code.length<=9223372036854775807) {L:List LotV} {now:Int} {N:List LineV} (hN:∀ x∈N,okLine x):∀ x∈N.map (repl (openP (partsO X) (rowX X) L now N)),okLine x:=fun x hx=>by
 obtain⟨y,hy,rfl⟩:=List.mem_map.1 hx
 have hZ:∀ z∈openP (partsO X) (rowX X) L now N,okLine z:=prF_forall (Q:=okLine) (fun W l h=>promL_fine hX h) _ _ (fun l hl=>hN l (List.mem_filter.1 ((openX_perm N).mem_iff.1 hl)).1)
 unfold repl
 cases hf:(openP (partsO X) (rowX X) L now N).find? fun z=>decide (z.id=y.id) with
 | none=>exact hN y hy
 | some z=>exact hZ z (List.mem_of_find?_eq_some hf)
structure OrdS (now:Int) (X:List It) (L:List LotV) (N Z P:List LineV):Prop where
 len:Z.length=N.length
 fits:(fillX L (wantsN (partsO X) Z)).isSome=true
 again:allX (partsO X) (rowX X) lineOk L now Z=Z
 opn:openX Z=P
 ids:(Z.map (·.id)).Nodup
 fine:(∀ x∈N,okLine x)->∀ x∈Z,okLine x
 small:P.length<=N.length
 each:∀ i,i < P.length->oneX (partsO X) (rowX X) lineOk L now (P.take i ++ [{ P.getD i default with day:=-1,code:=[] }]) (P.getD i default)=P.getD i default
theorem ordS {now:Int} {X:List It} {L:List LotV} {N:List LineV} (h:RgtS now X L N) (hX:∀ x∈X,x.code.length<=9223372036854775807):OrdS now X L N (allX (partsO X) (rowX X) lineOk L now N) (openP (partsO X) (rowX X) L now N):=by
 have e:=allX_form (parts:=partsO X) (row:=rowX X) (L:=L) h.now h.ids h.all
 refine⟨by rw[e,List.length_map],all_fits h.may h.now h.ids h.all,all_again2 h.now h.ids h.all right_prom,by rw[e];exact open_all h.ids,by rw[e,map_ids];exact h.ids,fun hN=>by rw[e];exact repl_fine hX hN,?_,fun i hi=>?_⟩
 ·have e1:=congrArg List.length (prF_ids (parts:=partsO X) (row:=rowX X) (L:=L) (now:=now) (openX N) [])
  rw[List.length_map,List.length_map] at e1
  show (prF (partsO X) (rowX X) L now [] (openX N)).length<=_
  rw[e1,(openX_perm N).length_eq]
  exact List.length_filter_le _ _
 ·refine one_ahead2 h.now h.ids h.all right_prom (A:=(openP (partsO X) (rowX X) L now N).take i) (B:=(openP (partsO X) (rowX X) L now N).drop (i+1)) ?_
  rw[List.getD_eq_getElem?_getD,List.getElem?_eq_getElem hi]
  simp only[Option.getD_some]
  rw[<- List.drop_eq_getElem_cons hi,List.take_append_drop]
end Go.Proofs.YtgplnekpgdhcpaaGreat
namespace Go.Proofs.YtgplnekpgdhcpaaGreat
open Go.RowKit Go.Sort Go.Lib Go.Shelf
theorem alloc4L (w:World) (A C D E:Obj) (W:World) (hW:W=(((w.alloc A).alloc C).alloc D).alloc E):W.heap[w.heap.size+1]? = some C/\W.heap[w.heap.size+1+1]? = some D/\W.heap[w.heap.size+1+1+1]? = some E/\Below w.heap.size w W/\W.heap.size=w.heap.size+4:=by
 have s1:=World.size_alloc w A
 have s2:=World.size_alloc (w.alloc A) C
 have s3:=World.size_alloc ((w.alloc A).alloc C) D
 have s4:=World.size_alloc (((w.alloc A).alloc C).alloc D) E
 have b1:=below_allocL w A
 have b2:=below_allocL (w.alloc A) C
 have b3:=below_allocL ((w.alloc A).alloc C) D
 have b4:=below_allocL (((w.alloc A).alloc C).alloc D) E
 subst hW
 refine⟨?_,?_,?_,b1.trans ((b2.trans ((b3.trans (b4.mono b3.size)).mono b2.size)).mono b1.size),by omega⟩
 ·rw[b4.block _ (by omega),b3.block _ (by omega),<- s1]
  exact heap_alloc_new _ _
 ·rw[b4.block _ (by omega),show w.heap.size+1+1=((w.alloc A).alloc C).heap.size by omega]
  exact heap_alloc_new _ _
 ·rw[show w.heap.size+1+1+1=(((w.alloc A).alloc C).alloc D).heap.size by omega]
  exact heap_alloc_new _ _
theorem lineObj_src {W:World} {p:Nat} {id:Int} {item:List UInt8} {qty asked rank st day:Int} {code:List UInt8} (h:W.heap[p]? = some (lineObj id item qty asked rank st day code)):∀ j u,(lineE.cells [(⟨id,item,qty,asked,rank,st,day,code⟩:LineV)])[j]? = some u->W.cell? ((⟨p,0,none⟩:Addr).add j)=some u:=fun j u hj=>by
 have e:lineE.cells [(⟨id,item,qty,asked,rank,st,day,code⟩:LineV)]=[.int .i64 id,encStr item,.int .i64 qty,.int .i64 asked,.int .i64 rank,.int .u8 st,.int .i64 day,encStr code]:=rfl
 rw[e] at hj
 obtain⟨c0,c1,c2,c3,c4,c5,c6,c7⟩:=lineObj_cells h
 have ea:(⟨p,0,none⟩:Addr).add j=⟨p,j,none⟩:=by
  simp[Addr.add]
  exact fun h=>h.symm
 rw[ea]
 match j,hj with
 | 0,hj=>exact c0.trans hj
 | 1,hj=>exact c1.trans hj
 | 2,hj=>exact c2.trans hj
 | 3,hj=>exact c3.trans hj
 | 4,hj=>exact c4.trans hj
 | 5,hj=>exact c5.trans hj
 | 6,hj=>exact c6.trans hj
 | 7,hj=>exact c7.trans hj
def LoP (w:World) (now nl nx:Int) (b1:Option Addr) (m1 d1:Nat) (b2:Option Addr) (m2 d2:Nat) (n:Nat) (Y:List LineV) (e:Ending) (w':World):Prop :=
 (∃ a' c',e = .returned (.agg #[.int .i64 now,.int .i64 nl,.int .i64 nx,.slice b1 m1 d1,.slice b2 m2 d2,.slice a' (n+1) c'])/\lineE.Own w.heap.size w' (.slice a' (n+1) c') Y)/\Below w.heap.size w w'
set_option maxHeartbeats 4000000 in
set_option maxRecDepth 100000 in
theorem lo_tail (p q:Nat) (now nl nx:Int) (a1:Option Addr) (n1 c1:Nat) (a2:Option Addr) (n2 c2:Nat) (a3:Option Addr) (n3 c3:Nat) (W:World) (R:Ending->World->Prop) (hp:W.heap[p]? = some (stObj now nl nx (.slice a1 n1 c1) (.slice a2 n2 c2) (.slice a3 n3 c3))) (hq:W.heap[q]? = some (stObj 0 0 0 (.slice none 0 0) (.slice none 0 0) (.slice none 0 0)))
  (hR:∀ w',(∀ b,b≠q->w'.heap[b]? = W.heap[b]?)->w'.heap.size=W.heap.size->(∀ B w,Below B w W->B<=q->Below B w w')->R (.returned (.agg #[.int .i64 now,.int .i64 nl,.int .i64 nx,.slice a1 n1 c1,.slice a2 n2 c2,.slice a3 n3 c3])) w') (s0 s1 s2 s3 s4 s5 s8 s9 s10 s11 s12 s13 s14 s15 s16 s17:Value) :
  Code.wp Tryz.prog (dropQ 4 (Tryz.f28.body.getD .skip)) (bodyPost Tryz.prog Tryz.f28 R) ⟨List.toArray (s0 :: s1 :: s2 :: s3 :: s4 :: s5 :: .pointer (some ⟨q,0,none⟩) :: .pointer (some ⟨p,0,none⟩) :: s8 :: s9 :: s10 :: s11 :: s12 :: s13 :: s14 :: s15 :: s16 :: s17 :: []),[]⟩ W:=by
 have f:=st_frozen hq
 have f0:=f 0;have f1:=f 1;have f2:=f 2;have f3:=f 3;have f4:=f 4;have f5:=f 5
 obtain⟨y0,y1,y2,y3,y4,y5⟩:=stObj_cells hp
 obtain⟨z0,z1,z2,z3,z4,z5⟩:=stObj_cells hq
 have HR:=Lib.hid hR
 have HQ:=Lib.hid hq
 clear hR hp hq f
 conv=>arg 2;whnf
 go_wp2_with (fail)
 have hput:=st_put HQ.out now nl nx (.slice a1 n1 c1) (.slice a2 n2 c2) (.slice a3 n3 c3)
 obtain⟨W9,hW9⟩:∃ V,V=((((((W.setCell ⟨q,0,none⟩ (.int .i64 now)).setCell ⟨q,1,none⟩ (.int .i64 nl)).setCell ⟨q,2,none⟩ (.int .i64 nx)).setCell ⟨q,3,none⟩ (.slice a1 n1 c1)).setCell ⟨q,4,none⟩ (.slice a2 n2 c2)).setCell ⟨q,5,none⟩ (.slice a3 n3 c3)):=⟨_,rfl⟩
 rw[<- hW9] at hput ⊢
 obtain⟨x0,x1,x2,x3,x4,x5⟩:=stObj_cells hput
 have HW9:=Lib.hid hW9
 have HPUT:=Lib.hid hput
 clear hW9 hput
 refine bodyPost_ret (results_cell_row (P:=Tryz.prog) (fn:=Tryz.f28) (p:=6) (ty:=26) rfl _ W9 q 26 _ (0,0) _ rfl HPUT.out Tryz.underlying26 rfl (by kernel_rfl)) rfl ?_
 rw[HW9.out]
 exact HR.out _ (fun b hb=>by simp only[setCell_block _ _ _ _ hb]) (by simp only[size_setCell]) (fun B w h hB=>below_set (below_set (below_set (below_set (below_set (below_set h _ _ _ hB) _ _ _ hB) _ _ _ hB) _ _ _ hB) _ _ _ hB) _ _ _ hB)
theorem st_put5L {W:World} {q:Nat} {now nl nx:Int} {u1 u2 u3:Value} (hq:W.heap[q]? = some (stObj now nl nx u1 u2 u3)) (v:Value):(W.setCell ⟨q,5,none⟩ v).heap[q]? = some (stObj now nl nx u1 u2 v):=by
 unfold stObj at *
 simp[setCell_eq,mapBlock,Array.getElem?_modify,hq,onCells]
theorem lo_fin {w W3 V:World} {now nl nx:Int} {b1:Option Addr} {m1 d1:Nat} {b2:Option Addr} {m2 d2:Nat} {u3:Value} {a9:Option Addr} {n c9:Nat} {Y:List LineV} (hs:W3.heap.size=w.heap.size+4) (O:lineE.Own W3.heap.size V (.slice a9 (n+1) c9) Y) (hB:Below w.heap.size w V)
  (P:V.heap[w.heap.size+1+1+1]? = some (stObj now nl nx (.slice b1 m1 d1) (.slice b2 m2 d2) u3)) (Q:V.heap[w.heap.size+1+1]? = some (stObj 0 0 0 (.slice none 0 0) (.slice none 0 0) (.slice none 0 0))) (s0 s1 s2 s3 s4 s5 s8 s9 s10 s11 s12 s13 s14 s15 s16 s17:Value) :
  Code.wp Tryz.prog (dropQ 4 (Tryz.f28.body.getD .skip)) (bodyPost Tryz.prog Tryz.f28 fun e w'=>LoP w now nl nx b1 m1 d1 b2 m2 d2 n Y e w') ⟨List.toArray (s0 :: s1 :: s2 :: s3 :: s4 :: s5 :: .pointer (some ⟨w.heap.size+1+1,0,none⟩) :: .pointer (some ⟨w.heap.size+1+1+1,0,none⟩) :: s8 :: s9 :: s10 :: s11 :: s12 :: s13 :: s14 :: s15 :: s16 :: s17 :: []),[]⟩ (V.setCell ⟨w.heap.size+1+1+1,5,none⟩ (.slice a9 (n+1) c9)):=by
 refine lo_tail (w.heap.size+1+1+1) (w.heap.size+1+1) now nl nx b1 m1 d1 b2 m2 d2 a9 (n+1) c9 _ _ (st_put5L P _) ?_ ?_ s0 s1 s2 s3 s4 s5 s8 s9 s10 s11 s12 s13 s14 s15 s16 s17
 ·rw[setCell_block _ _ _ _ (by omega)]
  exact Q
 ·intro w' h1 h2 h3
  refine⟨⟨a9,c9,rfl,?_⟩,h3 _ _ (below_set hB _ _ _ (by omega)) (by omega)⟩
  refine (El.Own.keep O (fun b hb=>?_)).mono (by omega)
  have:=(O.ge b hb).1
  rw[h1 b (by omega),setCell_block _ _ _ _ (by omega)]
theorem ent_cloneL:Enters Tryz.prog 60:=enters_of Tryz.func60 (by kernel_rfl) rfl
set_option maxHeartbeats 8000000 in
set_option maxRecDepth 100000 in
theorem lOpen_any (B:Nat) (now nl nx:Int) (b1:Option Addr) (m1 d1:Nat) (b2:Option Addr) (m2 d2:Nat) (b3:Option Addr) (m3 d3:Nat) (a:Option Addr) (n c:Nat) (A:List LineV) (id:Int) (item:List UInt8) (qty asked rank st day:Int) (code:List UInt8) (w:World) (hA:lineE.In B w a n c A) (hB:B<=w.heap.size) (hn:n<=5000) :
  Calls Tryz.prog 28 #[.agg #[.int .i64 now,.int .i64 nl,.int .i64 nx,.slice b1 m1 d1,.slice b2 m2 d2,.slice b3 m3 d3],.slice a n c,.agg #[.int .i64 id,.string ⟨item.toArray⟩,.int .i64 qty,.int .i64 asked,.int .i64 rank,.int .u8 st,.int .i64 day,.string ⟨code.toArray⟩]] w fun e w'=>LoP w now nl nx b1 m1 d1 b2 m2 d2 n (A ++ [⟨id,item,qty,asked,rank,st,-1,[]⟩]) e w':=by
 go_enter Tryz.func28,Tryz.ntmps28
 go_upto_region 3 with (fail)
 obtain⟨W3,hW3⟩:∃ V,V=(((w.alloc (.cells #[.int .i64 now,.int .i64 nl,.int .i64 nx,.slice b1 m1 d1,.slice b2 m2 d2,.slice b3 m3 d3] 26)).alloc (.cells #[.int .i64 id,.string ⟨item.toArray⟩,.int .i64 qty,.int .i64 asked,.int .i64 rank,.int .u8 st,.int .i64 (-1),.string ⟨#[]⟩] 29)).alloc (.cells #[.int .i64 0,.int .i64 0,.int .i64 0,.slice none 0 0,.slice none 0 0,.slice none 0 0] 26)).alloc (.cells #[.int .i64 now,.int .i64 nl,.int .i64 nx,.slice b1 m1 d1,.slice b2 m2 d2,.slice b3 m3 d3] 26):=⟨_,rfl⟩
 rw[<- hW3]
 obtain⟨hl1,hz2,hs7,hB3,hs3⟩:=alloc4L w _ _ _ _ W3 hW3
 have HB3:=Lib.hid hB3
 have HAt:=Lib.hid (fun (V:World) (hb:Below W3.heap.size W3 V)=>(show V.heap[w.heap.size+1]? = some (lineObj id item qty asked rank st (-1) [])/\V.heap[w.heap.size+1+1]? = some (stObj 0 0 0 (.slice none 0 0) (.slice none 0 0) (.slice none 0 0))/\V.heap[w.heap.size+1+1+1]? = some (stObj now nl nx (.slice b1 m1 d1) (.slice b2 m2 d2) (.slice b3 m3 d3))/\Below w.heap.size w V/\lineE.In B V a n c A from ⟨(hb.block _ (by omega)).trans hl1,(hb.block _ (by omega)).trans hz2,(hb.block _ (by omega)).trans hs7,hB3.trans (hb.mono hB3.size),hA.below ((hB3.trans (hb.mono hB3.size)).mono hB)⟩))
 have HCL:Hid (∀ (V:World),Below W3.heap.size W3 V->Calls Tryz.prog 60 #[.slice a n c] V fun e w'=>(∃ a' c',e = .returned (.slice a' n c')/\lineE.Own W3.heap.size w' (.slice a' n c') A)/\Below V.heap.size V w'/\Below W3.heap.size W3 w'):=Lib.hid (fun V hb=>(CopyLines_any B a n c A V (HAt.out V hb).2.2.2.2 (by omega)).mono (fun e w' hh=>by
  obtain⟨⟨a8,c8,e8,ho⟩,hb8⟩:=hh
  exact⟨⟨a8,c8,e8,ho.mono hb.size⟩,hb8,hb.trans (hb8.mono hb.size)⟩))
 have hln:n=A.length:=hA.len
 have HLN:=Lib.hid hln
 have HS3:=Lib.hid hs3
 clear hl1 hz2 hs7 hB3 hs3 hW3 hA hln
 have bd:=Lib.hid (below_drewP (Below.refl W3.heap.size W3))
 obtain⟨l0,l1,l2,l3,l4,l5,l6,l7⟩:=lineObj_cells (HAt.out _ bd.out).1
 have HKQ:=Lib.hid (fun (V:World) (hb:Below (W3.drew.alloc (.cells #[.int .i64 id,.string ⟨item.toArray⟩,.int .i64 qty,.int .i64 asked,.int .i64 rank,.int .u8 st,.int .i64 (-1),.string ⟨#[]⟩] 29)).heap.size (W3.drew.alloc (.cells #[.int .i64 id,.string ⟨item.toArray⟩,.int .i64 qty,.int .i64 asked,.int .i64 rank,.int .u8 st,.int .i64 (-1),.string ⟨#[]⟩] 29)) V)=>(show V.heap[W3.heap.size]? = some (lineObj id item qty asked rank st (-1) []) from (hb.block _ (by rw[World.size_alloc];exact Nat.lt_succ_self _)).trans (heap_alloc_new W3.drew _)))
 have hbA:Below W3.heap.size W3 (W3.alloc (.cells #[.int .i64 id,.string ⟨item.toArray⟩,.int .i64 qty,.int .i64 asked,.int .i64 rank,.int .u8 st,.int .i64 (-1),.string ⟨#[]⟩] 29)):=below_allocL _ _
 obtain⟨r0,r1,r2,r3,r4,r5,r6,r7⟩:=lineObj_cells (HAt.out _ hbA).1
 go_region_law (first | (refine step_call (f:=60) (args:=#[.slice a n c]) rfl (run_fn1 rfl rfl ent_cloneL _ rfl) ?_;refine (HCL.out _ (by first | exact bd.out | exact bd.out.trans ((below_allocL _ _).mono bd.out.size))).mono ?_;rintro e wC ⟨⟨a2,c2,rfl,hoC⟩,hbC,hbD⟩;have BC:=Lib.hid hbD;have OC:=Lib.hid hoC;(first | (have kq:=Lib.hid (HKQ.out wC hbC)) | skip);obtain⟨t0,t1,t2,t3,t4,t5,t6,t7⟩:=lineObj_cells (HAt.out wC BC.out).1;clear hoC hbC hbD;refine⟨_,rfl,?_⟩) | (refine step_appendN lineE rfl _ _ rfl W3.heap.size a2 n c2 A [⟨id,item,qty,asked,rank,st,-1,[]⟩] 1 rfl HLN.out rfl OC.out (some ⟨W3.heap.size,0,none⟩) 1 rfl (fun _=>⟨_,rfl,lineObj_src kq.out⟩) BC.out.size (by omega) ?_;intro a9 c9 w9 ho9 hg9;have B9:=Lib.hid (BC.out.grown hg9 BC.out.size (fun r e=>(OC.out.ge r e).1));have O9:=Lib.hid ho9;have P9:=(HAt.out _ B9.out).2.2.1;have f5:=st_frozen P9 5;obtain⟨x0,x1,x2,x3,x4,x5⟩:=stObj_cells P9;clear P9 ho9 hg9) | (refine step_appendN lineE rfl _ _ rfl W3.heap.size a2 n c2 A [⟨id,item,qty,asked,rank,st,-1,[]⟩] 1 rfl HLN.out rfl (OC.out.below (below_allocL _ _)) (some ⟨wC.heap.size,0,none⟩) 1 rfl (fun _=>⟨_,rfl,lineObj_src (heap_alloc_new _ _)⟩) (Nat.le_trans BC.out.size (below_allocL _ _).size) (by omega) ?_;intro a9 c9 w9 ho9 hg9;have B9:=Lib.hid ((BC.out.trans ((below_allocL _ _).mono BC.out.size)).grown hg9 (Nat.le_trans BC.out.size (below_allocL _ _).size) (fun r e=>(OC.out.ge r e).1));have O9:=Lib.hid ho9;have P9:=(HAt.out _ B9.out).2.2.1;have f5:=st_frozen P9 5;obtain⟨x0,x1,x2,x3,x4,x5⟩:=stObj_cells P9;clear P9 ho9 hg9))
 all_goals iterate 2 go_step
 all_goals exact lo_fin HS3.out O9.out ((HAt.out _ B9.out).2.2.2.1) ((HAt.out _ B9.out).2.2.1) ((HAt.out _ B9.out).2.1) _ _ _ _ _ _ _ _ _ _ _ _ _ _ _ _
end Go.Proofs.YtgplnekpgdhcpaaGreat
namespace Go.Proofs.YtgplnekpgdhcpaaGreat
open Go.RowKit Go.Sort Go.Lib Go.Shelf
theorem El.In.cut {α:Type} [Inhabited α] {E:El α} {B:Nat} {w:World} {a:Option Addr} {n c:Nat} {X:List α} (h:E.In B w a n c X) (m:Nat) (hm:m<=n):E.In B w a m m (X.take m):=by
 have h1:=h.take m hm
 exact⟨h1.len,Nat.le_refl _,Nat.le_trans h1.le h1.mx,h1.fine,fun h0=>h1.at_ (Nat.lt_of_lt_of_le h0 h1.le)⟩
theorem aheadB_any (p:Nat) (k:Int) (x:LineV) (w:World) (hlt:p < w.heap.size) (hp:w.cell? ⟨p,0,none⟩=some (.int .i64 k)) :
  Calls Tryz.prog 62 (#[.agg #[.int .i64 x.id,encStr x.item,.int .i64 x.qty,.int .i64 x.asked,.int .i64 x.rank,.int .u8 x.st,.int .i64 x.day,encStr x.code]] ++ #[.pointer (some ⟨p,0,none⟩)]) w fun e w'=>e = .returned (.bool (decide (x.id=k)))/\Below w.heap.size w w':=by
 have hp2:∀ o,(w.alloc o).cell? ⟨p,0,none⟩=some (.int .i64 k):=fun o=>(((Below.refl w.heap.size w).alloc (Nat.le_refl _) o).cell (p:=⟨p,0,none⟩) hlt).trans hp
 have HB:=Lib.hid (fun o=>(Below.refl w.heap.size w).alloc (Nat.le_refl _) o)
 obtain⟨x_id,x_item,x_qty,x_asked,x_rank,x_st,x_day,x_code⟩:=x
 unfold encStr
 simp only
 clear hp
 show Calls _ _ #[_,_] w _
 by_cases hcc:x_id=k
 ·have e1:(x_id == k)=true:=by simpa using hcc
  have E:=Lib.hid (show decide (x_id=k)=true from decide_eq_true hcc)
  clear hcc
  go_enter Tryz.func62,Tryz.ntmps62
  go_wp2_with (fail)
  go_ret
  exact⟨by rw[E.out];first | rfl | simp[*],HB.out _⟩
 ·have e1:(x_id == k)=false:=by simpa using hcc
  have E:=Lib.hid (show decide (x_id=k)=false from decide_eq_false hcc)
  clear hcc
  go_enter Tryz.func62,Tryz.ntmps62
  go_wp2_with (fail)
  go_ret
  exact⟨by rw[E.out];first | rfl | simp[*],HB.out _⟩
theorem idx_id {Y:List LineV} (hd:(Y.map (·.id)).Nodup) {i:Nat} (hi:i < Y.length):idxI (fun x:LineV=>decide (x.id=(Y.getD i default).id)) Y=(i:Nat):=by
 refine idxI_some hi (fun k hk=>?_) (by simp)
 have hk2:k < Y.length:=by omega
 rw[List.getD_eq_getElem?_getD,List.getD_eq_getElem?_getD,List.getElem?_eq_getElem hi,List.getElem?_eq_getElem hk2]
 simp only[Option.getD_some,decide_eq_false_iff_not]
 intro e
 have:=(List.getElem?_inj (i:=k) (j:=i) (by simpa using hk2) hd).1 (by simp[hk2,hi,e])
 omega
set_option maxHeartbeats 4000000 in
set_option maxRecDepth 100000 in
theorem Ahead_any (B:Nat) (a:Option Addr) (n c:Nat) (X:List LineV) (i:Nat) (k:Int) (w:World) (h:lineE.In B w a n c X) (hB:B<=w.heap.size) (hn:n<=100000000) (hd:(X.map (·.id)).Nodup) (hi:i < (openX X).length) (hk:k=((openX X).getD i default).id) :
  Calls Tryz.prog 29 #[.slice a n c,.int .i64 k] w fun e w'=>(∃ g,e = .returned (.slice (some ⟨g,0,none⟩) i i)/\lineE.In w'.heap.size w' (some ⟨g,0,none⟩) i i ((openX X).take i))/\Below w.heap.size w w':=by
 obtain⟨W1,hW1⟩:∃ V,V=w.alloc (.cells #[.int .i64 k] 3):=⟨_,rfl⟩
 have b1:Below w.heap.size w W1:=by rw[hW1];exact (Below.refl _ w).alloc (Nat.le_refl _) _
 have s1:W1.heap.size=w.heap.size+1:=by rw[hW1,World.size_alloc]
 have k1:W1.cell? ⟨w.heap.size,0,none⟩=some (.int .i64 k):=by rw[hW1];unfold World.cell?;rw[heap_alloc_new];rfl
 have hp:∀ V,Below W1.heap.size W1 V->V.cell? ⟨w.heap.size,0,none⟩=some (.int .i64 k):=fun V hb=>(hb.cell (p:=⟨w.heap.size,0,none⟩) (by show w.heap.size < _;omega)).trans k1
 have HO:=Lib.hid (open_any B a n c X W1 (h.below (b1.mono hB)) (Nat.le_trans hB b1.size) hn)
 have HP:=Lib.hid hp
 have hfin:∀ x∈openX X,lineE.ok x:=fun x hx=>h.fine x (List.mem_filter.1 ((openX_perm X).mem_iff.1 hx)).1
 have hnd:=openX_nodup hd
 have hln:(X.filter keepR).length=(openX X).length:=((openX_perm X).length_eq).symm
 have hlb:(openX X).length<=100000000:=by rw[<- hln];exact Nat.le_trans (List.length_filter_le _ _) (by rw[<- h.len];exact hn)
 have HY:=Lib.hid (fun (Y:List LineV) (hp:Y.Perm (X.filter keepR)) (hs:Y.Pairwise fun a b=>leK a b=true)=>openX_only hd hp hs)
 rw[hln] at HO
 have HX:=Lib.hid (idx_id hnd hi)
 rw[<- hk] at HX
 have HW1:=Lib.hid hW1
 have B1:=Lib.hid b1
 have HI:=Lib.hid hi
 have HS:=Lib.hid s1
 have HF:=Lib.hid hfin
 generalize openX X=Z at *
 obtain⟨m,hm⟩:∃ m,m=Z.length:=⟨_,rfl⟩
 rw[<- hm] at HO HI hlb
 have HM:=Lib.hid hm
 have hiZ:=HI.out
 have hi0:(0:Int)<=(i:Int):=by omega
 have hi1:(i:Int) < (m:Int):=by omega
 have e0:decide ((i:Int) < 0)=false:=by simp
 clear hp k1 hW1 b1 s1 h hd hnd hln hfin hm hi hk
 go_enter Tryz.func29,Tryz.ntmps29
 go_wp2_with (first | (go_at_call 26;rw[<- HW1.out];refine HO.out.mono ?_;rintro e w2 ⟨⟨a2,c2,Y,rfl,hoY,hpY,hsY⟩,hb2⟩;obtain⟨g,rfl⟩:∃ g,a2=some ⟨g,0,none⟩:=(by obtain⟨a7,c7,e7,-,-,hg⟩:=hoY.form;obtain⟨g,hg⟩:=hg (by have:=(Value.slice.inj e7).2.1;omega);exact⟨g,(Value.slice.inj e7).1.trans hg⟩);have B2:=Lib.hid (B1.out.trans (hb2.mono B1.out.size));have B2':=Lib.hid hb2;have EY:=HY.out Y hpY hsY;subst EY;have hin:=(hoY.in_ HF.out);rw[<- HM.out] at hin;obtain⟨a7,c7,e7,hin⟩:=hin;obtain⟨e8,-,e9⟩:=Value.slice.inj e7;subst e8;subst e9;have IN2:=Lib.hid hin;have hcm:m<=c2/\c2<=9223372036854775807:=⟨hin.le,hin.mx⟩;obtain⟨hc0,hc1⟩:=hcm;clear hoY hpY hsY hb2 hin e7) | (go_at_call 61;refine (indexLine_any ixLine_laid (fun x:LineV=>decide (x.id=k)) 62 #[.pointer (some ⟨w.heap.size,0,none⟩)] (enters_of Tryz.func62 (by kernel_rfl) rfl) w2.heap.size _ m c2 _ w2 IN2.out (Nat.le_refl _) (fun V x hb _=>aheadB_any w.heap.size k x V (by have:=hb.size;have:=B2'.out.size;have:=HS.out;omega) (HP.out V (B2'.out.trans (hb.mono B2'.out.size))))).mono ?_;rintro e w3 ⟨rfl,hb3⟩;rw[HX.out];have B3:=Lib.hid (B2.out.trans (hb3.mono B2.out.size));have IN3:=Lib.hid ((IN2.out.below hb3).mono hb3.size);clear hb3))
 go_ret
 exact⟨⟨g,rfl,IN3.out.cut i (Nat.le_of_lt HI.out)⟩,B3.out⟩
end Go.Proofs.YtgplnekpgdhcpaaGreat
