/-  -/
import Derived.Test.YtgplnekpgdhcpaaGreatQTurn
import Derived.Test.YtgplnekpgdhcpaaGreatKMark
import Derived.Test.YtgplnekpgdhcpaaGreatQWantsN
import Derived.Test.YtgplnekpgdhcpaaGreatQIdxWant
import Derived.Test.YtgplnekpgdhcpaaGreatJOver
import Derived.Test.YtgplnekpgdhcpaaGreatJRef
import Derived.Test.YtgplnekpgdhcpaaGreatQLineK
namespace Go.Proofs.YtgplnekpgdhcpaaGreat
section
open Go.RowKit Go.Sort Go.Lib Go.Shelf
theorem ri_belowW {B:Nat} {wr:World} {a:Option Addr} {n c:Nat} {X:List It} (h:RI B wr a n c X) (hB:B<=wr.heap.size) {i:Nat} (hi:i<n):∃ b o,a=some ⟨b,o,none⟩/\(∀ y:BelowW wr,y.v.cell? ⟨b,o+i*4,none⟩=some (encStr (X.getD i default).code))/\(∀ y:BelowW wr,y.v.cell? ⟨b,o+i*4+1,none⟩=some (.int .i64 (X.getD i default).life)) /\
  (∀ y:BelowW wr,y.v.cell? ⟨b,o+i*4+2,none⟩=some (.slice (X.getD i default).pa (X.getD i default).ps.length (X.getD i default).pc))/\(∀ y:BelowW wr,y.v.cell? ⟨b,o+i*4+3,none⟩=some (.slice (X.getD i default).oa (X.getD i default).os.length (X.getD i default).oc)):=by
 obtain⟨b,o,e,hb,-,g0,g1,g2,g3⟩:=h.item hi;have hlt:b<wr.heap.size:=Nat.lt_of_lt_of_le hb hB;exact⟨b,o,e,fun y=>(y.h.cell (by exact hlt)).trans g0,fun y=>(y.h.cell (by exact hlt)).trans g1,fun y=>(y.h.cell (by exact hlt)).trans g2,fun y=>(y.h.cell (by exact hlt)).trans g3⟩
set_option maxHeartbeats 4000000 in
set_option maxRecDepth 100000 in
theorem SameItems_like (B:Nat) (a b:Option Addr) (n c d:Nat) (X Y:List It) (w:World) (hx:RI B w a n c X) (hy:RI B w b n d Y) (hB:B<=w.heap.size) (hl:∀ i,i<n->LikeI (X.getD i default) (Y.getD i default)) :
  Calls Tryz.prog 75 #[.slice a n c,.slice b n d] w fun e w'=>e=.returned (.bool true)/\Below w.heap.size w w':=by
 have hle:=hx.le;have hmx:=hx.mx;have hle2:=hy.le;have hmx2:=hy.mx;have HX:=Lib.hid hx;have HY:=Lib.hid hy;have HL:=Lib.hid hl;clear hx hy hl;go_enter Tryz.func75,Tryz.ntmps75;go_wp2_with (fail);go_loopw [5] (fun s5 wr=>∃ j:Nat,s5=.int .i64 j/\j<=n/\Hid (Below w.heap.size w wr)) (fun s5 _=>n-(intOf s5).toNat)
 case atStart=>exact⟨0,rfl,Nat.zero_le _,Lib.hid (Below.refl _ _)⟩
 case round =>
  obtain⟨j,rfl,hj,Hb⟩:=hrel;by_cases hlt:j<n
  ·have hBr:B<=wr.heap.size:=Nat.le_trans hB Hb.out.size;obtain⟨b1,o1,rfl,l0,l1,l2,l3⟩:=ri_belowW (HX.out.below (Hb.out.mono hB)) hBr hlt;obtain⟨b2,o2,rfl,k0,k1,k2,k3⟩:=ri_belowW (HY.out.below (Hb.out.mono hB)) hBr hlt;have hxo:ItOk B wr (X.getD j default):=(HX.out.ok _ (getD_mem (by rw[<- HX.out.len];exact hlt))).below (Hb.out.mono hB);have hyo:ItOk B wr (Y.getD j default):=(HY.out.ok _ (getD_mem (by rw[<- HY.out.len];exact hlt))).below (Hb.out.mono hB);have HS:=Lib.hid (fun (V:World) (hb:Below wr.heap.size wr V)=>SameItem_like B _ _ V (hxo.below (hb.mono hBr)) (hyo.below (hb.mono hBr)) (Nat.le_trans hBr hb.size) (HL.out j hlt));clear hxo hyo;generalize X.getD j default=x at l0 l1 l2 l3 HS;generalize Y.getD j default=y at k0 k1 k2 k3 HS;obtain⟨xc,xl,xpa,xpc,xps,xoa,xoc,xos⟩:=x;obtain⟨yc,yl,ypa,ypc,yps,yoa,yoc,yos⟩:=y;unfold It.val at HS;simp only[encStr] at l0 l1 l2 l3 k0 k1 k2 k3 HS;have hs:∀ y:BelowW wr,Calls Tryz.prog 78 #[.agg #[.string ⟨xc.toArray⟩,.int .i64 xl,.slice xpa xps.length xpc,.slice xoa xos.length xoc],.agg #[.string ⟨yc.toArray⟩,.int .i64 yl,.slice ypa yps.length ypc,.slice yoa yos.length yoc]] y.v fun e w'=>e=.returned (.bool true)/\Below y.v.heap.size y.v w':=fun y=>HS.out y.v y.h
   go_wp2_with (fail);refine wp_region_below wr (by kernel_rfl) (by kernel_rfl) (Below.refl _ _) ?_
   repeat (go_big_quiet_step ((go_at_call 78;exact below_call (hs _))))
   refine wpQuiet_nil ?_;intro _ hw';obtain⟨y,hw''⟩:=hw';subst hw'';clear l0 l1 l2 l3 k0 k1 k2 k3;go_wp2_with (fail);go_roundw
   case rel=>exact⟨j+1,by go_num,by omega,Lib.hid (Hb.out.trans (y.h.mono Hb.out.size))⟩
   case measure=>simp[intOf];omega
  ·have hge:¬ (j:Int)<(n:Int):=by omega
   go_wp2_with (fail);go_ret;exact⟨rfl,Hb.out⟩
theorem two_st (w:World) (A C:Array Value):∃ W0,W0=(w.alloc (.cells A 26)).alloc (.cells C 26)/\Below w.heap.size w W0/\W0.heap.size=w.heap.size+2/\W0.heap[w.heap.size]? = some (.cells A 26)/\W0.heap[w.heap.size+1]? = some (.cells C 26):=by
 refine⟨_,rfl,((Below.refl _ w).alloc (Nat.le_refl _) _).alloc (by rw[World.size_alloc];omega) _,by rw[World.size_alloc,World.size_alloc],?_,?_⟩
 ·rw[((Below.refl (w.heap.size+1) (w.alloc _)).alloc (by rw[World.size_alloc];omega) _).block w.heap.size (by omega)];exact heap_alloc_new _ _
 ·have:=heap_alloc_new (w.alloc (.cells A 26)) (.cells C 26);rw[World.size_alloc] at this;exact this
set_option maxHeartbeats 4000000 in
set_option maxRecDepth 100000 in
theorem SameState_like (B:Nat) (now nl nx:Int) (a1 b1 a2 b2 a3 b3:Option Addr) (n1 c1 d1 n2 c2 d2 n3 c3 d3:Nat) (X Y:List It) (L:List LotV) (N:List LineV) (w:World) (hx:RI B w a1 n1 c1 X) (hy:RI B w b1 n1 d1 Y) (hl:∀ i,i<n1->LikeI (X.getD i default) (Y.getD i default)) (h2:lotE.In B w a2 n2 c2 L) (k2:lotE.In B w b2 n2 d2 L) (h3:lineE.In B w a3 n3 c3 N) (k3:lineE.In B w b3 n3 d3 N) (hB:B<=w.heap.size) :
  Calls Tryz.prog 44 #[.agg #[.int .i64 now,.int .i64 nl,.int .i64 nx,.slice a1 n1 c1,.slice a2 n2 c2,.slice a3 n3 c3],.agg #[.int .i64 now,.int .i64 nl,.int .i64 nx,.slice b1 n1 d1,.slice b2 n2 d2,.slice b3 n3 d3]] w fun e w'=>e=.returned (.bool true)/\Below w.heap.size w w':=by
 obtain⟨W0,hW0,hB0,hs00,hp0,hq0⟩:=two_st w #[.int .i64 now,.int .i64 nl,.int .i64 nx,.slice a1 n1 c1,.slice a2 n2 c2,.slice a3 n3 c3] #[.int .i64 now,.int .i64 nl,.int .i64 nx,.slice b1 n1 d1,.slice b2 n2 d2,.slice b3 n3 d3];have HI:=Lib.hid (SameItems_like B a1 b1 n1 c1 d1 X Y W0 (hx.below (hB0.mono hB)) (hy.below (hB0.mono hB)) (Nat.le_trans hB hB0.size) hl);have HL2:=Lib.hid (fun (V:World) (hb:Below w.heap.size w V)=>by
  have:=SameLots_any B B a2 b2 n2 n2 c2 d2 L L V (h2.below (hb.mono hB)) (k2.below (hb.mono hB));rw[decide_eq_true rfl] at this;exact this)
 have HL3:=Lib.hid (fun (V:World) (hb:Below w.heap.size w V)=>by
  have:=SameLines_any B B a3 b3 n3 n3 c3 d3 N N V (h3.below (hb.mono hB)) (k3.below (hb.mono hB));rw[decide_eq_true rfl] at this;exact this)
 have HC:=Lib.hid (fun (V:World) (hb:Below W0.heap.size W0 V)=>And.intro (stObj_cells ((hb.block w.heap.size (by omega)).trans hp0)) (stObj_cells ((hb.block (w.heap.size+1) (by omega)).trans hq0)));obtain⟨⟨y0,y1,y2,y3,y4,y5⟩,z0,z1,z2,z3,z4,z5⟩:=HC.out W0 (Below.refl _ _);have HB0:=Lib.hid hB0;have HW0:=Lib.hid hW0;have hs1:W0.heap.size<=w.heap.size+2/\w.heap.size+2<=W0.heap.size:=by omega
 have e1:=hx.le;have e2:=hy.le;have e3:=h2.le;have e4:=k2.le;have e5:=h3.le;have e6:=k3.le;clear hx hy hl h2 k2 h3 k3 hW0 hB0 hp0 hq0 hs00;go_enter Tryz.func44,Tryz.ntmps44;go_upto_region 1 with (fail);rw[<- HW0.out];go_wp2_with (first|(go_at_call 75;refine HI.out.mono ?_;rintro e w1 ⟨rfl,hb1⟩;obtain⟨⟨-,-,-,-,r4,r5⟩,-,-,-,-,t4,t5⟩:=HC.out w1 hb1;have B1:=Lib.hid hb1;clear hb1)|(go_at_call 76;refine (HL2.out _ (HB0.out.trans (B1.out.mono (by omega)))).mono ?_;rintro e w2 ⟨rfl,q2,rfl⟩;have hb2:=B1.out.trans (drewN_below w1 q2 _);obtain⟨⟨-,-,-,-,-,u5⟩,-,-,-,-,-,v5⟩:=HC.out _ hb2;have B2:=Lib.hid hb2;clear hb2)|(go_at_call 17;refine (HL3.out _ (HB0.out.trans (B2.out.mono (by omega)))).mono ?_;rintro e w3 ⟨rfl,q3,rfl⟩));go_ret;have hb3:=B1.out.trans (drewN_below w1 (q2+q3) W0.heap.size);exact⟨rfl,HB0.out.trans (hb3.mono (Nat.le_trans (Nat.le_add_right _ 2) hs1.2))⟩
structure LentSt (B:Nat) (w:World) (g1 g2 d2 g3 d3:Nat) (X Y:List It) (L:List LotV) (N:List LineV):Prop where
 items:OIt B w (.slice (some ⟨g1,0,none⟩) (X.length+12) (X.length+12)) (Y++lentI)
 len:Y.length=X.length
 each:∀ i,i<X.length->LI B w (X.getD i default) (Y.getD i default)
 lots:lotE.Own B w (.slice (some ⟨g2,0,none⟩) (L.length+12) d2) (L++lentLot)
 lines:lineE.Own B w (.slice (some ⟨g3,0,none⟩) (N.length+12) d3) (N++lentLine)
theorem LentSt.keep {B:Nat} {w w':World} {g1 g2 d2 g3 d3:Nat} {X Y:List It} {L:List LotV} {N:List LineV} (h:LentSt B w g1 g2 d2 g3 d3 X Y L N) (hk:∀ b,B<=b->b<w.heap.size->w'.heap[b]? = w.heap[b]?):LentSt B w' g1 g2 d2 g3 d3 X Y L N :=
 ⟨h.items.keep fun b e=>hk b (h.items.ge b e).1 (h.items.ge b e).2,h.len,fun i hi=>(h.each i hi).keepG hk,h.lots.keep fun b e=>hk b (h.lots.ge b e).1 (h.lots.ge b e).2,h.lines.keep fun b e=>hk b (h.lines.ge b e).1 (h.lines.ge b e).2⟩
theorem LentSt.below {B:Nat} {w w':World} {g1 g2 d2 g3 d3:Nat} {X Y:List It} {L:List LotV} {N:List LineV} (h:LentSt B w g1 g2 d2 g3 d3 X Y L N) (hb:Below w.heap.size w w'):LentSt B w' g1 g2 d2 g3 d3 X Y L N:=h.keep fun b _ hl=>hb.block b hl
theorem lent_riQ {base N g n:Nat} {X Y:List It} {w w0:World} (ho:OIt base w (.slice (some ⟨g,0,none⟩) (n+12) (n+12)) (Y++lentI)) (hY:Y.length=n) (hX:X.length=n) (hL:∀ i,i<n->LI base w (X.getD i default) (Y.getD i default)) (hx:∀ x∈X,ItOk N w0 x):RI w.heap.size w (some ⟨g,0,none⟩) n (n+12) Y:=by
 obtain⟨h1,h2,h3,h4,hc⟩:=ho.cells;refine⟨hY.symm,by omega,h3,fun y hy=>?_,fun _=>⟨g,0,rfl,h4,fun i hi=>?_⟩⟩
 ·obtain⟨i,hi,rfl⟩:=List.mem_iff_getElem.1 hy;have:=hL i (by omega);rw[List.getD_eq_getElem?_getD (l:=Y),List.getElem?_eq_getElem hi] at this;refine LI.ok this (hx _ ?_);rw[List.getD_eq_getElem?_getD,List.getElem?_eq_getElem (by omega)];exact List.getElem_mem _
 ·have:=hc i (by omega);rw[allI_at Y n i hY.symm hi] at this;simpa using this
theorem LentSt.ri {B M:Nat} {w w0:World} {g1 g2 d2 g3 d3:Nat} {X Y:List It} {L:List LotV} {N:List LineV} (h:LentSt B w g1 g2 d2 g3 d3 X Y L N) (hx:∀ x∈X,ItOk M w0 x):RI w.heap.size w (some ⟨g1,0,none⟩) X.length (X.length+12) Y:=lent_riQ h.items h.len rfl h.each hx
theorem mkLot_ok (i:Nat) (hi:i<12):okLot (mkLot 1 i):=by
 have:=markN_bd 1 i (by omega) (by omega);unfold mkLot okLot;simp;omega
theorem mkLine_ok (i:Nat) (hi:i<12):okLine (mkLine 1 i):=by
 have:=markN_bd 1 i (by omega) (by omega);unfold mkLine okLine;simp;omega
theorem LentSt.lotsIn {B:Nat} {w:World} {g1 g2 d2 g3 d3:Nat} {X Y:List It} {L:List LotV} {N:List LineV} (h:LentSt B w g1 g2 d2 g3 d3 X Y L N) (hf:∀ x∈L,okLot x):lotE.In w.heap.size w (some ⟨g2,0,none⟩) (L.length+12) d2 (L++lentLot):=by
 obtain⟨a,c,e,hin⟩:=h.lots.in_ (fun x hx=>by
  rcases List.mem_append.1 hx with hx|hx
  ·exact hf x hx
  ·unfold lentLot at hx;obtain⟨i,hi,rfl⟩:=List.mem_map.1 hx;exact mkLot_ok i (List.mem_range.1 hi))
 rw[List.length_append,lentLot_len] at e hin;injection e with e1 e2 e3
 subst e1;subst e3;exact hin
theorem LentSt.linesIn {B:Nat} {w:World} {g1 g2 d2 g3 d3:Nat} {X Y:List It} {L:List LotV} {N:List LineV} (h:LentSt B w g1 g2 d2 g3 d3 X Y L N) (hf:∀ x∈N,okLine x):lineE.In w.heap.size w (some ⟨g3,0,none⟩) (N.length+12) d3 (N++lentLine):=by
 obtain⟨a,c,e,hin⟩:=h.lines.in_ (fun x hx=>by
  rcases List.mem_append.1 hx with hx|hx
  ·exact hf x hx
  ·unfold lentLine at hx;obtain⟨i,hi,rfl⟩:=List.mem_map.1 hx;exact mkLine_ok i (List.mem_range.1 hi))
 rw[List.length_append,lentLine_len] at e hin;injection e with e1 e2 e3
 subst e1;subst e3;exact hin
theorem st_set3 {W:World} {q:Nat} {now nl nx:Int} {u1 u2 u3:Value} (hq:W.heap[q]? = some (stObj now nl nx u1 u2 u3)) (v:Value):(W.setCell ⟨q,3,none⟩ v).heap[q]? = some (stObj now nl nx v u2 u3):=by
 unfold stObj at *;simp[setCell_eq,mapBlock,Array.getElem?_modify,hq,onCells]
theorem st_set4 {W:World} {q:Nat} {now nl nx:Int} {u1 u2 u3:Value} (hq:W.heap[q]? = some (stObj now nl nx u1 u2 u3)) (v:Value):(W.setCell ⟨q,4,none⟩ v).heap[q]? = some (stObj now nl nx u1 v u3):=by
 unfold stObj at *;simp[setCell_eq,mapBlock,Array.getElem?_modify,hq,onCells]
theorem st_set5 {W:World} {q:Nat} {now nl nx:Int} {u1 u2 u3:Value} (hq:W.heap[q]? = some (stObj now nl nx u1 u2 u3)) (v:Value):(W.setCell ⟨q,5,none⟩ v).heap[q]? = some (stObj now nl nx u1 u2 v):=by
 unfold stObj at *;simp[setCell_eq,mapBlock,Array.getElem?_modify,hq,onCells]
set_option maxHeartbeats 4000000 in
set_option maxRecDepth 100000 in
theorem LentState_any (B:Nat) (now nl nx:Int) (a1:Option Addr) (n1 c1:Nat) (X:List It) (a2:Option Addr) (n2 c2:Nat) (L:List LotV) (a3:Option Addr) (n3 c3:Nat) (N:List LineV) (w:World) (h:StIn B w a1 n1 c1 X a2 n2 c2 L a3 n3 c3 N) (hB:B<=w.heap.size) (m1:n1<=100000) (m2:n2<=100000) (m3:n3<=100000) :
  Calls Tryz.prog 10 #[.agg #[.int .i64 now,.int .i64 nl,.int .i64 nx,.slice a1 n1 c1,.slice a2 n2 c2,.slice a3 n3 c3]] w fun e w'=>Below w.heap.size w w'/\∃ g1 g2 d2 g3 d3 Y,e=.returned (.agg #[.int .i64 now,.int .i64 nl,.int .i64 nx,.slice (some ⟨g1,0,none⟩) n1 (n1+12),.slice (some ⟨g2,0,none⟩) n2 d2,.slice (some ⟨g3,0,none⟩) n3 d3])/\LentSt w.heap.size w' g1 g2 d2 g3 d3 X Y L N:=by
 have e1:=h.items.len;have e2:=h.lots.len;have e3:=h.lines.len;subst e1;subst e2;subst e3;obtain⟨W0,hW0,hB0,hs00,hp0,hq0⟩:=two_st w #[.int .i64 now,.int .i64 nl,.int .i64 nx,.slice a1 X.length c1,.slice a2 L.length c2,.slice a3 N.length c3] #[.int .i64 0,.int .i64 0,.int .i64 0,.slice none 0 0,.slice none 0 0,.slice none 0 0];have HI:=Lib.hid (LentItems_any B a1 X.length c1 X W0 (h.items.below (hB0.mono hB)) (Nat.le_trans hB hB0.size) m1 h.sz);have HL:=Lib.hid (fun (V:World) (hb:Below w.heap.size w V)=>LentLots_any B a2 L.length c2 L V (h.lots.below (hb.mono hB)) (Nat.le_trans hB hb.size) m2);have HN:=Lib.hid (fun (V:World) (hb:Below w.heap.size w V)=>LentLines_any B a3 N.length c3 N V (h.lines.below (hb.mono hB)) (Nat.le_trans hB hb.size) m3);obtain⟨y0,y1,y2,y3,y4,y5⟩:=stObj_cells hp0;have HP0:Hid (W0.heap[w.heap.size]? = some (stObj now nl nx (.slice a1 X.length c1) (.slice a2 L.length c2) (.slice a3 N.length c3))):=Lib.hid hp0;have HQ0:Hid (W0.heap[w.heap.size+1]? = some (stObj 0 0 0 (.slice none 0 0) (.slice none 0 0) (.slice none 0 0))):=Lib.hid hq0;have HB0:=Lib.hid hB0;have HW0:=Lib.hid hW0;have hs1:W0.heap.size<=w.heap.size+2/\w.heap.size+2<=W0.heap.size:=by omega
 have q1:=h.items.le;have q2:=h.lots.le;have q3:=h.lines.le;clear hW0 hB0 hp0 hq0 h hs00;go_enter Tryz.func10,Tryz.ntmps10;go_upto_region 1 with (fail);rw[<- HW0.out];go_upto_region 2 with (go_at_call 31;refine HI.out.mono ?_;rintro e w1 ⟨Y,rfl,hY,hO,hE,hb1⟩;have hp1:=(hb1.block w.heap.size (by omega)).trans HP0.out;have hq1:=(hb1.block (w.heap.size+1) (by omega)).trans HQ0.out;have f3:=st_frozen hp1 3;have t3:=(stObj_cells hp1).2.2.2.1;have HO:=Lib.hid hO;have HE:=Lib.hid hE;have HY:=Lib.hid hY;have B1:=Lib.hid hb1;have P1:=Lib.hid hp1;have Q1:=Lib.hid hq1;clear hb1 hp1 hq1 hO hE hY);obtain⟨V1,hV1⟩:∃ V,V=w1.setCell ⟨w.heap.size,3,none⟩ (.slice (some ⟨W0.heap.size,0,none⟩) X.length (X.length+12)):=⟨_,rfl⟩
 rw[<- hV1];have hP1:=st_set3 P1.out (.slice (some ⟨W0.heap.size,0,none⟩) X.length (X.length+12));rw[<- hV1] at hP1;have hn1:∀ b,b≠w.heap.size->V1.heap[b]? = w1.heap[b]?:=fun b hb=>by rw[hV1,setCell_block _ _ _ _ hb]
 have hz1:V1.heap.size=w1.heap.size:=by rw[hV1,size_setCell]
 have hV1b:Hid (Below w.heap.size w V1):=Lib.hid (by rw[hV1];exact below_set (HB0.out.trans (B1.out.mono HB0.out.size)) _ _ _ (Nat.le_refl _));have hP1c:=(stObj_cells hP1).2.2.2.2.1;have HP1:=Lib.hid hP1;have HN1:=Lib.hid hn1;have HL1:=Lib.hid (HL.out V1 hV1b.out);have s1:=B1.out.size;clear hV1 hP1 hn1 f3 t3 y0 y1 y2 y3 y4 y5;go_upto_region 3 with (go_at_call 32;refine HL1.out.mono ?_;rintro e w2 ⟨⟨g2,d2,rfl,hd2,hO2⟩,hb2⟩;have hp2:=(hb2.block w.heap.size (by omega)).trans HP1.out;have f4:=st_frozen hp2 4;have t4:=(stObj_cells hp2).2.2.2.2.1;have HO2:=Lib.hid hO2;have B2:=Lib.hid hb2;have P2:=Lib.hid hp2;clear hb2 hp2 hO2);obtain⟨V2,hV2⟩:∃ V,V=w2.setCell ⟨w.heap.size,4,none⟩ (.slice (some ⟨g2,0,none⟩) L.length d2):=⟨_,rfl⟩
 rw[<- hV2];have hP2:=st_set4 P2.out (.slice (some ⟨g2,0,none⟩) L.length d2);rw[<- hV2] at hP2;have hn2:∀ b,b≠w.heap.size->V2.heap[b]? = w2.heap[b]?:=fun b hb=>by rw[hV2,setCell_block _ _ _ _ hb]
 have hz2:V2.heap.size=w2.heap.size:=by rw[hV2,size_setCell]
 have hV2b:Hid (Below w.heap.size w V2):=Lib.hid (by rw[hV2];exact below_set (hV1b.out.trans (B2.out.mono hV1b.out.size)) _ _ _ (Nat.le_refl _));have hP2c:=(stObj_cells hP2).2.2.2.2.2;have HP2:=Lib.hid hP2;have HN2:=Lib.hid hn2;have HL2:=Lib.hid (HN.out V2 hV2b.out);have s2:=B2.out.size;clear hV2 hP2 hn2 f4 t4 hP1c;go_upto_region 4 with (go_at_call 33;refine HL2.out.mono ?_;rintro e w3 ⟨⟨g3,d3,rfl,hd3,hO3⟩,hb3⟩;have hp3:=(hb3.block w.heap.size (by omega)).trans HP2.out;have f5:=st_frozen hp3 5;have t5:=(stObj_cells hp3).2.2.2.2.2;have HO3:=Lib.hid hO3;have B3:=Lib.hid hb3;have P3:=Lib.hid hp3;clear hb3 hp3 hO3);obtain⟨V3,hV3⟩:∃ V,V=w3.setCell ⟨w.heap.size,5,none⟩ (.slice (some ⟨g3,0,none⟩) N.length d3):=⟨_,rfl⟩
 rw[<- hV3];have hP3:=st_set5 P3.out (.slice (some ⟨g3,0,none⟩) N.length d3);rw[<- hV3] at hP3;have hn3:∀ b,b≠w.heap.size->V3.heap[b]? = w3.heap[b]?:=fun b hb=>by rw[hV3,setCell_block _ _ _ _ hb]
 have hz3:V3.heap.size=w3.heap.size:=by rw[hV3,size_setCell]
 have hV3b:Hid (Below w.heap.size w V3):=Lib.hid (by rw[hV3];exact below_set (hV2b.out.trans (B3.out.mono hV2b.out.size)) _ _ _ (Nat.le_refl _));have s3:=B3.out.size;have hq3:V3.heap[w.heap.size+1]? = some (stObj 0 0 0 (.slice none 0 0) (.slice none 0 0) (.slice none 0 0)):=by
  rw[hn3 _ (by omega),B3.out.block _ (by omega),HN2.out _ (by omega),B2.out.block _ (by omega),HN1.out _ (by omega)];exact Q1.out
 have HST:Hid (∀ w',(∀ b,w.heap.size+2<=b->w'.heap[b]? = V3.heap[b]?)->LentSt w.heap.size w' W0.heap.size g2 d2 g3 d3 X Y L N):=Lib.hid fun w' hk=>by
  have k1:∀ b,W0.heap.size<=b->b<w1.heap.size->w'.heap[b]? = w1.heap[b]?:=fun b hb hl=>by
   rw[hk b (by omega),hn3 _ (by omega),B3.out.block _ (by omega),HN2.out _ (by omega),B2.out.block _ (by omega),HN1.out _ (by omega)]
  have k2:∀ b,V1.heap.size<=b->b<w2.heap.size->w'.heap[b]? = w2.heap[b]?:=fun b hb hl=>by
   rw[hk b (by omega),hn3 _ (by omega),B3.out.block _ (by omega),HN2.out _ (by omega)]
  have k3:∀ b,V2.heap.size<=b->b<w3.heap.size->w'.heap[b]? = w3.heap[b]?:=fun b hb hl=>by
   rw[hk b (by omega),hn3 _ (by omega)]
  exact⟨(HO.out.keep fun b e=>k1 b (HO.out.ge b e).1 (HO.out.ge b e).2).mono (by omega),HY.out,fun i hi=>(((HE.out i hi).keepG fun b hb hl=>k1 b (by omega) hl).mono (by omega)),(HO2.out.keep fun b e=>k2 b (HO2.out.ge b e).1 (HO2.out.ge b e).2).mono (by omega),(HO3.out.keep fun b e=>k3 b (HO3.out.ge b e).1 (HO3.out.ge b e).2).mono (by omega)⟩
 obtain⟨x0,x1,x2,x3,x4,x5⟩:=stObj_cells hP3;obtain⟨f0,f1,f2,f3,f4,f5'⟩:=st_frozen6 hq3;obtain⟨z0,z1,z2,z3,z4,z5⟩:=stObj_cells hq3;have hput:=st_put hq3 now nl nx (.slice (some ⟨W0.heap.size,0,none⟩) X.length (X.length+12)) (.slice (some ⟨g2,0,none⟩) L.length d2) (.slice (some ⟨g3,0,none⟩) N.length d3);clear hV3 hP3 hn3 f5 t5 hP2c hq3;go_wp2_with (fail);obtain⟨W9,hW9⟩:∃ V,V=put6 V3 (w.heap.size+1) now nl nx (.slice (some ⟨W0.heap.size,0,none⟩) X.length (X.length+12)) (.slice (some ⟨g2,0,none⟩) L.length d2) (.slice (some ⟨g3,0,none⟩) N.length d3):=⟨_,rfl⟩
 have HW9:=Lib.hid hW9;unfold put6 at hW9;rw[<- hW9] at hput ⊢;clear hW9;refine bodyPost_ret (results_cell_row (P:=Tryz.prog) (fn:=Tryz.f10) (p:=2) (ty:=26) rfl _ W9 (w.heap.size+1) 26 _ (0,0) _ rfl hput Tryz.underlying26 rfl (by kernel_rfl)) rfl ?_;rw[HW9.out];exact⟨put6_below hV3b.out _ _ _ _ _ _ _ (by omega),_,_,_,_,_,Y,rfl,HST.out _ fun b hb=>put6_block _ _ _ _ _ _ _ _ (by omega)⟩
set_option maxHeartbeats 4000000 in
set_option maxRecDepth 100000 in
theorem KeptState_any (B C:Nat) (now nl nx:Int) (a1:Option Addr) (n1 c1:Nat) (X:List It) (a2:Option Addr) (n2 c2:Nat) (L:List LotV) (a3:Option Addr) (n3 c3:Nat) (N:List LineV) (w:World) (h:StIn B w a1 n1 c1 X a2 n2 c2 L a3 n3 c3 N) (hB:B<=w.heap.size) (m1:n1<=100000) (g1 g2 d2 g3 d3:Nat) (Y:List It) (hs:LentSt C w g1 g2 d2 g3 d3 X Y L N) :
  Calls Tryz.prog 16 #[.agg #[.int .i64 now,.int .i64 nl,.int .i64 nx,.slice (some ⟨g1,0,none⟩) n1 (n1+12),.slice (some ⟨g2,0,none⟩) n2 d2,.slice (some ⟨g3,0,none⟩) n3 d3],.agg #[.int .i64 now,.int .i64 nl,.int .i64 nx,.slice a1 n1 c1,.slice a2 n2 c2,.slice a3 n3 c3]] w fun e w'=>e=.returned (.bool true)/\Below w.heap.size w w':=by
 have e1:=h.items.len;have e2:=h.lots.len;have e3:=h.lines.len;subst e1;subst e2;subst e3;obtain⟨W0,hW0,hB0,hs00,hp0,hq0⟩:=two_st w #[.int .i64 now,.int .i64 nl,.int .i64 nx,.slice (some ⟨g1,0,none⟩) X.length (X.length+12),.slice (some ⟨g2,0,none⟩) L.length d2,.slice (some ⟨g3,0,none⟩) N.length d3] #[.int .i64 now,.int .i64 nl,.int .i64 nx,.slice a1 X.length c1,.slice a2 L.length c2,.slice a3 N.length c3];have hs':=hs.below hB0;have h':=h.below (hB0.mono hB);have hBW:B<=W0.heap.size:=Nat.le_trans hB hB0.size;have hlt:=hs'.lotsIn h.lots.fine;have hln:=hs'.linesIn h.lines.fine;have ri1:=hs'.ri h'.items.ok;have HS:=Lib.hid (SameState_like W0.heap.size now nl nx (some ⟨g1,0,none⟩) a1 (some ⟨g2,0,none⟩) a2 (some ⟨g3,0,none⟩) a3 X.length (X.length+12) c1 L.length d2 c2 N.length d3 c3 Y X L N W0 ri1 (h'.items.mono hBW) (fun i hi=>(hs'.each i hi).like) (by have:=hlt.take L.length (by omega);rwa [List.take_left] at this) (h'.lots.mono hBW) (by have:=hln.take N.length (by omega);rwa [List.take_left] at this) (h'.lines.mono hBW) (Nat.le_refl _));have HK1:=Lib.hid (fun (V:World) (hb:Below W0.heap.size W0 V)=>KeptItems_any C B g1 a1 X.length c1 X Y V (hs'.below hb).items hs.len (hs'.below hb).each (h'.items.below (hb.mono hBW)) (Nat.le_trans hBW hb.size) m1);have HK2:=Lib.hid (fun (V:World) (hb:Below W0.heap.size W0 V)=>KeptLots_any V.heap.size B g2 d2 a2 L.length c2 L V ((hs'.below hb).lotsIn h.lots.fine) (h'.lots.below (hb.mono hBW)) (Nat.le_refl _) (Nat.le_trans hBW hb.size));have HK3:=Lib.hid (fun (V:World) (hb:Below W0.heap.size W0 V)=>KeptLines_any V.heap.size B g3 d3 a3 N.length c3 N V ((hs'.below hb).linesIn h.lines.fine) (h'.lines.below (hb.mono hBW)) (Nat.le_refl _) (Nat.le_trans hBW hb.size));have HC:=Lib.hid (fun (V:World) (hb:Below W0.heap.size W0 V)=>And.intro (stObj_cells ((hb.block w.heap.size (by omega)).trans hp0)) (stObj_cells ((hb.block (w.heap.size+1) (by omega)).trans hq0)));obtain⟨⟨y0,y1,y2,y3,y4,y5⟩,z0,z1,z2,z3,z4,z5⟩:=HC.out W0 (Below.refl _ _);have HB0:=Lib.hid hB0;have HW0:=Lib.hid hW0;have hs1:W0.heap.size<=w.heap.size+2/\w.heap.size+2<=W0.heap.size:=by omega
 clear h hs hs' h' hlt hln ri1 hW0 hB0 hp0 hq0 hs00;go_enter Tryz.func16,Tryz.ntmps16;go_upto_region 1 with (fail);rw[<- HW0.out];go_wp2_with (first|(go_at_call 44;refine HS.out.mono ?_;rintro e w1 ⟨rfl,hb1⟩;obtain⟨⟨-,-,-,p3,p4,p5⟩,-,-,-,r3,r4,r5⟩:=HC.out w1 hb1;have B1:=Lib.hid hb1;clear hb1)|(go_at_call 45;refine (HK1.out _ B1.out).mono ?_;rintro e w2 ⟨rfl,hb2⟩;have hb2':=B1.out.trans (hb2.mono B1.out.size);obtain⟨⟨-,-,-,-,s4,s5⟩,-,-,-,-,t4,t5⟩:=HC.out w2 hb2';have B2:=Lib.hid hb2';clear hb2 hb2')|(go_at_call 46;refine (HK2.out _ B2.out).mono ?_;rintro e w3 ⟨rfl,hb3⟩;have hb3':=B2.out.trans (hb3.mono B2.out.size);obtain⟨⟨-,-,-,-,-,u5⟩,-,-,-,-,-,v5⟩:=HC.out w3 hb3';have B3:=Lib.hid hb3';clear hb3 hb3')|(go_at_call 47;refine (HK3.out _ B3.out).mono ?_;rintro e w4 ⟨rfl,hb4⟩;have B4:=Lib.hid (B3.out.trans (hb4.mono B3.out.size));clear hb4));go_ret;exact⟨rfl,HB0.out.trans (B4.out.mono (by omega))⟩
end
section
open Go.RowKit Go.Sort Go.Lib Go.Shelf
def tX:List It:=[⟨[65],6,none,0,[],none,0,[]⟩]
def tL:List LotV:=[⟨1,[65],3,9,5,true⟩]
def tN1:LineV:=⟨1,[65],4,0,5,1,-1,[]⟩
def tN2:LineV:=⟨2,[65],2,0,1,1,-1,[]⟩
def tN2':LineV:=⟨2,[65],2,0,1,1,3,[65]⟩
def tN:List LineV:=[tN1,tN2]
theorem t_srt:srt tL=tL:=(srt_only (S:=tL) (by decide) (List.Perm.refl _) (List.pairwise_singleton _ _)).symm
theorem t_open:openX tN=[tN2,tN1]:=(openX_only (S:=[tN2,tN1]) (by decide) (by
 have e:tN.filter (fun l=>decide (l.st=1))=tN:=by decide
 rw[e];exact List.Perm.swap _ _ _) (by refine List.pairwise_cons.2 ⟨fun a ha=>?_,List.pairwise_singleton _ _⟩;rw[List.mem_singleton.1 ha];decide)).symm
theorem t_parts2:partsO tX [65] 2=some [([65],2)]:=by
 have h0:partsE tX [65] 2=0:=by kernel_rfl
 have h1:endL tX [65] 2=some [([65],2)]:=by kernel_rfl
 unfold partsO;rw[h0,if_pos rfl,h1]
theorem t_parts4:partsO tX [65] 4=some [([65],4)]:=by
 have h0:partsE tX [65] 4=0:=by kernel_rfl
 have h1:endL tX [65] 4=some [([65],4)]:=by kernel_rfl
 unfold partsO;rw[h0,if_pos rfl,h1]
theorem t_row:rowX tX [65]=[[65]]:=by kernel_rfl
theorem t_left:left0 tL 1=5:=by decide
theorem t_had (q:Int) (hq:1<=q/\q<=5):hadB tL [] [([65],q)] 3=true:=by
 unfold hadB moreW;rw[List.nil_append,List.map_cons,List.map_nil,fillX_iff];refine⟨mayB_parts.2 ⟨by decide,(show (1:Nat)<=20000 by decide),?_⟩,?_⟩
 ·simp only[List.all_cons,List.all_nil,Bool.and_true];unfold wantOk;simp only[Bool.and_eq_true,decide_eq_true_eq];exact⟨⟨⟨⟨by decide,by decide⟩,by decide⟩,by omega⟩,by omega⟩
 ·rw[t_srt];refine⟨fun _=>q,⟨fun l hl=>?_,by simp[totF,tL]⟩,trivial⟩;rw[List.mem_singleton.1 hl];exact⟨(show 0<=q by omega),by show q<=left0 tL 1;rw[t_left];omega,fun _=>(show (decide (([65]:List UInt8)=[65]) && hasW 3 9 3)=true by decide)⟩
theorem t_no (d:Int):hadB tL [⟨[65],3,2⟩] [([65],4)] d=false:=by
 cases h:hadB tL [⟨[65],3,2⟩] [([65],4)] d with
 | false=>rfl
 | true =>
  unfold hadB moreW at h;rw[fillX_iff] at h;obtain⟨-,h2⟩:=h;rw[t_srt] at h2;obtain⟨a,⟨-,a2⟩,b,⟨b1,b2⟩,-⟩:=h2;have k1:=(b1 _ List.mem_cons_self).2.1;simp only[totF,tL,List.map_cons,List.map_nil,List.sum_cons,List.sum_nil] at a2 b2 k1;have k2:b 1<=left0 tL 1-a 1:=k1;rw[t_left] at k2;omega
theorem t_day (q:Int) (hq:1<=q/\q<=5):dayX tL [] [([65],q)] (max 0 3) (min (3+400) 4000)=some 3:=dayX_iff.2 ⟨by decide,by decide,t_had q hq,fun y h1 h2=>by omega⟩
theorem t_dayno:dayX tL [⟨[65],3,2⟩] [([65],4)] (max 0 3) (min (3+400) 4000)=none:=by
 cases h:dayX tL [⟨[65],3,2⟩] [([65],4)] (max 0 3) (min (3+400) 4000) with
 | none=>rfl
 | some x =>
  have:=(dayX_iff.1 h).2.2.1;rw[t_no] at this
  cases this
theorem t_prom2:promL (partsO tX) (rowX tX) tL 3 [] tN2=tN2':=by
 unfold promL;rw[show rowX tX tN2.item=[[65]] from t_row,promC,show partsO tX [65] tN2.qty=some [([65],2)] from t_parts2];simp only;rw[show dayX tL [] [([65],2)] (max tN2.asked 3) (min (3+400) 4000)=some 3 from t_day 2 (by decide)];rfl
theorem t_prom1:promL (partsO tX) (rowX tX) tL 3 [⟨[65],3,2⟩] tN1=tN1:=by
 unfold promL;rw[show rowX tX tN1.item=[[65]] from t_row,promC,show partsO tX [65] tN1.qty=some [([65],4)] from t_parts4];simp only;rw[show dayX tL [⟨[65],3,2⟩] [([65],4)] (max tN1.asked 3) (min (3+400) 4000)=none from t_dayno];rfl
theorem t_prom1':promL (partsO tX) (rowX tX) tL 3 [] tN1=⟨1,[65],4,0,5,1,3,[65]⟩:=by
 unfold promL;rw[show rowX tX tN1.item=[[65]] from t_row,promC,show partsO tX [65] tN1.qty=some [([65],4)] from t_parts4];simp only;rw[show dayX tL [] [([65],4)] (max tN1.asked 3) (min (3+400) 4000)=some 3 from t_day 4 (by decide)];rfl
theorem t_wants2:wantsL (partsO tX) tN2'=[⟨[65],3,2⟩]:=by
 unfold wantsL;rw[if_pos (by decide),show partsO tX tN2'.code tN2'.qty=some [([65],2)] from t_parts2];rfl
theorem t_all:allX (partsO tX) (rowX tX) lineOk tL 3 tN=[tN1,tN2']:=by
 unfold allX;rw[if_pos ⟨by decide,by decide,by decide⟩,t_open,allF,allF,allF,t_prom2,t_wants2,List.nil_append,t_prom1];decide
theorem t_one:oneX (partsO tX) (rowX tX) lineOk tL 3 tN tN1=⟨1,[65],4,0,5,1,3,[65]⟩:=by
 unfold oneX;have e:wantsN (partsO tX) (tN.filter fun x=>decide (x.id≠tN1.id))=[]:=by
  have e1:tN.filter (fun x=>decide (x.id≠tN1.id))=[tN2]:=by decide
  rw[e1];unfold wantsN;rw[List.flatMap_cons,List.flatMap_nil,List.append_nil];exact wants_shut (by decide)
 rw[if_pos ⟨by decide,by decide,by decide⟩,e,t_prom1']
theorem t_wantsN:(wantsN (partsO tX) [tN1,tN2']).length=1:=by
 unfold wantsN;rw[List.flatMap_cons,List.flatMap_cons,List.flatMap_nil,wants_shut (l:=tN1) (by decide),t_wants2];rfl
theorem tX_ri {W:World} {g:Nat} (hg:W.heap[g]? = some (.cells #[.string ⟨#[65]⟩,.int .i64 6,.slice none 0 0,.slice none 0 0] 87 (0,0))):RI W.heap.size W (some ⟨g,0,none⟩) 1 1 tX:=by
 refine⟨rfl,Nat.le_refl _,by decide,fun x hx=>?_,fun _=>⟨g,0,rfl,(Array.getElem?_eq_some_iff.1 hg).1,fun i hi=>?_⟩⟩
 ·unfold tX at hx;rw[List.mem_singleton.1 hx];exact⟨by decide,by decide,by decide,⟨rfl,Nat.le_refl _,by decide,(fun p hp=>by cases hp),fun h=>absurd h (Nat.lt_irrefl _)⟩,⟨rfl,Nat.le_refl _,by decide,(fun p hp=>by cases hp),fun h=>absurd h (Nat.lt_irrefl _)⟩⟩
 ·obtain rfl:i=0:=by omega
  unfold World.cell?;rw[hg];exact⟨rfl,rfl,rfl,rfl⟩
theorem alloc4 (w:World) (A C D E:Obj):((((w.alloc A).alloc C).alloc D).alloc E).heap[w.heap.size]? = some A/\((((w.alloc A).alloc C).alloc D).alloc E).heap[w.heap.size+1]? = some C/\((((w.alloc A).alloc C).alloc D).alloc E).heap[w.heap.size+1+1]? = some D/\((((w.alloc A).alloc C).alloc D).alloc E).heap[w.heap.size+1+1+1]? = some E/\Below w.heap.size w ((((w.alloc A).alloc C).alloc D).alloc E):=by
 obtain⟨h1,h2,h3,h4,h5⟩:=alloc3 w A C D;have b:=below_allocL (((w.alloc A).alloc C).alloc D) E;refine⟨(b.block _ (by omega)).trans h1,(b.block _ (by omega)).trans h2,(b.block _ (by omega)).trans h3,?_,h4.trans (b.mono (by omega))⟩;rw[show w.heap.size+1+1+1=(((w.alloc A).alloc C).alloc D).heap.size by omega];exact heap_alloc_new _ _
theorem tL_in {W:World} {g:Nat} (hg:W.heap[g]? = some (.cells #[.int .i64 1,.string ⟨#[65]⟩,.int .i64 3,.int .i64 9,.int .i64 5,.bool true] 50 (0,0))):lotE.In W.heap.size W (some ⟨g,0,none⟩) 1 1 tL:=by
 refine⟨rfl,Nat.le_refl _,by decide,fun x hx=>?_,fun _=>⟨g,0,rfl,(Array.getElem?_eq_some_iff.1 hg).1,fun i hi j hj=>?_⟩⟩
 ·unfold tL at hx;rw[List.mem_singleton.1 hx];show okLot _;unfold okLot;decide
 ·have hj':j<6:=hj;obtain rfl:i=0:=by omega
  have h2:j=0∨j=1∨j=2∨j=3∨j=4∨j=5:=by omega
  unfold World.cell?;rw[hg];rcases h2 with rfl|rfl|rfl|rfl|rfl|rfl<;>rfl
theorem tN1_ok:okLine tN1:=by unfold okLine;decide
theorem tN_in {W:World} {g:Nat} (hg:W.heap[g]? = some (.cells #[.int .i64 1,.string ⟨#[65]⟩,.int .i64 4,.int .i64 0,.int .i64 5,.int .u8 1,.int .i64 (-1),.string ⟨#[]⟩,.int .i64 2,.string ⟨#[65]⟩,.int .i64 2,.int .i64 0,.int .i64 1,.int .u8 1,.int .i64 (-1),.string ⟨#[]⟩] 29 (0,0))):lineE.In W.heap.size W (some ⟨g,0,none⟩) 2 2 tN:=by
 refine⟨rfl,Nat.le_refl _,by decide,fun x hx=>?_,fun _=>⟨g,0,rfl,(Array.getElem?_eq_some_iff.1 hg).1,fun i hi j hj=>?_⟩⟩
 ·unfold tN at hx;rcases List.mem_cons.1 hx with rfl|hx
  ·exact tN1_ok
  ·rw[List.mem_singleton.1 hx];show okLine _;unfold okLine;decide
 ·have hj':j<8:=hj;have h1:i=0∨i=1:=by omega
  have h2:j=0∨j=1∨j=2∨j=3∨j=4∨j=5∨j=6∨j=7:=by omega
  unfold World.cell?;rw[hg];rcases h1 with rfl|rfl<;>rcases h2 with rfl|rfl|rfl|rfl|rfl|rfl|rfl|rfl<;>rfl
set_option maxRecDepth 100000 in
theorem tiny_any (w:World):Calls Tryz.prog 30 #[] w fun e w'=>Below w.heap.size w w'/\∃ g1 g2 g3,e=.returned (.agg #[.int .i64 3,.int .i64 2,.int .i64 3,.slice (some ⟨g1,0,none⟩) 1 1,.slice (some ⟨g2,0,none⟩) 1 1,.slice (some ⟨g3,0,none⟩) 2 2])/\StIn w'.heap.size w' (some ⟨g1,0,none⟩) 1 1 tX (some ⟨g2,0,none⟩) 1 1 tL (some ⟨g3,0,none⟩) 2 2 tN:=by
 go_enter Tryz.func30,Tryz.ntmps30;go_wp2_with (fail);obtain⟨k0,k1,k2,k3,kb⟩:=alloc4 w (.cells #[.int .i64 3,.int .i64 2,.int .i64 3,.slice (some ⟨w.heap.size+1,0,none⟩) 1 1,.slice (some ⟨w.heap.size+1+1,0,none⟩) 1 1,.slice (some ⟨w.heap.size+1+1+1,0,none⟩) 2 2] 26) (.cells #[.string ⟨#[65]⟩,.int .i64 6,.slice none 0 0,.slice none 0 0] 87) (.cells #[.int .i64 1,.string ⟨#[65]⟩,.int .i64 3,.int .i64 9,.int .i64 5,.bool true] 50) (.cells #[.int .i64 1,.string ⟨#[65]⟩,.int .i64 4,.int .i64 0,.int .i64 5,.int .u8 1,.int .i64 (-1),.string ⟨#[]⟩,.int .i64 2,.string ⟨#[65]⟩,.int .i64 2,.int .i64 0,.int .i64 1,.int .u8 1,.int .i64 (-1),.string ⟨#[]⟩] 29);refine bodyPost_ret (results_cell_row (P:=Tryz.prog) (fn:=Tryz.f30) (p:=0) (ty:=26) rfl _ _ w.heap.size 26 _ (0,0) _ rfl k0 Tryz.underlying26 rfl (by kernel_rfl)) rfl ?_;exact⟨kb,_,_,_,rfl,tX_ri k1,tL_in k2,tN_in k3,by decide,by decide,by decide,fun x hx=>by unfold tX at hx;rw[List.mem_singleton.1 hx];exact⟨by decide,by decide⟩⟩
def smallB (n1 n2 n3:Nat):Bool:=decide (n2<=12) && decide (n3<=12) && decide (n1<=12)
theorem small_any (now nl nx:Int) (a1 a2 a3:Option Addr) (n1 c1 n2 c2 n3 c3:Nat) (w:World) (_h1:n1<=c1/\c1<=9223372036854775807) (_h2:n2<=c2/\c2<=9223372036854775807) (_h3:n3<=c3/\c3<=9223372036854775807):Calls Tryz.prog 9 #[.agg #[.int .i64 now,.int .i64 nl,.int .i64 nx,.slice a1 n1 c1,.slice a2 n2 c2,.slice a3 n3 c3]] w fun e w'=>e=.returned (.bool (smallB n1 n2 n3))/\Below w.heap.size w w':=by
 generalize hr:smallB n1 n2 n3=r;have HQ:=Lib.hid hr;clear hr;have HB:=Lib.hid ((Below.refl w.heap.size w).alloc (Nat.le_refl _) (.cells #[.int .i64 now,.int .i64 nl,.int .i64 nx,.slice a1 n1 c1,.slice a2 n2 c2,.slice a3 n3 c3] 26));by_cases k2:n2<=12
 ·by_cases k3:n3<=12
  ·by_cases k1:n1<=12
   ·have E:=Lib.hid (show smallB n1 n2 n3=true by unfold smallB;simp[k1,k2,k3]);go_enter Tryz.func9,Tryz.ntmps9;go_wp2_with (fail);go_ret;exact⟨by rw[<- HQ.out,E.out];first|rfl|(simp;omega),HB.out⟩
   ·have E:=Lib.hid (show smallB n1 n2 n3=false by unfold smallB;simp[k1]);go_enter Tryz.func9,Tryz.ntmps9;go_wp2_with (fail);go_ret;exact⟨by rw[<- HQ.out,E.out];first|rfl|(simp;omega),HB.out⟩
  ·have E:=Lib.hid (show smallB n1 n2 n3=false by unfold smallB;simp[k3]);go_enter Tryz.func9,Tryz.ntmps9;go_wp2_with (fail);go_ret;exact⟨by rw[<- HQ.out,E.out];first|rfl|(simp;omega),HB.out⟩
 ·have E:=Lib.hid (show smallB n1 n2 n3=false by unfold smallB;simp[k2]);go_enter Tryz.func9,Tryz.ntmps9;go_wp2_with (fail);go_ret;exact⟨by rw[<- HQ.out,E.out];first|rfl|(simp;omega),HB.out⟩
theorem field_lines (a1 a2 a3:Option Addr) (n1 c1 n2 c2 n3 c3:Nat) (now nl nx:Int) (w:World):(Instr.field 26 (.agg #[.int .i64 now,.int .i64 nl,.int .i64 nx,.slice a1 n1 c1,.slice a2 n2 c2,.slice a3 n3 c3]) 5).run Tryz.prog w=.ok (.slice a3 n3 c3) w:=by kernel_rfl
theorem field_items (a1 a2 a3:Option Addr) (n1 c1 n2 c2 n3 c3:Nat) (now nl nx:Int) (w:World):(Instr.field 26 (.agg #[.int .i64 now,.int .i64 nl,.int .i64 nx,.slice a1 n1 c1,.slice a2 n2 c2,.slice a3 n3 c3]) 3).run Tryz.prog w=.ok (.slice a1 n1 c1) w:=by kernel_rfl
set_option maxHeartbeats 4000000 in
set_option maxRecDepth 100000 in
theorem awake_any (w:World):Calls Tryz.prog 8 #[] w fun e w'=>e=.returned (.bool true)/\Below w.heap.size w w':=by
 have HT:=Lib.hid (fun V:World=>tiny_any V);have HA:=Lib.hid (fun (V:World) (g1 g2 g3:Nat) (h:StIn V.heap.size V (some ⟨g1,0,none⟩) 1 1 tX (some ⟨g2,0,none⟩) 1 1 tL (some ⟨g3,0,none⟩) 2 2 tN)=>by
  have:=all_any V.heap.size 3 2 3 _ _ _ _ _ _ _ _ _ _ _ _ V h (Nat.le_refl _) (by decide) (by decide) (by decide);rw[t_all] at this;unfold AlP at this;exact this)
 have HO:=Lib.hid (fun (V:World) (B g1 g2 g3:Nat) (h:StIn B V (some ⟨g1,0,none⟩) 1 1 tX (some ⟨g2,0,none⟩) 1 1 tL (some ⟨g3,0,none⟩) 2 2 tN) (hB:B<=V.heap.size)=>by
  have:=one_any B 3 2 3 _ _ _ _ _ _ _ _ _ _ _ _ tN1 V h hB tN1_ok (by decide) (by decide) (by decide);rw[t_one] at this;unfold LineV.val encStr tN1 at this;exact this)
 go_enter Tryz.func8,Tryz.ntmps8;go_upto_region 2 with (first|(go_at_call 30;refine (HT.out _).mono ?_;rintro e w1 ⟨hb1,g1,g2,g3,rfl,hs⟩;have HA1:=Lib.hid (HA.out w1 g1 g2 g3 hs);have B1:=Lib.hid hb1;clear hb1 hs)|(go_at_call 18;refine HA1.out.mono ?_;rintro e w2 ⟨⟨oa,oc,rfl,ho⟩,hb2⟩;have B2:=Lib.hid (B1.out.trans (hb2.mono B1.out.size));have OO:=Lib.hid ho;clear ho hb2));obtain⟨a8,c8,e8,hoc,hocx,hg8⟩:=OO.out.form;obtain⟨og,hg8⟩:=hg8 (by decide);injection e8 with e8 e9 e10
 have e11:=e8.trans hg8;subst e11;subst e10;have hoc2:2<=oc:=hoc;rw[show [tN1,tN2'].length=2 from rfl] at OO;clear e8 e9 hg8 hoc;have HT0:=Lib.hid (fun V:World=>tiny_any V);have hfl:=field_lines;have hfi:=field_items;go_upto_region 3 with (first|(go_at_call 30;refine (HT2.out _).mono ?_;rintro e w4 ⟨hb4,i1,i2,i3,rfl,hs4⟩;have B4:=Lib.hid (B3.out.trans (hb4.mono B3.out.size));obtain⟨bb,bo,be,-,hcs⟩:=lineE_at hs4.lines (by decide);injection be with be;injection be with be1 be2;subst be1;subst be2;obtain⟨k0,k1,k2,k3,k4,k5,k6,k7⟩:=hcs 0 (by decide);simp only[Nat.zero_mul,Nat.add_zero,Nat.zero_add] at k0 k1 k2 k3 k4 k5 k6 k7;have k0':w4.cell? ⟨i3,0,none⟩=some (.int .i64 1):=k0;have k1':w4.cell? ⟨i3,1,none⟩=some (.string ⟨#[65]⟩):=k1;have k2':w4.cell? ⟨i3,2,none⟩=some (.int .i64 4):=k2;have k3':w4.cell? ⟨i3,3,none⟩=some (.int .i64 0):=k3;have k4':w4.cell? ⟨i3,4,none⟩=some (.int .i64 5):=k4;have k5':w4.cell? ⟨i3,5,none⟩=some (.int .u8 1):=k5;have k6':w4.cell? ⟨i3,6,none⟩=some (.int .i64 (-1)):=k6;have k7':w4.cell? ⟨i3,7,none⟩=some (.string ⟨#[]⟩):=k7;clear k0 k1 k2 k3 k4 k5 k6 k7 hcs;have B234:=Lib.hid (B23.out.trans (hb4.mono B23.out.size));have HO4:=Lib.hid (HO.out w4 w3.heap.size h1 h2 h3 (HS3.out.below hb4) hb4.size);clear hb4 hs4)|(go_at_call 30;refine (HT.out _).mono ?_;rintro e w3 ⟨hb3,h1,h2,h3,rfl,hs3⟩;have HS3:=Lib.hid hs3;have B3:=Lib.hid (B2.out.trans (hb3.mono B2.out.size));have B23:=Lib.hid hb3;have O3:=Lib.hid (OO.out.below hb3);have HT2:=HT0;clear hb3 hs3)|(go_at_call 11;refine HO4.out.mono ?_;rintro e w5 ⟨rfl,hb5⟩;have W25:=Lib.hid (B234.out.trans (hb5.mono B234.out.size));have B5:=Lib.hid (B4.out.trans (hb5.mono B4.out.size));clear hb5));have HB54:=Lib.hid (B5.out.trans ((below_allocL w5 (.cells #[.int .i64 1,.string ⟨#[65]⟩,.int .i64 4,.int .i64 0,.int .i64 5,.int .u8 1,.int .i64 3,.string ⟨#[65]⟩] 29)).mono B5.out.size));have O5:=Lib.hid ((OO.out.below W25.out).below (below_allocL w5 (.cells #[.int .i64 1,.string ⟨#[65]⟩,.int .i64 4,.int .i64 0,.int .i64 5,.int .u8 1,.int .i64 3,.string ⟨#[65]⟩] 29)));have xL:(w5.alloc (.cells #[.int .i64 1,.string ⟨#[65]⟩,.int .i64 4,.int .i64 0,.int .i64 5,.int .u8 1,.int .i64 3,.string ⟨#[65]⟩] 29)).cell? ⟨w5.heap.size,6,none⟩=some (.int .i64 3):=by unfold World.cell?;rw[heap_alloc_new];rfl
 generalize w5.alloc (.cells #[.int .i64 1,.string ⟨#[65]⟩,.int .i64 4,.int .i64 0,.int .i64 5,.int .u8 1,.int .i64 3,.string ⟨#[65]⟩] 29)=W5 at HB54 O5 xL ⊢;have hcl:=(O5.out.cell).2.2.2.2.2;have c6:W5.cell? ⟨og,6,none⟩=some (.int .i64 (-1)):=hcl 0 (by decide) 6 (by decide);have c14:W5.cell? ⟨og,14,none⟩=some (.int .i64 3):=hcl 1 (by decide) 6 (by decide);have c15:W5.cell? ⟨og,15,none⟩=some (.string ⟨#[65]⟩):=hcl 1 (by decide) 7 (by decide);have HWs:=Lib.hid (fun (V:World) (b:Below W5.heap.size W5 V) (j1 j2 j3:Nat) (h:StIn V.heap.size V (some ⟨j1,0,none⟩) 1 1 tX (some ⟨j2,0,none⟩) 1 1 tL (some ⟨j3,0,none⟩) 2 2 tN)=>by
  obtain⟨a7,c7,e7,h7⟩:=(O5.out.below b).in_ (fun x hx=>by
   rcases List.mem_cons.1 hx with rfl|hx
   ·exact tN1_ok
   ·rw[List.mem_singleton.1 hx];show okLine _;unfold okLine tN2';decide)
  obtain⟨e8,-,e10⟩:=Value.slice.inj e7;subst e8;subst e10;have:=(Wants_any V.heap.size (some ⟨j1,0,none⟩) 1 1 tX (some ⟨og,0,none⟩) 2 oc [tN1,tN2'] V h.items h7 (Nat.le_refl _) (by decide) (by decide)).mono (fun _ _ h=>h.1);unfold WnP at this;rw[t_wantsN] at this;exact this)
 clear hcl HA HO HO4 HS3 O3 OO;go_wp2_with (first|(go_at_call 30;refine (HT.out _).mono ?_;rintro e w6 ⟨hb6,j1,j2,j3,rfl,hs6⟩;have B6:=Lib.hid hb6;have HW6:=Lib.hid (HWs.out w6 hb6 j1 j2 j3 hs6);clear hb6 hs6)|(go_at_call 14;refine HW6.out.mono ?_;rintro e w7 ⟨⟨va,vc,rfl,-⟩,hb7⟩;have B7:=Lib.hid (HB54.out.trans ((B6.out.trans (hb7.mono B6.out.size)).mono HB54.out.size));clear hb7));go_ret;exact⟨rfl,B7.out⟩
end
end Go.Proofs.YtgplnekpgdhcpaaGreat
