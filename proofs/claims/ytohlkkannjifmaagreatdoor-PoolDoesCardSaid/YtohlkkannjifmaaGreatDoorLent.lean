import Derived.Test.YtohlkkannjifmaaGreatDoorOCopy
import Derived.Test.YtohlkkannjifmaaGreatDoorOPool2
import Derived.Laws.IdiomStrings
import Derived.Lib.SlBytesConst
import Derived.Test.YtohlkkannjifmaaGreatDoorPure3
namespace Go.Proofs.YtohlkkannjifmaaGreatDoor
section
set_option maxHeartbeats 8000000
set_option maxRecDepth 100000
open Go.RowKit
variable {b n z:Nat} {t:TypeId} {u0 u1 u2 v v0 v1 v10 v2 v3 v4 v5 v6 v7 v8 v9:Value} {W W' w:World}
structure Hi (z:Nat) (w w':World):Prop where
 size:w.heap.size<=w'.heap.size
 block:∀ b,z+2<=b->b<w.heap.size->w'.heap[b]? = w.heap[b]?
theorem Hi.refl (z:Nat) (w:World):Hi z w w:=⟨Nat.le_refl _,fun _ _ _=>rfl⟩
theorem Hi.set {w':World} (h:Hi z w w') (hb:b<z+2) (i:Nat) (v:Value):Hi z w (w'.setCell ⟨b,i,none⟩ v) :=
 ⟨by rw[size_set];exact h.size,fun g hg hl=>(set_ne (by omega)).trans (h.block g hg hl)⟩
theorem own_hi {base size:Nat} {e:TypeId} {xs:List Value} (h:W.ownsRow base e size v n xs) (hh:Hi z W W') (hb:z+2<=base):W'.ownsRow base e size v n xs :=
 Tx.rows_keep h fun b hv=>hh.block b (Nat.le_trans hb (Tx.rows_ge h b hv).1) (Tx.rows_ge h b hv).2
theorem OB.hi {l:List UInt8} (h:OB (z+2) W v l) (hh:Hi z W W'):OB (z+2) W' v l:=own_hi h hh (Nat.le_refl _)
theorem Ek.Own.hi {α:Type} {E:Ek α} {X:List α} (h:E.Own (z+2) W v X) (hh:Hi z W W'):E.Own (z+2) W' v X:=own_hi h hh (Nat.le_refl _)
theorem rowcells_3 (h:w.heap[b]? = some (.cells #[v0,v1,v2] t (0,0))):w.cell? ⟨b,0,none⟩=some v0/\w.cell? ⟨b,1,none⟩=some v1/\w.cell? ⟨b,2,none⟩=some v2 :=
 ⟨cell_of_row _ _ 0 _ _ _ h,cell_of_row _ _ 1 _ _ _ h,cell_of_row _ _ 2 _ _ _ h⟩
theorem rowfree_3 (h:w.heap[b]? = some (.cells #[v0,v1,v2] t (0,0))):w.frozen? ⟨b,0,none⟩=false/\w.frozen? ⟨b,1,none⟩=false/\w.frozen? ⟨b,2,none⟩=false :=
 ⟨by simp[World.frozen?,h],by simp[World.frozen?,h],by simp[World.frozen?,h]⟩
theorem rowcells_11 (h:w.heap[b]? = some (.cells #[v0,v1,v2,v3,v4,v5,v6,v7,v8,v9,v10] t (0,0))):w.cell? ⟨b,0,none⟩=some v0/\w.cell? ⟨b,1,none⟩=some v1/\w.cell? ⟨b,2,none⟩=some v2/\w.cell? ⟨b,3,none⟩=some v3/\w.cell? ⟨b,4,none⟩=some v4/\w.cell? ⟨b,5,none⟩=some v5/\w.cell? ⟨b,6,none⟩=some v6/\w.cell? ⟨b,7,none⟩=some v7/\w.cell? ⟨b,8,none⟩=some v8/\w.cell? ⟨b,9,none⟩=some v9/\w.cell? ⟨b,10,none⟩=some v10 :=
 ⟨cell_of_row _ _ 0 _ _ _ h,cell_of_row _ _ 1 _ _ _ h,cell_of_row _ _ 2 _ _ _ h,cell_of_row _ _ 3 _ _ _ h,cell_of_row _ _ 4 _ _ _ h,cell_of_row _ _ 5 _ _ _ h,cell_of_row _ _ 6 _ _ _ h,cell_of_row _ _ 7 _ _ _ h,cell_of_row _ _ 8 _ _ _ h,cell_of_row _ _ 9 _ _ _ h,cell_of_row _ _ 10 _ _ _ h⟩
theorem rowfree_11 (h:w.heap[b]? = some (.cells #[v0,v1,v2,v3,v4,v5,v6,v7,v8,v9,v10] t (0,0))):w.frozen? ⟨b,0,none⟩=false/\w.frozen? ⟨b,1,none⟩=false/\w.frozen? ⟨b,2,none⟩=false/\w.frozen? ⟨b,3,none⟩=false/\w.frozen? ⟨b,4,none⟩=false/\w.frozen? ⟨b,5,none⟩=false/\w.frozen? ⟨b,6,none⟩=false/\w.frozen? ⟨b,7,none⟩=false/\w.frozen? ⟨b,8,none⟩=false/\w.frozen? ⟨b,9,none⟩=false/\w.frozen? ⟨b,10,none⟩=false :=
 ⟨by simp[World.frozen?,h],by simp[World.frozen?,h],by simp[World.frozen?,h],by simp[World.frozen?,h],by simp[World.frozen?,h],by simp[World.frozen?,h],by simp[World.frozen?,h],by simp[World.frozen?,h],by simp[World.frozen?,h],by simp[World.frozen?,h],by simp[World.frozen?,h]⟩
theorem fill_3 (h0:w.heap[b]? = some (.cells #[u0,u1,u2] t (0,0))) (v0 v1 v2:Value):(((w.setCell ⟨b,0,none⟩ v0).setCell ⟨b,1,none⟩ v1).setCell ⟨b,2,none⟩ v2).heap[b]? = some (.cells #[v0,v1,v2] t (0,0)):=by
 have h1:(w.setCell ⟨b,0,none⟩ v0).heap[b]? = some (.cells #[v0,u1,u2] t (0,0)):=set_at h0 0 v0;have h2:((w.setCell ⟨b,0,none⟩ v0).setCell ⟨b,1,none⟩ v1).heap[b]? = some (.cells #[v0,v1,u2] t (0,0)):=set_at h1 1 v1;have h3:(((w.setCell ⟨b,0,none⟩ v0).setCell ⟨b,1,none⟩ v1).setCell ⟨b,2,none⟩ v2).heap[b]? = some (.cells #[v0,v1,v2] t (0,0)):=set_at h2 2 v2;exact h3
theorem fill_11 {u3 u4 u5 u6 u7 u8 u9 u10:Value} (h0:w.heap[b]? = some (.cells #[u0,u1,u2,u3,u4,u5,u6,u7,u8,u9,u10] t (0,0))) (v0 v1 v2 v3 v4 v5 v6 v7 v8 v9 v10:Value):(((((((((((w.setCell ⟨b,0,none⟩ v0).setCell ⟨b,1,none⟩ v1).setCell ⟨b,2,none⟩ v2).setCell ⟨b,3,none⟩ v3).setCell ⟨b,4,none⟩ v4).setCell ⟨b,5,none⟩ v5).setCell ⟨b,6,none⟩ v6).setCell ⟨b,7,none⟩ v7).setCell ⟨b,8,none⟩ v8).setCell ⟨b,9,none⟩ v9).setCell ⟨b,10,none⟩ v10).heap[b]? = some (.cells #[v0,v1,v2,v3,v4,v5,v6,v7,v8,v9,v10] t (0,0)):=by
 have h1:(w.setCell ⟨b,0,none⟩ v0).heap[b]? = some (.cells #[v0,u1,u2,u3,u4,u5,u6,u7,u8,u9,u10] t (0,0)):=set_at h0 0 v0;have h2:((w.setCell ⟨b,0,none⟩ v0).setCell ⟨b,1,none⟩ v1).heap[b]? = some (.cells #[v0,v1,u2,u3,u4,u5,u6,u7,u8,u9,u10] t (0,0)):=set_at h1 1 v1;have h3:(((w.setCell ⟨b,0,none⟩ v0).setCell ⟨b,1,none⟩ v1).setCell ⟨b,2,none⟩ v2).heap[b]? = some (.cells #[v0,v1,v2,u3,u4,u5,u6,u7,u8,u9,u10] t (0,0)):=set_at h2 2 v2;have h4:((((w.setCell ⟨b,0,none⟩ v0).setCell ⟨b,1,none⟩ v1).setCell ⟨b,2,none⟩ v2).setCell ⟨b,3,none⟩ v3).heap[b]? = some (.cells #[v0,v1,v2,v3,u4,u5,u6,u7,u8,u9,u10] t (0,0)):=set_at h3 3 v3;have h5:(((((w.setCell ⟨b,0,none⟩ v0).setCell ⟨b,1,none⟩ v1).setCell ⟨b,2,none⟩ v2).setCell ⟨b,3,none⟩ v3).setCell ⟨b,4,none⟩ v4).heap[b]? = some (.cells #[v0,v1,v2,v3,v4,u5,u6,u7,u8,u9,u10] t (0,0)):=set_at h4 4 v4;have h6:((((((w.setCell ⟨b,0,none⟩ v0).setCell ⟨b,1,none⟩ v1).setCell ⟨b,2,none⟩ v2).setCell ⟨b,3,none⟩ v3).setCell ⟨b,4,none⟩ v4).setCell ⟨b,5,none⟩ v5).heap[b]? = some (.cells #[v0,v1,v2,v3,v4,v5,u6,u7,u8,u9,u10] t (0,0)):=set_at h5 5 v5;have h7:(((((((w.setCell ⟨b,0,none⟩ v0).setCell ⟨b,1,none⟩ v1).setCell ⟨b,2,none⟩ v2).setCell ⟨b,3,none⟩ v3).setCell ⟨b,4,none⟩ v4).setCell ⟨b,5,none⟩ v5).setCell ⟨b,6,none⟩ v6).heap[b]? = some (.cells #[v0,v1,v2,v3,v4,v5,v6,u7,u8,u9,u10] t (0,0)):=set_at h6 6 v6;have h8:((((((((w.setCell ⟨b,0,none⟩ v0).setCell ⟨b,1,none⟩ v1).setCell ⟨b,2,none⟩ v2).setCell ⟨b,3,none⟩ v3).setCell ⟨b,4,none⟩ v4).setCell ⟨b,5,none⟩ v5).setCell ⟨b,6,none⟩ v6).setCell ⟨b,7,none⟩ v7).heap[b]? = some (.cells #[v0,v1,v2,v3,v4,v5,v6,v7,u8,u9,u10] t (0,0)):=set_at h7 7 v7;have h9:(((((((((w.setCell ⟨b,0,none⟩ v0).setCell ⟨b,1,none⟩ v1).setCell ⟨b,2,none⟩ v2).setCell ⟨b,3,none⟩ v3).setCell ⟨b,4,none⟩ v4).setCell ⟨b,5,none⟩ v5).setCell ⟨b,6,none⟩ v6).setCell ⟨b,7,none⟩ v7).setCell ⟨b,8,none⟩ v8).heap[b]? = some (.cells #[v0,v1,v2,v3,v4,v5,v6,v7,v8,u9,u10] t (0,0)):=set_at h8 8 v8;have h10:((((((((((w.setCell ⟨b,0,none⟩ v0).setCell ⟨b,1,none⟩ v1).setCell ⟨b,2,none⟩ v2).setCell ⟨b,3,none⟩ v3).setCell ⟨b,4,none⟩ v4).setCell ⟨b,5,none⟩ v5).setCell ⟨b,6,none⟩ v6).setCell ⟨b,7,none⟩ v7).setCell ⟨b,8,none⟩ v8).setCell ⟨b,9,none⟩ v9).heap[b]? = some (.cells #[v0,v1,v2,v3,v4,v5,v6,v7,v8,v9,u10] t (0,0)):=set_at h9 9 v9;have h11:(((((((((((w.setCell ⟨b,0,none⟩ v0).setCell ⟨b,1,none⟩ v1).setCell ⟨b,2,none⟩ v2).setCell ⟨b,3,none⟩ v3).setCell ⟨b,4,none⟩ v4).setCell ⟨b,5,none⟩ v5).setCell ⟨b,6,none⟩ v6).setCell ⟨b,7,none⟩ v7).setCell ⟨b,8,none⟩ v8).setCell ⟨b,9,none⟩ v9).setCell ⟨b,10,none⟩ v10).heap[b]? = some (.cells #[v0,v1,v2,v3,v4,v5,v6,v7,v8,v9,v10] t (0,0)):=set_at h10 10 v10;exact h11
theorem cpB {N:Nat} (hN:N<=w.heap.size) {a:Option Addr} {c:Nat} {L:List UInt8} (hr:RB N w a n c L):Hid (∀ W,Below w.heap.size w W->Calls Tryz.prog 85 #[.slice a n c] W fun e w'=>(∃ a' c',e=.returned (.slice a' n c')/\OB W.heap.size w' (.slice a' n c') L)/\Below W.heap.size W w'):=φ fun W hW=>by
 refine (CopyBytes_any N a n c L W (hr.below (hW.mono hN)) (Nat.le_trans hN hW.size)).mono ?_;rintro e w' ⟨⟨v,rfl,ho⟩,hb⟩;obtain⟨a',c',rfl,-⟩:=ho.rb (by rw[<- hr.len];exact hr.lm);rw[<- hr.len] at ho ⊢;exact⟨⟨a',c',rfl,ho⟩,hb⟩
theorem CopyTurn_any (N:Nat) (ka oa na:Option Addr) (kn kc on oc nn nc:Nat) (K O N':List UInt8) (w:World) (hk:RB N w ka kn kc K) (ho:RB N w oa on oc O) (hn:RB N w na nn nc N') (hN:N<=w.heap.size) :
  Calls Tryz.prog 38 #[.agg #[.slice ka kn kc,.slice oa on oc,.slice na nn nc]] w fun e w'=>(∃ a0 d0 a1 d1 a2 d2,e=.returned (.agg #[.slice a0 kn d0,.slice a1 on d1,.slice a2 nn d2])/\OB w.heap.size w' (.slice a0 kn d0) K/\OB w.heap.size w' (.slice a1 on d1) O/\OB w.heap.size w' (.slice a2 nn d2) N')/\Below w.heap.size w w':=by
 have HA:=cpB hN hk;have HC:=cpB hN ho;have HD:=cpB hN hn;clear hk ho hn;obtain⟨z,hz⟩:∃ z,z=w.heap.size:=⟨_,rfl⟩
 obtain⟨w1,hw1⟩:∃ w1,w1=(w.alloc (.cells #[.slice ka kn kc,.slice oa on oc,.slice na nn nc] 29)).alloc (.cells #[.slice none 0 0,.slice none 0 0,.slice none 0 0] 29):=⟨_,rfl⟩
 have t1:w1.heap[z]? = some (.cells #[.slice ka kn kc,.slice oa on oc,.slice na nn nc] 29 (0,0)):=by rw[hw1,hz];exact (Below.heap_alloc _ _ _ (by simp)).trans (heap_alloc_new w _)
 have r1:w1.heap[z+1]? = some (.cells #[.slice none 0 0,.slice none 0 0,.slice none 0 0] 29 (0,0)):=by
  have e:=heap_alloc_new (w.alloc (.cells #[.slice ka kn kc,.slice oa on oc,.slice na nn nc] 29)) (.cells #[.slice none 0 0,.slice none 0 0,.slice none 0 0] 29);rw[World.size_alloc] at e;rw[hw1,hz];exact e
 have b1:Below w.heap.size w w1:=by rw[hw1];exact ((Below.refl _ w).alloc (Nat.le_refl _) _).alloc (by simp) _
 have s1:z+2<=w1.heap.size:=by rw[hw1,hz];simp
 have Hw1:=φ hw1;have Hz:=φ hz;have HT1:=φ t1;have HR1:=φ r1;have HB1:=φ b1;have HS1:=φ s1;have HC1:=rowcells_3 t1;clear hw1 hz r1 b1 s1 t1;go_enter Tryz.func38,Tryz.ntmps38;go_upto_region 1 with (fail);rw[<- Hw1.out,<- Hz.out];obtain⟨c0,c1,c2⟩:=HC1;go_wp2_with (fail);go_at_call 85;refine (HA.out w1 HB1.out).mono ?_;rintro e w2 ⟨⟨a0,d0,rfl,o0⟩,hb⟩;have T2:=(hb.block z (by have:=HS1.out;omega)).trans HT1.out;have R2:=(hb.block (z+1) (by have:=HS1.out;omega)).trans HR1.out;have hi2:Hi z w1 w2:=⟨hb.size,fun g _ hg=>hb.block g hg⟩
 obtain⟨w3,hw3⟩:∃ q,q=w2.setCell ⟨z,0,none⟩ (.slice a0 kn d0):=⟨_,rfl⟩
 have HT3:Hid (w3.heap[z]? = some (.cells #[.slice a0 kn d0,.slice oa on oc,.slice na nn nc] 29 (0,0))):=φ (by rw[hw3];exact set_at (T2) 0 (.slice a0 kn d0));have HR3:Hid (w3.heap[z+1]? = some (.cells #[.slice none 0 0,.slice none 0 0,.slice none 0 0] 29 (0,0))):=φ (by rw[hw3];exact (set_ne (by omega)).trans (R2));have HB3:Hid (Below w.heap.size w w3):=φ (by rw[hw3];exact ((HB1.out.trans (hb.mono HB1.out.size)).setCell (p:=⟨z,0,none⟩) (by show w.heap.size<=z;have:=Hz.out;omega) (.slice a0 kn d0)));have HS3:Hid (z+2<=w3.heap.size):=φ (by rw[hw3];simp only[size_set];have:=HS1.out;have:=hb.size;omega);have HI3:Hid (Hi z w1 w3):=φ (by rw[hw3];exact (hi2.set (b:=z) (by omega) 0 (.slice a0 kn d0)));have HJ3:Hid (Hi z w2 w3):=φ (by rw[hw3];exact ((Hi.refl z w2).set (b:=z) (by omega) 0 (.slice a0 kn d0)));have O0:=φ ((o0.mono HS1.out).hi HJ3.out);have Hw3:=φ hw3;clear c0 c1 c2 hw3 hi2;obtain⟨c0,c1,c2⟩:=rowcells_3 T2;obtain⟨f0,f1,f2⟩:=rowfree_3 T2;clear T2 R2 hb;clear o0;go_wp2_with (fail);rw[<- Hw3.out];go_at_call 85;refine (HC.out w3 HB3.out).mono ?_;rintro e w4 ⟨⟨a1,d1,rfl,o1⟩,hb⟩;have T4:=(hb.block z (by have:=HS3.out;omega)).trans HT3.out;have R4:=(hb.block (z+1) (by have:=HS3.out;omega)).trans HR3.out;have hi4:Hi z w3 w4:=⟨hb.size,fun g _ hg=>hb.block g hg⟩
 obtain⟨w5,hw5⟩:∃ q,q=w4.setCell ⟨z,1,none⟩ (.slice a1 on d1):=⟨_,rfl⟩
 have HT5:Hid (w5.heap[z]? = some (.cells #[.slice a0 kn d0,.slice a1 on d1,.slice na nn nc] 29 (0,0))):=φ (by rw[hw5];exact set_at (T4) 1 (.slice a1 on d1));have HR5:Hid (w5.heap[z+1]? = some (.cells #[.slice none 0 0,.slice none 0 0,.slice none 0 0] 29 (0,0))):=φ (by rw[hw5];exact (set_ne (by omega)).trans (R4));have HB5:Hid (Below w.heap.size w w5):=φ (by rw[hw5];exact ((HB3.out.trans (hb.mono HB3.out.size)).setCell (p:=⟨z,1,none⟩) (by show w.heap.size<=z;have:=Hz.out;omega) (.slice a1 on d1)));have HS5:Hid (z+2<=w5.heap.size):=φ (by rw[hw5];simp only[size_set];have:=HS3.out;have:=hb.size;omega);have HI5:Hid (Hi z w3 w5):=φ (by rw[hw5];exact (hi4.set (b:=z) (by omega) 1 (.slice a1 on d1)));have HJ5:Hid (Hi z w4 w5):=φ (by rw[hw5];exact ((Hi.refl z w4).set (b:=z) (by omega) 1 (.slice a1 on d1)));have O0:=φ (O0.out.hi HI5.out);have O1:=φ ((o1.mono HS3.out).hi HJ5.out);have Hw5:=φ hw5;clear c0 c1 c2 hw5 hi4;obtain⟨c0,c1,c2⟩:=rowcells_3 T4;clear f0 f1 f2;obtain⟨f0,f1,f2⟩:=rowfree_3 T4;clear T4 R4 hb;clear o1;go_wp2_with (fail);rw[<- Hw5.out];go_at_call 85;refine (HD.out w5 HB5.out).mono ?_;rintro e w6 ⟨⟨a2,d2,rfl,o2⟩,hb⟩;have T6:=(hb.block z (by have:=HS5.out;omega)).trans HT5.out;have R6:=(hb.block (z+1) (by have:=HS5.out;omega)).trans HR5.out;have hi6:Hi z w5 w6:=⟨hb.size,fun g _ hg=>hb.block g hg⟩
 obtain⟨w7,hw7⟩:∃ q,q=w6.setCell ⟨z,2,none⟩ (.slice a2 nn d2):=⟨_,rfl⟩
 have HT7:Hid (w7.heap[z]? = some (.cells #[.slice a0 kn d0,.slice a1 on d1,.slice a2 nn d2] 29 (0,0))):=φ (by rw[hw7];exact set_at (T6) 2 (.slice a2 nn d2));have HR7:Hid (w7.heap[z+1]? = some (.cells #[.slice none 0 0,.slice none 0 0,.slice none 0 0] 29 (0,0))):=φ (by rw[hw7];exact (set_ne (by omega)).trans (R6));have HB7:Hid (Below w.heap.size w w7):=φ (by rw[hw7];exact ((HB5.out.trans (hb.mono HB5.out.size)).setCell (p:=⟨z,2,none⟩) (by show w.heap.size<=z;have:=Hz.out;omega) (.slice a2 nn d2)));have HS7:Hid (z+2<=w7.heap.size):=φ (by rw[hw7];simp only[size_set];have:=HS5.out;have:=hb.size;omega);have HI7:Hid (Hi z w5 w7):=φ (by rw[hw7];exact (hi6.set (b:=z) (by omega) 2 (.slice a2 nn d2)));have HJ7:Hid (Hi z w6 w7):=φ (by rw[hw7];exact ((Hi.refl z w6).set (b:=z) (by omega) 2 (.slice a2 nn d2)));have O0:=φ (O0.out.hi HI7.out);have O1:=φ (O1.out.hi HI7.out);have O2:=φ ((o2.mono HS5.out).hi HJ7.out);have Hw7:=φ hw7;clear c0 c1 c2 hw7 hi6;obtain⟨c0,c1,c2⟩:=rowcells_3 T6;clear f0 f1 f2;obtain⟨f0,f1,f2⟩:=rowfree_3 T6;obtain⟨rc0,rc1,rc2⟩:=rowcells_3 R6;obtain⟨rf0,rf1,rf2⟩:=rowfree_3 R6;clear T6 R6 hb;clear o2;go_wp2_with (fail)
 try rw[<- Hw7.out]
 have RR:=fill_3 HR7.out (.slice a0 kn d0) (.slice a1 on d1) (.slice a2 nn d2);have BB:=(((HB7.out.setCell (p:=⟨z+1,0,none⟩) (by show w.heap.size<=z+1;have:=Hz.out;omega) (.slice a0 kn d0)).setCell (p:=⟨z+1,1,none⟩) (by show w.heap.size<=z+1;have:=Hz.out;omega) (.slice a1 on d1)).setCell (p:=⟨z+1,2,none⟩) (by show w.heap.size<=z+1;have:=Hz.out;omega) (.slice a2 nn d2))
 have II:=((((Hi.refl z w7).set (b:=z+1) (by omega) 0 (.slice a0 kn d0)).set (b:=z+1) (by omega) 1 (.slice a1 on d1)).set (b:=z+1) (by omega) 2 (.slice a2 nn d2))
 obtain⟨q0,q1,q2⟩:=rowcells_3 RR;have hzz:w.heap.size<=z+2:=by have:=Hz.out;omega
 have O0f:=(O0.out.hi II).mono hzz;have O1f:=(O1.out.hi II).mono hzz;have O2f:=(O2.out.hi II).mono hzz;refine bodyPost_ret (v:=.agg #[.slice a0 kn d0,.slice a1 on d1,.slice a2 nn d2]) (by simp[results,Tryz.f38,go_sem,q0,q1,q2]) rfl ?_;exact⟨⟨a0,d0,a1,d1,a2,d2,rfl,O0f,O1f,O2f⟩,BB⟩
theorem CopyRecord_any (N:Nat) (r:RecV) (ka oa na da pa:Option Addr) (kc oc nc dc pc:Nat) (w:World) (hk:RB N w ka r.key.length kc r.key) (ho:RB N w oa r.old.length oc r.old) (hn:RB N w na r.new.length nc r.new) (hd:dirtyE.In N w da r.dirty.length dc r.dirty) (hp:openE.In N w pa r.opn.length pc r.opn) (hN:N<=w.heap.size) (sd:r.dirty.length<=1000000000) (sp:r.opn.length<=1000000000) :
  Calls Tryz.prog 10 #[recV r ka oa na da pa kc oc nc dc pc] w fun e w'=>(∃ a0 d0 a1 d1 a2 d2 a3 d3 a4 d4,e=.returned (recV r a0 a1 a2 a3 a4 d0 d1 d2 d3 d4)/\OB w.heap.size w' (.slice a0 r.key.length d0) r.key/\OB w.heap.size w' (.slice a1 r.old.length d1) r.old/\OB w.heap.size w' (.slice a2 r.new.length d2) r.new/\dirtyE.Own w.heap.size w' (.slice a3 r.dirty.length d3) r.dirty/\openE.Own w.heap.size w' (.slice a4 r.opn.length d4) r.opn)/\Below w.heap.size w w':=by
 unfold recV;obtain⟨ls,wk,pv,nx,kd,pg,K,O,N',X,Y⟩:=r;dsimp only at *;generalize hkl:K.length=kn at *;generalize hol:O.length=on at *;generalize hnl:N'.length=nn at *;generalize hdl:X.length=dn at *;generalize hpl:Y.length=pn at *;have HA:Hid (∀ W,Below w.heap.size w W->Calls Tryz.prog 38 #[.agg #[.slice ka kn kc,.slice oa on oc,.slice na nn nc]] W fun e w'=>(∃ a0 d0 a1 d1 a2 d2,e=.returned (.agg #[.slice a0 kn d0,.slice a1 on d1,.slice a2 nn d2])/\OB W.heap.size w' (.slice a0 kn d0) K/\OB W.heap.size w' (.slice a1 on d1) O/\OB W.heap.size w' (.slice a2 nn d2) N')/\Below W.heap.size W w'):=φ fun W hW=>CopyTurn_any N ka oa na kn kc on oc nn nc K O N' W (hk.below (hW.mono hN)) (ho.below (hW.mono hN)) (hn.below (hW.mono hN)) (Nat.le_trans hN hW.size)
 have HC:Hid (∀ W,Below w.heap.size w W->Calls Tryz.prog 39 #[.slice da dn dc] W fun e w'=>(∃ a' c',e=.returned (.slice a' dn c')/\dirtyE.Own W.heap.size w' (.slice a' dn c') X)/\Below W.heap.size W w'):=φ fun W hW=>CopyDirties_any N da dn dc X W (hd.below (hW.mono hN)) sd
 have HD:Hid (∀ W,Below w.heap.size w W->Calls Tryz.prog 40 #[.slice pa pn pc] W fun e w'=>(∃ a' c',e=.returned (.slice a' pn c')/\openE.Own W.heap.size w' (.slice a' pn c') Y)/\Below W.heap.size W w'):=φ fun W hW=>CopyOpens_any N pa pn pc Y W (hp.below (hW.mono hN)) sp
 clear hk ho hn hd hp sd sp hkl hol hnl hdl hpl;obtain⟨z,hz⟩:∃ z,z=w.heap.size:=⟨_,rfl⟩
 obtain⟨w1,hw1⟩:∃ w1,w1=(w.alloc (.cells #[.int .i64 ls,.int .i64 wk,.int .i64 pv,.int .i64 nx,.int .u8 kd,.int .i64 pg,.slice ka kn kc,.slice oa on oc,.slice na nn nc,.slice da dn dc,.slice pa pn pc] 33)).alloc (.cells #[.int .i64 0,.int .i64 0,.int .i64 0,.int .i64 0,.int .u8 0,.int .i64 0,.slice none 0 0,.slice none 0 0,.slice none 0 0,.slice none 0 0,.slice none 0 0] 33):=⟨_,rfl⟩
 have t1:w1.heap[z]? = some (.cells #[.int .i64 ls,.int .i64 wk,.int .i64 pv,.int .i64 nx,.int .u8 kd,.int .i64 pg,.slice ka kn kc,.slice oa on oc,.slice na nn nc,.slice da dn dc,.slice pa pn pc] 33 (0,0)):=by rw[hw1,hz];exact (Below.heap_alloc _ _ _ (by simp)).trans (heap_alloc_new w _)
 have r1:w1.heap[z+1]? = some (.cells #[.int .i64 0,.int .i64 0,.int .i64 0,.int .i64 0,.int .u8 0,.int .i64 0,.slice none 0 0,.slice none 0 0,.slice none 0 0,.slice none 0 0,.slice none 0 0] 33 (0,0)):=by
  have e:=heap_alloc_new (w.alloc (.cells #[.int .i64 ls,.int .i64 wk,.int .i64 pv,.int .i64 nx,.int .u8 kd,.int .i64 pg,.slice ka kn kc,.slice oa on oc,.slice na nn nc,.slice da dn dc,.slice pa pn pc] 33)) (.cells #[.int .i64 0,.int .i64 0,.int .i64 0,.int .i64 0,.int .u8 0,.int .i64 0,.slice none 0 0,.slice none 0 0,.slice none 0 0,.slice none 0 0,.slice none 0 0] 33);rw[World.size_alloc] at e;rw[hw1,hz];exact e
 have b1:Below w.heap.size w w1:=by rw[hw1];exact ((Below.refl _ w).alloc (Nat.le_refl _) _).alloc (by simp) _
 have s1:z+2<=w1.heap.size:=by rw[hw1,hz];simp
 have Hw1:=φ hw1;have Hz:=φ hz;have HT1:=φ t1;have HR1:=φ r1;have HB1:=φ b1;have HS1:=φ s1;have HC1:=rowcells_11 t1;clear hw1 hz r1 b1 s1 t1;go_enter Tryz.func10,Tryz.ntmps10;go_upto_region 1 with (fail);rw[<- Hw1.out,<- Hz.out];obtain⟨c0,c1,c2,c3,c4,c5,c6,c7,c8,c9,c10⟩:=HC1;go_wp2_with (fail);go_at_call 38;refine (HA.out w1 HB1.out).mono ?_;rintro e w2 ⟨⟨a0,e0,a1,e1,a2,e2,rfl,o0,o1,o2⟩,hb⟩;have T2:=(hb.block z (by have:=HS1.out;omega)).trans HT1.out;have R2:=(hb.block (z+1) (by have:=HS1.out;omega)).trans HR1.out;have hi2:Hi z w1 w2:=⟨hb.size,fun g _ hg=>hb.block g hg⟩
 obtain⟨w3,hw3⟩:∃ q,q=((w2.setCell ⟨z,6,none⟩ (.slice a0 kn e0)).setCell ⟨z,7,none⟩ (.slice a1 on e1)).setCell ⟨z,8,none⟩ (.slice a2 nn e2):=⟨_,rfl⟩
 have HT3:Hid (w3.heap[z]? = some (.cells #[.int .i64 ls,.int .i64 wk,.int .i64 pv,.int .i64 nx,.int .u8 kd,.int .i64 pg,.slice a0 kn e0,.slice a1 on e1,.slice a2 nn e2,.slice da dn dc,.slice pa pn pc] 33 (0,0))):=φ (by rw[hw3];exact set_at (set_at (set_at (T2) 6 (.slice a0 kn e0)) 7 (.slice a1 on e1)) 8 (.slice a2 nn e2));have HR3:Hid (w3.heap[z+1]? = some (.cells #[.int .i64 0,.int .i64 0,.int .i64 0,.int .i64 0,.int .u8 0,.int .i64 0,.slice none 0 0,.slice none 0 0,.slice none 0 0,.slice none 0 0,.slice none 0 0] 33 (0,0))):=φ (by rw[hw3];exact (set_ne (by omega)).trans ((set_ne (by omega)).trans ((set_ne (by omega)).trans (R2))));have HB3:Hid (Below w.heap.size w w3):=φ (by rw[hw3];exact ((((HB1.out.trans (hb.mono HB1.out.size)).setCell (p:=⟨z,6,none⟩) (by show w.heap.size<=z;have:=Hz.out;omega) (.slice a0 kn e0)).setCell (p:=⟨z,7,none⟩) (by show w.heap.size<=z;have:=Hz.out;omega) (.slice a1 on e1)).setCell (p:=⟨z,8,none⟩) (by show w.heap.size<=z;have:=Hz.out;omega) (.slice a2 nn e2)));have HS3:Hid (z+2<=w3.heap.size):=φ (by rw[hw3];simp only[size_set];have:=HS1.out;have:=hb.size;omega);have HI3:Hid (Hi z w1 w3):=φ (by rw[hw3];exact (((hi2.set (b:=z) (by omega) 6 (.slice a0 kn e0)).set (b:=z) (by omega) 7 (.slice a1 on e1)).set (b:=z) (by omega) 8 (.slice a2 nn e2)));have HJ3:Hid (Hi z w2 w3):=φ (by rw[hw3];exact ((((Hi.refl z w2).set (b:=z) (by omega) 6 (.slice a0 kn e0)).set (b:=z) (by omega) 7 (.slice a1 on e1)).set (b:=z) (by omega) 8 (.slice a2 nn e2)));have O0:=φ ((o0.mono HS1.out).hi HJ3.out);have O1:=φ ((o1.mono HS1.out).hi HJ3.out);have O2:=φ ((o2.mono HS1.out).hi HJ3.out);have Hw3:=φ hw3;clear c0 c1 c2 c3 c4 c5 c6 c7 c8 c9 c10 hw3 hi2;obtain⟨c0,c1,c2,c3,c4,c5,c6,c7,c8,c9,c10⟩:=rowcells_11 T2;obtain⟨f0,f1,f2,f3,f4,f5,f6,f7,f8,f9,f10⟩:=rowfree_11 T2;clear T2 R2 hb;clear o0;clear o1;clear o2;go_wp2_with (fail);rw[<- Hw3.out];go_at_call 39;refine (HC.out w3 HB3.out).mono ?_;rintro e w4 ⟨⟨a3,e3,rfl,o3⟩,hb⟩;have T4:=(hb.block z (by have:=HS3.out;omega)).trans HT3.out;have R4:=(hb.block (z+1) (by have:=HS3.out;omega)).trans HR3.out;have hi4:Hi z w3 w4:=⟨hb.size,fun g _ hg=>hb.block g hg⟩
 obtain⟨w5,hw5⟩:∃ q,q=w4.setCell ⟨z,9,none⟩ (.slice a3 dn e3):=⟨_,rfl⟩
 have HT5:Hid (w5.heap[z]? = some (.cells #[.int .i64 ls,.int .i64 wk,.int .i64 pv,.int .i64 nx,.int .u8 kd,.int .i64 pg,.slice a0 kn e0,.slice a1 on e1,.slice a2 nn e2,.slice a3 dn e3,.slice pa pn pc] 33 (0,0))):=φ (by rw[hw5];exact set_at (T4) 9 (.slice a3 dn e3));have HR5:Hid (w5.heap[z+1]? = some (.cells #[.int .i64 0,.int .i64 0,.int .i64 0,.int .i64 0,.int .u8 0,.int .i64 0,.slice none 0 0,.slice none 0 0,.slice none 0 0,.slice none 0 0,.slice none 0 0] 33 (0,0))):=φ (by rw[hw5];exact (set_ne (by omega)).trans (R4));have HB5:Hid (Below w.heap.size w w5):=φ (by rw[hw5];exact ((HB3.out.trans (hb.mono HB3.out.size)).setCell (p:=⟨z,9,none⟩) (by show w.heap.size<=z;have:=Hz.out;omega) (.slice a3 dn e3)));have HS5:Hid (z+2<=w5.heap.size):=φ (by rw[hw5];simp only[size_set];have:=HS3.out;have:=hb.size;omega);have HI5:Hid (Hi z w3 w5):=φ (by rw[hw5];exact (hi4.set (b:=z) (by omega) 9 (.slice a3 dn e3)));have HJ5:Hid (Hi z w4 w5):=φ (by rw[hw5];exact ((Hi.refl z w4).set (b:=z) (by omega) 9 (.slice a3 dn e3)));have O0:=φ (O0.out.hi HI5.out);have O1:=φ (O1.out.hi HI5.out);have O2:=φ (O2.out.hi HI5.out);have O3:=φ ((o3.mono HS3.out).hi HJ5.out);have Hw5:=φ hw5;clear c0 c1 c2 c3 c4 c5 c6 c7 c8 c9 c10 hw5 hi4;obtain⟨c0,c1,c2,c3,c4,c5,c6,c7,c8,c9,c10⟩:=rowcells_11 T4;clear f0 f1 f2 f3 f4 f5 f6 f7 f8 f9 f10;obtain⟨f0,f1,f2,f3,f4,f5,f6,f7,f8,f9,f10⟩:=rowfree_11 T4;clear T4 R4 hb;clear o3;go_wp2_with (fail);rw[<- Hw5.out];go_at_call 40;refine (HD.out w5 HB5.out).mono ?_;rintro e w6 ⟨⟨a4,e4,rfl,o4⟩,hb⟩;have T6:=(hb.block z (by have:=HS5.out;omega)).trans HT5.out;have R6:=(hb.block (z+1) (by have:=HS5.out;omega)).trans HR5.out;have hi6:Hi z w5 w6:=⟨hb.size,fun g _ hg=>hb.block g hg⟩
 obtain⟨w7,hw7⟩:∃ q,q=w6.setCell ⟨z,10,none⟩ (.slice a4 pn e4):=⟨_,rfl⟩
 have HT7:Hid (w7.heap[z]? = some (.cells #[.int .i64 ls,.int .i64 wk,.int .i64 pv,.int .i64 nx,.int .u8 kd,.int .i64 pg,.slice a0 kn e0,.slice a1 on e1,.slice a2 nn e2,.slice a3 dn e3,.slice a4 pn e4] 33 (0,0))):=φ (by rw[hw7];exact set_at (T6) 10 (.slice a4 pn e4));have HR7:Hid (w7.heap[z+1]? = some (.cells #[.int .i64 0,.int .i64 0,.int .i64 0,.int .i64 0,.int .u8 0,.int .i64 0,.slice none 0 0,.slice none 0 0,.slice none 0 0,.slice none 0 0,.slice none 0 0] 33 (0,0))):=φ (by rw[hw7];exact (set_ne (by omega)).trans (R6));have HB7:Hid (Below w.heap.size w w7):=φ (by rw[hw7];exact ((HB5.out.trans (hb.mono HB5.out.size)).setCell (p:=⟨z,10,none⟩) (by show w.heap.size<=z;have:=Hz.out;omega) (.slice a4 pn e4)));have HS7:Hid (z+2<=w7.heap.size):=φ (by rw[hw7];simp only[size_set];have:=HS5.out;have:=hb.size;omega);have HI7:Hid (Hi z w5 w7):=φ (by rw[hw7];exact (hi6.set (b:=z) (by omega) 10 (.slice a4 pn e4)));have HJ7:Hid (Hi z w6 w7):=φ (by rw[hw7];exact ((Hi.refl z w6).set (b:=z) (by omega) 10 (.slice a4 pn e4)));have O0:=φ (O0.out.hi HI7.out);have O1:=φ (O1.out.hi HI7.out);have O2:=φ (O2.out.hi HI7.out);have O3:=φ (O3.out.hi HI7.out);have O4:=φ ((o4.mono HS5.out).hi HJ7.out);have Hw7:=φ hw7;clear c0 c1 c2 c3 c4 c5 c6 c7 c8 c9 c10 hw7 hi6;obtain⟨c0,c1,c2,c3,c4,c5,c6,c7,c8,c9,c10⟩:=rowcells_11 T6;clear f0 f1 f2 f3 f4 f5 f6 f7 f8 f9 f10;obtain⟨f0,f1,f2,f3,f4,f5,f6,f7,f8,f9,f10⟩:=rowfree_11 T6;obtain⟨rc0,rc1,rc2,rc3,rc4,rc5,rc6,rc7,rc8,rc9,rc10⟩:=rowcells_11 R6;obtain⟨rf0,rf1,rf2,rf3,rf4,rf5,rf6,rf7,rf8,rf9,rf10⟩:=rowfree_11 R6;clear T6 R6 hb;clear o4;go_wp2_with (fail)
 try rw[<- Hw7.out]
 have RR:=fill_11 HR7.out (.int .i64 ls) (.int .i64 wk) (.int .i64 pv) (.int .i64 nx) (.int .u8 kd) (.int .i64 pg) (.slice a0 kn e0) (.slice a1 on e1) (.slice a2 nn e2) (.slice a3 dn e3) (.slice a4 pn e4);have BB:=(((((((((((HB7.out.setCell (p:=⟨z+1,0,none⟩) (by show w.heap.size<=z+1;have:=Hz.out;omega) (.int .i64 ls)).setCell (p:=⟨z+1,1,none⟩) (by show w.heap.size<=z+1;have:=Hz.out;omega) (.int .i64 wk)).setCell (p:=⟨z+1,2,none⟩) (by show w.heap.size<=z+1;have:=Hz.out;omega) (.int .i64 pv)).setCell (p:=⟨z+1,3,none⟩) (by show w.heap.size<=z+1;have:=Hz.out;omega) (.int .i64 nx)).setCell (p:=⟨z+1,4,none⟩) (by show w.heap.size<=z+1;have:=Hz.out;omega) (.int .u8 kd)).setCell (p:=⟨z+1,5,none⟩) (by show w.heap.size<=z+1;have:=Hz.out;omega) (.int .i64 pg)).setCell (p:=⟨z+1,6,none⟩) (by show w.heap.size<=z+1;have:=Hz.out;omega) (.slice a0 kn e0)).setCell (p:=⟨z+1,7,none⟩) (by show w.heap.size<=z+1;have:=Hz.out;omega) (.slice a1 on e1)).setCell (p:=⟨z+1,8,none⟩) (by show w.heap.size<=z+1;have:=Hz.out;omega) (.slice a2 nn e2)).setCell (p:=⟨z+1,9,none⟩) (by show w.heap.size<=z+1;have:=Hz.out;omega) (.slice a3 dn e3)).setCell (p:=⟨z+1,10,none⟩) (by show w.heap.size<=z+1;have:=Hz.out;omega) (.slice a4 pn e4))
 have II:=((((((((((((Hi.refl z w7).set (b:=z+1) (by omega) 0 (.int .i64 ls)).set (b:=z+1) (by omega) 1 (.int .i64 wk)).set (b:=z+1) (by omega) 2 (.int .i64 pv)).set (b:=z+1) (by omega) 3 (.int .i64 nx)).set (b:=z+1) (by omega) 4 (.int .u8 kd)).set (b:=z+1) (by omega) 5 (.int .i64 pg)).set (b:=z+1) (by omega) 6 (.slice a0 kn e0)).set (b:=z+1) (by omega) 7 (.slice a1 on e1)).set (b:=z+1) (by omega) 8 (.slice a2 nn e2)).set (b:=z+1) (by omega) 9 (.slice a3 dn e3)).set (b:=z+1) (by omega) 10 (.slice a4 pn e4))
 obtain⟨q0,q1,q2,q3,q4,q5,q6,q7,q8,q9,q10⟩:=rowcells_11 RR;have hzz:w.heap.size<=z+2:=by have:=Hz.out;omega
 have O0f:=(O0.out.hi II).mono hzz;have O1f:=(O1.out.hi II).mono hzz;have O2f:=(O2.out.hi II).mono hzz;have O3f:=(O3.out.hi II).mono hzz;have O4f:=(O4.out.hi II).mono hzz;refine bodyPost_ret (v:=.agg #[.int .i64 ls,.int .i64 wk,.int .i64 pv,.int .i64 nx,.int .u8 kd,.int .i64 pg,.slice a0 kn e0,.slice a1 on e1,.slice a2 nn e2,.slice a3 dn e3,.slice a4 pn e4]) (by simp[results,Tryz.f10,go_sem,q0,q1,q2,q3,q4,q5,q6,q7,q8,q9,q10]) rfl ?_;exact⟨⟨a0,e0,a1,e1,a2,e2,a3,e3,a4,e4,rfl,O0f,O1f,O2f,O3f,O4f⟩,BB⟩
end
section
open Go.RowKit Go.Shelf
theorem T3.frozen {W:World} {z:Nat} {v0 v1 v2:Value} (h:T3 W z v0 v1 v2):W.frozen? ⟨z,0,none⟩=false/\W.frozen? ⟨z,1,none⟩=false/\W.frozen? ⟨z,2,none⟩=false:=by
 unfold T3 at h;simp[World.frozen?,h]
end
section
open Go.RowKit Go.Shelf
theorem lit_rb (w:World) (l:List UInt8) (fr:Nat×Nat) (h:l.length<=140737488355328):RB (w.alloc (.cells (l.map bv).toArray 5 fr)).heap.size (w.alloc (.cells (l.map bv).toArray 5 fr)) (some ⟨w.heap.size,0,none⟩) l.length l.length l:=by
 refine⟨rfl,Nat.le_refl _,by omega,h,fun _=>⟨_,_,rfl,by simp,fun i hi=>?_⟩⟩;have hh:=heap_alloc_new w (.cells (l.map bv).toArray 5 fr);simp only[World.cell?,hh,Nat.zero_add,Option.isSome_none,Bool.false_eq_true,if_false];rw[List.getElem?_toArray];exact bv_getD l i hi
end
section
open Go.RowKit Go.Shelf
structure DoV where
 op:Int
 next:Int
 lsn:Int
 ka:Option Addr
 kn:Nat
 kc:Nat
 K:List UInt8
 oa:Option Addr
 on:Nat
 oc:Nat
 O:List UInt8
 na:Option Addr
 nn:Nat
 nc:Nat
 N:List UInt8
 take:Bool
instance:Inhabited DoV:=⟨⟨0,0,0,none,0,0,[],none,0,0,[],none,0,0,[],false⟩⟩
def T2 (W:World) (z:Nat) (v0 v1:Value):Prop:=W.heap[z]? = some (.cells #[v0,v1] 185 (0,0))
def z10:List UInt8:=List.replicate 10 0
end
section
open Go.RowKit Go.Shelf
theorem OB.below {base:Nat} {W W':World} {v:Value} {l:List UInt8} (h:OB base W v l) (hb:Below W.heap.size W W'):OB base W' v l:=by
 obtain⟨e,h3|⟨g,cap,cur,hv,hg,hh,r⟩⟩:=h
 ·exact⟨e,.inl h3⟩
 ·exact⟨e,.inr ⟨g,cap,cur,hv,hg,(hb.block g (Array.getElem?_eq_some_iff.1 hh).1).trans hh,r⟩⟩
end
section
open Go.RowKit Go.Shelf
theorem own_keep {base size n:Nat} {e:TypeId} {W W':World} {v:Value} {xs:List Value} (h:W.ownsRow base e size v n xs) (hk:∀ b,v.ownBlock=some b->W'.heap[b]? = W.heap[b]?):W'.ownsRow base e size v n xs:=by
 obtain⟨e1,h3|⟨g,cap,cur,hv,hg,hh,r⟩⟩:=h
 ·exact⟨e1,.inl h3⟩
 ·exact⟨e1,.inr ⟨g,cap,cur,hv,hg,(hk g (by rw[hv];rfl)).trans hh,r⟩⟩
end
section
open Go.RowKit Go.Shelf
theorem T3.set1 {W:World} {z:Nat} {v0 v1 v2:Value} (h:T3 W z v0 v1 v2) (u:Value):T3 (W.setCell ⟨z,1,none⟩ u) z v0 u v2:=by
 unfold T3 at h ⊢;simp[World.setCell,Array.getElem?_modify,h]
theorem T3.new (W:World) (v0 v1 v2:Value):T3 (W.alloc (.cells #[v0,v1,v2] 29)) W.heap.size v0 v1 v2:=heap_alloc_new W _
end
section
set_option maxRecDepth 100000
open Go.RowKit Go.Shelf
def markN (k i:Nat):Nat:=1000003*(k+7)+i
def mkB (k i:Nat):UInt8:=UInt8.ofNat (markN k i*11400714819323198485 % 18446744073709551616 / 72057594037927936)
theorem mark_any (k i:Nat) (w:World) (hk:k<=1000000) (hi:i<=1000000000) :
  Calls Tryz.prog 139 #[.int .i64 k,.int .i64 i] w fun e w'=>e=.returned (.int .i64 (markN k i:Nat))/\w=w':=by
 have hf:((markN k i:Nat):Int)=1000003*((k:Int)+7)+(i:Int):=by unfold markN;omega
 have Hf:=φ hf;clear hf;go_enter Tryz.func139,Tryz.ntmps139;go_wp2_with (fail);go_ret;exact⟨by rw[Hf.out];rfl,rfl⟩
theorem mkB_val (k i:Nat):IntKind.u64.wrap ((markN k i:Nat)*11400714819323198485) / 72057594037927936 % 256=((mkB k i).toNat:Int):=by
 unfold mkB;rw[UInt8.toNat_ofNat'];generalize markN k i=m;have h:IntKind.u64.wrap ((m:Nat)*11400714819323198485)=((m*11400714819323198485 % 18446744073709551616:Nat):Int):=by
  unfold IntKind.wrap;simp[IntKind.bits,IntKind.signed]
 rw[h];generalize m*11400714819323198485 % 18446744073709551616=q;omega
theorem markByte_any (k i:Nat) (w:World) (hk:k<=1000000) (hi:i<=1000000000) :
  Calls Tryz.prog 141 #[.int .i64 k,.int .i64 i] w fun e w'=>e=.returned (.int .u8 ((mkB k i).toNat:Int))/\w=w':=by
 have HM:=φ (mark_any k i w hk hi);have hm:markN k i<2000000000000:=by unfold markN;omega
 go_enter Tryz.func141,Tryz.ntmps141;go_wp2_with (fail);refine HM.out.mono ?_;rintro e w' ⟨rfl,rfl⟩;have hv:=mkB_val k i;have Hv:=φ hv;clear hv;go_wp2_with (fail);go_ret;exact⟨congrArg (fun x=>Ending.returned (.int .u8 x)) Hv.out,rfl⟩
end
end Go.Proofs.YtohlkkannjifmaaGreatDoor
