/- storemanlaw10.right: its walk. (Printed by gen/lright.py.) -/
import Derived.Test.YtgplnekpgdhcpaaGreatKChkOne
import Derived.Test.YtgplnekpgdhcpaaGreatQLineK
import Derived.Test.YtgplnekpgdhcpaaGreatSteps
import Derived.Test.YtgplnekpgdhcpaaGreatQSChk
import Derived.Test.YtgplnekpgdhcpaaGreatTxA
namespace Go.Proofs.YtgplnekpgdhcpaaGreat
open Go.RowKit Go.Sort Go.Lib Go.Shelf
theorem ids_upL {N:List LineV} {i:Nat} (hi:i < N.length) (h:((N.take i).map (·.id)).Nodup) (h2:∀ t,t < i->(N.getD t default).id≠(N.getD i default).id):((N.take (i+1)).map (·.id)).Nodup:=by
 refine ids_more hi h (List.any_eq_false.2 (fun l hl=>?_))
 obtain⟨t,ht,rfl⟩:=List.getElem_of_mem hl
 rw[List.length_take] at ht
 have:=h2 t (by omega)
 rw[List.getD_eq_getElem?_getD,List.getElem?_eq_getElem (show t < N.length by omega)] at this
 rw[List.getElem_take]
 simpa using this
structure RgtS (now:Int) (X:List It) (L:List LotV) (N:List LineV):Prop where
 now:nowOk now=true
 nX:X.length<=12
 nL:L.length<=12
 nN:N.length<=12
 may:mayB L []=true
 ids:(N.map (·.id)).Nodup
 all:N.all lineOk=true
def RgtP (now:Int) (X:List It) (L:List LotV) (N:List LineV) (w:World) (e:Ending) (w':World):Prop:=(∃ b,e = .returned (.bool b)/\(b=true->RgtS now X L N))/\Below w.heap.size w w'
set_option maxHeartbeats 8000000 in
set_option maxRecDepth 100000 in
theorem lRight_any (B:Nat) (now nl nx:Int) (a1:Option Addr) (n1 c1:Nat) (X:List It) (a2:Option Addr) (n2 c2:Nat) (L:List LotV) (a3:Option Addr) (n3 c3:Nat) (N:List LineV) (w:World) (hX:RI B w a1 n1 c1 X) (hL:lotE.In B w a2 n2 c2 L) (hN:lineE.In B w a3 n3 c3 N) (hsz:∀ x∈X,x.ps.length * 24<=140737488355328/\x.os.length * 16<=140737488355328) (hB:B<=w.heap.size) :
  Calls Tryz.prog 20 #[.agg #[.int .i64 now,.int .i64 nl,.int .i64 nx,.slice a1 n1 c1,.slice a2 n2 c2,.slice a3 n3 c3]] w fun e w'=>RgtP now X L N w e w':=by
 obtain⟨W0,hW0⟩:∃ V,V=w.alloc (stObj now nl nx (.slice a1 n1 c1) (.slice a2 n2 c2) (.slice a3 n3 c3)):=⟨_,rfl⟩
 have hB0:Below w.heap.size w W0:=by rw[hW0];exact below_allocL _ _
 have hp0:W0.heap[w.heap.size]? = some (stObj now nl nx (.slice a1 n1 c1) (.slice a2 n2 c2) (.slice a3 n3 c3)):=by rw[hW0];exact heap_alloc_new _ _
 have hs0:w.heap.size < W0.heap.size:=(Array.getElem?_eq_some_iff.1 hp0).1
 have HC:=Lib.hid (fun (V:World) (hb:Below W0.heap.size W0 V)=>stObj_cells ((hb.block w.heap.size hs0).trans hp0))
 have HS:=Lib.hid (fun (V:World)=>small_any now nl nx a1 a2 a3 n1 c1 n2 c2 n3 c3 V ⟨hX.le,hX.mx⟩ ⟨hL.le,hL.mx⟩ ⟨hN.le,hN.mx⟩)
 have HXl:=Lib.hid hX.len
 have HLl:=Lib.hid hL.len
 have HNl:=Lib.hid hN.len
 have HFl:=Lib.hid (fun (V:World) (hb:Below W0.heap.size W0 V)=>flowCheck_any B a2 n2 c2 L V (hL.below ((hB0.trans (hb.mono (by omega))).mono hB)) (Nat.le_trans hB (hB0.trans (hb.mono (by omega))).size))
 have HKc:=Lib.hid (fun (V:World) (hb:Below W0.heap.size W0 V)=>Check_any B a1 n1 c1 X V (hX.below ((hB0.trans (hb.mono (by omega))).mono hB)) (Nat.le_trans hB (hB0.trans (hb.mono (by omega))).size))
 have HSw:=Lib.hid (fun (V:World) (hb:Below W0.heap.size W0 V)=>swapCheck_any B a1 n1 c1 X V (hX.below ((hB0.trans (hb.mono (by omega))).mono hB)) (Nat.le_trans hB (hB0.trans (hb.mono (by omega))).size) (fun x hx=>(hsz x hx).2))
 have HN:=Lib.hid (fun (V:World) (hb:Below W0.heap.size W0 V)=>(hN.below ((hB0.trans (hb.mono (by omega))).mono hB):lineE.In B V a3 n3 c3 N))
 have HB0:=Lib.hid hB0
 have HBw:=Lib.hid hB
 have hs1:=Lib.hid (show w.heap.size<=W0.heap.size by omega)
 have HW0:Hid (w.alloc (stObj now nl nx (.slice a1 n1 c1) (.slice a2 n2 c2) (.slice a3 n3 c3))=W0):=Lib.hid hW0.symm
 have hle3:=hN.le
 have hmx3:=hN.mx
 obtain⟨y0,y1,y2,y3,y4,y5⟩:=HC.out W0 (Below.refl _ _)
 unfold stObj at HW0
 clear hX hL hN hsz hB hB0 hp0 hW0 hs0
 by_cases hn0:now < 0
 ·have e0:decide (now < 0)=true:=by simp[hn0]
  go_enter Tryz.func20,Tryz.ntmps20
  go_upto_region 1 with (fail)
  have HW:=HW0.out
  simp only[List.toArray] at HW
  rw[HW]
  clear HW
  go_wp2_with (first | (go_at_call 9;refine (HS.out _).mono ?_;rintro e w2 ⟨rfl,hb2⟩;have B2:=Lib.hid ((Below.refl W0.heap.size W0).trans hb2);obtain⟨z0,z1,z2,z3,z4,z5⟩:=HC.out w2 B2.out;clear hb2) | (go_at_call 49;refine (HFl.out _ B2.out).mono ?_;rintro e w3 ⟨rfl,hb3⟩;have B3:=Lib.hid (B2.out.trans (hb3.mono B2.out.size));obtain⟨x0,x1,x2,x3,x4,x5⟩:=HC.out w3 B3.out;clear hb3) | (go_at_call 50;refine (HKc.out _ B3.out).mono ?_;rintro e w4 ⟨rfl,hb4⟩;have B4:=Lib.hid (B3.out.trans (hb4.mono B3.out.size));obtain⟨v0,v1,v2,v3,v4,v5⟩:=HC.out w4 B4.out;clear hb4) | (go_at_call 51;refine (HSw.out _ B4.out).mono ?_;rintro e w5 ⟨⟨sv,rfl⟩,hb5⟩;have B5:=Lib.hid (B4.out.trans (hb5.mono B4.out.size));obtain⟨r0,r1,r2,r3,r4,r5⟩:=HC.out w5 B5.out;obtain⟨bv,hbv⟩:∃ bv,(sv != 0)=bv:=⟨_,rfl⟩;clear hb5))
  go_ret
  exact⟨⟨false,rfl,fun h=>by cases h⟩,HB0.out.trans ((Below.refl W0.heap.size W0).mono hs1.out)⟩
 have e0:decide (now < 0)=false:=by simp[hn0]
 by_cases hn1:4000 < now
 ·have e1:decide (4000 < now)=true:=by simp[hn1]
  go_enter Tryz.func20,Tryz.ntmps20
  go_upto_region 1 with (fail)
  have HW:=HW0.out
  simp only[List.toArray] at HW
  rw[HW]
  clear HW
  go_wp2_with (first | (go_at_call 9;refine (HS.out _).mono ?_;rintro e w2 ⟨rfl,hb2⟩;have B2:=Lib.hid ((Below.refl W0.heap.size W0).trans hb2);obtain⟨z0,z1,z2,z3,z4,z5⟩:=HC.out w2 B2.out;clear hb2) | (go_at_call 49;refine (HFl.out _ B2.out).mono ?_;rintro e w3 ⟨rfl,hb3⟩;have B3:=Lib.hid (B2.out.trans (hb3.mono B2.out.size));obtain⟨x0,x1,x2,x3,x4,x5⟩:=HC.out w3 B3.out;clear hb3) | (go_at_call 50;refine (HKc.out _ B3.out).mono ?_;rintro e w4 ⟨rfl,hb4⟩;have B4:=Lib.hid (B3.out.trans (hb4.mono B3.out.size));obtain⟨v0,v1,v2,v3,v4,v5⟩:=HC.out w4 B4.out;clear hb4) | (go_at_call 51;refine (HSw.out _ B4.out).mono ?_;rintro e w5 ⟨⟨sv,rfl⟩,hb5⟩;have B5:=Lib.hid (B4.out.trans (hb5.mono B4.out.size));obtain⟨r0,r1,r2,r3,r4,r5⟩:=HC.out w5 B5.out;obtain⟨bv,hbv⟩:∃ bv,(sv != 0)=bv:=⟨_,rfl⟩;clear hb5))
  go_ret
  exact⟨⟨false,rfl,fun h=>by cases h⟩,HB0.out.trans ((Below.refl W0.heap.size W0).mono hs1.out)⟩
 have e1:decide (4000 < now)=false:=by simp[hn1]
 have HNW:Hid (nowOk now=true):=Lib.hid (by unfold nowOk;simp;omega)
 clear hn0 hn1
 cases hsm:smallB n1 n2 n3 with
 | false =>
  rw[hsm] at HS
  go_enter Tryz.func20,Tryz.ntmps20
  go_upto_region 1 with (fail)
  have HW:=HW0.out
  simp only[List.toArray] at HW
  rw[HW]
  clear HW
  go_wp2_with (first | (go_at_call 9;refine (HS.out _).mono ?_;rintro e w2 ⟨rfl,hb2⟩;have B2:=Lib.hid ((Below.refl W0.heap.size W0).trans hb2);obtain⟨z0,z1,z2,z3,z4,z5⟩:=HC.out w2 B2.out;clear hb2) | (go_at_call 49;refine (HFl.out _ B2.out).mono ?_;rintro e w3 ⟨rfl,hb3⟩;have B3:=Lib.hid (B2.out.trans (hb3.mono B2.out.size));obtain⟨x0,x1,x2,x3,x4,x5⟩:=HC.out w3 B3.out;clear hb3) | (go_at_call 50;refine (HKc.out _ B3.out).mono ?_;rintro e w4 ⟨rfl,hb4⟩;have B4:=Lib.hid (B3.out.trans (hb4.mono B3.out.size));obtain⟨v0,v1,v2,v3,v4,v5⟩:=HC.out w4 B4.out;clear hb4) | (go_at_call 51;refine (HSw.out _ B4.out).mono ?_;rintro e w5 ⟨⟨sv,rfl⟩,hb5⟩;have B5:=Lib.hid (B4.out.trans (hb5.mono B4.out.size));obtain⟨r0,r1,r2,r3,r4,r5⟩:=HC.out w5 B5.out;obtain⟨bv,hbv⟩:∃ bv,(sv != 0)=bv:=⟨_,rfl⟩;clear hb5))
  go_ret
  exact⟨⟨false,rfl,fun h=>by cases h⟩,HB0.out.trans (B2.out.mono hs1.out)⟩
 | true =>
  have hm:n1<=12/\n2<=12/\n3<=12:=by
   unfold smallB at hsm
   simp only[Bool.and_eq_true,decide_eq_true_eq] at hsm
   omega
  obtain⟨m1,m2,m3⟩:=hm
  rw[hsm] at HS
  clear hsm
  cases hmy:mayB L [] with
  | false =>
   rw[hmy] at HFl
   clear hmy
   go_enter Tryz.func20,Tryz.ntmps20
   go_upto_region 1 with (fail)
   have HW:=HW0.out
   simp only[List.toArray] at HW
   rw[HW]
   clear HW
   go_wp2_with (first | (go_at_call 9;refine (HS.out _).mono ?_;rintro e w2 ⟨rfl,hb2⟩;have B2:=Lib.hid ((Below.refl W0.heap.size W0).trans hb2);obtain⟨z0,z1,z2,z3,z4,z5⟩:=HC.out w2 B2.out;clear hb2) | (go_at_call 49;refine (HFl.out _ B2.out).mono ?_;rintro e w3 ⟨rfl,hb3⟩;have B3:=Lib.hid (B2.out.trans (hb3.mono B2.out.size));obtain⟨x0,x1,x2,x3,x4,x5⟩:=HC.out w3 B3.out;clear hb3) | (go_at_call 50;refine (HKc.out _ B3.out).mono ?_;rintro e w4 ⟨rfl,hb4⟩;have B4:=Lib.hid (B3.out.trans (hb4.mono B3.out.size));obtain⟨v0,v1,v2,v3,v4,v5⟩:=HC.out w4 B4.out;clear hb4) | (go_at_call 51;refine (HSw.out _ B4.out).mono ?_;rintro e w5 ⟨⟨sv,rfl⟩,hb5⟩;have B5:=Lib.hid (B4.out.trans (hb5.mono B4.out.size));obtain⟨r0,r1,r2,r3,r4,r5⟩:=HC.out w5 B5.out;obtain⟨bv,hbv⟩:∃ bv,(sv != 0)=bv:=⟨_,rfl⟩;clear hb5))
   go_ret
   exact⟨⟨false,rfl,fun h=>by cases h⟩,HB0.out.trans (B3.out.mono hs1.out)⟩
  | true =>
   have HMY:=Lib.hid hmy
   rw[hmy] at HFl
   clear hmy
   by_cases hch:¬ chkE X=0
   ·obtain⟨kv,hkv⟩:∃ kv,kv=chkE X:=⟨_,rfl⟩
    rw[<- hkv] at HKc hch
    have k1:(kv != 0)=true:=by simp[hch]
    clear hkv hch
    go_enter Tryz.func20,Tryz.ntmps20
    go_upto_region 1 with (fail)
    have HW:=HW0.out
    simp only[List.toArray] at HW
    rw[HW]
    clear HW
    go_wp2_with (first | (go_at_call 9;refine (HS.out _).mono ?_;rintro e w2 ⟨rfl,hb2⟩;have B2:=Lib.hid ((Below.refl W0.heap.size W0).trans hb2);obtain⟨z0,z1,z2,z3,z4,z5⟩:=HC.out w2 B2.out;clear hb2) | (go_at_call 49;refine (HFl.out _ B2.out).mono ?_;rintro e w3 ⟨rfl,hb3⟩;have B3:=Lib.hid (B2.out.trans (hb3.mono B2.out.size));obtain⟨x0,x1,x2,x3,x4,x5⟩:=HC.out w3 B3.out;clear hb3) | (go_at_call 50;refine (HKc.out _ B3.out).mono ?_;rintro e w4 ⟨rfl,hb4⟩;have B4:=Lib.hid (B3.out.trans (hb4.mono B3.out.size));obtain⟨v0,v1,v2,v3,v4,v5⟩:=HC.out w4 B4.out;clear hb4) | (go_at_call 51;refine (HSw.out _ B4.out).mono ?_;rintro e w5 ⟨⟨sv,rfl⟩,hb5⟩;have B5:=Lib.hid (B4.out.trans (hb5.mono B4.out.size));obtain⟨r0,r1,r2,r3,r4,r5⟩:=HC.out w5 B5.out;obtain⟨bv,hbv⟩:∃ bv,(sv != 0)=bv:=⟨_,rfl⟩;clear hb5))
    go_ret
    exact⟨⟨false,rfl,fun h=>by cases h⟩,HB0.out.trans (B4.out.mono hs1.out)⟩
   have hch:=Classical.not_not.1 hch
   rw[hch] at HKc
   clear hch
   go_enter Tryz.func20,Tryz.ntmps20
   go_upto_region 1 with (fail)
   have HW:=HW0.out
   simp only[List.toArray] at HW
   rw[HW]
   clear HW
   go_upto_if 35 with (first | (go_at_call 9;refine (HS.out _).mono ?_;rintro e w2 ⟨rfl,hb2⟩;have B2:=Lib.hid ((Below.refl W0.heap.size W0).trans hb2);obtain⟨z0,z1,z2,z3,z4,z5⟩:=HC.out w2 B2.out;clear hb2) | (go_at_call 49;refine (HFl.out _ B2.out).mono ?_;rintro e w3 ⟨rfl,hb3⟩;have B3:=Lib.hid (B2.out.trans (hb3.mono B2.out.size));obtain⟨x0,x1,x2,x3,x4,x5⟩:=HC.out w3 B3.out;clear hb3) | (go_at_call 50;refine (HKc.out _ B3.out).mono ?_;rintro e w4 ⟨rfl,hb4⟩;have B4:=Lib.hid (B3.out.trans (hb4.mono B3.out.size));obtain⟨v0,v1,v2,v3,v4,v5⟩:=HC.out w4 B4.out;clear hb4) | (go_at_call 51;refine (HSw.out _ B4.out).mono ?_;rintro e w5 ⟨⟨sv,rfl⟩,hb5⟩;have B5:=Lib.hid (B4.out.trans (hb5.mono B4.out.size));obtain⟨r0,r1,r2,r3,r4,r5⟩:=HC.out w5 B5.out;obtain⟨bv,hbv⟩:∃ bv,(sv != 0)=bv:=⟨_,rfl⟩;clear hb5))
   cases bv with
   | true =>
    go_wp2_with (fail)
    go_ret
    exact⟨⟨false,rfl,fun h=>by cases h⟩,HB0.out.trans (B5.out.mono hs1.out)⟩
   | false =>
    clear hbv y0 y1 y2 y3 y4 y5 z0 z1 z2 z3 z4 z5 x0 x1 x2 x3 x4 x5 v0 v1 v2 v3 v4 v5 r0 r1 r2 r3 r4 r5 e0 e1 HFl HKc HSw HS
    go_wp2_with (fail)
    have A0:Hid (((N.take 0).map (·.id)).Nodup/\(N.take 0).all lineOk=true/\Below W0.heap.size W0 w5):=Lib.hid ⟨by simp,by simp,B5.out⟩
    go_loopw [3] (fun s3 wr=>∃ i:Nat,s3 = .int .i64 i/\i<=n3/\Hid (((N.take i).map (·.id)).Nodup/\(N.take i).all lineOk=true/\Below W0.heap.size W0 wr)) (fun s3 _=>n3 - (intOf s3).toNat)
    case atStart=>exact⟨0,rfl,Nat.zero_le _,A0⟩
    case round =>
     obtain⟨i,rfl,hi,HI⟩:=hrel
     obtain⟨wo,rfl⟩:∃ z,z=wr:=⟨_,rfl⟩
     clear A0
     obtain⟨q1,q2,q3⟩:=HI.out
     have Q1:=Lib.hid q1
     have Q2:=Lib.hid q2
     have Q3:=Lib.hid q3
     obtain⟨p0,p1,p2,p3,p4,p5⟩:=HC.out wo q3
     clear q1 q2 q3 HI p0 p1 p2 p3 p4
     by_cases hlt:i < n3
     ·have hiN:i < N.length:=by rw[<- HNl.out];exact hlt
      have HOK:=Lib.hid ((HN.out wo Q3.out).fine (N.getD i default) (getD_mem hiN))
      obtain⟨b,o,hab,hbB,hc⟩:=lineE_at (HN.out wo Q3.out) (by omega)
      rw[hab] at p5
      have HAB:=Lib.hid hab
      have HC0:Hid (∀ t,t < n3->wo.cell? ⟨b,o+t * 8,none⟩=some (.int .i64 (N.getD t default).id)):=Lib.hid (fun t ht=>(hc t ht).1)
      have HBL:Hid (b < W0.heap.size):=Lib.hid (by have:=HBw.out;have:=hs1.out;omega)
      obtain⟨g0,g1,g2,g3,g4,g5,g6,g7⟩:=hc i hlt
      have HIN:=Lib.hid hiN
      have Hall:Hid (lineOk (N.getD i default)=true->(N.take (i+1)).all lineOk=true):=Lib.hid (fun e=>by
       rw[List.take_succ_eq_append_getElem hiN,List.all_append,Q2.out]
       rw[List.getD_eq_getElem?_getD,List.getElem?_eq_getElem hiN] at e
       simpa using e)
      have HIDX:Hid (∃ z,z=(N.getD i default).id):=Lib.hid ⟨_,rfl⟩
      have HRi:=Lib.hid (fun (V:World)=>rankRight_any (N.getD i default) HOK.out.2.1 HOK.out.2.2.2.2.2.2.2 V)
      have hix0:(0:Int)<=(i:Int):=by omega
      have hix1:(i:Int) < (n3:Int):=by omega
      obtain⟨x,hx⟩:∃ x,x=N.getD i default:=⟨_,rfl⟩
      rw[<- hx] at g0 g1 g2 g3 g4 g5 g6 g7 Hall HRi
      have HXE:=Lib.hid hx
      clear hx hc hab hbB hiN HIDX HOK
      obtain⟨id,item,qty,asked,rank,st,day,code⟩:=x
      unfold LineV.val encStr at HRi
      unfold encStr at g1 g7
      simp only at HRi g0 g1 g2 g3 g4 g5 g6 g7
      cases hlo:lineOk ⟨id,item,qty,asked,rank,st,day,code⟩ with
      | false =>
       rw[hlo] at HRi
       clear hlo
       go_wp2_with (go_at_call 21;refine (HRi.out _).mono ?_;rintro e wB ⟨rfl,hbB⟩;have BB:=Lib.hid (Q3.out.trans (hbB.mono Q3.out.size));clear hbB)
       go_ret
       exact⟨⟨false,rfl,fun h=>by cases h⟩,HB0.out.trans (BB.out.mono hs1.out)⟩
      | true =>
       rw[hlo] at HRi
       have HA2:=Lib.hid (Hall.out hlo)
       clear hlo
       go_wp2_with (go_at_call 21;refine (HRi.out _).mono ?_;rintro e wB ⟨rfl,hbB⟩;have BB:=Lib.hid (Q3.out.trans (hbB.mono Q3.out.size));have BO:=Lib.hid hbB;clear hbB)
       have A1:Hid ((∀ t,t < 0->(N.getD t default).id≠(N.getD i default).id)/\Below W0.heap.size W0 wB/\Below wo.heap.size wo wB):=Lib.hid ⟨fun t ht=>absurd ht (Nat.not_lt_zero _),BB.out,BO.out⟩
       clear g0 g1 g2 g3 g4 g5 g6 g7 p5
       go_loopw [4] (fun s4 wr=>∃ j:Nat,s4 = .int .i64 j/\j<=i/\Hid ((∀ t,t < j->(N.getD t default).id≠(N.getD i default).id)/\Below W0.heap.size W0 wr/\Below wo.heap.size wo wr)) (fun s4 _=>i - (intOf s4).toNat)
       case atStart=>exact⟨0,rfl,Nat.zero_le _,A1⟩
       case round =>
        obtain⟨j,rfl,hj,HJ⟩:=hrel
        obtain⟨wi,rfl⟩:∃ z,z=wr:=⟨_,rfl⟩
        have HBi:=Lib.hid HJ.out.2.1
        have HBo:=Lib.hid HJ.out.2.2
        have HBLo:=Lib.hid (show b < wo.heap.size by have:=HBL.out;have:=Q3.out.size;omega)
        clear A1
        by_cases hjt:j < i
        ·have C0:=HC0.out j (by omega)
         have C1:=HC0.out i hlt
         obtain⟨jd,hjd⟩:∃ z,z=(N.getD j default).id:=⟨_,rfl⟩
         obtain⟨kd,hkd⟩:∃ z,z=(N.getD i default).id:=⟨_,rfl⟩
         rw[<- hjd] at C0
         rw[<- hkd] at C1
         have HJD:=Lib.hid hjd
         have HID:=Lib.hid hkd
         clear hjd hkd
         have hjx0:(0:Int)<=(j:Int):=by omega
         have hjx1:(j:Int) < (n3:Int):=by omega
         have f0:∀ x:BelowW wi,x.v.cell? ⟨b,o+j * 8,none⟩=some (.int .i64 jd):=fun x=>((HBo.out.trans (x.h.mono HBo.out.size)).cell (p:=⟨b,o+j * 8,none⟩) HBLo.out).trans C0
         have f1:∀ x:BelowW wi,x.v.cell? ⟨b,o+i * 8,none⟩=some (.int .i64 kd):=fun x=>((HBo.out.trans (x.h.mono HBo.out.size)).cell (p:=⟨b,o+i * 8,none⟩) HBLo.out).trans C1
         have f2:∀ x:BelowW wi,x.v.cell? ⟨w.heap.size,5,none⟩=some (.slice (some ⟨b,o,none⟩) n3 c3):=fun x=>((HC.out x.v (HBi.out.trans (x.h.mono HBi.out.size))).2.2.2.2.2).trans (by rw[HAB.out])
         clear C0 C1
         by_cases hE:jd=kd
         ·subst hE
          go_upto_region 11 with (fail)
          refine wp_region_below wi (by kernel_rfl) (by kernel_rfl) (Below.refl _ _) ?_
          repeat (go_big_quiet_step (fail))
          refine wpQuiet_nil ?_
          intro _ hw'
          obtain⟨y1,hw''⟩:=hw'
          subst hw''
          clear f0 f1 f2
          go_wp2_with (fail)
          go_ret
          exact⟨⟨false,rfl,fun h=>by cases h⟩,HB0.out.trans ((HBi.out.trans (y1.h.mono HBi.out.size)).mono hs1.out)⟩
         ·go_upto_region 11 with (fail)
          refine wp_region_below wi (by kernel_rfl) (by kernel_rfl) (Below.refl _ _) ?_
          repeat (go_big_quiet_step (fail))
          refine wpQuiet_nil ?_
          intro _ hw'
          obtain⟨y1,hw''⟩:=hw'
          subst hw''
          clear f0 f1 f2
          go_wp2_with (fail)
          go_roundw
          case rel=>exact⟨j+1,by go_num,by omega,Lib.hid ⟨fun t ht=>if e:t=j then by rw[e,<- HJD.out,<- HID.out];exact hE else HJ.out.1 t (by omega),HBi.out.trans (y1.h.mono HBi.out.size),HBo.out.trans (y1.h.mono HBo.out.size)⟩⟩
          case measure=>simp[intOf];omega
        ·have hji:i=j:=by omega
         have HU:=Lib.hid (ids_upL HIN.out Q1.out (by rw[hji];rw[hji] at HJ;exact HJ.out.1))
         have t1:decide ((j:Int) < (i:Int))=false:=by simp;omega
         clear hji
         go_wp2_with (fail)
         go_roundw
         case rel=>exact⟨i+1,by go_num,by omega,Lib.hid ⟨HU.out,HA2.out,HBi.out⟩⟩
         case measure=>simp[intOf];omega
     ·have hin:i=n3:=by omega
      have E:Hid (RgtS now X L N):=Lib.hid (by
       have h1:=Q1.out
       have h2:=Q2.out
       rw[List.take_of_length_le (by rw[<- HNl.out];omega)] at h1 h2
       exact⟨HNW.out,by rw[<- HXl.out];exact m1,by rw[<- HLl.out];exact m2,by rw[<- HNl.out];exact m3,HMY.out,h1,h2⟩)
      clear hin
      go_wp2_with (fail)
      go_ret
      exact⟨⟨true,rfl,fun _=>E.out⟩,HB0.out.trans (Q3.out.mono hs1.out)⟩
end Go.Proofs.YtgplnekpgdhcpaaGreat
