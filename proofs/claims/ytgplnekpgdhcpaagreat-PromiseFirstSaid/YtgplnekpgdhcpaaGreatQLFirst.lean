/- PromiseFirst: its walk. (Printed by gen/lfirst.py.) -/
import Derived.Test.YtgplnekpgdhcpaaGreatQLFirstC
import Derived.Test.YtgplnekpgdhcpaaGreatKChkOne
namespace Go.Proofs.YtgplnekpgdhcpaaGreat
open Go.RowKit Go.Sort Go.Lib Go.Shelf
theorem filter_yes {N:List LineV} {k:Int} {i:Nat} (hi:i < N.length) (h:(N.getD i default).id≠k):(N.take (i+1)).filter (fun x=>decide (x.id≠k))=(N.take i).filter (fun x=>decide (x.id≠k)) ++ [N.getD i default]:=by
 rw[List.getD_eq_getElem?_getD,List.getElem?_eq_getElem hi] at h ⊢
 simp only[Option.getD_some] at h ⊢
 rw[List.take_succ_eq_append_getElem hi,List.filter_append,List.filter_cons,if_pos (by simpa using h)]
 rfl
theorem filter_no {N:List LineV} {k:Int} {i:Nat} (hi:i < N.length) (h:(N.getD i default).id=k):(N.take (i+1)).filter (fun x=>decide (x.id≠k))=(N.take i).filter (fun x=>decide (x.id≠k)):=by
 rw[List.getD_eq_getElem?_getD,List.getElem?_eq_getElem hi] at h
 simp only[Option.getD_some] at h
 rw[List.take_succ_eq_append_getElem hi,List.filter_append,List.filter_cons,if_neg (by simpa using h)]
 simp
set_option maxHeartbeats 16000000 in
set_option maxRecDepth 100000 in
theorem PromiseFirst_any (B:Nat) (now nl nx:Int) (a1:Option Addr) (n1 c1:Nat) (X:List It) (a2:Option Addr) (n2 c2:Nat) (L:List LotV) (a3:Option Addr) (n3 c3:Nat) (N:List LineV) (l:LineV) (dd pp:Int) (w:World) (hX:RI B w a1 n1 c1 X) (hL:lotE.In B w a2 n2 c2 L) (hN:lineE.In B w a3 n3 c3 N) (hsz:∀ x∈X,x.ps.length * 24<=140737488355328/\x.os.length * 16<=140737488355328) (hB:B<=w.heap.size) (hl:okLine l) (hdd:-9223372036854775808<=dd/\dd<=9223372036854775807) (hpp:-9223372036854775808<=pp/\pp<=9223372036854775807) :
  Calls Tryz.prog 5 #[.agg #[.int .i64 now,.int .i64 nl,.int .i64 nx,.slice a1 n1 c1,.slice a2 n2 c2,.slice a3 n3 c3],l.val,.int .i64 dd,.int .i64 pp] w fun e w'=>e = .returned (.bool true)/\Below w.heap.size w w':=by
 have HOL:=Lib.hid hl
 obtain⟨id,item,qty,asked,rank,st,day,code⟩:=l
 obtain⟨W0,hW0⟩:∃ V,V=(w.alloc (stObj now nl nx (.slice a1 n1 c1) (.slice a2 n2 c2) (.slice a3 n3 c3))).alloc (lineObj id item qty asked rank st day code):=⟨_,rfl⟩
 have s1:=World.size_alloc w (stObj now nl nx (.slice a1 n1 c1) (.slice a2 n2 c2) (.slice a3 n3 c3))
 have hbb:=below_allocL w (stObj now nl nx (.slice a1 n1 c1) (.slice a2 n2 c2) (.slice a3 n3 c3))
 have hbc:=below_allocL (w.alloc (stObj now nl nx (.slice a1 n1 c1) (.slice a2 n2 c2) (.slice a3 n3 c3))) (lineObj id item qty asked rank st day code)
 have hB0:Below w.heap.size w W0:=by rw[hW0];exact hbb.trans (hbc.mono hbb.size)
 have hp0:W0.heap[w.heap.size]? = some (stObj now nl nx (.slice a1 n1 c1) (.slice a2 n2 c2) (.slice a3 n3 c3)):=by rw[hW0,hbc.block _ (by omega)];exact heap_alloc_new _ _
 have hq0:W0.heap[w.heap.size+1]? = some (lineObj id item qty asked rank st day code):=by rw[hW0,<- s1];exact heap_alloc_new _ _
 have hs0:w.heap.size+1 < W0.heap.size:=(Array.getElem?_eq_some_iff.1 hq0).1
 have HC:=Lib.hid (fun (V:World) (hb:Below W0.heap.size W0 V)=>(And.intro (stObj_cells ((hb.block w.heap.size (by omega)).trans hp0)) (lineObj_cells ((hb.block (w.heap.size+1) hs0).trans hq0))))
 have HPQ:=Lib.hid (fun (V:World) (hb:Below W0.heap.size W0 V)=>(And.intro ((hb.block w.heap.size (by omega)).trans hp0) ((hb.block (w.heap.size+1) hs0).trans hq0)))
 have HA:=Lib.hid (awake_any W0)
 have hs1:w.heap.size<=W0.heap.size:=by omega
 have HRg:=Lib.hid (fun (V:World) (hb:Below W0.heap.size W0 V)=>lRight_any B now nl nx a1 n1 c1 X a2 n2 c2 L a3 n3 c3 N V (hX.below ((hB0.trans (hb.mono hs1)).mono hB)) (hL.below ((hB0.trans (hb.mono hs1)).mono hB)) (hN.below ((hB0.trans (hb.mono hs1)).mono hB)) hsz (Nat.le_trans hB (hB0.trans (hb.mono hs1)).size))
 have HIN:=Lib.hid (fun (V:World) (hb:Below W0.heap.size W0 V)=>(show RI V.heap.size V a1 n1 c1 X/\lotE.In V.heap.size V a2 n2 c2 L/\lineE.In V.heap.size V a3 n3 c3 N/\lineE.In B V a3 n3 c3 N from
  have hz:=Nat.le_trans hB (hB0.trans (hb.mono hs1)).size
  ⟨(hX.below ((hB0.trans (hb.mono hs1)).mono hB)).mono hz,(hL.below ((hB0.trans (hb.mono hs1)).mono hB)).mono hz,(hN.below ((hB0.trans (hb.mono hs1)).mono hB)).mono hz,hN.below ((hB0.trans (hb.mono hs1)).mono hB)⟩))
 have HRl:=Lib.hid (fun (V:World)=>rankRight_any ⟨id,item,qty,asked,rank,st,day,code⟩ hl.2.1 hl.2.2.2.2.2.2.2 V)
 have HNL:=Lib.hid hN.len
 have HXc:=Lib.hid (fun (x:It) (hx:x∈X)=>(hX.ok x hx).code)
 have HB0:=Lib.hid hB0
 have HW0:Hid ((w.alloc (stObj now nl nx (.slice a1 n1 c1) (.slice a2 n2 c2) (.slice a3 n3 c3))).alloc (lineObj id item qty asked rank st day code)=W0):=Lib.hid hW0.symm
 have HSZ:=Lib.hid hsz
 have HNF:=Lib.hid hN.fine
 have hle3:=hN.le
 have hmx3:=hN.mx
 have hXL:=Lib.hid hX.len
 have hLL:=Lib.hid hL.len
 have HBB:=Lib.hid hB
 obtain⟨⟨y0,y1,y2,y3,y4,y5⟩,⟨l0,l1,l2,l3,l4,l5,l6,l7⟩⟩:=HC.out W0 (Below.refl _ _)
 have HS1:=Lib.hid hs1
 have HS0:=Lib.hid hs0
 unfold lineObj stObj at HW0
 unfold LineV.val encStr at HRl ⊢
 simp only at HRl ⊢
 clear hX hL hN hsz hB0 hp0 hq0 hW0 hs0 s1 hbb hbc hl hB
 cases hlo:lineOk ⟨id,item,qty,asked,rank,st,day,code⟩ with
 | false =>
  rw[hlo] at HRl
  clear hlo
  go_enter Tryz.func5,Tryz.ntmps5
  go_upto_region 1 with (fail)
  have HW:=HW0.out
  simp only[List.toArray] at HW
  rw[HW]
  clear HW
  go_wp2_with (first | (go_at_call 8;refine HA.out.mono ?_;rintro e w1 ⟨rfl,hb1⟩;obtain⟨⟨x0,x1,x2,x3,x4,x5⟩,-⟩:=HC.out w1 hb1;have B1:=Lib.hid hb1;clear hb1) | (go_at_call 20;refine (HRg.out _ B1.out).mono ?_;rintro e w2 ⟨⟨bb,rfl,hbb⟩,hb2⟩;have B2:=Lib.hid (B1.out.trans (hb2.mono B1.out.size));have RB:=Lib.hid hbb;obtain⟨⟨z0,z1,z2,z3,z4,z5⟩,⟨k0,k1,k2,k3,k4,k5,k6,k7⟩⟩:=HC.out w2 B2.out;clear hbb hb2;cases bb) | (go_at_call 21;refine (HRl.out _).mono ?_;rintro e w3 ⟨rfl,hb3⟩;have B3:=Lib.hid (B2.out.trans (hb3.mono B2.out.size));obtain⟨⟨v0,v1,v2,v3,v4,v5⟩,⟨u0,u1,u2,u3,u4,u5,u6,u7⟩⟩:=HC.out w3 B3.out;clear hb3))
  all_goals go_ret
  all_goals first | exact⟨rfl,HB0.out.trans (B3.out.mono hs1)⟩ | exact⟨rfl,HB0.out.trans (B2.out.mono hs1)⟩
 | true =>
  have HLO:=Lib.hid hlo
  rw[hlo] at HRl
  clear hlo
  by_cases hst:¬ st=1
  ·have e1:(st != 1)=true:=by simp[hst]
   clear hst
   go_enter Tryz.func5,Tryz.ntmps5
   go_upto_region 1 with (fail)
   have HW:=HW0.out
   simp only[List.toArray] at HW
   rw[HW]
   clear HW
   go_wp2_with (first | (go_at_call 8;refine HA.out.mono ?_;rintro e w1 ⟨rfl,hb1⟩;obtain⟨⟨x0,x1,x2,x3,x4,x5⟩,-⟩:=HC.out w1 hb1;have B1:=Lib.hid hb1;clear hb1) | (go_at_call 20;refine (HRg.out _ B1.out).mono ?_;rintro e w2 ⟨⟨bb,rfl,hbb⟩,hb2⟩;have B2:=Lib.hid (B1.out.trans (hb2.mono B1.out.size));have RB:=Lib.hid hbb;obtain⟨⟨z0,z1,z2,z3,z4,z5⟩,⟨k0,k1,k2,k3,k4,k5,k6,k7⟩⟩:=HC.out w2 B2.out;clear hbb hb2;cases bb) | (go_at_call 21;refine (HRl.out _).mono ?_;rintro e w3 ⟨rfl,hb3⟩;have B3:=Lib.hid (B2.out.trans (hb3.mono B2.out.size));obtain⟨⟨v0,v1,v2,v3,v4,v5⟩,⟨u0,u1,u2,u3,u4,u5,u6,u7⟩⟩:=HC.out w3 B3.out;clear hb3))
   all_goals go_ret
   all_goals first | exact⟨rfl,HB0.out.trans (B3.out.mono hs1)⟩ | exact⟨rfl,HB0.out.trans (B2.out.mono hs1)⟩
  have hst1:st=1:=Classical.not_not.1 hst
  clear hst
  subst hst1
  go_enter Tryz.func5,Tryz.ntmps5
  go_upto_region 1 with (fail)
  have HW:=HW0.out
  simp only[List.toArray] at HW
  rw[HW]
  clear HW
  go_upto_region 5 with (first | (go_at_call 8;refine HA.out.mono ?_;rintro e w1 ⟨rfl,hb1⟩;obtain⟨⟨x0,x1,x2,x3,x4,x5⟩,-⟩:=HC.out w1 hb1;have B1:=Lib.hid hb1;clear hb1) | (go_at_call 20;refine (HRg.out _ B1.out).mono ?_;rintro e w2 ⟨⟨bb,rfl,hbb⟩,hb2⟩;have B2:=Lib.hid (B1.out.trans (hb2.mono B1.out.size));have RB:=Lib.hid hbb;obtain⟨⟨z0,z1,z2,z3,z4,z5⟩,⟨k0,k1,k2,k3,k4,k5,k6,k7⟩⟩:=HC.out w2 B2.out;clear hbb hb2;cases bb) | (go_at_call 21;refine (HRl.out _).mono ?_;rintro e w3 ⟨rfl,hb3⟩;have B3:=Lib.hid (B2.out.trans (hb3.mono B2.out.size));obtain⟨⟨v0,v1,v2,v3,v4,v5⟩,⟨u0,u1,u2,u3,u4,u5,u6,u7⟩⟩:=HC.out w3 B3.out;clear hb3))
  ·go_wp2_with (fail)
   go_ret
   exact⟨rfl,HB0.out.trans (B2.out.mono hs1)⟩
  have RG:=Lib.hid (RB.out (by first | rfl | trivial))
  have m1:n1<=12:=by rw[hXL.out];exact RG.out.nX
  have m2:n2<=12:=by rw[hLL.out];exact RG.out.nL
  have m3:n3<=12:=by rw[HNL.out];exact RG.out.nN
  have hF:=firS (L:=L) RG.out HXc.out HLO.out rfl HOL.out
  have HO1:=Lib.hid (fun (V:World) (hb:Below W0.heap.size W0 V)=>one_any V.heap.size now nl nx a1 n1 c1 X a2 n2 c2 L a3 n3 c3 N ⟨id,item,qty,asked,rank,1,day,code⟩ V ⟨(HIN.out V hb).1,(HIN.out V hb).2.1,(HIN.out V hb).2.2.1,by omega,by omega,by omega,HSZ.out⟩ (Nat.le_refl _) HOL.out (by omega) (by omega) (by omega))
  obtain⟨R,hR⟩:∃ R,R=oneX (partsO X) (rowX X) lineOk L now N ⟨id,item,qty,asked,rank,1,day,code⟩:=⟨_,rfl⟩
  rw[<- hR] at hF HO1
  obtain⟨xid,xitem,xqty,xasked,xrank,xst,xday,xcode⟩:=R
  unfold LineV.val encStr at HO1
  simp only at HO1
  have HF:=Lib.hid hF
  clear hF hR x0 x1 x2 x3 x4 x5 z0 z1 z2 z3 z4 z5 k0 k1 k2 k3 k4 k5 k6 k7 y0 y1 y2 y3 y4 y5 l0 l1 l2 l3 l4 l5 l6 l7
  go_upto_region 6 with (go_at_call 11;refine (HO1.out _ B3.out).mono ?_;rintro e w4 ⟨rfl,hb4⟩;have B4:=Lib.hid (B3.out.trans (hb4.mono B3.out.size));clear hb4)
  obtain⟨W5,hW5⟩:∃ V,V=w4.alloc (lineObj xid xitem xqty xasked xrank xst xday xcode):=⟨_,rfl⟩
  have bW5:Below w4.heap.size w4 W5:=by rw[hW5];exact below_allocL _ _
  have q5:W5.heap[w4.heap.size]? = some (lineObj xid xitem xqty xasked xrank xst xday xcode):=by rw[hW5];exact heap_alloc_new _ _
  have B5:=Lib.hid (B4.out.trans (bW5.mono B4.out.size))
  have HW5:=Lib.hid (show w4.alloc (lineObj xid xitem xqty xasked xrank xst xday xcode)=W5 from hW5.symm)
  obtain⟨xb,hxb⟩:∃ t,t=w4.heap.size:=⟨_,rfl⟩
  have hl5:Hid (xb < W5.heap.size):=Lib.hid (by rw[hxb];exact (Array.getElem?_eq_some_iff.1 q5).1)
  rw[<- hxb] at q5
  have Q5:=Lib.hid q5
  have HXB:=Lib.hid hxb
  unfold lineObj at HW5
  have HW:=HW5.out
  simp only[List.toArray] at HW
  rw[HW,<- hxb]
  clear HW hW5 bW5 q5 hxb v0 v1 v2 v3 v4 v5 u0 u1 u2 u3 u4 u5 u6 u7
  go_wp2_with (fail)
  have A0:Hid (∃ Y:List LineV,lineE.Own W5.heap.size W5 (.slice none 0 0) Y/\Y=(N.take 0).filter (fun x=>decide (x.id≠id))/\0=Y.length/\Below W5.heap.size W5 W5):=Lib.hid ⟨[],El.Own.nil _ _ _,by simp,rfl,Below.refl _ _⟩
  go_loopw [10,11] (fun s10 s11 wr=>∃ (i:Nat) (va:Option Addr) (vn vc:Nat),s10 = .slice va vn vc/\s11 = .int .i64 i/\i<=n3/\Hid (∃ Y:List LineV,lineE.Own W5.heap.size wr (.slice va vn vc) Y/\Y=(N.take i).filter (fun x=>decide (x.id≠id))/\vn=Y.length/\Below W5.heap.size W5 wr)) (fun _ s11 _=>n3 - (intOf s11).toNat)
  case atStart=>exact⟨0,none,0,0,rfl,rfl,Nat.zero_le _,A0⟩
  case round =>
   obtain⟨i,va,vn,vc,rfl,rfl,hi,HI⟩:=hrel
   obtain⟨wo,rfl⟩:∃ z,z=wr:=⟨_,rfl⟩
   clear A0
   obtain⟨Y,hY1,hY2,hY3,hY4⟩:=HI.out
   have O1:=Lib.hid hY1
   have OY:=Lib.hid hY2
   have OL:=Lib.hid hY3
   have BW:=Lib.hid hY4
   have BO:=Lib.hid (B5.out.trans (hY4.mono B5.out.size))
   clear hY1 hY2 hY3 hY4 HI
   obtain⟨⟨-,-,-,-,-,y5⟩,-⟩:=HC.out wo BO.out
   by_cases hlt:i < n3
   ·have hiN:i < N.length:=by rw[<- HNL.out];exact hlt
    obtain⟨b,o,rfl,hbB,hc⟩:=lineE_at (HIN.out wo BO.out).2.2.2 (by omega)
    have hbw:b < wo.heap.size:=by have:=HBB.out;have:=BO.out.size;omega
    obtain⟨g0,g1,g2,g3,g4,g5,g6,g7⟩:=hc i hlt
    have hyes:=filter_yes (k:=id) hiN
    have hno:=filter_no (k:=id) hiN
    have hfin:=HNF.out _ (getD_mem hiN)
    generalize N.getD i default=z at g0 g1 g2 g3 g4 g5 g6 g7 hyes hno hfin
    obtain⟨zid,zitem,zqty,zasked,zrank,zst,zday,zcode⟩:=z
    unfold encStr at g1 g7
    simp only at g0 g1 g2 g3 g4 g5 g6 g7 hyes hno
    have HYES:=Lib.hid hyes
    have HNO:=Lib.hid hno
    have HFIN:=Lib.hid hfin
    have hix0:(0:Int)<=(i:Int):=by omega
    have hix1:(i:Int) < (n3:Int):=by omega
    have HG:=Lib.hid (fun (U:World) (hb:Below wo.heap.size wo U)=>(show U.cell? ⟨b,o+i * 8,none⟩=some (.int .i64 zid)/\U.cell? ⟨b,o+i * 8+1,none⟩=some (.string ⟨zitem.toArray⟩)/\U.cell? ⟨b,o+i * 8+2,none⟩=some (.int .i64 zqty)/\U.cell? ⟨b,o+i * 8+3,none⟩=some (.int .i64 zasked)/\U.cell? ⟨b,o+i * 8+4,none⟩=some (.int .i64 zrank)/\U.cell? ⟨b,o+i * 8+5,none⟩=some (.int .u8 zst)/\U.cell? ⟨b,o+i * 8+6,none⟩=some (.int .i64 zday)/\U.cell? ⟨b,o+i * 8+7,none⟩=some (.string ⟨zcode.toArray⟩) from ⟨(hb.cell (p:=⟨b,o+i * 8,none⟩) hbw).trans g0,(hb.cell (p:=⟨b,o+i * 8+1,none⟩) hbw).trans g1,(hb.cell (p:=⟨b,o+i * 8+2,none⟩) hbw).trans g2,(hb.cell (p:=⟨b,o+i * 8+3,none⟩) hbw).trans g3,(hb.cell (p:=⟨b,o+i * 8+4,none⟩) hbw).trans g4,(hb.cell (p:=⟨b,o+i * 8+5,none⟩) hbw).trans g5,(hb.cell (p:=⟨b,o+i * 8+6,none⟩) hbw).trans g6,(hb.cell (p:=⟨b,o+i * 8+7,none⟩) hbw).trans g7⟩))
    have f0:∀ z:BelowW wo,z.v.cell? ⟨w.heap.size,5,none⟩=some (.slice (some ⟨b,o,none⟩) n3 c3):=fun z=>(HC.out z.v (BO.out.trans (z.h.mono BO.out.size))).1.2.2.2.2.2
    have f1:∀ z:BelowW wo,z.v.cell? ⟨b,o+i * 8,none⟩=some (.int .i64 zid):=fun z=>(HG.out z.v z.h).1
    have f2:∀ z:BelowW wo,z.v.cell? ⟨w.heap.size+1,0,none⟩=some (.int .i64 id):=fun z=>(HC.out z.v (BO.out.trans (z.h.mono BO.out.size))).2.1
    clear hc hyes hno hfin hiN g0 g1 g2 g3 g4 g5 g6 g7
    by_cases hE:zid=id
    ·have e2:(zid != id)=false:=by simp[hE]
     have HE:=Lib.hid hE
     clear hE
     go_upto_region 10 with (fail)
     refine wp_region_below (wo) (by kernel_rfl) (by kernel_rfl) (Below.refl _ _) ?_
     repeat (go_big_quiet_step (fail))
     refine wpQuiet_nil ?_
     intro _ hw'
     obtain⟨y9,hw''⟩:=hw'
     subst hw''
     clear f0 f1 f2
     go_wp2_with (fail)
     go_roundw
     case rel=>exact⟨i+1,va,vn,vc,rfl,by go_num,by omega,Lib.hid ⟨Y,O1.out.below ((y9.h).mono (Nat.le_refl _)),by rw[OY.out,HNO.out HE.out],OL.out,BW.out.trans (y9.h.mono BW.out.size)⟩⟩
     case measure=>simp[intOf];omega
    ·have e2:(zid != id)=true:=by simp[hE]
     have HE:=Lib.hid hE
     clear hE
     go_upto_region 10 with (fail)
     refine wp_region_below (wo) (by kernel_rfl) (by kernel_rfl) (Below.refl _ _) ?_
     repeat (go_big_quiet_step (fail))
     refine wpQuiet_nil ?_
     intro _ hw'
     obtain⟨y9,hw''⟩:=hw'
     subst hw''
     clear f0 f1 f2 y5
     obtain⟨⟨-,-,-,-,-,y5⟩,-⟩:=HC.out y9.v (BO.out.trans (y9.h.mono BO.out.size))
     obtain⟨g0,g1,g2,g3,g4,g5,g6,g7⟩:=HG.out y9.v y9.h
     have hlY:Y.length<=12:=by rw[OY.out];exact Nat.le_trans (List.length_filter_le _ _) (Nat.le_trans (by rw[List.length_take];omega) m3)
     have HB9:=Lib.hid (BW.out.trans (y9.h.mono BW.out.size))
     have O2:=Lib.hid (O1.out.below (y9.h.trans ((below_allocL y9.v (lineObj zid zitem zqty zasked zrank zst zday zcode)).mono y9.h.size)))
     have HSRC:=Lib.hid (lineE_lit y9.v ⟨zid,zitem,zqty,zasked,zrank,zst,zday,zcode⟩ 29)
     have BA9:=Lib.hid (HB9.out.trans ((below_allocL y9.v (lineObj zid zitem zqty zasked zrank zst zday zcode)).mono HB9.out.size))
     go_wp2_with (at_builtin;refine El.wpList_append1 lineE rfl _ _ rfl W5.heap.size (.slice va vn vc) Y (⟨zid,zitem,zqty,zasked,zrank,zst,zday,zcode⟩:LineV) (vn+1) (by rw[OL.out]) rfl O2.out _ _ rfl HSRC.out BA9.out.size (by omega) ?_;intro g9 c9 w9 hown9 hg9 hr9;have O9:=Lib.hid hown9;have B9:=Lib.hid (BA9.out.grown hg9 BA9.out.size (fun r e=>(O2.out.ge r e).1));clear hown9 hg9 hr9)
     go_roundw
     case rel=>exact⟨i+1,_,_,_,rfl,by go_num,by omega,Lib.hid ⟨Y ++ [(⟨zid,zitem,zqty,zasked,zrank,zst,zday,zcode⟩:LineV)],O9.out,by rw[HYES.out HE.out,OY.out],by rw[List.length_append,List.length_singleton,OL.out],B9.out⟩⟩
     case measure=>simp[intOf];omega
   ·have hin:i=n3:=by omega
    have t1:decide ((i:Int) < (n3:Int))=false:=by simp;omega
    have hYF:Y=N.filter (fun x=>decide (x.id≠id)):=by rw[OY.out,List.take_of_length_le (by rw[hin,HNL.out];exact Nat.le_refl _)]
    have hlY:vn<=12:=by rw[OL.out,OY.out];exact Nat.le_trans (List.length_filter_le _ _) (Nat.le_trans (by rw[List.length_take];omega) m3)
    have hOin:lineE.In wo.heap.size wo va vn vc Y:=by
     obtain⟨a7,c7,e7,h7⟩:=O1.out.in_ (fun x hx=>by rw[OY.out] at hx;exact HNF.out x (List.mem_of_mem_take (List.mem_filter.1 hx).1))
     rw[<- OL.out] at e7 h7
     obtain⟨e1,-,e3⟩:=Value.slice.inj e7
     subst e1
     subst e3
     exact h7
    have hFY:=HF.out
    try simp only at hFY
    rw[<- hYF] at hFY
    have hii:=HIN.out wo BO.out
    have HEND:=Lib.hid (lfirst_c now nl nx a1 n1 c1 X a2 n2 c2 L a3 n3 c3 w.heap.size (w.heap.size+1) xb id item qty asked rank 1 day code xid xitem xqty xasked xrank xst xday xcode wo (fun e w'=>e = .returned (.bool true)/\Below w.heap.size w w') hii.1 hii.2.1 m1 m2 HSZ.out (HPQ.out wo BO.out).1 (HPQ.out wo BO.out).2 ((BW.out.block xb hl5.out).trans Q5.out) va vn vc Y hOin hlY hFY dd pp hdd hpp (fun w' hb=>⟨rfl,HB0.out.trans ((BO.out.trans (hb.mono BO.out.size)).mono hs1)⟩))
    clear hin hYF hlY hOin hFY hii
    go_upto_region 8 with (fail)
    iterate 25 go_step
    exact HEND.out _ _ _ _ _ _ _ _ _ _ _ _ _ _ _ _ _ _ _ _ _ _ _ _ _ _ _ _ _ _ _ _ _ _ _ _ _ _ _ _ _ _ _ _ _ _ _ _ _ _ _ _ _ _ _ _ _ _ _ _ _ _ _ _ _ _ _ _ _ _ _ _ _ _ _ _ _ _ _ _ _ _ _ _ _ _ _ _ _ _ _ _ _ _ _ _ _ _ _ _ _ _ _ _ _ _ _ _ _ _ _ _ _ _ _ _ _ _ _ _ _ _ _ _ _ _ _ _ _ _ _ _ _ _ _ _ _ _ _ _ _ _ _ _ _ _ _ _ _ _ _ _ _ _ _ _ _ _ _ _ _ _ _ _ _ _ _ _ _ _ _ _ _ _ _ _ _ _ _ _ _ _ _ _ _ _ _ _ _ _ _ _ _ _ _ _ _ _ _ _ _ _ _ _ _ _ _ _ _ _ _ _ _ _ _
end Go.Proofs.YtgplnekpgdhcpaaGreat
