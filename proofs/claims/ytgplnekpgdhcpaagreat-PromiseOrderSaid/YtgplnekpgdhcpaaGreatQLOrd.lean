/- PromiseOrder: its walk. (Printed by gen/lord.py.) -/
import Derived.Test.YtgplnekpgdhcpaaGreatQAhead
namespace Go.Proofs.YtgplnekpgdhcpaaGreat
open Go.RowKit Go.Sort Go.Lib Go.Shelf
theorem drewN_belowO (w:World) (q:Nat):Below w.heap.size w (w.drewN q):=by
 refine⟨?_,?_,?_,?_,fun k _=>?_⟩ <;> simp[World.drewN]
theorem eqLine_selfO (x_id:Int) (x_item:List UInt8) (x_qty:Int) (x_asked:Int) (x_rank:Int) (x_st:Int) (x_day:Int) (x_code:List UInt8) (w:World):(Op.equalIn 10000 29 (.agg #[.int .i64 x_id,.string ⟨x_item.toArray⟩,.int .i64 x_qty,.int .i64 x_asked,.int .i64 x_rank,.int .u8 x_st,.int .i64 x_day,.string ⟨x_code.toArray⟩]) (.agg #[.int .i64 x_id,.string ⟨x_item.toArray⟩,.int .i64 x_qty,.int .i64 x_asked,.int .i64 x_rank,.int .u8 x_st,.int .i64 x_day,.string ⟨x_code.toArray⟩])).run Tryz.prog w = .ok true w:=eqLine_self x_id x_item x_qty x_asked x_rank x_st x_day x_code w
theorem reset_ok {x:LineV} (h:okLine x):okLine { x with day:=-1,code:=[] }:=by
 obtain⟨o1,o2,o3,o4,o5,o6,o7,o8⟩:=h
 exact⟨o1,o2,o3,o4,o5,o6,⟨by show (-9223372036854775808:Int)<=-1;decide,by show (-1:Int)<=9223372036854775807;decide⟩,Nat.zero_le _⟩
set_option maxHeartbeats 16000000 in
set_option maxRecDepth 100000 in
theorem PromiseOrder_any (B:Nat) (now nl nx:Int) (a1:Option Addr) (n1 c1:Nat) (X:List It) (a2:Option Addr) (n2 c2:Nat) (L:List LotV) (a3:Option Addr) (n3 c3:Nat) (N:List LineV) (w:World) (hX:RI B w a1 n1 c1 X) (hL:lotE.In B w a2 n2 c2 L) (hN:lineE.In B w a3 n3 c3 N) (hsz:∀ x∈X,x.ps.length * 24<=140737488355328/\x.os.length * 16<=140737488355328) (hB:B<=w.heap.size) :
  Calls Tryz.prog 7 #[.agg #[.int .i64 now,.int .i64 nl,.int .i64 nx,.slice a1 n1 c1,.slice a2 n2 c2,.slice a3 n3 c3]] w fun e w'=>e = .returned (.bool true)/\Below w.heap.size w w':=by
 obtain⟨W0,hW0⟩:∃ V,V=w.alloc (stObj now nl nx (.slice a1 n1 c1) (.slice a2 n2 c2) (.slice a3 n3 c3)):=⟨_,rfl⟩
 have hB0:Below w.heap.size w W0:=by rw[hW0];exact below_allocL _ _
 have hp0:W0.heap[w.heap.size]? = some (stObj now nl nx (.slice a1 n1 c1) (.slice a2 n2 c2) (.slice a3 n3 c3)):=by rw[hW0];exact heap_alloc_new _ _
 have hs0:w.heap.size < W0.heap.size:=(Array.getElem?_eq_some_iff.1 hp0).1
 have HC:=Lib.hid (fun (V:World) (hb:Below W0.heap.size W0 V)=>stObj_cells ((hb.block w.heap.size hs0).trans hp0))
 have HA:=Lib.hid (awake_any W0)
 have HRg:=Lib.hid (fun (V:World) (hb:Below W0.heap.size W0 V)=>lRight_any B now nl nx a1 n1 c1 X a2 n2 c2 L a3 n3 c3 N V (hX.below ((hB0.trans (hb.mono (by omega))).mono hB)) (hL.below ((hB0.trans (hb.mono (by omega))).mono hB)) (hN.below ((hB0.trans (hb.mono (by omega))).mono hB)) hsz (Nat.le_trans hB (hB0.trans (hb.mono (by omega))).size))
 have HX:=Lib.hid hX
 have HL:=Lib.hid hL
 have HN:=Lib.hid hN
 have HB0:=Lib.hid hB0
 have HBw:=Lib.hid hB
 have hs1:=Lib.hid (show w.heap.size<=W0.heap.size by omega)
 have HW0:Hid (w.alloc (stObj now nl nx (.slice a1 n1 c1) (.slice a2 n2 c2) (.slice a3 n3 c3))=W0):=Lib.hid hW0.symm
 have HSZ:=Lib.hid hsz
 have hle3:=hN.le
 have hmx3:=hN.mx
 unfold stObj at HW0
 clear hX hL hN hsz hB hB0 hp0 hW0 hs0
 go_enter Tryz.func7,Tryz.ntmps7
 go_upto_region 1 with (fail)
 have HW:=HW0.out
 simp only[List.toArray] at HW
 rw[HW]
 clear HW
 go_upto_if 12 with (first | (go_at_call 8;refine HA.out.mono ?_;rintro e w1 ⟨rfl,hb1⟩;obtain⟨y0,y1,y2,y3,y4,y5⟩:=HC.out w1 hb1;have B1:=Lib.hid hb1;clear hb1) | (go_at_call 20;refine (HRg.out _ B1.out).mono ?_;rintro e w2 ⟨⟨bb,rfl,hbb⟩,hb2⟩;have B2:=Lib.hid (B1.out.trans (hb2.mono B1.out.size));have RB:=Lib.hid hbb;obtain⟨z0,z1,z2,z3,z4,z5⟩:=HC.out w2 B2.out;clear hbb hb2))
 clear y0 y1 y2 y3 y4 y5 HRg HA
 cases bb with
 | false =>
  go_wp2_with (fail)
  go_ret
  exact⟨rfl,HB0.out.trans (B2.out.mono hs1.out)⟩
 | true =>
  have RG:=Lib.hid (RB.out rfl)
  clear RB
  have m1:n1<=12:=by rw[HX.out.len];exact RG.out.nX
  have m2:n2<=12:=by rw[HL.out.len];exact RG.out.nL
  have m3:n3<=12:=by rw[HN.out.len];exact RG.out.nN
  have HST:=Lib.hid (fun (V:World) (hb:Below W0.heap.size W0 V)=>(show StIn B V a1 n1 c1 X a2 n2 c2 L a3 n3 c3 N from
   have hwV:=HB0.out.trans (hb.mono hs1.out)
   ⟨HX.out.below (hwV.mono HBw.out),HL.out.below (hwV.mono HBw.out),HN.out.below (hwV.mono HBw.out),by omega,by omega,by omega,HSZ.out⟩))
  have HBV:=Lib.hid (fun (V:World) (hb:Below W0.heap.size W0 V)=>Nat.le_trans HBw.out (HB0.out.trans (hb.mono hs1.out)).size)
  have HAll:=Lib.hid (fun (V:World) (hb:Below W0.heap.size W0 V)=>all_any B now nl nx a1 n1 c1 X a2 n2 c2 L a3 n3 c3 N V (HST.out V hb) (HBV.out V hb) (by omega) (by omega) (by omega))
  have hS:=ordS RG.out (fun x hx=>(HX.out.ok x hx).code)
  obtain⟨Z,hZ⟩:∃ Z,Z=allX (partsO X) (rowX X) lineOk L now N:=⟨_,rfl⟩
  obtain⟨P,hP⟩:∃ P,P=openP (partsO X) (rowX X) L now N:=⟨_,rfl⟩
  rw[<- hZ,<- hP] at hS
  rw[<- hZ] at HAll
  have S:=Lib.hid hS
  have HZF:=Lib.hid (hS.fine HN.out.fine)
  have HZL:Hid (n3=Z.length):=Lib.hid (by rw[hS.len];exact HN.out.len)
  unfold AlP at HAll
  rw[<- HZL.out] at HAll
  have HPL:Hid (P.length<=12):=Lib.hid (by have:=hS.small;have:=HN.out.len;omega)
  clear hS hZ hP
  go_upto_region 6 with (go_at_call 18;refine (HAll.out _ B2.out).mono ?_;rintro e w3 ⟨⟨az,cz,rfl,ho3⟩,hb3⟩;have B3:=Lib.hid (B2.out.trans (hb3.mono B2.out.size));have O3:=Lib.hid ho3;obtain⟨x0,x1,x2,x3,x4,x5⟩:=HC.out w3 B3.out;clear ho3 hb3)
  clear z0 z1 z2 z3 z4 z5
  have INz:Hid (lineE.In w3.heap.size w3 az n3 cz Z):=Lib.hid (by obtain⟨a7,c7,e7,h7⟩:=O3.out.in_ HZF.out;rw[<- HZL.out] at e7 h7;obtain⟨e1,-,e3⟩:=Value.slice.inj e7;subst e1;subst e3;exact h7)
  have hlez:=INz.out.le
  have hmxz:=INz.out.mx
  have HC3:=Lib.hid (fun (V:World) (hb:Below w3.heap.size w3 V)=>HC.out V (B3.out.trans (hb.mono B3.out.size)))
  have HST3:=Lib.hid (fun (V:World) (hb:Below w3.heap.size w3 V)=>HST.out V (B3.out.trans (hb.mono B3.out.size)))
  have HBV3:=Lib.hid (fun (V:World) (hb:Below w3.heap.size w3 V)=>HBV.out V (B3.out.trans (hb.mono B3.out.size)))
  have HWn:=Lib.hid (fun (V:World) (hb:Below w3.heap.size w3 V)=>Wants_any V.heap.size a1 n1 c1 X az n3 cz Z V ((HST3.out V hb).items.mono (HBV3.out V hb)) ((INz.out.below hb).mono hb.size) (Nat.le_refl _) (by rw[<- (HST3.out V hb).items.len];omega) (by rw[<- HZL.out];omega))
  obtain⟨Q,hQ⟩:∃ Q,Q=wantsN (partsO X) Z:=⟨_,rfl⟩
  have HFit:Hid ((fillX L Q).isSome=true):=Lib.hid (by rw[hQ];exact S.out.fits)
  rw[<- hQ] at HWn
  unfold WnP at HWn
  obtain⟨ql,hql⟩:∃ n,n=Q.length:=⟨_,rfl⟩
  rw[<- hql] at HWn
  have HQL:=Lib.hid hql
  clear hQ hql
  go_region_held3 (fun w'=>(w'.cell? ⟨w.heap.size,0,none⟩=some (.int .i64 now))/\(w'.cell? ⟨w.heap.size,1,none⟩=some (.int .i64 nl))/\(w'.cell? ⟨w.heap.size,2,none⟩=some (.int .i64 nx))/\(w'.cell? ⟨w.heap.size,3,none⟩=some (.slice a1 n1 c1))/\(w'.cell? ⟨w.heap.size,4,none⟩=some (.slice a2 n2 c2))/\(w'.cell? ⟨w.heap.size,5,none⟩=some (.slice a3 n3 c3))/\Hid (Below w3.heap.size w3 w')) (first | exact⟨by assumption,by assumption,by assumption,by assumption,by assumption,by assumption,Lib.hid (below_drewP (Below.refl _ _))⟩ | exact⟨by assumption,by assumption,by assumption,by assumption,by assumption,by assumption,by assumption⟩ | go_keep | exact⟨by assumption,by assumption,by assumption,by assumption,by assumption,by assumption,Lib.hid (below_drewP (Hid.out (by assumption)))⟩) (first | (go_at_call 14;refine (HWn.out _ (below_drewP (Below.refl _ _))).mono ?_;rintro e wa ⟨⟨⟨qa,qc,rfl,ho⟩,hb⟩,-,hfq⟩;have Ba:Hid (Below w3.heap.size w3 wa):=Lib.hid ((below_drewP (Below.refl _ _)).trans hb);have OQ:=Lib.hid ho;have FQ:=Lib.hid hfq;obtain⟨x0,x1,x2,x3,x4,x5⟩:=HC3.out wa Ba.out;clear hb ho hfq) | (go_at_call 22;refine ((by obtain⟨a7,c7,e7,h7⟩:=OQ.out.in_ FQ.out;rw[<- HQL.out] at e7 h7;obtain⟨e1,-,e3⟩:=Value.slice.inj e7;subst e1;subst e3;exact fits_any wa.heap.size a2 qa n2 c2 ql qc L Q wa ((HST3.out wa Ba.out).lots.mono (HBV3.out wa Ba.out)) h7 (Nat.le_refl _) (by omega):Calls Tryz.prog 22 #[.slice a2 n2 c2,.slice qa ql qc] wa fun e w'=>e = .returned (.bool (fillX L Q).isSome)/\Below wa.heap.size wa w')).mono ?_;rintro e wb ⟨rfl,hb⟩;rw[HFit.out];have Bb:Hid (Below w3.heap.size w3 wb):=Lib.hid (Ba.out.trans (hb.mono Ba.out.size));obtain⟨x0,x1,x2,x3,x4,x5⟩:=HC3.out wb Bb.out;clear hb))
  obtain⟨W4,hW4⟩:∃ V,V=wb.alloc (.cells #[.int .i64 now,.int .i64 nl,.int .i64 nx,.slice a1 n1 c1,.slice a2 n2 c2,.slice az n3 cz] 26):=⟨_,rfl⟩
  have bW4:Below wb.heap.size wb W4:=by rw[hW4];exact below_allocL _ _
  have B4:Hid (Below w3.heap.size w3 W4):=Lib.hid (Bb.out.trans (bW4.mono Bb.out.size))
  have HW4:=Lib.hid hW4
  have q4:W4.heap[wb.heap.size]? = some (stObj now nl nx (.slice a1 n1 c1) (.slice a2 n2 c2) (.slice az n3 cz)):=by rw[hW4];exact heap_alloc_new _ _
  obtain⟨k0,k1,k2,k3,k4,k5⟩:=stObj_cells q4
  obtain⟨x0,x1,x2,x3,x4,x5⟩:=HC3.out wb Bb.out
  have HAl2:=Lib.hid (fun (V:World) (hb:Below w3.heap.size w3 V)=>all_any V.heap.size now nl nx a1 n1 c1 X a2 n2 c2 L az n3 cz Z V ⟨(HST3.out V hb).items.mono (HBV3.out V hb),(HST3.out V hb).lots.mono (HBV3.out V hb),(INz.out.below hb).mono hb.size,by omega,by omega,by omega,HSZ.out⟩ (Nat.le_refl _) (by omega) (by omega) (by omega))
  rw[S.out.again] at HAl2
  unfold AlP at HAl2
  rw[<- HZL.out] at HAl2
  clear hW4 bW4 q4
  go_upto_region 10 with (fail)
  rw[<- HW4.out]
  clear x0 x1 x2 x3 x4 x5
  go_upto_region 12 with (first | (go_at_call 18;refine (HAl2.out _ B4.out).mono ?_;rintro e w5 ⟨⟨ay,cy,rfl,ho5⟩,hb5⟩;have B5:Hid (Below w3.heap.size w3 w5):=Lib.hid (B4.out.trans (hb5.mono B4.out.size));have O5:=Lib.hid ho5;clear ho5 hb5) | (go_at_call 17;refine ((by obtain⟨a7,c7,e7,h7⟩:=O5.out.in_ HZF.out;rw[<- HZL.out] at e7 h7;obtain⟨e1,-,e3⟩:=Value.slice.inj e7;subst e1;subst e3;exact SameLines_any _ _ _ _ _ _ _ _ _ _ w5 h7 (INz.out.below B5.out):Calls Tryz.prog 17 #[.slice ay n3 cy,.slice az n3 cz] w5 fun e w'=>e = .returned (.bool (decide (Z=Z)))/\∃ q,w'=w5.drewN q)).mono ?_;rintro e w6 ⟨rfl,qe,rfl⟩;rw[decide_eq_true (rfl:Z=Z)]))
  obtain⟨W6,hW6⟩:∃ V,V=w5.drewN qe:=⟨_,rfl⟩
  have B6:Hid (Below w3.heap.size w3 W6):=Lib.hid (by rw[hW6];exact B5.out.trans ((drewN_belowO w5 qe).mono B5.out.size))
  rw[<- hW6]
  clear hW6 k0 k1 k2 k3 k4 k5
  have HOp:=Lib.hid (open_any W6.heap.size az n3 cz Z W6 ((INz.out.below B6.out).mono B6.out.size) (Nat.le_refl _) (by omega))
  have hln:(Z.filter keepR).length=P.length:=by rw[<- S.out.opn];exact ((openX_perm Z).length_eq).symm
  rw[hln] at HOp
  obtain⟨pl,hpl⟩:∃ n,n=P.length:=⟨_,rfl⟩
  rw[<- hpl] at HOp HPL
  have hp12:=HPL.out
  have HPN:=Lib.hid hpl
  have HPF:Hid (∀ x∈P,okLine x):=Lib.hid (fun x hx=>by rw[<- S.out.opn] at hx;exact HZF.out x (List.mem_filter.1 ((openX_perm Z).mem_iff.1 hx)).1)
  clear hln hpl
  go_wp2_with (go_at_call 26;refine HOp.out.mono ?_;rintro e w7 ⟨⟨pa,pc,Y,rfl,ho7,hpY,hsY⟩,hb7⟩;have EY:Y=P:=(openX_only S.out.ids hpY hsY).trans S.out.opn;subst EY;have B7:Hid (Below w3.heap.size w3 w7):=Lib.hid (B6.out.trans (hb7.mono B6.out.size));have O7:=Lib.hid ho7;clear ho7 hb7 hpY hsY)
  have INp:Hid (lineE.In w7.heap.size w7 pa pl pc Y):=Lib.hid (by obtain⟨a7,c7,e7,h7⟩:=O7.out.in_ HPF.out;rw[<- HPN.out] at e7 h7;obtain⟨e1,-,e3⟩:=Value.slice.inj e7;subst e1;subst e3;exact h7)
  have hlep:=INp.out.le
  have hmxp:=INp.out.mx
  have A0:Hid (Below w7.heap.size w7 w7):=Lib.hid (Below.refl _ _)
  go_loopw [6] (fun s6 wr=>∃ i:Nat,s6 = .int .i64 i/\i<=pl/\Hid (Below w7.heap.size w7 wr)) (fun s6 _=>pl - (intOf s6).toNat)
  case atStart=>exact⟨0,rfl,Nat.zero_le _,A0⟩
  case round =>
   obtain⟨i,rfl,hi,HI⟩:=hrel
   obtain⟨wo,rfl⟩:∃ z,z=wr:=⟨_,rfl⟩
   clear A0
   have B8:Hid (Below w3.heap.size w3 wo):=Lib.hid (B7.out.trans (HI.out.mono B7.out.size))
   by_cases hlt:i < pl
   ·have hiY:i < Y.length:=by rw[<- HPN.out];exact hlt
    obtain⟨b,o,rfl,hbB,hc⟩:=lineE_at (INp.out.below HI.out) (by omega)
    have hone:=S.out.each i hiY
    have hxf:=HPF.out _ (getD_mem hiY)
    have hgi:(openX Z).getD i default=Y.getD i default:=by rw[S.out.opn]
    obtain⟨g0,g1,g2,g3,g4,g5,g6,g7⟩:=hc i hlt
    generalize Y.getD i default=x at g0 g1 g2 g3 g4 g5 g6 g7 hone hxf hgi
    obtain⟨id,item,qty,asked,rank,st,day,code⟩:=x
    unfold encStr at g1 g7
    simp only at g0 g1 g2 g3 g4 g5 g6 g7 hone
    have HXF:=Lib.hid hxf
    have HONE:=Lib.hid hone
    have HGI:=Lib.hid hgi
    have hix0:(0:Int)<=(i:Int):=by omega
    have hix1:(i:Int) < (pl:Int):=by omega
    have hix2:(i:Int)<=(pc:Int):=by omega
    have hix3:(i:Int)<=(pl:Int):=by omega
    have HG:=Lib.hid (fun (V:World) (hb:Below wo.heap.size wo V)=>(show V.cell? ⟨b,o+i * 8,none⟩=some (.int .i64 id)/\V.cell? ⟨b,o+i * 8+1,none⟩=some (.string ⟨item.toArray⟩)/\V.cell? ⟨b,o+i * 8+2,none⟩=some (.int .i64 qty)/\V.cell? ⟨b,o+i * 8+3,none⟩=some (.int .i64 asked)/\V.cell? ⟨b,o+i * 8+4,none⟩=some (.int .i64 rank)/\V.cell? ⟨b,o+i * 8+5,none⟩=some (.int .u8 st)/\V.cell? ⟨b,o+i * 8+6,none⟩=some (.int .i64 day)/\V.cell? ⟨b,o+i * 8+7,none⟩=some (.string ⟨code.toArray⟩) from 
     have hbo:b < wo.heap.size:=Nat.lt_of_lt_of_le hbB HI.out.size
     ⟨(hb.cell (p:=⟨b,o+i * 8,none⟩) hbo).trans g0,(hb.cell (p:=⟨b,o+i * 8+1,none⟩) hbo).trans g1,(hb.cell (p:=⟨b,o+i * 8+2,none⟩) hbo).trans g2,(hb.cell (p:=⟨b,o+i * 8+3,none⟩) hbo).trans g3,(hb.cell (p:=⟨b,o+i * 8+4,none⟩) hbo).trans g4,(hb.cell (p:=⟨b,o+i * 8+5,none⟩) hbo).trans g5,(hb.cell (p:=⟨b,o+i * 8+6,none⟩) hbo).trans g6,(hb.cell (p:=⟨b,o+i * 8+7,none⟩) hbo).trans g7⟩))
    have HC8:=Lib.hid (fun (V:World) (hb:Below wo.heap.size wo V)=>HC3.out V (B8.out.trans (hb.mono B8.out.size)))
    have HLO:=Lib.hid (fun (V:World) (hb:Below wo.heap.size wo V)=>lOpen_any V.heap.size now nl nx a1 n1 c1 a2 n2 c2 a3 n3 c3 (some ⟨b,o,none⟩) i pc (Y.take i) id item qty asked rank st day code V ((((INp.out.below HI.out).take i hi).mono HI.out.size).below hb |>.mono hb.size) (Nat.le_refl _) (by omega))
    have HIN8:=Lib.hid (fun (V:World) (hb:Below wo.heap.size wo V)=>(show RI V.heap.size V a1 n1 c1 X/\lotE.In V.heap.size V a2 n2 c2 L from ⟨(HST3.out V (B8.out.trans (hb.mono B8.out.size))).items.mono (HBV3.out V (B8.out.trans (hb.mono B8.out.size))),(HST3.out V (B8.out.trans (hb.mono B8.out.size))).lots.mono (HBV3.out V (B8.out.trans (hb.mono B8.out.size)))⟩))
    have HYF:Hid (∀ x∈Y.take i ++ [⟨id,item,qty,asked,rank,st,-1,[]⟩],okLine x):=Lib.hid (fun x hx=>by
     rcases List.mem_append.1 hx with hx | hx
     ·exact HPF.out x (List.mem_of_mem_take hx)
     ·rw[List.mem_singleton.1 hx];exact reset_ok HXF.out)
    have HYL:Hid ((Y.take i ++ [(⟨id,item,qty,asked,rank,st,-1,[]⟩:LineV)]).length=i+1):=Lib.hid (by rw[List.length_append,List.length_take,List.length_singleton];have:=HPN.out;omega)
    have heq:=eqLine_selfO id item qty asked rank st day code
    obtain⟨x0,x1,x2,x3,x4,x5⟩:=HC8.out wo (Below.refl _ _)
    clear hc hone hxf hgi hiY
    go_upto_region 16 with (fail)
    go_region_held3 (fun w'=>(w'.cell? ⟨w.heap.size,0,none⟩=some (.int .i64 now))/\(w'.cell? ⟨w.heap.size,1,none⟩=some (.int .i64 nl))/\(w'.cell? ⟨w.heap.size,2,none⟩=some (.int .i64 nx))/\(w'.cell? ⟨w.heap.size,3,none⟩=some (.slice a1 n1 c1))/\(w'.cell? ⟨w.heap.size,4,none⟩=some (.slice a2 n2 c2))/\(w'.cell? ⟨w.heap.size,5,none⟩=some (.slice a3 n3 c3))/\(w'.cell? ⟨b,o+i * 8,none⟩=some (.int .i64 id))/\(w'.cell? ⟨b,o+i * 8+1,none⟩=some (.string ⟨item.toArray⟩))/\(w'.cell? ⟨b,o+i * 8+2,none⟩=some (.int .i64 qty))/\(w'.cell? ⟨b,o+i * 8+3,none⟩=some (.int .i64 asked))/\(w'.cell? ⟨b,o+i * 8+4,none⟩=some (.int .i64 rank))/\(w'.cell? ⟨b,o+i * 8+5,none⟩=some (.int .u8 st))/\(w'.cell? ⟨b,o+i * 8+6,none⟩=some (.int .i64 day))/\(w'.cell? ⟨b,o+i * 8+7,none⟩=some (.string ⟨code.toArray⟩))/\Hid (Below wo.heap.size wo w')) (first | exact⟨by assumption,by assumption,by assumption,by assumption,by assumption,by assumption,by assumption,by assumption,by assumption,by assumption,by assumption,by assumption,by assumption,by assumption,Lib.hid (below_drewP (Below.refl _ _))⟩ | exact⟨by assumption,by assumption,by assumption,by assumption,by assumption,by assumption,by assumption,by assumption,by assumption,by assumption,by assumption,by assumption,by assumption,by assumption,by assumption⟩ | go_keep | exact⟨by assumption,by assumption,by assumption,by assumption,by assumption,by assumption,by assumption,by assumption,by assumption,by assumption,by assumption,by assumption,by assumption,by assumption,Lib.hid (below_drewP (Hid.out (by assumption)))⟩) (first | (go_at_call 28;refine (HLO.out _ (below_drewP (Below.refl _ _))).mono ?_;rintro e wa ⟨⟨ta,tc,rfl,hoT⟩,hb⟩;have Ba:Hid (Below wo.heap.size wo wa):=Lib.hid ((below_drewP (Below.refl _ _)).trans hb);have OT:=Lib.hid hoT;obtain⟨x0,x1,x2,x3,x4,x5⟩:=HC8.out wa Ba.out;obtain⟨g0,g1,g2,g3,g4,g5,g6,g7⟩:=HG.out wa Ba.out;clear hb hoT) | (go_at_call 11;refine ((by obtain⟨a7,c7,e7,h7⟩:=OT.out.in_ HYF.out;rw[HYL.out] at e7 h7;obtain⟨e1,-,e3⟩:=Value.slice.inj e7;subst e1;subst e3;have:=one_any wa.heap.size now nl nx a1 n1 c1 X a2 n2 c2 L ta (i+1) tc _ ⟨id,item,qty,asked,rank,st,day,code⟩ wa ⟨(HIN8.out wa Ba.out).1,(HIN8.out wa Ba.out).2,h7,by omega,by omega,by omega,HSZ.out⟩ (Nat.le_refl _) HXF.out (by omega) (by omega) (by omega);rw[HONE.out] at this;exact this:Calls Tryz.prog 11 #[.agg #[.int .i64 now,.int .i64 nl,.int .i64 nx,.slice a1 n1 c1,.slice a2 n2 c2,.slice ta (i+1) tc],.agg #[.int .i64 id,.string ⟨item.toArray⟩,.int .i64 qty,.int .i64 asked,.int .i64 rank,.int .u8 st,.int .i64 day,.string ⟨code.toArray⟩]] wa fun e w'=>e = .returned (.agg #[.int .i64 id,.string ⟨item.toArray⟩,.int .i64 qty,.int .i64 asked,.int .i64 rank,.int .u8 st,.int .i64 day,.string ⟨code.toArray⟩])/\Below wa.heap.size wa w')).mono ?_;rintro e wb2 ⟨rfl,hb⟩;have Bc:Hid (Below wo.heap.size wo wb2):=Lib.hid (Ba.out.trans (hb.mono Ba.out.size));obtain⟨x0,x1,x2,x3,x4,x5⟩:=HC8.out wb2 Bc.out;obtain⟨g0,g1,g2,g3,g4,g5,g6,g7⟩:=HG.out wb2 Bc.out;clear hb))
    obtain⟨g0,g1,g2,g3,g4,g5,g6,g7⟩:=HG.out wb2 Bc.out
    have HAh:=Lib.hid (fun (V:World) (hb:Below wo.heap.size wo V)=>Ahead_any V.heap.size az n3 cz Z i id V ((INz.out.below (B8.out.trans (hb.mono B8.out.size))).mono (B8.out.trans (hb.mono B8.out.size)).size) (Nat.le_refl _) (by omega) S.out.ids (by rw[S.out.opn,<- HPN.out];exact hlt) (by rw[HGI.out]))
    rw[S.out.opn] at HAh
    clear heq x0 x1 x2 x3 x4 x5
    go_wp2_with (first | (go_at_call 29;refine (HAh.out _ Bc.out).mono ?_;rintro e wd ⟨⟨ga,rfl,hin9⟩,hb⟩;have Bd:Hid (Below wo.heap.size wo wd):=Lib.hid (Bc.out.trans (hb.mono Bc.out.size));have IN9:=Lib.hid hin9;clear hb hin9) | (go_at_call 17;refine (SameLines_any _ _ _ _ _ _ _ _ (Y.take i) (Y.take i) wd IN9.out (((INp.out.below HI.out).take i hi).below (Bd.out.mono HI.out.size))).mono ?_;rintro e we ⟨rfl,qe,rfl⟩;rw[decide_eq_true (rfl:Y.take i=Y.take i)]))
    go_roundw
    case rel=>exact⟨i+1,by go_num,by omega,Lib.hid (HI.out.trans ((Bd.out.trans ((drewN_belowO wd qe).mono Bd.out.size)).mono HI.out.size))⟩
    case measure=>simp[intOf];omega
   ·have t9:decide ((i:Int) < (pl:Int))=false:=by simp;omega
    go_wp2_with (fail)
    go_ret
    exact⟨rfl,HB0.out.trans ((B3.out.trans (B8.out.mono B3.out.size)).mono hs1.out)⟩
end Go.Proofs.YtgplnekpgdhcpaaGreat
