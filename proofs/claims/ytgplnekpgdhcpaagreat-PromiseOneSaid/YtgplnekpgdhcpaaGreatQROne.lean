/- The document's One (storemanref10): its walk. (Printed by gen/rone.py.) -/
import Derived.Test.YtgplnekpgdhcpaaGreatQPromOne
import Derived.Test.YtgplnekpgdhcpaaGreatQRightD
import Derived.Test.YtgplnekpgdhcpaaGreatQRRow
namespace Go.Proofs.YtgplnekpgdhcpaaGreat
open Go.RowKit Go.Sort Go.Lib Go.Shelf

theorem filt_succ {N:List LineV} {j:Nat} (hj:j < N.length) (id:Int):(N.take (j+1)).filter (fun x=>decide (x.id≠id))=(N.take j).filter (fun x=>decide (x.id≠id)) ++ (if (N.getD j default).id=id then [] else [N.getD j default]):=by
 rw[List.take_succ_eq_append_getElem hj,List.filter_append,List.getD_eq_getElem?_getD,List.getElem?_eq_getElem hj]
 simp only[Option.getD_some,List.filter_cons,List.filter_nil]
 by_cases h:(N[j]).id=id
 ·simp[h]
 ·simp[h]
set_option maxHeartbeats 8000000 in
set_option maxRecDepth 100000 in
theorem rOne_any (B:Nat) (now nl nx:Int) (a1:Option Addr) (n1 c1:Nat) (X:List It) (a2:Option Addr) (n2 c2:Nat) (L:List LotV) (a3:Option Addr) (n3 c3:Nat) (N:List LineV) (l:LineV) (w:World) (h:StIn B w a1 n1 c1 X a2 n2 c2 L a3 n3 c3 N) (hB:B<=w.heap.size) (hl:okLine l) (h1:n1<=5000) (_h2:n2<=5000) (h3:n3<=5000) :
  Calls Tryz.prog 12 #[.agg #[.int .i64 now,.int .i64 nl,.int .i64 nx,.slice a1 n1 c1,.slice a2 n2 c2,.slice a3 n3 c3],l.val] w fun e w'=>e = .returned (oneX (partsO X) (rowX X) lineOk L now N l).val/\Below w.heap.size w w':=by
 obtain⟨R,hR⟩:∃ R,R=oneX (partsO X) (rowX X) lineOk L now N l:=⟨_,rfl⟩
 rw[<- hR]
 unfold oneX at hR
 obtain⟨id,item,qty,asked,rank,st,day,code⟩:=l
 have Hl:=Lib.hid hl
 obtain⟨o1,o2,o3,o4,o5,o6,o7,o8⟩:=hl
 simp only at hR o1 o2 o3 o4 o5 o6 o7 o8
 obtain⟨W0,hW0⟩:∃ V,V=((w.alloc (stObj now nl nx (.slice a1 n1 c1) (.slice a2 n2 c2) (.slice a3 n3 c3))).alloc (lineObj id item qty asked rank st day code)).alloc (lineObj 0 [] 0 0 0 0 0 []):=⟨_,rfl⟩
 obtain⟨ks,kl,kz,hb0,hs0⟩:=alloc3 w (stObj now nl nx (.slice a1 n1 c1) (.slice a2 n2 c2) (.slice a3 n3 c3)) (lineObj id item qty asked rank st day code) (lineObj 0 [] 0 0 0 0 0 [])
 rw[<- hW0] at ks kl kz hb0 hs0
 have HAt:=Lib.hid (fun (V:World) (hb:Below W0.heap.size W0 V)=>(show V.heap[w.heap.size]? = some (stObj now nl nx (.slice a1 n1 c1) (.slice a2 n2 c2) (.slice a3 n3 c3))/\V.heap[w.heap.size+1]? = some (lineObj id item qty asked rank st day code)/\V.heap[w.heap.size+2]? = some (lineObj 0 [] 0 0 0 0 0 [])/\Below w.heap.size w V/\StIn B V a1 n1 c1 X a2 n2 c2 L a3 n3 c3 N/\B<=V.heap.size from by
  have hbw:=hb0.trans (hb.mono hb0.size)
  exact⟨(hb.block _ (by omega)).trans ks,(hb.block _ (by omega)).trans kl,(hb.block _ (by omega)).trans kz,hbw,h.below (hbw.mono hB),Nat.le_trans hB hbw.size⟩))
 have HRi:=Lib.hid (fun (V:World)=>rRight9_any ⟨id,item,qty,asked,rank,st,day,code⟩ o2 o8 V)
 have HR:=Lib.hid hR
 have HW0:Hid (((w.alloc (stObj now nl nx (.slice a1 n1 c1) (.slice a2 n2 c2) (.slice a3 n3 c3))).alloc (lineObj id item qty asked rank st day code)).alloc (lineObj 0 [] 0 0 0 0 0 [])=W0):=Lib.hid hW0.symm
 have Hs0:=Lib.hid hs0
 have HlN:Hid (N.length=n3):=Lib.hid h.lines.len.symm
 have HlX:=Lib.hid h.items.len
 have hle3:=h.lines.le
 have hmx3:=h.lines.mx
 obtain⟨y0,y1,y2,y3,y4,y5⟩:=stObj_cells ks
 obtain⟨l0,l1,l2,l3,l4,l5,l6,l7⟩:=lineObj_cells kl
 have hbs:w.heap.size < W0.heap.size:=by omega
 have hbl:w.heap.size+1 < W0.heap.size:=by omega
 have HO8:=Lib.hid (And.intro o2 (And.intro o3 o8))
 unfold LineV.val encStr at HRi ⊢
 simp only at HRi ⊢
 unfold lineObj stObj at HW0
 clear hR hW0 h ks kl kz hb0 hs0 o1 o2 o3 o4 o5 o6 o7 o8
 cases hri:lineOk ⟨id,item,qty,asked,rank,st,day,code⟩ with
 | false =>
  have E:Hid (R=⟨id,item,qty,asked,rank,st,day,code⟩):=Lib.hid (by rw[HR.out,if_neg (fun e=>by have e1:=e.2.1;rw[hri] at e1;cases e1)])
  rw[hri] at HRi
  clear hri
  go_enter Tryz.func12,Tryz.ntmps12
  go_upto_region 1 with (fail)
  have HW:=HW0.out
  simp only[List.toArray] at HW
  rw[HW]
  clear HW
  go_upto_region 2 with ((go_at_call 39;refine (HRi.out _).mono ?_;rintro e wB ⟨rfl,hbB⟩;have BB:=Lib.hid hbB;obtain⟨ka,kb,-⟩:=HAt.out wB hbB;obtain⟨lb0,lb1,lb2,lb3,lb4,lb5,lb6,lb7⟩:=lineObj_cells kb;obtain⟨sb0,sb1,sb2,sb3,sb4,sb5⟩:=stObj_cells ka;clear hbB kb ka))
  obtain⟨-,-,kzz,hbz,-⟩:=HAt.out wB BB.out
  obtain⟨z0,z1,z2,z3,z4,z5,z6,z7⟩:=lineObj_cells kzz
  obtain⟨fz0,fz1,fz2,fz3,fz4,fz5,fz6,fz7⟩:=line_frozen8 kzz
  have KZ:=Lib.hid kzz
  have HBZ:=Lib.hid hbz
  clear kzz hbz
  go_wp2_with (fail)
  have hput:(put8 wB (w.heap.size+2) id item qty asked rank st day code).heap[w.heap.size+2]? = some (lineObj id item qty asked rank st day code):=put8_at (KZ.out) _ _ _ _ _ _ _ _
  have hbel:Below w.heap.size w (put8 wB (w.heap.size+2) id item qty asked rank st day code):=put8_below (HBZ.out) _ _ _ _ _ _ _ _ _ (by omega)
  obtain⟨W9,hW9⟩:∃ V,V=put8 wB (w.heap.size+2) id item qty asked rank st day code:=⟨_,rfl⟩
  rw[<- hW9] at hput hbel
  unfold put8 at hW9
  rw[<- hW9]
  unfold lineObj at hput
  refine bodyPost_ret (results_cell_row (P:=Tryz.prog) (fn:=Tryz.f12) (p:=4) (ty:=29) rfl _ W9 (w.heap.size+2) 29 _ (0,0) _ rfl hput Tryz.underlying29 rfl (by kernel_rfl)) rfl ?_
  exact⟨by rw[E.out],hbel⟩
 | true =>
  by_cases hs:st=1
  ·subst hs
   by_cases hn1:now < 0
   ·have E:Hid (R=⟨id,item,qty,asked,rank,1,day,code⟩):=Lib.hid (by rw[HR.out,if_neg (fun e=>by have e1:=e.1;unfold nowOk at e1;simp at e1;omega)])
    rw[hri] at HRi
    clear hri
    go_enter Tryz.func12,Tryz.ntmps12
    go_upto_region 1 with (fail)
    have HW:=HW0.out
    simp only[List.toArray] at HW
    rw[HW]
    clear HW
    go_upto_region 2 with ((go_at_call 39;refine (HRi.out _).mono ?_;rintro e wB ⟨rfl,hbB⟩;have BB:=Lib.hid hbB;obtain⟨ka,kb,-⟩:=HAt.out wB hbB;obtain⟨lb0,lb1,lb2,lb3,lb4,lb5,lb6,lb7⟩:=lineObj_cells kb;obtain⟨sb0,sb1,sb2,sb3,sb4,sb5⟩:=stObj_cells ka;clear hbB kb ka))
    obtain⟨-,-,kzz,hbz,-⟩:=HAt.out wB BB.out
    obtain⟨z0,z1,z2,z3,z4,z5,z6,z7⟩:=lineObj_cells kzz
    obtain⟨fz0,fz1,fz2,fz3,fz4,fz5,fz6,fz7⟩:=line_frozen8 kzz
    have KZ:=Lib.hid kzz
    have HBZ:=Lib.hid hbz
    clear kzz hbz
    go_wp2_with (fail)
    have hput:(put8 wB (w.heap.size+2) id item qty asked rank 1 day code).heap[w.heap.size+2]? = some (lineObj id item qty asked rank 1 day code):=put8_at (KZ.out) _ _ _ _ _ _ _ _
    have hbel:Below w.heap.size w (put8 wB (w.heap.size+2) id item qty asked rank 1 day code):=put8_below (HBZ.out) _ _ _ _ _ _ _ _ _ (by omega)
    obtain⟨W9,hW9⟩:∃ V,V=put8 wB (w.heap.size+2) id item qty asked rank 1 day code:=⟨_,rfl⟩
    rw[<- hW9] at hput hbel
    unfold put8 at hW9
    rw[<- hW9]
    unfold lineObj at hput
    refine bodyPost_ret (results_cell_row (P:=Tryz.prog) (fn:=Tryz.f12) (p:=4) (ty:=29) rfl _ W9 (w.heap.size+2) 29 _ (0,0) _ rfl hput Tryz.underlying29 rfl (by kernel_rfl)) rfl ?_
    exact⟨by rw[E.out],hbel⟩
   ·by_cases hn2:now > 4000
    ·have E:Hid (R=⟨id,item,qty,asked,rank,1,day,code⟩):=Lib.hid (by rw[HR.out,if_neg (fun e=>by have e1:=e.1;unfold nowOk at e1;simp at e1;omega)])
     rw[hri] at HRi
     clear hri
     go_enter Tryz.func12,Tryz.ntmps12
     go_upto_region 1 with (fail)
     have HW:=HW0.out
     simp only[List.toArray] at HW
     rw[HW]
     clear HW
     go_upto_region 2 with ((go_at_call 39;refine (HRi.out _).mono ?_;rintro e wB ⟨rfl,hbB⟩;have BB:=Lib.hid hbB;obtain⟨ka,kb,-⟩:=HAt.out wB hbB;obtain⟨lb0,lb1,lb2,lb3,lb4,lb5,lb6,lb7⟩:=lineObj_cells kb;obtain⟨sb0,sb1,sb2,sb3,sb4,sb5⟩:=stObj_cells ka;clear hbB kb ka))
     obtain⟨-,-,kzz,hbz,-⟩:=HAt.out wB BB.out
     obtain⟨z0,z1,z2,z3,z4,z5,z6,z7⟩:=lineObj_cells kzz
     obtain⟨fz0,fz1,fz2,fz3,fz4,fz5,fz6,fz7⟩:=line_frozen8 kzz
     have KZ:=Lib.hid kzz
     have HBZ:=Lib.hid hbz
     clear kzz hbz
     go_wp2_with (fail)
     have hput:(put8 wB (w.heap.size+2) id item qty asked rank 1 day code).heap[w.heap.size+2]? = some (lineObj id item qty asked rank 1 day code):=put8_at (KZ.out) _ _ _ _ _ _ _ _
     have hbel:Below w.heap.size w (put8 wB (w.heap.size+2) id item qty asked rank 1 day code):=put8_below (HBZ.out) _ _ _ _ _ _ _ _ _ (by omega)
     obtain⟨W9,hW9⟩:∃ V,V=put8 wB (w.heap.size+2) id item qty asked rank 1 day code:=⟨_,rfl⟩
     rw[<- hW9] at hput hbel
     unfold put8 at hW9
     rw[<- hW9]
     unfold lineObj at hput
     refine bodyPost_ret (results_cell_row (P:=Tryz.prog) (fn:=Tryz.f12) (p:=4) (ty:=29) rfl _ W9 (w.heap.size+2) 29 _ (0,0) _ rfl hput Tryz.underlying29 rfl (by kernel_rfl)) rfl ?_
     exact⟨by rw[E.out],hbel⟩
    ·have hE:R=promL (partsO X) (rowX X) L now (wantsN (partsO X) (N.filter fun x=>decide (x.id≠id))) ⟨id,item,qty,asked,rank,1,day,code⟩:=by rw[HR.out,if_pos ⟨by unfold nowOk;simp;omega,hri,rfl⟩]
     have HE:=Lib.hid hE
     rw[hri] at HRi
     clear hri hE
     go_enter Tryz.func12,Tryz.ntmps12
     go_upto_region 1 with (fail)
     have HW:=HW0.out
     simp only[List.toArray] at HW
     rw[HW]
     clear HW
     go_upto_region 3 with ((go_at_call 39;refine (HRi.out _).mono ?_;rintro e wB ⟨rfl,hbB⟩;have BB:=Lib.hid hbB;obtain⟨ka,kb,-⟩:=HAt.out wB hbB;obtain⟨lb0,lb1,lb2,lb3,lb4,lb5,lb6,lb7⟩:=lineObj_cells kb;obtain⟨sb0,sb1,sb2,sb3,sb4,sb5⟩:=stObj_cells ka;clear hbB kb ka))
     go_wp2_with (fail)
     go_loopw [5,6] (fun s5 s6 wr=>∃ (j:Nat) (va:Option Addr) (vn vc:Nat),s5 = .slice va vn vc/\s6 = .int .i64 j/\j<=n3/\vn<=j/\Hid (vn=((N.take j).filter fun x=>decide (x.id≠id)).length)/\Hid (lineE.Own wB.heap.size wr (.slice va vn vc) ((N.take j).filter fun x=>decide (x.id≠id)))/\Hid (Below wB.heap.size wB wr)) (fun _ s6 _=>n3 - (intOf s6).toNat)
     case atStart=>exact⟨0,none,0,0,rfl,rfl,Nat.zero_le _,Nat.le_refl _,Lib.hid rfl,Lib.hid (El.Own.nil _ _ _),Lib.hid (Below.refl _ _)⟩
     case round =>
      obtain⟨j,va,vn,vc,rfl,rfl,hj,hvj,HL,HO,Hb⟩:=hrel
      obtain⟨wo,rfl⟩:∃ z,z=wr:=⟨_,rfl⟩
      have HBo:=Lib.hid (BB.out.trans (Hb.out.mono BB.out.size))
      obtain⟨so0,so1,so2,so3,so4,so5⟩:=stObj_cells (HAt.out wo HBo.out).1
      obtain⟨t0,-,-,-,-,-,-,-⟩:=lineObj_cells (HAt.out wo HBo.out).2.1
      have hszo:=HBo.out.size
      by_cases hlt:j < n3
      ·have hin:=(HAt.out wo HBo.out).2.2.2.2.1.lines
       obtain⟨b,o,rfl,hbB,hc⟩:=lineE_at hin (by omega)
       obtain⟨g0,g1,g2,g3,g4,g5,g6,g7⟩:=hc j hlt
       have hbW:b < wo.heap.size:=Nat.lt_of_lt_of_le hbB (HAt.out wo HBo.out).2.2.2.2.2
       have Hsucc:=Lib.hid (filt_succ (N:=N) (j:=j) (by rw[HlN.out];exact hlt) id)
       clear hc hin
       generalize N.getD j default=x at g0 g1 g2 g3 g4 g5 g6 g7 Hsucc
       obtain⟨x1,x2,x3,x4,x5,x6,x7,x8⟩:=x
       simp only at g0 g1 g2 g3 g4 g5 g6 g7 Hsucc
       simp only[encStr] at g1 g7
       generalize (N.take j).filter (fun x=>decide (x.id≠id))=Q at HL HO Hsucc
       have f0:∀ y:BelowW wo,y.v.cell? ⟨w.heap.size,5,none⟩=some (.slice (some ⟨b,o,none⟩) n3 c3):=fun y=>(y.h.cell (by show w.heap.size < _;omega)).trans so5
       have f1:∀ y:BelowW wo,y.v.cell? ⟨w.heap.size+1,0,none⟩=some (.int .i64 id):=fun y=>(y.h.cell (by show w.heap.size+1 < _;omega)).trans t0
       have f2:∀ y:BelowW wo,y.v.cell? ⟨b,o+j * 8,none⟩=some (.int .i64 x1):=fun y=>(y.h.cell (by show b < _;omega)).trans g0
       have hj0:(0:Int)<=(j:Int):=by omega
       have hj1:(j:Int) < (n3:Int):=by omega
       go_upto_region 7 with (fail)
       refine wp_region_below wo (by kernel_rfl) (by kernel_rfl) (Below.refl _ _) ?_
       repeat (go_big_quiet_step (fail))
       refine wpQuiet_nil ?_
       intro _ hw'
       obtain⟨y,hw''⟩:=hw'
       subst hw''
       have z5:=f0 y
       have q0:=(y.h.cell (p:=⟨b,o+j * 8,none⟩) (by show b < _;omega)).trans g0
       have q1:=(y.h.cell (p:=⟨b,o+j * 8+1,none⟩) (by show b < _;omega)).trans g1
       have q2:=(y.h.cell (p:=⟨b,o+j * 8+2,none⟩) (by show b < _;omega)).trans g2
       have q3:=(y.h.cell (p:=⟨b,o+j * 8+3,none⟩) (by show b < _;omega)).trans g3
       have q4:=(y.h.cell (p:=⟨b,o+j * 8+4,none⟩) (by show b < _;omega)).trans g4
       have q5:=(y.h.cell (p:=⟨b,o+j * 8+5,none⟩) (by show b < _;omega)).trans g5
       have q6:=(y.h.cell (p:=⟨b,o+j * 8+6,none⟩) (by show b < _;omega)).trans g6
       have q7:=(y.h.cell (p:=⟨b,o+j * 8+7,none⟩) (by show b < _;omega)).trans g7
       have HOy:=Lib.hid (HO.out.below (y.h))
       have HBy:=Lib.hid (Hb.out.trans (y.h.mono Hb.out.size))
       clear f0 f1 f2 g0 g1 g2 g3 g4 g5 g6 g7 so0 so1 so2 so3 so4 so5 t0 HO
       by_cases hid:x1=id
       ·have HS2:Hid ((N.take (j+1)).filter (fun x=>decide (x.id≠id))=Q):=Lib.hid (by rw[Hsucc.out,if_pos hid,List.append_nil])
        clear Hsucc
        go_wp2_with (fail)
        go_roundw
        case rel=>exact⟨j+1,va,vn,vc,by first | rfl | trivial,by go_num,by omega,by omega,Lib.hid (by rw[HS2.out];exact HL.out),Lib.hid (by rw[HS2.out];exact HOy.out),HBy⟩
        case measure=>simp[intOf];omega
       ·have HS2:Hid ((N.take (j+1)).filter (fun x=>decide (x.id≠id))=Q ++ [⟨x1,x2,x3,x4,x5,x6,x7,x8⟩]):=Lib.hid (by rw[Hsucc.out,if_neg hid])
        clear Hsucc
        have hOA:Hid (lineE.Own wB.heap.size (y.v.alloc (.cells #[.int .i64 x1,.string ⟨x2.toArray⟩,.int .i64 x3,.int .i64 x4,.int .i64 x5,.int .u8 x6,.int .i64 x7,.string ⟨x8.toArray⟩] 29)) (.slice va vn vc) Q):=Lib.hid (HOy.out.below (below_allocL _ _))
        have hBA:Hid (Below wB.heap.size wB (y.v.alloc (.cells #[.int .i64 x1,.string ⟨x2.toArray⟩,.int .i64 x3,.int .i64 x4,.int .i64 x5,.int .u8 x6,.int .i64 x7,.string ⟨x8.toArray⟩] 29))):=Lib.hid (HBy.out.trans ((below_allocL _ _).mono HBy.out.size))
        go_wp2_with (at_builtin;refine El.wpList_append1 lineE rfl _ _ rfl wB.heap.size (.slice va vn vc) Q ⟨x1,x2,x3,x4,x5,x6,x7,x8⟩ (vn+1) (by rw[<- HL.out]) rfl hOA.out _ 1 rfl (lineE_lit _ ⟨x1,x2,x3,x4,x5,x6,x7,x8⟩ _) hBA.out.size (by have:=HL.out;omega) ?_;intro g9 c9 w9 hown9 hg9 hgg9;have O9:=Lib.hid hown9;have B9:=Lib.hid (hBA.out.grown hg9 hBA.out.size (fun k e=>(hOA.out.ge k e).1));clear hown9 hg9 hgg9)
        go_roundw
        case rel=>exact⟨j+1,some ⟨g9,0,none⟩,vn+1,c9,by go_num,by go_num,by omega,by omega,Lib.hid (by rw[HS2.out,List.length_append,<- HL.out];rfl),Lib.hid (by rw[HS2.out];exact O9.out),B9⟩
        case measure=>simp[intOf];omega
      ·have ej:N.take j=N:=List.take_of_length_le (by rw[HlN.out];omega)
       have hO:=HO.out
       have hLn:=HL.out
       rw[ej] at hO hLn
       have HFok:Hid (∀ x∈(N.filter fun x=>decide (x.id≠id)),okLine x):=Lib.hid (fun x hx=>(HAt.out wo HBo.out).2.2.2.2.1.lines.fine x (List.mem_filter.1 hx).1)
       have HFle:Hid ((N.filter fun x=>decide (x.id≠id)).length<=5000):=Lib.hid (Nat.le_trans (List.length_filter_le _ _) (by rw[HlN.out];exact h3))
       generalize (N.filter fun x=>decide (x.id≠id))=F at hO hLn HFok HFle HE
       obtain⟨ad2,cd2,eD,hinD⟩:=hO.in_ HFok.out
       rw[<- hLn] at eD hinD
       injection eD with eD1 eD2 eD3
       subst eD1;subst eD3
       have HWn:=Lib.hid (rWants_any wo.heap.size a1 n1 c1 X va vn vc F wo ((HAt.out wo HBo.out).2.2.2.2.1.items.mono (HAt.out wo HBo.out).2.2.2.2.2) hinD (Nat.le_refl _) (by rw[<- HlX.out];omega) HFle.out)
       have HRow:=Lib.hid (fun (V:World) (hb:Below W0.heap.size W0 V)=>rRow_any B a1 n1 c1 X item V (HAt.out V hb).2.2.2.2.1.items (HAt.out V hb).2.2.2.2.2 HO8.out.1 (fun x hx=>((HAt.out V hb).2.2.2.2.1.sz x hx).2))
       clear eD2 hO hLn ej HO HL hinD
       go_upto_region 11 with (first | (go_at_call 15;refine HWn.out.mono ?_;rintro e wV ⟨⟨⟨va9,vc9,rfl,hoV⟩,hbV⟩,hVl,hVf⟩;have BV:=Lib.hid (HBo.out.trans (hbV.mono HBo.out.size));obtain⟨kv1,kv2,-⟩:=HAt.out wV BV.out;obtain⟨sv0,sv1,sv2,sv3,sv4,sv5⟩:=stObj_cells kv1;obtain⟨lv0,lv1,lv2,lv3,lv4,lv5,lv6,lv7⟩:=lineObj_cells kv2;have OV:=Lib.hid hoV;have FV:=Lib.hid (And.intro hVl hVf);have HRw:=Lib.hid (HRow.out wV BV.out);clear hoV hbV hVl hVf kv1 kv2) | (go_at_call 40;refine HRw.out.mono ?_;rintro e wR ⟨⟨ra,rc,rfl,hro⟩,hbR⟩;have BR:=Lib.hid (BV.out.trans (hbR.mono BV.out.size));have BVR:=Lib.hid hbR;have RO:=Lib.hid hro;clear hbR hro))
       obtain⟨V,hV⟩:∃ V,V=wantsN (partsO X) F:=⟨_,rfl⟩
       rw[<- hV] at OV FV HE ⊢
       obtain⟨va8,vc8,eV,hinV⟩:=OV.out.in_ FV.out.2
       injection eV with eV1 eV2 eV3
       subst eV1;subst eV3
       have HinV:=Lib.hid ((hinV.below BVR.out).mono BVR.out.size)
       have hVl:V.length<=50000000:=Nat.le_trans FV.out.1 (Nat.le_trans (Nat.mul_le_mul HFle.out (show X.length<=5000 by rw[<- HlX.out];exact h1)) (by decide))
       obtain⟨ra2,rc2,eR,hinR⟩:=RO.out.in_ (rowX_fine HO8.out.1 (fun x hx t ht=>((HAt.out wR BR.out).2.2.2.2.1.items.ok x hx).rt.fine t ht))
       injection eR with eR1 eR2 eR3
       subst eR1;subst eR3
       have HTB:Hid (∀ b o,ra=some ⟨b,o,none⟩->w.heap.size+3<=b):=Lib.hid (fun b o e=>by
        subst e
        have h1:=(RO.out.ge b rfl).1
        have h2:=BV.out.size
        have h3:=Hs0.out
        omega)
       have HRT:=Lib.hid (txE_rt hinR)
       have hrle:=hinR.le;have hrmx:=hinR.mx
       have HXF:=Lib.hid (rowX_fine HO8.out.1 (fun x hx t ht=>((HAt.out wR BR.out).2.2.2.2.1.items.ok x hx).rt.fine t ht))
       unfold promL at HE
       simp only at HE
       generalize hT:rowX X item=T at HRT HE HXF hrle hrmx ⊢
       obtain⟨m,hm⟩:∃ m,m=T.length:=⟨_,rfl⟩
       rw[<- hm] at HRT hrle ⊢
       obtain⟨vl,hvl⟩:∃ k,k=V.length:=⟨_,rfl⟩
       rw[<- hvl] at HinV hVl ⊢
       have HM:=Lib.hid hm
       have HXC:=Lib.hid (fun x hx=>((HAt.out wR BR.out).2.2.2.2.1.items.ok x hx).code)
       clear hV hinV eR2 eV2 hinR hT hm hvl RO OV FV HRw HRow HWn sv0 sv1 sv2 sv3 sv4 sv5 lv0 lv1 lv2 lv3 lv4 lv5 lv6 lv7 so0 so1 so2 so3 so4 so5 t0 lb0 lb1 lb2 lb3 lb4 lb5 lb6 lb7 sb0 sb1 sb2 sb3 sb4 sb5 y0 y1 y2 y3 y4 y5 l0 l1 l2 l3 l4 l5 l6 l7 HFok HFle
       go_wp2_with (fail)
       go_loopw [9] (fun s9 wr=>∃ j:Nat,s9 = .int .i64 j/\j<=m/\Hid (promC (partsO X) L now V ⟨id,item,qty,asked,rank,1,day,code⟩ (T.drop j)=R)/\Hid (Below wR.heap.size wR wr)) (fun s9 _=>m - (intOf s9).toNat)
       case atStart=>exact⟨0,rfl,Nat.zero_le _,Lib.hid (by rw[HE.out];rfl),Lib.hid (Below.refl _ _)⟩
       case round =>
        clear hj hvj hlt hszo Hb
        obtain⟨j,rfl,hj,HC,Hb⟩:=hrel
        obtain⟨wo,rfl⟩:∃ z,z=wr:=⟨_,rfl⟩
        have HBo:=Lib.hid (BR.out.trans (Hb.out.mono BR.out.size))
        have hszo:=HBo.out.size
        have hAo:=HAt.out wo HBo.out
        have hs1:w.heap.size < wo.heap.size:=by omega
        have hs2:w.heap.size+1 < wo.heap.size:=by omega
        by_cases hlt:j < m
        ·obtain⟨b,o,hra,hbB,hc⟩:=(HRT.out.below Hb.out).at_ (by omega)
         have hb3:=HTB.out b o hra
         subst hra
         have g0:=hc j hlt
         have hbo:b < wo.heap.size:=Nat.lt_of_lt_of_le hbB Hb.out.size
         have hcf:(T.getD j []).length<=9223372036854775807:=HXF.out _ (by rw[List.getD_eq_getElem?_getD,List.getElem?_eq_getElem (by rw[<- HM.out];exact hlt)];exact List.getElem_mem _)
         have HCn:=Lib.hid (HC.out.symm.trans (promC_at (by rw[<- HM.out];exact hlt)))
         clear hc HC HTB
         generalize T.getD j []=c at g0 hcf HCn
         simp only[encStr] at g0
         have HPj:=Lib.hid (fun (U:World) (hb:Below wo.heap.size wo U)=>rParts_any B a1 n1 c1 X c qty U (HAt.out U (HBo.out.trans (hb.mono HBo.out.size))).2.2.2.2.1.items (HAt.out U (HBo.out.trans (hb.mono HBo.out.size))).2.2.2.2.2 hcf)
         obtain⟨q0,q1,q2,q3,q4,q5⟩:=stObj_cells hAo.1
         obtain⟨l0,l1,l2,l3,l4,l5,l6,l7⟩:=lineObj_cells hAo.2.1
         clear hAo
         go_upto_region 14 with (fail)
         go_region_held3 (fun w'=>(w'.cell? ⟨w.heap.size,3,none⟩=some (.slice a1 n1 c1)/\w'.cell? ⟨w.heap.size+1,2,none⟩=some (.int .i64 qty))/\(w'.cell? ⟨b,o+j,none⟩=some (.string ⟨c.toArray⟩)/\Hid (Below wo.heap.size wo w'))) (first | exact⟨⟨by assumption,by assumption⟩,⟨by assumption,Lib.hid (below_drewP (Below.refl _ _))⟩⟩ | exact⟨⟨by assumption,by assumption⟩,⟨by assumption,by assumption⟩⟩ | go_keep | exact⟨⟨by assumption,by assumption⟩,⟨by assumption,Lib.hid (below_drewP (Hid.out (by assumption)))⟩⟩) (first | (go_at_call 41;refine (HPj.out _ (below_drewP (Below.refl _ _))).mono ?_;rintro e wP ⟨hbP,vP,rfl,hne,hoP⟩;have d0:=(hbP.cell (p:=⟨w.heap.size,3,none⟩) hs1).trans q3;have d1:=(hbP.cell (p:=⟨w.heap.size+1,2,none⟩) hs2).trans l2;have d2:=(hbP.cell (p:=⟨b,o+j,none⟩) hbo).trans g0;have HBP:Hid (Below wo.heap.size wo wP):=Lib.hid ((below_drewP (Below.refl _ _)).trans hbP);have HNE:=Lib.hid hne;have HOP:=Lib.hid hoP;clear hbP hne hoP))
         clear d0 d1 d2 q0 q1 q2 q3 q4 q5 l0 l1 l2 l3 l4 l5 l6 l7 HPj
         have hpP:=HBP.out.size
         have HBw:=Lib.hid (Hb.out.trans (HBP.out.mono Hb.out.size))
         have HBV:=Lib.hid (HBo.out.trans (HBP.out.mono HBo.out.size))
         by_cases hEp:partsE X c qty=0
         ·obtain⟨pa,pc,S,rfl,hend,hPS,hop⟩:=HOP.out hEp
          have hfn:=ps_fine hPS HXC.out
          obtain⟨pa',pc',e9,hrp⟩:=hop.rp hfn
          injection e9 with e7 e8 e9
          subst e7;subst e9
          have hSL:S.length<=50000000:=by have e1:=hPS.len;have e2:=HlX.out;omega
          have HCn2:=Lib.hid HCn.out
          rw[show partsO X c qty=some S by unfold partsO;rw[if_pos hEp];exact hend] at HCn2
          simp only at HCn2
          have hAP:=HAt.out wP HBV.out
          have HD:=Lib.hid (rDay_any wP.heap.size a2 va9 pa n2 c2 vl vc9 S.length pc L V S (max asked now) (min (now+400) 4000) wP (hAP.2.2.2.2.1.lots.mono hAP.2.2.2.2.2) ((HinV.out.below HBw.out).mono HBw.out.size) (RP.el hrp) (Nat.le_refl _) hVl hSL)
          obtain⟨q0,q1,q2,q3,q4,q5⟩:=stObj_cells hAP.1
          obtain⟨l0,l1,l2,l3,l4,l5,l6,l7⟩:=lineObj_cells hAP.2.1
          have hw4:IntKind.i64.wrap (now+400)=now+400:=wrap_in (by omega) (by omega)
          have g1:=(HBP.out.cell (p:=⟨b,o+j,none⟩) hbo).trans g0
          rw[hEp]
          clear hEp hop hrp hPS hend HOP HNE hfn hAP HCn
          cases hdx:dayX L V S (max asked now) (min (now+400) 4000) with
          | none =>
           rw[hdx] at HD HCn2
           simp only[Option.getD_none,Option.isSome_none] at HD HCn2
           clear hdx
           go_wp2_with (go_at_call 42;refine HD.out.mono ?_;rintro e wD ⟨rfl,hbD⟩;have BD:=Lib.hid (HBw.out.trans (hbD.mono HBw.out.size));clear hbD)
           go_roundw
           case rel=>exact⟨j+1,by go_num,by omega,Lib.hid HCn2.out.symm,BD⟩
           case measure=>simp[intOf];omega
          | some d =>
           rw[hdx] at HD HCn2
           simp only[Option.getD_some,Option.isSome_some] at HD HCn2
           clear hdx
           go_upto_region 18 with (go_at_call 42;refine HD.out.mono ?_;rintro e wD ⟨rfl,hbD⟩;have BD:=Lib.hid (HBV.out.trans (hbD.mono HBV.out.size));have g2:=(hbD.cell (p:=⟨b,o+j,none⟩) (by show b < _;omega)).trans g1;clear hbD)
           obtain⟨-,k2,k3,k4,-⟩:=HAt.out wD BD.out
           have A2:=Lib.hid k3
           have A3:=Lib.hid k4
           obtain⟨d0,d1,d2,d3,d4,d5,d6,d7⟩:=lineObj_cells k2
           obtain⟨z0,z1,z2,z3,z4,z5,z6,z7⟩:=lineObj_cells k3
           obtain⟨fl0,fl1,fl2,fl3,fl4,fl5,fl6,fl7⟩:=line_frozen8 k2
           obtain⟨fz0,fz1,fz2,fz3,fz4,fz5,fz6,fz7⟩:=line_frozen8 k3
           have hneq:w.heap.size+1≠w.heap.size+2:=by omega
           have g3:(wD.setCell ⟨w.heap.size+1,6,none⟩ (.int .i64 d)).cell? ⟨b,o+j,none⟩=some (.string ⟨c.toArray⟩):=by
            unfold World.cell?
            rw[setCell_block _ _ _ _ (by show b≠_;omega)]
            exact g2
           have E:Hid (R=⟨id,item,qty,asked,rank,1,d,c⟩):=HCn2
           clear q0 q1 q2 q3 q4 q5 l0 l1 l2 l3 l4 l5 l6 l7 k2 k3 k4 g0 g1 HCn2
           go_wp2_with (fail)
           have hput:(put8 ((wD.setCell ⟨w.heap.size+1,6,none⟩ (.int .i64 d)).setCell ⟨w.heap.size+1,7,none⟩ (.string ⟨c.toArray⟩)) (w.heap.size+2) id item qty asked rank 1 d c).heap[w.heap.size+2]? = some (lineObj id item qty asked rank 1 d c):=put8_at (by rw[setCell_block _ _ _ _ (by omega),setCell_block _ _ _ _ (by omega)];exact A2.out) _ _ _ _ _ _ _ _
           have hbel:Below w.heap.size w (put8 ((wD.setCell ⟨w.heap.size+1,6,none⟩ (.int .i64 d)).setCell ⟨w.heap.size+1,7,none⟩ (.string ⟨c.toArray⟩)) (w.heap.size+2) id item qty asked rank 1 d c):=put8_below (below_set (below_set A3.out _ _ _ (by omega)) _ _ _ (by omega)) _ _ _ _ _ _ _ _ _ (by omega)
           obtain⟨W9,hW9⟩:∃ V,V=put8 ((wD.setCell ⟨w.heap.size+1,6,none⟩ (.int .i64 d)).setCell ⟨w.heap.size+1,7,none⟩ (.string ⟨c.toArray⟩)) (w.heap.size+2) id item qty asked rank 1 d c:=⟨_,rfl⟩
           rw[<- hW9] at hput hbel
           unfold put8 at hW9
           rw[<- hW9]
           unfold lineObj at hput
           refine bodyPost_ret (results_cell_row (P:=Tryz.prog) (fn:=Tryz.f12) (p:=4) (ty:=29) rfl _ W9 (w.heap.size+2) 29 _ (0,0) _ rfl hput Tryz.underlying29 rfl (by kernel_rfl)) rfl ?_
           exact⟨by rw[E.out],hbel⟩
         ·have hv:=HNE.out hEp
          subst hv
          have HCn2:=Lib.hid HCn.out
          rw[show partsO X c qty=none by unfold partsO;rw[if_neg hEp]] at HCn2
          simp only at HCn2
          clear HOP HNE HCn
          generalize partsE X c qty=er at hEp
          go_wp2_with (fail)
          go_roundw
          case rel=>exact⟨j+1,by go_num,by omega,Lib.hid HCn2.out.symm,HBw⟩
          case measure=>simp[intOf];omega
        ·have ejm:j=m:=by omega
         have E:Hid (R=⟨id,item,qty,asked,rank,1,-1,[]⟩):=Lib.hid (by rw[<- HC.out,ejm,HM.out,List.drop_length];rfl)
         obtain⟨-,k2,k3,k4,-⟩:=hAo
         have A2:=Lib.hid k3
         have A3:=Lib.hid k4
         obtain⟨d0,d1,d2,d3,d4,d5,d6,d7⟩:=lineObj_cells k2
         obtain⟨z0,z1,z2,z3,z4,z5,z6,z7⟩:=lineObj_cells k3
         obtain⟨fl0,fl1,fl2,fl3,fl4,fl5,fl6,fl7⟩:=line_frozen8 k2
         obtain⟨fz0,fz1,fz2,fz3,fz4,fz5,fz6,fz7⟩:=line_frozen8 k3
         have hneq:w.heap.size+1≠w.heap.size+2:=by omega
         clear k2 k3 k4 HC ejm
         go_wp2_with (fail)
         have hput:(put8 ((wo.setCell ⟨w.heap.size+1,6,none⟩ (.int .i64 (-1))).setCell ⟨w.heap.size+1,7,none⟩ (.string ⟨#[]⟩)) (w.heap.size+2) id item qty asked rank 1 (-1) []).heap[w.heap.size+2]? = some (lineObj id item qty asked rank 1 (-1) []):=put8_at (by rw[setCell_block _ _ _ _ (by omega),setCell_block _ _ _ _ (by omega)];exact A2.out) _ _ _ _ _ _ _ _
         have hbel:Below w.heap.size w (put8 ((wo.setCell ⟨w.heap.size+1,6,none⟩ (.int .i64 (-1))).setCell ⟨w.heap.size+1,7,none⟩ (.string ⟨#[]⟩)) (w.heap.size+2) id item qty asked rank 1 (-1) []):=put8_below (below_set (below_set A3.out _ _ _ (by omega)) _ _ _ (by omega)) _ _ _ _ _ _ _ _ _ (by omega)
         obtain⟨W9,hW9⟩:∃ V,V=put8 ((wo.setCell ⟨w.heap.size+1,6,none⟩ (.int .i64 (-1))).setCell ⟨w.heap.size+1,7,none⟩ (.string ⟨#[]⟩)) (w.heap.size+2) id item qty asked rank 1 (-1) []:=⟨_,rfl⟩
         rw[<- hW9] at hput hbel
         unfold put8 at hW9
         rw[<- hW9]
         unfold lineObj at hput
         refine bodyPost_ret (results_cell_row (P:=Tryz.prog) (fn:=Tryz.f12) (p:=4) (ty:=29) rfl _ W9 (w.heap.size+2) 29 _ (0,0) _ rfl hput Tryz.underlying29 rfl (by kernel_rfl)) rfl ?_
         exact⟨by rw[E.out],hbel⟩
  ·have E:Hid (R=⟨id,item,qty,asked,rank,st,day,code⟩):=Lib.hid (by rw[HR.out,if_neg (fun e=>hs e.2.2)])
   rw[hri] at HRi
   clear hri
   go_enter Tryz.func12,Tryz.ntmps12
   go_upto_region 1 with (fail)
   have HW:=HW0.out
   simp only[List.toArray] at HW
   rw[HW]
   clear HW
   go_upto_region 2 with ((go_at_call 39;refine (HRi.out _).mono ?_;rintro e wB ⟨rfl,hbB⟩;have BB:=Lib.hid hbB;obtain⟨ka,kb,-⟩:=HAt.out wB hbB;obtain⟨lb0,lb1,lb2,lb3,lb4,lb5,lb6,lb7⟩:=lineObj_cells kb;obtain⟨sb0,sb1,sb2,sb3,sb4,sb5⟩:=stObj_cells ka;clear hbB kb ka))
   obtain⟨-,-,kzz,hbz,-⟩:=HAt.out wB BB.out
   obtain⟨z0,z1,z2,z3,z4,z5,z6,z7⟩:=lineObj_cells kzz
   obtain⟨fz0,fz1,fz2,fz3,fz4,fz5,fz6,fz7⟩:=line_frozen8 kzz
   have KZ:=Lib.hid kzz
   have HBZ:=Lib.hid hbz
   clear kzz hbz
   go_wp2_with (fail)
   have hput:(put8 wB (w.heap.size+2) id item qty asked rank st day code).heap[w.heap.size+2]? = some (lineObj id item qty asked rank st day code):=put8_at (KZ.out) _ _ _ _ _ _ _ _
   have hbel:Below w.heap.size w (put8 wB (w.heap.size+2) id item qty asked rank st day code):=put8_below (HBZ.out) _ _ _ _ _ _ _ _ _ (by omega)
   obtain⟨W9,hW9⟩:∃ V,V=put8 wB (w.heap.size+2) id item qty asked rank st day code:=⟨_,rfl⟩
   rw[<- hW9] at hput hbel
   unfold put8 at hW9
   rw[<- hW9]
   unfold lineObj at hput
   refine bodyPost_ret (results_cell_row (P:=Tryz.prog) (fn:=Tryz.f12) (p:=4) (ty:=29) rfl _ W9 (w.heap.size+2) 29 _ (0,0) _ rfl hput Tryz.underlying29 rfl (by kernel_rfl)) rfl ?_
   exact⟨by rw[E.out],hbel⟩
end Go.Proofs.YtgplnekpgdhcpaaGreat
