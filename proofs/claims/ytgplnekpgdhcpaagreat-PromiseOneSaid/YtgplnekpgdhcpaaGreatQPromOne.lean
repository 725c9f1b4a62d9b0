/- promise.One: its walk. (Printed by gen/pone.py.) -/
import Derived.Test.YtgplnekpgdhcpaaGreatQPromT
import Derived.Test.YtgplnekpgdhcpaaGreatSteps
import Derived.Test.YtgplnekpgdhcpaaGreatQWant
import Derived.Test.YtgplnekpgdhcpaaGreatQTwSt
namespace Go.Proofs.YtgplnekpgdhcpaaGreat
open Go.RowKit Go.Sort Go.Lib Go.Shelf

theorem alloc3 (w:World) (A C D:Obj):(((w.alloc A).alloc C).alloc D).heap[w.heap.size]? = some A/\(((w.alloc A).alloc C).alloc D).heap[w.heap.size+1]? = some C/\(((w.alloc A).alloc C).alloc D).heap[w.heap.size+2]? = some D/\Below w.heap.size w (((w.alloc A).alloc C).alloc D)/\(((w.alloc A).alloc C).alloc D).heap.size=w.heap.size+3:=by
 have s1:=World.size_alloc w A
 have s2:=World.size_alloc (w.alloc A) C
 have s3:=World.size_alloc ((w.alloc A).alloc C) D
 have b1:=below_allocL w A
 have b2:=below_allocL (w.alloc A) C
 have b3:=below_allocL ((w.alloc A).alloc C) D
 refine⟨?_,?_,?_,b1.trans ((b2.trans (b3.mono (by omega))).mono (by omega)),by omega⟩
 ·rw[b3.block _ (by omega),b2.block _ (by omega)]
  exact heap_alloc_new _ _
 ·rw[b3.block _ (by omega),<- s1]
  exact heap_alloc_new _ _
 ·rw[show w.heap.size+2=((w.alloc A).alloc C).heap.size by omega]
  exact heap_alloc_new _ _
theorem ent_Wants:Enters Tryz.prog 14:=enters_of Tryz.func14 (by kernel_rfl) rfl
theorem ent_prom:Enters Tryz.prog 38:=enters_of Tryz.func38 (by kernel_rfl) rfl
theorem one_fin (w wR:World) (q:Nat) (hq:w.heap.size<=q) (KZ:wR.heap[q]? = some (lineObj 0 [] 0 0 0 0 0 [])) (HB:Below w.heap.size w wR) (Q:Ending->World->Prop) (rid:Int) (ritem:List UInt8) (rqty rasked rrank rst rday:Int) (rcode:List UInt8)
  (hQ:∀ W',Below w.heap.size w W'->Q (.returned (.agg #[.int .i64 rid,.string ⟨ritem.toArray⟩,.int .i64 rqty,.int .i64 rasked,.int .i64 rrank,.int .u8 rst,.int .i64 rday,.string ⟨rcode.toArray⟩])) W') (s0 s1 s2 s3 s5 s6 s7 s8 s9 s10 s11 s12 s13 s14 s15 s16 s17 s18 s19 s20 s21 s22 s23 s24 s25 s26 s27 s28 s29 s30 s31 s32 s33:Value) :
  Code.wp Tryz.prog Code.ret (bodyPost Tryz.prog Tryz.f11 Q) ⟨List.toArray (s0 :: s1 :: s2 :: s3 :: (.pointer (some ⟨q,0,none⟩)) :: s5 :: s6 :: s7 :: s8 :: s9 :: s10 :: s11 :: s12 :: s13 :: s14 :: s15 :: s16 :: s17 :: s18 :: s19 :: s20 :: s21 :: s22 :: s23 :: s24 :: s25 :: s26 :: s27 :: s28 :: s29 :: s30 :: s31 :: s32 :: s33 :: []),[]⟩ (put8 wR q rid ritem rqty rasked rrank rst rday rcode):=by
 have hput:=put8_at KZ rid ritem rqty rasked rrank rst rday rcode
 have hbel:=put8_below HB q rid ritem rqty rasked rrank rst rday rcode hq
 generalize put8 wR q rid ritem rqty rasked rrank rst rday rcode=W9 at hput hbel ⊢
 unfold lineObj at hput
 go_wp2_with (fail)
 refine bodyPost_ret (results_cell_row (P:=Tryz.prog) (fn:=Tryz.f11) (p:=4) (ty:=29) rfl _ W9 q 29 _ (0,0) _ rfl hput Tryz.underlying29 rfl (by kernel_rfl)) rfl ?_
 exact hQ W9 hbel
set_option maxHeartbeats 8000000 in
set_option maxRecDepth 100000 in
theorem one_any (B:Nat) (now nl nx:Int) (a1:Option Addr) (n1 c1:Nat) (X:List It) (a2:Option Addr) (n2 c2:Nat) (L:List LotV) (a3:Option Addr) (n3 c3:Nat) (N:List LineV) (l:LineV) (w:World) (h:StIn B w a1 n1 c1 X a2 n2 c2 L a3 n3 c3 N) (hB:B<=w.heap.size) (hl:okLine l) (h1:n1<=5000) (h2:n2<=5000) (h3:n3<=5000) :
  Calls Tryz.prog 11 #[.agg #[.int .i64 now,.int .i64 nl,.int .i64 nx,.slice a1 n1 c1,.slice a2 n2 c2,.slice a3 n3 c3],l.val] w fun e w'=>e = .returned (oneX (partsO X) (rowX X) lineOk L now N l).val/\Below w.heap.size w w':=by
 obtain⟨R,hR⟩:∃ R,R=oneX (partsO X) (rowX X) lineOk L now N l:=⟨_,rfl⟩
 rw[<- hR]
 unfold oneX at hR
 obtain⟨id,item,qty,asked,rank,st,day,code⟩:=l
 have Hl:=Lib.hid hl
 obtain⟨o1,o2,o3,o4,o5,o6,o7,o8⟩:=hl
 simp only at hR o1 o2 o3 o4 o5 o6 o7 o8
 obtain⟨W0,hW0⟩:∃ V,V=((w.alloc (stObj now nl nx (.slice a1 n1 c1) (.slice a2 n2 c2) (.slice a3 n3 c3))).alloc (lineObj id item qty asked rank st day code)).alloc (lineObj 0 [] 0 0 0 0 0 []):=⟨_,rfl⟩
 obtain⟨ks,kl,kz,hb0,hs0⟩:=alloc3 w (stObj now nl nx (.slice a1 n1 c1) (.slice a2 n2 c2) (.slice a3 n3 c3)) (lineObj id item qty asked rank st day code) (lineObj 0 [] 0 0 0 0 0 [])
 rw[<- hW0] at ks kl kz hb0 hs0
 have HAt:=Lib.hid (fun (V:World) (hb:Below W0.heap.size W0 V)=>(show V.heap[w.heap.size]? = some (stObj now nl nx (.slice a1 n1 c1) (.slice a2 n2 c2) (.slice a3 n3 c3))/\V.heap[w.heap.size+1]? = some (lineObj id item qty asked rank st day code)/\V.heap[w.heap.size+2]? = some (lineObj 0 [] 0 0 0 0 0 [])/\Below w.heap.size w V/\StIn B V a1 n1 c1 X a2 n2 c2 L a3 n3 c3 N/\B<=V.heap.size from by
  have hbw:=hb0.trans (hb.mono hb0.size)
  exact⟨(hb.block _ (by omega)).trans ks,(hb.block _ (by omega)).trans kl,(hb.block _ (by omega)).trans kz,hbw,h.below (hbw.mono hB),Nat.le_trans hB hbw.size⟩))
 have HNow:=Lib.hid (fun (V:World)=>now_any now nl nx (.slice a1 n1 c1) (.slice a2 n2 c2) (.slice a3 n3 c3) V)
 have HRi:=Lib.hid (fun (V:World)=>rankRight_any ⟨id,item,qty,asked,rank,st,day,code⟩ o2 o8 V)
 have HR:=Lib.hid hR
 have HW0:Hid (((w.alloc (stObj now nl nx (.slice a1 n1 c1) (.slice a2 n2 c2) (.slice a3 n3 c3))).alloc (lineObj id item qty asked rank st day code)).alloc (lineObj 0 [] 0 0 0 0 0 [])=W0):=Lib.hid hW0.symm
 have Hs0:=Lib.hid hs0
 have hlN:N.length=n3:=h.lines.len.symm
 have HlN:=Lib.hid hlN
 have HlX:=Lib.hid h.items.len
 obtain⟨y0,y1,y2,y3,y4,y5⟩:=stObj_cells ks
 obtain⟨l0,l1,l2,l3,l4,l5,l6,l7⟩:=lineObj_cells kl
 have hbs:w.heap.size < W0.heap.size:=by omega
 have hbl:w.heap.size+1 < W0.heap.size:=by omega
 have hlen5:n1<=c1:=h.items.le
 unfold LineV.val encStr at HRi ⊢
 simp only at HRi ⊢
 unfold lineObj stObj at HW0
 clear hR hW0 h ks kl kz hb0 hs0 hlN o1 o2 o3 o4 o5 o6 o7 o8 hlen5
 cases hnw:nowOk now with
 | false =>
  have E:Hid (R=⟨id,item,qty,asked,rank,st,day,code⟩):=Lib.hid (by rw[HR.out,if_neg (fun e=>by have e1:=e.1;rw[hnw] at e1;cases e1)])
  rw[hnw] at HNow
  clear hnw
  go_enter Tryz.func11,Tryz.ntmps11
  go_upto_region 1 with (fail)
  have HW:=HW0.out
  simp only[List.toArray] at HW
  rw[HW]
  clear HW
  go_upto_region 2 with ((go_at_call 34;refine (HNow.out _).mono ?_;rintro e wA ⟨rfl,hbA⟩;have BA:=Lib.hid hbA;obtain⟨-,ka,-⟩:=HAt.out wA hbA;obtain⟨la0,la1,la2,la3,la4,la5,la6,la7⟩:=lineObj_cells ka;clear hbA ka))
  obtain⟨-,-,kzz,hbz,-⟩:=HAt.out wA BA.out
  obtain⟨z0,z1,z2,z3,z4,z5,z6,z7⟩:=lineObj_cells kzz
  obtain⟨fz0,fz1,fz2,fz3,fz4,fz5,fz6,fz7⟩:=line_frozen8 kzz
  have KZ:=Lib.hid kzz
  have HBZ:=Lib.hid hbz
  clear kzz hbz
  go_wp2_with (fail)
  have hput:(put8 wA (w.heap.size+2) id item qty asked rank st day code).heap[w.heap.size+2]? = some (lineObj id item qty asked rank st day code):=put8_at KZ.out _ _ _ _ _ _ _ _
  have hbel:Below w.heap.size w (put8 wA (w.heap.size+2) id item qty asked rank st day code):=put8_below HBZ.out _ _ _ _ _ _ _ _ _ (by omega)
  obtain⟨W9,hW9⟩:∃ V,V=put8 wA (w.heap.size+2) id item qty asked rank st day code:=⟨_,rfl⟩
  rw[<- hW9] at hput hbel
  unfold put8 at hW9
  rw[<- hW9]
  unfold lineObj at hput
  refine bodyPost_ret (results_cell_row (P:=Tryz.prog) (fn:=Tryz.f11) (p:=4) (ty:=29) rfl _ W9 (w.heap.size+2) 29 _ (0,0) _ rfl hput Tryz.underlying29 rfl (by kernel_rfl)) rfl ?_
  exact⟨by rw[E.out],hbel⟩
 | true =>
  cases hri:lineOk ⟨id,item,qty,asked,rank,st,day,code⟩ with
  | false =>
   have E:Hid (R=⟨id,item,qty,asked,rank,st,day,code⟩):=Lib.hid (by rw[HR.out,if_neg (fun e=>by have e1:=e.2.1;rw[hri] at e1;cases e1)])
   rw[hnw] at HNow
   rw[hri] at HRi
   clear hnw hri
   go_enter Tryz.func11,Tryz.ntmps11
   go_upto_region 1 with (fail)
   have HW:=HW0.out
   simp only[List.toArray] at HW
   rw[HW]
   clear HW
   go_upto_region 2 with (first | (go_at_call 34;refine (HNow.out _).mono ?_;rintro e wA ⟨rfl,hbA⟩;have BA:=Lib.hid hbA;obtain⟨-,ka,-⟩:=HAt.out wA hbA;obtain⟨la0,la1,la2,la3,la4,la5,la6,la7⟩:=lineObj_cells ka;clear hbA ka) | (go_at_call 21;refine (HRi.out _).mono ?_;rintro e wB ⟨rfl,hbB⟩;have BB:=Lib.hid (BA.out.trans (hbB.mono BA.out.size));obtain⟨-,kb,-⟩:=HAt.out wB (BA.out.trans (hbB.mono BA.out.size));obtain⟨lb0,lb1,lb2,lb3,lb4,lb5,lb6,lb7⟩:=lineObj_cells kb;clear hbB kb))
   obtain⟨-,-,kzz,hbz,-⟩:=HAt.out wB BB.out
   obtain⟨z0,z1,z2,z3,z4,z5,z6,z7⟩:=lineObj_cells kzz
   obtain⟨fz0,fz1,fz2,fz3,fz4,fz5,fz6,fz7⟩:=line_frozen8 kzz
   have KZ:=Lib.hid kzz
   have HBZ:=Lib.hid hbz
   clear kzz hbz
   go_wp2_with (fail)
   have hput:(put8 wB (w.heap.size+2) id item qty asked rank st day code).heap[w.heap.size+2]? = some (lineObj id item qty asked rank st day code):=put8_at KZ.out _ _ _ _ _ _ _ _
   have hbel:Below w.heap.size w (put8 wB (w.heap.size+2) id item qty asked rank st day code):=put8_below HBZ.out _ _ _ _ _ _ _ _ _ (by omega)
   obtain⟨W9,hW9⟩:∃ V,V=put8 wB (w.heap.size+2) id item qty asked rank st day code:=⟨_,rfl⟩
   rw[<- hW9] at hput hbel
   unfold put8 at hW9
   rw[<- hW9]
   unfold lineObj at hput
   refine bodyPost_ret (results_cell_row (P:=Tryz.prog) (fn:=Tryz.f11) (p:=4) (ty:=29) rfl _ W9 (w.heap.size+2) 29 _ (0,0) _ rfl hput Tryz.underlying29 rfl (by kernel_rfl)) rfl ?_
   exact⟨by rw[E.out],hbel⟩
  | true =>
   by_cases hs:st=1
   ·subst hs
    have hE:R=promL (partsO X) (rowX X) L now (wantsN (partsO X) (N.filter fun x=>decide (x.id≠id))) ⟨id,item,qty,asked,rank,1,day,code⟩:=by rw[HR.out,if_pos ⟨hnw,hri,rfl⟩]
    have hnow:0<=now/\now<=4000:=by unfold nowOk at hnw;simpa using hnw
    have HNOW:=Lib.hid hnow
    have HE:=Lib.hid hE
    have HCl:=Lib.hid (fun (V:World) (hb:Below W0.heap.size W0 V)=>cloneLine_any B a3 n3 c3 N V (HAt.out V hb).2.2.2.2.1.lines (HAt.out V hb).2.2.2.2.2 (by omega))
    have HDe:=Lib.hid (fun (base:Nat) (v:Value) (V:World) (hb:Below W0.heap.size W0 V) (hbs:W0.heap.size<=base) (hbv:base<=V.heap.size) (hv:lineE.Own base V v N)=>delO_any base v N V (w.heap.size+1) id (lineObj_cells (HAt.out V hb).2.1).1 (by omega) (by omega) hv (HAt.out V hb).2.2.2.2.1.lines.fine (by rw[HlN.out];omega) hbv)
    rw[hnw] at HNow
    rw[hri] at HRi
    clear hnw hri hE hnow
    go_enter Tryz.func11,Tryz.ntmps11
    go_upto_region 1 with (fail)
    have HW:=HW0.out
    simp only[List.toArray] at HW
    rw[HW]
    clear HW
    go_upto_region 3 with (first | (go_at_call 34;refine (HNow.out _).mono ?_;rintro e wA ⟨rfl,hbA⟩;have BA:=Lib.hid hbA;obtain⟨-,ka,-⟩:=HAt.out wA hbA;obtain⟨la0,la1,la2,la3,la4,la5,la6,la7⟩:=lineObj_cells ka;clear hbA ka) | (go_at_call 21;refine (HRi.out _).mono ?_;rintro e wB ⟨rfl,hbB⟩;have BB:=Lib.hid (BA.out.trans (hbB.mono BA.out.size));obtain⟨-,kb,-⟩:=HAt.out wB (BA.out.trans (hbB.mono BA.out.size));obtain⟨lb0,lb1,lb2,lb3,lb4,lb5,lb6,lb7⟩:=lineObj_cells kb;clear hbB kb))
    have BB0:=BB.out
    obtain⟨s0,s1,s2,s3,s4,s5⟩:=stObj_cells (HAt.out wB BB0).1
    have HCl2:=Lib.hid (HCl.out wB BB0)
    clear BB0
    go_upto_region 4 with (first | (go_at_call 36;refine HCl2.out.mono ?_;rintro e wC ⟨⟨ac,cc,rfl,-,hoC⟩,hbC⟩;have BC:=Lib.hid (BB.out.trans (hbC.mono BB.out.size));have HD2:=Lib.hid (HDe.out wB.heap.size _ wC BC.out BB.out.size hbC.size hoC);clear hoC hbC) | (go_at_call 35;refine HD2.out.mono ?_;rintro e wD ⟨ad,cd,rfl,hoD,hbD⟩;have BD:=Lib.hid (BC.out.trans (hbD.mono BB.out.size));have OD:=Lib.hid hoD;clear hoD hbD))
    generalize hFl:(N.filter (keepO id))=F at OD HDe HD2 ⊢
    have HFl:=Lib.hid hFl
    have HFle:Hid (F.length<=5000):=Lib.hid (by rw[<- hFl];exact Nat.le_trans (List.length_filter_le _ _) (by rw[HlN.out];exact h3))
    have HFok:Hid (∀ x∈F,okLine x):=Lib.hid (by rw[<- hFl];exact fun x hx=>(HAt.out wD BD.out).2.2.2.2.1.lines.fine x (List.mem_filter.1 hx).1)
    obtain⟨ad2,cd2,eD,hinD⟩:=OD.out.in_ HFok.out
    injection eD with eD1 eD2 eD3
    subst eD1;subst eD3
    have HinD:=Lib.hid hinD
    have HE2:Hid (R=promL (partsO X) (rowX X) L now (wantsN (partsO X) F) ⟨id,item,qty,asked,rank,1,day,code⟩):=Lib.hid (by rw[HE.out,<- hFl];rfl)
    obtain⟨m,hm⟩:∃ m,m=F.length:=⟨_,rfl⟩
    rw[<- hm] at HinD ⊢
    have HMm:=Lib.hid hm
    have HWn:=Lib.hid (fun (V:World) (hb:Below wD.heap.size wD V)=>Wants_any V.heap.size a1 n1 c1 X ad m cd F V ((HAt.out V (BD.out.trans (hb.mono BD.out.size))).2.2.2.2.1.items.mono (HAt.out V (BD.out.trans (hb.mono BD.out.size))).2.2.2.2.2) ((HinD.out.below hb).mono hb.size) (Nat.le_refl _) (by rw[<- HlX.out];omega) (Nat.le_trans HFle.out (by decide)))
    clear hFl hm hinD eD2 HDe HD2 HCl HCl2 s0 s1 s2 s3 s4 s5 la0 la1 la2 la3 la4 la5 la6 la7 lb0 lb1 lb2 lb3 lb4 lb5 lb6 lb7 l0 l1 l2 l3 l4 l5 l6 l7 y0 y1 y2 y3 y4 y5 HE
    have bd0:=Lib.hid (below_drewP (Below.refl wD.heap.size wD))
    have HAD:=Lib.hid (fun (V:World) (hb:Below wD.heap.size wD V)=>HAt.out V (BD.out.trans (hb.mono BD.out.size)))
    obtain⟨s0,s1,s2,s3,s4,s5⟩:=stObj_cells (HAD.out _ bd0.out).1
    obtain⟨t0,t1,t2,t3,t4,t5,t6,t7⟩:=lineObj_cells (HAD.out _ bd0.out).2.1
    obtain⟨V,hV⟩:∃ V,V=wantsN (partsO X) F:=⟨_,rfl⟩
    rw[<- hV] at HWn HE2
    obtain⟨⟨rid,ritem,rqty,rasked,rrank,rst,rday,rcode⟩,hRR⟩:∃ r,r=R:=⟨_,rfl⟩
    have HTB:Hid (∀ (wV:World),Below wD.heap.size wD wV->∀ (va:Option Addr) (vc:Nat),wantE.Own wD.drew.heap.size wV (.slice va V.length vc) V->V.length<=F.length * X.length->(∀ x∈V,okWant x)->Below wD.heap.size wD (wV.alloc (.cells #[.int .i64 now,.int .i64 nl,.int .i64 nx,.slice a1 n1 c1,.slice a2 n2 c2,.slice a3 n3 c3,.slice va V.length vc] 62))/\Calls Tryz.prog 38 #[.pointer (some ⟨wV.heap.size,0,none⟩),.agg #[.int .i64 id,.string ⟨item.toArray⟩,.int .i64 qty,.int .i64 asked,.int .i64 rank,.int .u8 1,.int .i64 day,.string ⟨code.toArray⟩]] (wV.alloc (.cells #[.int .i64 now,.int .i64 nl,.int .i64 nx,.slice a1 n1 c1,.slice a2 n2 c2,.slice a3 n3 c3,.slice va V.length vc] 62)) fun e w'=>e = .returned (.agg #[.int .i64 rid,.string ⟨ritem.toArray⟩,.int .i64 rqty,.int .i64 rasked,.int .i64 rrank,.int .u8 rst,.int .i64 rday,.string ⟨rcode.toArray⟩])/\Below (wV.alloc (.cells #[.int .i64 now,.int .i64 nl,.int .i64 nx,.slice a1 n1 c1,.slice a2 n2 c2,.slice a3 n3 c3,.slice va V.length vc] 62)).heap.size (wV.alloc (.cells #[.int .i64 now,.int .i64 nl,.int .i64 nx,.slice a1 n1 c1,.slice a2 n2 c2,.slice a3 n3 c3,.slice va V.length vc] 62)) w'):=Lib.hid (by
     intro wV hbV va vc hoV hVl hVf
     have hbT:=below_allocL wV (.cells #[.int .i64 now,.int .i64 nl,.int .i64 nx,.slice a1 n1 c1,.slice a2 n2 c2,.slice a3 n3 c3,.slice va V.length vc] 62)
     refine⟨hbV.trans (hbT.mono hbV.size),?_⟩
     obtain⟨va2,vc2,eV,hinV⟩:=hoV.in_ hVf
     injection eV with eV1 eV2 eV3
     subst eV1;subst eV3
     have hST:=(HAD.out wV hbV).2.2.2.2.1
     have hBV:=(HAD.out wV hbV).2.2.2.2.2
     have hsz:=World.size_alloc wV (.cells #[.int .i64 now,.int .i64 nl,.int .i64 nx,.slice a1 n1 c1,.slice a2 n2 c2,.slice a3 n3 c3,.slice va V.length vc] 62)
     have:=prom_any wV.heap.size wV.heap.size now nl nx a1 n1 c1 X a2 n2 c2 L (.slice a3 n3 c3) va V.length vc V ⟨id,item,qty,asked,rank,1,day,code⟩ (wV.alloc (.cells #[.int .i64 now,.int .i64 nl,.int .i64 nx,.slice a1 n1 c1,.slice a2 n2 c2,.slice a3 n3 c3,.slice va V.length vc] 62)) ((hST.items.mono hBV).below hbT) ((hST.lots.mono hBV).below hbT) (hinV.below hbT) (by omega) (heap_alloc_new _ _) Hl.out HNOW.out (by rw[<- HlX.out];omega) (by omega) (Nat.le_trans hVl (Nat.le_trans (Nat.mul_le_mul HFle.out (show X.length<=5000 by rw[<- HlX.out];exact h1)) (by decide))) (fun x hx=>(hST.sz x hx).2)
     rw[<- HE2.out,<- hRR] at this
     unfold LineV.val encStr at this
     exact this)
    have E:=Lib.hid hRR.symm
    clear hV hRR HE2
    go_region_law (first | (refine step_call (f:=14) (args:=#[.slice a1 n1 c1,.slice ad m cd]) rfl (run_fn2 rfl rfl ent_Wants _ rfl rfl) ?_;refine (HWn.out _ bd0.out).mono ?_;rintro e wV ⟨⟨⟨va,vc,rfl,hoV⟩,hbV⟩,hVl,hVf⟩;have bV:=Lib.hid (bd0.out.trans (hbV.mono bd0.out.size));have HT:=Lib.hid (HTB.out wV bV.out va vc hoV hVl hVf);obtain⟨s0,s1,s2,s3,s4,s5⟩:=stObj_cells (HAD.out _ bV.out).1;obtain⟨t0,t1,t2,t3,t4,t5,t6,t7⟩:=lineObj_cells (HAD.out _ bV.out).2.1;obtain⟨u0,u1,u2,u3,u4,u5,u6,u7⟩:=lineObj_cells (HAD.out _ HT.out.1).2.1;clear hoV hbV hVl hVf;refine⟨_,rfl,?_⟩) | (refine step_call (f:=38) (args:=#[.pointer (some ⟨wV.heap.size,0,none⟩),.agg #[.int .i64 id,.string ⟨item.toArray⟩,.int .i64 qty,.int .i64 asked,.int .i64 rank,.int .u8 1,.int .i64 day,.string ⟨code.toArray⟩]]) rfl (run_fn2 rfl rfl ent_prom _ rfl rfl) ?_;refine HT.out.2.mono ?_;rintro e wR ⟨rfl,hbR⟩;have bR:=Lib.hid (HT.out.1.trans (hbR.mono HT.out.1.size));obtain⟨-,-,kzz,hbz,-⟩:=HAD.out wR bR.out;obtain⟨z0,z1,z2,z3,z4,z5,z6,z7⟩:=lineObj_cells kzz;obtain⟨fz0,fz1,fz2,fz3,fz4,fz5,fz6,fz7⟩:=line_frozen8 kzz;have KZ:=Lib.hid kzz;have HBZ:=Lib.hid hbz;clear kzz hbz hbR;refine⟨_,rfl,?_⟩))
    all_goals clear HW0 HAt HNow HRi HAD HTB HinD OD HFok
    all_goals iterate 2 go_step
    all_goals exact one_fin w wR (w.heap.size+1+1) (by omega) KZ.out HBZ.out _ rid ritem rqty rasked rrank rst rday rcode (fun W' hb=>⟨by rw[E.out],hb⟩) _ _ _ _ _ _ _ _ _ _ _ _ _ _ _ _ _ _ _ _ _ _ _ _ _ _ _ _ _ _ _ _ _ 
   ·have hst:R=⟨id,item,qty,asked,rank,st,day,code⟩:=by rw[HR.out,if_neg (fun e=>hs e.2.2)]
    have E:=Lib.hid hst
    clear hst
    rw[hnw] at HNow
    rw[hri] at HRi
    clear hnw hri
    go_enter Tryz.func11,Tryz.ntmps11
    go_upto_region 1 with (fail)
    have HW:=HW0.out
    simp only[List.toArray] at HW
    rw[HW]
    clear HW
    go_upto_region 2 with (first | (go_at_call 34;refine (HNow.out _).mono ?_;rintro e wA ⟨rfl,hbA⟩;have BA:=Lib.hid hbA;obtain⟨-,ka,-⟩:=HAt.out wA hbA;obtain⟨la0,la1,la2,la3,la4,la5,la6,la7⟩:=lineObj_cells ka;clear hbA ka) | (go_at_call 21;refine (HRi.out _).mono ?_;rintro e wB ⟨rfl,hbB⟩;have BB:=Lib.hid (BA.out.trans (hbB.mono BA.out.size));obtain⟨-,kb,-⟩:=HAt.out wB (BA.out.trans (hbB.mono BA.out.size));obtain⟨lb0,lb1,lb2,lb3,lb4,lb5,lb6,lb7⟩:=lineObj_cells kb;clear hbB kb))
    obtain⟨-,-,kzz,hbz,-⟩:=HAt.out wB BB.out
    obtain⟨z0,z1,z2,z3,z4,z5,z6,z7⟩:=lineObj_cells kzz
    obtain⟨fz0,fz1,fz2,fz3,fz4,fz5,fz6,fz7⟩:=line_frozen8 kzz
    have KZ:=Lib.hid kzz
    have HBZ:=Lib.hid hbz
    clear kzz hbz
    go_wp2_with (fail)
    have hput:(put8 wB (w.heap.size+2) id item qty asked rank st day code).heap[w.heap.size+2]? = some (lineObj id item qty asked rank st day code):=put8_at KZ.out _ _ _ _ _ _ _ _
    have hbel:Below w.heap.size w (put8 wB (w.heap.size+2) id item qty asked rank st day code):=put8_below HBZ.out _ _ _ _ _ _ _ _ _ (by omega)
    obtain⟨W9,hW9⟩:∃ V,V=put8 wB (w.heap.size+2) id item qty asked rank st day code:=⟨_,rfl⟩
    rw[<- hW9] at hput hbel
    unfold put8 at hW9
    rw[<- hW9]
    unfold lineObj at hput
    refine bodyPost_ret (results_cell_row (P:=Tryz.prog) (fn:=Tryz.f11) (p:=4) (ty:=29) rfl _ W9 (w.heap.size+2) 29 _ (0,0) _ rfl hput Tryz.underlying29 rfl (by kernel_rfl)) rfl ?_
    exact⟨by rw[E.out],hbel⟩
end Go.Proofs.YtgplnekpgdhcpaaGreat
