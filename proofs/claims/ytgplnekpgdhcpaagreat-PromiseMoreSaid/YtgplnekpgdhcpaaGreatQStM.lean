/- promise.One: its walk. (Printed by gen/pone.py.) slices.SortStableFunc at api.Line: slices.swapRangeCmpFunc, slices.rotateCmpFunc: walks. (Printed by gen/sorts.py.) -/
import Derived.Test.YtgplnekpgdhcpaaGreatQPromT
import Derived.Test.YtgplnekpgdhcpaaGreatSteps
import Derived.Test.YtgplnekpgdhcpaaGreatQPick
import Derived.Test.YtgplnekpgdhcpaaGreatQTwSt
import Derived.Shelf.SlSortCmp.KitK
import Derived.Shelf.SlSortCmp.Kit1
import Derived.Sort.WalkB2
import Derived.Sort.WalkB12
import Derived.Deep.LoopGhost
import Derived.Deep.DeepCutAuto
import Derived.Lib.Hide
import Derived.Test.YtgplnekpgdhcpaaGreatQMerge
import Derived.Test.YtgplnekpgdhcpaaGreatProg
namespace Go.Proofs.YtgplnekpgdhcpaaGreat
open Go.RowKit Go.Sort Go.Lib Go.Shelf
theorem alloc3 (w:World) (A C D:Obj):(((w.alloc A).alloc C).alloc D).heap[w.heap.size]? = some A/\(((w.alloc A).alloc C).alloc D).heap[w.heap.size+1]? = some C/\(((w.alloc A).alloc C).alloc D).heap[w.heap.size+2]? = some D/\Below w.heap.size w (((w.alloc A).alloc C).alloc D)/\(((w.alloc A).alloc C).alloc D).heap.size=w.heap.size+3:=by
 have s1:=World.size_alloc w A
 have s2:=World.size_alloc (w.alloc A) C
 have s3:=World.size_alloc ((w.alloc A).alloc C) D
 have b1:=below_allocL w A
 have b2:=below_allocL (w.alloc A) C
 have b3:=below_allocL ((w.alloc A).alloc C) D
 refine⟨?_,?_,?_,b1.trans ((b2.trans (b3.mono (by omega))).mono (by omega)),by omega⟩
 ·rw[b3.block _ (by omega),b2.block _ (by omega)]
  exact heap_alloc_new _ _
 ·rw[b3.block _ (by omega),<- s1]
  exact heap_alloc_new _ _
 ·rw[show w.heap.size+2=((w.alloc A).alloc C).heap.size by omega]
  exact heap_alloc_new _ _
theorem ent_Wants:Enters Tryz.prog 14:=enters_of Tryz.func14 (by kernel_rfl) rfl
theorem ent_prom:Enters Tryz.prog 38:=enters_of Tryz.func38 (by kernel_rfl) rfl
theorem one_fin (w wR:World) (q:Nat) (hq:w.heap.size<=q) (KZ:wR.heap[q]? = some (lineObj 0 [] 0 0 0 0 0 [])) (HB:Below w.heap.size w wR) (Q:Ending->World->Prop) (rid:Int) (ritem:List UInt8) (rqty rasked rrank rst rday:Int) (rcode:List UInt8)
  (hQ:∀ W',Below w.heap.size w W'->Q (.returned (.agg #[.int .i64 rid,.string ⟨ritem.toArray⟩,.int .i64 rqty,.int .i64 rasked,.int .i64 rrank,.int .u8 rst,.int .i64 rday,.string ⟨rcode.toArray⟩])) W') (s0 s1 s2 s3 s5 s6 s7 s8 s9 s10 s11 s12 s13 s14 s15 s16 s17 s18 s19 s20 s21 s22 s23 s24 s25 s26 s27 s28 s29 s30 s31 s32 s33:Value) :
  Code.wp Tryz.prog Code.ret (bodyPost Tryz.prog Tryz.f11 Q) ⟨List.toArray (s0 :: s1 :: s2 :: s3 :: (.pointer (some ⟨q,0,none⟩)) :: s5 :: s6 :: s7 :: s8 :: s9 :: s10 :: s11 :: s12 :: s13 :: s14 :: s15 :: s16 :: s17 :: s18 :: s19 :: s20 :: s21 :: s22 :: s23 :: s24 :: s25 :: s26 :: s27 :: s28 :: s29 :: s30 :: s31 :: s32 :: s33 :: []),[]⟩ (put8 wR q rid ritem rqty rasked rrank rst rday rcode):=by
 have hput:=put8_at KZ rid ritem rqty rasked rrank rst rday rcode
 have hbel:=put8_below HB q rid ritem rqty rasked rrank rst rday rcode hq
 generalize put8 wR q rid ritem rqty rasked rrank rst rday rcode=W9 at hput hbel ⊢
 unfold lineObj at hput
 go_wp2_with (fail)
 refine bodyPost_ret (results_cell_row (P:=Tryz.prog) (fn:=Tryz.f11) (p:=4) (ty:=29) rfl _ W9 q 29 _ (0,0) _ rfl hput Tryz.underlying29 rfl (by kernel_rfl)) rfl ?_
 exact hQ W9 hbel
set_option maxHeartbeats 8000000 in
set_option maxRecDepth 100000 in
theorem one_any (B:Nat) (now nl nx:Int) (a1:Option Addr) (n1 c1:Nat) (X:List It) (a2:Option Addr) (n2 c2:Nat) (L:List LotV) (a3:Option Addr) (n3 c3:Nat) (N:List LineV) (l:LineV) (w:World) (h:StIn B w a1 n1 c1 X a2 n2 c2 L a3 n3 c3 N) (hB:B<=w.heap.size) (hl:okLine l) (h1:n1<=5000) (h2:n2<=5000) (h3:n3<=5000) :
  Calls Tryz.prog 11 #[.agg #[.int .i64 now,.int .i64 nl,.int .i64 nx,.slice a1 n1 c1,.slice a2 n2 c2,.slice a3 n3 c3],l.val] w fun e w'=>e = .returned (oneX (partsO X) (rowX X) lineOk L now N l).val/\Below w.heap.size w w':=by
 obtain⟨R,hR⟩:∃ R,R=oneX (partsO X) (rowX X) lineOk L now N l:=⟨_,rfl⟩
 rw[<- hR]
 unfold oneX at hR
 obtain⟨id,item,qty,asked,rank,st,day,code⟩:=l
 have Hl:=Lib.hid hl
 obtain⟨o1,o2,o3,o4,o5,o6,o7,o8⟩:=hl
 simp only at hR o1 o2 o3 o4 o5 o6 o7 o8
 obtain⟨W0,hW0⟩:∃ V,V=((w.alloc (stObj now nl nx (.slice a1 n1 c1) (.slice a2 n2 c2) (.slice a3 n3 c3))).alloc (lineObj id item qty asked rank st day code)).alloc (lineObj 0 [] 0 0 0 0 0 []):=⟨_,rfl⟩
 obtain⟨ks,kl,kz,hb0,hs0⟩:=alloc3 w (stObj now nl nx (.slice a1 n1 c1) (.slice a2 n2 c2) (.slice a3 n3 c3)) (lineObj id item qty asked rank st day code) (lineObj 0 [] 0 0 0 0 0 [])
 rw[<- hW0] at ks kl kz hb0 hs0
 have HAt:=Lib.hid (fun (V:World) (hb:Below W0.heap.size W0 V)=>(show V.heap[w.heap.size]? = some (stObj now nl nx (.slice a1 n1 c1) (.slice a2 n2 c2) (.slice a3 n3 c3))/\V.heap[w.heap.size+1]? = some (lineObj id item qty asked rank st day code)/\V.heap[w.heap.size+2]? = some (lineObj 0 [] 0 0 0 0 0 [])/\Below w.heap.size w V/\StIn B V a1 n1 c1 X a2 n2 c2 L a3 n3 c3 N/\B<=V.heap.size from by
  have hbw:=hb0.trans (hb.mono hb0.size)
  exact⟨(hb.block _ (by omega)).trans ks,(hb.block _ (by omega)).trans kl,(hb.block _ (by omega)).trans kz,hbw,h.below (hbw.mono hB),Nat.le_trans hB hbw.size⟩))
 have HNow:=Lib.hid (fun (V:World)=>now_any now nl nx (.slice a1 n1 c1) (.slice a2 n2 c2) (.slice a3 n3 c3) V)
 have HRi:=Lib.hid (fun (V:World)=>rankRight_any ⟨id,item,qty,asked,rank,st,day,code⟩ o2 o8 V)
 have HR:=Lib.hid hR
 have HW0:Hid (((w.alloc (stObj now nl nx (.slice a1 n1 c1) (.slice a2 n2 c2) (.slice a3 n3 c3))).alloc (lineObj id item qty asked rank st day code)).alloc (lineObj 0 [] 0 0 0 0 0 [])=W0):=Lib.hid hW0.symm
 have Hs0:=Lib.hid hs0
 have hlN:N.length=n3:=h.lines.len.symm
 have HlN:=Lib.hid hlN
 have HlX:=Lib.hid h.items.len
 obtain⟨y0,y1,y2,y3,y4,y5⟩:=stObj_cells ks
 obtain⟨l0,l1,l2,l3,l4,l5,l6,l7⟩:=lineObj_cells kl
 have hbs:w.heap.size < W0.heap.size:=by omega
 have hbl:w.heap.size+1 < W0.heap.size:=by omega
 have hlen5:n1<=c1:=h.items.le
 unfold LineV.val encStr at HRi ⊢
 simp only at HRi ⊢
 unfold lineObj stObj at HW0
 clear hR hW0 h ks kl kz hb0 hs0 hlN o1 o2 o3 o4 o5 o6 o7 o8 hlen5
 cases hnw:nowOk now with
 | false =>
  have E:Hid (R=⟨id,item,qty,asked,rank,st,day,code⟩):=Lib.hid (by rw[HR.out,if_neg (fun e=>by have e1:=e.1;rw[hnw] at e1;cases e1)])
  rw[hnw] at HNow
  clear hnw
  go_enter Tryz.func11,Tryz.ntmps11
  go_upto_region 1 with (fail)
  have HW:=HW0.out
  simp only[List.toArray] at HW
  rw[HW]
  clear HW
  go_upto_region 2 with ((go_at_call 34;refine (HNow.out _).mono ?_;rintro e wA ⟨rfl,hbA⟩;have BA:=Lib.hid hbA;obtain⟨-,ka,-⟩:=HAt.out wA hbA;obtain⟨la0,la1,la2,la3,la4,la5,la6,la7⟩:=lineObj_cells ka;clear hbA ka))
  obtain⟨-,-,kzz,hbz,-⟩:=HAt.out wA BA.out
  obtain⟨z0,z1,z2,z3,z4,z5,z6,z7⟩:=lineObj_cells kzz
  obtain⟨fz0,fz1,fz2,fz3,fz4,fz5,fz6,fz7⟩:=line_frozen8 kzz
  have KZ:=Lib.hid kzz
  have HBZ:=Lib.hid hbz
  clear kzz hbz
  go_wp2_with (fail)
  have hput:(put8 wA (w.heap.size+2) id item qty asked rank st day code).heap[w.heap.size+2]? = some (lineObj id item qty asked rank st day code):=put8_at KZ.out _ _ _ _ _ _ _ _
  have hbel:Below w.heap.size w (put8 wA (w.heap.size+2) id item qty asked rank st day code):=put8_below HBZ.out _ _ _ _ _ _ _ _ _ (by omega)
  obtain⟨W9,hW9⟩:∃ V,V=put8 wA (w.heap.size+2) id item qty asked rank st day code:=⟨_,rfl⟩
  rw[<- hW9] at hput hbel
  unfold put8 at hW9
  rw[<- hW9]
  unfold lineObj at hput
  refine bodyPost_ret (results_cell_row (P:=Tryz.prog) (fn:=Tryz.f11) (p:=4) (ty:=29) rfl _ W9 (w.heap.size+2) 29 _ (0,0) _ rfl hput Tryz.underlying29 rfl (by kernel_rfl)) rfl ?_
  exact⟨by rw[E.out],hbel⟩
 | true =>
  cases hri:lineOk ⟨id,item,qty,asked,rank,st,day,code⟩ with
  | false =>
   have E:Hid (R=⟨id,item,qty,asked,rank,st,day,code⟩):=Lib.hid (by rw[HR.out,if_neg (fun e=>by have e1:=e.2.1;rw[hri] at e1;cases e1)])
   rw[hnw] at HNow
   rw[hri] at HRi
   clear hnw hri
   go_enter Tryz.func11,Tryz.ntmps11
   go_upto_region 1 with (fail)
   have HW:=HW0.out
   simp only[List.toArray] at HW
   rw[HW]
   clear HW
   go_upto_region 2 with (first | (go_at_call 34;refine (HNow.out _).mono ?_;rintro e wA ⟨rfl,hbA⟩;have BA:=Lib.hid hbA;obtain⟨-,ka,-⟩:=HAt.out wA hbA;obtain⟨la0,la1,la2,la3,la4,la5,la6,la7⟩:=lineObj_cells ka;clear hbA ka) | (go_at_call 21;refine (HRi.out _).mono ?_;rintro e wB ⟨rfl,hbB⟩;have BB:=Lib.hid (BA.out.trans (hbB.mono BA.out.size));obtain⟨-,kb,-⟩:=HAt.out wB (BA.out.trans (hbB.mono BA.out.size));obtain⟨lb0,lb1,lb2,lb3,lb4,lb5,lb6,lb7⟩:=lineObj_cells kb;clear hbB kb))
   obtain⟨-,-,kzz,hbz,-⟩:=HAt.out wB BB.out
   obtain⟨z0,z1,z2,z3,z4,z5,z6,z7⟩:=lineObj_cells kzz
   obtain⟨fz0,fz1,fz2,fz3,fz4,fz5,fz6,fz7⟩:=line_frozen8 kzz
   have KZ:=Lib.hid kzz
   have HBZ:=Lib.hid hbz
   clear kzz hbz
   go_wp2_with (fail)
   have hput:(put8 wB (w.heap.size+2) id item qty asked rank st day code).heap[w.heap.size+2]? = some (lineObj id item qty asked rank st day code):=put8_at KZ.out _ _ _ _ _ _ _ _
   have hbel:Below w.heap.size w (put8 wB (w.heap.size+2) id item qty asked rank st day code):=put8_below HBZ.out _ _ _ _ _ _ _ _ _ (by omega)
   obtain⟨W9,hW9⟩:∃ V,V=put8 wB (w.heap.size+2) id item qty asked rank st day code:=⟨_,rfl⟩
   rw[<- hW9] at hput hbel
   unfold put8 at hW9
   rw[<- hW9]
   unfold lineObj at hput
   refine bodyPost_ret (results_cell_row (P:=Tryz.prog) (fn:=Tryz.f11) (p:=4) (ty:=29) rfl _ W9 (w.heap.size+2) 29 _ (0,0) _ rfl hput Tryz.underlying29 rfl (by kernel_rfl)) rfl ?_
   exact⟨by rw[E.out],hbel⟩
  | true =>
   by_cases hs:st=1
   ·subst hs
    have hE:R=promL (partsO X) (rowX X) L now (wantsN (partsO X) (N.filter fun x=>decide (x.id≠id))) ⟨id,item,qty,asked,rank,1,day,code⟩:=by rw[HR.out,if_pos ⟨hnw,hri,rfl⟩]
    have hnow:0<=now/\now<=4000:=by unfold nowOk at hnw;simpa using hnw
    have HNOW:=Lib.hid hnow
    have HE:=Lib.hid hE
    have HCl:=Lib.hid (fun (V:World) (hb:Below W0.heap.size W0 V)=>cloneLine_any B a3 n3 c3 N V (HAt.out V hb).2.2.2.2.1.lines (HAt.out V hb).2.2.2.2.2 (by omega))
    have HDe:=Lib.hid (fun (base:Nat) (v:Value) (V:World) (hb:Below W0.heap.size W0 V) (hbs:W0.heap.size<=base) (hbv:base<=V.heap.size) (hv:lineE.Own base V v N)=>delO_any base v N V (w.heap.size+1) id (lineObj_cells (HAt.out V hb).2.1).1 (by omega) (by omega) hv (HAt.out V hb).2.2.2.2.1.lines.fine (by rw[HlN.out];omega) hbv)
    rw[hnw] at HNow
    rw[hri] at HRi
    clear hnw hri hE hnow
    go_enter Tryz.func11,Tryz.ntmps11
    go_upto_region 1 with (fail)
    have HW:=HW0.out
    simp only[List.toArray] at HW
    rw[HW]
    clear HW
    go_upto_region 3 with (first | (go_at_call 34;refine (HNow.out _).mono ?_;rintro e wA ⟨rfl,hbA⟩;have BA:=Lib.hid hbA;obtain⟨-,ka,-⟩:=HAt.out wA hbA;obtain⟨la0,la1,la2,la3,la4,la5,la6,la7⟩:=lineObj_cells ka;clear hbA ka) | (go_at_call 21;refine (HRi.out _).mono ?_;rintro e wB ⟨rfl,hbB⟩;have BB:=Lib.hid (BA.out.trans (hbB.mono BA.out.size));obtain⟨-,kb,-⟩:=HAt.out wB (BA.out.trans (hbB.mono BA.out.size));obtain⟨lb0,lb1,lb2,lb3,lb4,lb5,lb6,lb7⟩:=lineObj_cells kb;clear hbB kb))
    have BB0:=BB.out
    obtain⟨s0,s1,s2,s3,s4,s5⟩:=stObj_cells (HAt.out wB BB0).1
    have HCl2:=Lib.hid (HCl.out wB BB0)
    clear BB0
    go_upto_region 4 with (first | (go_at_call 36;refine HCl2.out.mono ?_;rintro e wC ⟨⟨ac,cc,rfl,-,hoC⟩,hbC⟩;have BC:=Lib.hid (BB.out.trans (hbC.mono BB.out.size));have HD2:=Lib.hid (HDe.out wB.heap.size _ wC BC.out BB.out.size hbC.size hoC);clear hoC hbC) | (go_at_call 35;refine HD2.out.mono ?_;rintro e wD ⟨ad,cd,rfl,hoD,hbD⟩;have BD:=Lib.hid (BC.out.trans (hbD.mono BB.out.size));have OD:=Lib.hid hoD;clear hoD hbD))
    generalize hFl:(N.filter (keepO id))=F at OD HDe HD2 ⊢
    have HFl:=Lib.hid hFl
    have HFle:Hid (F.length<=5000):=Lib.hid (by rw[<- hFl];exact Nat.le_trans (List.length_filter_le _ _) (by rw[HlN.out];exact h3))
    have HFok:Hid (∀ x∈F,okLine x):=Lib.hid (by rw[<- hFl];exact fun x hx=>(HAt.out wD BD.out).2.2.2.2.1.lines.fine x (List.mem_filter.1 hx).1)
    obtain⟨ad2,cd2,eD,hinD⟩:=OD.out.in_ HFok.out
    injection eD with eD1 eD2 eD3
    subst eD1;subst eD3
    have HinD:=Lib.hid hinD
    have HE2:Hid (R=promL (partsO X) (rowX X) L now (wantsN (partsO X) F) ⟨id,item,qty,asked,rank,1,day,code⟩):=Lib.hid (by rw[HE.out,<- hFl];rfl)
    obtain⟨m,hm⟩:∃ m,m=F.length:=⟨_,rfl⟩
    rw[<- hm] at HinD ⊢
    have HMm:=Lib.hid hm
    have HWn:=Lib.hid (fun (V:World) (hb:Below wD.heap.size wD V)=>Wants_any V.heap.size a1 n1 c1 X ad m cd F V ((HAt.out V (BD.out.trans (hb.mono BD.out.size))).2.2.2.2.1.items.mono (HAt.out V (BD.out.trans (hb.mono BD.out.size))).2.2.2.2.2) ((HinD.out.below hb).mono hb.size) (Nat.le_refl _) (by rw[<- HlX.out];omega) (Nat.le_trans HFle.out (by decide)))
    clear hFl hm hinD eD2 HDe HD2 HCl HCl2 s0 s1 s2 s3 s4 s5 la0 la1 la2 la3 la4 la5 la6 la7 lb0 lb1 lb2 lb3 lb4 lb5 lb6 lb7 l0 l1 l2 l3 l4 l5 l6 l7 y0 y1 y2 y3 y4 y5 HE
    have bd0:=Lib.hid (below_drewP (Below.refl wD.heap.size wD))
    have HAD:=Lib.hid (fun (V:World) (hb:Below wD.heap.size wD V)=>HAt.out V (BD.out.trans (hb.mono BD.out.size)))
    obtain⟨s0,s1,s2,s3,s4,s5⟩:=stObj_cells (HAD.out _ bd0.out).1
    obtain⟨t0,t1,t2,t3,t4,t5,t6,t7⟩:=lineObj_cells (HAD.out _ bd0.out).2.1
    obtain⟨V,hV⟩:∃ V,V=wantsN (partsO X) F:=⟨_,rfl⟩
    rw[<- hV] at HWn HE2
    obtain⟨⟨rid,ritem,rqty,rasked,rrank,rst,rday,rcode⟩,hRR⟩:∃ r,r=R:=⟨_,rfl⟩
    have HTB:Hid (∀ (wV:World),Below wD.heap.size wD wV->∀ (va:Option Addr) (vc:Nat),wantE.Own wD.drew.heap.size wV (.slice va V.length vc) V->V.length<=F.length * X.length->(∀ x∈V,okWant x)->Below wD.heap.size wD (wV.alloc (.cells #[.int .i64 now,.int .i64 nl,.int .i64 nx,.slice a1 n1 c1,.slice a2 n2 c2,.slice a3 n3 c3,.slice va V.length vc] 62))/\Calls Tryz.prog 38 #[.pointer (some ⟨wV.heap.size,0,none⟩),.agg #[.int .i64 id,.string ⟨item.toArray⟩,.int .i64 qty,.int .i64 asked,.int .i64 rank,.int .u8 1,.int .i64 day,.string ⟨code.toArray⟩]] (wV.alloc (.cells #[.int .i64 now,.int .i64 nl,.int .i64 nx,.slice a1 n1 c1,.slice a2 n2 c2,.slice a3 n3 c3,.slice va V.length vc] 62)) fun e w'=>e = .returned (.agg #[.int .i64 rid,.string ⟨ritem.toArray⟩,.int .i64 rqty,.int .i64 rasked,.int .i64 rrank,.int .u8 rst,.int .i64 rday,.string ⟨rcode.toArray⟩])/\Below (wV.alloc (.cells #[.int .i64 now,.int .i64 nl,.int .i64 nx,.slice a1 n1 c1,.slice a2 n2 c2,.slice a3 n3 c3,.slice va V.length vc] 62)).heap.size (wV.alloc (.cells #[.int .i64 now,.int .i64 nl,.int .i64 nx,.slice a1 n1 c1,.slice a2 n2 c2,.slice a3 n3 c3,.slice va V.length vc] 62)) w'):=Lib.hid (by
     intro wV hbV va vc hoV hVl hVf
     have hbT:=below_allocL wV (.cells #[.int .i64 now,.int .i64 nl,.int .i64 nx,.slice a1 n1 c1,.slice a2 n2 c2,.slice a3 n3 c3,.slice va V.length vc] 62)
     refine⟨hbV.trans (hbT.mono hbV.size),?_⟩
     obtain⟨va2,vc2,eV,hinV⟩:=hoV.in_ hVf
     injection eV with eV1 eV2 eV3
     subst eV1;subst eV3
     have hST:=(HAD.out wV hbV).2.2.2.2.1
     have hBV:=(HAD.out wV hbV).2.2.2.2.2
     have hsz:=World.size_alloc wV (.cells #[.int .i64 now,.int .i64 nl,.int .i64 nx,.slice a1 n1 c1,.slice a2 n2 c2,.slice a3 n3 c3,.slice va V.length vc] 62)
     have:=prom_any wV.heap.size wV.heap.size now nl nx a1 n1 c1 X a2 n2 c2 L (.slice a3 n3 c3) va V.length vc V ⟨id,item,qty,asked,rank,1,day,code⟩ (wV.alloc (.cells #[.int .i64 now,.int .i64 nl,.int .i64 nx,.slice a1 n1 c1,.slice a2 n2 c2,.slice a3 n3 c3,.slice va V.length vc] 62)) ((hST.items.mono hBV).below hbT) ((hST.lots.mono hBV).below hbT) (hinV.below hbT) (by omega) (heap_alloc_new _ _) Hl.out HNOW.out (by rw[<- HlX.out];omega) (by omega) (Nat.le_trans hVl (Nat.le_trans (Nat.mul_le_mul HFle.out (show X.length<=5000 by rw[<- HlX.out];exact h1)) (by decide))) (fun x hx=>(hST.sz x hx).2)
     rw[<- HE2.out,<- hRR] at this
     unfold LineV.val encStr at this
     exact this)
    have E:=Lib.hid hRR.symm
    clear hV hRR HE2
    go_region_law (first | (refine step_call (f:=14) (args:=#[.slice a1 n1 c1,.slice ad m cd]) rfl (run_fn2 rfl rfl ent_Wants _ rfl rfl) ?_;refine (HWn.out _ bd0.out).mono ?_;rintro e wV ⟨⟨⟨va,vc,rfl,hoV⟩,hbV⟩,hVl,hVf⟩;have bV:=Lib.hid (bd0.out.trans (hbV.mono bd0.out.size));have HT:=Lib.hid (HTB.out wV bV.out va vc hoV hVl hVf);obtain⟨s0,s1,s2,s3,s4,s5⟩:=stObj_cells (HAD.out _ bV.out).1;obtain⟨t0,t1,t2,t3,t4,t5,t6,t7⟩:=lineObj_cells (HAD.out _ bV.out).2.1;obtain⟨u0,u1,u2,u3,u4,u5,u6,u7⟩:=lineObj_cells (HAD.out _ HT.out.1).2.1;clear hoV hbV hVl hVf;refine⟨_,rfl,?_⟩) | (refine step_call (f:=38) (args:=#[.pointer (some ⟨wV.heap.size,0,none⟩),.agg #[.int .i64 id,.string ⟨item.toArray⟩,.int .i64 qty,.int .i64 asked,.int .i64 rank,.int .u8 1,.int .i64 day,.string ⟨code.toArray⟩]]) rfl (run_fn2 rfl rfl ent_prom _ rfl rfl) ?_;refine HT.out.2.mono ?_;rintro e wR ⟨rfl,hbR⟩;have bR:=Lib.hid (HT.out.1.trans (hbR.mono HT.out.1.size));obtain⟨-,-,kzz,hbz,-⟩:=HAD.out wR bR.out;obtain⟨z0,z1,z2,z3,z4,z5,z6,z7⟩:=lineObj_cells kzz;obtain⟨fz0,fz1,fz2,fz3,fz4,fz5,fz6,fz7⟩:=line_frozen8 kzz;have KZ:=Lib.hid kzz;have HBZ:=Lib.hid hbz;clear kzz hbz hbR;refine⟨_,rfl,?_⟩))
    all_goals clear HW0 HAt HNow HRi HAD HTB HinD OD HFok
    all_goals iterate 2 go_step
    all_goals exact one_fin w wR (w.heap.size+1+1) (by omega) KZ.out HBZ.out _ rid ritem rqty rasked rrank rst rday rcode (fun W' hb=>⟨by rw[E.out],hb⟩) _ _ _ _ _ _ _ _ _ _ _ _ _ _ _ _ _ _ _ _ _ _ _ _ _ _ _ _ _ _ _ _ _ 
   ·have hst:R=⟨id,item,qty,asked,rank,st,day,code⟩:=by rw[HR.out,if_neg (fun e=>hs e.2.2)]
    have E:=Lib.hid hst
    clear hst
    rw[hnw] at HNow
    rw[hri] at HRi
    clear hnw hri
    go_enter Tryz.func11,Tryz.ntmps11
    go_upto_region 1 with (fail)
    have HW:=HW0.out
    simp only[List.toArray] at HW
    rw[HW]
    clear HW
    go_upto_region 2 with (first | (go_at_call 34;refine (HNow.out _).mono ?_;rintro e wA ⟨rfl,hbA⟩;have BA:=Lib.hid hbA;obtain⟨-,ka,-⟩:=HAt.out wA hbA;obtain⟨la0,la1,la2,la3,la4,la5,la6,la7⟩:=lineObj_cells ka;clear hbA ka) | (go_at_call 21;refine (HRi.out _).mono ?_;rintro e wB ⟨rfl,hbB⟩;have BB:=Lib.hid (BA.out.trans (hbB.mono BA.out.size));obtain⟨-,kb,-⟩:=HAt.out wB (BA.out.trans (hbB.mono BA.out.size));obtain⟨lb0,lb1,lb2,lb3,lb4,lb5,lb6,lb7⟩:=lineObj_cells kb;clear hbB kb))
    obtain⟨-,-,kzz,hbz,-⟩:=HAt.out wB BB.out
    obtain⟨z0,z1,z2,z3,z4,z5,z6,z7⟩:=lineObj_cells kzz
    obtain⟨fz0,fz1,fz2,fz3,fz4,fz5,fz6,fz7⟩:=line_frozen8 kzz
    have KZ:=Lib.hid kzz
    have HBZ:=Lib.hid hbz
    clear kzz hbz
    go_wp2_with (fail)
    have hput:(put8 wB (w.heap.size+2) id item qty asked rank st day code).heap[w.heap.size+2]? = some (lineObj id item qty asked rank st day code):=put8_at KZ.out _ _ _ _ _ _ _ _
    have hbel:Below w.heap.size w (put8 wB (w.heap.size+2) id item qty asked rank st day code):=put8_below HBZ.out _ _ _ _ _ _ _ _ _ (by omega)
    obtain⟨W9,hW9⟩:∃ V,V=put8 wB (w.heap.size+2) id item qty asked rank st day code:=⟨_,rfl⟩
    rw[<- hW9] at hput hbel
    unfold put8 at hW9
    rw[<- hW9]
    unfold lineObj at hput
    refine bodyPost_ret (results_cell_row (P:=Tryz.prog) (fn:=Tryz.f11) (p:=4) (ty:=29) rfl _ W9 (w.heap.size+2) 29 _ (0,0) _ rfl hput Tryz.underlying29 rfl (by kernel_rfl)) rfl ?_
    exact⟨by rw[E.out],hbel⟩
end Go.Proofs.YtgplnekpgdhcpaaGreat
namespace Go.Proofs.YtgplnekpgdhcpaaGreat
open Go.Proofs Go.Shelf Go.RowKit Go.Lib Go.Sort
structure StM (P:Program) (k:Nat):Prop where
 mixed:P.follows .mixedOrders=true
 late:P.follows .lateStores=true
 unsure:P.follows .lateStoresUnsure=true
 fSwap:P.funcs[181]? = some Tryz.f181
 fRot:P.funcs[158]? = some Tryz.f158
 fSym:P.funcs[127]? = some Tryz.f127
 t0:P.underlying 0=some (TypeDesc.tuple #[])
 a0:∀ w,(isAgg 0).run P w = .ok false w
 z0:∀ w,(Go.sizeOf 0).run P w = .ok 1 w
 v0:∀ w,(zeroValue 0).run P w = .ok (Value.tuple #[]) w
 t3:P.underlying 3=some (TypeDesc.int IntKind.i64)
 a3:∀ w,(isAgg 3).run P w = .ok false w
 z3:∀ w,(Go.sizeOf 3).run P w = .ok 1 w
 v3:∀ w,(zeroValue 3).run P w = .ok (Value.int IntKind.i64 0) w
 t4:P.underlying 4=some (TypeDesc.bool)
 a4:∀ w,(isAgg 4).run P w = .ok false w
 z4:∀ w,(Go.sizeOf 4).run P w = .ok 1 w
 v4:∀ w,(zeroValue 4).run P w = .ok (Value.bool false) w
 t22:P.underlying 24=some (TypeDesc.slice 29)
 a22:∀ w,(isAgg 24).run P w = .ok false w
 z22:∀ w,(Go.sizeOf 24).run P w = .ok 1 w
 v22:∀ w,(zeroValue 24).run P w = .ok (Value.slice none 0 0) w
 a25:∀ w,(isAgg 91).run P w = .ok false w
 z25:∀ w,(Go.sizeOf 91).run P w = .ok 1 w
 v25:∀ w,(zeroValue 91).run P w = .ok (Value.nilFunc) w
 t35:P.underlying 148=some (TypeDesc.int IntKind.u64)
 a35:∀ w,(isAgg 148).run P w = .ok false w
 z35:∀ w,(Go.sizeOf 148).run P w = .ok 1 w
 v35:∀ w,(zeroValue 148).run P w = .ok (Value.int IntKind.u64 0) w
 aE:∀ w,(isAgg 29).run P w = .ok true w
 zE:∀ w,(Go.sizeOf 29).run P w = .ok k w
section
variable {P:Program} {α:Type} [Inhabited α]
set_option maxHeartbeats 4000000 in
set_option maxRecDepth 1000000 in
theorem swapRangeM (k:Nat) (L:StM P k) (enc:α->List Value) (fv:Value) (blk off cap a b n sz:Nat) (d0 d:Array α) (w0 w:World)
  (R:RowK enc k w0 blk off d0) (h0:d0.size=sz) (hs:d.size=sz) (S:SWK enc k w0 blk off d w) (hab:a+n<=b) (hb:b+n<=sz) (hsz:sz < 4611686018427387904) :
  Calls P 181 #[.slice (some ⟨blk,off,none⟩) sz cap,.int .i64 a,.int .i64 b,.int .i64 n,fv] w fun e w'=>e = .returned (.tuple #[])/\∃ d',d'.size=sz/\SWK enc k w0 blk off d' w'/\(∀ x,d'[x]! = swF d a b n x)/\∀ A B,A<=a->b+n<=B->B<=sz->PermIn A B d d':=by
 have mixed:=L.mixed;have late:=L.late;have unsure:=L.unsure
 have t0:=L.t0;have a0:=L.a0;have z0:=L.z0;have v0:=L.v0;have t3:=L.t3;have a3:=L.a3;have z3:=L.z3;have v3:=L.v3;have t4:=L.t4;have a4:=L.a4;have z4:=L.z4;have v4:=L.v4;have t22:=L.t22;have a22:=L.a22;have z22:=L.z22;have v22:=L.v22;have t35:=L.t35;have a35:=L.a35;have z35:=L.z35;have v35:=L.v35;have a25:=L.a25;have z25:=L.z25;have v25:=L.v25
 have u0:=run_underlying L.t0;have u3:=run_underlying L.t3;have u4:=run_underlying L.t4;have u22:=run_underlying L.t22;have u35:=run_underlying L.t35
 have aE:=L.aE;have zE:=L.zE
 have FG:=L.fSwap
 have S0:Aside (SWK enc k w0 blk off d w):=S
 have HS:Aside (d.size=sz):=hs
 clear S
 go_enter FG,Tryz.ntmps181
 go_wp2
 go_loopg [10] n (fun kx s10 wr=>∃ (i:Nat) (dk:Array α),s10 = .int .i64 i/\i<=n/\n - i<=kx/\dk.size=sz/\Aside (SWK enc k w0 blk off dk wr)/\Aside (∀ x,dk[x]! = swF d a b i x)/\Aside (∀ A B,A<=a->b+n<=B->B<=sz->PermIn A B d dk))
 case atStart=>exact⟨0,d,rfl,Nat.zero_le _,by omega,hs,S0,(fun x=>(swF_zero d a b x).symm:_),(fun A B _ _ _=>permIn_refl d A B:_)⟩
 case round =>
  clear S0
  obtain⟨i,dk,rfl,hi,hkx,hds,S1,X1,P1⟩:=hrel
  by_cases hlt:i < n
  ·have hltz:(i:Int) < (n:Int):=by omega
   go_wp2_with fail
   have ea44:((a:Int)+(i:Int)).toNat=a+i:=by omega
   have pa44:(0:Int)<=(a:Int)+(i:Int):=by omega
   have ba44:(a:Int)+(i:Int) < (sz:Int):=by omega
   have ra44:IntKind.i64.wrap ((a:Int)+(i:Int))=(a:Int)+(i:Int):=by rw[IntKind.wrap_i64];omega
   have ec44:((b:Int)+(i:Int)).toNat=b+i:=by omega
   have pc44:(0:Int)<=(b:Int)+(i:Int):=by omega
   have bc44:(b:Int)+(i:Int) < (sz:Int):=by omega
   have rc44:IntKind.i64.wrap ((b:Int)+(i:Int))=(b:Int)+(i:Int):=by rw[IntKind.wrap_i64];omega
   have S2:Aside (SWK enc k w0 blk off (swp dk (a+i) (b+i)) ((wr.drew.setCells blk (off+(a+i) * k) (enc dk[b+i]!)).setCells blk (off+(b+i) * k) (enc dk[a+i]!))):=S1.out.swapped R (a+i) (b+i) (by omega) (by omega)
   have l44a:=S1.out.ld1 R (by omega) P (a+i) (by omega)
   have l44b:=S1.out.ld1 R (by omega) P (b+i) (by omega)
   have s44a:=S1.out.st1 R (by omega) P (a+i) (by omega) dk[b+i]!
   have s44b:=S1.out.st2 R (by omega) P (a+i) (b+i) (by omega) (by omega) dk[b+i]! dk[a+i]!
   have n44a:(enc dk[a+i]!).length=k:=R.hk _
   have n44b:(enc dk[b+i]!).length=k:=R.hk _
   generalize enc dk[a+i]! = cI44 at S2 l44a s44b n44a
   generalize enc dk[b+i]! = cJ44 at S2 l44b s44a s44b n44b
   clear S1
   go_wp2_with fail
   go_big_region_o
   clear l44a l44b s44a s44b
   generalize (wr.drew.setCells blk (off+(a+i) * k) cJ44).setCells blk (off+(b+i) * k) cI44=w2 at S2 ⊢
   go_wp2
   go_roundg (n - (i+1))
   case measure=>omega
   case rel=>exact⟨i+1,swp dk (a+i) (b+i),by go_num,by omega,Nat.le_refl _,by rw[size_swp];exact hds,S2,swF_step (by rw[hds,HS.out]) hab (by rw[HS.out];exact hb) hlt X1.out,fun A B h1 h2 h3=>swap_in (P1.out A B h1 h2 h3) (by omega) (by omega) (by omega) (by omega) (by rw[HS.out];exact h3)⟩
  ·have hi2:i=n:=by omega
   subst hi2
   go_wp2
   go_end0
   exact⟨rfl,dk,hds,S1.out,X1.out,P1.out⟩
set_option maxHeartbeats 4000000 in
set_option maxRecDepth 1000000 in
theorem rotateM (k:Nat) (L:StM P k) (enc:α->List Value) (fv:Value) (blk off cap a m b sz:Nat) (d0 d:Array α) (w0 w:World)
  (R:RowK enc k w0 blk off d0) (h0:d0.size=sz) (hs:d.size=sz) (S:SWK enc k w0 blk off d w) (ham:a < m) (hmb:m < b) (hb:b<=sz) (hsz:sz < 4611686018427387904) :
  Calls P 158 #[.slice (some ⟨blk,off,none⟩) sz cap,.int .i64 a,.int .i64 m,.int .i64 b,fv] w fun e w'=>e = .returned (.tuple #[])/\∃ d',d'.size=sz/\SWK enc k w0 blk off d' w'/\(∀ x,d'[x]! = rotF d a m b x)/\PermIn a b d d':=by
 have HSR:Hid (∀ (x y n:Nat) (dk:Array α) (W:World),dk.size=sz->SWK enc k w0 blk off dk W->x+n<=y->y+n<=sz->Calls P 181 #[.slice (some ⟨blk,off,none⟩) sz cap,.int .i64 x,.int .i64 y,.int .i64 n,fv] W fun e w'=>e = .returned (.tuple #[])/\∃ d',d'.size=sz/\SWK enc k w0 blk off d' w'/\(∀ z,d'[z]! = swF dk x y n z)/\∀ A B,A<=x->y+n<=B->B<=sz->PermIn A B dk d'):=Lib.hid fun x y n dk W h1 h2 h3 h4=>swapRangeM k L enc fv blk off cap x y n sz d0 dk w0 W R h0 h1 h2 h3 h4 hsz
 have mixed:=L.mixed;have late:=L.late;have unsure:=L.unsure
 have t0:=L.t0;have a0:=L.a0;have z0:=L.z0;have v0:=L.v0;have t3:=L.t3;have a3:=L.a3;have z3:=L.z3;have v3:=L.v3;have t4:=L.t4;have a4:=L.a4;have z4:=L.z4;have v4:=L.v4;have t22:=L.t22;have a22:=L.a22;have z22:=L.z22;have v22:=L.v22;have t35:=L.t35;have a35:=L.a35;have z35:=L.z35;have v35:=L.v35;have a25:=L.a25;have z25:=L.z25;have v25:=L.v25
 have u0:=run_underlying L.t0;have u3:=run_underlying L.t3;have u4:=run_underlying L.t4;have u22:=run_underlying L.t22;have u35:=run_underlying L.t35
 have aE:=L.aE;have zE:=L.zE
 have eS:∀ args w,(callFunc 181 args).run P w = .ok (.enter 181 args) w:=enters_of L.fSwap (by kernel_rfl) rfl
 have FG:=L.fRot
 have S0:Aside (SWK enc k w0 blk off d w):=S
 clear S R
 have rA:IntKind.i64.wrap ((m:Int) - (a:Int))=((m - a:Nat):Int):=by rw[IntKind.wrap_i64];omega
 have rB:IntKind.i64.wrap ((b:Int) - (m:Int))=((b - m:Nat):Int):=by rw[IntKind.wrap_i64];omega
 go_enter FG,Tryz.ntmps158
 go_wp2
 go_loopg [10,11] b (fun kx s10 s11 wr=>∃ (i j:Nat) (dk:Array α),s10 = .int .i64 i/\s11 = .int .i64 j/\0 < i/\0 < j/\i+a<=m/\m+j<=b/\i+j<=kx/\dk.size=sz/\Aside (SWK enc k w0 blk off dk wr)/\Aside (∀ x,rotF dk (m - i) m (m+j) x=rotF d a m b x)/\Aside (PermIn a b d dk))
 case atStart=>exact⟨m - a,b - m,d,by go_num,by go_num,by omega,by omega,by omega,by omega,by omega,hs,S0,(fun x=>by rw[show m - (m - a)=a by omega,show m+(b - m)=b by omega]:_),(permIn_refl d a b:_)⟩
 case round =>
  clear S0 rA rB
  obtain⟨i,j,dk,rfl,rfl,hi,hj,him,hjb,hkx,hds,S1,X1,P1⟩:=hrel
  have rm:IntKind.i64.wrap ((m:Int) - (i:Int))=((m - i:Nat):Int):=by rw[IntKind.wrap_i64];omega
  by_cases hij:i=j
  ·subst hij
   have hC:=Lib.hid (HSR.out (m - i) m i dk wr hds S1.out (by omega) (by omega))
   go_wp2_with (first | (go_at_call 181;refine hC.out.mono ?_;rintro e w9 ⟨rfl,d',q1,q2,q3,q4⟩))
   go_end0
   refine⟨rfl,d',q1,q2,fun x=>?_,permIn_trans _ _ _ _ _ P1.out (q4 a b (by omega) (by omega) hb)⟩
   rw[<- X1.out]
   exact rot_eq (by omega) q3 x
  ·by_cases hgt:j < i
   ·have hC:=Lib.hid (HSR.out (m - i) m j dk wr hds S1.out (by omega) (by omega))
    have hne:¬ (i:Int)=(j:Int):=by omega
    have hgz:(j:Int) < (i:Int):=by omega
    have rij:IntKind.i64.wrap ((i:Int) - (j:Int))=((i - j:Nat):Int):=by rw[IntKind.wrap_i64];omega
    go_wp2_with (first | (go_at_call 181;refine hC.out.mono ?_;rintro e w9 ⟨rfl,d',q1,q2,q3,q4⟩;have Q:Aside (SWK enc k w0 blk off d' w9/\(∀ z,d'[z]! = swF dk (m - i) m j z)/\∀ A B,A<=m - i->m+j<=B->B<=sz->PermIn A B dk d'):=⟨q2,q3,q4⟩;clear q2 q3 q4))
    go_roundg (i - j+j)
    case measure=>omega
    case rel=>exact⟨i - j,j,d',by go_num,by go_num,by omega,hj,by omega,hjb,by omega,q1,Q.out.1,fun x=>(rot_gt hj hgt (by omega) Q.out.2.1 x).trans (X1.out x),permIn_trans _ _ _ _ _ P1.out (Q.out.2.2 a b (by omega) (by omega) hb)⟩
   ·have hC:=Lib.hid (HSR.out (m - i) (m+j - i) i dk wr hds S1.out (by omega) (by omega))
    have hne:¬ (i:Int)=(j:Int):=by omega
    have hgz:¬ (j:Int) < (i:Int):=by omega
    have rij:IntKind.i64.wrap ((j:Int) - (i:Int))=((j - i:Nat):Int):=by rw[IntKind.wrap_i64];omega
    have rmj:IntKind.i64.wrap ((m:Int)+(j:Int))=(m:Int)+(j:Int):=by rw[IntKind.wrap_i64];omega
    have rmi:IntKind.i64.wrap ((m:Int)+(j:Int) - (i:Int))=((m+j - i:Nat):Int):=by rw[IntKind.wrap_i64];omega
    go_wp2_with (first | (go_at_call 181;refine hC.out.mono ?_;rintro e w9 ⟨rfl,d',q1,q2,q3,q4⟩;have Q:Aside (SWK enc k w0 blk off d' w9/\(∀ z,d'[z]! = swF dk (m - i) (m+j - i) i z)/\∀ A B,A<=m - i->m+j - i+i<=B->B<=sz->PermIn A B dk d'):=⟨q2,q3,q4⟩;clear q2 q3 q4))
    go_roundg (i+(j - i))
    case measure=>omega
    case rel=>exact⟨i,j - i,d',by go_num,by go_num,hi,by omega,him,by omega,by omega,q1,Q.out.1,fun x=>(rot_lt hi (by omega) (by omega) Q.out.2.1 x).trans (X1.out x),permIn_trans _ _ _ _ _ P1.out (Q.out.2.2 a b (by omega) (by omega) hb)⟩
end
end Go.Proofs.YtgplnekpgdhcpaaGreat
