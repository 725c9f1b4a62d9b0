/- flow.fill: the second half of its walk. (Printed by gen/fillt.py.) -/
import Derived.Test.YtgplnekpgdhcpaaGreatQFillQ
namespace Go.Proofs.YtgplnekpgdhcpaaGreat
open Go.RowKit Go.Sort Go.Shelf
set_option maxHeartbeats 8000000 in
set_option maxRecDepth 100000 in
theorem fill_tail (B:Nat) (a a2:Option Addr) (n c n2 c2 mb:Nat) (L:List LotV) (W:List WantV) (w wr:World) (F:List UInt8->Value) (hw:wantE.In B w a2 n2 c2 W) (hB:B<=w.heap.size) (hmw:w.heap.size<=mb) (hbw:Below w.heap.size w wr) (hm:mayB L W=true) (hok:∀ l∈L,okLot l)
  (hM:MI wr mb n (.int .i64 0) (leftV (left0 L))) (hn:n=L.length) (hF:MF wr (mb+1) n (.slice none 0 0) F) (hI:Items (mb+2) wr F (srt L)) (sl2 sl3 sl4 sl5 sl6 sl9 sl10 sl11 sl12 sl13 sl14 sl15 sl16 sl17 sl18 sl19 sl20 sl21 sl22 sl23 sl24 sl25 sl26 sl27 sl28 sl29 sl30 sl31 sl32 sl33 sl34 sl35 sl36 sl37 sl38 sl39 sl40 sl41 sl42 sl43 sl44 sl45 sl46 sl47 sl48 sl49 sl50 sl51 sl52 sl53 sl54 sl55 sl56 sl57 sl58 sl59 sl60 sl61 sl62 sl63 sl64 sl65 sl66 sl67 sl68 sl69 sl70 sl71 sl72 sl73 sl74 sl75 sl76 sl77 sl78 sl79 sl80 sl81 sl82 sl83 sl84 sl85 sl86 sl87 sl88 sl89 sl90 sl91 sl92 sl93 sl94 sl95 sl96 sl97 sl98 sl99 sl100 sl101 sl102 sl103 sl104 sl105 sl106 sl107 sl108:Value) :
  Code.wp Tryz.prog (dropQ 5 (Tryz.f53.body.getD .skip)) (bodyPost Tryz.prog Tryz.f53 fun e w'=>FillPost w L W e w') ⟨List.toArray (.slice a n c :: .slice a2 n2 c2 :: sl2 :: sl3 :: sl4 :: sl5 :: sl6 :: .map (some mb) :: .map (some (mb+1)) :: sl9 :: sl10 :: sl11 :: sl12 :: sl13 :: sl14 :: sl15 :: sl16 :: sl17 :: sl18 :: sl19 :: sl20 :: sl21 :: sl22 :: sl23 :: sl24 :: sl25 :: sl26 :: sl27 :: sl28 :: sl29 :: sl30 :: sl31 :: sl32 :: sl33 :: sl34 :: sl35 :: sl36 :: sl37 :: sl38 :: sl39 :: sl40 :: sl41 :: sl42 :: sl43 :: sl44 :: sl45 :: sl46 :: sl47 :: sl48 :: sl49 :: sl50 :: sl51 :: sl52 :: sl53 :: sl54 :: sl55 :: sl56 :: sl57 :: sl58 :: sl59 :: sl60 :: sl61 :: sl62 :: sl63 :: sl64 :: sl65 :: sl66 :: sl67 :: sl68 :: sl69 :: sl70 :: sl71 :: sl72 :: sl73 :: sl74 :: sl75 :: sl76 :: sl77 :: sl78 :: sl79 :: sl80 :: sl81 :: sl82 :: sl83 :: sl84 :: sl85 :: sl86 :: sl87 :: sl88 :: sl89 :: sl90 :: sl91 :: sl92 :: sl93 :: sl94 :: sl95 :: sl96 :: sl97 :: sl98 :: sl99 :: sl100 :: sl101 :: sl102 :: sl103 :: sl104 :: sl105 :: sl106 :: sl107 :: sl108 :: []),[]⟩ wr:=by
 obtain⟨m1,m2,m3,m4,m5⟩:=mayB_iff.1 hm
 have hn3:n<=300:=by omega
 have hn4:n2<=20000:=by have:=hw.len;omega
 have hle2:=hw.le;have hmx2:=hw.mx
 have Hln2:=Lib.hid hw.len
 have HW:=Lib.hid hw
 have HBW:=Lib.hid hbw
 have HFX:=Lib.hid (show fillX L W=fillF (srt L) W (dayO W) (left0 L) [] by unfold fillX;rw[if_pos hm])
 have M5:=Lib.hid m5
 have HD:=Lib.hid (days_any B a2 n2 c2 W wr (hw.below (hbw.mono hB)) (Nat.le_trans hB hbw.size) hn4 (fun x hx=>by have:=wantOk_iff.1 (m5 x hx);exact⟨this.2.1,this.2.2.1⟩))
 have hq0:FB (srt L) (left0 L):=fun l hl=>by
  have h1:=(srt_perm L).mem_iff.1 hl
  rw[left0_of m4 h1]
  have:=lotOk_iff.1 (m3 l h1)
  omega
 have HOK:Hid (∀ l∈srt L,lotOk l=true/\okLot l):=Lib.hid fun l hl=>⟨m3 l ((srt_perm L).mem_iff.1 hl),hok l ((srt_perm L).mem_iff.1 hl)⟩
 have HSL:Hid ((srt L).length<=300):=Lib.hid (by rw[(srt_perm L).length_eq];omega)
 have HQ0:=Lib.hid hq0
 have HM:=Lib.hid hM
 have HF:=Lib.hid hF
 have HI:=Lib.hid hI
 clear hw hbw hok m1 m2 m3 m4 m5 hq0 hM hF hI hm hn
 generalize srt L=S at HFX HQ0 HOK HSL HI
 conv=>arg 2;whnf
 go_wp2_with (go_at_call 89;refine HD.out.mono ?_;rintro e w6 ⟨⟨gr,rfl,hrow⟩,hb6⟩)
 have hwr:mb+1 < wr.heap.size:=HF.out.lt
 have hs6:=hb6.size
 have hgr:=Tx.rows_ge hrow gr rfl
 have hgr1:wr.heap.size<=gr:=by have:=HD;exact (rowsBase hrow)
 have HROW:=Lib.hid hrow
 have HB6:Hid (Below w.heap.size w w6):=Lib.hid (HBW.out.trans (hb6.mono HBW.out.size))
 have HM6:Hid (MI w6 mb n (.int .i64 0) (leftV (left0 L))):=Lib.hid (HM.out.below hb6 HM.out.lt)
 have HF6:Hid (MF w6 (mb+1) n (.slice none 0 0) F):=Lib.hid (HF.out.below hb6 HF.out.lt)
 have HI6:Hid (Items (mb+2) w6 F S):=Lib.hid (HI.out.below hb6)
 clear hrow hb6 HD HM HF HI HBW
 go_loopw [11,51] (fun s11 s51 V=>∃ (j cnt:Nat) (f:Int->Int) (U:List UseV),s51 = .int .i64 j/\j<=n2/\cnt<=400+j * 400/\U.length<=j * 300/\Hid (useE.Own w6.heap.size V s11 U)/\Hid (MI V mb cnt (.int .i64 0) (leftV f))/\Hid (FB S f)/\Hid (fillX L W=fillF S W ((dayO W).drop j) f U)/\Hid (OnlyB mb w6 V)) (fun _ s51 _=>n2 - (intOf s51).toNat)
 case atStart=>exact⟨0,n,left0 L,[],by go_num,Nat.zero_le _,by omega,by simp,Lib.hid (El.Own.nil useE _ _),HM6,HQ0,Lib.hid (by rw[List.drop_zero];exact HFX.out),Lib.hid (OnlyB.refl _ _)⟩
 case round =>
  clear HM6 HQ0 HFX
  obtain⟨V,rfl⟩:∃ z,z=wr:=⟨_,rfl⟩
  obtain⟨j,cnt,f,U,rfl,hj,hcnt,hU,HOw,HMv,HFb,HFx,HOn⟩:=hrel
  by_cases hlt:j < n2
  ·obtain⟨i,hi⟩:∃ i,(dayO W)[j]? = some i:=⟨_,List.getElem?_eq_getElem (by rw[dayO_len];have:=Hln2.out;omega)⟩
   have hin:i < n2:=by have:=dayO_mem.1 (List.mem_of_getElem? hi);have:=Hln2.out;omega
   have hdr:(dayO W).drop j=i :: (dayO W).drop (j+1):=by
    obtain⟨h1,h2⟩:=List.getElem?_eq_some_iff.1 hi
    rw[List.drop_eq_getElem_cons h1,h2]
   have hst:=fillF_cons S W i ((dayO W).drop (j+1)) f U
   rw[<- hdr,<- HFx.out] at hst
   have HBV:Hid (Below w.heap.size w V):=Lib.hid (HB6.out.trans (HOn.out.belowB (by have:=HB6.out.size;omega) hmw))
   have hrc:V.cell? ⟨gr,j,none⟩=some (.int .i64 (i:Nat)):=by
    rw[HOn.out.cell (by omega) hgr.2,World.ownsRow.cellAt HROW.out j (by omega),List.getElem?_map,hi]
    rfl
   obtain⟨b,o,rfl,-,hc⟩:=wantE_at (HW.out.below (HBV.out.mono hB)) (by omega)
   obtain⟨g0,g1,g2⟩:=hc i hin
   clear hc
   have hwo:=wantOk_iff.1 (M5.out (W.getD i default) (by rw[List.getD_eq_getElem?_getD,List.getElem?_eq_getElem (by have:=Hln2.out;omega)];exact List.getElem_mem _))
   generalize W.getD i default=x at g0 g1 g2 hst hwo
   obtain⟨item,day,qty⟩:=x
   simp only at g0 g1 g2 hst hwo
   obtain⟨o1,o2,o3,o4,o5⟩:=hwo
   have hil:=Lib.hid (show item.length<=9223372036854775807 by have:=okCode_le o1;omega)
   have HST:=Lib.hid hst
   unfold encStr at g0
   clear hst hi hdr o1
   obtain⟨p,hp⟩:∃ p,p=V.heap.size:=⟨_,rfl⟩
   obtain⟨V1,hV1⟩:∃ Z,Z=V.alloc (.cells #[.string ⟨item.toArray⟩,.int .i64 day,.int .i64 qty] 71):=⟨_,rfl⟩
   have hp1:V1.heap[p]? = some (wantObj item day qty):=by rw[hV1,hp];exact heap_alloc_new _ _
   have bV1:Below V.heap.size V V1:=by rw[hV1];exact (Below.refl _ V).alloc (Nat.le_refl _) _
   have hs1:V1.heap.size=p+1:=by rw[hV1,World.size_alloc,hp]
   have hpp:w6.heap.size<=p:=by rw[hp];exact HOn.out.size
   obtain⟨y0,y1,y2⟩:=wantObj_cells hp1
   have HO1:Hid (OnlyB mb w6 V1):=Lib.hid (HOn.out.below bV1)
   have HM1:Hid (MI V1 mb cnt (.int .i64 0) (leftV f)):=Lib.hid (HMv.out.below bV1 HMv.out.lt)
   have HF1:Hid (MF V1 (mb+1) n (.slice none 0 0) F):=Lib.hid (HF6.out.block (HO1.out.block (mb+1) (by omega) HF6.out.lt))
   have HU1:Hid (useE.Own w6.heap.size V1 u11 (U ++ [])):=Lib.hid (by rw[List.append_nil];exact HOw.out.below bV1)
   have HUB:Hid (∀ b,u11.ownBlock=some b->b≠p):=Lib.hid (fun b e=>by have:=(HOw.out.ge b e).2;omega)
   have lk:=HF1.out.look Tryz.underlying118 (zeroLots _) item hil.out
   have HIo:=Lib.hid (HI6.out.own item)
   have HCL:Hid ((ofI S item).length<=300):=Lib.hid (by unfold ofI;have:=List.length_filter_le (fun l:LotV=>decide (l.item=item)) S;have:=HSL.out;omega)
   have HCO:Hid (∀ l∈ofI S item,(lotOk l=true/\okLot l)/\l∈S):=Lib.hid (fun l hl=>⟨HOK.out l (ofI_sub hl),ofI_sub hl⟩)
   obtain⟨va,vc,hFv,hvl,hvm,-⟩:=HIo.out.form
   generalize hC:ofI S item=C at HIo HCL HCO HST hFv hvl
   obtain⟨ni,hni⟩:∃ ni,ni=C.length:=⟨_,rfl⟩
   rw[<- hni] at hFv hvl
   rw[hFv] at lk HIo
   have HNI:=Lib.hid hni
   have HP1:=Lib.hid hp1
   have HV1:=Lib.hid hV1
   have HPV:=Lib.hid hp
   have hnl:ni<=300:=by have:=HCL.out;omega
   clear hC hFv hni hp1 bV1
   go_upto_region 16 with (fail)
   rw[<- HV1.out,<- hp]
   clear hV1 hp g0 g1 g2 hrc
   go_wp2_with (fail)
   clear lk y0 y1 y2
   go_loopw [11,15,66] (fun t11 t15 t66 Z=>∃ (k cnt':Nat) (f':Int->Int) (need:Int) (U1:List UseV),t66 = .int .i64 k/\t15 = .int .i64 need/\k<=ni/\cnt'<=400+j * 400+k/\U1.length<=k/\0<=need/\need<=1125899906842624/\Hid (useE.Own w6.heap.size Z t11 (U ++ U1))/\Hid (∀ b,t11.ownBlock=some b->b≠p)/\Hid (MI Z mb cnt' (.int .i64 0) (leftV f'))/\Hid (FB S f')/\Hid (pass day i C f qty=(U1 ++ (pass day i (C.drop k) f' need).1,(pass day i (C.drop k) f' need).2))/\Hid (OnlyB mb w6 Z)/\Hid (Z.heap[p]? = some (wantObj item day qty))/\p < Z.heap.size) (fun _ _ t66 _=>ni - (intOf t66).toNat)
   case atStart=>exact⟨0,cnt,f,qty,[],by go_num,rfl,Nat.zero_le _,by omega,Nat.zero_le _,by omega,o5,HU1,HUB,HM1,HFb,Lib.hid (by rw[List.drop_zero];rfl),HO1,HP1,by omega⟩
   case round =>
    clear HU1 HUB HM1 HO1 HP1 HF1 HFb HMv HOw
    obtain⟨Z,rfl⟩:∃ z,z=wr:=⟨_,rfl⟩
    obtain⟨k,cnt',f',need,U1,rfl,rfl,hk,hcnt',hU1,hn0,hnm,HOz,HUz,HMz,HFz,HPz,HNz,HWz,hpz⟩:=hrel
    by_cases hkl:k < ni
    ·have hkC:=Lib.hid (show k < C.length by rw[<- HNI.out];exact hkl)
     obtain⟨cg,hcg⟩:∃ g,va=some ⟨g,0,none⟩:=by
      obtain⟨a9,c9,e9,-,-,hg⟩:=HIo.out.form
      obtain⟨g,hg⟩:=hg (by have:=hkC.out;omega)
      injection e9 with e8
      exact⟨g,e8.trans hg⟩
     subst hcg
     have hcgb:=HIo.out.ge cg rfl
     have HIz:Hid (lotE.Own (mb+2) Z (.slice (some ⟨cg,0,none⟩) ni vc) C):=Lib.hid (HIo.out.keep fun b e=>by cases e;exact HNz.out.block cg (by omega) hcgb.2)
     obtain⟨e0,e1,e2,e3,e4,e5⟩:=lot_own_cells HIz.out hkl
     have hdrop:C.drop k=C.getD k default :: C.drop (k+1):=by rw[List.drop_eq_getElem_cons hkC.out,List.getD_eq_getElem?_getD,List.getElem?_eq_getElem hkC.out];rfl
     have hpz1:=HPz.out
     rw[hdrop,pass_cons] at hpz1
     have hco:=HCO.out (C.getD k default) (by rw[List.getD_eq_getElem?_getD,List.getElem?_eq_getElem hkC.out];exact List.getElem_mem _)
     have hfb:=HFz.out _ hco.2
     generalize C.getD k default=x at e0 e1 e2 e3 e4 e5 hpz1 hco hfb
     obtain⟨id,itm,fr,un,lq,arr⟩:=x
     simp only at e0 e1 e2 e3 e4 e5 hpz1 hco hfb
     have HID:=Lib.hid hco.1.2.1
     simp only at HID
     obtain⟨fi,hfi⟩:∃ v,v=f' id:=⟨_,rfl⟩
     rw[<- hfi] at hfb hpz1
     have HFI:=Lib.hid hfi
     unfold encStr at e1
     obtain⟨fb0,fb1⟩:=hfb
     have HPQ:=Lib.hid hpz1
     clear hpz1 hco hdrop hfi hcgb
     obtain⟨q,hq⟩:∃ q,q=Z.heap.size:=⟨_,rfl⟩
     obtain⟨Z1,hZ1⟩:∃ Y,Y=Z.alloc (.cells #[.int .i64 id,.string ⟨itm.toArray⟩,.int .i64 fr,.int .i64 un,.int .i64 lq,.bool arr] 50):=⟨_,rfl⟩
     have hq1:Z1.heap[q]? = some (lotObj id itm fr un lq arr):=by rw[hZ1,hq];exact heap_alloc_new _ _
     have bZ1:Below Z.heap.size Z Z1:=by rw[hZ1];exact (Below.refl _ Z).alloc (Nat.le_refl _) _
     have hsz1:Z1.heap.size=q+1:=by rw[hZ1,World.size_alloc,hq]
     have hqq:w6.heap.size<=q:=by rw[hq];exact HNz.out.size
     have hpq:p < q:=by omega
     obtain⟨y0,y1,y2,y3,y4,y5⟩:=lotObj_cells hq1
     have hw1:Z1.heap[p]? = some (wantObj item day qty):=(bZ1.block p hpz).trans HWz.out
     obtain⟨v0,v1,v2⟩:=wantObj_cells hw1
     -- what stands in every world that leaves what Z1 holds
     have HX:Hid (∀ Y,Below Z1.heap.size Z1 Y->Y.heap[q]? = some (lotObj id itm fr un lq arr)/\Y.heap[p]? = some (wantObj item day qty)/\MI Y mb cnt' (.int .i64 0) (leftV f')/\OnlyB mb w6 Y/\useE.Own w6.heap.size Y u11 (U ++ U1)/\q < Y.heap.size):=Lib.hid fun Y hb=>⟨(hb.block q (by omega)).trans hq1,(hb.block p (by omega)).trans hw1,(HMz.out.below bZ1 HMz.out.lt).below hb (by have:=HMz.out.lt;omega),(HNz.out.below bZ1).below hb,(HOz.out.below bZ1).below hb,by have:=hb.size;omega⟩
     have lk1:=(HMz.out.below bZ1 HMz.out.lt).look Tryz.underlying82 (zeroI64 _) id HID.out.1 HID.out.2
     unfold leftV at lk1
     rw[<- HFI.out] at lk1
     have HB1:=Lib.hid (HX.out Z1 (Below.refl _ _))
     have HZ1:=Lib.hid hZ1
     have HHas:=Lib.hid (fun Y=>winHas_any fr un day Y)
     clear hq1 bZ1 hw1
     go_upto_region 20 with (fail)
     rw[<- HZ1.out,<- hq]
     clear hZ1 hq e0 e1 e2 e3 e4 e5
     go_upto_region 21 with (fail)
     obtain⟨tk,htk⟩:∃ t,t=min need fi:=⟨_,rfl⟩
     have hpq2:=HPQ.out
     rw[<- htk] at hpq2
     rw[<- htk]
     have t0:0<=tk:=by omega
     have t1:tk<=need:=by omega
     have t2:tk<=fi:=by omega
     clear lk1 y0 y1 y2 y3 y4 y5 v0 v1 v2 htk HPQ
     obtain⟨hq1,hw1,hM1,hO1,hU1',hqz⟩:=HB1.out
     obtain⟨y0,y1,y2,y3,y4,y5⟩:=lotObj_cells hq1
     obtain⟨v0,v1,v2⟩:=wantObj_cells hw1
     have K1:=Lib.hid (And.intro hq1 (And.intro hw1 (And.intro hM1 (And.intro hO1 hU1'))))
     clear hq1 hw1 hM1 hO1 hU1'
     by_cases ht:tk=0
     ·rw[if_pos (.inl ht)] at hpq2
      have HP2:=Lib.hid hpq2
      have hb0:(tk == 0)=true:=by simp[ht]
      have HT:=Lib.hid ht
      clear hpq2 ht
      go_wp2_with (fail)
      go_roundw
      case rel=>exact⟨k+1,cnt',f',need,U1,by go_num,rfl,by omega,by omega,by omega,hn0,hnm,Lib.hid K1.out.2.2.2.2,HUz,Lib.hid K1.out.2.2.1,HFz,HP2,Lib.hid K1.out.2.2.2.1,Lib.hid K1.out.2.1,by omega⟩
      case measure=>simp[intOf];omega
     ·have hb0:(tk == 0)=false:=by simp[ht]
      cases hh:hasW fr un day with
      | false =>
       rw[if_pos (.inr hh)] at hpq2
       rw[hh] at HHas
       have HP2:=Lib.hid hpq2
       clear hpq2 ht hh
       go_wp2_with (go_at_call 82;refine (HHas.out _).mono ?_;rintro e w9 ⟨rfl,hb9⟩;have K9:=Lib.hid (HX.out w9 hb9);clear hb9)
       go_roundw
       case rel=>exact⟨k+1,cnt',f',need,U1,by go_num,rfl,by omega,by omega,by omega,hn0,hnm,Lib.hid K9.out.2.2.2.2.1,HUz,Lib.hid K9.out.2.2.1,HFz,HP2,Lib.hid K9.out.2.2.2.1,Lib.hid K9.out.2.1,by have:=K9.out.2.2.2.2.2;omega⟩
       case measure=>simp[intOf];omega
      | true =>
       rw[if_neg (fun e=>by rcases e with e | e;exact ht e;rw[hh] at e;cases e)] at hpq2
       rw[hh] at HHas
       have HP2:=Lib.hid hpq2
       have t3:0 < tk:=by omega
       clear hpq2 ht hh
       obtain⟨oa,oc,hu11,-,-,-⟩:=HOz.out.form
       obtain⟨no,hno⟩:∃ m,m=(U ++ U1).length:=⟨_,rfl⟩
       rw[<- hno] at hu11
       subst hu11
       have HNO:=Lib.hid hno
       have hnob:no<=20000000:=by have:=hno;rw[List.length_append] at this;omega
       clear hno
       have wl:IntKind.i64.wrap (fi - tk)=fi - tk:=wrap_in (by omega) (by omega)
       have wn:IntKind.i64.wrap (need - tk)=need - tk:=wrap_in (by omega) (by omega)
       go_upto_region 22 with (go_at_call 82;refine (HHas.out _).mono ?_;rintro e w9 ⟨rfl,hb9⟩;have K9:=Lib.hid (HX.out w9 hb9);clear hb9)
       clear y0 y1 y2 y3 y4 y5 v0 v1 v2
       obtain⟨hq9,hw9,hM9,hO9,hU9,hqz9⟩:=K9.out
       obtain⟨y0,y1,y2,y3,y4,y5⟩:=lotObj_cells hq9
       have lk2:=hM9.look Tryz.underlying82 (zeroI64 _) id HID.out.1 HID.out.2
       unfold leftV at lk2
       rw[<- HFI.out] at lk2
       have HM9:=Lib.hid hM9
       have HQ9:=Lib.hid hq9
       have HW9:=Lib.hid hw9
       have HO9:=Lib.hid hO9
       have HU9:=Lib.hid hU9
       clear hq9 hw9 hM9 hO9 hU9
       go_upto_region 23 with (at_mapUpdate;refine wpList_put_mi rfl _ _ _ 82 rfl Tryz.underlying82 HM9.out (by omega) id (.int .i64 (fi - tk)) rfl rfl rfl HID.out.1 HID.out.2 ?_;intro w10 hM10 hg10)
       have hor:∀ b,(Value.slice oa no oc).ownBlock=some b->w6.heap.size<=b:=fun b e=>(HU9.out.ge b e).1
       have hq10:w10.heap[q]? = some (lotObj id itm fr un lq arr):=(hg10.block q (by omega) (fun e=>by have:=Option.some.inj e;omega)).trans HQ9.out
       have hw10:Hid (w10.heap[p]? = some (wantObj item day qty)):=Lib.hid ((hg10.block p (by omega) (fun e=>by have:=Option.some.inj e;omega)).trans HW9.out)
       have hO10:Hid (OnlyB mb w6 w10):=Lib.hid (HO9.out.grown hg10 (fun b e=>.inl (Option.some.inj e).symm))
       have hU10:Hid (useE.Own w6.heap.size w10 (.slice oa no oc) (U ++ U1)):=Lib.hid (HU9.out.keep fun b e=>hg10.block b (HU9.out.ge b e).2 (fun e2=>by have:=Option.some.inj e2;have:=hor b e;omega))
       have hM10':Hid (MI w10 mb (cnt' + 1) (.int .i64 0) (leftV (upd f' id (fi - tk)))):=Lib.hid (by rw[<- leftV_upd];exact hM10)
       have hs10:q < w10.heap.size:=by have:=hg10.size;omega
       clear y0 y1 y2 y3 y4 y5 lk2 hM10 hg10
       obtain⟨y0,y1,y2,y3,y4,y5⟩:=lotObj_cells hq10
       have hF2:Hid (FB S (upd f' id (fi - tk))):=Lib.hid (by rw[HFI.out];exact HFz.out.upd id tk (by rw[<- HFI.out];omega) (by rw[<- HFI.out];omega))
       have hUA:Hid (useE.Own w6.heap.size (w10.alloc (.cells #[.int .i64 (i:Nat),.int .i64 id,.int .i64 tk] 106)) (.slice oa no oc) (U ++ U1)):=Lib.hid (hU10.out.below ((Below.refl _ w10).alloc (Nat.le_refl _) _))
       go_wp2_with (at_builtin;refine El.wpList_append1 useE rfl _ _ rfl w6.heap.size (.slice oa no oc) (U ++ U1) ⟨(i:Nat),id,tk⟩ (no+1) (by rw[HNO.out]) rfl hUA.out _ 1 rfl (useE_lit _ ⟨(i:Nat),id,tk⟩ _) (by rw[World.size_alloc];omega) (by have:=HNO.out;omega) ?_;intro g4 c4 w4 hown4 hg4 hgg4;have O4:=Lib.hid hown4;have G4:=Lib.hid hg4;have GG4:=Lib.hid hgg4;clear hown4 hg4 hgg4)
       have GA:Hid ((w10.alloc (.cells #[.int .i64 (i:Nat),.int .i64 id,.int .i64 tk] 106)).grownBy w4 (Value.slice oa no oc).ownBlock):=G4
       have hA:Below w10.heap.size w10 (w10.alloc (.cells #[.int .i64 (i:Nat),.int .i64 id,.int .i64 tk] 106)):=(Below.refl _ w10).alloc (Nat.le_refl _) _
       have hsA:(w10.alloc (.cells #[.int .i64 (i:Nat),.int .i64 id,.int .i64 tk] 106)).heap.size=w10.heap.size+1:=World.size_alloc _ _
       go_roundw
       case rel =>
        refine⟨k+1,cnt' + 1,upd f' id (fi - tk),need - tk,U1 ++ [⟨(i:Nat),id,tk⟩],by go_num,rfl,by omega,by omega,by rw[List.length_append];simp;omega,by omega,by omega,Lib.hid (by rw[<- List.append_assoc];exact O4.out),Lib.hid (fun b e=>?_),Lib.hid ((hM10'.out.below hA hM10'.out.lt).kept GA.out (fun e=>by have:=hor _ e.symm;omega)),hF2,Lib.hid (by rw[HP2.out];simp),Lib.hid ((hO10.out.below hA).grown GA.out (fun b e=>.inr (hor b e))),Lib.hid ((GA.out.block p (by omega) (fun e=>HUz.out p e.symm rfl)).trans ((hA.block p (by omega)).trans hw10.out)),by have:=GA.out.size;omega⟩
        have e2:=Option.some.inj (show some g4=some b from e)
        rcases GG4.out with h1 | h1
        ·exact HUz.out b (by rw[h1,e2])
        ·rw[hsA] at h1
         omega
       case measure=>simp[intOf];omega
    ·have hke:k=ni:=by omega
     have hps:Hid (pass day i C f qty=(U1,f',need)):=Lib.hid (by have:=HPz.out;rw[List.drop_eq_nil_of_le (by rw[<- HNI.out];omega)] at this;rw[this];simp[pass])
     have hst2:=HST.out
     rw[hps.out] at hst2
     simp only at hst2
     by_cases hnd:0 < need
     ·rw[if_pos hnd] at hst2
      have HS2:=Lib.hid hst2
      clear hst2
      go_wp2_with (fail)
      go_ret3
      exact FillPost.none (HB6.out.trans (HNz.out.belowB (by have:=HB6.out.size;omega) hmw)) HS2.out rfl
     ·rw[if_neg hnd] at hst2
      have HS2:=Lib.hid hst2
      clear hst2
      go_wp2_with (fail)
      go_roundw
      case rel=>exact⟨j+1,cnt',f',U ++ U1,by go_num,by omega,by omega,by rw[List.length_append];omega,HOz,HMz,HFz,HS2,HNz⟩
      case measure=>simp[intOf];omega
  ·have hge:j=n2:=by omega
   have hfin:Hid (fillX L W=some (U,f)):=Lib.hid (by rw[HFx.out,List.drop_eq_nil_of_le (by rw[dayO_len];have:=Hln2.out;omega)];rfl)
   go_wp2_with (fail)
   go_ret3
   exact FillPost.some (HB6.out.trans (HOn.out.belowB (by have:=HB6.out.size;omega) hmw)) hfin.out (HOw.out.mono (by have:=HB6.out.size;omega)) HMv.out (by omega) rfl
end Go.Proofs.YtgplnekpgdhcpaaGreat
