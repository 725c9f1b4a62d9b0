/- flow.fill: its walk. -/
import Derived.Test.YtgplnekpgdhcpaaGreatQFillQ
import Derived.Test.YtgplnekpgdhcpaaGreatQFillT
namespace Go.Proofs.YtgplnekpgdhcpaaGreat
open Go.RowKit Go.Sort Go.Shelf
set_option maxHeartbeats 4000000 in
set_option maxRecDepth 100000 in
theorem fill_any (B:Nat) (a a2:Option Addr) (n c n2 c2:Nat) (L:List LotV) (W:List WantV) (w:World) (hl:lotE.In B w a n c L) (hw:wantE.In B w a2 n2 c2 W) (hB:B<=w.heap.size) (hn:n<=100000000) :
  Calls Tryz.prog 53 #[.slice a n c,.slice a2 n2 c2] w fun e w'=>FillPost w L W e w':=by
 have hle:=hl.le;have hmx:=hl.mx;have hle2:=hw.le;have hmx2:=hw.mx
 have Hln:=Lib.hid hl.len
 have Hln2:=Lib.hid hw.len
 have HT:=Lib.hid (together_any B a a2 n c n2 c2 L W w hl hw hB)
 have HS:=Lib.hid (fun (V:World) (hb:Below w.heap.size w V)=>lotSort_any B a n c L V (hl.below (hb.mono hB)) (Nat.le_trans hB hb.size) hn)
 have HL:=Lib.hid hl
 have HW:=Lib.hid hw
 clear hl hw
 have hmk:=@run_makeMap Tryz.prog
 cases hm:mayB L W with
 | false =>
  have E:=Lib.hid (show fillX L W=none by unfold fillX;rw[if_neg (by rw[hm];exact Bool.false_ne_true)])
  rw[hm] at HT
  clear hm
  go_enter Tryz.func53,Tryz.ntmps53
  go_wp2_with (go_at_call 80;refine HT.out.mono ?_;rintro e w9 ⟨rfl,hb9⟩)
  go_ret3
  exact FillPost.none hb9 E.out rfl
 | true =>
  rw[hm] at HT
  have hfx:=Lib.hid (show fillX L W=fillF (srt L) W (dayO W) (left0 L) [] by unfold fillX;rw[if_pos hm])
  obtain⟨m1,m2,m3,m4,m5⟩:=mayB_iff.1 hm
  have hn3:n<=300:=by have:=Hln.out;omega
  have hn4:n2<=20000:=by have:=Hln2.out;omega
  have HMY:=Lib.hid hm
  have M3:=Lib.hid m3
  have M4:=Lib.hid m4
  have M5:=Lib.hid m5
  clear hm m1 m2 m3 m4 m5
  have HD:=Lib.hid (fun (V:World) (hb:Below w.heap.size w V)=>days_any B a2 n2 c2 W V (HW.out.below (hb.mono hB)) (Nat.le_trans hB hb.size) hn4 (fun x hx=>by have:=wantOk_iff.1 (M5.out x hx);exact⟨this.2.1,this.2.2.1⟩))
  go_enter Tryz.func53,Tryz.ntmps53
  go_upto_region 3 with (go_at_call 80;refine HT.out.mono ?_;rintro e w3 ⟨rfl,hb3⟩)
  obtain⟨mb,hmb⟩:∃ m,m=w3.heap.size:=⟨_,rfl⟩
  have HMB:=Lib.hid hmb
  have hM0:Hid (MI ((w3.alloc (.map #[] 0)).alloc (.map #[] 0)) mb 0 (.int .i64 0) (leftV (left0 []))):=Lib.hid (by rw[hmb];exact (MI.made w3 _).below ((Below.refl _ _).alloc (Nat.le_refl _) _) (by simp))
  have hF0:Hid (MF ((w3.alloc (.map #[] 0)).alloc (.map #[] 0)) (mb+1) 0 (.slice none 0 0) (fun _=>.slice none 0 0)):=Lib.hid (by have:=MF.made (w3.alloc (.map #[] 0)) (.slice none 0 0);rw[World.size_alloc,<- hmb] at this;exact this)
  obtain⟨w5,hw5⟩:∃ V,V=(w3.alloc (.map #[] 0)).alloc (.map #[] 0):=⟨_,rfl⟩
  have hs5:w5.heap.size=mb+2:=by rw[hw5,World.size_alloc,World.size_alloc,hmb]
  have hb5:Hid (Below w.heap.size w w5):=Lib.hid (by rw[hw5];exact (hb3.alloc hb3.size _).alloc (by rw[World.size_alloc];have:=hb3.size;omega) _)
  have hmw:w.heap.size<=mb:=by rw[hmb];exact hb3.size
  rw[<- hw5] at hM0 hF0
  have HS5:=Lib.hid (HS.out w5 hb5.out)
  have HW5:=Lib.hid hw5
  have hms1:w3.heap.size<=mb:=Nat.le_of_eq hmb.symm
  clear hb3 HT
  go_upto_region 5 with (fail)
  rw[<- hmb,<- hw5]
  clear hw5 hmb
  go_wp2_with (go_at_call 88;refine HS5.out.mono ?_;rintro e w6 ⟨⟨sa,sc,Y,rfl,hsown,hsp,hss⟩,hb6⟩)
  have hY:Y=srt L:=srt_only M4.out hsp hss
  subst hY
  have HSO:=Lib.hid hsown
  have HLN:Hid ((srt L).length=n):=Lib.hid (by rw[(srt_perm L).length_eq];exact Hln.out.symm)
  have HSN:Hid (((srt L).map (·.id)).Nodup):=Lib.hid (((srt_perm L).map _).nodup_iff.2 M4.out)
  have HOK:Hid (∀ l∈srt L,lotOk l=true):=Lib.hid fun l hl=>M3.out l ((srt_perm L).mem_iff.1 hl)
  have HFI:Hid (∀ l∈srt L,okLot l):=Lib.hid fun l hl=>HL.out.fine l ((srt_perm L).mem_iff.1 hl)
  have HB6:=Lib.hid hb6
  have hs6:=hb6.size
  clear hsp hss hsown hb6 HS5
  generalize hS:srt L=S at HSO HLN HSN HOK HFI
  have HSS:=Lib.hid hS
  clear hS
  have hM6:Hid (MI w6 mb 0 (.int .i64 0) (leftV (left0 []))):=Lib.hid (hM0.out.below HB6.out (by omega))
  have hF6:Hid (MF w6 (mb+1) 0 (.slice none 0 0) (fun _=>.slice none 0 0)):=Lib.hid (hF0.out.below HB6.out (by omega))
  clear hM0 hF0 HW5
  go_loopw [28] (fun s28 wr=>∃ j:Nat,s28 = .int .i64 j/\j<=n/\Hid (MI wr mb j (.int .i64 0) (leftV (left0 (S.take j))))/\(∃ F,Hid (MF wr (mb+1) j (.slice none 0 0) F)/\Hid (Items w6.heap.size wr F (S.take j)))/\Hid (Only2 mb (mb+1) w6 wr)) (fun s28 _=>n - (intOf s28).toNat)
  case atStart=>exact⟨0,rfl,Nat.zero_le _,by rw[List.take_zero];exact hM6,⟨_,hF6,Lib.hid (by rw[List.take_zero];exact Items.nil _ _)⟩,Lib.hid (Only2.refl _ _ _)⟩
  case round =>
   clear hM6 hF6
   obtain⟨j,rfl,hj,HM,⟨F,HF,HI⟩,HO⟩:=hrel
   by_cases hlt:j < n
   ·obtain⟨sg,hsa⟩:∃ g,sa=some ⟨g,0,none⟩:=by
     obtain⟨a9,c9,e9,-,-,hg⟩:=HSO.out.form
     obtain⟨g,hg⟩:=hg (by have:=HLN.out;omega)
     injection e9 with e8
     exact⟨g,e8.trans hg⟩
    subst hsa
    have hsg:=HSO.out.ge sg rfl
    have HSw:Hid (lotE.Own w5.heap.size wr (.slice (some ⟨sg,0,none⟩) n sc) S):=Lib.hid (HSO.out.keep fun b e=>by cases e;exact HO.out.block sg (by omega) (by omega) hsg.2)
    obtain⟨g0,g1,g2,g3,g4,g5⟩:=lot_own_cells HSw.out hlt
    have hjS:=Lib.hid (show j < S.length by rw[HLN.out];exact hlt)
    have hlo:=Lib.hid (lotOk_iff.1 (HOK.out (S.getD j default) (by rw[List.getD_eq_getElem?_getD,List.getElem?_eq_getElem hjS.out];exact List.getElem_mem _)))
    have hfi:=Lib.hid (HFI.out (S.getD j default) (by rw[List.getD_eq_getElem?_getD,List.getElem?_eq_getElem hjS.out];exact List.getElem_mem _))
    have HIm:=Lib.hid (fun (base:Nat) (V V':World) (F:List UInt8->Value) (v:Value) (h:Items base V F (S.take j))=>Items.more (w':=V') (v:=v) hjS.out h)
    have Hl0:=Lib.hid (left0_succ hjS.out HSN.out)
    generalize S.getD j default=x at g0 g1 g2 g3 g4 g5 hlo HIm Hl0 hfi
    obtain⟨id,item,fr,un,qty,arr⟩:=x
    simp only at g0 g1 g2 g3 g4 g5
    obtain⟨l1,l2,l3,l4,l5,l6,l7⟩:=hlo.out
    simp only at l1 l2 l3 l4 l5 l6 l7
    have hil:=Lib.hid (show item.length<=9223372036854775807 by have:=okCode_le l2;omega)
    unfold encStr at g1
    clear hsg
    have HID:=Lib.hid (show -9223372036854775808<=id/\id<=9223372036854775807 from hfi.out.1)
    have hrs:=HO.out.size
    obtain⟨p,hp⟩:∃ p,p=wr.heap.size:=⟨_,rfl⟩
    obtain⟨W1,hW1⟩:∃ V,V=wr.alloc (.cells #[.int .i64 id,.string ⟨item.toArray⟩,.int .i64 fr,.int .i64 un,.int .i64 qty,.bool arr] 50):=⟨_,rfl⟩
    have hp1:W1.heap[p]? = some (lotObj id item fr un qty arr):=by rw[hW1,hp];exact heap_alloc_new _ _
    have bW1:Below wr.heap.size wr W1:=by rw[hW1];exact (Below.refl _ wr).alloc (Nat.le_refl _) _
    have hs1:W1.heap.size=p+1:=by rw[hW1,World.size_alloc,hp]
    obtain⟨y0,y1,y2,y3,y4,y5⟩:=lotObj_cells hp1
    have hM1:Hid (MI W1 mb j (.int .i64 0) (leftV (left0 (S.take j)))):=Lib.hid (HM.out.below bW1 HM.out.lt)
    have hF1:Hid (MF W1 (mb+1) j (.slice none 0 0) F):=Lib.hid (HF.out.below bW1 HF.out.lt)
    have hI1:Hid (Items w6.heap.size W1 F (S.take j)):=Lib.hid (HI.out.below bW1)
    have hO1:Hid (Only2 mb (mb+1) w6 W1):=Lib.hid (HO.out.below bW1)
    have HP1:=Lib.hid hp1
    have HW1:=Lib.hid hW1
    have HPW:=Lib.hid hp
    have hpb:mb+2<=p:=by omega
    have hp6:w6.heap.size<=p:=by omega
    clear hp1 bW1 HSw
    go_upto_region 8 with (fail)
    rw[<- HW1.out,<- hp]
    clear hW1 hp g0 g1 g2 g3 g4 g5
    go_upto_region 9 with (at_mapUpdate;refine wpList_put_mi rfl _ _ _ 82 rfl Tryz.underlying82 hM1.out (by omega) id (.int .i64 qty) rfl rfl rfl HID.out.1 HID.out.2 ?_;intro w2 hM2 hg2)
    have hp2:w2.heap[p]? = some (lotObj id item fr un qty arr):=(hg2.block p (by omega) (fun e=>by have:=Option.some.inj e;omega)).trans HP1.out
    have hF2:Hid (MF w2 (mb+1) j (.slice none 0 0) F):=Lib.hid (hF1.out.kept hg2 (fun e=>by have:=Option.some.inj e;omega))
    have hI2:Hid (Items w6.heap.size w2 F (S.take j)):=Lib.hid (hI1.out.keep fun t b e=>hg2.block b ((hI1.out.own t).ge b e).2 (fun e2=>by have:=Option.some.inj e2;have:=((hI1.out.own t).ge b e).1;omega))
    have hO2:Hid (Only2 mb (mb+1) w6 w2):=Lib.hid (hO1.out.grown hg2 (fun b e=>.inl (Option.some.inj e).symm))
    have HM2:=Lib.hid hM2
    have hs2:p+1<=w2.heap.size:=by have:=hg2.size;omega
    clear y0 y1 y2 y3 y4 y5 hM2 hg2 hM1 hF1 hI1 hO1
    obtain⟨z0,z1,z2,z3,z4,z5⟩:=lotObj_cells hp2
    have HP2:=Lib.hid hp2
    clear hp2
    have hoI:=Lib.hid (hI2.out.own item)
    have hIL:Hid ((ofI (S.take j) item).length<=300):=Lib.hid (by unfold ofI;have:=List.length_filter_le (fun l:LotV=>decide (l.item=item)) (S.take j);rw[List.length_take] at this;omega)
    obtain⟨va,vc,hFv,-,-,-⟩:=hoI.out.form
    obtain⟨ni,hni⟩:∃ ni,ni=(ofI (S.take j) item).length:=⟨_,rfl⟩
    rw[<- hni] at hFv
    have HFV:=Lib.hid hFv
    have HNI:=Lib.hid hni
    clear hFv hni
    obtain⟨LW,hLW⟩:∃ V,V=(w2.alloc (.cells #[.int .i64 id,.string ⟨item.toArray⟩,.int .i64 fr,.int .i64 un,.int .i64 qty,.bool arr] 50)).drew:=⟨_,rfl⟩
    have lk1:=(show MF w2.drew (mb+1) j (.slice none 0 0) F from hF2.out).look Tryz.underlying118 (zeroLots _) item hil.out
    have lk0:=hF2.out.look Tryz.underlying118 (zeroLots _) item hil.out
    have lk2:=(show MF (w2.alloc (.cells #[.int .i64 id,.string ⟨item.toArray⟩,.int .i64 fr,.int .i64 un,.int .i64 qty,.bool arr] 50)).drew (mb+1) j (.slice none 0 0) F from hF2.out.below ((Below.refl _ w2).alloc (Nat.le_refl _) _).drew hF2.out.lt).look Tryz.underlying118 (zeroLots _) item hil.out
    have zL:(w2.alloc (.cells #[.int .i64 id,.string ⟨item.toArray⟩,.int .i64 fr,.int .i64 un,.int .i64 qty,.bool arr] 50)).drew.cell? ⟨p,1,none⟩=some (.string ⟨item.toArray⟩):=((((Below.refl _ w2).alloc (Nat.le_refl _) _).drew).cell (p:=⟨p,1,none⟩) (show p < w2.heap.size by omega)).trans z1
    rw[HFV.out] at lk1 lk0 lk2
    have FL:Hid (MF LW (mb+1) j (.slice none 0 0) F):=Lib.hid (by rw[hLW];exact hF2.out.below ((Below.refl _ w2).alloc (Nat.le_refl _) _).drew hF2.out.lt)
    have ML:Hid (MI LW mb (j+1) (.int .i64 0) (leftV (left0 (S.take (j+1))))):=Lib.hid (by rw[hLW,Hl0.out,<- leftV_upd];exact HM2.out.below ((Below.refl _ w2).alloc (Nat.le_refl _) _).drew HM2.out.lt)
    have IL:Hid (Items w6.heap.size LW F (S.take j)):=Lib.hid (by rw[hLW];exact hI2.out.below ((Below.refl _ w2).alloc (Nat.le_refl _) _).drew)
    have OL:Hid (Only2 mb (mb+1) w6 LW):=Lib.hid (by rw[hLW];exact hO2.out.below ((Below.refl _ w2).alloc (Nat.le_refl _) _).drew)
    have OV:Hid (lotE.Own w6.heap.size LW (.slice va ni vc) (ofI (S.take j) item)):=Lib.hid (by rw[<- HFV.out];exact IL.out.own item)
    have hsL:p+2<=LW.heap.size:=by rw[hLW];show p+2<=(World.alloc _ _).heap.size;rw[World.size_alloc];omega
    have SRC:Hid (∀ j u,(lotE.cells [⟨id,item,fr,un,qty,arr⟩])[j]? = some u->LW.cell? ((⟨w2.heap.size,0,none⟩:Addr).add j)=some u):=Lib.hid (by rw[hLW];exact lotE_lit w2 ⟨id,item,fr,un,qty,arr⟩ _)
    have SIZ:Hid (LW.heap.size=w2.heap.size+1):=Lib.hid (by rw[hLW];show (World.alloc _ _).heap.size=_;rw[World.size_alloc])
    have RP:Hid (∀ b,(Value.slice va ni vc).ownBlock=some b->b≠p):=Lib.hid (fun b e=>by rw[<- HFV.out] at e;have:=((HI.out.own item).ge b e).2;have:=HPW.out;omega)
    have ZW:Hid (∀ w4,LW.grownBy w4 (Value.slice va ni vc).ownBlock->w4.cell? ⟨p,1,none⟩=some (.string ⟨item.toArray⟩)):=Lib.hid (fun w4 hg=>(World.cell?_of_block (hg.block p (by omega) (fun e=>RP.out p e.symm rfl))).trans (by rw[hLW];exact zL))
    have GO:Hid (∀ g4 c4 w4,lotE.Own w6.heap.size w4 (.slice (some ⟨g4,0,none⟩) (ni+1) c4) (ofI (S.take j) item ++ [⟨id,item,fr,un,qty,arr⟩])->LW.grownBy w4 (Value.slice va ni vc).ownBlock->((Value.slice va ni vc).ownBlock=some g4∨g4=LW.heap.size)->∃ w5',(Instr.mapUpdate 118 (.map (some (mb+1))) (.string ⟨item.toArray⟩) (.slice (some ⟨g4,0,none⟩) (ni+1) c4)).run Tryz.prog w4 = .ok () w5'/\MI w5' mb (j+1) (.int .i64 0) (leftV (left0 (S.take (j+1))))/\(∃ F',MF w5' (mb+1) (j+1) (.slice none 0 0) F'/\Items w6.heap.size w5' F' (S.take (j+1)))/\Only2 mb (mb+1) w6 w5'):=Lib.hid (by
     intro g4 c4 w4 ho hg hgg
     have hrow:∀ b,(Value.slice va ni vc).ownBlock=some b->w6.heap.size<=b:=fun b e=>(OV.out.ge b e).1
     have hF4:MF w4 (mb+1) j (.slice none 0 0) F:=FL.out.kept hg (fun e=>by have:=hrow _ e.symm;omega)
     have hM4:MI w4 mb (j+1) (.int .i64 0) (leftV (left0 (S.take (j+1)))):=ML.out.kept hg (fun e=>by have:=hrow _ e.symm;omega)
     have hO4:Only2 mb (mb+1) w6 w4:=OL.out.grown hg (fun b e=>.inr (.inr (hrow b e)))
     have hgv:w6.heap.size<=g4:=(ho.ge g4 rfl).1
     have hI4:Items w6.heap.size w4 (setO F item (.slice (some ⟨g4,0,none⟩) (ni+1) c4)) (S.take (j+1)):=HIm.out w6.heap.size LW w4 F (.slice (some ⟨g4,0,none⟩) (ni+1) c4) IL.out ho (by simp only[HFV.out];exact hg) (by
      simp only[HFV.out]
      rcases hgg with h1 | h1
      ·exact .inl h1.symm
      ·exact .inr (fun b e=>by have e2:=Option.some.inj (show some g4=some b from e);omega))
     obtain⟨w5',hr5,hF5,hg5⟩:=hF4.put Tryz.underlying118 (by omega) item hil.out (.slice (some ⟨g4,0,none⟩) (ni+1) c4) (by simp)
     exact⟨w5',hr5,hM4.kept hg5 (fun e=>by have:=Option.some.inj e;omega),⟨_,hF5,hI4.keep fun t b e=>hg5.block b ((hI4.own t).ge b e).2 (fun e2=>by have:=Option.some.inj e2;have:=((hI4.own t).ge b e).1;omega)⟩,hO4.grown hg5 (fun b e=>.inr (.inl (Option.some.inj e).symm))⟩)
    have HLW:=Lib.hid hLW
    clear hLW hF2 hI2 hO2 HM2
    go_region_law (first | (rw[<- HLW.out];refine El.step_append1 lotE rfl _ _ rfl w6.heap.size (.slice va ni vc) (ofI (S.take j) item) ⟨id,item,fr,un,qty,arr⟩ (ni+1) (by rw[HNI.out]) rfl OV.out ⟨w2.heap.size,0,none⟩ 1 rfl SRC.out (by rw[SIZ.out];omega) (by have:=hIL.out;omega) ?_;intro g4 c4 w4 hown4 hg4 hgg4;have zw:=ZW.out w4 hg4;obtain⟨w5',hr5,hM5,⟨F5,hF5,hI5⟩,hO5⟩:=GO.out g4 c4 w4 hown4 hg4 hgg4;have M5':=Lib.hid hM5;have F5':=Lib.hid hF5;have I5':=Lib.hid hI5;have O5':=Lib.hid hO5;clear hown4 hg4 hgg4 hM5 hF5 hI5 hO5))
    all_goals go_wp2_with (fail)
    all_goals go_roundw
    any_goals (first | exact⟨j+1,by go_num,by omega,M5',⟨_,F5',I5'⟩,O5'⟩ | (simp[intOf];omega))
   ·have hge:j=n:=by omega
    subst hge
    have hlt2:¬ (j:Int) < (j:Int):=by omega
    have HIb:Hid (Items (mb+2) wr F S):=Lib.hid (by have h:=HI.out;rw[List.take_of_length_le (Nat.le_of_eq HLN.out)] at h;exact⟨fun t=>(h.own t).mono (by omega),h.apart⟩)
    have HMb:Hid (MI wr mb j (.int .i64 0) (leftV (left0 L))):=Lib.hid (by have:=HM.out;rw[List.take_of_length_le (Nat.le_of_eq HLN.out),<- HSS.out,left0_perm (srt_perm L) M4.out] at this;exact this)
    have HBw:Hid (Below w.heap.size w wr):=Lib.hid ((hb5.out.trans (HB6.out.mono (by omega))).trans (HO.out.belowB (by omega) (by omega) (by omega)))
    have HIs:Hid (Items (mb+2) wr F (srt L)):=Lib.hid (by rw[HSS.out];exact HIb.out)
    iterate 16 go_step
    exact fill_tail B a a2 j c n2 c2 mb L W w wr F HW.out hB hmw HBw.out HMY.out (fun l hl=>HL.out.fine l hl) HMb.out Hln.out HF.out HIs.out _ _ _ _ _ _ _ _ _ _ _ _ _ _ _ _ _ _ _ _ _ _ _ _ _ _ _ _ _ _ _ _ _ _ _ _ _ _ _ _ _ _ _ _ _ _ _ _ _ _ _ _ _ _ _ _ _ _ _ _ _ _ _ _ _ _ _ _ _ _ _ _ _ _ _ _ _ _ _ _ _ _ _ _ _ _ _ _ _ _ _ _ _ _ _ _ _ _ _ _ _ _ _ _ _
end Go.Proofs.YtgplnekpgdhcpaaGreat
