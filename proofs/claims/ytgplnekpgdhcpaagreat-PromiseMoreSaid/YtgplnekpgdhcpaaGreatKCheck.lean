/- storeman/kit.check: its walk. (Printed by wip/gen/mkcheck.py.) -/
import Derived.Test.YtgplnekpgdhcpaaGreatKDepths
import Derived.Test.YtgplnekpgdhcpaaGreatTxA
namespace Go.Proofs.YtgplnekpgdhcpaaGreat
open Go.RowKit Go.Maps
def ChkPost (X:List It) (n:Nat) (w:World) (e:Ending) (w':World):Prop :=
 Below w.heap.size w w'/\∃ am dm,e = .returned (.tuple #[am,dm,.int .i64 (chkE X)])/\(chkE X≠0->am = .map none/\dm = .map none)/\(chkE X=0->∃ ma mo N o,am = .map (some ma)/\dm = .map (some mo)/\MF w' ma n zItem (bookF X)/\MF w' mo N (.int .i64 0) (oV o)/\w.heap.size<=ma/\w.heap.size<=mo/\(∀ s,s ∉ codes X->o s=0)/\∀ c∈codes X,o c=(tellX X c:Int))
theorem tell_of {X:List It} {o:List UInt8->Int} (hV:∀ c∈codes X,∀ p∈kidsX X c,p∈codes X) (hdi:DI (kidsX X) o) (hno:∀ c,o c≠-1) (hpos:∀ c∈codes X,0 < o c):∀ c∈codes X,o c=(tellX X c:Int):=fun c hc=>by
 rcases hdi c with h | h | ⟨k,d,hd,e⟩
 ·have:=hpos c hc;omega
 ·exact absurd h (hno c)
 ·have h1:=hgt_all hV hc hd
  have hl:(codes X).length=X.length:=by unfold codes;rw[List.length_map]
  rw[hl] at h1
  unfold tellX
  rw[h1,e]
  rfl
set_option maxHeartbeats 8000000 in
set_option maxRecDepth 100000 in
theorem check_any (B:Nat) (a:Option Addr) (n cp:Nat) (X:List It) (w:World) (hr:RI B w a n cp X) (hB:B<=w.heap.size) :
  Calls Tryz.prog 85 #[.slice a n cp] w (ChkPost X n w):=by
 have hle:=hr.le
 have hmx:=hr.mx
 have hln:=hr.len
 have HR:=Lib.hid (hr.mono hB)
 have HLN:=Lib.hid hln
 clear hr hln
 go_enter Tryz.func85,Tryz.ntmps85
 by_cases hn60:60 < n
 ·have t0:decide ((60:Int) < (n:Int))=true:=by simp;omega
  have ho:=Lib.hid (chk_long (X:=X) (by rw[<- HLN.out];exact hn60))
  clear hn60
  go_wp2_with (fail)
  go_ret3
  exact⟨Below.refl _ _,_,_,by rw[ho.out];rfl,fun _=>⟨rfl,rfl⟩,fun h=>by rw[ho.out] at h;cases h⟩
 ·have t0:decide ((60:Int) < (n:Int))=false:=by simp;omega
  have H60:=Lib.hid (show ¬ 60 < X.length by rw[<- HLN.out];exact hn60)
  have hn60':n<=60:=by omega
  clear hn60
  go_wp2_with (fail)
  go_loopw [21] (fun s21 wr=>∃ i:Nat,s21 = .int .i64 i/\i<=n/\Hid (∀ j,j < i->okIt X j=true)/\Hid (Below w.heap.size w wr)) (fun s21 _=>n - (intOf s21).toNat)
  case atStart=>exact⟨0,rfl,by omega,Lib.hid (fun j hj=>absurd hj (Nat.not_lt_zero _)),Lib.hid (Below.refl _ _)⟩
  case round =>
   obtain⟨i,rfl,hi,hok,HB⟩:=hrel
   by_cases hin:i < n
   ·have t1:decide ((i:Int) < (n:Int))=true:=by simp;omega
    have i0:(0:Int)<=(i:Int):=by omega
    have i1:(i:Int) < (n:Int):=by omega
    have f1:IntKind.i64.wrap ((i:Int)+1)=((i+1:Nat):Int):=by rw[wrap_in (by omega) (by omega)];omega
    have hRI:=HR.out.below HB.out
    obtain⟨b,o,rfl,hbB,hok1,c0,c1,c2,c3⟩:=hRI.item hin
    have hix:i < X.length:=by rw[<- HLN.out];exact hin
    have hbw:b < wr.heap.size:=Nat.lt_of_lt_of_le hbB HB.out.size
    have hdef:(X.getD i default).code=cd X i:=rfl
    have hcl:=hok1.code
    obtain⟨x,hx⟩:∃ x,x=X.getD i default:=⟨_,rfl⟩
    rw[<- hx] at c0 c1 c2 c3 hok1 hdef hcl
    unfold encStr at c0
    have HX:=Lib.hid hx
    have HDEF:=Lib.hid hdef
    -- the item's own block
    have hpc:(wr.alloc (.cells #[.string ⟨x.code.toArray⟩,.int .i64 x.life,.slice x.pa x.ps.length x.pc,.slice x.oa x.os.length x.oc] 87)).heap[wr.heap.size]? = _:=heap_alloc_new wr _
    have hal:Below wr.heap.size wr (wr.alloc (.cells #[.string ⟨x.code.toArray⟩,.int .i64 x.life,.slice x.pa x.ps.length x.pc,.slice x.oa x.os.length x.oc] 87)):=(Below.refl _ wr).alloc (Nat.le_refl _) _
    obtain⟨W2,hW2⟩:∃ W,W=wr.alloc (.cells #[.string ⟨x.code.toArray⟩,.int .i64 x.life,.slice x.pa x.ps.length x.pc,.slice x.oa x.os.length x.oc] 87):=⟨_,rfl⟩
    have hs2:W2.heap.size=wr.heap.size+1:=by rw[hW2,World.size_alloc]
    rw[<- hW2] at hpc hal
    obtain⟨p0,p1,p2,p3⟩:=four_at hpc
    have hb2:Below w.heap.size w W2:=HB.out.trans (hal.mono HB.out.size)
    have HSH:=Lib.hid (fun y:BelowW W2=>right_any w.heap.size x y.v ((hok1.below (hal.mono HB.out.size)).below (y.h.mono hb2.size)) (Nat.le_trans hb2.size y.h.size))
    unfold It.val encStr at HSH
    have hgx:wr.heap.size < W2.heap.size:=by omega
    have q0:∀ y:BelowW W2,y.v.cell? ⟨wr.heap.size,0,none⟩=some (.string ⟨x.code.toArray⟩):=fun y=>(y.h.cell hgx).trans p0
    have q1:∀ y:BelowW W2,y.v.cell? ⟨wr.heap.size,1,none⟩=some (.int .i64 x.life):=fun y=>(y.h.cell hgx).trans p1
    have q2:∀ y:BelowW W2,y.v.cell? ⟨wr.heap.size,2,none⟩=some (.slice x.pa x.ps.length x.pc):=fun y=>(y.h.cell hgx).trans p2
    have q3:∀ y:BelowW W2,y.v.cell? ⟨wr.heap.size,3,none⟩=some (.slice x.oa x.os.length x.oc):=fun y=>(y.h.cell hgx).trans p3
    have HCD:=Lib.hid (fun y:BelowW W2=>cRight_any x.code hcl y.v)
    have HRI:=Lib.hid (hRI.below (hal.mono HB.out.size))
    have HIX:=Lib.hid hix
    have HB2:=Lib.hid hb2
    have HS3:=Lib.hid (show wr.heap.size+1=W2.heap.size from hs2.symm)
    have HW2:=Lib.hid hW2
    clear hx hdef hok1 hcl hix hRI hpc hal hs2 hb2 p0 p1 p2 p3 hW2
    go_upto_region 6 with (fail)
    rw[<- HW2.out]
    clear c0 c1 c2 c3
    obtain⟨gx,hgxe⟩:∃ g,g=wr.heap.size:=⟨_,rfl⟩
    rw[<- hgxe] at q0 q1 q2 q3 hbw hgx ⊢
    clear hgxe HS3 HW2
    cases hc1:okCode x.code with
    | false =>
     have ho:=Lib.hid (chk_bad H60.out HIX.out (okIt_code (by rw[<- HDEF.out];exact hc1)))
     rw[hc1] at HCD
     clear hc1
     go_wp2_with (fail)
     refine wp_region_below W2 (by kernel_rfl) (by kernel_rfl) (Below.refl _ _) ?_
     repeat (go_big_quiet_step (first | (go_at_call 52;exact below_call (HCD.out _)) | (go_at_call 115;exact below_call (HSH.out _))))
     refine wpQuiet_nil ?_
     intro _ hw'
     obtain⟨y,hw''⟩:=hw'
     subst hw''
     clear q0 q1 q2 q3 
     go_wp2_with (fail)
     go_ret3
     exact⟨HB2.out.trans (y.h.mono HB2.out.size),_,_,by rw[ho.out];rfl,fun _=>⟨rfl,rfl⟩,fun h=>by rw[ho.out] at h;cases h⟩
    | true =>
     have HC1:=Lib.hid (show okCode (cd X i)=true by rw[<- HDEF.out];exact hc1)
     rw[hc1] at HCD
     clear hc1
     rcases Nat.eq_zero_or_pos i with hz | hz
     ·have e6:decide ((0:Int) < (i:Int))=false:=by simp;omega
      have e7:decide (0 < i)=false:=by simp;omega
      have HZ:=Lib.hid hz
      clear hz
      cases hc3:okShape x.life x.ps with
      | false =>
       have ho:=Lib.hid (chk_bad H60.out HIX.out (okIt_shape (by rw[<- HX.out];exact hc3)))
       rw[hc3] at HSH
       clear hc3
       go_wp2_with (fail)
       refine wp_region_below W2 (by kernel_rfl) (by kernel_rfl) (Below.refl _ _) ?_
       repeat (go_big_quiet_step (first | (go_at_call 52;exact below_call (HCD.out _)) | (go_at_call 115;exact below_call (HSH.out _))))
       refine wpQuiet_nil ?_
       intro _ hw'
       obtain⟨y,hw''⟩:=hw'
       subst hw''
       clear q0 q1 q2 q3 
       go_wp2_with (fail)
       go_ret3
       exact⟨HB2.out.trans (y.h.mono HB2.out.size),_,_,by rw[ho.out];rfl,fun _=>⟨rfl,rfl⟩,fun h=>by rw[ho.out] at h;cases h⟩
      | true =>
       have ho:=Lib.hid (okIt_yes (X:=X) (i:=i) HC1.out (Or.inl HZ.out) (by rw[<- HX.out];exact hc3))
       rw[hc3] at HSH
       clear hc3
       go_wp2_with (fail)
       refine wp_region_below W2 (by kernel_rfl) (by kernel_rfl) (Below.refl _ _) ?_
       repeat (go_big_quiet_step (first | (go_at_call 52;exact below_call (HCD.out _)) | (go_at_call 115;exact below_call (HSH.out _))))
       refine wpQuiet_nil ?_
       intro _ hw'
       obtain⟨y,hw''⟩:=hw'
       subst hw''
       clear q0 q1 q2 q3 
       go_wp2_with (fail)
       go_roundw
       case rel=>exact⟨i+1,rfl,by omega,Lib.hid (fun m hm=>if e:m < i then hok.out m e else by rw[show m=i by omega];exact ho.out),Lib.hid (HB2.out.trans (y.h.mono HB2.out.size))⟩
       case measure=>simp only[intOf];omega
     ·have e6:decide ((0:Int) < (i:Int))=true:=by simp;omega
      have e7:decide (0 < i)=true:=by simp;omega
      obtain⟨j,hj⟩:∃ j,j=i - 1:=⟨_,rfl⟩
      have f9:IntKind.i64.wrap ((i:Int) - 1)=(j:Int):=by rw[wrap_in (by omega) (by omega)];omega
      have j0:(0:Int)<=(j:Int):=by omega
      have j1:(j:Int) < (n:Int):=by omega
      obtain⟨b',o',hbo,-,-,d0,-⟩:=HRI.out.item (i:=j) (by omega)
      cases hbo
      obtain⟨xp,hxp⟩:∃ z,z=(X.getD j default).code:=⟨_,rfl⟩
      rw[<- hxp] at d0
      unfold encStr at d0
      have q9:∀ y:BelowW W2,y.v.cell? ⟨b,o+j * 4,none⟩=some (.string ⟨xp.toArray⟩):=fun y=>(y.h.cell (show b < W2.heap.size by have:=hbw;omega)).trans d0
      have HXP:=Lib.hid (show xp=cd X (i - 1) by rw[hxp,hj];rfl)
      have HZ:=Lib.hid hz
      clear hz hj d0 hxp
      cases hlt:Op.bytesLess xp x.code with
      | false =>
       have ho:=Lib.hid (chk_bad H60.out HIX.out (okIt_less HZ.out (by rw[<- HXP.out,<- HDEF.out];exact hlt)))
       go_wp2_with (fail)
       refine wp_region_below W2 (by kernel_rfl) (by kernel_rfl) (Below.refl _ _) ?_
       repeat (go_big_quiet_step (first | (go_at_call 52;exact below_call (HCD.out _)) | (go_at_call 115;exact below_call (HSH.out _))))
       refine wpQuiet_nil ?_
       intro _ hw'
       obtain⟨y,hw''⟩:=hw'
       subst hw''
       clear q0 q1 q2 q3 q9
       go_wp2_with (fail)
       go_ret3
       exact⟨HB2.out.trans (y.h.mono HB2.out.size),_,_,by rw[ho.out];rfl,fun _=>⟨rfl,rfl⟩,fun h=>by rw[ho.out] at h;cases h⟩
      | true =>
       have HLT:=Lib.hid (show Op.bytesLess (cd X (i - 1)) (cd X i)=true by rw[<- HXP.out,<- HDEF.out];exact hlt)
       cases hc3:okShape x.life x.ps with
       | false =>
        have ho:=Lib.hid (chk_bad H60.out HIX.out (okIt_shape (by rw[<- HX.out];exact hc3)))
        rw[hc3] at HSH
        clear hc3
        go_wp2_with (fail)
        refine wp_region_below W2 (by kernel_rfl) (by kernel_rfl) (Below.refl _ _) ?_
        repeat (go_big_quiet_step (first | (go_at_call 52;exact below_call (HCD.out _)) | (go_at_call 115;exact below_call (HSH.out _))))
        refine wpQuiet_nil ?_
        intro _ hw'
        obtain⟨y,hw''⟩:=hw'
        subst hw''
        clear q0 q1 q2 q3 q9
        go_wp2_with (fail)
        go_ret3
        exact⟨HB2.out.trans (y.h.mono HB2.out.size),_,_,by rw[ho.out];rfl,fun _=>⟨rfl,rfl⟩,fun h=>by rw[ho.out] at h;cases h⟩
       | true =>
        have ho:=Lib.hid (okIt_yes (X:=X) (i:=i) HC1.out (Or.inr HLT.out) (by rw[<- HX.out];exact hc3))
        rw[hc3] at HSH
        clear hc3
        go_wp2_with (fail)
        refine wp_region_below W2 (by kernel_rfl) (by kernel_rfl) (Below.refl _ _) ?_
        repeat (go_big_quiet_step (first | (go_at_call 52;exact below_call (HCD.out _)) | (go_at_call 115;exact below_call (HSH.out _))))
        refine wpQuiet_nil ?_
        intro _ hw'
        obtain⟨y,hw''⟩:=hw'
        subst hw''
        clear q0 q1 q2 q3 q9
        go_wp2_with (fail)
        go_roundw
        case rel=>exact⟨i+1,rfl,by omega,Lib.hid (fun m hm=>if e:m < i then hok.out m e else by rw[show m=i by omega];exact ho.out),Lib.hid (HB2.out.trans (y.h.mono HB2.out.size))⟩
        case measure=>simp only[intOf];omega
   ·have t1:decide ((i:Int) < (n:Int))=false:=by simp;omega
    have hall:∀ j,j < X.length->okIt X j=true:=fun j hj=>hok.out j (by have:=HLN.out;omega)
    have HA:=Lib.hid (allOk_of hall)
    have HND:=Lib.hid (codes_nodup hall)
    have HNE:=Lib.hid (code_ne hall)
    clear hall
    have HBK:=Lib.hid (book_any w.heap.size a n cp X wr (HR.out.below HB.out) HB.out.size HNE.out)
    go_wp2_with (fail)
    go_at_call 116
    refine HBK.out.mono ?_
    rintro e wb ⟨⟨mb,rfl,hmf,hge⟩,hbb⟩
    have HMF:=Lib.hid hmf
    have HGE:=Lib.hid (Nat.le_trans HB.out.size hge)
    have HBB:=Lib.hid (HB.out.trans (hbb.mono HB.out.size))
    clear hmf hge hbb HBK
    go_wp2_with (fail)
    go_loopw [55] (fun s55 wr=>∃ i:Nat,s55 = .int .i64 i/\i<=n/\Hid (∀ j,j < i->∀ k,k < (X.getD j default).ps.length->((X.getD j default).ps.getD k default).1∈codes X)/\Hid (Below wb.heap.size wb wr)) (fun s55 _=>n - (intOf s55).toNat)
    case atStart=>exact⟨0,rfl,by omega,Lib.hid (fun j hj=>absurd hj (Nat.not_lt_zero _)),Lib.hid (Below.refl _ _)⟩
    case round =>
     obtain⟨i2,rfl,hi2,hfd,HB3⟩:=hrel
     have HB4:=Lib.hid (HBB.out.trans (HB3.out.mono HBB.out.size))
     by_cases hin2:i2 < n
     ·have t2:decide ((i2:Int) < (n:Int))=true:=by simp;omega
      have i0:(0:Int)<=(i2:Int):=by omega
      have i1:(i2:Int) < (n:Int):=by omega
      have f1:IntKind.i64.wrap ((i2:Int)+1)=((i2+1:Nat):Int):=by rw[wrap_in (by omega) (by omega)];omega
      obtain⟨b,o,rfl,hbB,hok1,c0,c1,c2,c3⟩:=(HR.out.below HB4.out).item hin2
      have HIX:=Lib.hid (show i2 < X.length by rw[<- HLN.out];exact hin2)
      obtain⟨x,hx⟩:∃ x,x=X.getD i2 default:=⟨_,rfl⟩
      rw[<- hx] at c0 c1 c2 c3 hok1
      unfold encStr at c0
      have HX:=Lib.hid hx
      have HOK:=Lib.hid hok1
      have hmp:=hok1.rp.mx
      have hlp:=hok1.rp.le
      have hpc:(wr.alloc (.cells #[.string ⟨x.code.toArray⟩,.int .i64 x.life,.slice x.pa x.ps.length x.pc,.slice x.oa x.os.length x.oc] 87)).heap[wr.heap.size]? = _:=heap_alloc_new wr _
      have hal:Below wr.heap.size wr (wr.alloc (.cells #[.string ⟨x.code.toArray⟩,.int .i64 x.life,.slice x.pa x.ps.length x.pc,.slice x.oa x.os.length x.oc] 87)):=(Below.refl _ wr).alloc (Nat.le_refl _) _
      have HBA:=Lib.hid (HB3.out.trans (hal.mono HB3.out.size))
      obtain⟨W2,hW2⟩:∃ W,W=wr.alloc (.cells #[.string ⟨x.code.toArray⟩,.int .i64 x.life,.slice x.pa x.ps.length x.pc,.slice x.oa x.os.length x.oc] 87):=⟨_,rfl⟩
      rw[<- hW2] at hpc hal HBA
      obtain⟨p0,p1,p2,p3⟩:=four_at hpc
      have HW2:=Lib.hid hW2
      clear hpc hal hx hok1 hW2
      go_upto_region 13 with (fail)
      rw[<- HW2.out]
      clear c0 c1 c2 c3 HW2
      obtain⟨np,hnp⟩:∃ k,k=x.ps.length:=⟨_,rfl⟩
      obtain⟨pa,hpa⟩:∃ k,k=x.pa:=⟨_,rfl⟩
      rw[<- hnp] at hlp
      rw[<- hnp,<- hpa] at p2
      have HNP:=Lib.hid hnp
      have HPA:=Lib.hid hpa
      clear hnp hpa
      have HOK2:=Lib.hid (HOK.out.rp)
      go_wp2_with (fail)
      go_loopw [62] (fun s62 wr=>∃ k:Nat,s62 = .int .i64 k/\k<=np/\Hid (∀ j,j < k->(x.ps.getD j default).1∈codes X)/\Hid (Below wb.heap.size wb wr)) (fun s62 _=>np - (intOf s62).toNat)
      case atStart=>exact⟨0,rfl,by omega,Lib.hid (fun j hj=>absurd hj (Nat.not_lt_zero _)),HBA⟩
      case round =>
       obtain⟨k,rfl,hk,hfk,HB5⟩:=hrel
       by_cases hkn:k < np
       ·have t3:decide ((k:Int) < (np:Int))=true:=by simp;omega
        have k0:(0:Int)<=(k:Int):=by omega
        have k1:(k:Int) < (np:Int):=by omega
        have f3:IntKind.i64.wrap ((k:Int)+1)=((k+1:Nat):Int):=by rw[wrap_in (by omega) (by omega)];omega
        have hkx:k < x.ps.length:=by rw[<- HNP.out];exact hkn
        have hokw:=((HR.out.below (HBB.out.trans (HB5.out.mono HBB.out.size))).ok x (by rw[HX.out];exact getD_mem HIX.out))
        obtain⟨b2,po2,hpa',-,d0,d1⟩:=hokw.rp.part hkx
        rw[<- HPA.out] at hpa'
        subst hpa'
        obtain⟨pk,hpk⟩:∃ p,p=x.ps.getD k default:=⟨_,rfl⟩
        have hnl:=(hokw.rp.fine.at_ hkx).1
        rw[<- hpk] at d0 d1 hnl
        obtain⟨nm,qt⟩:=pk
        simp only at d0 d1 hnl
        unfold encStr at d0
        have hpc:=pair_cells wr (.string ⟨nm.toArray⟩) (.int .i64 qt)
        have hal:Below wr.heap.size wr (wr.alloc (.cells #[.string ⟨nm.toArray⟩,.int .i64 qt] 74)):=(Below.refl _ wr).alloc (Nat.le_refl _) _
        obtain⟨q0,q1⟩:=pair_at hpc
        have hB6:=HB5.out.trans (hal.mono HB5.out.size)
        have hlk:=(HMF.out.below hB6 HMF.out.lt).look Tryz.underlying112 (zeroItem _) nm hnl
        have HB6:=Lib.hid hB6
        have HPK:=Lib.hid hpk
        have HKX:=Lib.hid hkx
        have hfc:=field_code
        clear hpc hal hB6 hpk hkx hokw hnl
        by_cases hin3:nm∈codes X
        ·obtain⟨x3,hx3,hxm3,hxc3⟩:=itF_some hin3
         rw[book_at HND.out hx3] at hlk
         have hne3:=HNE.out x3 hxm3
         have hin4:=Lib.hid hin3
         unfold It.val encStr at hlk
         obtain⟨cc,hcc⟩:∃ z,z=x3.code:=⟨_,rfl⟩
         rw[<- hcc] at hlk hne3
         obtain⟨c1',c2',rfl⟩:∃ u v,cc=u :: v:=by
          cases cc with
          | nil=>exact absurd rfl hne3
          | cons u v=>exact⟨u,v,rfl⟩
         clear hin3 hx3 hxm3 hxc3 hcc hne3
         go_wp2_with (fail)
         go_roundw
         case rel=>exact⟨k+1,rfl,by omega,Lib.hid (fun m hm=>if e:m < k then hfk.out m e else by rw[show m=k by omega,<- HPK.out];exact hin4.out),HB6⟩
         case measure=>simp only[intOf];omega
        ·have hbz:bookF X nm=zItem:=book_other hin3 _
         rw[hbz] at hlk
         unfold zItem at hlk
         have ho:=Lib.hid (chk_part H60.out HA.out HIX.out (by rw[<- HX.out];exact HKX.out) (by rw[<- HX.out,<- HPK.out];exact hin3))
         clear hin3 hbz
         go_wp2_with (fail)
         go_ret3
         exact⟨HBB.out.trans (HB6.out.mono HBB.out.size),_,_,by rw[ho.out];rfl,fun _=>⟨rfl,rfl⟩,fun h=>by rw[ho.out] at h;cases h⟩
       ·have t3:decide ((k:Int) < (np:Int))=false:=by simp;omega
        go_wp2_with (fail)
        go_roundw
        case rel=>exact⟨i2+1,rfl,by omega,Lib.hid (fun m hm=>if e:m < i2 then hfd.out m e else by
         rw[show m=i2 by omega,<- HX.out]
         exact fun j hj=>hfk.out j (by have:=HNP.out;omega)),HB5⟩
        case measure=>simp only[intOf];omega
     ·have t2:decide ((i2:Int) < (n:Int))=false:=by simp;omega
      have hfa:∀ j,j < X.length->∀ k,k < (X.getD j default).ps.length->((X.getD j default).ps.getD k default).1∈codes X:=fun j hj=>hfd.out j (by have:=HLN.out;omega)
      have HF:=Lib.hid (found_of hfa)
      have HK:=Lib.hid (found_kids HND.out hfa)
      clear hfa
      have HM7:=Lib.hid (HMF.out.below HB3.out HMF.out.lt)
      have HDP:=Lib.hid (depths_any w.heap.size mb n X wr HM7.out (HR.out.below HB4.out).ok HB4.out.size HND.out HK.out (by have:=HLN.out;omega) HNE.out)
      go_wp2_with (fail)
      go_at_call 117
      refine HDP.out.mono ?_
      rintro e wd ⟨⟨mo,N,o,rfl,hmo,hN,hgo,hdi,hno,hpos,hzr⟩ | ⟨rfl,hcyc⟩,hbd⟩
      ·have HT:=Lib.hid (tell_of HK.out hdi hno hpos)
       have HO:=Lib.hid hzr
       have HB8:=Lib.hid (HB4.out.trans (hbd.mono HB4.out.size))
       have HM8:=Lib.hid (HM7.out.below hbd HM7.out.lt)
       have HMO:=Lib.hid hmo
       have HGO:=Lib.hid (Nat.le_trans HB4.out.size hgo)
       have HPOS:=Lib.hid hpos
       have hrz:∀ j,j < X.length->tellX X (cd X j)≠0:=fun j hj e=>by
        have h1:=HT.out _ (cd_mem hj)
        have h2:=HPOS.out _ (cd_mem hj)
        rw[h1,e] at h2
        exact absurd h2 (by decide)
       have HRZ:=Lib.hid hrz
       obtain⟨D,hown,hat,hhas⟩:=hmo
       have HOWN:=Lib.hid hown
       have HAT:=Lib.hid hat
       have HHAS:=Lib.hid hhas
       clear hbd hN hgo hdi hno hpos hzr hrz hown hat hhas HDP
       go_wp2_with (at_range;refine wpList_range_own _ rfl _ 113 rfl 9 3 skey Tryz.underlying113 RVal mo N D rfl HOWN.out ?_;intro w5 hrg0 hg0 hs5)
       go_frame
       have H5:=Lib.hid (show Below w.heap.size w w5 from HB8.out.grown hg0 HB8.out.size (fun k hk=>by cases hk))
       have HB85:=Lib.hid (show Below wd.heap.size wd w5 from (Below.refl _ wd).grown hg0 (Nat.le_refl _) (fun k hk=>by cases hk))
       have hmolt:=HMO.out.lt
       obtain⟨r,hr⟩:∃ r,r=wd.heap.size:=⟨_,rfl⟩
       rw[<- hr] at hrg0 hmolt ⊢
       have Hrg0:=Lib.hid hrg0
       have HRD:=Lib.hid hr
       clear hrg0 hg0 hs5 hr
       go_loopw [15] (fun _ wr=>∃ (left:Lit->Bool) (cnt:Nat),Hid (wr.ranges Tryz.prog 9 RVal mo r N D left cnt)/\Hid (∀ s∈codes X,left (.string s)=true∨o s<=8)/\Hid (Below wd.heap.size wd wr)) (fun _ wr=>wr.rangeLeft mo r)
       case atStart =>
        refine⟨_,_,Hrg0,Lib.hid (fun s hs=>Or.inl ?_),HB85⟩
        rw[HHAS.out]
        unfold oV
        intro e
        have:=HPOS.out s hs
        simp at e
        omega
       case round =>
        obtain⟨left,cnt,hrg,hcov,hb⟩:=hrel
        go_wp2_with (at_next;refine wpList_next_ranges _ rfl _ rfl 9 skey RVal encStr (fun v:Value=>v) (fun key kl hk=>by obtain⟨x,hx,_⟩:=Maps.keyOf_str Tryz.underlying9 hk;exact⟨x,hx⟩) (fun v y hv=>⟨v,rfl⟩) mo r N D left cnt rfl hrg.out ?_ ?_)
        ·intro _ hl0
         have hd8:∀ j,j < X.length->tellX X (cd X j)<=8:=fun j hj=>by
          have h1:=HT.out _ (cd_mem hj)
          have h2:=(hcov.out _ (cd_mem hj)).resolve_left (by rw[hl0];simp)
          rw[h1] at h2
          omega
         have ho:=Lib.hid (chk_fine H60.out HA.out HF.out HRZ.out hd8)
         have HM9:=Lib.hid (HM8.out.below hb.out HM8.out.lt)
         have HMO9:=Lib.hid (HMO.out.below hb.out HMO.out.lt)
         have HB9:=Lib.hid (HB8.out.trans (hb.out.mono HB8.out.size))
         clear hl0 hd8
         go_wp2_with (fail)
         go_ret3
         exact⟨HB9.out,_,_,by rw[ho.out];rfl,fun h=>absurd ho.out h,fun _=>⟨mb,mo,N,o,rfl,rfl,HM9.out,HMO9.out,HGE.out,HGO.out,HO.out,HT.out⟩⟩
        ·intro x c kl yd yp w6 cnt2 hkey hlk hv hat2 hrg2 hlt hg2 hs2 hen
         obtain⟨x',ex,rfl,hxl⟩:=Maps.keyOf_str Tryz.underlying9 hkey
         obtain rfl:x=x':=encStr_inj ex
         have hc:c = .int .i64 (o x):=by
          have h1:=hat2 (.held (.int .i64 0))
          rw[HAT.out x] at h1
          unfold RVal at hv
          simp only[Option.some.injEq,Prod.mk.injEq] at hv
          rw[<- hv.1] at h1
          cases h1
          rfl
         subst hc
         have HRG:=Lib.hid hrg2
         have HLT:=Lib.hid hlt
         have HLQ:=Lib.hid (show wr.rangeLeft mo r=cnt from hrg.out.left_eq)
         have HB7:=Lib.hid (show Below wd.heap.size wd w6 from hb.out.grown hg2 hb.out.size (fun k e=>by have:=Option.some.inj e;have:=HRD.out;omega))
         obtain⟨ox,hox⟩:∃ z,z=o x:=⟨_,rfl⟩
         rw[<- hox] at hen ⊢
         have HOX:=Lib.hid hox
         clear hkey hlk hv hat2 hrg2 hlt hg2 hs2 hxl ex hox
         simp only[encStr] at hen ⊢
         by_cases h8:8 < ox
         ·have e1:decide ((8:Int) < ox)=true:=by simp;omega
          have hxc:x∈codes X:=by
           apply Classical.byContradiction
           intro hno2
           have:=HO.out x hno2
           rw[<- HOX.out] at this
           omega
          obtain⟨i9,hi9,-,rfl⟩:=there hxc
          have ho:=Lib.hid (chk_deep H60.out HA.out HF.out HRZ.out hi9 (by have h1:=HT.out _ hxc;rw[<- HOX.out] at h1;omega))
          have HB9:=Lib.hid (HB8.out.trans (HB7.out.mono HB8.out.size))
          clear hxc h8 hi9
          go_wp2_with (fail)
          go_ret3
          exact⟨HB9.out,_,_,by rw[ho.out];rfl,fun _=>⟨rfl,rfl⟩,fun h=>by rw[ho.out] at h;cases h⟩
         ·have e1:decide ((8:Int) < ox)=false:=by simp;omega
          have hcov7:∀ s∈codes X,(left (.string s) && !(Lit.string s).sameKey (.string x))=true∨o s<=8:=fun s hs=>by
           by_cases e:s=x
           ·subst e
            rw[<- HOX.out]
            exact Or.inr (by omega)
           ·rcases hcov.out s hs with h | h
            ·left
             rw[h,Bool.true_and,sameKey_strings_ne e]
             rfl
            ·exact Or.inr h
          have RC7:=Lib.hid hcov7
          clear hcov7 h8
          go_wp2_with (fail)
          go_roundw
          case rel=>exact⟨_,cnt2,HRG,RC7,HB7⟩
          case measure=>rw[HRG.out.left_eq,HLQ.out];exact HLT.out
      ·obtain⟨c,hc,hnone⟩:=hcyc
       obtain⟨i9,hi9,-,rfl⟩:=there hc
       have ho:=Lib.hid (chk_round H60.out HA.out HF.out hi9 (by unfold tellX;rw[hnone];rfl))
       have HB9:=Lib.hid (HB4.out.trans (hbd.mono HB4.out.size))
       clear hc hnone hbd hi9 HDP
       go_wp2_with (fail)
       go_ret3
       exact⟨HB9.out,_,_,by rw[ho.out];rfl,fun _=>⟨rfl,rfl⟩,fun h=>by rw[ho.out] at h;cases h⟩
end Go.Proofs.YtgplnekpgdhcpaaGreat
