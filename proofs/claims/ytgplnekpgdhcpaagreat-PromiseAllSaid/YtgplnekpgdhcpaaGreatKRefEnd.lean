/-  -/
import Derived.Test.YtgplnekpgdhcpaaGreatKDepths
import Derived.Test.YtgplnekpgdhcpaaGreatKRefDeep
import Derived.Test.YtgplnekpgdhcpaaGreatQBridge
import Derived.Test.YtgplnekpgdhcpaaGreatJOver
import Derived.Test.YtgplnekpgdhcpaaGreatJRef
namespace Go.Proofs.YtgplnekpgdhcpaaGreat
section
open Go.RowKit
set_option maxHeartbeats 8000000 in
set_option maxRecDepth 100000 in
theorem rCheck_any (B:Nat) (a:Option Addr) (n cp:Nat) (X:List It) (w:World) (hr:RI B w a n cp X) (hB:B<=w.heap.size) :
  Calls Tryz.prog 71 #[.slice a n cp] w fun e w'=>e=.returned (.int .i64 (chkE X))/\Below w.heap.size w w':=by
 have hle:=hr.le;have hmx:=hr.mx;have hln:=hr.len;have HR:=Lib.hid (hr.mono hB);have HLN:=Lib.hid hln;clear hr hln;go_enter Tryz.func71,Tryz.ntmps71;by_cases hn60:60<n
 ·have t0:decide ((60:Int)<(n:Int))=true:=by simp;omega
  have ho:=Lib.hid (chk_long (X:=X) (by rw[<- HLN.out];exact hn60));clear hn60;go_wp2_with (fail);go_ret;exact⟨by rw[ho.out];rfl,Below.refl _ _⟩
 ·have t0:decide ((60:Int)<(n:Int))=false:=by simp;omega
  have H60:=Lib.hid (show ¬ 60<X.length by rw[<- HLN.out];exact hn60);have hn60':n<=60:=by omega
  clear hn60;go_wp2_with (fail);go_loopw [3] (fun s3 wr=>∃ i:Nat,s3=.int .i64 i/\i<=n/\Hid (∀ j,j<i->okIt X j=true)/\Hid (Below w.heap.size w wr)) (fun s3 _=>n-(intOf s3).toNat)
  case atStart=>exact⟨0,rfl,by omega,Lib.hid (fun j hj=>absurd hj (Nat.not_lt_zero _)),Lib.hid (Below.refl _ _)⟩
  case round =>
   obtain⟨i,rfl,hi,hok,HB⟩:=hrel;by_cases hin:i<n
   ·have t1:decide ((i:Int)<(n:Int))=true:=(by simp;omega);have i0:(0:Int)<=(i:Int):=(by omega);have i1:(i:Int)<(n:Int):=(by omega);have f1:IntKind.i64.wrap ((i:Int)+1)=((i+1:Nat):Int):=(by rw[wrap_in (by omega) (by omega)];omega);have hRI:=HR.out.below HB.out;obtain⟨b,o,rfl,hbB,hok1,c0,c1,c2,c3⟩:=hRI.item hin;have hix:i<X.length:=(by rw[<- HLN.out];exact hin);have hbw:b<wr.heap.size:=Nat.lt_of_lt_of_le hbB HB.out.size;have hdef:(X.getD i default).code=cd X i:=rfl;have hcl:=hok1.code;have HSH:=Lib.hid (fun y:BelowW wr=>shape_any w.heap.size (X.getD i default) y.v (hok1.below (y.h.mono HB.out.size)) (Nat.le_trans HB.out.size y.h.size));unfold It.val at HSH;obtain⟨x,hx⟩:∃ x,x=X.getD i default:=⟨_,rfl⟩
    rw[<- hx] at c0 c1 c2 c3 hok1 HSH hdef hcl;have HX:=Lib.hid hx;have HDEF:=Lib.hid hdef;unfold encStr at c0 HSH;have q0:∀ y:BelowW wr,y.v.cell? ⟨b,o+i*4,none⟩=some (.string ⟨x.code.toArray⟩):=fun y=>(y.h.cell hbw).trans c0
    have q1:∀ y:BelowW wr,y.v.cell? ⟨b,o+i*4+1,none⟩=some (.int .i64 x.life):=fun y=>(y.h.cell hbw).trans c1
    have q2:∀ y:BelowW wr,y.v.cell? ⟨b,o+i*4+2,none⟩=some (.slice x.pa x.ps.length x.pc):=fun y=>(y.h.cell hbw).trans c2
    have q3:∀ y:BelowW wr,y.v.cell? ⟨b,o+i*4+3,none⟩=some (.slice x.oa x.os.length x.oc):=fun y=>(y.h.cell hbw).trans c3
    have HCD:=Lib.hid (fun y:BelowW wr=>rCode_any x.code hcl y.v);clear hx hdef c0 c1 c2 c3 hok1 hcl;have HIX:=Lib.hid hix;clear hix
    cases hc1:okCode x.code with
    | false =>
     have ho:=Lib.hid (chk_bad H60.out HIX.out (okIt_code (by rw[<- HDEF.out];exact hc1)));rw[hc1] at HCD;clear hc1;go_wp2_with (fail);refine wp_region_below wr (by kernel_rfl) (by kernel_rfl) (Below.refl _ _) ?_
     repeat (go_big_quiet_step (first|(go_at_call 69;exact below_call_same (HCD.out _))|(go_at_call 102;exact below_call (HSH.out _))))
     refine wpQuiet_nil ?_;intro _ hw';obtain⟨y,hw''⟩:=hw';subst hw'';clear q0 q1 q2 q3 ;go_wp2_with (fail);go_ret;exact⟨by rw[ho.out];rfl,HB.out.trans (y.h.mono HB.out.size)⟩
    | true =>
     have HC1:=Lib.hid (show okCode (cd X i)=true by rw[<- HDEF.out];exact hc1);rw[hc1] at HCD;clear hc1;rcases Nat.eq_zero_or_pos i with hz|hz
     ·have e6:decide ((0:Int)<(i:Int))=false:=(by simp;omega);have e7:decide (0<i)=false:=(by simp;omega);have HZ:=Lib.hid hz;clear hz
      cases hc3:okShape x.life x.ps with
      | false =>
       have ho:=Lib.hid (chk_bad H60.out HIX.out (okIt_shape (by rw[<- HX.out];exact hc3)));rw[hc3] at HSH;clear hc3;go_wp2_with (fail);refine wp_region_below wr (by kernel_rfl) (by kernel_rfl) (Below.refl _ _) ?_
       repeat (go_big_quiet_step (first|(go_at_call 69;exact below_call_same (HCD.out _))|(go_at_call 102;exact below_call (HSH.out _))))
       refine wpQuiet_nil ?_;intro _ hw';obtain⟨y,hw''⟩:=hw';subst hw'';clear q0 q1 q2 q3 ;go_wp2_with (fail);go_ret;exact⟨by rw[ho.out];rfl,HB.out.trans (y.h.mono HB.out.size)⟩
      | true =>
       have ho:=Lib.hid (okIt_yes (X:=X) (i:=i) HC1.out (Or.inl HZ.out) (by rw[<- HX.out];exact hc3));rw[hc3] at HSH;clear hc3;go_wp2_with (fail);refine wp_region_below wr (by kernel_rfl) (by kernel_rfl) (Below.refl _ _) ?_
       repeat (go_big_quiet_step (first|(go_at_call 69;exact below_call_same (HCD.out _))|(go_at_call 102;exact below_call (HSH.out _))))
       refine wpQuiet_nil ?_;intro _ hw';obtain⟨y,hw''⟩:=hw';subst hw'';clear q0 q1 q2 q3 ;go_wp2_with (fail);go_roundw
       case rel=>exact⟨i+1,rfl,by omega,Lib.hid (fun m hm=>if e:m<i then hok.out m e else by rw[show m=i by omega];exact ho.out),Lib.hid (HB.out.trans (y.h.mono HB.out.size))⟩
       case measure=>simp only[intOf];omega
     ·have e6:decide ((0:Int)<(i:Int))=true:=(by simp;omega);have e7:decide (0<i)=true:=(by simp;omega);obtain⟨j,hj⟩:∃ j,j=i-1:=⟨_,rfl⟩
      have f9:IntKind.i64.wrap ((i:Int)-1)=(j:Int):=(by rw[wrap_in (by omega) (by omega)];omega);have j0:(0:Int)<=(j:Int):=(by omega);have j1:(j:Int)<(n:Int):=(by omega);obtain⟨b',o',hbo,-,-,d0,-⟩:=hRI.item (i:=j) (by omega)
      cases hbo
      obtain⟨xp,hxp⟩:∃ z,z=(X.getD j default).code:=⟨_,rfl⟩
      rw[<- hxp] at d0;unfold encStr at d0;have q9:∀ y:BelowW wr,y.v.cell? ⟨b,o+j*4,none⟩=some (.string ⟨xp.toArray⟩):=fun y=>(y.h.cell hbw).trans d0
      have HXP:=Lib.hid (show xp=cd X (i-1) by rw[hxp,hj];rfl);have HZ:=Lib.hid hz;clear hz hj d0 hxp
      cases hlt:Op.bytesLess xp x.code with
      | false =>
       have ho:=Lib.hid (chk_bad H60.out HIX.out (okIt_less HZ.out (by rw[<- HXP.out,<- HDEF.out];exact hlt)));go_wp2_with (fail);refine wp_region_below wr (by kernel_rfl) (by kernel_rfl) (Below.refl _ _) ?_
       repeat (go_big_quiet_step (first|(go_at_call 69;exact below_call_same (HCD.out _))|(go_at_call 102;exact below_call (HSH.out _))))
       refine wpQuiet_nil ?_;intro _ hw';obtain⟨y,hw''⟩:=hw';subst hw'';clear q0 q1 q2 q3 q9;go_wp2_with (fail);go_ret;exact⟨by rw[ho.out];rfl,HB.out.trans (y.h.mono HB.out.size)⟩
      | true =>
       have HLT:=Lib.hid (show Op.bytesLess (cd X (i-1)) (cd X i)=true by rw[<- HXP.out,<- HDEF.out];exact hlt)
       cases hc3:okShape x.life x.ps with
       | false =>
        have ho:=Lib.hid (chk_bad H60.out HIX.out (okIt_shape (by rw[<- HX.out];exact hc3)));rw[hc3] at HSH;clear hc3;go_wp2_with (fail);refine wp_region_below wr (by kernel_rfl) (by kernel_rfl) (Below.refl _ _) ?_
        repeat (go_big_quiet_step (first|(go_at_call 69;exact below_call_same (HCD.out _))|(go_at_call 102;exact below_call (HSH.out _))))
        refine wpQuiet_nil ?_;intro _ hw';obtain⟨y,hw''⟩:=hw';subst hw'';clear q0 q1 q2 q3 q9;go_wp2_with (fail);go_ret;exact⟨by rw[ho.out];rfl,HB.out.trans (y.h.mono HB.out.size)⟩
       | true =>
        have ho:=Lib.hid (okIt_yes (X:=X) (i:=i) HC1.out (Or.inr HLT.out) (by rw[<- HX.out];exact hc3));rw[hc3] at HSH;clear hc3;go_wp2_with (fail);refine wp_region_below wr (by kernel_rfl) (by kernel_rfl) (Below.refl _ _) ?_
        repeat (go_big_quiet_step (first|(go_at_call 69;exact below_call_same (HCD.out _))|(go_at_call 102;exact below_call (HSH.out _))))
        refine wpQuiet_nil ?_;intro _ hw';obtain⟨y,hw''⟩:=hw';subst hw'';clear q0 q1 q2 q3 q9;go_wp2_with (fail);go_roundw
        case rel=>exact⟨i+1,rfl,by omega,Lib.hid (fun m hm=>if e:m<i then hok.out m e else by rw[show m=i by omega];exact ho.out),Lib.hid (HB.out.trans (y.h.mono HB.out.size))⟩
        case measure=>simp only[intOf];omega
   ·have t1:decide ((i:Int)<(n:Int))=false:=(by simp;omega);have hall:∀ j,j<X.length->okIt X j=true:=fun j hj=>hok.out j (by have:=HLN.out;omega)
    have HA:=Lib.hid (allOk_of hall);have HND:=Lib.hid (codes_nodup hall);clear hall;go_wp2_with (fail);go_loopw [4] (fun s4 wq=>∃ i:Nat,s4=.int .i64 i/\i<=n/\wq=wr/\Hid (∀ j,j<i->∀ k,k<(X.getD j default).ps.length->((X.getD j default).ps.getD k default).1∈codes X)) (fun s4 _=>n-(intOf s4).toNat)
    case atStart=>exact⟨0,rfl,by omega,rfl,Lib.hid (fun j hj=>absurd hj (Nat.not_lt_zero _))⟩
    case round =>
     obtain⟨i2,rfl,hi2,rfl,hfd⟩:=hrel;by_cases hin2:i2<n
     ·have t2:decide ((i2:Int)<(n:Int))=true:=(by simp;omega);have i0:(0:Int)<=(i2:Int):=(by omega);have i1:(i2:Int)<(n:Int):=(by omega);have f1:IntKind.i64.wrap ((i2:Int)+1)=((i2+1:Nat):Int):=(by rw[wrap_in (by omega) (by omega)];omega);have hRI:=HR.out.below HB.out;obtain⟨b,o,rfl,hbB,hok1,-,-,c2,-⟩:=hRI.item hin2;have HRI:=Lib.hid hRI;have HIX:=Lib.hid (show i2<X.length by rw[<- HLN.out];exact hin2);obtain⟨x,hx⟩:∃ x,x=X.getD i2 default:=⟨_,rfl⟩
      rw[<- hx] at c2 hok1;have HX:=Lib.hid hx;have HOK:=Lib.hid hok1;have hmp:=hok1.rp.mx;have hlp:=hok1.rp.le;obtain⟨np,hnp⟩:∃ k,k=x.ps.length:=⟨_,rfl⟩
      obtain⟨pa,hpa⟩:∃ k,k=x.pa:=⟨_,rfl⟩
      rw[<- hnp] at hlp;rw[<- hnp,<- hpa] at c2;have HNP:=Lib.hid hnp;have HPA:=Lib.hid hpa;clear hRI hx hok1 hnp hpa;go_wp2_with (fail);go_loopw [5] (fun s5 wp=>∃ k:Nat,s5=.int .i64 k/\k<=np/\wp=wr/\Hid (∀ j,j<k->(x.ps.getD j default).1∈codes X)) (fun s5 _=>np-(intOf s5).toNat)
      case atStart=>exact⟨0,rfl,by omega,rfl,Lib.hid (fun j hj=>absurd hj (Nat.not_lt_zero _))⟩
      case round =>
       obtain⟨k,rfl,hk,rfl,hfk⟩:=hrel;by_cases hkn:k<np
       ·have t3:decide ((k:Int)<(np:Int))=true:=(by simp;omega);have k0:(0:Int)<=(k:Int):=(by omega);have k1:(k:Int)<(np:Int):=(by omega);have f3:IntKind.i64.wrap ((k:Int)+1)=((k+1:Nat):Int):=(by rw[wrap_in (by omega) (by omega)];omega);have hkx:k<x.ps.length:=(by rw[<- HNP.out];exact hkn);obtain⟨b2,po2,hpa',-,p0,-⟩:=HOK.out.rp.part hkx;rw[<- HPA.out] at hpa';subst hpa';obtain⟨nm,hnm⟩:∃ z,z=(x.ps.getD k default).1:=⟨_,rfl⟩
        have hnl:=(HOK.out.rp.fine.at_ hkx).1;rw[<- hnm] at p0 hnl;unfold encStr at p0;have hfind:=Lib.hid (Find_any w.heap.size (some ⟨b,o,none⟩) n cp X nm wr HRI.out HB.out.size hnl);have HNM:=Lib.hid hnm;have HKX:=Lib.hid hkx;clear hkx hnl hnm;go_wp2_with (fail);go_at_call 70;refine hfind.out.mono ?_;rintro e w3 ⟨rfl,rfl⟩;by_cases hin3:nm∈codes X
        ·obtain⟨j,hj,hfj,hcj⟩:=there hin3;rw[hfj];have hneg:decide ((j:Int)<0)=false:=decide_eq_false (by omega);have hin4:=Lib.hid hin3;clear hin3 hfj hcj hfind;go_wp2_with (fail);go_roundw
         case rel=>exact⟨k+1,rfl,by omega,trivial,Lib.hid (fun m hm=>if e:m<k then hfk.out m e else by rw[show m=k by omega,<- HNM.out];exact hin4.out)⟩
         case measure=>simp only[intOf];omega
        ·have hfm:fI X nm=-1:=fI_none fun j hj e=>hin3 (by rw[<- e];exact cd_mem hj)
         rw[hfm];have ho:=Lib.hid (chk_part H60.out HA.out HIX.out (by rw[<- HX.out];exact HKX.out) (by rw[<- HX.out,<- HNM.out];exact hin3));clear hin3 hfm hfind;go_wp2_with (fail);go_ret;exact⟨by rw[ho.out];rfl,HB.out⟩
       ·have t3:decide ((k:Int)<(np:Int))=false:=(by simp;omega);go_wp2_with (fail);go_roundw
        case rel=>exact⟨i2+1,rfl,by omega,trivial,Lib.hid (fun m hm=>if e:m<i2 then hfd.out m e else by
         rw[show m=i2 by omega,<- HX.out];exact fun j hj=>hfk.out j (by have:=HNP.out;omega))⟩
        case measure=>simp only[intOf];omega
     ·have t2:decide ((i2:Int)<(n:Int))=false:=(by simp;omega);have hfa:∀ j,j<X.length->∀ k,k<(X.getD j default).ps.length->((X.getD j default).ps.getD k default).1∈codes X:=fun j hj=>hfd.out j (by have:=HLN.out;omega)
      have HF:=Lib.hid (found_of hfa);have HK:=Lib.hid (found_kids HND.out hfa);clear hfa;have HDP:=Lib.hid (rDeep_any w.heap.size a n cp X wr (HR.out.below HB.out) HB.out.size HND.out HK.out (by have:=HLN.out;omega));go_wp2_with (fail);go_at_call 103;refine HDP.out.mono ?_;rintro e w4 ⟨g,o,rfl,hoi,hgb,hb4,hht⟩;have HOI:=Lib.hid hoi;have HT:=Lib.hid (show ∀ j,j<n->o (cd X j)=tellX X (cd X j) from fun j hj=>hht _ (cd_mem (by have:=HLN.out;omega)));have HB4:=Lib.hid (HB.out.trans (hb4.mono HB.out.size));clear hoi hgb hb4 hht HDP;go_wp2_with (fail);go_loopw [7] (fun s7 wp=>∃ i:Nat,s7=.int .i64 i/\i<=n/\wp=w4/\Hid (∀ j,j<i->o (cd X j)≠0)) (fun s7 _=>n-(intOf s7).toNat)
      case atStart=>exact⟨0,rfl,by omega,rfl,Lib.hid (fun j hj=>absurd hj (Nat.not_lt_zero _))⟩
      case round =>
       obtain⟨i3,rfl,hi3,rfl,hnz⟩:=hrel;by_cases hin3:i3<n
       ·have t3:decide ((i3:Int)<(n:Int))=true:=(by simp;omega);have k0:(0:Int)<=(i3:Int):=(by omega);have k1:(i3:Int)<(n:Int):=(by omega);have f3:IntKind.i64.wrap ((i3:Int)+1)=((i3+1:Nat):Int):=(by rw[wrap_in (by omega) (by omega)];omega);have ci:=HOI.out.cell hin3;obtain⟨d,hd⟩:∃ d,d=o (cd X i3):=⟨_,rfl⟩
        rw[<- hd] at ci;have HDD:=Lib.hid hd;clear hd;by_cases hd0:d=0
        ·have e1:((d:Int) == 0)=true:=(by simp;omega);have ho:=Lib.hid (chk_round H60.out HA.out HF.out (i:=i3) (by have:=HLN.out;omega) (by rw[<- HT.out i3 hin3,<- HDD.out];exact hd0));clear hd0;go_wp2_with (fail);go_ret;exact⟨by rw[ho.out];rfl,HB4.out⟩
        ·have e1:((d:Int) == 0)=false:=(by simp;omega);have hno:=Lib.hid (show o (cd X i3)≠0 by rw[<- HDD.out];exact hd0);clear hd0;go_wp2_with (fail);go_roundw
         case rel=>exact⟨i3+1,rfl,by omega,trivial,Lib.hid (fun m hm=>if e:m<i3 then hnz.out m e else by rw[show m=i3 by omega];exact hno.out)⟩
         case measure=>simp only[intOf];omega
       ·have t3:decide ((i3:Int)<(n:Int))=false:=(by simp;omega);have hrz:∀ j,j<X.length->tellX X (cd X j)≠0:=fun j hj=>by
         have hjn:j<n:=(by have:=HLN.out;omega);rw[<- HT.out j hjn];exact hnz.out j (by omega)
        have HRZ:=Lib.hid hrz;clear hrz;go_wp2_with (fail);go_loopw [8] (fun s8 wz=>∃ i:Nat,s8=.int .i64 i/\i<=n/\wz=wr/\Hid (∀ j,j<i->o (cd X j)<=8)) (fun s8 _=>n-(intOf s8).toNat)
        case atStart=>exact⟨0,rfl,by omega,rfl,Lib.hid (fun j hj=>absurd hj (Nat.not_lt_zero _))⟩
        case round =>
         obtain⟨i4,rfl,hi4,rfl,hde⟩:=hrel;by_cases hin4:i4<n
         ·have t4:decide ((i4:Int)<(n:Int))=true:=(by simp;omega);have k0:(0:Int)<=(i4:Int):=(by omega);have k1:(i4:Int)<(n:Int):=(by omega);have f3:IntKind.i64.wrap ((i4:Int)+1)=((i4+1:Nat):Int):=(by rw[wrap_in (by omega) (by omega)];omega);have ci:=HOI.out.cell hin4;obtain⟨d,hd⟩:∃ d,d=o (cd X i4):=⟨_,rfl⟩
          rw[<- hd] at ci;have HDD:=Lib.hid hd;clear hd;by_cases hd0:8<d
          ·have e1:decide ((8:Int)<(d:Int))=true:=(by simp;omega);have ho:=Lib.hid (chk_deep H60.out HA.out HF.out HRZ.out (i:=i4) (by have:=HLN.out;omega) (by rw[<- HT.out i4 hin4,<- HDD.out];exact hd0));clear hd0;go_wp2_with (fail);go_ret;exact⟨by rw[ho.out];rfl,HB4.out⟩
          ·have e1:decide ((8:Int)<(d:Int))=false:=(by simp;omega);have hno:=Lib.hid (show o (cd X i4)<=8 by rw[<- HDD.out];omega);clear hd0;go_wp2_with (fail);go_roundw
           case rel=>exact⟨i4+1,rfl,by omega,trivial,Lib.hid (fun m hm=>if e:m<i4 then hde.out m e else by rw[show m=i4 by omega];exact hno.out)⟩
           case measure=>simp only[intOf];omega
         ·have t4:decide ((i4:Int)<(n:Int))=false:=(by simp;omega);have ho:=Lib.hid (chk_fine H60.out HA.out HF.out HRZ.out (fun j hj=>by
           have hjn:j<n:=(by have:=HLN.out;omega);rw[<- HT.out j hjn];exact hde.out j (by omega)))
          go_wp2_with (fail);go_ret;exact⟨by rw[ho.out];rfl,HB4.out⟩
end
section
open Go.RowKit
theorem join_merge {A B S T:List Pt} (hA:joinL [] A=some S) (hB:joinL [] B=some T):joinL [] (S++T)=joinL [] (A++B):=by
 have uS:=joinL_up Up.nil hA;have uT:=joinL_up Up.nil hB;refine joinL_eq (fun k=>?_) (fun k=>?_) ⟨fun _ r hr=>?_,fun _ r hr=>?_⟩
 ·rw[tot_append,tot_append,uS.tot_eq,uT.tot_eq,joinL_sum Up.nil hA,joinL_sum Up.nil hB];show (0+_)+(0+_)=_;omega
 ·rw[List.map_append,List.mem_append,List.map_append,List.mem_append,joinL_keys hA,joinL_keys hB];simp
 ·rcases List.mem_append.1 hr with hr|hr
  ·exact ((joinL_iff Up.nil).1 (by rw[hA];rfl)).1 r hr
  ·exact ((joinL_iff Up.nil).1 (by rw[hB];rfl)).1 r hr
 ·rcases List.mem_append.1 hr with hr|hr
  ·exact uS.2 r hr
  ·exact uT.2 r hr
theorem leaves_pos {X:List It} (hs:Sound X) (k:Nat) {c:List UInt8} (hc:c∈codes X) {q:Int} (h1:1<=q):∀ p∈leaves X k c q,0<=p.2:=fun p hp=>by
 have:=(leaves_ge hs k hc h1 p hp).1;omega
theorem part_ge {q r:Int} (h1:1<=q) (h2:1<=r):1<=q*r/\q<=q*r:=by
 have:=Int.mul_le_mul_of_nonneg_left h2 (show 0<=q by omega);omega
theorem end_sub {X:List It} (hs:Sound X) {k:Nat} {c:List UInt8} (hc:c∈codes X) (h0:(partsX X c).length≠0) {q:Int} (h1:1<=q) {p:Pt} (hp:p∈partsX X c) (h:joinL [] (leaves X k p.1 (q*p.2))=none):joinL [] (leaves X (k+1) c q)=none:=by
 cases hw:joinL [] (leaves X (k+1) c q) with
 | none=>rfl
 | some R =>
  obtain⟨f1,f2⟩:=(joinL_iff Up.nil).1 (show (joinL [] (leaves X (k+1) c q)).isSome=true by rw[hw];rfl);have h3:(joinL [] (leaves X k p.1 (q*p.2))).isSome=true:=(joinL_iff Up.nil).2 ⟨fun r hr=>f1 r (by rw[leaves_kit h0];exact List.mem_flatMap.2 ⟨p,hp,hr⟩),fun s=>by
   have h4:=f2 s;rw[leaves_kit h0] at h4;have h5:=tot_flat s (fun p=>leaves X k p.1 (q*p.2)) (L:=partsX X c) (fun x hx=>leaves_pos hs k (hs.parts hc x hx).1 (part_ge h1 (hs.parts hc x hx).2.1).1) hp;have h6:tot s (leaves X k p.1 (q*p.2))<=tot s (List.flatMap (fun p=>leaves X k p.1 (q*p.2)) (partsX X c)):=h5;omega⟩
  rw[h] at h3
  cases h3
theorem end_over {X:List It} (hs:Sound X) {k:Nat} {c:List UInt8} (hc:c∈codes X) (h0:(partsX X c).length≠0) {d:Nat} (hd:hgt (kidsX X) (k+1) c=some d) {q:Int} (h1:1<=q) (h2:q<=mostA) {p:Pt} (hp:p∈partsX X c) (h:timesA q p.2=none):joinL [] (leaves X (k+1) c q)=none:=by
 obtain⟨g1,g2,g3⟩:=hs.parts hc p hp;rw[times_fine h1 g2 g3 h2] at h;have hb:mostA<q*p.2:=by
  by_cases hle:q*p.2<=mostA
  ·rw[if_pos hle] at h;cases h
  ·omega
 obtain⟨d',hd'⟩:=hgt_parts hd p hp;obtain⟨r,hr⟩:=leaves_some (X:=X) k (q:=q*p.2) hd';have h3:=(leaves_ge hs k g1 (part_ge h1 g2).1 r hr).1;exact joinL_big Up.nil (p:=r) (by rw[leaves_kit h0];exact List.mem_flatMap.2 ⟨p,hp,hr⟩) (by omega)
theorem flat_take {α β:Type} [Inhabited α] (g:α->List β) {L:List α} {j:Nat} (hj:j<L.length):(L.take (j+1)).flatMap g=(L.take j).flatMap g++g (L.getD j default):=by
 rw[List.take_succ_eq_append_getElem hj,List.flatMap_append,List.getD_eq_getElem?_getD,List.getElem?_eq_getElem hj];simp
theorem flat_more {α β:Type} (g:α->List β) (L:List α) (j:Nat):L.flatMap g=(L.take j).flatMap g++(L.drop j).flatMap g:=by
 rw[<- List.flatMap_append,List.take_append_drop]
theorem RV.two {B:Nat} {W:World} {a0 a1:Option Addr} {n0 n1 c0 c1:Nat} {P0 P1:List Pt} (h0:RP B W a0 n0 c0 P0) (h1:RP B W a1 n1 c1 P1) (hB:B<=W.heap.size) :
  RV (W.heap.size+1) (W.alloc (.cells #[.slice a0 n0 c0,.slice a1 n1 c1] 64)) (some ⟨W.heap.size,0,none⟩) 2 2 [⟨a0,n0,c0,P0⟩,⟨a1,n1,c1,P1⟩]:=by
 refine⟨rfl,Nat.le_refl _,by omega,fun _=>⟨W.heap.size,0,rfl,by omega,fun i hi=>?_⟩,fun i hi=>?_⟩
 ·rcases (show i=0∨i=1 by omega) with rfl|rfl<;>simp only[World.cell?,(Go.MapKept.heap_alloc W _).1]<;>rfl
 ·rcases (show i=0∨i=1 by omega) with rfl|rfl
  ·exact (h0.below ((Below.refl _ W).alloc hB _)).mono (by omega)
  ·exact (h1.below ((Below.refl _ W).alloc hB _)).mono (by omega)
theorem op_one {base:Nat} {W:World} (hb:base<=W.heap.size) (c:List UInt8) (q:Int):OP base (W.alloc (.cells #[.string ⟨c.toArray⟩,.int .i64 q] 74)) (.slice (some ⟨W.heap.size,0,none⟩) 1 1) [(c,q)] :=
 ⟨rfl,.inr ⟨W.heap.size,1,_,rfl,hb,heap_alloc_new _ _,Nat.le_refl _,by simp[maxLen],rfl,rfl⟩⟩
def ER (X:List It) (k:Nat) (q:Int) (ps:List Pt) (w:World) (g:Nat) (x:It) (v:Value) (j m:Nat) (wr:World):Prop :=
 ∃ S,m=S.length/\joinL [] ((ps.take j).flatMap fun p=>leaves X k p.1 (q*p.2))=some S/\PS X S/\OP w.heap.size wr v S/\Below w.heap.size w wr/\XC wr g x
set_option maxHeartbeats 8000000 in
set_option maxRecDepth 100000 in
theorem rEnd_any (B:Nat) (a:Option Addr) (n cp:Nat) (X:List It) (hs:Sound X) (k:Nat):∀ (c:List UInt8) (q:Int) (w:World) (d:Nat),RI B w a n cp X->B<=w.heap.size->c∈codes X->hgt (kidsX X) k c=some d->1<=q->q<=mostA ->
  Calls Tryz.prog 73 #[.slice a n cp,.int .i64 (fI X c),.int .i64 q] w (JoinPost w (joinL [] (leaves X k c q))):=by
 have HS:=Lib.hid hs;clear hs
 induction k with
 | zero=>rintro c q w d - - - hd;cases hd
 | succ k ih =>
  intro c q w d hr hB hc hd hq1 hq2;obtain⟨i,hi,hfi,hci⟩:=there hc;rw[hfi];have hn:=hr.len;have hle:=hr.le;have hmx:=hr.mx;have i0:(0:Int)<=(i:Int):=by omega
  have i1:(i:Int)<(n:Int):=by omega
  obtain⟨b,o,ha,hbB,hok,c0,c1,c2,c3⟩:=hr.item (i:=i) (by omega);subst ha;obtain⟨x,hx⟩:∃ x,x=X.getD i default:=⟨_,rfl⟩
  have hxi:itF X c=some x:=by rw[<- hci,itF_cd HS.out.nd hi,hx]
  have hxc:x.code=c:=by rw[hx];exact hci
  have hpx:partsX X c=x.ps:=by unfold partsX;rw[hxi]
  rw[<- hx] at hok c0 c1 c2 c3;unfold encStr at c0;have hrp:=hok.rp;have hpl:=hrp.le;have hpm:=hrp.mx;obtain⟨np,hnp⟩:∃ m,m=x.ps.length:=⟨_,rfl⟩
  rw[<- hnp] at hpl c2;obtain⟨no,hno⟩:∃ m,m=x.os.length:=⟨_,rfl⟩
  rw[<- hno] at c3;obtain⟨W1,hW1⟩:∃ W',W'=w.alloc (.cells #[.string ⟨x.code.toArray⟩,.int .i64 x.life,.slice x.pa np x.pc,.slice x.oa no x.oc] 87):=⟨_,rfl⟩
  have hx1:XC W1 w.heap.size x:=⟨by rw[hW1,hnp,hno];exact heap_alloc_new _ _⟩
  have hb1:Below w.heap.size w W1:=by rw[hW1];exact (Below.refl _ w).alloc (Nat.le_refl _) _
  have HX1:=Lib.hid hx1;have HB1:=Lib.hid hb1;have HR:=Lib.hid hr;have HC:=Lib.hid hc;have HD:=Lib.hid hd;have HXC:=Lib.hid hxc;have HPX:=Lib.hid hpx;have HRP:=Lib.hid hrp;have HNP:=Lib.hid hnp;have HW1:=Lib.hid hW1;have HOKX:=Lib.hid (show ∀ x∈X,x.code.length<=9223372036854775807 from fun y hy=>(hr.ok y hy).code);clear hr hc hd hx hxi hxc hpx hrp hok hx1 hb1 hci hfi hi hbB hno hn;go_enter Tryz.func73,Tryz.ntmps73;by_cases h0:np=0
  ·have e0:((np:Int) == 0)=true:=by simp;omega
   have hj:joinL [] (leaves X (k+1) c q)=some [(c,q)]:=by
    rw[leaves_leaf (by rw[HPX.out,<- HNP.out];exact h0)];show (match addA (sumAt [] c) q with|none=>none|some n=>joinL (setAt [] c n) [])=_;have:addA (sumAt [] c) q=some q:=by
     show addA 0 q=some q;unfold mostA at hq2;exact (addA_iff (by decide)).2 ⟨okA_iff.2 (by omega),by unfold mostA;omega,by omega⟩
    rw[this];rfl
   have HJ:=Lib.hid hj;clear h0 hj hnp;go_upto_region 2 with (fail);rw[<- hW1];obtain⟨x0,-,x2⟩:=HX1.out.cells;unfold encStr at x0;rw[<- HNP.out] at x2;clear hW1 c0 c1 c2 c3;go_wp2_with (fail);go_ret2;refine⟨HB1.out.alloc HB1.out.size _,?_⟩;rw[HJ.out];refine⟨_,_,rfl,?_⟩;rw[HXC.out];exact op_one HB1.out.size c q
  ·have e0:((np:Int) == 0)=false:=by simp;omega
   have HK0:Hid ((partsX X c).length≠0):=Lib.hid (by rw[HPX.out,<- HNP.out];exact h0);have hn8:np<=8:=by
    have h:=HS.out.k8 c HC.out;rw[kids_parts,HPX.out,List.length_map] at h;omega
   clear h0 hnp;go_upto_region 2 with (fail);rw[<- hW1];obtain⟨x0,-,x2⟩:=HX1.out.cells;rw[<- HNP.out] at x2;clear hW1 c0 c1 c2 c3 x0;go_wp2_with (fail);go_loopw [9,10] (fun v s wr=>∃ (j m:Nat) (a':Option Addr) (c':Nat),j<=np/\s=.int .i64 j/\v=.slice a' m c'/\Hid (ER X k q x.ps w w.heap.size x (.slice a' m c') j m wr)) (fun _ s _=>np-(intOf s).toNat)
   case atStart=>exact⟨0,0,none,0,by omega,rfl,rfl,Lib.hid ⟨[],rfl,rfl,ps_of HS.out Up.nil (fun p hp=>by cases hp),OP.nil _ _,HB1.out,HX1.out⟩⟩
   case round =>
    clear x2;obtain⟨j,m,a',c',hj,rfl,rfl,HE⟩:=hrel;have hx2:=HE.out;obtain⟨S,hS,hjl,hps,hop,hbl,hxc⟩:=hx2;obtain⟨-,-,x2⟩:=hxc.cells;rw[<- HNP.out] at x2;by_cases hlt:j<np
    ·have t1:decide ((j:Int)<(np:Int))=true:=(by simp;omega);have j0:(0:Int)<=(j:Int):=(by omega);have j1:(j:Int)<(np:Int):=(by omega);have f1:IntKind.i64.wrap ((j:Int)+1)=((j+1:Nat):Int):=(by rw[wrap_in (by omega) (by omega)];omega);obtain⟨pb,po,hpa,hpB,p0,p1⟩:=(HRP.out.below (hbl.mono hB)).part (i:=j) (by rw[<- HNP.out];exact hlt);obtain⟨pj,hpj⟩:∃ p,p=x.ps.getD j default:=⟨_,rfl⟩
     have hpm2:pj∈partsX X c:=(by rw[HPX.out,hpj,List.getD_eq_getElem?_getD,List.getElem?_eq_getElem (by rw[<- HNP.out];exact hlt)];exact List.getElem_mem _);rw[<- hpj] at p0 p1;obtain⟨g1,g2,g3⟩:=HS.out.parts HC.out pj hpm2;obtain⟨d',hd'⟩:=hgt_parts HD.out pj hpm2;have hov:=fun h=>end_over HS.out HC.out HK0.out HD.out hq1 hq2 hpm2 h
     have hsb:=fun h=>end_sub (k:=k) HS.out HC.out HK0.out hq1 hpm2 h
     have hge:=part_ge hq1 g2;have htk:=flat_take (fun p=>leaves X k p.1 (q*p.2)) (L:=x.ps) (j:=j) (by rw[<- HNP.out];exact hlt);rw[<- hpj] at htk;obtain⟨nm,qt⟩:=pj;simp only at p0 p1 g1 g2 g3 hd' hov hsb hge htk;unfold encStr at p0;rw[hpa] at x2;have HOV:=Lib.hid hov;have HSB:=Lib.hid hsb;have HTK:=Lib.hid htk;have HPA:=Lib.hid hpa;have HKD:=Lib.hid hd';have HNM:=Lib.hid g1;have HJL:=Lib.hid hjl;have HPS:=Lib.hid hps;have HOP:=Lib.hid hop;have HBL:=Lib.hid hbl;have HXCC:=Lib.hid hxc;have HSM:=Lib.hid hS;have hnl:=code_le HOKX.out g1;have HFI:=Lib.hid (fun w' (hb:Below w.heap.size w w')=>Find_any B _ n cp X nm w' (HR.out.below (hb.mono hB)) (Nat.le_trans hB hb.size) hnl);obtain⟨ti,hti⟩:∃ t,t=fI X nm:=⟨_,rfl⟩
     have HTI:=Lib.hid hti;have HTM:=Lib.hid (fun w=>rTimes_any q qt w);have HGE:=Lib.hid hge;clear hpm2 hpj hov hsb htk hpa hd' g1 hjl hps hop hbl hxc hS hnl hge hpB
     cases hT:timesA q qt with
     | none =>
      have HNO:=Lib.hid (HOV.out hT);rw[hT] at HTM;have HTM:Hid (∀ w,Calls Tryz.prog 104 #[.int .i64 q,.int .i64 qt] w fun e w'=>e=.returned (.tuple #[.int .i64 0,.bool false])/\w=w'):=HTM;clear hT;go_wp2_with (first|(go_at_call 104;refine (HTM.out _).mono ?_;rintro e w9 ⟨rfl,rfl⟩));go_ret2;refine⟨HBL.out,?_⟩;rw[HNO.out];rfl
     | some n' =>
      have hn':n'=q*qt/\n'<=mostA:=by
       have h:=hT;rw[times_fine hq1 g2 g3 hq2] at h;by_cases hle:q*qt<=mostA
       ·rw[if_pos hle] at h;cases h;exact⟨rfl,hle⟩
       ·rw[if_neg hle] at h;cases h
      obtain⟨hn1,hn2⟩:=hn';rw[hT] at HTM;have HTM:Hid (∀ w,Calls Tryz.prog 104 #[.int .i64 q,.int .i64 qt] w fun e w'=>e=.returned (.tuple #[.int .i64 n',.bool true])/\w=w'):=HTM;have HEN:=Lib.hid (ih nm n' wr _ (HR.out.below (HBL.out.mono hB)) (Nat.le_trans hB HBL.out.size) HNM.out HKD.out (by rw[hn1];exact HGE.out.1) hn2);have HFW:=Lib.hid (HFI.out wr HBL.out);have HNE:=Lib.hid hn1;rw[<- hti] at HFW HEN;rw[<- hn1] at HSB HTK;clear hT hn1 hn2 hti;go_wp2_with (first|(go_at_call 104;refine (HTM.out _).mono ?_;rintro e w9 ⟨rfl,rfl⟩)|(go_at_call 70;refine HFW.out.mono ?_;rintro e w9 ⟨rfl,rfl⟩));go_at_call 73;refine HEN.out.mono ?_;rintro e w3 ⟨hb3,hpost⟩;have HB3:=Lib.hid (HBL.out.trans (hb3.mono HBL.out.size))
      cases hU:joinL [] (leaves X k nm n') with
      | none =>
       have HNO:=Lib.hid (HSB.out hU);rw[hU] at hpost;obtain rfl:=hpost;clear hU hb3 HEN;go_wp2_with (fail);go_ret2;refine⟨HB3.out,?_⟩;rw[HNO.out];rfl
      | some S3 =>
       rw[hU] at hpost;obtain⟨a3,c3,rfl,hop3⟩:=hpost;have hps3:PS X S3:=ps_of HS.out (joinL_up Up.nil hU) (fun p hp=>by
        have h1:=(joinL_keys hU p.1).1 (List.mem_map.2 ⟨p,hp,rfl⟩);rcases h1 with h1|h1
        ·cases h1
        ·obtain⟨r,hr,e⟩:=List.mem_map.1 h1;rw[<- e];exact (leaves_ge HS.out k HNM.out (by rw[HNE.out];exact HGE.out.1) r hr).2.1)
       have hop1:=HOP.out.below hb3;rw[HSM.out] at hop1;have hf1:=fine_ps HOKX.out HPS.out;have hf3:=fine_ps HOKX.out hps3;have hrp1:=hop1.rp2 hf1;rw[<- HSM.out] at hrp1;obtain⟨m3,hm3⟩:∃ z,z=S3.length:=⟨_,rfl⟩
       have hrp3:=hop3.rp2 hf3;rw[<- hm3] at hrp3 ⊢;have hrv:=RV.two hrp1 hrp3 (Nat.le_refl _);have hjm:=join_merge HJL.out hU;rw[<- HTK.out] at hjm;have hsz:(flatV [⟨a',m,c',S⟩,⟨a3,m3,c3,S3⟩]).length<=1048576:=by
        have h1:=HPS.out.len;have h2:=hps3.len;have h3:=HS.out.len;simp[flatV];omega
       have hrj:=rJoin_any _ _ _ _ _ _ hrv (by rw[World.size_alloc];exact Nat.le_refl _) hsz;have hfl:flatV [⟨a',m,c',S⟩,⟨a3,m3,c3,S3⟩]=S++S3:=(by simp[flatV]);rw[hfl,hjm] at hrj;have HRJ:=Lib.hid hrj;have HX3:=Lib.hid (HXCC.out.below hb3 HXCC.out.lt);have HBA:=Lib.hid (HB3.out.alloc HB3.out.size (.cells #[.slice a' m c',.slice a3 m3 c3] 64));have HXA:=Lib.hid (HX3.out.below ((Below.refl w3.heap.size w3).alloc (Nat.le_refl _) (.cells #[.slice a' m c',.slice a3 m3 c3] 64)) HX3.out.lt);have HPS3:=Lib.hid hps3;clear hU hb3 HEN hop1 hf1 hf3 hrp1 hrp3 hrv hjm hsz hrj hfl hop3 hps3 hm3 p0 p1 x2;go_wp2_with (fail);go_at_call 105;refine HRJ.out.mono ?_;rintro e w4 ⟨hb4,hpost⟩;have HB4:=Lib.hid (HBA.out.trans (hb4.mono HBA.out.size));have HX4:=Lib.hid (HXA.out.below hb4 HXA.out.lt)
       cases hV:joinL [] (List.flatMap (fun p=>leaves X k p.1 (q*p.2)) (x.ps.take (j+1))) with
       | none =>
        rw[hV] at hpost;obtain rfl:=hpost;have HNO:Hid (joinL [] (leaves X (k+1) c q)=none):=Lib.hid (by
         rw[leaves_kit HK0.out,HPX.out,flat_more _ x.ps (j+1)];exact joinL_more hV)
        clear hV hb4 HRJ;go_wp2_with (fail);go_ret2;refine⟨HB4.out,?_⟩;rw[HNO.out];rfl
       | some S4 =>
        rw[hV] at hpost;obtain⟨a4,c4,rfl,hop4⟩:=hpost;have hps4:PS X S4:=ps_of HS.out (joinL_up Up.nil hV) (fun p hp=>by
         have h1:=(joinL_keys hV p.1).1 (List.mem_map.2 ⟨p,hp,rfl⟩);rcases h1 with h1|h1
         ·cases h1
         ·obtain⟨r,hr,e⟩:=List.mem_map.1 h1;obtain⟨t,ht,hr⟩:=List.mem_flatMap.1 hr;have htp:t∈partsX X c:=(by rw[HPX.out];exact List.mem_of_mem_take ht);obtain⟨t1,t2,t3⟩:=HS.out.parts HC.out t htp;rw[<- e];exact (leaves_ge HS.out k t1 (part_ge hq1 t2).1 r hr).2.1)
        have HE4:Hid (ER X k q x.ps w w.heap.size x (.slice a4 S4.length c4) (j+1) S4.length w4):=Lib.hid ⟨S4,rfl,hV,hps4,hop4.mono HBA.out.size,HB4.out,HX4.out⟩;obtain⟨m4,hm4⟩:∃ z,z=S4.length:=⟨_,rfl⟩
        rw[<- hm4] at HE4 ⊢;clear hV hb4 HRJ hop4 hps4 hm4;go_wp2_with (fail);go_roundw
        case rel=>exact⟨j+1,m4,a4,c4,by omega,by go_num,rfl,HE4⟩
        case measure=>simp[intOf];omega
    ·have t1:decide ((j:Int)<(np:Int))=false:=(by simp;omega);have hfin:joinL [] (leaves X (k+1) c q)=some S:=by
      rw[leaves_kit HK0.out,HPX.out,<- hjl,List.take_of_length_le (by rw[<- HNP.out];omega)]
     have HFIN:=Lib.hid hfin;have HOP:=Lib.hid hop;have HBL:=Lib.hid hbl;have HSM:=Lib.hid hS;clear hfin hop hbl hS hjl hps hxc;go_wp2_with (fail);go_ret2;refine⟨HBL.out,?_⟩;rw[HFIN.out];have h:=HOP.out;rw[HSM.out] at h ⊢;exact⟨_,_,rfl,h⟩
end
end Go.Proofs.YtgplnekpgdhcpaaGreat
