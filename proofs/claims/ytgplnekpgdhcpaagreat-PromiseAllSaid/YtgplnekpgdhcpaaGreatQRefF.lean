/-  -/
import Derived.Test.YtgplnekpgdhcpaaGreatJOver
import Derived.Test.YtgplnekpgdhcpaaGreatKMark
import Derived.Test.YtgplnekpgdhcpaaGreatQBridge
namespace Go.Proofs.YtgplnekpgdhcpaaGreat
open Go.RowKit Go.Shelf
theorem lotE_belowW {B:Nat} {wr:World} {a:Option Addr} {n c:Nat} {L:List LotV} (h:lotE.In B wr a n c L) (hB:B<=wr.heap.size) {i:Nat} (hi:i<n):∃ b o,a=some ⟨b,o,none⟩/\(∀ y:BelowW wr,y.v.cell? ⟨b,o+i*6,none⟩=some (.int .i64 (L.getD i default).id))/\(∀ y:BelowW wr,y.v.cell? ⟨b,o+i*6+1,none⟩=some (encStr (L.getD i default).item))/\(∀ y:BelowW wr,y.v.cell? ⟨b,o+i*6+2,none⟩=some (.int .i64 (L.getD i default).fr))/\(∀ y:BelowW wr,y.v.cell? ⟨b,o+i*6+3,none⟩=some (.int .i64 (L.getD i default).un))/\(∀ y:BelowW wr,y.v.cell? ⟨b,o+i*6+4,none⟩=some (.int .i64 (L.getD i default).qty))/\(∀ y:BelowW wr,y.v.cell? ⟨b,o+i*6+5,none⟩=some (.bool (L.getD i default).arr)):=by
 obtain⟨b,o,e,hb,hc⟩:=lotE_at h (by have:=h.le;omega);obtain⟨g0,g1,g2,g3,g4,g5⟩:=hc i hi;have hlt:b<wr.heap.size:=Nat.lt_of_lt_of_le hb hB;exact⟨b,o,e,fun y=>(y.h.cell (by exact hlt)).trans g0,fun y=>(y.h.cell (by exact hlt)).trans g1,fun y=>(y.h.cell (by exact hlt)).trans g2,fun y=>(y.h.cell (by exact hlt)).trans g3,fun y=>(y.h.cell (by exact hlt)).trans g4,fun y=>(y.h.cell (by exact hlt)).trans g5⟩
theorem wantE_belowW {B:Nat} {wr:World} {a:Option Addr} {n c:Nat} {L:List WantV} (h:wantE.In B wr a n c L) (hB:B<=wr.heap.size) {i:Nat} (hi:i<n):∃ b o,a=some ⟨b,o,none⟩/\(∀ y:BelowW wr,y.v.cell? ⟨b,o+i*3,none⟩=some (encStr (L.getD i default).item))/\(∀ y:BelowW wr,y.v.cell? ⟨b,o+i*3+1,none⟩=some (.int .i64 (L.getD i default).day))/\(∀ y:BelowW wr,y.v.cell? ⟨b,o+i*3+2,none⟩=some (.int .i64 (L.getD i default).qty)):=by
 obtain⟨b,o,e,hb,hc⟩:=wantE_at h (by have:=h.le;omega);obtain⟨g0,g1,g2⟩:=hc i hi;have hlt:b<wr.heap.size:=Nat.lt_of_lt_of_le hb hB;exact⟨b,o,e,fun y=>(y.h.cell (by exact hlt)).trans g0,fun y=>(y.h.cell (by exact hlt)).trans g1,fun y=>(y.h.cell (by exact hlt)).trans g2⟩
theorem VF.belowW {wr:World} {g n:Nat} {t:TypeId} {f:Nat->Value} (h:VF wr g n t f) {i:Nat} (hi:i<n):∀ y:BelowW wr,y.v.cell? ⟨g,i,none⟩=some (f i):=fun y=>(h.below y.h).cell hi
theorem infoL64:(Tryz.prog.info? 2).map (fun i=>(i.zero,i.size,i.bytes))=some (some (.int .i64 0),1,8):=by kernel_rfl
theorem infoBl:(Tryz.prog.info? 4).map (fun i=>(i.zero,i.size,i.bytes))=some (some (.bool false),1,1):=by kernel_rfl
set_option maxHeartbeats 16000000 in
set_option maxRecDepth 100000 in
theorem rFill_any (B:Nat) (a a2:Option Addr) (n c n2 c2:Nat) (L:List LotV) (W:List WantV) (w:World) (hl:lotE.In B w a n c L) (hw:wantE.In B w a2 n2 c2 W) (hB:B<=w.heap.size) :
  Calls Tryz.prog 106 #[.slice a n c,.slice a2 n2 c2] w fun e w'=>FlPost w L W e w':=by
 have hle:=hl.le;have hmx:=hl.mx;have hle2:=hw.le;have hmx2:=hw.mx;have Hln:=Lib.hid hl.len;have Hln2:=Lib.hid hw.len;have HL:=Lib.hid hl;have HW:=Lib.hid hw;have HM:=Lib.hid (rMay_any B a a2 n c n2 c2 L W w hl hw hB);clear hl hw
 cases hm:mayB L W with
 | false =>
  rw[hm] at HM;have E:=Lib.hid (show fillX L W=none by unfold fillX;rw[hm];rfl);clear hm;go_enter Tryz.func106,Tryz.ntmps106;go_wp2_with (go_at_call 141;refine HM.out.mono ?_;rintro e w9 ⟨rfl,hb9⟩;have B9:=Lib.hid hb9);go_ret2;unfold FlPost;rw[E.out];exact⟨B9.out,rfl⟩
 | true =>
  rw[hm] at HM;have HMY:=Lib.hid hm;obtain⟨m1,m2,m3,m4,m5⟩:=mayB_iff.1 hm;rw[<- Hln.out] at m1;rw[<- Hln2.out] at m2;have M3:=Lib.hid m3;have M4:=Lib.hid m4;have M5:=Lib.hid m5;have HMK:=Lib.hid (fun W=>run_make_vf (P:=Tryz.prog) 171 2 _ 8 Tryz.underlying171 infoL64 rfl (by decide) n (by omega) W);have HMK2:=Lib.hid (fun W=>run_make_vf (P:=Tryz.prog) 172 4 _ 1 Tryz.underlying172 infoBl rfl (by decide) n2 (by omega) W);clear hm m3 m4 m5;go_enter Tryz.func106,Tryz.ntmps106;go_wp2_with (go_at_call 141;refine HM.out.mono ?_;rintro e w9 ⟨rfl,hb9⟩;have B9:=Lib.hid hb9;obtain⟨cs,hmk,hv⟩:=HMK.out w9;have VF9:=Lib.hid hv;clear hb9 hv);clear hmk;obtain⟨gl,hgl⟩:∃ g,g=w9.heap.size:=⟨_,rfl⟩
  rw[<- hgl] at VF9;rw[<- hgl];have hgw:Hid (w.heap.size<=gl):=Lib.hid (by rw[hgl];exact B9.out.size);have BW:Hid (Below w.heap.size w (w9.alloc (.cells cs 2))):=Lib.hid (B9.out.alloc B9.out.size _);clear hgl;go_loopw [7] (fun s7 wr=>∃ j:Nat,s7=.int .i64 j/\j<=n/\Hid (VF wr gl n 2 (fun i=>if i<j then .int .i64 (L.getD i default).qty else .int .i64 0))/\Hid (Below w.heap.size w wr)) (fun s7 _=>n-(intOf s7).toNat)
  case atStart=>exact⟨0,rfl,Nat.zero_le _,Lib.hid (VF9.out.congr fun i _=>by simp),BW⟩
  case round =>
   clear VF9 BW;obtain⟨j,rfl,hj,HV,Hb⟩:=hrel;by_cases hlt:j<n
   ·obtain⟨b,o,rfl,hbB,hc⟩:=lotE_at (HL.out.below (Hb.out.mono hB)) (by omega);obtain⟨-,-,-,-,g4,-⟩:=hc j hlt;have k1:=HV.out.cell hlt;have k2:=HV.out.frozen j;have HV2:Hid (VF (wr.setCell ⟨gl,j,none⟩ (.int .i64 (L.getD j default).qty)) gl n 2 (fun i=>if i<j+1 then .int .i64 (L.getD i default).qty else .int .i64 0)):=Lib.hid ((HV.out.set j _).congr fun i hi=>by
     unfold setV;show _=if i<j+1 then Value.int IntKind.i64 (L.getD i default).qty else Value.int IntKind.i64 0;by_cases e:i=j
     ·rw[if_pos e,e,if_pos (by omega)]
     ·rw[if_neg e];show (if i<j then Value.int IntKind.i64 (L.getD i default).qty else Value.int IntKind.i64 0)=_;by_cases e2:i<j
      ·rw[if_pos e2,if_pos (by omega)]
      ·rw[if_neg e2,if_neg (by omega)])
    clear hc;generalize (L.getD j default).qty=qj at g4 HV2;go_wp2_with (fail);go_roundw
    case rel=>exact⟨j+1,by go_num,by omega,HV2,Lib.hid (below_set Hb.out _ _ _ hgw.out)⟩
    case measure=>simp[intOf];omega
   ·obtain rfl:n=j:=by omega
    obtain⟨w1,hw1⟩:∃ V,V=wr:=⟨_,rfl⟩
    rw[<- hw1] at HV Hb ⊢;clear hw1;obtain⟨cs2,hmk,hv⟩:=HMK2.out w1;obtain⟨gd,hgd⟩:∃ g,g=w1.heap.size:=⟨_,rfl⟩
    have HS0:Hid (FO w gl gd n n2 L W 0 (left0 L) [] (.slice none 0 0) (w1.alloc (.cells cs2 4))):=Lib.hid ⟨(HV.out.below (below_alloc _ _)).congr fun i hi=>by
      have hil:i<L.length:=(by have:=Hln.out;omega);rw[if_pos hi,left0_of M4.out (l:=L.getD i default) (by rw[List.getD_eq_getElem?_getD,List.getElem?_eq_getElem hil];exact List.getElem_mem _)],by rw[hgd];exact hv.congr fun i _=>by simp,by rw[hgd];exact HV.out.lt,hgw.out,El.Own.nil _ _ _,Hb.out.alloc Hb.out.size _⟩
    clear hv HV Hb;go_wp2_with (fail);rw[<- hgd];clear hgd;clear hmk;go_loopw [9,10] (fun s9 s10 wr=>∃ (j:Nat) (f:Int->Int) (U:List UseV) (va:Option Addr) (vn vc:Nat),s9=.slice va vn vc/\s10=.int .i64 j/\j<=n2/\Hid (FS L W j f U)/\Hid (FO w gl gd n n2 L W j f U (.slice va vn vc) wr)) (fun _ s10 _=>n2-(intOf s10).toNat)
    case atStart=>exact⟨0,left0 L,[],none,0,0,rfl,rfl,Nat.zero_le _,Lib.hid (FS.start HMY.out),HS0⟩
    case round =>
     clear HS0;obtain⟨j,f,U,va,vn,vc,rfl,rfl,hj,HFS,HFO⟩:=hrel;obtain⟨wo,hwo⟩:∃ V,V=wr:=⟨_,rfl⟩
     rw[<- hwo] at HFO ⊢;clear hwo;by_cases hlt:j<n2
     ·obtain⟨b2,o2,hea,-,-⟩:=wantE_at (HW.out.below (HFO.out.below.mono hB)) (by omega);subst hea;have HWB:=Lib.hid (fun (V:World) (hb:Below wo.heap.size wo V) (i:Nat) (hi:i<n2)=>wantE_belowW (HW.out.below ((HFO.out.blw hb).below.mono hB)) (Nat.le_trans hB (HFO.out.blw hb).below.size) hi);have HLB:=Lib.hid (fun (V:World) (hb:Below w.heap.size w V) (i:Nat) (hi:i<n)=>lotE_belowW (HL.out.below (hb.mono hB)) (Nat.le_trans hB hb.size) hi);go_wp2_with (fail);go_loopw [11,12] (fun s11 s12 wk=>∃ (i:Nat) (x:Int),s11=.int .i64 x/\s12=.int .i64 i/\i<=n2/\Hid (Cho W j i x)/\Hid (Below wo.heap.size wo wk)) (fun _ s12 _=>n2-(intOf s12).toNat)
      case atStart=>exact⟨0,-1,rfl,rfl,Nat.zero_le _,Lib.hid (Cho.start W j),Lib.hid (Below.refl _ _)⟩
      case round =>
       obtain⟨i,x,rfl,rfl,hi,HC,Hb⟩:=hrel;obtain⟨wk,hwk⟩:∃ V,V=wr:=⟨_,rfl⟩
       rw[<- hwk] at Hb ⊢;clear hwk;by_cases hlt2:i<n2
       ·have f8:=(HFO.out.blw Hb.out).done.belowW hlt2;obtain⟨b3,o3,hea,-,f1,-⟩:=HWB.out _ Hb.out i hlt2
        cases hea
        by_cases hd:i∈(dayO W).take j
        ·have HC2:=Lib.hid (HC.out.was hd);rw[decide_eq_true hd] at f8;clear hd;go_wp2_with (fail);refine wp_region_below wk (by kernel_rfl) (by kernel_rfl) (Below.refl _ _) ?_
         repeat (go_big_quiet_step (fail))
         refine wpQuiet_nil ?_;intro _ hw';obtain⟨y,hw''⟩:=hw';subst hw'';clear f8 f1;go_wp2_with (fail);go_roundw
         case rel=>exact⟨i+1,x,by first|rfl|go_num,by go_num,by omega,HC2,Lib.hid (Hb.out.trans (y.h.mono Hb.out.size))⟩
         case measure=>simp[intOf];omega
        ·rw[decide_eq_false hd] at f8;rcases HC.out.form with hx|⟨k,hx,hk⟩
         ·subst hx;have HC2:=Lib.hid (HC.out.first hd);clear hd;go_wp2_with (fail);refine wp_region_below wk (by kernel_rfl) (by kernel_rfl) (Below.refl _ _) ?_
          repeat (go_big_quiet_step (fail))
          refine wpQuiet_nil ?_;intro _ hw';obtain⟨y,hw''⟩:=hw';subst hw'';clear f8 f1;go_wp2_with (fail);go_roundw
          case rel=>exact⟨i+1,i,by first|rfl|go_num,by go_num,by omega,HC2,Lib.hid (Hb.out.trans (y.h.mono Hb.out.size))⟩
          case measure=>simp[intOf];omega
         ·subst hx;obtain⟨b3,o3,hea,-,f2,-⟩:=HWB.out _ Hb.out k (by omega)
          cases hea
          have hk0:¬ (k:Int)<0:=(by omega);have hk1:decide ((k:Int)<0)=false:=decide_eq_false hk0;have hkn:k<n2:=(by omega);by_cases hdd:(W.getD i default).day<(W.getD k default).day
          ·have HC2:=Lib.hid (HC.out.sooner hd hdd);clear hd;generalize (W.getD i default).day=di at f1 hdd;generalize (W.getD k default).day=dk at f2 hdd;go_wp2_with (fail);refine wp_region_below wk (by kernel_rfl) (by kernel_rfl) (Below.refl _ _) ?_
           repeat (go_big_quiet_step (fail))
           refine wpQuiet_nil ?_;intro _ hw';obtain⟨y,hw''⟩:=hw';subst hw'';clear f8 f1 f2;go_wp2_with (fail);go_roundw
           case rel=>exact⟨i+1,i,by first|rfl|go_num,by go_num,by omega,HC2,Lib.hid (Hb.out.trans (y.h.mono Hb.out.size))⟩
           case measure=>simp[intOf];omega
          ·have HC2:=Lib.hid (HC.out.stay hdd);clear hd;generalize (W.getD i default).day=di at f1 hdd;generalize (W.getD k default).day=dk at f2 hdd;go_wp2_with (fail);refine wp_region_below wk (by kernel_rfl) (by kernel_rfl) (Below.refl _ _) ?_
           repeat (go_big_quiet_step (fail))
           refine wpQuiet_nil ?_;intro _ hw';obtain⟨y,hw''⟩:=hw';subst hw'';clear f8 f1 f2;go_wp2_with (fail);go_roundw
           case rel=>exact⟨i+1,k,by first|rfl|go_num,by go_num,by omega,HC2,Lib.hid (Hb.out.trans (y.h.mono Hb.out.size))⟩
           case measure=>simp[intOf];omega
       ·obtain rfl:n2=i:=by omega
        have HC3:=HC.out;rw[Hln2.out] at HC3;obtain⟨x1,hx1,hxl,hxd⟩:=HC3.done (by rw[<- Hln2.out];exact hlt);clear HC3;subst hx1;have hxn:x1<n2:=(by rw[Hln2.out];exact hxl);have HXD:=Lib.hid hxd;have HF1:=Lib.hid (HFO.out.blw Hb.out);have k1:=HF1.out.done.cell hxn;have k2:=HF1.out.done.frozen x1;have HF2:=Lib.hid (HF1.out.mark hxd);obtain⟨wm,hwm⟩:∃ V,V=wk.setCell ⟨gd,x1,none⟩ (.bool true):=⟨_,rfl⟩
        rw[<- hwm] at HF2;have HWM:=Lib.hid hwm;clear hwm hxl hxd;go_upto_region 20 with (fail);rw[<- HWM.out];clear k1 k2;obtain⟨b3,o3,hea,-,hc3⟩:=wantE_at (HW.out.below (HF2.out.below.mono hB)) (by omega)
        cases hea
        obtain⟨-,-,q2⟩:=hc3 x1 hxn;clear hc3;obtain⟨wx0,hwx0⟩:∃ z,W.getD x1 default=z:=⟨_,rfl⟩
        have HWX0:=Lib.hid hwx0;have HWO:=Lib.hid (wantOk_iff.1 (M5.out (W.getD x1 default) (by rw[List.getD_eq_getElem?_getD,List.getElem?_eq_getElem (by rw[<- Hln2.out];exact hxn)];exact List.getElem_mem _)));have HFN:=Lib.hid (HFS.out.want HXD.out (by have:=HWO.out;omega));have HNO:=Lib.hid (show (0:Int)<_->fillX L W=none from fun h=>by unfold fillX;rw[if_pos HMY.out];exact HFS.out.none HXD.out h);have HNX:=Lib.hid (fun (f':Int->Int) (U':List UseV) hok h1 h2=>HFS.out.next HXD.out (f':=f') (U':=U') hok h1 h2);have HOL:=Lib.hid (show (U++(pass (W.getD x1 default).day x1 (ofItem L (W.getD x1 default).item) f (W.getD x1 default).qty).1).length<=7000000 from by
         have e1:=pass_len (W.getD x1 default).day x1 (ofItem L (W.getD x1 default).item) f (W.getD x1 default).qty;have e2:=ofItem_len L (W.getD x1 default).item;have e3:=HFS.out.len;have e4:j*L.length<=20000*300:=Nat.mul_le_mul (by omega) (by rw[<- Hln.out];exact m1);have e5:=Hln.out;rw[List.length_append];omega)
        rw[hwx0] at q2 HFN HNO HNX HOL HWO;clear hwx0;obtain⟨item,day,qty⟩:=wx0;have HWX:Hid (W.getD x1 default=⟨item,day,qty⟩):=Lib.hid HWX0.out;clear HWX0;simp only at q2 HFN HNO HNX HOL HWO;generalize U++(pass day x1 (ofItem L item) f qty).1=OUT at HFN HNX HOL;generalize (pass day x1 (ofItem L item) f qty).2=R at HFN HNO HNX;have hqb:qty<=1125899906842624:=HWO.out.2.2.2.2;go_wp2_with (fail);clear q2;go_loopw [9,13] (fun s9 s13 wn=>∃ (f':Int->Int) (U':List UseV) (va:Option Addr) (vn vc:Nat) (need:Int),s9=.slice va vn vc/\s13=.int .i64 need/\need<=1125899906842624/\Hid (FN L item day x1 OUT R f' U' need)/\Hid (FO w gl gd n n2 L W (j+1) f' U' (.slice va vn vc) wn)) (fun _ s13 _=>(intOf s13).toNat)
        case atStart=>exact⟨f,U,va,vn,vc,qty,rfl,rfl,hqb,HFN,HF2⟩
        case round =>
         clear HFN HF2 hqb;obtain⟨f',U',va,vn,vc,need,rfl,rfl,hneed,HFN,HFO2⟩:=hrel;obtain⟨wn,hwn⟩:∃ V,V=wr:=⟨_,rfl⟩
         rw[<- hwn] at HFO2 ⊢;clear hwn;by_cases hp:0<need
         ·go_wp2_with (fail);go_loopw [14,15] (fun s14 s15 wl=>∃ (i:Nat) (x:Int),s14=.int .i64 x/\s15=.int .i64 i/\i<=n/\Hid (Chk L item day f' i x)/\Hid (Below wn.heap.size wn wl)) (fun _ s15 _=>n-(intOf s15).toNat)
          case atStart=>exact⟨0,-1,rfl,rfl,Nat.zero_le _,Lib.hid Chk.start,Lib.hid (Below.refl _ _)⟩
          case round =>
           obtain⟨i,x,rfl,rfl,hi,HC,Hb⟩:=hrel;obtain⟨wl,hwl⟩:∃ V,V=wr:=⟨_,rfl⟩
           rw[<- hwl] at Hb ⊢;clear hwl;by_cases hlt3:i<n
           ·have f6:=(HFO2.out.blw Hb.out).left.belowW hlt3;obtain⟨b,o,ha,l0,l1,l2,l3,l4,l5⟩:=HLB.out _ (HFO2.out.blw Hb.out).below i hlt3;subst ha;have HNe:=Lib.hid (fun h=>HC.out.no (i:=i) h);have HFi:=Lib.hid (fun h=>(show Chk L item day f' i (-1)->elig item day f' (L.getD i default)=true->Chk L item day f' (i+1) i from Chk.first) h);have HLe:=Lib.hid (fun (k:Nat)=>(show Chk L item day f' i k->elig item day f' (L.getD i default)=true->cmpL (L.getD i default) (L.getD k default)<0->Chk L item day f' (i+1) i from Chk.less));have HSt:=Lib.hid (fun (k:Nat)=>(show Chk L item day f' i k->¬ cmpL (L.getD i default) (L.getD k default)<0->Chk L item day f' (i+1) k from Chk.stay));have HEl:Hid (elig item day f' (L.getD i default)=(decide (0<f' (L.getD i default).id) && serveB (L.getD i default) ⟨item,day,qty⟩)):=Lib.hid rfl;generalize L.getD i default=li at f6 l0 l1 l2 l3 l4 l5 HNe HFi HLe HSt HEl;have HSV:=Lib.hid (fun W=>rServes_any li ⟨item,day,qty⟩ W);have HCP:=Lib.hid (fun (lk:LotV) W=>rlotCompare_any li lk W);obtain⟨id,it,fr,un,qt,ar⟩:=li;unfold LotV.val WantV.val encStr at HSV;simp only at HSV;unfold LotV.val encStr at HCP;simp only at HCP;simp only[encStr] at f6 l0 l1 l2 l3 l4 l5;by_cases hf:0<f' id
            ·obtain⟨b4,o4,hea,v0,v1,v2⟩:=wantE_belowW (HW.out.below ((HFO2.out.blw Hb.out).below.mono hB)) (Nat.le_trans hB (HFO2.out.blw Hb.out).below.size) hxn
             cases hea
             rw[HWX.out] at v0 v1 v2;simp only[encStr] at v0 v1 v2
             cases hs:serveB ⟨id,it,fr,un,qt,ar⟩ ⟨item,day,qty⟩ with
             | true =>
              rw[hs] at HSV;have hel:Hid (elig item day f' ⟨id,it,fr,un,qt,ar⟩=true):=Lib.hid (by rw[HEl.out,hs,decide_eq_true hf];rfl);have hsv:=fun W=>HSV.out W
              clear hs HSV HEl;rcases HC.out.form with hx|⟨k,hx,hk⟩
              ·subst hx;have HC2:=Lib.hid (HFi.out HC.out hel.out);clear HNe HFi HLe HSt HCP;generalize f' id=fi at f6 hf;go_wp2_with (fail);refine wp_region_below wl (by kernel_rfl) (by kernel_rfl) (Below.refl _ _) ?_
               repeat (go_big_quiet_step (first|(go_at_call 142;exact below_call (hsv _))|(go_at_call 143;exact below_call (hcp _))))
               refine wpQuiet_nil ?_;intro _ hw';obtain⟨y,hw''⟩:=hw';subst hw'';clear f6 l0 l1 l2 l3 l4 l5 v0 v1 v2;go_wp2_with (fail);go_roundw
               case rel=>exact⟨i+1,i,by first|rfl|go_num,by go_num,by omega,HC2,Lib.hid (Hb.out.trans (y.h.mono Hb.out.size))⟩
               case measure=>simp[intOf];omega
              ·subst hx;have hkn:k<n:=(by omega);obtain⟨b5,o5,ha,e0,e1,e2,e3,e4,e5⟩:=HLB.out _ (HFO2.out.blw Hb.out).below k hkn
               cases ha
               have hk0:¬ (k:Int)<0:=(by omega);have hk1:decide ((k:Int)<0)=false:=decide_eq_false hk0;have HLk:=Lib.hid (HLe.out k HC.out hel.out);have HSk:=Lib.hid (HSt.out k HC.out);generalize L.getD k default=lk at e0 e1 e2 e3 e4 e5 HLk HSk;have HCk:=Lib.hid (fun W=>HCP.out lk W);obtain⟨id2,it2,fr2,un2,qt2,ar2⟩:=lk;simp only at HCk;simp only[encStr] at e0 e1 e2 e3 e4 e5;clear HNe HFi HLe HSt HCP;generalize f' id=fi at f6 hf;generalize cmpL ⟨id,it,fr,un,qt,ar⟩ ⟨id2,it2,fr2,un2,qt2,ar2⟩=cv at HCk HLk HSk;have hcp:=fun W=>HCk.out W
               by_cases hcv:cv<0
               ·have HC2:=Lib.hid (HLk.out hcv);clear HLk HSk HCk;go_wp2_with (fail);refine wp_region_below wl (by kernel_rfl) (by kernel_rfl) (Below.refl _ _) ?_
                repeat (go_big_quiet_step (first|(go_at_call 142;exact below_call (hsv _))|(go_at_call 143;exact below_call (hcp _))))
                refine wpQuiet_nil ?_;intro _ hw';obtain⟨y,hw''⟩:=hw';subst hw'';clear f6 l0 l1 l2 l3 l4 l5 v0 v1 v2 e0 e1 e2 e3 e4 e5;go_wp2_with (fail);go_roundw
                case rel=>exact⟨i+1,i,by first|rfl|go_num,by go_num,by omega,HC2,Lib.hid (Hb.out.trans (y.h.mono Hb.out.size))⟩
                case measure=>simp[intOf];omega
               ·have HC2:=Lib.hid (HSk.out hcv);clear HLk HSk HCk;go_wp2_with (fail);refine wp_region_below wl (by kernel_rfl) (by kernel_rfl) (Below.refl _ _) ?_
                repeat (go_big_quiet_step (first|(go_at_call 142;exact below_call (hsv _))|(go_at_call 143;exact below_call (hcp _))))
                refine wpQuiet_nil ?_;intro _ hw';obtain⟨y,hw''⟩:=hw';subst hw'';clear f6 l0 l1 l2 l3 l4 l5 v0 v1 v2 e0 e1 e2 e3 e4 e5;go_wp2_with (fail);go_roundw
                case rel=>exact⟨i+1,k,by first|rfl|go_num,by go_num,by omega,HC2,Lib.hid (Hb.out.trans (y.h.mono Hb.out.size))⟩
                case measure=>simp[intOf];omega
             | false =>
              rw[hs] at HSV;have HC2:=Lib.hid (HNe.out (by rw[HEl.out,hs,Bool.and_false]));have hsv:=fun W=>HSV.out W
              have hcp:True:=trivial;clear hs HSV HEl HNe HFi HLe HSt HCP;generalize f' id=fi at f6 hf;go_wp2_with (fail);refine wp_region_below wl (by kernel_rfl) (by kernel_rfl) (Below.refl _ _) ?_
              repeat (go_big_quiet_step ((go_at_call 142;exact below_call (hsv _))))
              refine wpQuiet_nil ?_;intro _ hw';obtain⟨y,hw''⟩:=hw';subst hw'';clear f6 l0 l1 l2 l3 l4 l5 v0 v1 v2;go_wp2_with (fail);go_roundw
              case rel=>exact⟨i+1,x,by first|rfl|go_num,by go_num,by omega,HC2,Lib.hid (Hb.out.trans (y.h.mono Hb.out.size))⟩
              case measure=>simp[intOf];omega
            ·have HC2:=Lib.hid (HNe.out (by rw[HEl.out,decide_eq_false hf,Bool.false_and]));clear HSV HEl HNe HFi HLe HSt HCP;generalize f' id=fi at f6 hf;have hf1:decide (0<fi)=false:=decide_eq_false hf;go_wp2_with (fail);refine wp_region_below wl (by kernel_rfl) (by kernel_rfl) (Below.refl _ _) ?_
             repeat (go_big_quiet_step (fail))
             refine wpQuiet_nil ?_;intro _ hw';obtain⟨y,hw''⟩:=hw';subst hw'';clear f6 l0 l1 l2 l3 l4 l5;go_wp2_with (fail);go_roundw
             case rel=>exact⟨i+1,x,by first|rfl|go_num,by go_num,by omega,HC2,Lib.hid (Hb.out.trans (y.h.mono Hb.out.size))⟩
             case measure=>simp[intOf];omega
           ·obtain rfl:n=i:=by omega
            rcases HC.out.form with hx|⟨k,hx,hk⟩
            ·subst hx;have E:=Lib.hid (HNO.out (HFN.out.none hp (by rw[<- Hln.out];exact HC.out)));have B9:=Lib.hid (HFO2.out.blw Hb.out).below;go_wp2_with (fail);go_ret2;unfold FlPost;rw[E.out];exact⟨B9.out,rfl⟩
            ·subst hx;obtain⟨hpos,hfn⟩:=HFN.out.step M4.out hp (by rw[<- Hln.out];exact hk) (by rw[<- Hln.out];exact HC.out);have HF3:=Lib.hid (HFO2.out.blw Hb.out);have k1:=HF3.out.left.cell hk;have k2:=HF3.out.left.frozen k;obtain⟨b,o,ha,-,hc5⟩:=lotE_at (HL.out.below (HF3.out.below.mono hB)) (by omega)
             cases ha
             have HID9:Hid (∀ V,Below w.heap.size w V->V.cell? ⟨b,o+k*6,none⟩=some (.int .i64 (L.getD k default).id)):=Lib.hid fun V hb=>by
              obtain⟨b9,o9,h9,-,hc9⟩:=lotE_at (HL.out.below (hb.mono hB)) (by omega)
              cases h9
              exact (hc9 k hk).1
             clear hc5;have HT:=Lib.hid (fun t=>HF3.out.take M4.out Hln.out hk t);have hk0:¬ (k:Int)<0:=(by omega);have hbd:=Lib.hid (HFN.out.ok (L.getD k default) (by rw[List.getD_eq_getElem?_getD,List.getElem?_eq_getElem (by rw[<- Hln.out];exact hk)];exact List.getElem_mem _));have hlen:=Lib.hid hfn.len;have HFN2:=Lib.hid hfn;clear hfn;generalize (L.getD k default).id=idk at k1 HID9 HT hbd hpos hlen HFN2;generalize f' idk=fk at k1 hbd hpos hlen HFN2;have HT1:=Lib.hid (HT.out (fk-min need fk));obtain⟨hb0,hb1⟩:=hbd.out;obtain⟨tk,htk⟩:∃ t,t=min need fk:=⟨_,rfl⟩
             rw[<- htk] at hpos hlen HFN2 HT1;go_upto_region 31 with (fail);rw[<- htk];have hw1:tk<=fk/\tk<=need:=(by omega);clear htk;go_upto_region 32 with (fail);obtain⟨wT,hwT⟩:∃ V,V=wl.setCell ⟨gl,k,none⟩ (.int .i64 (fk-tk)):=⟨_,rfl⟩
             rw[<- hwT] at HT1;rw[<- hwT];clear hwT k1 k2;have id1:=HID9.out wT HT1.out.below;have hOA:Hid (useE.Own (gd+1) (wT.alloc (.cells #[.int .i64 (x1:Int),.int .i64 idk,.int .i64 tk] 106)) (.slice va vn vc) U'):=Lib.hid (HT1.out.own.below (below_alloc _ _));have hVN:Hid (vn=U'.length/\U'.length<=7000000):=Lib.hid ⟨by obtain⟨a9,c9,e9,-⟩:=HT1.out.own.form;injection e9,by have:=HFN.out.len;have:=HOL.out;omega⟩;have hgs:gd<wT.heap.size:=HT1.out.done.lt;go_wp2_with (at_builtin;refine El.wpList_append1 useE rfl _ _ rfl (gd+1) (.slice va vn vc) U' ⟨x1,idk,tk⟩ (vn+1) (by rw[hVN.out.1]) rfl hOA.out _ 1 rfl (useE_lit _ ⟨x1,idk,tk⟩ _) (by rw[World.size_alloc];omega) (by have:=hVN.out;omega) ?_;intro g9 c9 w9 hown9 hg9 hgg9;have R9:Hid (FO w gl gd n n2 L W (j+1) (upd f' idk (fk-tk)) (U'++[⟨x1,idk,tk⟩]) (.slice (some ⟨g9,0,none⟩) (vn+1) c9) w9):=Lib.hid ((HT1.out.blw (below_alloc _ _)).app hown9 hg9 (by rw[World.size_alloc];omega));clear hown9 hg9 hgg9);go_roundw
             case rel=>exact⟨_,_,some ⟨g9,0,none⟩,vn+1,c9,need-tk,by go_num,by go_num,by omega,HFN2,R9⟩
             case measure=>simp[intOf];omega
         ·obtain rfl:need=0:=by have:=HFN.out.nn;omega
          have HS2:=Lib.hid (HNX.out f' U' HFN.out.ok HFN.out.done.1 HFN.out.done.2);go_wp2_with (fail);go_roundw
          case rel=>exact⟨j+1,f',U',va,vn,vc,by go_num,by go_num,by omega,HS2,HFO2⟩
          case measure=>simp[intOf];omega
     ·obtain rfl:n2=j:=by omega
      have E:=Lib.hid (show fillX L W=some (U,f) from by unfold fillX;rw[if_pos HMY.out];exact HFS.out.done Hln2.out);go_wp2_with (fail);go_ret2;unfold FlPost;rw[E.out];exact⟨HFO.out.below,_,rfl,HFO.out.own.mono (by have:=HFO.out.lt;have:=HFO.out.lo;omega)⟩
end Go.Proofs.YtgplnekpgdhcpaaGreat
