import Derived.Test.YtohlkkannjifmaaGreatDoorOLog3
import Derived.Test.YtohlkkannjifmaaGreatDoorORec4
namespace Go.Proofs.YtohlkkannjifmaaGreatDoor
section
set_option maxRecDepth 100000
open Go.RowKit
theorem bytes_any (B b:Nat) (l:List UInt8) (w:World) (h:WrR B b l w) (hl:0<l.length) :
  Calls Tryz.prog 90 #[.pointer (some ⟨b,0,none⟩)] w fun e w'=>∃ g cap,e=.returned (.slice (some ⟨g,0,none⟩) l.length cap)/\OB B w (.slice (some ⟨g,0,none⟩) l.length cap) l/\w'=w.drew:=by
 obtain⟨hB,v,lr,h3,hown,hne⟩:=h;have c0:w.cell? ⟨b,0,none⟩=some v:=h3.c0;have c1:w.cell? ⟨b,1,none⟩=some (.int .i64 0):=by simpa using h3.c1
 have HO:Hid (OB B w v l):=φ (by unfold OB;rw[List.length_map] at hown;exact hown);obtain⟨-,⟨-,h0⟩|⟨g,cap,cur,rfl,-,-,hle,hcm,-⟩⟩:=hown
 ·rw[List.length_map] at h0;omega
 rw[List.length_map] at c0 hle HO;unfold maxLen at hcm;clear h3 hne;generalize l.length=n at *;go_enter Tryz.func90,Tryz.ntmps90;go_wp2_with (fail);go_still (by kernel_rfl);go_wp2_with (fail);go_ret;exact⟨g,cap,by simp,HO.out,rfl⟩
end
section
set_option maxHeartbeats 8000000
set_option maxRecDepth 100000
open Go.RowKit
variable {ls nx pg pv wk:Int} {D M:List (Int×Int)} {K N' O l:List UInt8} {N base cap dc g kc kd n nc oc pc rb:Nat} {da ka na oa pa:Option Addr} {W w:World}
def dropQ:Nat->Code->Code
 | n+1,.seq _ b=>dropQ n b
 | _,c=>c
def tailQ:Code->Code
 | .seq _ b=>b
 | c=>c
def headQ:Code->Code
 | .seq a _=>a
 | c=>c
theorem OB.setAt (h:OB base w (.slice (some ⟨g,0,none⟩) n cap) l) (i:Nat) (_hi:i<l.length) (x:UInt8):OB base (w.setCell ⟨g,i,none⟩ (bv x)) (.slice (some ⟨g,0,none⟩) n cap) (l.set i x):=by
 obtain⟨h1,⟨hv,-⟩|⟨g',cap',cur,hv,hg,hh,hle,hcap,hsz,ht⟩⟩:=h
 ·cases hv
 cases hv
 unfold OB;rw[List.length_set,List.map_set];refine⟨by rw[List.length_set];exact h1,.inr ⟨g,cap,cur.setIfInBounds i (bv x),rfl,hg,?_,hle,hcap,by simpa using hsz,?_⟩⟩
 ·exact Lib.heap_setCell_same (i:=i) hh _
 ·rw[<- ht,Array.toList_setIfInBounds,Nat.mul_one,List.take_set]
theorem OB.frozenAt (h:OB base w (.slice (some ⟨g,0,none⟩) n cap) l) (i:Nat):w.frozen? ⟨g,i,none⟩=false:=by
 obtain⟨-,⟨hv,-⟩|⟨g',cap',cur,hv,hg,hh,-⟩⟩:=h
 ·cases hv
 cases hv
 simp[World.frozen?,hh]
theorem OB.cellAt (h:OB base w (.slice (some ⟨g,0,none⟩) n cap) l) (i:Nat) (hi:i<l.length):∃ v,w.cell? ⟨g,i,none⟩=some v:=by
 obtain⟨h1,⟨hv,-⟩|⟨g',cap',cur,hv,hg,hh,hle,hcap,hsz,ht⟩⟩:=h
 ·cases hv
 cases hv
 have hlt:i<cur.size:=by
  have:=congrArg List.length ht;rw[List.length_take,List.length_map,Array.length_toList] at this;omega
 exact⟨cur[i],by simp[World.cell?,hh,hlt]⟩
theorem OB.ge (h:OB base w (.slice (some ⟨g,0,none⟩) n cap) l):base<=g/\n=l.length:=by
 obtain⟨-,⟨hv,-⟩|⟨g',cap',cur,hv,hg,-⟩⟩:=h
 ·cases hv
 cases hv
 exact⟨hg,rfl⟩
structure PutE (N rb:Nat) (W:World) (ls wk pv nx:Int) (kd:Nat) (pg:Int) (ka oa na da pa:Option Addr) (kc oc nc dc pc:Nat) (K O N':List UInt8) (D M:List (Int×Int)):Prop where
 blk:W.heap[rb]? = some (.cells #[.int .i64 ls,.int .i64 wk,.int .i64 pv,.int .i64 nx,.int .u8 kd,.int .i64 pg,.slice ka K.length kc,.slice oa O.length oc,.slice na N'.length nc,.slice da D.length dc,.slice pa M.length pc] 33 (0,0))
 k:RB N W ka K.length kc K
 o:RB N W oa O.length oc O
 n:RB N W na N'.length nc N'
 d:PI N W da D.length dc D
 p:PI N W pa M.length pc M
 lt:N<=rb
 kl:K.length<=255
 ol:O.length<=255
 nl:N'.length<=255
theorem PutE.below {B:Nat} {W':World} (h:PutE N rb W ls wk pv nx kd pg ka oa na da pa kc oc nc dc pc K O N' D M) (hb:Below B W W') (hB:rb<B) :
  PutE N rb W' ls wk pv nx kd pg ka oa na da pa kc oc nc dc pc K O N' D M :=
 have hN:Below N W W':=hb.mono (by have:=h.lt;omega)
 ⟨(hb.block rb hB).trans h.blk,h.k.below hN,h.o.below hN,h.n.below hN,h.d.below hN,h.p.below hN,h.lt,h.kl,h.ol,h.nl⟩
theorem PutE.cell (h:PutE N rb W ls wk pv nx kd pg ka oa na da pa kc oc nc dc pc K O N' D M) {i:Nat} {v:Value} (hi:(#[.int .i64 ls,.int .i64 wk,.int .i64 pv,.int .i64 nx,.int .u8 kd,.int .i64 pg,.slice ka K.length kc,.slice oa O.length oc,.slice na N'.length nc,.slice da D.length dc,.slice pa M.length pc])[i]? = some v):W.cell? ⟨rb,i,none⟩=some v:=by
 simp only[World.cell?,h.blk,hi,Option.isSome_none,Bool.false_eq_true,if_false]
def rowsB (K O N:List UInt8):List UInt8:=if 0<K.length then rowB K++rowB O++rowB N else []
theorem numB_two (n:Nat):numB (n:Int) 2=[UInt8.ofNat (n / 256),UInt8.ofNat n]:=by
 unfold numB;simp[List.range_succ]
theorem row_any' (B b N:Nat) (l k:List UInt8) (a:Option Addr) (n c:Nat) (w:World) (h:WrR B b l w) (hr:RB N w a n c k) (hN:N<=B) (hB:B<=w.heap.size) (hl:l.length+k.length+1<=140737488355328) (hbB:B<=b) :
  Calls Tryz.prog 89 #[.pointer (some ⟨b,0,none⟩),.slice a n c] w fun e w'=>e=.returned (.tuple #[])/\WrR B b (l++rowB k) w'/\Below B w w':=row_any B b N l k a n c w h hr hN hB hl hbB
theorem word_two (n:Nat):IntKind.u8.wrap ((n:Int) / 2 ^ 8)=((UInt8.ofNat (n / 256)).toNat:Int)/\IntKind.u8.wrap (n:Int)=((UInt8.ofNat n).toNat:Int):=by
 constructor
 ·rw[UInt8.toNat_ofNat',Int.natCast_emod,Int.natCast_ediv];rfl
 ·rw[UInt8.toNat_ofNat',Int.natCast_emod];rfl
theorem put_end (rb wb:Nat) (ly:List UInt8) (w0 W:World) (R:Ending->World->Prop) (hw:WrR (rb+1) wb (0::0::ly) W) (_hs:rb+1<=W.heap.size) (hrb:w0.heap.size<=rb) (hb:Below w0.heap.size w0 W) (hl:ly.length<=2000)
  (hR:∀ v w',OB w0.heap.size w' v (numB ly.length 2++ly)->Below w0.heap.size w0 w'->R (.returned (.tuple #[v,.int .i64 0])) w') (s0 s2 s3 s5 s6 s7 s8 s9 s10 s11 s12 s13 s14 s15 s16 s17 s18 s19 s20 s21 s22 s23 s24 s25 s26 s27 s28 s29 s30 s31 s32 s33 s34 s35 s36 s37 s38 s39 s40 s41 s42 s43 s44 s45 s46 s47 s48 s49 s50 s51 s52 s53 s54 s55 s56 s57 s58 s59 s60 s61 s62 s63 s64 s65 s66 s67 s68 s69 s70 s71 s72 s73 s74 s75 s76 s77 s78 s79 s80 s81 s82 s83 s84 s85 s86 s87 s88 s89 s90 s91 s92 s93 s94 s95 s96 s97 s98 s99 s100 s101 s102 s103 s104 s105 s106 s107 s108 s109 s110 s111 s112 s113 s114 s115 s116 s117 s118 s119 s120 s121 s122 s123 s124 s125 s126 s127 s128 s129 s130 s131 s132 s133 s134 s135 s136 s137 s138 s139 s140 s141:Value) (C:Act->World->Prop) (hC:∀ a w,Code.wp Tryz.prog (dropQ 8 (Tryz.f42.body.getD .skip)) (bodyPost Tryz.prog Tryz.f42 R) a w->C a w) :
  Code.wp Tryz.prog (headQ (dropQ 7 (Tryz.f42.body.getD .skip))) (Exit.then C (bodyPost Tryz.prog Tryz.f42 R)) ⟨List.toArray (s0::(.pointer (some ⟨rb,0,none⟩))::s2::s3::(.pointer (some ⟨wb,0,none⟩))::s5::s6::s7::s8::s9::s10::s11::s12::s13::s14::s15::s16::s17::s18::s19::s20::s21::s22::s23::s24::s25::s26::s27::s28::s29::s30::s31::s32::s33::s34::s35::s36::s37::s38::s39::s40::s41::s42::s43::s44::s45::s46::s47::s48::s49::s50::s51::s52::s53::s54::s55::s56::s57::s58::s59::s60::s61::s62::s63::s64::s65::s66::s67::s68::s69::s70::s71::s72::s73::s74::s75::s76::s77::s78::s79::s80::s81::s82::s83::s84::s85::s86::s87::s88::s89::s90::s91::s92::s93::s94::s95::s96::s97::s98::s99::s100::s101::s102::s103::s104::s105::s106::s107::s108::s109::s110::s111::s112::s113::s114::s115::s116::s117::s118::s119::s120::s121::s122::s123::s124::s125::s126::s127::s128::s129::s130::s131::s132::s133::s134::s135::s136::s137::s138::s139::s140::s141::[]),[]⟩ W:=by
 have HB:=φ hb;have HR:=φ hR;have HBy:=φ (bytes_any (rb+1) wb (0::0::ly) W hw (by simp));have HN:=φ (numB_two ly.length);obtain⟨q1,q2⟩:=word_two ly.length;clear hb hR hw;obtain⟨m,hm⟩:∃ m,m=((0:UInt8)::0::ly).length:=⟨_,rfl⟩
 rw[<- hm] at HBy;have HM:Hid (∀ p q:UInt8,(p::q::ly).length=m):=φ fun _ _=>hm.symm
 have hm2:m=ly.length+2:=hm;have q3:IntKind.i64.wrap ((m:Int)-2)=(ly.length:Int):=by rw[IntWalk.i64_in _ (by omega)];omega
 have q5:(ly.length:Int) / 256 % 256=((UInt8.ofNat (ly.length / 256)).toNat:Int):=by rw[UInt8.toNat_ofNat',Int.natCast_emod,Int.natCast_ediv];rfl
 have q6:(ly.length:Int) % 256=((UInt8.ofNat ly.length).toNat:Int):=by rw[UInt8.toNat_ofNat',Int.natCast_emod];rfl
 have q7:(ly.length:Int) / 256=((UInt8.ofNat (ly.length / 256)).toNat:Int):=by rw[UInt8.toNat_ofNat'];omega
 have hml:2<=m/\m<=2002:=by omega
 have HLy:Hid (ly.length<=2000):=φ hl;clear hm hm2 hl;have hln:ly.length<=2000:=HLy.out;have HYY:Hid (∀ (p q:UInt8),((0:UInt8)::0::ly).set 0 p=p::0::ly/\(p::0::ly).set 1 q=p::q::ly):=φ fun _ _=>⟨rfl,rfl⟩
 generalize ly.length=n at *;generalize UInt8.ofNat (n / 256)=x at *;generalize UInt8.ofNat n=y at *
 conv at hC=>enter [a,w,1,2];whnf
 conv=>arg 2;whnf
 go_wp2_with (first|(go_at_call 90;refine HBy.out.mono ?_;rintro e w2 ⟨g,cap,rfl,ho,hw2⟩;subst hw2;have fg0:W.frozen? ⟨g,0,none⟩=false:=ho.frozenAt 0;have fh1:W.frozen? ⟨g,1,none⟩=false:=ho.frozenAt 1;obtain⟨v1,cg1⟩:∃ v,W.cell? ⟨g,1,none⟩=some v:=ho.cellAt 1 (by simp);obtain⟨v0,cg0⟩:∃ v,W.cell? ⟨g,0,none⟩=some v:=ho.cellAt 0 (by simp);have o3:=ho.setAt 0 (by simp) x;rw[(HYY.out x y).1] at o3;have fg1:(W.setCell ⟨g,0,none⟩ (.int .u8 (x.toNat:Int))).frozen? ⟨g,1,none⟩=false:=o3.frozenAt 1;have o4:=o3.setAt 1 (by simp) y;rw[(HYY.out x y).2] at o4;have O4:=φ o4;have hge:=ho.ge.1;have B4:=φ ((HB.out.setCell (p:=⟨g,0,none⟩) (by simp only;omega) (bv x)).setCell (p:=⟨g,1,none⟩) (by simp only;omega) (bv y)).drew;obtain⟨a4,c4,e4,r4⟩:=o4.rb (by have:=HM.out x y;omega);obtain⟨ha4,-,hc4⟩:=Value.slice.inj e4;subst ha4;subst hc4;clear e4;rw[HM.out] at r4;have HC4:=φ (Clone_any _ _ _ _ _ _ (r4.below (Below.refl _ _).drew) (Nat.le_refl _));clear ho o3 o4 r4 hge)|(go_at_call 83;refine HC4.out.mono ?_;rintro e w5 ⟨⟨v5,rfl,ho5⟩,hb5⟩;have O5:=φ (ho5.mono B4.out.size);have B5:=φ (B4.out.trans (hb5.mono B4.out.size));clear ho5 hb5));exact HR.out _ _ (by rw[HN.out];exact O5.out) B5.out
theorem put_tail (N rb wb:Nat) (ls wk pv nx:Int) (kd:Nat) (pg:Int) (ka oa na da pa:Option Addr) (kc oc nc dc pc:Nat) (K O N':List UInt8) (D M:List (Int×Int)) (lx:List UInt8) (w0 W:World) (R:Ending->World->Prop)
  (hE:PutE N rb W ls wk pv nx kd pg ka oa na da pa kc oc nc dc pc K O N' D M) (hw:WrR (rb+1) wb (0::0::lx) W) (hs:rb+1<=W.heap.size) (hrb:w0.heap.size<=rb) (hb:Below w0.heap.size w0 W) (hl:lx.length<=1000)
  (hR:∀ v w',OB w0.heap.size w' v (numB (lx++rowsB K O N').length 2++(lx++rowsB K O N'))->Below w0.heap.size w0 w'->R (.returned (.tuple #[v,.int .i64 0])) w') (s0 s2 s3 s5 s6 s7 s8 s9 s10 s11 s12 s13 s14 s15 s16 s17 s18 s19 s20 s21 s22 s23 s24 s25 s26 s27 s28 s29 s30 s31 s32 s33 s34 s35 s36 s37 s38 s39 s40 s41 s42 s43 s44 s45 s46 s47 s48 s49 s50 s51 s52 s53 s54 s55 s56 s57 s58 s59 s60 s61 s62 s63 s64 s65 s66 s67 s68 s69 s70 s71 s72 s73 s74 s75 s76 s77 s78 s79 s80 s81 s82 s83 s84 s85 s86 s87 s88 s89 s90 s91 s92 s93 s94 s95 s96 s97 s98 s99 s100 s101 s102 s103 s104 s105 s106 s107 s108 s109 s110 s111 s112 s113 s114 s115 s116 s117 s118 s119 s120 s121 s122 s123 s124 s125 s126 s127 s128 s129 s130 s131 s132 s133 s134 s135 s136 s137 s138 s139 s140 s141:Value)
  (C1 C2:Act->World->Prop) (hC2:∀ a w,Code.wp Tryz.prog (dropQ 7 (Tryz.f42.body.getD .skip)) (bodyPost Tryz.prog Tryz.f42 R) a w->C2 a w) (hC1:∀ a w,Code.wp Tryz.prog (tailQ (headQ (dropQ 6 (Tryz.f42.body.getD .skip)))) (Exit.then C2 (bodyPost Tryz.prog Tryz.f42 R)) a w->C1 a w) :
  Code.wp Tryz.prog (headQ (headQ (dropQ 6 (Tryz.f42.body.getD .skip)))) (Exit.then C1 (Exit.then C2 (bodyPost Tryz.prog Tryz.f42 R))) ⟨List.toArray (s0::(.pointer (some ⟨rb,0,none⟩))::s2::s3::(.pointer (some ⟨wb,0,none⟩))::s5::s6::s7::s8::s9::s10::s11::s12::s13::s14::s15::s16::s17::s18::s19::s20::s21::s22::s23::s24::s25::s26::s27::s28::s29::s30::s31::s32::s33::s34::s35::s36::s37::s38::s39::s40::s41::s42::s43::s44::s45::s46::s47::s48::s49::s50::s51::s52::s53::s54::s55::s56::s57::s58::s59::s60::s61::s62::s63::s64::s65::s66::s67::s68::s69::s70::s71::s72::s73::s74::s75::s76::s77::s78::s79::s80::s81::s82::s83::s84::s85::s86::s87::s88::s89::s90::s91::s92::s93::s94::s95::s96::s97::s98::s99::s100::s101::s102::s103::s104::s105::s106::s107::s108::s109::s110::s111::s112::s113::s114::s115::s116::s117::s118::s119::s120::s121::s122::s123::s124::s125::s126::s127::s128::s129::s130::s131::s132::s133::s134::s135::s136::s137::s138::s139::s140::s141::[]),[]⟩ W:=by
 conv at hC1=>enter [a,w,1,2];whnf
 conv at hC2=>enter [a,w,1,2];whnf
 have y6:=hE.cell (i:=6) rfl;have HE:=φ hE;have HW:=φ hw;have HB:=φ hb;have HR:=φ hR;have HLe:=φ (⟨hE.kl,hE.ol,hE.nl,hl⟩:K.length<=255/\O.length<=255/\N'.length<=255/\lx.length<=1000);have hwb:rb+1<=wb:=hw.1;have hN:=hE.lt;clear hE hw hb hR hl;by_cases hk:0<K.length
 ·have HX:Hid (0::0::lx++rowB K++rowB O++rowB N'=0::0::(lx++rowsB K O N')):=φ (by unfold rowsB;rw[if_pos hk];simp);have HLn:Hid ((lx++rowsB K O N').length<=2000):=φ (by unfold rowsB;rw[if_pos hk];obtain⟨h1,h2,h3,h4⟩:=HLe.out;simp only[List.length_append,rowB,List.length_cons];omega);have e1:decide ((K.length:Int) > 0)=true:=by simp;omega
  have R1:=φ (row_any' (rb+1) wb N _ _ _ _ _ W HW.out HE.out.k (by omega) hs (by have:=HLe.out;simp;omega) hwb)
  conv=>arg 2;whnf
  go_upto_region 35 with (first|(go_at_call 89;(with_reducible refine R1.out.mono ?_);rintro e w1 ⟨rfl,hw1,hb1⟩;have B1:=φ hb1;have E1:=φ (HE.out.below hb1 (by omega));have y16:=E1.out.cell (i:=7) rfl;have R2:=φ (row_any' (rb+1) wb N _ _ _ _ _ w1 hw1 E1.out.o (by omega) (Nat.le_trans hs hb1.size) (by have:=HLe.out;simp[rowB];omega) hwb);clear hw1 hb1)|(go_at_call 89;(with_reducible refine R2.out.mono ?_);rintro e w2 ⟨rfl,hw2,hb2⟩;have B2:=φ (B1.out.trans hb2);have E2:=φ (E1.out.below hb2 (by omega));have y26:=E2.out.cell (i:=8) rfl;have R3:=φ (row_any' (rb+1) wb N _ _ _ _ _ w2 hw2 E2.out.n (by omega) (Nat.le_trans hs B2.out.size) (by have:=HLe.out;simp[rowB];omega) hwb);clear hw2 hb2)|(go_at_call 89;(with_reducible refine R3.out.mono ?_);rintro e w3 ⟨rfl,hw3,hb3⟩;have W3:=φ hw3;have B3:=φ (B2.out.trans hb3);clear hw3 hb3));exact put_end rb wb _ w0 _ R (by rw[<- HX.out];exact W3.out) (Nat.le_trans hs B3.out.size) hrb (HB.out.trans (B3.out.mono (by omega))) HLn.out HR.out _ _ _ _ _ _ _ _ _ _ _ _ _ _ _ _ _ _ _ _ _ _ _ _ _ _ _ _ _ _ _ _ _ _ _ _ _ _ _ _ _ _ _ _ _ _ _ _ _ _ _ _ _ _ _ _ _ _ _ _ _ _ _ _ _ _ _ _ _ _ _ _ _ _ _ _ _ _ _ _ _ _ _ _ _ _ _ _ _ _ _ _ _ _ _ _ _ _ _ _ _ _ _ _ _ _ _ _ _ _ _ _ _ _ _ _ _ _ _ _ _ _ _ _ _ _ _ _ _ _ _ _ _ _ _ _ _ _ _ _ _ (by assumption)
 ·have HX:Hid (rowsB K O N'=[]):=φ (by unfold rowsB;rw[if_neg hk]);have e1:decide ((K.length:Int) > 0)=false:=decide_eq_false (by omega)
  conv=>arg 2;whnf
  go_upto_region 35 with (fail);exact put_end rb wb lx w0 W R HW.out hs hrb HB.out (Nat.le_trans HLe.out.2.2.2 (by omega)) (by have:=HR.out;rw[HX.out,List.append_nil] at this;exact this) _ _ _ _ _ _ _ _ _ _ _ _ _ _ _ _ _ _ _ _ _ _ _ _ _ _ _ _ _ _ _ _ _ _ _ _ _ _ _ _ _ _ _ _ _ _ _ _ _ _ _ _ _ _ _ _ _ _ _ _ _ _ _ _ _ _ _ _ _ _ _ _ _ _ _ _ _ _ _ _ _ _ _ _ _ _ _ _ _ _ _ _ _ _ _ _ _ _ _ _ _ _ _ _ _ _ _ _ _ _ _ _ _ _ _ _ _ _ _ _ _ _ _ _ _ _ _ _ _ _ _ _ _ _ _ _ _ _ _ _ _ (by assumption)
end
end Go.Proofs.YtohlkkannjifmaaGreatDoor
