import Derived.Test.YtohlkkannjifmaaGreatDoorODoesF
import Derived.Deep.RegionHeldLaw
import Derived.Deep.DeepCutAuto
namespace Go.Proofs.YtohlkkannjifmaaGreatDoor
section
set_option maxHeartbeats 16000000
set_option maxRecDepth 100000
open Go.RowKit Go.Shelf
theorem does_other (base gb mb n K d l p:Nat) (s:StP) (m:MdP) (x:RecAt) (w:World) (h:DS base w gb mb n K d l p s m) (hl:LastV m.V s.c n) (hV:s.V=m.V) (hri:RecI w.heap.size w x.r x.ka x.oa x.na x.da x.pa x.kc x.oc x.nc x.dc x.pc) (l1:x.r.key.length+x.r.old.length+x.r.new.length<=2000) (l2:x.r.dirty.length+x.r.opn.length<=300)
  (hout:∀ a b o s',(a=x.ka∨a=x.oa∨a=x.na∨a=x.da∨a=x.pa)->a=some (⟨b,o,s'⟩:Addr)->¬ s.S b/\¬ m.T mb n b/\b<w.heap.size) (hK:K<=90000000) (hk6:x.r.kind≠6/\x.r.kind≠1/\x.r.kind≠2) :
  Calls Tryz.prog 77 #[.pointer (some ⟨gb,0,none⟩),.pointer (some ⟨mb,0,none⟩),recV x.r x.ka x.oa x.na x.da x.pa x.kc x.oc x.nc x.dc x.pc] w (DoesG base gb mb n K d l p s w):=by
 obtain⟨w1,hw1⟩:∃ w1,w1=w.alloc (recObj x.r x.ka x.oa x.na x.da x.pa x.kc x.oc x.nc x.dc x.pc):=⟨_,rfl⟩
 obtain⟨rb,hrb⟩:∃ rb,rb=w.heap.size:=⟨_,rfl⟩
 have hB1:Below w.heap.size w w1:=by rw[hw1];exact (Below.refl _ w).alloc (Nat.le_refl _) _
 have hd1:=h.below hB1;have hx1:BxR w1 gb mb n s m rb x:=⟨by rw[hw1,hrb];exact heap_alloc_new w _,(hri.below hB1).mono hB1.size,l1,l2,⟨fun hS=>by have:=h.lt (.inl hS);omega,fun hT=>by have:=h.lt (.inr (.inl ((m.b_iff mb n rb).2 (.inl hT))));omega⟩,fun a b o s' ha e=>by have:=hout a b o s' ha e;exact⟨this.1,this.2.1,Nat.lt_of_lt_of_le this.2.2 hB1.size⟩⟩
 have HXo:Hid (rb<w1.heap.size/\base<=w1.heap.size/\∀ a b o s',(a=x.ka∨a=x.oa∨a=x.na∨a=x.da∨a=x.pa)->a=some (⟨b,o,s'⟩:Addr)->b<w1.heap.size):=φ ⟨ξ hx1.blk,hd1.bs,fun a b o s' ha e=>(hx1.out a b o s' ha e).2.2⟩;have HB1:Hid (Below base w w1):=φ (hB1.mono h.bs);have HL:=φ hl;have HV:=φ hV;have HK:=φ hK;have H6:=φ hk6;have HPk:Hid (∀ i,0<=i->i<(n:Int)->PgOk (s.c i)):=φ (fun i h0 h1=>(h.rig.pg i h0 (by rw[h.cnt];exact h1)).2);have hn1:=h.n1;obtain⟨vg,vc,hvs,hv1,hv2,-,-⟩:=h.mod.at_ (i:=0) (by omega);obtain⟨k0,k1,k2,k3,k4⟩:=hd1.cells;rw[hvs] at k3;obtain⟨c0,c1,c2,c3,c4,c5,c6,c7,c8,c9,c10⟩:=ζ hx1.blk;have HD1:=φ hd1;have HX1:=φ hx1;have HLent:=φ (LentRecord_any w1.heap.size x.r x.ka x.oa x.na x.da x.pa x.kc x.oc x.nc x.dc x.pc w1 hx1.ri.k hx1.ri.o hx1.ri.n hx1.ri.d hx1.ri.p (Nat.le_refl _) l1 l2);have HVs:=φ hvs;unfold recObj at hw1;unfold recV at HLent;unfold recV;have Hw1:=φ hw1;have Hrb:=φ hrb;clear h hl hV hri hout hK hB1 hd1 hx1 hw1 hrb hvs hk6;go_enter Tryz.func77,Tryz.ntmps77;go_upto_region 1 with (fail);rw[<- Hw1.out,<- Hrb.out];go_upto_region 4 with (go_at_call 125;(with_reducible refine HLent.out.mono ?_);rintro e w2 ⟨⟨g0,d0,g1,d1,g2,d2,g3,d3,g4,d4,rfl,hlr⟩,hb2⟩;have HLr:=φ hlr;have HB2:=φ hb2;clear hlr hb2);clear k0 k1 k2 k3 k4 c0 c1 c2 c3 c4 c5 c6 c7 c8 c9 c10 l1 l2;obtain⟨w3,hw3⟩:∃ z,z=w2.alloc (recObj x.r (some ⟨g0,0,none⟩) (some ⟨g1,0,none⟩) (some ⟨g2,0,none⟩) (some ⟨g3,0,none⟩) (some ⟨g4,0,none⟩) d0 d1 d2 d3 d4):=⟨_,rfl⟩
 obtain⟨bi,hbi⟩:∃ z,z=w2.heap.size:=⟨_,rfl⟩
 have hl3:=lnd_new HD1.out HLr.out HB2.out;have hB3:Below w1.heap.size w1 w3:=by rw[hw3];exact HB2.out.alloc HB2.out.size _
 rw[<- hw3,<- hbi] at hl3;unfold recObj at hw3;rw[<- hw3,<- hbi];obtain⟨lo,hlo⟩:∃ z,z=w1.heap.size:=⟨_,rfl⟩
 rw[<- hlo] at hl3;have HXo:Hid (rb<lo/\base<=lo/\∀ a b o s',(a=x.ka∨a=x.oa∨a=x.na∨a=x.da∨a=x.pa)->a=some (⟨b,o,s'⟩:Addr)->b<lo):=φ (by rw[hlo];exact HXo.out);have hB3':Below base w w3:=HB1.out.trans (hB3.mono HD1.out.bs);have HB3:=φ hB3';have hd3:=HD1.out.below hB3;have hx3:=HX1.out.below hB3;have HN3:=φ hl3;have HD3:=φ hd3;have HX3:=φ hx3;obtain⟨hi,hhi⟩:∃ z,z=bi+1:=⟨_,rfl⟩
 rw[<- hhi] at hl3 HN3;clear HD1 HX1 HLr HB2 hw3 hbi hB3 hlo hB3' hhi HLent Hw1 Hrb HB1;obtain⟨k0,k1,k2,k3,k4⟩:=hd3.cells;obtain⟨y0,y1,y2,y3,y4,y5,y6,y7,y8,y9,y10⟩:=ζ hl3.blk;clear hl3 hd3 hx3;have HP:=φ (HD3.out.drew.do_in HX3.out.drew (HN3.out.below (Below.refl _ w3).drew) (by have:=HK.out;omega));unfold recV at HP;go_region_held3 (fun w'=>w'.cell? ⟨bi,0,none⟩=some (.int .i64 x.r.lsn)/\w'.cell? ⟨bi,1,none⟩=some (.int .i64 x.r.work)/\w'.cell? ⟨bi,2,none⟩=some (.int .i64 x.r.prev)/\w'.cell? ⟨bi,3,none⟩=some (.int .i64 x.r.next)/\w'.cell? ⟨bi,4,none⟩=some (.int .u8 x.r.kind)/\w'.cell? ⟨bi,5,none⟩=some (.int .i64 x.r.page)/\w'.cell? ⟨bi,6,none⟩=some (.slice (some ⟨g0,0,none⟩) x.r.key.length d0)/\w'.cell? ⟨bi,7,none⟩=some (.slice (some ⟨g1,0,none⟩) x.r.old.length d1)/\w'.cell? ⟨bi,8,none⟩=some (.slice (some ⟨g2,0,none⟩) x.r.new.length d2)/\w'.cell? ⟨bi,9,none⟩=some (.slice (some ⟨g3,0,none⟩) x.r.dirty.length d3)/\w'.cell? ⟨bi,10,none⟩=some (.slice (some ⟨g4,0,none⟩) x.r.opn.length d4)/\w'.cell? ⟨gb,2,none⟩=some (.pointer (some ⟨p,0,none⟩))) (first|go_keep|exact⟨by assumption,by assumption,by assumption,by assumption,by assumption,by assumption,by assumption,by assumption,by assumption,by assumption,by assumption,by assumption⟩) (first|(go_at_call 12;(with_reducible refine HP.out.mono ?_);rintro e w4 ⟨s4,rfl,hd4,hx4,hn4,hb4,e41,e42,e43,e44⟩;obtain⟨j0,j1,j2,j3,j4⟩:=hd4.cells;obtain⟨z0,z1,z2,z3,z4,z5,z6,z7,z8,z9,z10⟩:=ζ hn4.blk;obtain⟨c0,c1,c2,c3,c4,c5,c6,c7,c8,c9,c10⟩:=ζ hx4.blk;have HKp:=φ (hd4.kept_in hx4 hn4);have HB4:Hid (Below base w w4):=φ (HB3.out.trans (Below.trans ((Below.refl _ w3).drew.mono HD3.out.bs) hb4));have HE4:=φ (And.intro e41 (And.intro e42 (And.intro e43 e44)));clear hd4 hx4 hn4 hb4 e41 e42 e43 e44));clear k0 k1 k2 k3 k4 y0 y1 y2 y3 y4 y5 y6 y7 y8 y9 y10 HP HD3 HX3 HN3 HB3;unfold recV at HKp;go_upto_region 7 with (go_at_call 126;(with_reducible refine HKp.out.mono ?_);rintro e w5 ⟨rfl,hd5,hx5,hn5,hb5⟩;obtain⟨q0,q1,q2,q3,q4,q5,q6,q7,q8,q9,q10⟩:=ζ hn5.blk;have HOv:=φ (hd5.over_in hx5 hn5 HXo.out.1 HXo.out.2.1 HXo.out.2.2);have HB5:Hid (Below base w w5):=φ (HB4.out.trans hb5);clear hd5 hx5 hn5 hb5);clear j0 j1 j2 j3 j4 z0 z1 z2 z3 z4 z5 z6 z7 z8 z9 z10 c0 c1 c2 c3 c4 c5 c6 c7 c8 c9 c10 HKp HB4;unfold recV at HOv;go_upto_region 8 with (go_at_call 127;(with_reducible refine HOv.out.mono ?_);rintro e w6 ⟨rfl,hd6,hx6,hb6⟩;obtain⟨j0,j1,j2,j3,j4⟩:=hd6.cells;obtain⟨c0,c1,c2,c3,c4,c5,c6,c7,c8,c9,c10⟩:=ζ hx6.blk;have HB6:Hid (Below base w w6):=φ (HB5.out.trans hb6);have HD6:=φ hd6;have HX6:=φ hx6;clear hd6 hx6 hb6);clear q0 q1 q2 q3 q4 q5 q6 q7 q8 q9 q10 HOv HB5 HXo;have b6:((x.r.kind:Int) == 6)=false:=by have:=H6.out;simp;omega
 have b1:((x.r.kind:Int) != 1)=true:=by have:=H6.out;simp;omega
 have b2:((x.r.kind:Int) != 2)=true:=by have:=H6.out;simp;omega
 obtain⟨en,hen⟩:∃ en,en=s4.L.end_:=⟨_,rfl⟩
 have HEe:Hid (en=s.L.end_):=φ (hen.trans HE4.out.2.2.1.end_);have hEn:∀ q,Calls Tryz.prog 47 #[.pointer (some ⟨l,0,none⟩)] (w6.drewN q) fun e w'=>e=.returned (.int .i64 en)/\∃ k,w'=w6.drewN k:=fun q=>by rw[hen];exact ((HD6.out.drewN q).rig.end_).mono fun _ _ h=>⟨h.1,_,h.2.trans (World.drewN_drewN w6 q 1)⟩
 clear hen;obtain⟨f1,f2,f3,f4⟩:=doF_arg (r:=x.r) (L:=s.L) (n:=n) (c:=s.c) (V:=s.V) (.inl H6.out);rw[f3,f4] at HE4;rw[f1,f2];clear f1 f2 f3 f4;go_big_quiet ((go_at_call 47;exact (hEn _).mono fun _ _ h=>h));go_wp2_with (fail);go_ret;exact DoesG.mk HD6.out (by omega) HL.out HE4.out.1 (HE4.out.2.1.trans HV.out) rfl HE4.out.2.2.1 HE4.out.2.2.2 HB6.out _
end
section
set_option maxHeartbeats 16000000
set_option maxRecDepth 100000
open Go.RowKit Go.Shelf
theorem does_end (base gb mb n K d l p:Nat) (s:StP) (m:MdP) (rb:Nat) (x:RecAt) (W:World) (R:Ending->World->Prop) (hd:DS base W gb mb n K d l p s m) (hx:BxR W gb mb n s m rb x) (hk:K<=95000000) (hR:∀ m' w',DS base w' gb mb n (K+1) d l p s m'->m'.V=m.V->Below base W w'->R (.returned (.bool true)) w') (s2 s3 s4 s6 s7 s8 s9 s11 s12 s14 s15 s16 s17 s18 s19 s20 s21 s22 s23 s24 s25 s26 s27 s28 s29 s30 s31 s32 s33 s34 s35 s36 s37 s38 s39 s40 s41 s42 s43 s44 s45 s46 s47 s48 s49 s50 s51 s52 s53 s54 s55 s56 s57 s58 s59 s60 s61 s62 s63 s64 s65 s66 s67 s68 s69 s70 s71 s72 s73 s74 s75 s76 s77 s78 s79 s80 s81 s82 s83 s84 s85 s86 s87 s88 s89 s90 s91 s92 s93 s94 s95 s96 s97 s98 s99 s100 s101 s102 s103 s104 s105 s106 s107 s108 s109 s110 s111 s112 s113 s114 s115 s116 s117 s118 s119 s120 s121 s122 s123 s124 s125 s126 s127 s128 s129 s130 s131 s132 s133 s134 s135 s136 s137 s138 s139 s140 s141 s142 s143 s144 s145 s146 s147 s148 s149 s150 s151 s152 s153 s154 s155 s156 s157 s158 s159 s160 s161 s162 s163 s164 s165 s166 s167 s168 s169 s170 s171 s172 s173 s174 s175 s176 s177 s178 s179 s180 s181 s182 s183 s184 s185 s186 s187 s188 s189 s190 s191 s192 s193 s194 s195 s196 s197 s198:Value)
  (C1 C2:Act->World->Prop) (hC2:∀ a w,Code.wp Tryz.prog (dropQ 14 (Tryz.f77.body.getD .skip)) (bodyPost Tryz.prog Tryz.f77 R) a w->C2 a w) (hC1:∀ a w,Code.wp Tryz.prog (tailQ (headQ (dropQ 13 (Tryz.f77.body.getD .skip)))) (Exit.then C2 (bodyPost Tryz.prog Tryz.f77 R)) a w->C1 a w) :
  Code.wp Tryz.prog (headQ (headQ (dropQ 13 (Tryz.f77.body.getD .skip)))) (Exit.then C1 (Exit.then C2 (bodyPost Tryz.prog Tryz.f77 R))) ⟨List.toArray ((.pointer (some ⟨gb,0,none⟩))::(.pointer (some ⟨mb,0,none⟩))::s2::s3::s4::(.pointer (some ⟨rb,0,none⟩))::s6::s7::s8::s9::(.bool true)::s11::s12::(.bool true)::s14::s15::s16::s17::s18::s19::s20::s21::s22::s23::s24::s25::s26::s27::s28::s29::s30::s31::s32::s33::s34::s35::s36::s37::s38::s39::s40::s41::s42::s43::s44::s45::s46::s47::s48::s49::s50::s51::s52::s53::s54::s55::s56::s57::s58::s59::s60::s61::s62::s63::s64::s65::s66::s67::s68::s69::s70::s71::s72::s73::s74::s75::s76::s77::s78::s79::s80::s81::s82::s83::s84::s85::s86::s87::s88::s89::s90::s91::s92::s93::s94::s95::s96::s97::s98::s99::s100::s101::s102::s103::s104::s105::s106::s107::s108::s109::s110::s111::s112::s113::s114::s115::s116::s117::s118::s119::s120::s121::s122::s123::s124::s125::s126::s127::s128::s129::s130::s131::s132::s133::s134::s135::s136::s137::s138::s139::s140::s141::s142::s143::s144::s145::s146::s147::s148::s149::s150::s151::s152::s153::s154::s155::s156::s157::s158::s159::s160::s161::s162::s163::s164::s165::s166::s167::s168::s169::s170::s171::s172::s173::s174::s175::s176::s177::s178::s179::s180::s181::s182::s183::s184::s185::s186::s187::s188::s189::s190::s191::s192::s193::s194::s195::s196::s197::s198::[]),[]⟩ W:=by
 conv at hC2=>enter [a,w,1,2];whnf
 conv at hC1=>enter [a,w,1,2];whnf
 conv=>arg 2;whnf
 have HD10:=φ hd;have HX10:=φ hx;have HK:=φ hk;have HR:=φ hR;have HB10:Hid (Below base W W):=φ (Below.refl _ _);obtain⟨j0,j1,j2,j3,j4⟩:=hd.cells;obtain⟨c0,c1,c2,c3,c4,c5,c6,c7,c8,c9,c10⟩:=ζ hx.blk;clear hd hx hk hR;go_upto_region 23 with (fail);have hSb:RecS mb rb m.ds x W.drew:=⟨HX10.out.blk,HD10.out.mod.mc.2⟩
 have HCp:=φ (CopyRecord_any W.drew.heap.size x.r x.ka x.oa x.na x.da x.pa x.kc x.oc x.nc x.dc x.pc W.drew HX10.out.drew.ri.k HX10.out.drew.ri.o HX10.out.drew.ri.n HX10.out.drew.ri.d HX10.out.drew.ri.p (Nat.le_refl _) (by have:=HX10.out.l2;omega) (by have:=HX10.out.l2;omega));unfold recV at HCp;refine AnyL.start 11 (RecS mb rb m.ds x) (by kernel_rfl) ?_;refine AnyL.tk (i:=0) (v:=?tv23_100) rfl hSb ?ty23_100 ?tr23_100
 case ty23_100 =>
  intro w' hS';obtain⟨q0,q1⟩:=hS';obtain⟨s0,s1,s2,s3,s4,s5,s6,s7,s8,s9,s10⟩:=ζ q0
  (go_simp<;>with_reducible rfl)
 try simp only[Act.put,List.setIfInBounds_toArray]
 refine AnyL.tk (i:=1) (v:=?tv23_101) rfl hSb ?ty23_101 ?tr23_101
 case ty23_101 =>
  intro w' hS';obtain⟨q0,q1⟩:=hS';obtain⟨s0,s1,s2,s3,s4,s5,s6,s7,s8,s9,s10⟩:=ζ q0
  (go_simp<;>with_reducible rfl)
 try simp only[Act.put]
 refine AnyL.tk (i:=2) (v:=?tv23_102) rfl hSb ?ty23_102 ?tr23_102
 case ty23_102 =>
  intro w' hS';obtain⟨q0,q1⟩:=hS';obtain⟨s0,s1,s2,s3,s4,s5,s6,s7,s8,s9,s10⟩:=ζ q0
  (go_simp<;>with_reducible rfl)
 try simp only[Act.put]
 refine AnyL.tk (i:=3) (v:=?tv23_103) rfl hSb ?ty23_103 ?tr23_103
 case ty23_103 =>
  intro w' hS';obtain⟨q0,q1⟩:=hS';obtain⟨s0,s1,s2,s3,s4,s5,s6,s7,s8,s9,s10⟩:=ζ q0
  (go_simp<;>with_reducible rfl)
 try simp only[Act.put]
 refine AnyL.tk (i:=4) (v:=?tv23_104) rfl hSb ?ty23_104 ?tr23_104
 case ty23_104 =>
  intro w' hS';obtain⟨q0,q1⟩:=hS';obtain⟨s0,s1,s2,s3,s4,s5,s6,s7,s8,s9,s10⟩:=ζ q0
  (go_simp<;>with_reducible rfl)
 try simp only[Act.put]
 refine AnyL.tk (i:=5) (v:=?tv23_105) rfl hSb ?ty23_105 ?tr23_105
 case ty23_105 =>
  intro w' hS';obtain⟨q0,q1⟩:=hS';obtain⟨s0,s1,s2,s3,s4,s5,s6,s7,s8,s9,s10⟩:=ζ q0
  (go_simp<;>with_reducible rfl)
 try simp only[Act.put]
 refine AnyL.one (i:=6) (by kernel_rfl) rfl (fun K hK=>?_);go_simp;go_wp2_with (go_at_call 10;(with_reducible refine HCp.out.mono ?_);rintro e w11 ⟨⟨b0,e0,b1,e1,b2,e2,b3,e3,b4,e4,rfl,o0,o1,o2,o3,o4⟩,hb11⟩;have HZ:=φ (recz o0 o1 o2 o3 o4 HX10.out.ri.d.fine HX10.out.ri.p.fine HX10.out.ri.wf HX10.out.l1 HX10.out.l2);have HB11:=φ hb11;clear o0 o1 o2 o3 o4 hb11);refine hK.out _ _ (fun _=>hSb.below HB11.out) (fun _=>?_);clear hK K
 try simp only[Act.put,List.setIfInBounds_toArray,List.set]
 refine AnyL.one (i:=7) (by kernel_rfl) rfl (fun K hK=>?_);go_simp;refine hK.out _ _ (fun _=>(hSb.below HB11.out).below (below_allocL' _ _)) (fun _=>?_);clear hK K;have HOA:Hid (recE.Own 0 (w11.alloc (recObj x.r b0 b1 b2 b3 b4 e0 e1 e2 e3 e4)) m.ds m.Z):=φ (((Ek.Own.drew HD10.out.mod.drow).below HB11.out).below (below_allocL' _ _));unfold recObj at HOA;refine AnyL.one (i:=8) (by kernel_rfl) rfl (fun K hK=>?_);refine Ek.step_append1 recE rfl _ _ (by rfl) 0 m.ds m.Z ⟨x.r,b0,b1,b2,b3,b4,e0,e1,e2,e3,e4⟩ (m.Z.length+1) rfl (by rfl) HOA.out _ 1 (by rfl) (Ek.one_lit (E:=recE) _ _ _ _ rfl) (Nat.zero_le _) (by have:=HK.out;have:=HD10.out.zl;omega) ?_;intro g9 c9 w12 hown9 hg9 hgg9;obtain⟨fz,uv,hfz⟩:=HD10.out.drew.recd_cell HB11.out hg9;have hSc:=HD10.out.drew.recd_S HX10.out.drew HB11.out hg9;have O9:=φ hown9;have G9:=φ hg9;have GG9:=φ hgg9;clear hown9 hg9 hgg9;refine hK.out _ _ (fun _=>hSc) (fun _=>?_);clear hK K
 try simp only[Act.put,List.setIfInBounds_toArray]
 refine AnyL.one (i:=9) (by kernel_rfl) rfl (fun K hK=>?_);go_simp;refine hK.out _ _ (fun _=>hSc) (fun _=>?_);clear hK K;refine AnyL.one (i:=10) (by kernel_rfl) rfl (fun K hK=>?_);go_simp;refine hK.out _ _ (fun _=>hSc) (fun _=>?_);clear hK K;refine AnyL.one (i:=11) (by kernel_rfl) rfl (fun K hK=>?_);go_simp;refine hK.out _ _ (fun h=>absurd rfl h) (fun _=>?_);clear hK K;refine AnyL.done (by kernel_rfl) ?_;generalize hw13:World.setCell w12 _ _=w13;obtain⟨m13,hd13,hV13,hb13⟩:=HD10.out.drew.recd ⟨x.r,b0,b1,b2,b3,b4,e0,e1,e2,e3,e4⟩ HB11.out HZ.out.1 ⟨HX10.out.l1,HX10.out.l2⟩ HZ.out.2 rfl O9.out G9.out GG9.out;rw[hw13] at hd13 hb13;have HB13:Hid (Below base W w13):=φ (HB10.out.trans ((Below.refl _ _).drew.trans hb13));have HD13:=φ hd13;have HV13:=φ hV13;clear hw13 hSb hSc fz hfz O9 G9 GG9 HOA hV13 hb13 hd13;go_wp2_with (fail);exact HR.out _ _ HD13.out HV13.out HB13.out
end
end Go.Proofs.YtohlkkannjifmaaGreatDoor
