import Derived.Test.YtohlkkannjifmaaGreatDoorODoesE2
import Derived.Deep.RegionHeldLaw
import Derived.Deep.DeepCutAuto
namespace Go.Proofs.YtohlkkannjifmaaGreatDoor
set_option maxHeartbeats 16000000
set_option maxRecDepth 100000
open Go.RowKit Go.Shelf
theorem does_same (base gb mb n K d l p:Nat) (s:StP) (m:MdP) (x:RecAt) (w:World) (h:DS base w gb mb n K d l p s m) (hl:LastV m.V s.c n) (hV:s.V=m.V) (hri:RecI w.heap.size w x.r x.ka x.oa x.na x.da x.pa x.kc x.oc x.nc x.dc x.pc) (l1:x.r.key.length+x.r.old.length+x.r.new.length<=2000) (l2:x.r.dirty.length+x.r.opn.length<=300)
  (hout:∀ a b o s',(a=x.ka∨a=x.oa∨a=x.na∨a=x.da∨a=x.pa)->a=some (⟨b,o,s'⟩:Addr)->¬ s.S b/\¬ m.T mb n b/\b<w.heap.size) (hK:K<=90000000) (hk6:x.r.kind=6/\x.r.next=x.r.page) :
  Calls Tryz.prog 77 #[.pointer (some ⟨gb,0,none⟩),.pointer (some ⟨mb,0,none⟩),recV x.r x.ka x.oa x.na x.da x.pa x.kc x.oc x.nc x.dc x.pc] w (DoesG base gb mb n K d l p s w):=by
 obtain⟨w1,hw1⟩:∃ w1,w1=w.alloc (recObj x.r x.ka x.oa x.na x.da x.pa x.kc x.oc x.nc x.dc x.pc):=⟨_,rfl⟩
 obtain⟨rb,hrb⟩:∃ rb,rb=w.heap.size:=⟨_,rfl⟩
 have hB1:Below w.heap.size w w1:=by rw[hw1];exact (Below.refl _ w).alloc (Nat.le_refl _) _
 have hd1:=h.below hB1;have hx1:BxR w1 gb mb n s m rb x:=⟨by rw[hw1,hrb];exact heap_alloc_new w _,(hri.below hB1).mono hB1.size,l1,l2,⟨fun hS=>by have:=h.lt (.inl hS);omega,fun hT=>by have:=h.lt (.inr (.inl ((m.b_iff mb n rb).2 (.inl hT))));omega⟩,fun a b o s' ha e=>by have:=hout a b o s' ha e;exact⟨this.1,this.2.1,Nat.lt_of_lt_of_le this.2.2 hB1.size⟩⟩
 have HXo:Hid (rb<w1.heap.size/\base<=w1.heap.size/\∀ a b o s',(a=x.ka∨a=x.oa∨a=x.na∨a=x.da∨a=x.pa)->a=some (⟨b,o,s'⟩:Addr)->b<w1.heap.size):=φ ⟨ξ hx1.blk,hd1.bs,fun a b o s' ha e=>(hx1.out a b o s' ha e).2.2⟩;have HB1:Hid (Below base w w1):=φ (hB1.mono h.bs);have HL:=φ hl;have HV:=φ hV;have HK:=φ hK;have H6:=φ hk6;have HPk:Hid (∀ i,0<=i->i<(n:Int)->PgOk (s.c i)):=φ (fun i h0 h1=>(h.rig.pg i h0 (by rw[h.cnt];exact h1)).2);have hn1:=h.n1;obtain⟨vg,vc,hvs,hv1,hv2,-,-⟩:=h.mod.at_ (i:=0) (by omega);obtain⟨k0,k1,k2,k3,k4⟩:=hd1.cells;rw[hvs] at k3;obtain⟨c0,c1,c2,c3,c4,c5,c6,c7,c8,c9,c10⟩:=ζ hx1.blk;have HD1:=φ hd1;have HX1:=φ hx1;have HLent:=φ (LentRecord_any w1.heap.size x.r x.ka x.oa x.na x.da x.pa x.kc x.oc x.nc x.dc x.pc w1 hx1.ri.k hx1.ri.o hx1.ri.n hx1.ri.d hx1.ri.p (Nat.le_refl _) l1 l2);have HVs:=φ hvs;unfold recObj at hw1;unfold recV at HLent;unfold recV;have Hw1:=φ hw1;have Hrb:=φ hrb;clear h hl hV hri hout hK hB1 hd1 hx1 hw1 hrb hvs hk6;go_enter Tryz.func77,Tryz.ntmps77;go_upto_region 1 with (fail);rw[<- Hw1.out,<- Hrb.out];go_upto_region 4 with (go_at_call 125;(with_reducible refine HLent.out.mono ?_);rintro e w2 ⟨⟨g0,d0,g1,d1,g2,d2,g3,d3,g4,d4,rfl,hlr⟩,hb2⟩;have HLr:=φ hlr;have HB2:=φ hb2;clear hlr hb2);clear k0 k1 k2 k3 k4 c0 c1 c2 c3 c4 c5 c6 c7 c8 c9 c10 l1 l2;obtain⟨w3,hw3⟩:∃ z,z=w2.alloc (recObj x.r (some ⟨g0,0,none⟩) (some ⟨g1,0,none⟩) (some ⟨g2,0,none⟩) (some ⟨g3,0,none⟩) (some ⟨g4,0,none⟩) d0 d1 d2 d3 d4):=⟨_,rfl⟩
 obtain⟨bi,hbi⟩:∃ z,z=w2.heap.size:=⟨_,rfl⟩
 have hl3:=lnd_new HD1.out HLr.out HB2.out;have hB3:Below w1.heap.size w1 w3:=by rw[hw3];exact HB2.out.alloc HB2.out.size _
 rw[<- hw3,<- hbi] at hl3;unfold recObj at hw3;rw[<- hw3,<- hbi];obtain⟨lo,hlo⟩:∃ z,z=w1.heap.size:=⟨_,rfl⟩
 rw[<- hlo] at hl3;have HXo:Hid (rb<lo/\base<=lo/\∀ a b o s',(a=x.ka∨a=x.oa∨a=x.na∨a=x.da∨a=x.pa)->a=some (⟨b,o,s'⟩:Addr)->b<lo):=φ (by rw[hlo];exact HXo.out);have hB3':Below base w w3:=HB1.out.trans (hB3.mono HD1.out.bs);have HB3:=φ hB3';have hd3:=HD1.out.below hB3;have hx3:=HX1.out.below hB3;have HN3:=φ hl3;have HD3:=φ hd3;have HX3:=φ hx3;obtain⟨hi,hhi⟩:∃ z,z=bi+1:=⟨_,rfl⟩
 rw[<- hhi] at hl3 HN3;clear HD1 HX1 HLr HB2 hw3 hbi hB3 hlo hB3' hhi HLent Hw1 Hrb HB1;obtain⟨k0,k1,k2,k3,k4⟩:=hd3.cells;obtain⟨y0,y1,y2,y3,y4,y5,y6,y7,y8,y9,y10⟩:=ζ hl3.blk;clear hl3 hd3 hx3;have HP:=φ (HD3.out.drew.do_in HX3.out.drew (HN3.out.below (Below.refl _ w3).drew) (by have:=HK.out;omega));unfold recV at HP;go_region_held3 (fun w'=>w'.cell? ⟨bi,0,none⟩=some (.int .i64 x.r.lsn)/\w'.cell? ⟨bi,1,none⟩=some (.int .i64 x.r.work)/\w'.cell? ⟨bi,2,none⟩=some (.int .i64 x.r.prev)/\w'.cell? ⟨bi,3,none⟩=some (.int .i64 x.r.next)/\w'.cell? ⟨bi,4,none⟩=some (.int .u8 x.r.kind)/\w'.cell? ⟨bi,5,none⟩=some (.int .i64 x.r.page)/\w'.cell? ⟨bi,6,none⟩=some (.slice (some ⟨g0,0,none⟩) x.r.key.length d0)/\w'.cell? ⟨bi,7,none⟩=some (.slice (some ⟨g1,0,none⟩) x.r.old.length d1)/\w'.cell? ⟨bi,8,none⟩=some (.slice (some ⟨g2,0,none⟩) x.r.new.length d2)/\w'.cell? ⟨bi,9,none⟩=some (.slice (some ⟨g3,0,none⟩) x.r.dirty.length d3)/\w'.cell? ⟨bi,10,none⟩=some (.slice (some ⟨g4,0,none⟩) x.r.opn.length d4)/\w'.cell? ⟨gb,2,none⟩=some (.pointer (some ⟨p,0,none⟩))) (first|go_keep|exact⟨by assumption,by assumption,by assumption,by assumption,by assumption,by assumption,by assumption,by assumption,by assumption,by assumption,by assumption,by assumption⟩) (first|(go_at_call 12;(with_reducible refine HP.out.mono ?_);rintro e w4 ⟨s4,rfl,hd4,hx4,hn4,hb4,e41,e42,e43,e44⟩;obtain⟨j0,j1,j2,j3,j4⟩:=hd4.cells;obtain⟨z0,z1,z2,z3,z4,z5,z6,z7,z8,z9,z10⟩:=ζ hn4.blk;obtain⟨c0,c1,c2,c3,c4,c5,c6,c7,c8,c9,c10⟩:=ζ hx4.blk;have HKp:=φ (hd4.kept_in hx4 hn4);have HB4:Hid (Below base w w4):=φ (HB3.out.trans (Below.trans ((Below.refl _ w3).drew.mono HD3.out.bs) hb4));have HE4:=φ (And.intro e41 (And.intro e42 (And.intro e43 e44)));clear hd4 hx4 hn4 hb4 e41 e42 e43 e44));clear k0 k1 k2 k3 k4 y0 y1 y2 y3 y4 y5 y6 y7 y8 y9 y10 HP HD3 HX3 HN3 HB3;unfold recV at HKp;go_upto_region 7 with (go_at_call 126;(with_reducible refine HKp.out.mono ?_);rintro e w5 ⟨rfl,hd5,hx5,hn5,hb5⟩;obtain⟨q0,q1,q2,q3,q4,q5,q6,q7,q8,q9,q10⟩:=ζ hn5.blk;have HOv:=φ (hd5.over_in hx5 hn5 HXo.out.1 HXo.out.2.1 HXo.out.2.2);have HB5:Hid (Below base w w5):=φ (HB4.out.trans hb5);clear hd5 hx5 hn5 hb5);clear j0 j1 j2 j3 j4 z0 z1 z2 z3 z4 z5 z6 z7 z8 z9 z10 c0 c1 c2 c3 c4 c5 c6 c7 c8 c9 c10 HKp HB4;unfold recV at HOv;go_upto_region 8 with (go_at_call 127;(with_reducible refine HOv.out.mono ?_);rintro e w6 ⟨rfl,hd6,hx6,hb6⟩;obtain⟨j0,j1,j2,j3,j4⟩:=hd6.cells;obtain⟨c0,c1,c2,c3,c4,c5,c6,c7,c8,c9,c10⟩:=ζ hx6.blk;have HB6:Hid (Below base w w6):=φ (HB5.out.trans hb6);have HD6:=φ hd6;have HX6:=φ hx6;clear hd6 hx6 hb6);clear q0 q1 q2 q3 q4 q5 q6 q7 q8 q9 q10 HOv HB5 HXo;have b6:((x.r.kind:Int) == 6)=true:=by have:=H6.out;simp;omega
 have b1:((x.r.kind:Int) != 1)=true:=by have:=H6.out;simp;omega
 have b2:((x.r.kind:Int) != 2)=true:=by have:=H6.out;simp;omega
 obtain⟨en,hen⟩:∃ en,en=s4.L.end_:=⟨_,rfl⟩
 have HEe:Hid (en=s.L.end_):=φ (hen.trans HE4.out.2.2.1.end_);have hEn:∀ q,Calls Tryz.prog 47 #[.pointer (some ⟨l,0,none⟩)] (w6.drewN q) fun e w'=>e=.returned (.int .i64 en)/\∃ k,w'=w6.drewN k:=fun q=>by rw[hen];exact ((HD6.out.drewN q).rig.end_).mono fun _ _ h=>⟨h.1,_,h.2.trans (World.drewN_drewN w6 q 1)⟩
 clear hen;by_cases a1:x.r.lsn<1
 ·have t1:decide (x.r.lsn<1)=true:=decide_eq_true a1;obtain⟨f1,f2,f3,f4⟩:=doF_arg (r:=x.r) (L:=s.L) (n:=n) (c:=s.c) (V:=s.V) (.inr (.inl a1));rw[f3,f4] at HE4;rw[f1,f2];clear f1 f2 f3 f4;go_big_quiet ((go_at_call 47;exact (hEn _).mono fun _ _ h=>h));go_wp2_with (fail);go_ret;exact DoesG.mk HD6.out (by omega) HL.out HE4.out.1 (HE4.out.2.1.trans HV.out) rfl HE4.out.2.2.1 HE4.out.2.2.2 HB6.out _
 have t1:decide (x.r.lsn<1)=false:=decide_eq_false a1;by_cases a2:en<=x.r.lsn
 ·have t2:decide (x.r.lsn ≥ en)=true:=decide_eq_true a2;obtain⟨f1,f2,f3,f4⟩:=doF_arg (r:=x.r) (L:=s.L) (n:=n) (c:=s.c) (V:=s.V) (.inr (.inr (by have:=HEe.out;omega)));rw[f3,f4] at HE4;rw[f1,f2];clear f1 f2 f3 f4;go_big_quiet ((go_at_call 47;exact (hEn _).mono fun _ _ h=>h));go_wp2_with (fail);go_ret;exact DoesG.mk HD6.out (by omega) HL.out HE4.out.1 (HE4.out.2.1.trans HV.out) rfl HE4.out.2.2.1 HE4.out.2.2.2 HB6.out _
 have t2:decide (x.r.lsn ≥ en)=false:=decide_eq_false a2;have HA:Hid (¬ argBad x.r s.L):=φ (by have:=H6.out;have:=HEe.out;rintro (h|h|h)<;>omega);go_big_quiet ((go_at_call 47;exact (hEn _).mono fun _ _ h=>h));go_upto_region 10 with (fail);generalize hW7:World.drewN w6 _=w7;have hd7:DS base w7 gb mb n (K+20000) d l p s4 m:=by rw[<- hW7];exact HD6.out.drewN _
 have hx7:BxR w7 gb mb n s4 m rb x:=by rw[<- hW7];exact HX6.out.drewN _
 have HB7:Hid (Below base w w7):=φ (by rw[<- hW7];exact δ HB6.out _);have HLs:Hid (1<=x.r.lsn):=φ (by omega);clear a1 a2 hW7 hEn HB6 t1 t2 j0 j1 j2 j3 j4 c0 c1 c2 c3 c4 c5 c6 c7 c8 c9 c10;obtain⟨j0,j1,j2,j3,j4⟩:=hd7.cells;obtain⟨c0,c1,c2,c3,c4,c5,c6,c7,c8,c9,c10⟩:=ζ hx7.blk;have HD7:=φ hd7;have HX7:=φ hx7;clear hd7 hx7 HD6 HX6;by_cases a1:x.r.page<0
 ·have t1:decide (x.r.page<0)=true:=decide_eq_true a1;obtain⟨f1,f2,f3,f4⟩:=doF_page (r:=x.r) (L:=s.L) (n:=n) (c:=s.c) (V:=s.V) HA.out (.inl (by omega));rw[f3,f4] at HE4;rw[f1,f2];clear f1 f2 f3 f4;go_wp2_with (fail);go_ret;exact DoesG.mk0 HD7.out (by omega) HL.out HE4.out.1 (HE4.out.2.1.trans HV.out) rfl HE4.out.2.2.1 HE4.out.2.2.2 HB7.out
 have t1:decide (x.r.page<0)=false:=decide_eq_false a1;by_cases a2:(n:Int)<=x.r.page
 ·have t2:decide (x.r.page ≥ (n:Int))=true:=decide_eq_true a2;obtain⟨f1,f2,f3,f4⟩:=doF_page (r:=x.r) (L:=s.L) (n:=n) (c:=s.c) (V:=s.V) HA.out (.inl (by omega));rw[f3,f4] at HE4;rw[f1,f2];clear f1 f2 f3 f4;go_wp2_with (fail);go_ret;exact DoesG.mk0 HD7.out (by omega) HL.out HE4.out.1 (HE4.out.2.1.trans HV.out) rfl HE4.out.2.2.1 HE4.out.2.2.2 HB7.out
 have t2:decide (x.r.page ≥ (n:Int))=false:=decide_eq_false a2;by_cases a3:x.r.next<0
 ·have t3:decide (x.r.next<0)=true:=decide_eq_true a3;obtain⟨f1,f2,f3,f4⟩:=doF_page (r:=x.r) (L:=s.L) (n:=n) (c:=s.c) (V:=s.V) HA.out (.inr ⟨H6.out.1,by omega⟩);rw[f3,f4] at HE4;rw[f1,f2];clear f1 f2 f3 f4;go_wp2_with (fail);go_ret;exact DoesG.mk0 HD7.out (by omega) HL.out HE4.out.1 (HE4.out.2.1.trans HV.out) rfl HE4.out.2.2.1 HE4.out.2.2.2 HB7.out
 have t3:decide (x.r.next<0)=false:=decide_eq_false a3;by_cases a4:(n:Int)<=x.r.next
 ·have t4:decide (x.r.next ≥ (n:Int))=true:=decide_eq_true a4;obtain⟨f1,f2,f3,f4⟩:=doF_page (r:=x.r) (L:=s.L) (n:=n) (c:=s.c) (V:=s.V) HA.out (.inr ⟨H6.out.1,by omega⟩);rw[f3,f4] at HE4;rw[f1,f2];clear f1 f2 f3 f4;go_wp2_with (fail);go_ret;exact DoesG.mk0 HD7.out (by omega) HL.out HE4.out.1 (HE4.out.2.1.trans HV.out) rfl HE4.out.2.2.1 HE4.out.2.2.2 HB7.out
 have t4:decide (x.r.next ≥ (n:Int))=false:=decide_eq_false a4;have HPg:Hid (¬ pageBad x.r n):=φ (by rintro (h|h)<;>omega);obtain⟨pi,hpi⟩:∃ k:Nat,(k:Int)=x.r.page:=⟨x.r.page.toNat,by omega⟩
 have HPi:Hid ((pi:Int)=x.r.page/\pi<n):=φ ⟨hpi,by omega⟩;obtain⟨ni,hni⟩:∃ k:Nat,(k:Int)=x.r.next:=⟨x.r.next.toNat,by omega⟩
 have HNi:Hid ((ni:Int)=x.r.next/\ni<n):=φ ⟨hni,by omega⟩;obtain⟨y,z,cf,hy,hy0,hz0,hc1,hz,hz',f1,f2,f3,f4⟩:=doF_link (r:=x.r) (L:=s.L) (n:=n) (c:=s.c) (V:=s.V) HA.out HPg.out H6.out.1;rw[f3,f4] at HE4;rw[f1,f2];clear f1 f2 f3 f4;have HLn1:Hid (LastV (addV m.V x.r.page y) cf n):=φ (by rw[hc1,hy];exact HL.out.add x.r.lsn (recAct x.r x.r.page) ⟨by omega,by omega⟩);have HLn:Hid (LastV (addV (addV m.V x.r.page y) x.r.next z) (updI cf x.r.next z.2.2) n):=φ (by rw[hz];exact HLn1.out.add x.r.lsn actNew ⟨by omega,by omega⟩);have hz1:z.1=false:=by
  rw[hz,hc1,H6.out.2];exact link_same (HPk.out _ (by omega) (by omega)) HLs.out HX7.out.ri.wf.lsn.2 H6.out.1 hy
 have bn:(x.r.next != x.r.page)=false:=by have:=H6.out.2;simp[this]
 clear hpi hni hz hz' hc1;go_upto_region 12 with (fail);have HP:=φ (HD7.out.drew.now HL.out (by have:=HK.out;omega) (i:=x.r.page) ⟨by omega,by omega⟩);go_region_held3 (fun w'=>w'.cell? ⟨rb,0,none⟩=some (.int .i64 x.r.lsn)/\w'.cell? ⟨rb,1,none⟩=some (.int .i64 x.r.work)/\w'.cell? ⟨rb,2,none⟩=some (.int .i64 x.r.prev)/\w'.cell? ⟨rb,3,none⟩=some (.int .i64 x.r.next)/\w'.cell? ⟨rb,4,none⟩=some (.int .u8 x.r.kind)/\w'.cell? ⟨rb,5,none⟩=some (.int .i64 x.r.page)/\w'.cell? ⟨rb,6,none⟩=some (.slice x.ka x.r.key.length x.kc)/\w'.cell? ⟨rb,7,none⟩=some (.slice x.oa x.r.old.length x.oc)/\w'.cell? ⟨rb,8,none⟩=some (.slice x.na x.r.new.length x.nc)/\w'.cell? ⟨rb,9,none⟩=some (.slice x.da x.r.dirty.length x.dc)/\w'.cell? ⟨rb,10,none⟩=some (.slice x.pa x.r.opn.length x.pc)) (first|go_keep|exact⟨by assumption,by assumption,by assumption,by assumption,by assumption,by assumption,by assumption,by assumption,by assumption,by assumption,by assumption⟩) (first|(go_at_call 33;(with_reducible refine HP.out.mono ?_);rintro e w8n ⟨⟨na,nc,rfl,hrn⟩,qn,rfl⟩;obtain⟨r0,r1,r2,r3,r4,r5,r6,r7,r8,r9,r10⟩:=ζ (HX7.out.drewN (1+qn)).blk;have HTu:=φ ((HD7.out.drewN (1+qn)).turned (HX7.out.drewN (1+qn)) na nc _ (hrn.below (by rw[<- World.drewN_drew];exact δ (Below.refl _ _) qn)) x.r.page);unfold recV at HTu;clear hrn)|(go_at_call 128;(with_reducible refine HTu.out.mono ?_);rintro e w8 ⟨va,vcap,rfl,hd8,hx8,hb8,hv8⟩;obtain⟨i0,i1,i2,i3,i4⟩:=hd8.cells;obtain⟨h0,h1,h2,h3,h4,h5,h6,h7,h8,h9,h10⟩:=ζ hx8.blk;have HD8:=φ hd8;have HX8:=φ hx8;have HB8:Hid (Below base w w8):=φ ((δ HB7.out (1+qn)).trans (hb8.mono HD7.out.bs));have HVr8:=φ hv8;clear hd8 hx8 hb8 hv8));rw[<- hy] at *;clear hy HP HTu r0 r1 r2 r3 r4 r5 r6 r7 r8 r9 r10 j0 j1 j2 j3 j4 c0 c1 c2 c3 c4 c5 c6 c7 c8 c9 c10 t1 t2 t3 t4 a1 a2 a3 a4 HD7 HX7 HB7;obtain⟨yd,ye,yb⟩:=y;obtain⟨zd,ze,zb⟩:=z;dsimp only at *;subst hy0;subst hz0;subst hz1
 cases yd with
 | false =>
  go_wp2_with (fail);go_ret;exact DoesG.mk0 HD8.out (by omega) HLn.out HE4.out.1 (HE4.out.2.1.trans (by rw[HV.out])) (by rw[addV_not rfl,addV_not rfl]) HE4.out.2.2.1 HE4.out.2.2.2 HB8.out
 | true =>
  obtain⟨vg,vc,pg,pc,evs,-,-,-,cvg,hsl,hle,hmx,hown,hlK,hal⟩:=HD8.out.row (i:=pi) HPi.out.2 (lastV_pos HL.out (by omega) (by have:=HPi.out;omega));have HVs:=φ evs;rw[evs] at i3;clear evs;rw[<- HPi.out.1] at h5;obtain⟨len,hlen⟩:∃ z,z=(m.A pi).length:=⟨_,rfl⟩
  rw[<- hlen] at cvg hsl hle hown hlK;have HSl:=φ hsl;have HLen:=φ hlen;have HLk:Hid (len<=100000000):=φ (by have:=HK.out;omega);have hi5:=HPi.out.2;have d0:w8.drew.cell? ⟨mb,0,none⟩=some (.slice (some ⟨vg,0,none⟩) n vc):=i3;have d1:w8.drew.cell? ⟨vg,pi,none⟩=some (.slice (some ⟨pg,0,none⟩) len pc):=cvg;have d2:w8.drew.cell? ⟨rb,5,none⟩=some (.int .i64 (pi:Int)):=h5;have HOA:Hid (verE.Own 0 (w8.drew.alloc (.cells #[.slice va 512 vcap] 74)) (.slice (some ⟨pg,0,none⟩) len pc) (m.A pi)):=φ ((Ek.Own.drew hown).below (below_allocL' _ _));have hrvg:=HD8.out.vg_ne HX8.out HVs.out;clear hsl hlen hown hlK hal;go_upto_region 16 with (fail);have hSb:PushS mb rb 5 vg pi (.slice (some ⟨vg,0,none⟩) n vc) (.slice (some ⟨pg,0,none⟩) len pc) (.int .i64 (pi:Int)) w8.drew:=⟨d0,d1,d2⟩
  have hSa:=hSb.alloc (.cells #[.slice va 512 vcap] 74);refine AnyL.start 19 (PushS mb rb 5 vg pi (.slice (some ⟨vg,0,none⟩) n vc) (.slice (some ⟨pg,0,none⟩) len pc) (.int .i64 (pi:Int))) (by kernel_rfl) ?_;refine AnyL.tk (i:=0) (v:=?tv116_0) rfl hSb ?ty116_0 ?tr116_0
  case ty116_0 =>
   intro w' hS';obtain⟨q0,q1,q2⟩:=hS'
   (go_simp<;>with_reducible rfl)
  try simp only[Act.put,List.setIfInBounds_toArray]
  refine AnyL.tk (i:=1) (v:=?tv116_1) rfl hSb ?ty116_1 ?tr116_1
  case ty116_1 =>
   intro w' hS';obtain⟨q0,q1,q2⟩:=hS'
   (go_simp<;>with_reducible rfl)
  try simp only[Act.put]
  refine AnyL.tk (i:=2) (v:=?tv116_2) rfl hSb ?ty116_2 ?tr116_2
  case ty116_2 =>
   intro w' hS';obtain⟨q0,q1,q2⟩:=hS'
   (go_simp<;>with_reducible rfl)
  try simp only[Act.put]
  refine AnyL.tk (i:=3) (v:=?tv116_3) rfl hSb ?ty116_3 ?tr116_3
  case ty116_3 =>
   intro w' hS';obtain⟨q0,q1,q2⟩:=hS'
   (go_simp<;>with_reducible rfl)
  try simp only[Act.put]
  refine AnyL.tk (i:=4) (v:=?tv116_4) rfl hSb ?ty116_4 ?tr116_4
  case ty116_4 =>
   intro w' hS';obtain⟨q0,q1,q2⟩:=hS'
   (go_simp<;>with_reducible rfl)
  try simp only[Act.put]
  refine AnyL.tk (i:=5) (v:=?tv116_5) rfl hSb ?ty116_5 ?tr116_5
  case ty116_5 =>
   intro w' hS';obtain⟨q0,q1,q2⟩:=hS'
   (go_simp<;>with_reducible rfl)
  try simp only[Act.put]
  refine AnyL.tk (i:=6) (v:=?tv116_6) rfl hSb ?ty116_6 ?tr116_6
  case ty116_6 =>
   intro w' hS';obtain⟨q0,q1,q2⟩:=hS'
   (go_simp<;>with_reducible rfl)
  try simp only[Act.put]
  refine AnyL.tk (i:=7) (v:=?tv116_7) rfl hSb ?ty116_7 ?tr116_7
  case ty116_7 =>
   intro w' hS';obtain⟨q0,q1,q2⟩:=hS'
   (go_simp<;>with_reducible rfl)
  try simp only[Act.put]
  refine AnyL.tk (i:=8) (v:=?tv116_8) rfl hSb ?ty116_8 ?tr116_8
  case ty116_8 =>
   intro w' hS';obtain⟨q0,q1,q2⟩:=hS'
   (go_simp<;>with_reducible rfl)
  try simp only[Act.put]
  refine AnyL.tk (i:=9) (v:=?tv116_9) rfl hSb ?ty116_9 ?tr116_9
  case ty116_9 =>
   intro w' hS';obtain⟨q0,q1,q2⟩:=hS'
   (go_simp<;>with_reducible rfl)
  try simp only[Act.put]
  refine AnyL.tk (i:=10) (v:=?tv116_10) rfl hSb ?ty116_10 ?tr116_10
  case ty116_10 =>
   intro w' hS';obtain⟨q0,q1,q2⟩:=hS'
   (go_simp<;>with_reducible rfl)
  try simp only[Act.put]
  refine AnyL.tk (i:=11) (v:=?tv116_11) rfl hSb ?ty116_11 ?tr116_11
  case ty116_11 =>
   intro w' hS';obtain⟨q0,q1,q2⟩:=hS'
   (go_simp<;>with_reducible rfl)
  try simp only[Act.put]
  refine AnyL.tk (i:=12) (v:=?tv116_12) rfl hSb ?ty116_12 ?tr116_12
  case ty116_12 =>
   intro w' hS';obtain⟨q0,q1,q2⟩:=hS'
   (go_simp<;>with_reducible rfl)
  try simp only[Act.put]
  refine AnyL.tk (i:=13) (v:=?tv116_13) rfl hSb ?ty116_13 ?tr116_13
  case ty116_13 =>
   intro w' hS';obtain⟨q0,q1,q2⟩:=hS'
   (go_simp<;>with_reducible rfl)
  try simp only[Act.put]
  refine AnyL.tk (i:=14) (v:=?tv116_14) rfl hSb ?ty116_14 ?tr116_14
  case ty116_14 =>
   intro w' hS';obtain⟨q0,q1,q2⟩:=hS'
   (go_simp<;>with_reducible rfl)
  try simp only[Act.put]
  refine AnyL.tk (i:=15) (v:=?tv116_15) rfl hSb ?ty116_15 ?tr116_15
  case ty116_15 =>
   intro w' hS';obtain⟨q0,q1,q2⟩:=hS'
   (go_simp<;>with_reducible rfl)
  try simp only[Act.put]
  refine AnyL.one (i:=16) (by kernel_rfl) rfl (fun K hK=>?_);go_simp;refine hK.out _ _ (fun _=>hSa) (fun _=>?_);clear hK K;refine AnyL.one (i:=17) (by kernel_rfl) rfl (fun K hK=>?_);refine Ek.step_append1 verE rfl _ _ (by rfl) 0 (.slice (some ⟨pg,0,none⟩) len pc) (m.A pi) (va,vcap) (len+1) (by rw[<- HLen.out]) (by rfl) HOA.out _ 1 (by rfl) (Ek.one_lit (E:=verE) _ _ _ _ rfl) (Nat.zero_le _) (by have:=HLk.out;have:=HLen.out;omega) ?_;intro g9 c9 w9 hown9 hg9 hgg9;obtain⟨fz,hfz⟩:=HD8.out.push_cell HVs.out HPi.out.2 HSl.out hg9;obtain⟨v0,v1⟩:=HD8.out.push_cells HX8.out HPi.out.2 HSl.out hg9;rw[HVs.out] at v0;have v5:=v1 5 _ d2;have hSc:PushS mb rb 5 vg pi (.slice (some ⟨vg,0,none⟩) n vc) (.slice (some ⟨pg,0,none⟩) len pc) (.int .i64 (pi:Int)) w9:=⟨v0,hfz,v5⟩
  have O9:=φ hown9;have G9:=φ hg9;have GG9:=φ hgg9;clear v1 hown9 hg9 hgg9;refine hK.out _ _ (fun _=>hSc) (fun _=>?_);clear hK K
  try simp only[Act.put,List.setIfInBounds_toArray]
  refine AnyL.tk (i:=18) (v:=?tv116_18) rfl hSc ?ty116_18 ?tr116_18
  case ty116_18 =>
   intro w' hS';obtain⟨q0,q1,q2⟩:=hS'
   (go_simp<;>with_reducible rfl)
  try simp only[Act.put]
  refine AnyL.one (i:=19) (by kernel_rfl) rfl (fun K hK=>?_);go_simp;refine hK.out _ _ (fun h=>absurd rfl h) (fun _=>?_);clear hK K;refine AnyL.done (by kernel_rfl) ?_;generalize hw10:World.setCell w9 _ _=w10;obtain⟨m10,hd10,hx10,hV10,hb10⟩:=HD8.out.push HX8.out (HVr8.out rfl) HVs.out HPi.out.2 (by rw[<- HLen.out];exact HSl.out) (by rw[<- HLen.out];exact O9.out) G9.out GG9.out;rw[<- HLen.out,hw10] at hd10 hx10 hb10;have HB10:Hid (Below base w w10):=φ (HB8.out.trans hb10);have HD10:=φ hd10;have HX10:=φ hx10;have HV10:=φ hV10;clear hw10 hSb hSa hSc fz hfz v0 v5 d0 d1 d2 cvg hle hmx hi5 O9 G9 GG9 HOA HSl HLen HLk hV10 hb10;obtain⟨j0,j1,j2,j3,j4⟩:=HD10.out.cells;obtain⟨c0,c1',c2,c3,c4,c5,c6,c7,c8,c9',c10⟩:=ζ HX10.out.blk;go_upto_region 22 with (fail);exact does_end base gb mb n _ d l p s4 m10 rb x w10 _ HD10.out HX10.out (by have:=HK.out;omega) (fun m' w' hd' hv' hb'=>DoesG.mk0 hd' (by omega) HLn.out HE4.out.1 (HE4.out.2.1.trans (by rw[HV.out])) (by rw[hv',HV10.out,addV_not rfl,addV_did rfl,HPi.out.1]) HE4.out.2.2.1 HE4.out.2.2.2 (HB10.out.trans hb')) _ _ _ _ _ _ _ _ _ _ _ _ _ _ _ _ _ _ _ _ _ _ _ _ _ _ _ _ _ _ _ _ _ _ _ _ _ _ _ _ _ _ _ _ _ _ _ _ _ _ _ _ _ _ _ _ _ _ _ _ _ _ _ _ _ _ _ _ _ _ _ _ _ _ _ _ _ _ _ _ _ _ _ _ _ _ _ _ _ _ _ _ _ _ _ _ _ _ _ _ _ _ _ _ _ _ _ _ _ _ _ _ _ _ _ _ _ _ _ _ _ _ _ _ _ _ _ _ _ _ _ _ _ _ _ _ _ _ _ _ _ _ _ _ _ _ _ _ _ _ _ _ _ _ _ _ _ _ _ _ _ _ _ _ _ _ _ _ _ _ _ _ _ _ _ _ _ _ _ _ _ _ _ _ _ _ _ _ _ _ _ _ _ _ _ _ (by assumption) (by assumption)
end Go.Proofs.YtohlkkannjifmaaGreatDoor
