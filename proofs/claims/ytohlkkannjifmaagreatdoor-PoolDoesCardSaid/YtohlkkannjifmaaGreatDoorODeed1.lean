import Derived.Test.YtohlkkannjifmaaGreatDoorODeedC
import Derived.Test.YtohlkkannjifmaaGreatDoorOBegM
import Derived.Deep.DeepCutAuto
namespace Go.Proofs.YtohlkkannjifmaaGreatDoor
set_option maxHeartbeats 8000000
set_option maxRecDepth 100000
open Go.RowKit Go.Shelf
theorem deed_do (base gb mb n K d l p:Nat) (s:StP) (m:MdP) (x:DeedV) (w:World) (h:DS base w gb mb n K d l p s m) (hl:LastV m.V s.c n) (hV:s.V=m.V) (hx:DeedI w.heap.size w x) (l1:x.r.key.length+x.r.old.length+x.r.new.length<=2000) (l2:x.r.dirty.length+x.r.opn.length<=300) (hK:K<=80000000) (hk:pickF x.kind 8=1∨pickF x.kind 8=2∨pickF x.kind 8=3∨pickF x.kind 8=4) :
  Calls Tryz.prog 29 #[.pointer (some ⟨gb,0,none⟩),.pointer (some ⟨mb,0,none⟩),deedVal x] w (DeedG base gb mb n K d l p s w):=by
 have hn1:=h.n1;obtain⟨vg,vc,hvs,hv1,hv2,-,-⟩:=h.mod.at_ (i:=0) (by omega);have HVs:=φ hvs;obtain⟨w1,hw1⟩:∃ w1,w1=w.alloc (.cells #[.int .i64 x.kind,.int .i64 x.page,.int .i64 x.r.lsn,.int .i64 x.r.work,.int .i64 x.r.prev,.int .i64 x.r.next,.int .u8 x.r.kind,.int .i64 x.r.page,.slice x.ka x.r.key.length x.kc,.slice x.oa x.r.old.length x.oc,.slice x.na x.r.new.length x.nc,.slice x.da x.r.dirty.length x.dc,.slice x.pa x.r.opn.length x.pc,.int .i64 x.n,.bool x.odd] 35):=⟨_,rfl⟩
 obtain⟨rb,hrb⟩:∃ rb,rb=w.heap.size:=⟨_,rfl⟩
 have hB1:Below w.heap.size w w1:=by rw[hw1];exact (Below.refl _ w).alloc (Nat.le_refl _) _
 have hd1:=h.below hB1;have hb1:w1.heap[rb]? = some (.cells #[.int .i64 x.kind,.int .i64 x.page,.int .i64 x.r.lsn,.int .i64 x.r.work,.int .i64 x.r.prev,.int .i64 x.r.next,.int .u8 x.r.kind,.int .i64 x.r.page,.slice x.ka x.r.key.length x.kc,.slice x.oa x.r.old.length x.oc,.slice x.na x.r.new.length x.nc,.slice x.da x.r.dirty.length x.dc,.slice x.pa x.r.opn.length x.pc,.int .i64 x.n,.bool x.odd] 35 (0,0)):=by rw[hw1,hrb];exact heap_alloc_new w _
 have HB1:Hid (Below base w w1):=φ (hB1.mono h.bs);have c0:w1.cell? ⟨rb,0,none⟩=some (.int .i64 x.kind):=cell_of_row _ _ 0 _ _ _ hb1;have c1:w1.cell? ⟨rb,1,none⟩=some (.int .i64 x.page):=cell_of_row _ _ 1 _ _ _ hb1;obtain⟨k0,k1,k2,k3,k4⟩:=hd1.cells;rw[hvs] at k3;have HPk:Hid (∀ W,Calls Tryz.prog 9 #[.int .i64 x.kind,.int .i64 8] W fun e w'=>e=.returned (.int .i64 (pickF x.kind 8))/\W=w'):=φ fun W=>pick_is x.kind 8 W hx.kind (by omega)
 obtain⟨kk,hkk⟩:∃ kk,kk=pickF x.kind 8:=⟨_,rfl⟩
 rw[<- hkk] at hk HPk;clear hkk;have HKk:=φ hk;have t0:(kk == 0)=false:=by simp;omega
 have HXp:=φ hx.page;have HBk:=φ hb1;have HXi:=φ hx;have HLs:=φ (And.intro l1 l2);have HRb:Hid (¬ s.S rb):=φ (fun hS=>by have:=h.lt (.inl hS);omega);have HW1:=φ hB1;have HL:=φ hl;have HV:=φ hV;have HK:=φ hK;have HD1:=φ hd1;have Hw1:=φ hw1;have Hrb:=φ hrb;clear l1 l2;clear h hl hV hx hK hk hw1 hrb hB1 hd1 hb1 hvs;unfold deedVal;go_enter Tryz.func29,Tryz.ntmps29;go_upto_region 1 with (fail);rw[<- Hw1.out,<- Hrb.out];obtain⟨p0,t1⟩:∃ p0,decide (x.page ≥ 0)=p0:=⟨_,rfl⟩
 obtain⟨dd,t2⟩:∃ dd,decide (x.page<(n:Int))=dd:=⟨_,rfl⟩
 cases p0
 all_goals (
  go_big_quiet (fail);go_upto_region 2 with (fail);generalize hW:World.drewN w1 _=w2;have hd2:DS base w2 gb mb n K d l p s m:=by rw[<- hW];exact HD1.out.drewN _
  have HB2:Hid (Below base w w2):=φ (by rw[<- hW];exact δ HB1.out _);have hw2:Below w.heap.size w w2:=by rw[<- hW];exact δ HW1.out _
  have hb2:w2.heap[rb]? = some (.cells #[.int .i64 x.kind,.int .i64 x.page,.int .i64 x.r.lsn,.int .i64 x.r.work,.int .i64 x.r.prev,.int .i64 x.r.next,.int .u8 x.r.kind,.int .i64 x.r.page,.slice x.ka x.r.key.length x.kc,.slice x.oa x.r.old.length x.oc,.slice x.na x.r.new.length x.nc,.slice x.da x.r.dirty.length x.dc,.slice x.pa x.r.opn.length x.pc,.int .i64 x.n,.bool x.odd] 35 (0,0)):=by rw[<- hW];exact HBk.out
  clear hW k0 k1 k2 k3 k4 c0 c1;obtain⟨k0,k1,k2,k3,k4⟩:=hd2.cells;have HD2:=φ hd2;have e0:w2.cell? ⟨rb,0,none⟩=some (.int .i64 x.kind):=cell_of_row _ _ 0 _ _ _ hb2;have e1:w2.cell? ⟨rb,1,none⟩=some (.int .i64 x.page):=cell_of_row _ _ 1 _ _ _ hb2;have e2:w2.cell? ⟨rb,2,none⟩=some (.int .i64 x.r.lsn):=cell_of_row _ _ 2 _ _ _ hb2;have e3:w2.cell? ⟨rb,3,none⟩=some (.int .i64 x.r.work):=cell_of_row _ _ 3 _ _ _ hb2;have e4:w2.cell? ⟨rb,4,none⟩=some (.int .i64 x.r.prev):=cell_of_row _ _ 4 _ _ _ hb2;have e5:w2.cell? ⟨rb,5,none⟩=some (.int .i64 x.r.next):=cell_of_row _ _ 5 _ _ _ hb2;have e6:w2.cell? ⟨rb,6,none⟩=some (.int .u8 x.r.kind):=cell_of_row _ _ 6 _ _ _ hb2;have e7:w2.cell? ⟨rb,7,none⟩=some (.int .i64 x.r.page):=cell_of_row _ _ 7 _ _ _ hb2;have e8:w2.cell? ⟨rb,8,none⟩=some (.slice x.ka x.r.key.length x.kc):=cell_of_row _ _ 8 _ _ _ hb2;have e9:w2.cell? ⟨rb,9,none⟩=some (.slice x.oa x.r.old.length x.oc):=cell_of_row _ _ 9 _ _ _ hb2;have e10:w2.cell? ⟨rb,10,none⟩=some (.slice x.na x.r.new.length x.nc):=cell_of_row _ _ 10 _ _ _ hb2;have e11:w2.cell? ⟨rb,11,none⟩=some (.slice x.da x.r.dirty.length x.dc):=cell_of_row _ _ 11 _ _ _ hb2;have e12:w2.cell? ⟨rb,12,none⟩=some (.slice x.pa x.r.opn.length x.pc):=cell_of_row _ _ 12 _ _ _ hb2;have e13:w2.cell? ⟨rb,13,none⟩=some (.int .i64 x.n):=cell_of_row _ _ 13 _ _ _ hb2;have e14:w2.cell? ⟨rb,14,none⟩=some (.bool x.odd):=cell_of_row _ _ 14 _ _ _ hb2;have hri:=HXi.out.r.below hw2;have HRi:=φ (hri.mono hw2.size);have HCp:=φ (CopyRecord_any w.heap.size x.r x.ka x.oa x.na x.da x.pa x.kc x.oc x.nc x.dc x.pc w2 hri.k hri.o hri.n hri.d hri.p hw2.size (by have:=HLs.out;omega) (by have:=HLs.out;omega));unfold recV at HCp;have hkl:=hri.k.lm;have hol:=hri.o.lm;have hnl:=hri.n.lm;have hdl:=hri.dl;have hpl:=hri.pl;clear hd2 hb2 hw2 hri;go_upto_if 66 with (first
   | (go_at_call 9;(with_reducible refine (HPk.out _).mono ?_);rintro e w3 ⟨rfl,hw3⟩;subst hw3))
  go_cut [66,68,69,70] (fun s66 s68 s69 s70 wx=>s66=.bool true/\w2=wx)
  case first =>
   rcases HKk.out with rfl|rfl|rfl|rfl
   all_goals (
    go_wp2_with (fail);go_meet
    case rel=>exact⟨rfl,rfl⟩)
  case rest =>
   obtain⟨rfl,rfl⟩:=hcut;go_upto_region 13 with (first
    | (go_at_call 9;(with_reducible refine (HPk.out _).mono ?_);rintro e w3 ⟨rfl,hw3⟩;subst hw3)
    | (go_at_call 10;(with_reducible refine HCp.out.mono ?_);rintro e w3 ⟨⟨b0,q0,b1,q1,b2,q2,b3,q3,b4,q4,rfl,o0,o1,o2,o3,o4⟩,hb3⟩;have HZ:=φ (recz o0 o1 o2 o3 o4 HRi.out.d.fine HRi.out.p.fine HRi.out.wf HLs.out.1 HLs.out.2);have HB3:=φ hb3;clear o0 o1 o2 o3 o4 hb3))
   obtain⟨w4,hw4⟩:∃ z,z=w3.alloc (recObj x.r b0 b1 b2 b3 b4 q0 q1 q2 q3 q4):=⟨_,rfl⟩
   obtain⟨qb,hqb⟩:∃ z,z=w3.heap.size:=⟨_,rfl⟩
   have hB4:Below w2.heap.size w2 w4:=by rw[hw4];exact HB3.out.alloc HB3.out.size _
   have hbk4:w4.heap[qb]? = some (recObj x.r b0 b1 b2 b3 b4 q0 q1 q2 q3 q4):=by rw[hw4,hqb];exact heap_alloc_new w3 _
   have HR4:Hid (RecI w4.heap.size w4 x.r b0 b1 b2 b3 b4 q0 q1 q2 q3 q4):=φ (by rw[hw4];exact (HZ.out.1.below (below_allocL' w3 _)).mono (below_allocL' w3 _).size);have HO4:Hid (∀ a b o s',(a=b0∨a=b1∨a=b2∨a=b3∨a=b4)->a=some (⟨b,o,s'⟩:Addr)->¬ s.S b/\¬ m.T mb n b/\b<w4.heap.size):=φ (fun a b o s' ha e=>by
    have h1:=HZ.out.2 a b o s' ha e;have h2:w3.heap.size<=w4.heap.size:=(by rw[hw4];exact (below_allocL' w3 _).size);exact⟨fun hS=>by have:=HD2.out.lt (.inl hS);omega,fun hT=>by have:=HD2.out.lt (.inr (.inl ((m.b_iff mb n b).2 (.inl hT))));omega,by omega⟩)
   have HQl:Hid (∀ a b o s',(a=b0∨a=b1∨a=b2∨a=b3∨a=b4)->a=some (⟨b,o,s'⟩:Addr)->b<qb):=φ (fun a b o s' ha e=>by have h1:=HZ.out.2 a b o s' ha e;omega);have HD4:=φ (HD2.out.below hB4);have HB4:Hid (Below base w w4):=φ (HB2.out.trans (hB4.mono HD2.out.bs));have f14:w4.cell? ⟨rb,14,none⟩=some (.bool x.odd):=cell_on hB4 e14;have HB24:=φ hB4;have HQb:Hid (w2.heap.size<=qb):=φ (by rw[hqb];exact HB3.out.size);unfold recObj at hw4;rw[<- hw4,<- hqb];clear hw4 hqb hB4 HCp e0 e1 e2 e3 e4 e5 e6 e7 e8 e9 e10 e11 e12 e13 e14 k0 k1 k2 k3 k4
   cases hod:x.odd with
   | true =>
    rw[hod] at f14;have HDo:=φ (does_any base gb mb n K d l p s m ⟨x.r,b0,b1,b2,b3,b4,q0,q1,q2,q3,q4⟩ w4 HD4.out HL.out HV.out HR4.out HLs.out.1 HLs.out.2 HO4.out (by have:=HK.out;omega));unfold recV at HDo;obtain⟨g0,g1,g2,g3,g4,g5,g6,g7,g8,g9,g10⟩:=ζ hbk4;clear hbk4;go_wp2_with (go_at_call 77;(with_reducible refine HDo.out.mono ?_);rintro e w5 ⟨rfl,s5,m5,hd5,hl5,hv5,hc5,hm5,hb5⟩;have HG5:=φ (And.intro hd5 (And.intro hl5 (And.intro hv5 (And.intro hm5 hb5))));clear hd5 hl5 hv5 hc5 hm5 hb5);go_ret;exact⟨rfl,s5,m5,HG5.out.1.mono (by omega),HG5.out.2.1,HG5.out.2.2.1,HG5.out.2.2.2.1,HB4.out.trans HG5.out.2.2.2.2⟩
   | false =>
    rw[hod] at f14;go_upto_region 14 with (fail);obtain⟨g0,g1,g2,g3,g4,g5,g6,g7,g8,g9,g10⟩:=ζ hbk4;obtain⟨k0,k1,k2,k3,k4⟩:=HD4.out.cells;have hr':=HR4.out.below (Below.refl _ w4).drew;have hl':=HLs.out;have HAp:=φ (HD4.out.drew.append w4.drew.heap.size x.r b0 b1 b2 b3 b4 q0 q1 q2 q3 q4 ⟨hr'.k,hr'.o,hr'.n,dirtyE_pi hr'.d (by omega),openE_pi hr'.p (by omega),Nat.le_refl _,by omega,by omega,by omega,by omega,by omega⟩ hr'.fit (by have:=HK.out;omega));unfold recV at HAp;have HBk4:=φ hbk4;have HQS:Hid (¬ s.S qb):=φ (fun hS=>by have h1:=HD2.out.lt (.inl hS);have h2:=HQb.out;omega);clear hr' hl' hbk4;go_region_held3 (fun w'=>w'.cell? ⟨gb,1,none⟩=some (.pointer (some ⟨l,0,none⟩))/\w'.cell? ⟨qb,0,none⟩=some (.int .i64 x.r.lsn)/\w'.cell? ⟨qb,1,none⟩=some (.int .i64 x.r.work)/\w'.cell? ⟨qb,2,none⟩=some (.int .i64 x.r.prev)/\w'.cell? ⟨qb,3,none⟩=some (.int .i64 x.r.next)/\w'.cell? ⟨qb,4,none⟩=some (.int .u8 x.r.kind)/\w'.cell? ⟨qb,5,none⟩=some (.int .i64 x.r.page)/\w'.cell? ⟨qb,6,none⟩=some (.slice b0 x.r.key.length q0)/\w'.cell? ⟨qb,7,none⟩=some (.slice b1 x.r.old.length q1)/\w'.cell? ⟨qb,8,none⟩=some (.slice b2 x.r.new.length q2)/\w'.cell? ⟨qb,9,none⟩=some (.slice b3 x.r.dirty.length q3)/\w'.cell? ⟨qb,10,none⟩=some (.slice b4 x.r.opn.length q4)) (first|go_keep|exact⟨by assumption,by assumption,by assumption,by assumption,by assumption,by assumption,by assumption,by assumption,by assumption,by assumption,by assumption,by assumption⟩) (first|(go_at_call 11;(with_reducible refine HAp.out.mono ?_);rintro e w5 ⟨s5,rfl,hd5,e51,e52,e53,hm5,hb5⟩;have hbk5:w5.heap[qb]? = some (recObj x.r b0 b1 b2 b3 b4 q0 q1 q2 q3 q4):=(hm5.trn.block qb (ξ HBk4.out) HQS.out).trans HBk4.out;obtain⟨r0,r1,r2,r3,r4,r5,r6,r7,r8,r9,r10⟩:=ζ hbk5;obtain⟨i0,i1,i2,i3,i4⟩:=hd5.cells;have HBk5:=φ hbk5;have HD5:=φ hd5;have HE5:=φ (And.intro e51 (And.intro e52 e53));have HM5:=φ hm5;have HB5:Hid (Below base w w5):=φ (HB4.out.trans ((Below.refl _ w4).drew.trans hb5));clear hbk5 hd5 e51 e52 e53 hm5 hb5));go_upto_region 15 with (fail);have HEr:=append_err s.L x.r;have HNr:Hid (0<=(s.L.append x.r).1/\(s.L.append x.r).1<=9223372036854775807):=φ (by
     have hlo:=HD2.out.rig.well.lo;obtain⟨kk,hkk⟩:=id hlo;exact⟨append_lsn_ge hkk x.r,append_lsn_le hlo x.r⟩)
    generalize (s.L.append x.r).2.1=er at HEr ⊢;generalize (s.L.append x.r).1=nr at HNr ⊢;rcases HEr with hE|hE|hE
    ·subst hE;have z5:w5.frozen? ⟨qb,0,none⟩=false:=by
      have:=HBk5.out;unfold recObj at this;simp[World.frozen?,this]
     have HX1:=φ HQl.out;go_upto_region 18 with (fail);clear z5 r0 r1 r2 r3 r4 r5 r6 r7 r8 r9 r10 i0 i1 i2 i3 i4 g0 g1 g2 g3 g4 g5 g6 g7 g8 g9 g10 k0 k1 k2 k3 k4;generalize hw6:World.setCell _ _ _=w6;obtain⟨R2,hR2⟩:∃ R2:RecV,R2={ x.r with lsn:=nr }:=⟨_,rfl⟩
     have hbk6:w6.heap[qb]? = some (recObj R2 b0 b1 b2 b3 b4 q0 q1 q2 q3 q4):=(by rw[<- hw6,hR2];exact set_at HBk5.out 0 (.int .i64 nr));have hne6:∀ g,g≠qb->w6.heap[g]? = w5.heap[g]?:=fun g hg=>by rw[<- hw6];exact set_ne hg
     have hsz6:w6.heap.size=w5.heap.size:=(by rw[<- hw6];exact size_set _ _ _ _);have hq4:qb<w4.heap.size:=ξ HBk4.out;have hq2:=HQb.out;have h45:w4.heap.size<=w5.heap.size:=HM5.out.trn.size;have hbs:=HD2.out.bs;have hd6:DS base w6 gb mb n (K+1) d l p s5 m:=HD5.out.keep (fun g hg=>hne6 g (fun e=>by
      subst e;rcases hg with h1|h1
      ·rcases HM5.out.sub g h1 with h2|h2
       ·exact HQS.out h2
       ·have:w4.heap.size<=g:=h2;omega
      ·have:=HD2.out.lt (.inr h1);omega)) (by omega)
     have hB6:Below base w5 w6:=(by rw[<- hw6];exact (Below.refl _ w5).setCell (p:=⟨qb,0,none⟩) (by show base<=qb;omega) (.int .i64 nr));have HB6:Hid (Below base w w6):=φ (HB5.out.trans hB6);have hl4:=HR4.out.of_block (w':=w6) (fun a b o s' ha e=>by
      have h1:=HO4.out a b o s' ha e;have h2:=HX1.out a b o s' ha e;exact (hne6 b (by omega)).trans (HM5.out.trn.block b h1.2.2 h1.1))
     have hri6:RecI w6.heap.size w6 R2 b0 b1 b2 b3 b4 q0 q1 q2 q3 q4:=by
      rw[hR2];have hm:=hl4.mono (B':=w6.heap.size) (by omega);exact⟨hm.k,hm.o,hm.n,hm.d,hm.p,⟨⟨by show -9223372036854775808<=nr;have:=HNr.out;omega,HNr.out.2⟩,hm.wf.work,hm.wf.prev,hm.wf.next,hm.wf.page,hm.wf.kind⟩,hm.dl,hm.pl⟩
     have HL1:Hid (R2.key.length+R2.old.length+R2.new.length<=2000/\R2.dirty.length+R2.opn.length<=300):=φ (by rw[hR2];exact HLs.out);have HDo:=φ (does_any base gb mb n (K+1) d l p s5 m ⟨R2,b0,b1,b2,b3,b4,q0,q1,q2,q3,q4⟩ w6 hd6 (by rw[HE5.out.1];exact HL.out) (by rw[HE5.out.2.1];exact HV.out) hri6 HL1.out.1 HL1.out.2 (fun a b o s' ha e=>by
      have h1:=HO4.out a b o s' ha e;refine⟨fun hS=>?_,h1.2.1,by omega⟩;rcases HM5.out.sub b hS with h2|h2
      ·exact h1.1 h2
      ·have:w4.heap.size<=b:=h2;omega) (by have:=HK.out;omega))
     unfold recV at HDo;obtain⟨g0,g1,g2,g3,g4,g5,g6,g7,g8,g9,g10⟩:=ζ hbk6;clear hbk6 hne6 hsz6 hq4 hq2 h45 hbs hd6 hB6 hl4 hri6 hw6 hR2;go_wp2_with (go_at_call 77;(with_reducible refine HDo.out.mono ?_);rintro e w7 ⟨rfl,s7,m7,hd7,hl7,hv7,hc7,hm7,hb7⟩;have HG7:=φ (And.intro hd7 (And.intro hl7 (And.intro hv7 (And.intro hm7 hb7))));clear hd7 hl7 hv7 hc7 hm7 hb7);go_ret;exact⟨rfl,s7,m7,HG7.out.1.mono (by omega),HG7.out.2.1,HG7.out.2.2.1,HG7.out.2.2.2.1.trans (by rw[HE5.out.2.2]),HB6.out.trans HG7.out.2.2.2.2⟩
    ·subst hE;go_wp2_with (fail);go_ret;exact⟨rfl,s5,m,HD5.out.mono (by omega),by rw[HE5.out.1];exact HL.out,by rw[HE5.out.2.1];exact HV.out,by rw[HE5.out.2.2],HB5.out⟩
    ·subst hE;go_wp2_with (fail);go_ret;exact⟨rfl,s5,m,HD5.out.mono (by omega),by rw[HE5.out.1];exact HL.out,by rw[HE5.out.2.1];exact HV.out,by rw[HE5.out.2.2],HB5.out⟩)
end Go.Proofs.YtohlkkannjifmaaGreatDoor
