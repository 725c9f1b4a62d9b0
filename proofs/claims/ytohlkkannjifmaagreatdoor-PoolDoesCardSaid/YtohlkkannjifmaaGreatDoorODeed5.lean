import Derived.Test.YtohlkkannjifmaaGreatDoorODeedC
import Derived.Test.YtohlkkannjifmaaGreatDoorOBegM
import Derived.Deep.DeepCutAuto
namespace Go.Proofs.YtohlkkannjifmaaGreatDoor
set_option maxHeartbeats 8000000
set_option maxRecDepth 100000
open Go.RowKit Go.Shelf
theorem deed_again (base gb mb n K d l p:Nat) (s:StP) (m:MdP) (x:DeedV) (w:World) (h:DS base w gb mb n K d l p s m) (hl:LastV m.V s.c n) (hV:s.V=m.V) (hx:DeedI w.heap.size w x) (hK:K<=80000000) (hk:pickF x.kind 8=5) :
  Calls Tryz.prog 29 #[.pointer (some ⟨gb,0,none⟩),.pointer (some ⟨mb,0,none⟩),deedVal x] w (DeedG base gb mb n K d l p s w):=by
 have hn1:=h.n1;obtain⟨vg,vc,hvs,hv1,hv2,-,-⟩:=h.mod.at_ (i:=0) (by omega);have HVs:=φ hvs;obtain⟨w1,hw1⟩:∃ w1,w1=w.alloc (.cells #[.int .i64 x.kind,.int .i64 x.page,.int .i64 x.r.lsn,.int .i64 x.r.work,.int .i64 x.r.prev,.int .i64 x.r.next,.int .u8 x.r.kind,.int .i64 x.r.page,.slice x.ka x.r.key.length x.kc,.slice x.oa x.r.old.length x.oc,.slice x.na x.r.new.length x.nc,.slice x.da x.r.dirty.length x.dc,.slice x.pa x.r.opn.length x.pc,.int .i64 x.n,.bool x.odd] 35):=⟨_,rfl⟩
 obtain⟨rb,hrb⟩:∃ rb,rb=w.heap.size:=⟨_,rfl⟩
 have hB1:Below w.heap.size w w1:=by rw[hw1];exact (Below.refl _ w).alloc (Nat.le_refl _) _
 have hd1:=h.below hB1;have hb1:w1.heap[rb]? = some (.cells #[.int .i64 x.kind,.int .i64 x.page,.int .i64 x.r.lsn,.int .i64 x.r.work,.int .i64 x.r.prev,.int .i64 x.r.next,.int .u8 x.r.kind,.int .i64 x.r.page,.slice x.ka x.r.key.length x.kc,.slice x.oa x.r.old.length x.oc,.slice x.na x.r.new.length x.nc,.slice x.da x.r.dirty.length x.dc,.slice x.pa x.r.opn.length x.pc,.int .i64 x.n,.bool x.odd] 35 (0,0)):=by rw[hw1,hrb];exact heap_alloc_new w _
 have HB1:Hid (Below base w w1):=φ (hB1.mono h.bs);have c0:w1.cell? ⟨rb,0,none⟩=some (.int .i64 x.kind):=cell_of_row _ _ 0 _ _ _ hb1;have c1:w1.cell? ⟨rb,1,none⟩=some (.int .i64 x.page):=cell_of_row _ _ 1 _ _ _ hb1;obtain⟨k0,k1,k2,k3,k4⟩:=hd1.cells;rw[hvs] at k3;have HPk:Hid (∀ W,Calls Tryz.prog 9 #[.int .i64 x.kind,.int .i64 8] W fun e w'=>e=.returned (.int .i64 5)/\W=w'):=φ fun W=>by
  have:=pick_is x.kind 8 W hx.kind (by omega)
  rwa [hk] at this
 have HXp:=φ hx.page;have HBk:=φ hb1;have HXi:=φ hx;have HXn:=φ hx.n;have HRb:Hid (¬ s.S rb):=φ (fun hS=>by have:=h.lt (.inl hS);omega);have HW1:=φ hB1;have HL:=φ hl;have HV:=φ hV;have HK:=φ hK;have HD1:=φ hd1;have Hw1:=φ hw1;have Hrb:=φ hrb;clear h hl hV hx hK hk hw1 hrb hB1 hd1 hb1 hvs;unfold deedVal;go_enter Tryz.func29,Tryz.ntmps29;go_upto_region 1 with (fail);rw[<- Hw1.out,<- Hrb.out];obtain⟨p0,t1⟩:∃ p0,decide (x.page ≥ 0)=p0:=⟨_,rfl⟩
 obtain⟨dd,t2⟩:∃ dd,decide (x.page<(n:Int))=dd:=⟨_,rfl⟩
 cases p0
 all_goals (
  go_big_quiet (fail);go_upto_region 2 with (fail);generalize hW:World.drewN w1 _=w2;have hd2:DS base w2 gb mb n K d l p s m:=by rw[<- hW];exact HD1.out.drewN _
  have HB2:Hid (Below base w w2):=φ (by rw[<- hW];exact δ HB1.out _);have hw2:Below w.heap.size w w2:=by rw[<- hW];exact δ HW1.out _
  have hb2:w2.heap[rb]? = some (.cells #[.int .i64 x.kind,.int .i64 x.page,.int .i64 x.r.lsn,.int .i64 x.r.work,.int .i64 x.r.prev,.int .i64 x.r.next,.int .u8 x.r.kind,.int .i64 x.r.page,.slice x.ka x.r.key.length x.kc,.slice x.oa x.r.old.length x.oc,.slice x.na x.r.new.length x.nc,.slice x.da x.r.dirty.length x.dc,.slice x.pa x.r.opn.length x.pc,.int .i64 x.n,.bool x.odd] 35 (0,0)):=by rw[<- hW];exact HBk.out
  clear hW k0 k1 k2 k3 k4 c0 c1;obtain⟨k0,k1,k2,k3,k4⟩:=hd2.cells;have HD2:=φ hd2;have e0:w2.cell? ⟨rb,0,none⟩=some (.int .i64 x.kind):=cell_of_row _ _ 0 _ _ _ hb2;have e1:w2.cell? ⟨rb,1,none⟩=some (.int .i64 x.page):=cell_of_row _ _ 1 _ _ _ hb2;have e2:w2.cell? ⟨rb,2,none⟩=some (.int .i64 x.r.lsn):=cell_of_row _ _ 2 _ _ _ hb2;have e3:w2.cell? ⟨rb,3,none⟩=some (.int .i64 x.r.work):=cell_of_row _ _ 3 _ _ _ hb2;have e4:w2.cell? ⟨rb,4,none⟩=some (.int .i64 x.r.prev):=cell_of_row _ _ 4 _ _ _ hb2;have e5:w2.cell? ⟨rb,5,none⟩=some (.int .i64 x.r.next):=cell_of_row _ _ 5 _ _ _ hb2;have e6:w2.cell? ⟨rb,6,none⟩=some (.int .u8 x.r.kind):=cell_of_row _ _ 6 _ _ _ hb2;have e7:w2.cell? ⟨rb,7,none⟩=some (.int .i64 x.r.page):=cell_of_row _ _ 7 _ _ _ hb2;have e8:w2.cell? ⟨rb,8,none⟩=some (.slice x.ka x.r.key.length x.kc):=cell_of_row _ _ 8 _ _ _ hb2;have e9:w2.cell? ⟨rb,9,none⟩=some (.slice x.oa x.r.old.length x.oc):=cell_of_row _ _ 9 _ _ _ hb2;have e10:w2.cell? ⟨rb,10,none⟩=some (.slice x.na x.r.new.length x.nc):=cell_of_row _ _ 10 _ _ _ hb2;have e11:w2.cell? ⟨rb,11,none⟩=some (.slice x.da x.r.dirty.length x.dc):=cell_of_row _ _ 11 _ _ _ hb2;have e12:w2.cell? ⟨rb,12,none⟩=some (.slice x.pa x.r.opn.length x.pc):=cell_of_row _ _ 12 _ _ _ hb2;have e13:w2.cell? ⟨rb,13,none⟩=some (.int .i64 x.n):=cell_of_row _ _ 13 _ _ _ hb2;have e14:w2.cell? ⟨rb,14,none⟩=some (.bool x.odd):=cell_of_row _ _ 14 _ _ _ hb2;obtain⟨da,dcap,hdv,hdle,hdmx,hda⟩:=hd2.mod.drow.form;have hdr:=hd2.mod.drow;rw[hdv] at k4 hdr;have HDr:=φ hdr;have HZl:Hid (m.Z.length<=K):=φ hd2.zl;clear hd2 hb2 hdv hdr;obtain⟨zl,hzl⟩:∃ zl,zl=m.Z.length:=⟨_,rfl⟩
  rw[<- hzl] at k4 hdle hda;have HZe:=φ hzl;clear hzl;by_cases hz:zl=0
  ·subst hz;go_wp2_with (go_at_call 9;(with_reducible refine (HPk.out _).mono ?_);rintro e w3 ⟨rfl,hw3⟩;subst hw3);go_ret;exact⟨rfl,s,m,HD2.out.mono (by omega),HL.out,HV.out,rfl,HB2.out⟩
  ·obtain⟨zg,rfl⟩:=hda (by omega);have t3:((zl:Int) == 0)=false:=by simpa using hz
   obtain⟨k,hk,hkl⟩:∃ k:Nat,(k:Int)=pickF x.n zl/\k<zl:=⟨(pickF x.n zl).toNat,by have:=pickF_rng x.n zl (by omega);omega,by have:=pickF_rng x.n zl (by omega);omega⟩
   have HPn:Hid (∀ W,Calls Tryz.prog 9 #[.int .i64 x.n,.int .i64 zl] W fun e w'=>e=.returned (.int .i64 k)/\W=w'):=φ fun W=>by
    have:=pick_is x.n zl W HXn.out (by have:=HZl.out;have:=HZe.out;have:=HK.out;omega)
    rwa [<- hk] at this
   obtain⟨Y,hY⟩:∃ Y,Y=m.Z.getD k default:=⟨_,rfl⟩
   have hYm:Y∈m.Z:=by rw[hY];exact getD_mem m.Z default k (by have:=HZe.out;omega)
   obtain⟨-,-,-,-,hgl,hcell⟩:=HDr.out.cell;have hY':∀ j,j<11->w2.cell? ⟨zg,k*11+j,none⟩=(encRec Y)[j]?:=fun j hj=>by rw[hY];exact hcell k (by have:=HZe.out;omega) j hj
   have q0:w2.cell? ⟨zg,k*11,none⟩=some (.int .i64 Y.r.lsn):=hY' 0 (by decide);have q1:w2.cell? ⟨zg,k*11+1,none⟩=some (.int .i64 Y.r.work):=hY' 1 (by decide);have q2:w2.cell? ⟨zg,k*11+2,none⟩=some (.int .i64 Y.r.prev):=hY' 2 (by decide);have q3:w2.cell? ⟨zg,k*11+3,none⟩=some (.int .i64 Y.r.next):=hY' 3 (by decide);have q4:w2.cell? ⟨zg,k*11+4,none⟩=some (.int .u8 Y.r.kind):=hY' 4 (by decide);have q5:w2.cell? ⟨zg,k*11+5,none⟩=some (.int .i64 Y.r.page):=hY' 5 (by decide);have q6:w2.cell? ⟨zg,k*11+6,none⟩=some (.slice Y.ka Y.r.key.length Y.kc):=hY' 6 (by decide);have q7:w2.cell? ⟨zg,k*11+7,none⟩=some (.slice Y.oa Y.r.old.length Y.oc):=hY' 7 (by decide);have q8:w2.cell? ⟨zg,k*11+8,none⟩=some (.slice Y.na Y.r.new.length Y.nc):=hY' 8 (by decide);have q9:w2.cell? ⟨zg,k*11+9,none⟩=some (.slice Y.da Y.r.dirty.length Y.dc):=hY' 9 (by decide);have q10:w2.cell? ⟨zg,k*11+10,none⟩=some (.slice Y.pa Y.r.opn.length Y.pc):=hY' 10 (by decide);have HY:=φ (And.intro hYm (HD2.out.mod.rec_ Y hYm));have hk0:(0:Int)<=k:=by omega
   have hk1:(k:Int)<zl:=by omega
   obtain⟨w3,hw3⟩:∃ z,z=(w2.alloc (recObj Y.r Y.ka Y.oa Y.na Y.da Y.pa Y.kc Y.oc Y.nc Y.dc Y.pc)).drew:=⟨_,rfl⟩
   obtain⟨qb,hqb⟩:∃ z,z=w2.heap.size:=⟨_,rfl⟩
   have hB3:Below w2.heap.size w2 w3:=by rw[hw3];exact (below_allocL' w2 _).drew
   have HBk3:Hid (w3.heap[qb]? = some (recObj Y.r Y.ka Y.oa Y.na Y.da Y.pa Y.kc Y.oc Y.nc Y.dc Y.pc)):=φ (by rw[hw3,hqb];exact heap_alloc_new w2 _);have HB3:Hid (Below base w w3):=φ (HB2.out.trans (hB3.mono HD2.out.bs));have HDo:=φ (does_any base gb mb n K d l p s m Y w3 (HD2.out.below hB3) HL.out HV.out ((HY.out.2.1.below hB3).mono hB3.size) HY.out.2.2.1 HY.out.2.2.2 (fun a b o s' ha e=>by
    have hm:=HD2.out.mod.rmr Y HY.out.1 a b o s' ha e;have h1:=HD2.out.mod.mr b hm;exact⟨fun hS=>(HD2.out.s1 b hS).2 (.inr (.inr (.inr (.inr hm)))),by
     rintro (h2|h2|h2|⟨i,hi,h2⟩)
     ·exact h1.2.1 h2
     ·exact h1.2.2.1 h2
     ·exact h1.2.2.2.1 h2
     ·exact h1.2.2.2.2 i hi h2,by have:=hB3.size;omega⟩) (by have:=HK.out;omega))
   unfold recV at HDo;unfold recObj at hw3;have HW3:=φ hw3;clear hk hY hYm hcell hY' hda hz hw3 hB3;go_upto_region 22 with (go_at_call 9;(with_reducible refine (HPk.out _).mono ?_);rintro e w3 ⟨rfl,hw3⟩;subst hw3);go_region_held3 (fun w'=>w'.cell? ⟨mb,1,none⟩=some (.slice (some ⟨zg,0,none⟩) zl dcap)/\w'.cell? ⟨rb,13,none⟩=some (.int .i64 x.n)/\w'.cell? ⟨zg,k*11,none⟩=some (.int .i64 Y.r.lsn)/\w'.cell? ⟨zg,k*11+1,none⟩=some (.int .i64 Y.r.work)/\w'.cell? ⟨zg,k*11+2,none⟩=some (.int .i64 Y.r.prev)/\w'.cell? ⟨zg,k*11+3,none⟩=some (.int .i64 Y.r.next)/\w'.cell? ⟨zg,k*11+4,none⟩=some (.int .u8 Y.r.kind)/\w'.cell? ⟨zg,k*11+5,none⟩=some (.int .i64 Y.r.page)/\w'.cell? ⟨zg,k*11+6,none⟩=some (.slice Y.ka Y.r.key.length Y.kc)/\w'.cell? ⟨zg,k*11+7,none⟩=some (.slice Y.oa Y.r.old.length Y.oc)/\w'.cell? ⟨zg,k*11+8,none⟩=some (.slice Y.na Y.r.new.length Y.nc)/\w'.cell? ⟨zg,k*11+9,none⟩=some (.slice Y.da Y.r.dirty.length Y.dc)/\w'.cell? ⟨zg,k*11+10,none⟩=some (.slice Y.pa Y.r.opn.length Y.pc)) (first|go_keep|exact⟨by assumption,by assumption,by assumption,by assumption,by assumption,by assumption,by assumption,by assumption,by assumption,by assumption,by assumption,by assumption,by assumption⟩) (first|(go_at_call 9;(with_reducible refine (HPn.out _).mono ?_);rintro e w3 ⟨rfl,hw3⟩;subst hw3))
   all_goals (
    rw[<- hqb,<- HW3.out];clear hqb;obtain⟨g0,g1,g2,g3,g4,g5,g6,g7,g8,g9,g10⟩:=ζ HBk3.out;clear k0 k1 k2 k3 k4 q0 q1 q2 q3 q4 q5 q6 q7 q8 q9 q10;go_wp2_with (go_at_call 77;(with_reducible refine HDo.out.mono ?_);rintro e w5 ⟨rfl,s5,m5,hd5,hl5,hv5,hc5,hm5,hb5⟩;have HG5:=φ (And.intro hd5 (And.intro hl5 (And.intro hv5 (And.intro hm5 hb5))));clear hd5 hl5 hv5 hc5 hm5 hb5);go_ret;exact⟨rfl,s5,m5,HG5.out.1.mono (by omega),HG5.out.2.1,HG5.out.2.2.1,HG5.out.2.2.2.1,HB3.out.trans HG5.out.2.2.2.2⟩))
end Go.Proofs.YtohlkkannjifmaaGreatDoor
