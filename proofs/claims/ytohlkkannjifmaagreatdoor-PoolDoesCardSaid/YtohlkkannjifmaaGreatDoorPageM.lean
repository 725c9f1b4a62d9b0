import Derived.Test.YtohlkkannjifmaaGreatDoorPageH
namespace Go.Proofs.YtohlkkannjifmaaGreatDoor
section
set_option maxHeartbeats 2000000
set_option maxRecDepth 100000
open Go.RowKit Go.Shelf
theorem Turn_ok11s (g c:Nat) (L:List UInt8) (X:List Value) (B:Nat) (ka oa na:Option Addr) (kn kc on oc nn nc:Nat) (K O N:List UInt8) (w:World) (hp:PG w g c L X)
  (hk:RBn g B w ka kn kc K) (ho:RBn g B w oa on oc O) (hn:RBn g B w na nn nc N) (hB:B<=w.heap.size) (h0:βL L≠0) (ht:turnedB K.length O.length N.length=true) (i e:Nat) (hf:findL L K=(i,e,true)) (hO:O≠[]) (hE:eqB (valOf L i e) O=true) (hN:N≠[]) (h5:βL L-(e-i)+(2+K.length+N.length)<=512) (hcl:e-i<=2+K.length+N.length) :
  Calls Tryz.prog 21 #[.slice (some ⟨g,0,none⟩) 512 c,.agg #[.slice ka kn kc,.slice oa on oc,.slice na nn nc]] w (TurnPost g c w (turnL L K O N) X):=by
 have hgw:=hp.lt;have hcap:=hp.cap;have hfin:=(show turnL L K O N=(0,turnBytes L i e (βL L) K N true) from by unfold turnL;rw[if_neg h0,if_neg (by rw[ht];simp),hf];dsimp only;rw[if_neg (by have:=List.length_pos_iff.2 hO;rw[hE];simp[this])];rw[if_neg hN,if_neg (by omega)])
 have Hfin:=φ hfin;obtain⟨d11,die,del,dl5,dt,df⟩:=findL_bd h0 hf;obtain⟨last,hlast⟩:∃ last,last=βL L:=⟨_,rfl⟩
 have HB:Hid (∀ w':World,Below w.heap.size w w'->Calls Tryz.prog 65 #[.slice (some ⟨g,0,none⟩) 512 c] w' fun e w''=>e=.returned (.int .i64 last)/\Below w'.heap.size w' w''):=by
  intro w' hb;rw[hlast];exact behind_any w'.heap.size _ _ _ _ w' (hp.below hb hp.lt).rb (Nat.le_refl _)
 have HT:Hid (∀ w':World,Calls Tryz.prog 66 #[.agg #[.slice ka kn kc,.slice oa on oc,.slice na nn nc]] w' fun e w''=>e=.returned (.bool true)/\Below w'.heap.size w' w''):=by
  intro w';have:=turned_any ka oa na kn kc on oc nn nc w' hk.rb.lm ho.rb.lm hn.rb.lm;rw[hk.rb.len,ho.rb.len,hn.rb.len,ht] at this;rw[hk.rb.len,ho.rb.len,hn.rb.len];exact this
 have HF:Hid (∀ w':World,Below w.heap.size w w'->Calls Tryz.prog 67 #[.slice (some ⟨g,0,none⟩) 512 c,.slice ka kn kc] w' fun e' w'' =>
   e'=.returned (.tuple #[.int .i64 i,.int .i64 e,.bool true])/\Below w'.heap.size w' w''):=by
  intro w' hb;have:=find_any w'.heap.size B _ _ _ L ka kn kc K w' (hp.below hb hp.lt).rb (hk.rb.below (hb.mono hB)) (Nat.le_refl _) (Nat.le_trans hB hb.size) (Nat.pos_of_ne_zero h0);rw[hf] at this;exact this
 obtain⟨dk1,dk2⟩:=dt rfl;obtain⟨bk,hbk⟩:∃ bk:Nat,bk=(bt L i).toNat:=⟨_,rfl⟩
 rw[<- hbk] at dk2;obtain⟨eq,heq⟩:∃ eq,eq=eqB (valOf L i e) O:=⟨_,rfl⟩
 have HV:Hid (∀ w':World,Below w.heap.size w w'->∀ q,Calls Tryz.prog 69 #[.slice (some ⟨g,0,none⟩) 512 c,.int .i64 i,.int .i64 e] (w'.drewN q) fun e' w''=>e'=.returned (.slice (some ⟨g,i+2+bk,none⟩) (e-(i+2+bk)) (c-(i+2+bk)))/\w'.drewN q=w''):=by
  intro w' hb q;have:=value_pos w'.heap.size g 0 512 c L i bk e (w'.drewN q) ((hp.below hb hp.lt).rb.drewN q) (by rw[hbk];omega) dk2 (by omega)
  rwa [Nat.zero_add] at this
 have HE:Hid (∀ w':World,Below w.heap.size w w'->∀ q,Calls Tryz.prog 68 #[.slice (some ⟨g,i+2+bk,none⟩) (e-(i+2+bk)) (c-(i+2+bk)),.slice oa on oc] (w'.drewN q) fun e' w''=>e'=.returned (.bool eq)/\w'.drewN q=w''):=by
  intro w' hb q;have h1:=(hp.below hb hp.lt).rb.sub (i+2+bk) (e-(i+2+bk)) (by omega);rw[Nat.zero_add] at h1;have:=Equal_any w'.heap.size B _ _ _ _ _ _ _ O (w'.drewN q) (h1.drewN q) ((ho.rb.below (hb.mono hB)).drewN q);rw[heq];unfold valOf;rw[<- hbk];exact this
 have hl0:last≠0:=by rw[hlast];exact h0
 have hld:((last:Int) == 0)=false:=by simp;omega
 rw[<- hlast] at del dl5;have hb0:Below w.heap.size w (w.alloc (.cells #[.slice ka kn kc,.slice oa on oc,.slice na nn nc] 29)):=(Below.refl _ w).alloc (Nat.le_refl _) _;have ht0:T3 (w.alloc (.cells #[.slice ka kn kc,.slice oa on oc,.slice na nn nc] 29)) w.heap.size (.slice ka kn kc) (.slice oa on oc) (.slice na nn nc):=heap_alloc_new w _;have Hb0:=φ hb0;have Ht0:=φ ht0;have hklen:=hk.rb.len;have holen:=ho.rb.len;have hnlen:=hn.rb.len;have hklm:=hk.rb.lm;have hnlm:=hn.rb.lm;have hon:0<on:=by rw[holen];exact List.length_pos_iff.2 hO
 obtain rfl:eq=true:=by rw[heq];exact hE
 have hnn:0<nn:=by rw[hnlen];exact List.length_pos_iff.2 hN
 rw[<- hlast,<- hklen,<- hnlen] at h5;rw[<- hklen,<- hnlen] at hcl;obtain⟨sz,hsz⟩:∃ sz:Nat,sz=2+kn+nn:=⟨_,rfl⟩
 have h5':(last:Int)-((e:Int)-(i:Int))+(2+(kn:Int)+(nn:Int))<=512:=by omega
 have h6:(i:Int)+(2+(kn:Int)+(nn:Int))<=512:=by omega
 have hc5:512<=c:=by omega
 have hlc:last<=c:=by omega
 have Hlast:=φ hlast;have htb:=ht;unfold turnedB at htb;simp only[Bool.and_eq_true,decide_eq_true_eq] at htb;rw[<- hklen,<- hnlen] at htb;have hkn0:0<kn:=by omega
 have hkn40:kn<=40:=by omega
 have hn220:kn+nn<=220:=by omega
 clear htb;have hcl':(e:Int)-(i:Int)<=(2+(kn:Int)+(nn:Int)):=by omega
 have Hkl:=φ hklen;have Hnl:=φ hnlen;have Hsz:=φ hsz;clear hfin h0 hb0 ht0 hlast ht hl0 hf hklen holen hnlen df hcap hO heq hbk hE h5 hsz;have x1:IntKind.i64.wrap ((i:Int)+(2+(kn:Int)+(nn:Int)))=(i:Int)+(2+(kn:Int)+(nn:Int)):=IntWalk.i64_in _ (by omega);have x2:0<=(i:Int)+(2+(kn:Int)+(nn:Int)):=by omega
 have x3:((i:Int)+(2+(kn:Int)+(nn:Int))).toNat=i+sz:=by have:=Hsz.out;omega
 go_enter Tryz.func21,Tryz.ntmps21;go_wp2_with (first|(go_at_call 65;refine (HB.out _ Hb0.out).mono ?_;rintro e w1 ⟨rfl,hb1⟩;have ht1:=φ (Ht0.out.below hb1 (by simp));obtain⟨c10,c11,c12⟩:=ht1.out.cells;have hs1:=Hb0.out.size;have Hb1:=φ (Hb0.out.trans (hb1.mono hs1)))|(go_at_call 66;refine (HT.out _).mono ?_;rintro e w2 ⟨rfl,hb2⟩;have ht2:=φ (ht1.out.below hb2 ht1.out.lt);obtain⟨c20,c21,c22⟩:=ht2.out.cells;have Hb2:=φ (Hb1.out.trans (hb2.mono Hb1.out.size)))|(go_at_call 67;refine (HF.out _ Hb2.out).mono ?_;rintro e w3 ⟨rfl,hb3⟩;have ht3:=φ (ht2.out.below hb3 ht2.out.lt);obtain⟨c30,c31,c32⟩:=ht3.out.cells;have Hb3:=φ (Hb2.out.trans (hb3.mono Hb2.out.size))));go_quiet ((first|(go_at_call 69;with_reducible exact quiet_same (HV.out _ Hb3.out _))|(go_at_call 68;with_reducible exact quiet_same (HE.out _ Hb3.out _))));go_wp2;go_still_tail 9,(by kernel_rfl)
 change wpList _ _ _ _ _ (World.drew _);have Hb4:=φ ((δ Hb3.out nq).drew);have ht4:T3 (w3.drewN nq).drew _ _ _ _:=ht3.out;have hpg4:=hp.below Hb4.out hp.lt;have hm4:=φ (Mod.of_below (g:=g) Hb4.out);have hs4:=Hb4.out.size;generalize (w3.drewN nq).drew=w4 at *;have Ht4:=φ ht4;have Hpg4:=φ hpg4;clear ht4 hpg4;have hzg:w.heap.size≠g:=by omega
 refine wpList_copy_pg rfl _ _ rfl g c L X Hpg4.out _ _ _ _ _ _ (i+sz) ((L.drop e).take (last-e)) rfl rfl ?_ ?_ ?_ ?_ ?_
 ·have:=Hpg4.out.len;have:=Hsz.out;simp;omega
 ·have:=Hpg4.out.len;split
  ·have e0:last-e=0:=by omega
   rw[e0];intro h;simp at h
  ·have h:=(Hpg4.out.rb.sub e (last-e) (by omega)).src
   rwa [Nat.zero_add] at h
 ·intro h;have:=Hpg4.out.len;simp at h;rw[if_neg (by omega)]
 ·have:=Hpg4.out.len;have:=Hsz.out;simp;omega
 generalize (if c=i+sz then some (⟨g,0,none⟩:Addr) else some ⟨g,i+sz,none⟩)=da5;generalize (if c=e then some (⟨g,0,none⟩:Addr) else some ⟨g,e,none⟩)=sa5;intro w5 hpg5 hm5 hs5;have Hm5:=φ (hm4.out.trans hm5);have ht5:=Ht4.out.mod hm5 hzg;have Ht5:=φ ht5;have Hpg5:=φ hpg5;clear hm5 hs5 ht5 hpg5 hm4 Ht4 Hpg4;obtain⟨L1,hL1⟩:∃ L1,L1=Go.splice L (i+sz) ((L.drop e).take (last-e)):=⟨_,rfl⟩
 rw[<- hL1] at Hpg5;have HL1:=φ hL1;clear hL1;have k1:=Hpg5.out.cell i (by omega);have k2:=Hpg5.out.cell (i+1) (by omega);have f1:=Hpg5.out.frozen i;have f2:=Hpg5.out.frozen (i+1);have y1:IntKind.i64.wrap ((i:Int)+1)=(i:Int)+1:=IntWalk.i64_in _ (by omega);have y2:0<=(i:Int)+1:=by omega
 have y3:((i:Int)+1).toNat=i+1:=by omega
 obtain⟨z0,z1,z2⟩:=Ht5.out.cells;have hbk8:((byteOf kn).toNat:Int)=(kn:Int):=by unfold byteOf;rw[UInt8.toNat_ofNat'];omega
 have hbn8:((byteOf nn).toNat:Int)=(nn:Int):=by unfold byteOf;rw[UInt8.toNat_ofNat'];omega
 have hpg6:=(Hpg5.out.set i (byteOf kn) (by omega)).set (i+1) (byteOf nn) (by omega);rw[hbk8,hbn8] at hpg6;have Hpg6:=φ hpg6;clear hbk8 hbn8 hpg6;go_wp2;go_region;have hpg6:=Hpg6.out.drew;have hm6:=φ (((Hm5.out.set g i (.int .u8 kn)).set g (i+1) (.int .u8 nn)).drew);have ht6:=((Ht5.out.mod ((Mod.refl g w5).set g i (.int .u8 kn)) hzg).mod ((Mod.refl g _).set g (i+1) (.int .u8 nn)) hzg).drew;clear Hpg6;generalize (((w5.setCell ⟨g,i,none⟩ (.int .u8 kn)).setCell ⟨g,i+1,none⟩ (.int .u8 nn)).drew)=w6 at *;have Hpg6:=φ hpg6;have Ht6:=φ ht6;clear hpg6 ht6 k1 k2 f1 f2 z0 z1 z2;obtain⟨z0,z1,z2⟩:=Ht6.out.cells;obtain⟨L2,hL2⟩:∃ L2,L2=(L1.set i (byteOf kn)).set (i+1) (byteOf nn):=⟨_,rfl⟩
 rw[<- hL2] at Hpg6;have HL2:=φ hL2;clear hL2;have u1:IntKind.i64.wrap ((i:Int)+2)=(i:Int)+2:=IntWalk.i64_in _ (by omega);have u2:0<=(i:Int)+2:=by omega
 have u3:((i:Int)+2).toNat=i+2:=by omega
 have hi2:(i:Int)+2<=512:=by omega
 go_wp2;go_still_tail 6,(by kernel_rfl)
 change wpList _ _ _ _ _ (World.drew _);have hpg7:=Hpg6.out.drew;have ht7:=Ht6.out.drew;have hm7:=φ hm6.out.drew;generalize w6.drew=w7 at *;refine wpList_copy_pg rfl _ _ rfl g c L2 X hpg7 _ _ _ _ _ _ (i+2) K rfl rfl ?_ (hk.mod hm7.out hB).rb.src ?_ ?_ ?_
 ·have:=Hkl.out;omega
 ·intro h;rw[if_neg (by omega)]
 ·have:=Hkl.out;omega
 generalize (if c=i+2 then some (⟨g,0,none⟩:Addr) else some ⟨g,i+2,none⟩)=da7;intro w8 hpg8 hm8 hs8;have Hm8:=φ (hm7.out.trans hm8);have Ht8:=φ (ht7.mod hm8 hzg);have Hpg8:=φ hpg8;clear hpg7 ht7 hm7 hm8 hs8 hpg8 Hpg6 Ht6 hm6 z0 z1 z2;obtain⟨L3,hL3⟩:∃ L3,L3=Go.splice L2 (i+2) K:=⟨_,rfl⟩
 rw[<- hL3] at Hpg8;have HL3:=φ hL3;clear hL3;obtain⟨z0,z1,z2⟩:=Ht8.out.cells;have v1:IntKind.i64.wrap ((i:Int)+2+(kn:Int))=(i:Int)+2+(kn:Int):=IntWalk.i64_in _ (by omega);have v2:0<=(i:Int)+2+(kn:Int):=by omega
 have v3:((i:Int)+2+(kn:Int)).toNat=i+2+kn:=by omega
 have hi3:(i:Int)+2+(kn:Int)<=512:=by omega
 go_wp2;go_still_tail 10,(by kernel_rfl)
 change wpList _ _ _ _ _ (World.drew _);have hpg9:=Hpg8.out.drew;have ht9:=Ht8.out.drew;have hm9:=φ Hm8.out.drew;generalize w8.drew=w9 at *;refine wpList_copy_pg rfl _ _ rfl g c L3 X hpg9 _ _ _ _ _ _ (i+2+kn) N rfl rfl ?_ (hn.mod hm9.out hB).rb.src ?_ ?_ ?_
 ·have:=Hnl.out;omega
 ·intro h;rw[if_neg (by have:=Hnl.out;omega)]
 ·have:=Hnl.out;omega
 generalize (if c=i+2+kn then some (⟨g,0,none⟩:Addr) else some ⟨g,i+2+kn,none⟩)=da9;intro w10 hpg10 hm10 hs10;have Hm10:=φ (hm9.out.trans hm10);clear Ht8 z0 z1 z2 hm9 hpg9 ht9 hm10 hs10 Hpg8 Hm8;obtain⟨L4,hL4⟩:∃ L4,L4=Go.splice L3 (i+2+kn) N:=⟨_,rfl⟩
 rw[<- hL4] at hpg10;have HL4:=φ hL4;clear hL4;have k10:=hpg10.cell 10 (by omega);have f10:=hpg10.frozen 10;have r10:IntKind.u8.wrap (bt L4 10+1)=((L4.getD 10 0+1).toNat:Int):=u8_inc _ _;have Hpg10:=φ hpg10;clear hpg10;have hpgf:=Hpg10.out.set 10 (L4.getD 10 0+1) (by omega);have Hpgf:=φ hpgf;obtain⟨nv,hnv⟩:∃ nv:Int,nv=((L4.getD 10 0+1).toNat:Int):=⟨_,rfl⟩
 rw[<- hnv] at r10;have Hnv:=φ hnv;clear hpgf hnv;have hlen4:=Hpg10.out.len;obtain⟨L5,hL5⟩:∃ L5,L5=L4.set 10 (L4.getD 10 0+1):=⟨_,rfl⟩
 rw[<- hL5] at Hpgf;have hb5:bt L5 10=nv:=by
  rw[Hnv.out,hL5];unfold bt;rw[List.getD_eq_getElem?_getD,List.getElem?_set_self (by rw[hlen4];omega),Option.getD_some]
 have r11:IntKind.u8.wrap (nv-1)=((L5.getD 10 0+(0-1)).toNat:Int):=by rw[<- hb5];exact u8_dec _ _
 have hpgg:=Hpgf.out.set 10 (L5.getD 10 0+(0-1)) (by omega);obtain⟨nv2,hnv2⟩:∃ nv2:Int,nv2=((L5.getD 10 0+(0-1)).toNat:Int):=⟨_,rfl⟩
 rw[<- hnv2] at r11;rw[<- Hnv.out,<- hnv2] at hpgg;have Hpgg:=φ hpgg;have HL5:=φ hL5;clear hpgg hnv2 hL5 hb5 hlen4;go_wp2;go_ret;have hT:turnBytes L i e (βL L) K N true=counted L5 (0-1):=by
  unfold turnBytes wiped moved laid;dsimp only;simp only[if_neg hN];have hnl:¬ (last-(e-i)+(2+kn+nn)<last):=by omega
  rw[<- Hlast.out,<- Hkl.out,<- Hnl.out,if_neg hnl,HL5.out,HL4.out,HL3.out,HL2.out,HL1.out,Hsz.out];rfl
 refine⟨by rw[Hfin.out];rfl,?_,?_⟩
 ·rw[Hfin.out];show PG _ g c (turnBytes L i e (βL L) K N true) X;rw[hT];exact Hpgg.out
 ·exact (Hm10.out.set g 10 _).set g 10 _
end
section
set_option maxHeartbeats 2000000
set_option maxRecDepth 100000
open Go.RowKit Go.Shelf
theorem Turn_ok11c (g c:Nat) (L:List UInt8) (X:List Value) (B:Nat) (ka oa na:Option Addr) (kn kc on oc nn nc:Nat) (K O N:List UInt8) (w:World) (hp:PG w g c L X)
  (hk:RBn g B w ka kn kc K) (ho:RBn g B w oa on oc O) (hn:RBn g B w na nn nc N) (hB:B<=w.heap.size) (h0:βL L≠0) (ht:turnedB K.length O.length N.length=true) (i e:Nat) (hf:findL L K=(i,e,true)) (hO:O≠[]) (hE:eqB (valOf L i e) O=true) (hN:N≠[]) (h5:βL L-(e-i)+(2+K.length+N.length)<=512) (hcl:2+K.length+N.length<e-i) :
  Calls Tryz.prog 21 #[.slice (some ⟨g,0,none⟩) 512 c,.agg #[.slice ka kn kc,.slice oa on oc,.slice na nn nc]] w (TurnPost g c w (turnL L K O N) X):=by
 have hgw:=hp.lt;have hcap:=hp.cap;have hfin:=(show turnL L K O N=(0,turnBytes L i e (βL L) K N true) from by unfold turnL;rw[if_neg h0,if_neg (by rw[ht];simp),hf];dsimp only;rw[if_neg (by have:=List.length_pos_iff.2 hO;rw[hE];simp[this])];rw[if_neg hN,if_neg (by omega)])
 have Hfin:=φ hfin;obtain⟨d11,die,del,dl5,dt,df⟩:=findL_bd h0 hf;obtain⟨last,hlast⟩:∃ last,last=βL L:=⟨_,rfl⟩
 have HB:Hid (∀ w':World,Below w.heap.size w w'->Calls Tryz.prog 65 #[.slice (some ⟨g,0,none⟩) 512 c] w' fun e w''=>e=.returned (.int .i64 last)/\Below w'.heap.size w' w''):=by
  intro w' hb;rw[hlast];exact behind_any w'.heap.size _ _ _ _ w' (hp.below hb hp.lt).rb (Nat.le_refl _)
 have HT:Hid (∀ w':World,Calls Tryz.prog 66 #[.agg #[.slice ka kn kc,.slice oa on oc,.slice na nn nc]] w' fun e w''=>e=.returned (.bool true)/\Below w'.heap.size w' w''):=by
  intro w';have:=turned_any ka oa na kn kc on oc nn nc w' hk.rb.lm ho.rb.lm hn.rb.lm;rw[hk.rb.len,ho.rb.len,hn.rb.len,ht] at this;rw[hk.rb.len,ho.rb.len,hn.rb.len];exact this
 have HF:Hid (∀ w':World,Below w.heap.size w w'->Calls Tryz.prog 67 #[.slice (some ⟨g,0,none⟩) 512 c,.slice ka kn kc] w' fun e' w'' =>
   e'=.returned (.tuple #[.int .i64 i,.int .i64 e,.bool true])/\Below w'.heap.size w' w''):=by
  intro w' hb;have:=find_any w'.heap.size B _ _ _ L ka kn kc K w' (hp.below hb hp.lt).rb (hk.rb.below (hb.mono hB)) (Nat.le_refl _) (Nat.le_trans hB hb.size) (Nat.pos_of_ne_zero h0);rw[hf] at this;exact this
 obtain⟨dk1,dk2⟩:=dt rfl;obtain⟨bk,hbk⟩:∃ bk:Nat,bk=(bt L i).toNat:=⟨_,rfl⟩
 rw[<- hbk] at dk2;obtain⟨eq,heq⟩:∃ eq,eq=eqB (valOf L i e) O:=⟨_,rfl⟩
 have HV:Hid (∀ w':World,Below w.heap.size w w'->∀ q,Calls Tryz.prog 69 #[.slice (some ⟨g,0,none⟩) 512 c,.int .i64 i,.int .i64 e] (w'.drewN q) fun e' w''=>e'=.returned (.slice (some ⟨g,i+2+bk,none⟩) (e-(i+2+bk)) (c-(i+2+bk)))/\w'.drewN q=w''):=by
  intro w' hb q;have:=value_pos w'.heap.size g 0 512 c L i bk e (w'.drewN q) ((hp.below hb hp.lt).rb.drewN q) (by rw[hbk];omega) dk2 (by omega)
  rwa [Nat.zero_add] at this
 have HE:Hid (∀ w':World,Below w.heap.size w w'->∀ q,Calls Tryz.prog 68 #[.slice (some ⟨g,i+2+bk,none⟩) (e-(i+2+bk)) (c-(i+2+bk)),.slice oa on oc] (w'.drewN q) fun e' w''=>e'=.returned (.bool eq)/\w'.drewN q=w''):=by
  intro w' hb q;have h1:=(hp.below hb hp.lt).rb.sub (i+2+bk) (e-(i+2+bk)) (by omega);rw[Nat.zero_add] at h1;have:=Equal_any w'.heap.size B _ _ _ _ _ _ _ O (w'.drewN q) (h1.drewN q) ((ho.rb.below (hb.mono hB)).drewN q);rw[heq];unfold valOf;rw[<- hbk];exact this
 have hl0:last≠0:=by rw[hlast];exact h0
 have hld:((last:Int) == 0)=false:=by simp;omega
 rw[<- hlast] at del dl5;have hb0:Below w.heap.size w (w.alloc (.cells #[.slice ka kn kc,.slice oa on oc,.slice na nn nc] 29)):=(Below.refl _ w).alloc (Nat.le_refl _) _;have ht0:T3 (w.alloc (.cells #[.slice ka kn kc,.slice oa on oc,.slice na nn nc] 29)) w.heap.size (.slice ka kn kc) (.slice oa on oc) (.slice na nn nc):=heap_alloc_new w _;have Hb0:=φ hb0;have Ht0:=φ ht0;have hklen:=hk.rb.len;have holen:=ho.rb.len;have hnlen:=hn.rb.len;have hklm:=hk.rb.lm;have hnlm:=hn.rb.lm;have hon:0<on:=by rw[holen];exact List.length_pos_iff.2 hO
 obtain rfl:eq=true:=by rw[heq];exact hE
 have hnn:0<nn:=by rw[hnlen];exact List.length_pos_iff.2 hN
 rw[<- hlast,<- hklen,<- hnlen] at h5;rw[<- hklen,<- hnlen] at hcl;obtain⟨sz,hsz⟩:∃ sz:Nat,sz=2+kn+nn:=⟨_,rfl⟩
 have h5':(last:Int)-((e:Int)-(i:Int))+(2+(kn:Int)+(nn:Int))<=512:=by omega
 have h6:(i:Int)+(2+(kn:Int)+(nn:Int))<=512:=by omega
 have hc5:512<=c:=by omega
 have hlc:last<=c:=by omega
 have Hlast:=φ hlast;have htb:=ht;unfold turnedB at htb;simp only[Bool.and_eq_true,decide_eq_true_eq] at htb;rw[<- hklen,<- hnlen] at htb;have hkn0:0<kn:=by omega
 have hkn40:kn<=40:=by omega
 have hn220:kn+nn<=220:=by omega
 clear htb;have hcl':(2+(kn:Int)+(nn:Int))<(e:Int)-(i:Int):=by omega
 have Hkl:=φ hklen;have Hnl:=φ hnlen;have Hsz:=φ hsz;clear hfin h0 hb0 ht0 hlast ht hl0 hf hklen holen hnlen df hcap hO heq hbk hE h5 hsz;have x1:IntKind.i64.wrap ((i:Int)+(2+(kn:Int)+(nn:Int)))=(i:Int)+(2+(kn:Int)+(nn:Int)):=IntWalk.i64_in _ (by omega);have x2:0<=(i:Int)+(2+(kn:Int)+(nn:Int)):=by omega
 have x3:((i:Int)+(2+(kn:Int)+(nn:Int))).toNat=i+sz:=by have:=Hsz.out;omega
 go_enter Tryz.func21,Tryz.ntmps21;go_wp2_with (first|(go_at_call 65;refine (HB.out _ Hb0.out).mono ?_;rintro e w1 ⟨rfl,hb1⟩;have ht1:=φ (Ht0.out.below hb1 (by simp));obtain⟨c10,c11,c12⟩:=ht1.out.cells;have hs1:=Hb0.out.size;have Hb1:=φ (Hb0.out.trans (hb1.mono hs1)))|(go_at_call 66;refine (HT.out _).mono ?_;rintro e w2 ⟨rfl,hb2⟩;have ht2:=φ (ht1.out.below hb2 ht1.out.lt);obtain⟨c20,c21,c22⟩:=ht2.out.cells;have Hb2:=φ (Hb1.out.trans (hb2.mono Hb1.out.size)))|(go_at_call 67;refine (HF.out _ Hb2.out).mono ?_;rintro e w3 ⟨rfl,hb3⟩;have ht3:=φ (ht2.out.below hb3 ht2.out.lt);obtain⟨c30,c31,c32⟩:=ht3.out.cells;have Hb3:=φ (Hb2.out.trans (hb3.mono Hb2.out.size))));go_quiet ((first|(go_at_call 69;with_reducible exact quiet_same (HV.out _ Hb3.out _))|(go_at_call 68;with_reducible exact quiet_same (HE.out _ Hb3.out _))));go_wp2;go_still_tail 9,(by kernel_rfl)
 change wpList _ _ _ _ _ (World.drew _);have Hb4:=φ ((δ Hb3.out nq).drew);have ht4:T3 (w3.drewN nq).drew _ _ _ _:=ht3.out;have hpg4:=hp.below Hb4.out hp.lt;have hm4:=φ (Mod.of_below (g:=g) Hb4.out);have hs4:=Hb4.out.size;generalize (w3.drewN nq).drew=w4 at *;have Ht4:=φ ht4;have Hpg4:=φ hpg4;clear ht4 hpg4;have hzg:w.heap.size≠g:=by omega
 refine wpList_copy_pg rfl _ _ rfl g c L X Hpg4.out _ _ _ _ _ _ (i+sz) ((L.drop e).take (last-e)) rfl rfl ?_ ?_ ?_ ?_ ?_
 ·have:=Hpg4.out.len;have:=Hsz.out;simp;omega
 ·have:=Hpg4.out.len;split
  ·have e0:last-e=0:=by omega
   rw[e0];intro h;simp at h
  ·have h:=(Hpg4.out.rb.sub e (last-e) (by omega)).src
   rwa [Nat.zero_add] at h
 ·intro h;have:=Hpg4.out.len;simp at h;rw[if_neg (by omega)]
 ·have:=Hpg4.out.len;have:=Hsz.out;simp;omega
 generalize (if c=i+sz then some (⟨g,0,none⟩:Addr) else some ⟨g,i+sz,none⟩)=da5;generalize (if c=e then some (⟨g,0,none⟩:Addr) else some ⟨g,e,none⟩)=sa5;intro w5 hpg5 hm5 hs5;have Hm5:=φ (hm4.out.trans hm5);have ht5:=Ht4.out.mod hm5 hzg;have Ht5:=φ ht5;have Hpg5:=φ hpg5;clear hm5 hs5 ht5 hpg5 hm4 Ht4 Hpg4;obtain⟨L1,hL1⟩:∃ L1,L1=Go.splice L (i+sz) ((L.drop e).take (last-e)):=⟨_,rfl⟩
 rw[<- hL1] at Hpg5;have HL1:=φ hL1;clear hL1;obtain⟨nw,hnw⟩:∃ nw,nw=last-(e-i)+sz:=⟨_,rfl⟩
 have n2:0<=(last:Int)-((e:Int)-(i:Int))+(2+(kn:Int)+(nn:Int)):=by omega
 have n3:((last:Int)-((e:Int)-(i:Int))+(2+(kn:Int)+(nn:Int))).toNat=nw:=by have:=Hsz.out;omega
 have n4:(last:Int)-((e:Int)-(i:Int))+(2+(kn:Int)+(nn:Int))<(last:Int):=by have:=Hsz.out;omega
 have n5:¬ c=nw:=by have:=Hsz.out;omega
 have n6:nw<last:=by have:=Hsz.out;omega
 obtain⟨z0,z1,z2⟩:=Ht5.out.cells;have Hnw:=φ hnw;clear hnw;go_wp2_with (with_reducible refine wpList_clear_pg rfl _ rfl g c L1 X Hpg5.out (last-nw) _ nw rfl ?_ ?_ ?_)
 ·omega
 ·omega
 intro w5' hpg5 hm5 hs5;have Hm5':=φ (Hm5.out.trans hm5);have Ht5':=φ (Ht5.out.mod hm5 hzg);have Hpg5':=φ hpg5;clear hm5 hs5 hpg5 Hm5 Ht5 Hpg5 z0 z1 z2;obtain⟨L1',hL1'⟩:∃ L1',L1'=Go.splice L1 nw (List.replicate (last-nw) 0):=⟨_,rfl⟩
 rw[<- hL1'] at Hpg5';have HL1':=φ hL1';clear hL1';have k1:=Hpg5'.out.cell i (by omega);have k2:=Hpg5'.out.cell (i+1) (by omega);have f1:=Hpg5'.out.frozen i;have f2:=Hpg5'.out.frozen (i+1);have y1:IntKind.i64.wrap ((i:Int)+1)=(i:Int)+1:=IntWalk.i64_in _ (by omega);have y2:0<=(i:Int)+1:=by omega
 have y3:((i:Int)+1).toNat=i+1:=by omega
 obtain⟨z0,z1,z2⟩:=Ht5'.out.cells;have hbk8:((byteOf kn).toNat:Int)=(kn:Int):=by unfold byteOf;rw[UInt8.toNat_ofNat'];omega
 have hbn8:((byteOf nn).toNat:Int)=(nn:Int):=by unfold byteOf;rw[UInt8.toNat_ofNat'];omega
 have hpg6:=(Hpg5'.out.set i (byteOf kn) (by omega)).set (i+1) (byteOf nn) (by omega);rw[hbk8,hbn8] at hpg6;have Hpg6:=φ hpg6;clear hbk8 hbn8 hpg6;go_wp2;go_region;have hpg6:=Hpg6.out.drew;have hm6:=φ (((Hm5'.out.set g i (.int .u8 kn)).set g (i+1) (.int .u8 nn)).drew);have ht6:=((Ht5'.out.mod ((Mod.refl g w5').set g i (.int .u8 kn)) hzg).mod ((Mod.refl g _).set g (i+1) (.int .u8 nn)) hzg).drew;clear Hpg6;generalize (((w5'.setCell ⟨g,i,none⟩ (.int .u8 kn)).setCell ⟨g,i+1,none⟩ (.int .u8 nn)).drew)=w6 at *;have Hpg6:=φ hpg6;have Ht6:=φ ht6;clear hpg6 ht6 k1 k2 f1 f2 z0 z1 z2;obtain⟨z0,z1,z2⟩:=Ht6.out.cells;obtain⟨L2,hL2⟩:∃ L2,L2=(L1'.set i (byteOf kn)).set (i+1) (byteOf nn):=⟨_,rfl⟩
 rw[<- hL2] at Hpg6;have HL2:=φ hL2;clear hL2;have u1:IntKind.i64.wrap ((i:Int)+2)=(i:Int)+2:=IntWalk.i64_in _ (by omega);have u2:0<=(i:Int)+2:=by omega
 have u3:((i:Int)+2).toNat=i+2:=by omega
 have hi2:(i:Int)+2<=512:=by omega
 go_wp2;go_still_tail 6,(by kernel_rfl)
 change wpList _ _ _ _ _ (World.drew _);have hpg7:=Hpg6.out.drew;have ht7:=Ht6.out.drew;have hm7:=φ hm6.out.drew;generalize w6.drew=w7 at *;refine wpList_copy_pg rfl _ _ rfl g c L2 X hpg7 _ _ _ _ _ _ (i+2) K rfl rfl ?_ (hk.mod hm7.out hB).rb.src ?_ ?_ ?_
 ·have:=Hkl.out;omega
 ·intro h;rw[if_neg (by omega)]
 ·have:=Hkl.out;omega
 generalize (if c=i+2 then some (⟨g,0,none⟩:Addr) else some ⟨g,i+2,none⟩)=da7;intro w8 hpg8 hm8 hs8;have Hm8:=φ (hm7.out.trans hm8);have Ht8:=φ (ht7.mod hm8 hzg);have Hpg8:=φ hpg8;clear hpg7 ht7 hm7 hm8 hs8 hpg8 Hpg6 Ht6 hm6 z0 z1 z2;obtain⟨L3,hL3⟩:∃ L3,L3=Go.splice L2 (i+2) K:=⟨_,rfl⟩
 rw[<- hL3] at Hpg8;have HL3:=φ hL3;clear hL3;obtain⟨z0,z1,z2⟩:=Ht8.out.cells;have v1:IntKind.i64.wrap ((i:Int)+2+(kn:Int))=(i:Int)+2+(kn:Int):=IntWalk.i64_in _ (by omega);have v2:0<=(i:Int)+2+(kn:Int):=by omega
 have v3:((i:Int)+2+(kn:Int)).toNat=i+2+kn:=by omega
 have hi3:(i:Int)+2+(kn:Int)<=512:=by omega
 go_wp2;go_still_tail 10,(by kernel_rfl)
 change wpList _ _ _ _ _ (World.drew _);have hpg9:=Hpg8.out.drew;have ht9:=Ht8.out.drew;have hm9:=φ Hm8.out.drew;generalize w8.drew=w9 at *;refine wpList_copy_pg rfl _ _ rfl g c L3 X hpg9 _ _ _ _ _ _ (i+2+kn) N rfl rfl ?_ (hn.mod hm9.out hB).rb.src ?_ ?_ ?_
 ·have:=Hnl.out;omega
 ·intro h;rw[if_neg (by have:=Hnl.out;omega)]
 ·have:=Hnl.out;omega
 generalize (if c=i+2+kn then some (⟨g,0,none⟩:Addr) else some ⟨g,i+2+kn,none⟩)=da9;intro w10 hpg10 hm10 hs10;have Hm10:=φ (hm9.out.trans hm10);clear Ht8 z0 z1 z2 hm9 hpg9 ht9 hm10 hs10 Hpg8 Hm8;obtain⟨L4,hL4⟩:∃ L4,L4=Go.splice L3 (i+2+kn) N:=⟨_,rfl⟩
 rw[<- hL4] at hpg10;have HL4:=φ hL4;clear hL4;have k10:=hpg10.cell 10 (by omega);have f10:=hpg10.frozen 10;have r10:IntKind.u8.wrap (bt L4 10+1)=((L4.getD 10 0+1).toNat:Int):=u8_inc _ _;have Hpg10:=φ hpg10;clear hpg10;have hpgf:=Hpg10.out.set 10 (L4.getD 10 0+1) (by omega);have Hpgf:=φ hpgf;obtain⟨nv,hnv⟩:∃ nv:Int,nv=((L4.getD 10 0+1).toNat:Int):=⟨_,rfl⟩
 rw[<- hnv] at r10;have Hnv:=φ hnv;clear hpgf hnv;have hlen4:=Hpg10.out.len;obtain⟨L5,hL5⟩:∃ L5,L5=L4.set 10 (L4.getD 10 0+1):=⟨_,rfl⟩
 rw[<- hL5] at Hpgf;have hb5:bt L5 10=nv:=by
  rw[Hnv.out,hL5];unfold bt;rw[List.getD_eq_getElem?_getD,List.getElem?_set_self (by rw[hlen4];omega),Option.getD_some]
 have r11:IntKind.u8.wrap (nv-1)=((L5.getD 10 0+(0-1)).toNat:Int):=by rw[<- hb5];exact u8_dec _ _
 have hpgg:=Hpgf.out.set 10 (L5.getD 10 0+(0-1)) (by omega);obtain⟨nv2,hnv2⟩:∃ nv2:Int,nv2=((L5.getD 10 0+(0-1)).toNat:Int):=⟨_,rfl⟩
 rw[<- hnv2] at r11;rw[<- Hnv.out,<- hnv2] at hpgg;have Hpgg:=φ hpgg;have HL5:=φ hL5;clear hpgg hnv2 hL5 hb5 hlen4;go_wp2;go_ret;have hT:turnBytes L i e (βL L) K N true=counted L5 (0-1):=by
  unfold turnBytes wiped moved laid;dsimp only;simp only[if_neg hN];have hnl:last-(e-i)+(2+kn+nn)<last:=by omega
  rw[<- Hlast.out,<- Hkl.out,<- Hnl.out,if_pos hnl,HL5.out,HL4.out,HL3.out,HL2.out,HL1'.out,HL1.out,Hnw.out,Hsz.out];rfl
 refine⟨by rw[Hfin.out];rfl,?_,?_⟩
 ·rw[Hfin.out];show PG _ g c (turnBytes L i e (βL L) K N true) X;rw[hT];exact Hpgg.out
 ·exact (Hm10.out.set g 10 _).set g 10 _
end
end Go.Proofs.YtohlkkannjifmaaGreatDoor
