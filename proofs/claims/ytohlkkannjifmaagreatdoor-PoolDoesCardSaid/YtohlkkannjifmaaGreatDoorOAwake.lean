import Derived.Test.YtohlkkannjifmaaGreatDoorOLawV
namespace Go.Proofs.YtohlkkannjifmaaGreatDoor
set_option maxHeartbeats 8000000
set_option maxRecDepth 100000
open Go.RowKit Go.Shelf
variable {D:DK} {c:Int->List UInt8} {L:LK} {b b0 b1 d g i k k0 k2 l p rb rm:Nat} {S:Nat->Prop} {P:PK} {R:RecV} {W w w0:World}
structure RecC (w:World) (b:Nat) (r:RecV) (ka oa na da pa:Option Addr) (kc oc nc dc pc:Nat):Prop where
 c0:w.cell? ⟨b,0,none⟩=some (.int .i64 r.lsn)
 c1:w.cell? ⟨b,1,none⟩=some (.int .i64 r.work)
 c2:w.cell? ⟨b,2,none⟩=some (.int .i64 r.prev)
 c3:w.cell? ⟨b,3,none⟩=some (.int .i64 r.next)
 c4:w.cell? ⟨b,4,none⟩=some (.int .u8 r.kind)
 c5:w.cell? ⟨b,5,none⟩=some (.int .i64 r.page)
 c6:w.cell? ⟨b,6,none⟩=some (.slice ka r.key.length kc)
 c7:w.cell? ⟨b,7,none⟩=some (.slice oa r.old.length oc)
 c8:w.cell? ⟨b,8,none⟩=some (.slice na r.new.length nc)
 c9:w.cell? ⟨b,9,none⟩=some (.slice da r.dirty.length dc)
 c10:w.cell? ⟨b,10,none⟩=some (.slice pa r.opn.length pc)
theorem ζ {r:RecV} {ka oa na da pa:Option Addr} {kc oc nc dc pc:Nat} (h:w.heap[b]? = some (recObj r ka oa na da pa kc oc nc dc pc)):RecC w b r ka oa na da pa kc oc nc dc pc :=
 ⟨cell_of_row _ _ 0 _ _ _ h,cell_of_row _ _ 1 _ _ _ h,cell_of_row _ _ 2 _ _ _ h,cell_of_row _ _ 3 _ _ _ h,cell_of_row _ _ 4 _ _ _ h,cell_of_row _ _ 5 _ _ _ h,cell_of_row _ _ 6 _ _ _ h,cell_of_row _ _ 7 _ _ _ h,cell_of_row _ _ 8 _ _ _ h,cell_of_row _ _ 9 _ _ _ h,cell_of_row _ _ 10 _ _ _ h⟩
structure AwX (w:World) (S:Nat->Prop) (rb b0 b1 k0 k2:Nat) (R:RecV):Prop where
 blk:w.heap[rb]? = some (recObj R (some ⟨b0,0,none⟩) none (some ⟨b1,0,none⟩) none none k0 0 k2 0 0)
 r0:RB w.heap.size w (some ⟨b0,0,none⟩) 1 k0 awK
 r1:RB w.heap.size w (some ⟨b1,0,none⟩) 1 k2 awV
 sr:¬ S rb
 s0:¬ S b0
 s1:¬ S b1
 l0:b0<w.heap.size
 l1:b1<w.heap.size
theorem AwX.mv {w':World} {S':Nat->Prop} (h:AwX w S rb b0 b1 k0 k2 R) (hm:Mv S S' w w'):AwX w' S' rb b0 b1 k0 k2 R:=by
 have hout:∀ b,¬ S b->b<w.heap.size->¬ S' b:=fun b hb hl hs=>by
  rcases hm.sub b hs with h1|h1
  ·exact hb h1
  ·omega
 have hrl:=ξ h.blk;have hsz:=hm.trn.size;refine⟨(hm.trn.block rb hrl h.sr).trans h.blk,?_,?_,hout _ h.sr hrl,hout _ h.s0 h.l0,hout _ h.s1 h.l1,Nat.lt_of_lt_of_le h.l0 hsz,Nat.lt_of_lt_of_le h.l1 hsz⟩
 ·exact (RB.of_block h.r0 fun b o s e _ hb=>hm.trn.block b hb (by cases e;exact h.s0)).mono hsz
 ·exact (RB.of_block h.r1 fun b o s e _ hb=>hm.trn.block b hb (by cases e;exact h.s1)).mono hsz
theorem AwX.drew (h:AwX w S rb b0 b1 k0 k2 R):AwX w.drew S rb b0 b1 k0 k2 R:=h.mv ⟨(Trn.refl S w).drew,fun _ hg=>.inl hg⟩
theorem AwR.drew (h:AwR w0 g d l p i rm k W S D L P c):AwR w0 g d l p i rm k W.drew S D L P c:=h.below (Below.refl _ W).drew
theorem AwX.lsn {i:Int} (h:AwX w S rb b0 b1 k0 k2 (rowR i awK awV)) (n:Int) (h0:b0≠rb) (h1:b1≠rb):AwX (w.setCell ⟨rb,0,none⟩ (.int .i64 n)) S rb b0 b1 k0 k2 (rowN i n):=by
 have hsz:(w.setCell ⟨rb,0,none⟩ (.int .i64 n)).heap.size=w.heap.size:=size_set _ _ _ _;refine⟨set_at h.blk 0 (.int .i64 n),?_,?_,h.sr,h.s0,h.s1,by rw[hsz];exact h.l0,by rw[hsz];exact h.l1⟩
 ·exact (RB.of_block h.r0 fun b o s e _ _=>set_ne (by cases e;exact h0)).mono (by rw[hsz];exact Nat.le_refl _)
 ·exact (RB.of_block h.r1 fun b o s e _ _=>set_ne (by cases e;exact h1)).mono (by rw[hsz];exact Nat.le_refl _)
theorem AwX.frozen (h:AwX w S rb b0 b1 k0 k2 R):w.frozen? ⟨rb,0,none⟩=false:=by
 have:=h.blk;unfold recObj at this;simp[World.frozen?,this]
theorem AwR.set (h:AwR w0 g d l p i rm k W S D L P c) (hb:b≠g) (hs:¬ S b) (h0:w0.heap.size<=b) (j:Nat) (v:Value):AwR w0 g d l p i rm k (W.setCell ⟨b,j,none⟩ v) S D L P c :=
 ⟨h.rig.keep (fun x hx=>set_ne (fun e=>hs (by rw[<- e];exact hx))) (by rw[size_set];exact Nat.le_refl _) (Nat.le_refl _),(set_ne (Ne.symm hb)).trans h.blk,h.bel.setCell (p:=⟨b,j,none⟩) h0 v,h.ge,h.gg,h.gs,h.first,h.count,h.most,h.room,h.en,h.todo,h.did,h.fr,h.pg⟩
theorem AwR.mono {rm' k':Nat} (h:AwR w0 g d l p i rm k W S D L P c) (hk:k<=k') (hr:rm<=rm'):AwR w0 g d l p i rm' k' W S D L P c :=
 ⟨h.rig.mono hk,h.blk,h.bel,h.ge,h.gg,h.gs,h.first,h.count,h.most,Nat.le_trans h.room hr,h.en,h.todo,h.did,h.fr,h.pg⟩
theorem aw_row (j:Nat) (W:World):Calls Tryz.prog 36 #[.int .i64 (j:Int),.string ⟨#[107]⟩,.string ⟨#[118]⟩] W fun e w'=>Below W.heap.size W w'/\∃ b0 b1 k0 k2,e=.returned (recV (rowR (j:Int) awK awV) (some ⟨b0,0,none⟩) none (some ⟨b1,0,none⟩) none none k0 0 k2 0 0)/\W.heap.size<=b0/\W.heap.size<=b1 /\
  RB w'.heap.size w' (some ⟨b0,0,none⟩) 1 k0 awK/\RB w'.heap.size w' (some ⟨b1,0,none⟩) 1 k2 awV:=lrow_any (j:Int) ⟨#[107]⟩ ⟨#[118]⟩ W (by decide) (by decide)
theorem RB.blk_lt {B:Nat} {n c:Nat} {l:List UInt8} (h:RB B w (some ⟨b,0,none⟩) n c l) (h0:0<n):b<B:=by
 obtain⟨b',o,e,hb,-⟩:=h.at_ (by have:=h.le;omega)
 cases e
 exact hb
theorem aw_box {w2:World} (h:AwR w0 g d l p i rm k W S D L P c) (hb:Below W.heap.size W w2) (h0:W.heap.size<=b0) (h1:W.heap.size<=b1)
  (r0:RB w2.heap.size w2 (some ⟨b0,0,none⟩) 1 k0 awK) (r1:RB w2.heap.size w2 (some ⟨b1,0,none⟩) 1 k2 awV):AwR w0 g d l p i rm k (w2.alloc (recObj R (some ⟨b0,0,none⟩) none (some ⟨b1,0,none⟩) none none k0 0 k2 0 0)) S D L P c /\
   AwX (w2.alloc (recObj R (some ⟨b0,0,none⟩) none (some ⟨b1,0,none⟩) none none k0 0 k2 0 0)) S w2.heap.size b0 b1 k0 k2 R/\b0≠w2.heap.size/\b1≠w2.heap.size/\w2.heap.size≠g/\w0.heap.size<=w2.heap.size:=by
 have hal:Below w2.heap.size w2 (w2.alloc (recObj R (some ⟨b0,0,none⟩) none (some ⟨b1,0,none⟩) none none k0 0 k2 0 0)):=(Below.refl _ w2).alloc (Nat.le_refl _) _;have hg:=ξ h.blk;have hs:=hb.size;have l0:=r0.blk_lt (by omega);have l1:=r1.blk_lt (by omega);refine⟨h.below (hb.trans (hal.mono hs)),⟨heap_alloc_new w2 _,(r0.below hal).mono hal.size,(r1.below hal).mono hal.size,fun hS=>?_,fun hS=>?_,fun hS=>?_,Nat.lt_of_lt_of_le l0 hal.size,Nat.lt_of_lt_of_le l1 hal.size⟩,by omega,by omega,by omega,Nat.le_trans h.bel.size hs⟩
 ·have:=h.rig.lt _ hS;omega
 ·have:=h.rig.lt _ hS;omega
 ·have:=h.rig.lt _ hS;omega
theorem OR.form {base:Nat} {v:Value} {R:List (List UInt8×List UInt8)} (h:OR base W v R):∃ a c,v=.slice a R.length c:=by
 obtain⟨cs,⟨e,⟨h2,h3⟩|⟨g,cap,cur,hv,-⟩⟩,-⟩:=h
 ·exact⟨none,0,by rw[h2];first|rw[h3]|(rw[show R.length=0 by omega])⟩
 ·exact⟨_,_,hv⟩
theorem lawake_any (w:World):Calls Tryz.prog 7 #[] w fun e w'=>e=.returned (.bool true)/\Below w.heap.size w w':=by
 have HB:Hid (Calls Tryz.prog 8 #[.int .i64 9,.int .i64 4] w (BegR 4 9 w)):=φ (begin_rig 4 9 w (by omega) (by omega) (by omega) (by omega));go_enter Tryz.func7,Tryz.ntmps7;go_wp2_with (go_at_call 8;refine HB.out.mono ?_;rintro e w1 ⟨g,S,d,l,p,rfl,hg,hr,hb,hA,hge,hng⟩;have hs:=AwR.start hg hr hb hA hge hng;obtain⟨c1,c2⟩:=hs.cells;have HS:=φ hs;clear hg hr hb hA hge hng hs);go_loopw [2] (fun i wr=>∃ (j:Nat) (S:Nat->Prop) (D:DK) (L:LK) (P:PK) (c:Int->List UInt8),j<=9/\i=.int .i64 j/\Hid (AwR w g d l p j (40*j) (50000*j) wr S D L P c)) (fun i _=>9-(intOf i).toNat)
 case atStart=>exact⟨0,_,_,_,_,_,Nat.zero_le _,rfl,HS⟩
 case round =>
  obtain⟨j,S1,D1,L1,P1,k1,hj,rfl,HA⟩:=hrel;obtain⟨W,rfl⟩:∃ z,z=wr:=⟨_,rfl⟩
  obtain⟨e1,e2⟩:=HA.out.cells;by_cases hlt:j<9
  ·have hlt':(j:Int)<9:=by omega
   have HLt:=φ hlt;have hrow:=aw_row j W;obtain⟨R,hR⟩:∃ R,R=rowR (j:Int) awK awV:=⟨_,rfl⟩
   rw[<- hR] at hrow;have HRv:=φ hR;have HR:=φ hrow;unfold recV at HR;clear hrow hR;go_wp2_with (go_at_call 36;refine HR.out.mono ?_;rintro e w2 ⟨hb2,b0,b1,k0,k2,rfl,hb0,hb1,hr0,hr1⟩;obtain⟨ha3,hx3,n0,n1,n2,n3⟩:=aw_box (R:=R) HA.out hb2 hb0 hb1 hr0 hr1;have HA3:=φ ha3;have HX3:=φ hx3;have HN:=φ (And.intro n0 (And.intro n1 (And.intro n2 n3)));clear hb2 hb0 hb1 hr0 hr1 ha3 hx3 n0 n1 n2 n3);clear e1 e2;unfold recObj at HA3 HX3;generalize hw3:World.alloc w2 _=w3 at HA3 HX3 ⊢;obtain⟨rb,hrb⟩:∃ q,q=w2.heap.size:=⟨_,rfl⟩
   rw[<- hrb] at HX3 HN ⊢;clear hw3 hrb;obtain⟨e1,e2⟩:=HA3.out.cells;obtain⟨q0,q1,q2,q3,q4,q5,q6,q7,q8,q9,q10⟩:=ζ HX3.out.blk;have HP:=φ (AwR.app HA3.out.drew HLt.out (by have:=HLt.out;omega) (by have:=HLt.out;omega) b0 b1 k0 k2 HX3.out.drew.r0 HX3.out.drew.r1);rw[<- HRv.out] at HP;unfold recV at HP;go_region_held3 (fun w'=>w'.cell? ⟨g,1,none⟩=some (.pointer (some ⟨l,0,none⟩))/\w'.cell? ⟨rb,0,none⟩=some (.int .i64 R.lsn)/\w'.cell? ⟨rb,1,none⟩=some (.int .i64 R.work)/\w'.cell? ⟨rb,2,none⟩=some (.int .i64 R.prev)/\w'.cell? ⟨rb,3,none⟩=some (.int .i64 R.next)/\w'.cell? ⟨rb,4,none⟩=some (.int .u8 R.kind)/\w'.cell? ⟨rb,5,none⟩=some (.int .i64 R.page)/\w'.cell? ⟨rb,6,none⟩=some (.slice (some ⟨b0,0,none⟩) R.key.length k0)/\w'.cell? ⟨rb,7,none⟩=some (.slice none R.old.length 0)/\w'.cell? ⟨rb,8,none⟩=some (.slice (some ⟨b1,0,none⟩) R.new.length k2)/\w'.cell? ⟨rb,9,none⟩=some (.slice none R.dirty.length 0)/\w'.cell? ⟨rb,10,none⟩=some (.slice none R.opn.length 0)) (first|go_keep|exact⟨by assumption,by assumption,by assumption,by assumption,by assumption,by assumption,by assumption,by assumption,by assumption,by assumption,by assumption,by assumption⟩) (first|(go_at_call 11;refine HP.out.mono ?_;rintro e w4 ⟨S4,L4,rfl,ha4,hen4,hm4⟩;have hx4:=HX3.out.drew.mv hm4;obtain⟨x4_0,x4_1,x4_2,x4_3,x4_4,x4_5,x4_6,x4_7,x4_8,x4_9,x4_10⟩:=ζ hx4.blk;obtain⟨y41,y42⟩:=ha4.cells;have HA4:=φ ha4;have HX4:=φ hx4;have HE4:=φ hen4;clear ha4 hx4 hm4 hen4));clear e1 e2 q0 q1 q2 q3 q4 q5 q6 q7 q8 q9 q10;have z4:=HX4.out.frozen;have hne4:=HA3.out.en;obtain⟨n,hn⟩:∃ q,q=L1.end_:=⟨_,rfl⟩
   rw[<- hn] at hne4 HE4 ⊢;have HNe:=φ hne4;clear hn hne4 HP;go_wp2_with (fail);clear z4 y41 y42 x4_0 x4_1 x4_2 x4_3 x4_4 x4_5 x4_6 x4_7 x4_8 x4_9 x4_10;generalize hw5:World.setCell _ _ _=w5;have ha5:AwR w g d l p j (40*j+40) (50000*j+1) w5 S4 D1 L4 P1 k1:=by rw[<- hw5];exact HA4.out.set HN.out.2.2.1 HX4.out.sr HN.out.2.2.2 0 _
   obtain⟨R2,hR2⟩:∃ R2,R2=rowN (j:Int) n:=⟨_,rfl⟩
   have hx5:AwX w5 S4 rb b0 b1 k0 k2 R2:=by rw[<- hw5,hR2];rw[HRv.out] at HX4;exact HX4.out.lsn n HN.out.1 HN.out.2.1
   clear hw5;obtain⟨y51,y52⟩:=ha5.cells;obtain⟨x5_0,x5_1,x5_2,x5_3,x5_4,x5_5,x5_6,x5_7,x5_8,x5_9,x5_10⟩:=ζ hx5.blk;have HA5:=φ ha5;have HX5:=φ hx5;have HR2:=φ hR2;clear ha5 hx5 hR2;have HP:=φ (AwR.doA HA5.out.drew HLt.out (by have:=HLt.out;omega) n HNe.out HE4.out b0 b1 k0 k2 HX5.out.drew.r0 HX5.out.drew.r1 HX5.out.s0 HX5.out.s1);rw[<- HR2.out] at HP;unfold recV at HP;go_region_held3 (fun w'=>w'.cell? ⟨g,2,none⟩=some (.pointer (some ⟨p,0,none⟩))/\w'.cell? ⟨rb,0,none⟩=some (.int .i64 R2.lsn)/\w'.cell? ⟨rb,1,none⟩=some (.int .i64 R2.work)/\w'.cell? ⟨rb,2,none⟩=some (.int .i64 R2.prev)/\w'.cell? ⟨rb,3,none⟩=some (.int .i64 R2.next)/\w'.cell? ⟨rb,4,none⟩=some (.int .u8 R2.kind)/\w'.cell? ⟨rb,5,none⟩=some (.int .i64 R2.page)/\w'.cell? ⟨rb,6,none⟩=some (.slice (some ⟨b0,0,none⟩) R2.key.length k0)/\w'.cell? ⟨rb,7,none⟩=some (.slice none R2.old.length 0)/\w'.cell? ⟨rb,8,none⟩=some (.slice (some ⟨b1,0,none⟩) R2.new.length k2)/\w'.cell? ⟨rb,9,none⟩=some (.slice none R2.dirty.length 0)/\w'.cell? ⟨rb,10,none⟩=some (.slice none R2.opn.length 0)) (first|go_keep|exact⟨by assumption,by assumption,by assumption,by assumption,by assumption,by assumption,by assumption,by assumption,by assumption,by assumption,by assumption,by assumption⟩) (first|(go_at_call 12;refine HP.out.mono ?_;rintro e w6 ⟨S6,D6,L6,P6,c6,rfl,ha6,hen6,hc6,hm6⟩;have hx6:=HX5.out.drew.mv hm6;obtain⟨x6_0,x6_1,x6_2,x6_3,x6_4,x6_5,x6_6,x6_7,x6_8,x6_9,x6_10⟩:=ζ hx6.blk;obtain⟨y61,y62⟩:=ha6.cells;have HA6:=φ ha6;have HX6:=φ hx6;have HE6:=φ (And.intro hen6 hc6);clear ha6 hx6 hm6 hen6 hc6));clear y51 y52 HP x5_0 x5_1 x5_2 x5_3 x5_4 x5_5 x5_6 x5_7 x5_8 x5_9 x5_10;have HP:=φ (AwR.doB HA6.out.drew HLt.out (by have:=HLt.out;omega) n HNe.out (by rw[HE6.out.1];exact HE4.out) HE6.out.2 b0 b1 k0 k2 HX6.out.drew.r0 HX6.out.drew.r1 HX6.out.s0 HX6.out.s1);rw[<- HR2.out] at HP;unfold recV at HP;go_upto_region 11 with (fail);go_region_held3 (fun w'=>w'.cell? ⟨g,2,none⟩=some (.pointer (some ⟨p,0,none⟩))/\w'.cell? ⟨rb,0,none⟩=some (.int .i64 R2.lsn)/\w'.cell? ⟨rb,1,none⟩=some (.int .i64 R2.work)/\w'.cell? ⟨rb,2,none⟩=some (.int .i64 R2.prev)/\w'.cell? ⟨rb,3,none⟩=some (.int .i64 R2.next)/\w'.cell? ⟨rb,4,none⟩=some (.int .u8 R2.kind)/\w'.cell? ⟨rb,5,none⟩=some (.int .i64 R2.page)/\w'.cell? ⟨rb,6,none⟩=some (.slice (some ⟨b0,0,none⟩) R2.key.length k0)/\w'.cell? ⟨rb,7,none⟩=some (.slice none R2.old.length 0)/\w'.cell? ⟨rb,8,none⟩=some (.slice (some ⟨b1,0,none⟩) R2.new.length k2)/\w'.cell? ⟨rb,9,none⟩=some (.slice none R2.dirty.length 0)/\w'.cell? ⟨rb,10,none⟩=some (.slice none R2.opn.length 0)) (first|go_keep|exact⟨by assumption,by assumption,by assumption,by assumption,by assumption,by assumption,by assumption,by assumption,by assumption,by assumption,by assumption,by assumption⟩) (first|(go_at_call 12;refine HP.out.mono ?_;rintro e w7 ⟨S7,D7,L7,P7,rfl,ha7,hm7⟩;have hx7:=HX6.out.drew.mv hm7;obtain⟨x7_0,x7_1,x7_2,x7_3,x7_4,x7_5,x7_6,x7_7,x7_8,x7_9,x7_10⟩:=ζ hx7.blk;obtain⟨y71,y72⟩:=ha7.cells;have HA7:=φ ha7;have HX7:=φ hx7;clear ha7 hx7 hm7));clear y61 y62 y71 y72 HP x6_0 x6_1 x6_2 x6_3 x6_4 x6_5 x6_6 x6_7 x6_8 x6_9 x6_10 x7_0 x7_1 x7_2 x7_3 x7_4 x7_5 x7_6 x7_7 x7_8 x7_9 x7_10;go_wp2_with (fail);go_roundw
   case rel=>exact⟨j+1,S7,D7,L7,P7,c6,by omega,by go_num,φ (HA7.out.mono (by omega) (by omega))⟩
   case measure=>simp[intOf];omega
  ·have hj9:j=9:=by omega
   subst hj9;have HA9:Hid (AwR w g d l p 9 400 (450000+10000*0) W S1 D1 L1 P1 k1):=φ (HA.out.mono (by omega) (by omega));clear HA HB HS c1 c2 hlt hj;go_wp2_with (fail);go_loopw [10] (fun i wr=>∃ (j:Nat) (S:Nat->Prop) (D:DK) (L:LK) (P:PK) (c:Int->List UInt8),j<=9/\i=.int .i64 j/\Hid (AwR w g d l p 9 400 (450000+10000*j) wr S D L P c)) (fun i _=>9-(intOf i).toNat)
   case atStart=>exact⟨0,_,_,_,_,_,Nat.zero_le _,rfl,HA9⟩
   case round =>
    clear e1 e2 HA9;obtain⟨j,S2,D2,L2,P2,k2,hj,rfl,HA⟩:=hrel;obtain⟨V,rfl⟩:∃ z,z=wr:=⟨_,rfl⟩
    obtain⟨e1,e2⟩:=HA.out.cells;by_cases hlt:j<9
    ·have hlt':(j:Int)<9:=(by omega);have HP:=φ (AwR.read HA.out j hlt (by omega));have HJ:=φ hlt;go_wp2_with (first
      | (go_at_call 13;refine HP.out.mono ?_;rintro e w4 ⟨S4,D4,L4,P4,v,a,cc,n,rfl,rfl,hr4,h0,h1,ha4⟩;have HA4:=φ ha4;have HW:=φ (Rows_any w4.heap.size a 512 cc _ w4 hr4 (Nat.le_refl _));have HR:=φ (aw_rows h0 h1);clear ha4 hr4 h0 h1)
      | (go_at_call 37;refine HW.out.mono ?_;rintro e w5 ⟨⟨v5,rfl,ho5⟩,hb5⟩;obtain⟨a5,c5,rfl⟩:=ho5.form;rw[HR.out];have HA5:=φ (HA4.out.below hb5);clear ho5 hb5))
     go_roundw
     case rel =>
      refine⟨_,_,_,_,_,_,_,_,_,_,_,_,_,_,_,_,_,_,_,_,_,_,_,_,_,?_,rfl⟩;exact⟨j+1,S4,D4,L4,P4,k2,by have:=HJ.out;omega,by go_num,φ (HA5.out.mono (by omega) (Nat.le_refl _))⟩
     case measure=>have:=HJ.out;simp[intOf];omega
    ·have hj9:j=9:=(by omega);subst hj9;have HP:=φ (AwR.frames HA.out);have HBe:=φ HA.out.bel;clear hlt hj;go_wp2_with (go_at_call 15;refine HP.out.mono ?_;rintro e w4 ⟨rfl,rfl⟩);go_ret;exact⟨rfl,HBe.out⟩
end Go.Proofs.YtohlkkannjifmaaGreatDoor
