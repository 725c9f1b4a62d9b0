import Derived.Test.YtohlkkannjifmaaGreatDoorOPdL
namespace Go.Proofs.YtohlkkannjifmaaGreatDoor
section
open Go.RowKit Go.Shelf
variable {d l mb p:Nat} {Mr S:Nat->Prop} {vs:Value} {w w2 wr:World}
structure ModP (lo:Nat) (w2 w:World) (mb i:Nat) (Mr:Nat->Prop) (vs:Value) (X:List SlAt) (A:Nat->List VerAt):Prop where
 mod:ModE w Mr mb i (fun j=>V0 j) vs (.slice none 0 0) X A []
 lo_:∀ g,ModB Mr mb i vs (.slice none 0 0) X g->lo<=g
 bel:Below lo w2 w
 sz:lo<=w.heap.size
theorem ModP.step {lo:Nat} {w9:World} {i g c:Nat} {X:List SlAt} {A:Nat->List VerAt} (h:ModP lo w2 wr mb i Mr vs X A)
  (hrow:slE.Own 0 w9 (.slice (some ⟨g,0,none⟩) (i+1) c) (X++[(some ⟨wr.heap.size+1,0,none⟩,1,1)])) (hg:(pgW3 wr).grownBy w9 vs.ownBlock) (hgg:vs.ownBlock=some g∨g=(pgW3 wr).heap.size) :
  ModP lo w2 (w9.setCell ⟨mb,0,none⟩ (.slice (some ⟨g,0,none⟩) (i+1) c)) mb (i+1) (fun b=>Mr b∨b=wr.heap.size) (.slice (some ⟨g,0,none⟩) (i+1) c) (X++[(some ⟨wr.heap.size+1,0,none⟩,1,1)]) (fun j=>if j=i then [(some ⟨wr.heap.size,0,none⟩,512)] else A j):=by
 have s3:=pgW3_size wr;have hs:=h.sz;have hmb:lo<=mb:=h.lo_ mb (.inl rfl);have hv:∀ k,vs.ownBlock=some k->lo<=k:=fun k e=>h.lo_ k (.inr (.inl e))
 have hb9:Below lo w2 w9:=(h.bel.trans ((pgW3_below wr).mono hs)).grown hg (by omega) (fun k e=>hv k e);refine⟨page_step h.mod hrow hg hgg,fun k hk=>?_,hb9.setCell (p:=⟨mb,0,none⟩) hmb _,by rw[set_size];have:=hg.size;omega⟩;rcases hk with rfl|hk|hk|⟨j,hj,hk⟩|hk|hk
 ·exact hmb
 ·have e:g=k:=Option.some.inj hk;subst e;rcases hgg with h1|h1
  ·exact hv g h1
  ·omega
 ·cases hk
 ·have hxl:=h.mod.xl;by_cases hji:j=i
  ·subst hji;rw[getD_last X _ _ j hxl.symm] at hk;have e:wr.heap.size+1=k:=Option.some.inj hk;omega
  ·rw[getD_left X _ _ j (by omega)] at hk;exact h.lo_ k (.inr (.inr (.inr (.inl ⟨j,by omega,hk⟩))))
 ·exact h.lo_ k (.inr (.inr (.inr (.inr hk))))
 ·omega
theorem ModP.start {w3:World} (hw:w3=w2.alloc (.cells #[.slice none 0 0,.slice none 0 0] 72)):ModP w2.heap.size w2 w3 w2.heap.size 0 (fun _=>False) (.slice none 0 0) [] (fun _=>[]):=by
 have hb:Below w2.heap.size w2 w3:=by rw[hw];exact below_allocL' w2 _
 refine⟨ModE.none_ (by rw[hw];exact heap_alloc_new w2 _),fun g hg=>?_,hb,hb.size⟩;rcases hg with rfl|hk|hk|⟨j,hj,-⟩|hk
 ·exact Nat.le_refl _
 ·cases hk
 ·cases hk
 ·exact absurd hj (Nat.not_lt_zero j)
 ·exact hk.elim
theorem lastV0 (n:Int):LastV V0 zC n:=fun _i _ _=>rfl
theorem begin_ds {gb n fr:Nat} {X:List SlAt} {A:Nat->List VerAt} (hn:1<=n/\n<=40) (hg:w2.heap[gb]? = some (rigObj d l p)) (hr:Rig S w2 d l p 0 (DK.fresh (40+(n:Int))) (LK.fresh 40) (PK.fresh fr 40 n) zC) (hw:Below w.heap.size w w2)
  (hS:∀ g,S g->w.heap.size<=g) (hgb:w.heap.size<=gb) (hng:¬ S gb) (h:ModP w2.heap.size w2 wr mb n Mr vs X A) :
  DS w.heap.size wr gb mb n 1 d l p ⟨S,DK.fresh (40+(n:Int)),LK.fresh 40,PK.fresh fr 40 n,zC,V0⟩ ⟨Mr,V0,vs,.slice none 0 0,X,A,[]⟩:=by
 have hs:=hw.size;have hglt:=ξ hg;refine⟨(hr.below h.bel).mono (Nat.zero_le 1),rfl,rfl,hn,fresh_std fr n,h.mod,(h.bel.block gb hglt).trans hg,fun g hg'=>⟨fun e=>hng (by rw[<- e];exact hg'),fun hB=>?_⟩,fun hB=>?_,fun g hg'=>?_,Nat.le_trans hs h.sz,fun i=>Nat.le_refl 1,Nat.zero_le 1⟩
 ·have h1:=h.lo_ g hB;have h2:=hr.lt g hg';omega
 ·have h1:=h.lo_ gb hB;omega
 ·rcases hg' with h1|h1|h1
  ·exact hS g h1
  ·have:=h.lo_ g h1;omega
  ·rw[h1];exact hgb
theorem Rig.pages {K:Nat} {D:DK} {L:LK} {P:PK} {c:Int->List UInt8} (h:Rig S w d l p K D L P c):Calls Tryz.prog 28 #[.pointer (some ⟨p,0,none⟩)] w fun e w'=>e=.returned (.int .i64 P.count)/\w'=w:=by
 obtain⟨U,V,ds,do_,sv,m,hand,Q,B,Us,hr,hA⟩:=h.rg;exact pages_any w p d P.count (cell_of_row _ _ 7 _ _ _ hr.pf.blk) (cell_of_row _ _ 4 _ _ _ hr.pf.blk)
end
section
set_option maxHeartbeats 8000000
set_option maxRecDepth 100000
open Go.RowKit Go.Shelf
theorem PoolDoes_any (pages frames:Int) (va:Option Addr) (vn vc:Nat) (D:Nat->DeedV) (w:World) (hp:-9223372036854775808<=pages/\pages<=9223372036854775807) (hf:-9223372036854775808<=frames/\frames<=9223372036854775807) (hl:DeedsAt w.heap.size w va vn vc D) :
  Calls Tryz.prog 5 #[.int .i64 pages,.int .i64 frames,.slice va vn vc] w fun e w'=>e=.returned (.bool true)/\Below w.heap.size w w':=by
 have hle:=hl.le;have hmx:=hl.mx;have HL:=φ hl;clear hl;by_cases h80:(80:Int)<(vn:Int)
 ·clear hp hf;go_enter Tryz.func5,Tryz.ntmps5;go_wp2_with (go_at_call 7;refine (lawake_any _).mono ?_;rintro e w1 ⟨rfl,hb1⟩;have HB1:=φ hb1;clear hb1);go_ret;exact⟨rfl,HB1.out⟩
 by_cases h40:(40:Int)<pages
 ·clear hp hf;go_enter Tryz.func5,Tryz.ntmps5;go_wp2_with (go_at_call 7;refine (lawake_any _).mono ?_;rintro e w1 ⟨rfl,hb1⟩;have HB1:=φ hb1;clear hb1);go_ret;exact⟨rfl,HB1.out⟩
 have HV:Hid (vn<=80):=φ (by omega);have H40:Hid (pages<=40):=φ (by omega);by_cases b1:pages<1
 ·have HH:Hid (pages<1∨frames<4∨32<frames):=φ (.inl b1);have HMx:Hid (-30<=max pages (-30)/\max pages (-30)<=40/\(max pages (-30)<1∨frames<4∨32<frames)):=φ (by have:=H40.out;have:=HH.out;omega);clear hp hf;go_enter Tryz.func5,Tryz.ntmps5;go_wp2_with (first
   | (go_at_call 7;refine (lawake_any _).mono ?_;rintro e w1 ⟨rfl,hb1⟩;have HB1:=φ hb1;have HBg:=φ (begin_bad (max pages (-30)) frames w1 ⟨HMx.out.1,HMx.out.2.1⟩ HMx.out.2.2);clear hb1)
   | (go_at_call 8;(with_reducible refine HBg.out.mono ?_);rintro e w2 ⟨g,rfl,hc,hb⟩;have HB2:Hid (Below w.heap.size w w2):=φ (HB1.out.trans (hb.mono HB1.out.size));clear hb))
  go_ret;exact⟨rfl,HB2.out⟩
 by_cases b2:frames<4
 ·have HH:Hid (pages<1∨frames<4∨32<frames):=φ (.inr (.inl b2));have HMx:Hid (-30<=max pages (-30)/\max pages (-30)<=40/\(max pages (-30)<1∨frames<4∨32<frames)):=φ (by have:=H40.out;have:=HH.out;omega);clear hp hf;go_enter Tryz.func5,Tryz.ntmps5;go_wp2_with (first
   | (go_at_call 7;refine (lawake_any _).mono ?_;rintro e w1 ⟨rfl,hb1⟩;have HB1:=φ hb1;have HBg:=φ (begin_bad (max pages (-30)) frames w1 ⟨HMx.out.1,HMx.out.2.1⟩ HMx.out.2.2);clear hb1)
   | (go_at_call 8;(with_reducible refine HBg.out.mono ?_);rintro e w2 ⟨g,rfl,hc,hb⟩;have HB2:Hid (Below w.heap.size w w2):=φ (HB1.out.trans (hb.mono HB1.out.size));clear hb))
  go_ret;exact⟨rfl,HB2.out⟩
 by_cases b3:(32:Int)<frames
 ·have HH:Hid (pages<1∨frames<4∨32<frames):=φ (.inr (.inr b3));have HMx:Hid (-30<=max pages (-30)/\max pages (-30)<=40/\(max pages (-30)<1∨frames<4∨32<frames)):=φ (by have:=H40.out;have:=HH.out;omega);clear hp hf;go_enter Tryz.func5,Tryz.ntmps5;go_wp2_with (first
   | (go_at_call 7;refine (lawake_any _).mono ?_;rintro e w1 ⟨rfl,hb1⟩;have HB1:=φ hb1;have HBg:=φ (begin_bad (max pages (-30)) frames w1 ⟨HMx.out.1,HMx.out.2.1⟩ HMx.out.2.2);clear hb1)
   | (go_at_call 8;(with_reducible refine HBg.out.mono ?_);rintro e w2 ⟨g,rfl,hc,hb⟩;have HB2:Hid (Below w.heap.size w w2):=φ (HB1.out.trans (hb.mono HB1.out.size));clear hb))
  go_ret;exact⟨rfl,HB2.out⟩
 have hwp:True:=trivial;have hp1:¬ pages<1:=b1;obtain⟨n,rfl⟩:∃ n:Nat,(n:Int)=pages:=⟨pages.toNat,by omega⟩
 obtain⟨fr,rfl⟩:∃ fr:Nat,(fr:Int)=frames:=⟨frames.toNat,by omega⟩
 have HN:Hid (1<=n/\n<=40):=φ ⟨by omega,by omega⟩;have HF:Hid (4<=fr/\fr<=32):=φ ⟨by omega,by omega⟩;clear hp hf hp1 hwp;have b9:((n:Int) != (n:Int))=false:=by simp
 go_enter Tryz.func5,Tryz.ntmps5;go_upto_region 10 with (first
  | (go_at_call 7;refine (lawake_any _).mono ?_;rintro e w1 ⟨rfl,hb1⟩;have HB1:=φ hb1;have HBg:=φ (begin_rig fr n w1 HF.out.1 HF.out.2 (by have:=HN.out;omega) (by have:=HN.out;omega));clear hb1)
  | (go_at_call 8;(with_reducible refine HBg.out.mono ?_);rintro e w2 ⟨gb,S,d,l,p,rfl,hg,hr,hb,hS,hge,hng⟩;have HG:=φ (And.intro hg (And.intro hr (And.intro (HB1.out.trans (hb.mono HB1.out.size)) (And.intro (fun g h=>Nat.le_trans HB1.out.size (hS g h)) (And.intro (Nat.le_trans HB1.out.size hge) hng)))));unfold rigObj at hg;have y2:w2.cell? ⟨gb,2,none⟩=some (.pointer (some ⟨p,0,none⟩)):=cell_of_row _ _ 2 _ _ _ hg;have HPa:Hid (Calls Tryz.prog 28 #[.pointer (some ⟨p,0,none⟩)] w2 fun e w'=>e=.returned (.int .i64 (n:Int))/\w'=w2):=φ hr.pages;clear hg hr hb hS hge hng)
  | (go_at_call 28;(with_reducible refine HPa.out.mono ?_);rintro e w3 ⟨rfl,hw3⟩;subst hw3))
 clear HPa y2 b1 b2 b3 b9 h80 h40;obtain⟨w4,hw4⟩:∃ z,z=w3.alloc (.cells #[.slice none 0 0,.slice none 0 0] 72):=⟨_,rfl⟩
 obtain⟨mb,hmb⟩:∃ z,z=w3.heap.size:=⟨_,rfl⟩
 obtain⟨lo,hlo⟩:∃ z,z=w3.heap.size:=⟨_,rfl⟩
 have HM4:Hid (ModP lo w3 w4 mb 0 (fun _=>False) (.slice none 0 0) [] (fun _=>[])):=φ (by rw[hmb,hlo];exact ModP.start hw4);have HLo:=φ hlo;go_upto_region 11 with (fail);rw[<- hw4,<- hmb];clear hw4 hmb hlo;go_wp2_with (fail);go_loopw [9] (fun s9 wr=>∃ (i:Nat) (Mr:Nat->Prop) (vs:Value) (X:List SlAt) (A:Nat->List VerAt),s9=.int .i64 i/\i<=n/\Hid (ModP lo w3 wr mb i Mr vs X A)) (fun s9 _=>n-(intOf s9).toNat)
 case atStart=>exact⟨0,_,_,_,_,rfl,Nat.zero_le _,HM4⟩
 case round =>
  obtain⟨i,Mr,vs,X,A,rfl,hi,HM⟩:=hrel;obtain⟨W,rfl⟩:∃ z,z=wr:=⟨_,rfl⟩
  clear HM4;by_cases hlt:i<n
  ·have HI:=φ hlt;have c0:=HM.out.mod.mc.1;have HXl:=φ HM.out.mod.xl;go_upto_region 14 with (fail);have hSb:(fun w':World=>w'.cell? ⟨mb,0,none⟩=some vs) W.drew:=c0;refine AnyL.start 12 (fun w'=>w'.cell? ⟨mb,0,none⟩=some vs) (by kernel_rfl) ?_;refine AnyL.tk (i:=0) (v:=?tv14_0) rfl hSb ?ty14_0 ?tr14_0
   case ty14_0 =>
    intro w' hS'
    (go_simp<;>with_reducible rfl)
   try simp only[Act.put,List.setIfInBounds_toArray]
   refine AnyL.tk (i:=1) (v:=?tv14_1) rfl hSb ?ty14_1 ?tr14_1
   case ty14_1 =>
    intro w' hS'
    (go_simp<;>with_reducible rfl)
   try simp only[Act.put]
   refine AnyL.tk (i:=2) (v:=?tv14_2) rfl hSb ?ty14_2 ?tr14_2
   case ty14_2 =>
    intro w' hS'
    (go_simp<;>with_reducible rfl)
   try simp only[Act.put]
   refine AnyL.tk (i:=3) (v:=?tv14_3) rfl hSb ?ty14_3 ?tr14_3
   case ty14_3 =>
    intro w' hS'
    (go_simp<;>with_reducible rfl)
   try simp only[Act.put]
   refine AnyL.tk (i:=4) (v:=?tv14_4) rfl hSb ?ty14_4 ?tr14_4
   case ty14_4 =>
    intro w' hS'
    (go_simp<;>with_reducible rfl)
   try simp only[Act.put]
   have hmk:=make512 W.drew;refine AnyL.one (i:=5) (by kernel_rfl) rfl (fun K hK=>?_);go_simp;refine hK.out _ _ (fun _=>cell_on (below_allocL' W _) c0) (fun _=>?_);clear hK K
   try simp only[Act.put,List.setIfInBounds_toArray,List.set]
   refine AnyL.one (i:=6) (by kernel_rfl) rfl (fun K hK=>?_);go_simp;refine hK.out _ _ (fun _=>cell_on (below_allocL' W _) c0) (fun _=>?_);clear hK K
   try simp only[Act.put,List.setIfInBounds_toArray,List.set]
   refine AnyL.one (i:=7) (by kernel_rfl) rfl (fun K hK=>?_);go_simp;refine hK.out _ _ (fun _=>cell_on (below_allocL' _ _) (cell_on (below_allocL' W _) c0)) (fun _=>?_);clear hK K
   try simp only[Act.put,List.setIfInBounds_toArray,List.set]
   refine AnyL.one (i:=8) (by kernel_rfl) rfl (fun K hK=>?_);go_simp;refine hK.out _ _ (fun _=>cell_on (below_allocL' _ _) (cell_on (below_allocL' _ _) (cell_on (below_allocL' W _) c0))) (fun _=>?_);clear hK K
   try simp only[Act.put,List.setIfInBounds_toArray,List.set]
   have HOA:Hid (slE.Own 0 (pgW3 W) vs X):=φ (HM.out.mod.vrow.below (pgW3_below W));refine AnyL.one (i:=9) (by kernel_rfl) rfl (fun K hK=>?_);refine Ek.step_append1 slE rfl _ _ (by rfl) 0 vs X (some ⟨W.heap.size+1,0,none⟩,1,1) (i+1) (by rw[HXl.out]) (by rfl) HOA.out ⟨W.heap.size+2,0,none⟩ 1 (by rfl) (pg_src W) (Nat.zero_le _) (by have:=HXl.out;have:=HI.out;have:=HN.out;omega) ?_;intro g9 c9 w9 hown9 hg9 hgg9;obtain⟨hc9,hf9⟩:=page_cell HM.out.mod hg9;have O9:=φ hown9;have G9:=φ hg9;have GG9:=φ hgg9;clear hown9 hg9 hgg9;refine hK.out _ _ (fun _=>hc9) (fun _=>?_);clear hK K
   try simp only[Act.put,List.setIfInBounds_toArray]
   refine AnyL.one (i:=10) (by kernel_rfl) rfl (fun K hK=>?_);go_simp;refine hK.out _ _ (fun _=>hc9) (fun _=>?_);clear hK K
   try simp only[Act.put,List.setIfInBounds_toArray,List.set]
   refine AnyL.one (i:=11) (by kernel_rfl) rfl (fun K hK=>?_);go_simp;refine hK.out _ _ (fun _=>hc9) (fun _=>?_);clear hK K
   try simp only[Act.put,List.setIfInBounds_toArray,List.set]
   refine AnyL.one (i:=12) (by kernel_rfl) rfl (fun K hK=>?_);go_simp;refine hK.out _ _ (fun h=>absurd rfl h) (fun _=>?_);clear hK K;refine AnyL.done (by kernel_rfl) ?_;generalize hw10:World.setCell w9 _ _=w10;have HM10:Hid (ModP lo w3 w10 mb (i+1) (fun b=>Mr b∨b=W.heap.size) (.slice (some ⟨g9,0,none⟩) (i+1) c9) (X++[(some ⟨W.heap.size+1,0,none⟩,1,1)]) (fun j=>if j=i then [(some ⟨W.heap.size,0,none⟩,512)] else A j)):=φ (by rw[<- hw10];exact HM.out.step O9.out G9.out GG9.out);clear hw10 hc9 hf9 O9 G9 GG9 HOA hSb c0 hmk;go_wp2_with (fail);go_roundw
   case rel=>exact⟨i+1,_,_,_,_,by go_num,by have:=HI.out;omega,HM10⟩
   case measure=>have:=HI.out;simp[intOf];omega
  ·have hin:i=n:=by omega
   subst hin;have HDS:=φ (begin_ds HN.out HG.out.1 HG.out.2.1 HG.out.2.2.1 HG.out.2.2.2.1 HG.out.2.2.2.2.1 HG.out.2.2.2.2.2 (HLo.out ▸ HM.out));have HBW:Hid (Below w.heap.size w W):=φ (HG.out.2.2.1.trans (HM.out.bel.mono (by rw[HLo.out];exact HG.out.2.2.1.size)));clear hlt hi;go_upto_region 12 with (fail)
   iterate 19 go_step
   exact pd_loop gb mb i d l p fr _ _ W w va vn vc D HL.out HV.out HBW.out HDS.out (lastV0 _) rfl rfl _ (fun w' hb=>⟨rfl,hb⟩) _ _ _ _ _ _ _ _ _ _ _ _ _ _ _ _ _ _ _ _ _ _ _ _ _ _ _ _ _ _ _ _ _ _ _ _ _ _ _ _ _ _ _ _ _ _ _ _ _ _ _ _ _ _ _ _ _ _ _ _ _ _ _ _ _ _ _ _ _ _ _ _ _ _ _ _ _ _ _ _ _ _ _ _ _ _ _ _ _ _ _ _ _ _ _ _ _ _ _ _ _ _ _ _ _ _ _ _ _ _ _ _ _ _ _ _ _ _ _ _ _ _ _ _ _ _ _ _ _ _ _ _ _ _ _ _ _ _ _ _ _ _ _ _ _ _ _ _ _ _ _ _ _ _ _ _ _ _ _ _ _ _ _ _ _ _ _ _ _ _ _ _ _ _ _ _ _ _ _ _ _ _ _ _ _ _ _ _ _ _ _ _ _ _ _ _ _ _ _ _ _ _ _ _ _ _ _ _ _ _ _ _ _ _ _ _ _ _ _ _ _ _ _ _ _ _ _ _ _ _ _ _ _ _ _ _ _ _ _ _ _ _ _ _ _ _ _ _
end
end Go.Proofs.YtohlkkannjifmaaGreatDoor
