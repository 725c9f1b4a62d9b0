import Derived.Test.YtohlkkannjifmaaGreatDoorOPool4
namespace Go.Proofs.YtohlkkannjifmaaGreatDoor
set_option maxHeartbeats 8000000
set_option maxRecDepth 100000
open Go.RowKit
variable {x:FrV} {d hand k l m p:Nat} {Us:Nat->Bool} {Q:Nat->Nat} {V:Nat->Prop} {B:Nat->Value} {P:PK} {sv:Value}
theorem fr_tail (U V:Nat->Prop) (d ds do_ l p K:Nat) (D:DK) (L:LK) (P P':PK) (sv:Value) (m hand:Nat) (Q:Nat->Nat) (B:Nat->Value) (Us:Nat->Bool) (n:Int) (wv:Value) (idx:Nat) (W:World) (R:Ending->World->Prop)
  (h:RG W U V d ds do_ l p K D L P sv m hand Q B Us) (hn:0<=n/\n<P.count) (hnew:∀ y∈P.frames,y.page≠n) (_hK:K<=1000000000)
  (hPl:∀ W2 b0 fq v,PF W2 V p d l K P sv m hand Q B Us->NewF W2 V b0 fq v true P (P.new n D)->Calls Tryz.prog 92 #[.pointer (some ⟨p,0,none⟩),.pointer (some ⟨fq,0,none⟩),wv] W2 fun e w'=>e=.returned (.tuple #[])/\(∃ sv' Q' B' Us',Q' idx=fq/\PF w' (newV V b0 w') p d l (K+1) P' sv' m hand Q' B' Us')/\Trn V W2 w')
  (hBad:D.may (P.first+n)≠0->R (.returned (.tuple #[.pointer none,.int .i64 (D.may (P.first+n))])) W.drew)
  (hGood:D.may (P.first+n)=0->∀ w' V' sv' Q' B' Us',RG w' U V' d ds do_ l p (K+1) D L P' sv' m hand Q' B' Us'->Trn V W w'->(∀ g,V' g->V g∨W.heap.size<=g)->R (.returned (.tuple #[.pointer (some ⟨Q' idx,0,none⟩),.int .i64 0])) w') (s2 s3 s4 s5 s6 s7 s9 s10 s11 s12 s13 s14 s15 s16 s17 s18 s19 s20 s21 s22 s23 s24 s25 s26 s27 s28 s29 s30 s31 s32 s33 s34 s35 s36 s37 s38 s39 s40 s41 s42 s43 s44 s45 s46 s47 s48 s49 s50 s51 s52 s53 s54 s55 s56 s57 s58 s59 s60 s61 s62 s63 s64 s65 s66 s67 s68 s69 s70 s71 s72 s73:Value)
  (C:Act->World->Prop) (hC:∀ a w,Code.wp Tryz.prog (dropQ 5 (Tryz.f54.body.getD .skip)) (bodyPost Tryz.prog Tryz.f54 R) a w->C a w) :
  Code.wp Tryz.prog (headQ (dropQ 4 (Tryz.f54.body.getD .skip))) (Exit.then C (bodyPost Tryz.prog Tryz.f54 R)) ⟨List.toArray ((.pointer (some ⟨p,0,none⟩))::(.int .i64 n)::s2::s3::s4::s5::s6::s7::wv::s9::s10::s11::s12::s13::s14::s15::s16::s17::s18::s19::s20::s21::s22::s23::s24::s25::s26::s27::s28::s29::s30::s31::s32::s33::s34::s35::s36::s37::s38::s39::s40::s41::s42::s43::s44::s45::s46::s47::s48::s49::s50::s51::s52::s53::s54::s55::s56::s57::s58::s59::s60::s61::s62::s63::s64::s65::s66::s67::s68::s69::s70::s71::s72::s73::[]),[]⟩ W:=by
 conv at hC=>enter [a,w,1,2];whnf
 have hok:=h.pf.ok;have p4:W.cell? ⟨p,4,none⟩=some (.pointer (some ⟨d,0,none⟩)):=cell_of_row _ _ 4 _ _ _ h.pf.blk;have p6:W.cell? ⟨p,6,none⟩=some (.int .i64 P.first):=cell_of_row _ _ 6 _ _ _ h.pf.blk;obtain⟨sec,hsec⟩:∃ sec,sec=P.first+n:=⟨_,rfl⟩
 have hsum:IntKind.i64.wrap (P.first+n)=sec:=by rw[hsec];exact IntWalk.i64_in _ (by have:=hok.f1;have:=hok.fc;omega)
 have HRd:Hid (Calls Tryz.prog 34 #[.pointer (some ⟨d,0,none⟩),.int .i64 sec] W.drew fun e w'=>(D.may sec≠0/\e=.returned (.tuple #[.slice none 0 0,.int .i64 (D.may sec)])/\w'=W.drew)∨(D.may sec=0/\∃ v,e=.returned (.tuple #[v,.int .i64 0])/\OB W.drew.heap.size w' v (D.latest sec)/\Below W.drew.heap.size W.drew w')):=φ (dread_any d ds do_ K D sec W.drew (h.dk.keep fun _ _=>rfl) (by have:=hok.f1;omega) (by have:=hok.fc;omega));have HLat:Hid ((D.latest sec).length=512):=φ (h.dk.ok.latest sec);have H:=φ h;have HNw:=φ hnew;have HNr:=φ hn;have HP:=φ hPl;rw[<- hsec] at hBad hGood;have HBd:=φ hBad;have HGd:=φ hGood;have HSec:=φ hsec;clear h hok hn hnew hPl hBad hGood hsec;by_cases hm:D.may sec=0
 ·have HG:=φ (HGd.out hm);have HRq:Hid (Calls Tryz.prog 34 #[.pointer (some ⟨d,0,none⟩),.int .i64 sec] W.drew fun e w'=>∃ v,e=.returned (.tuple #[v,.int .i64 0])/\OB W.drew.heap.size w' v (D.latest sec)/\Below W.drew.heap.size W.drew w'):=φ (HRd.out.mono fun e w' hh=>by
   rcases hh with ⟨h1,-⟩|⟨-,h2⟩
   ·exact absurd hm h1
   ·exact h2)
  clear hm HGd HBd HRd
  conv=>arg 2;whnf
  go_region_held3 (fun w'=>w'.cell? ⟨p,4,none⟩=some (.pointer (some ⟨d,0,none⟩))/\w'.cell? ⟨p,6,none⟩=some (.int .i64 P.first)) (first|go_keep|exact⟨by assumption,by assumption⟩) (first|(go_at_call 34;refine HRq.out.mono ?_;rintro e w1 ⟨v1,rfl,ho1,hb1⟩;obtain⟨a1,m1,g1,rfl⟩:=own_slice ho1;have O1:=φ ho1;have B1:=φ ((Below.refl W.heap.size W).drew.trans hb1);have d4:w1.cell? ⟨p,4,none⟩=some (.pointer (some ⟨d,0,none⟩)):=(B1.out.cell (p:=⟨p,4,none⟩) (χ p4)).trans p4;have d6:w1.cell? ⟨p,6,none⟩=some (.int .i64 P.first):=(B1.out.cell (p:=⟨p,6,none⟩) (χ p6)).trans p6;clear ho1 hb1));go_upto_region 14 with (fail);obtain⟨W2,hW2⟩:∃ W2,W2=w1.alloc (.cells #[.int .i64 n,.slice a1 m1 g1,.bool true,.bool false,.int .i64 0] 121):=⟨_,rfl⟩
  have hX2:W2.heap[w1.heap.size]? = some (frObj (P.new n D) (.slice a1 m1 g1) true):=by rw[hW2];exact heap_alloc_last w1 _
  have hB2:Below W.heap.size W W2:=by rw[hW2];exact B1.out.alloc B1.out.size _
  have hO2:OB W.heap.size W2 (.slice a1 m1 g1) (P.new n D).b:=by
   rw[hW2];show OB W.heap.size _ _ (D.latest (P.first+n));rw[<- HSec.out];exact World.ownsRow.alloc O1.out _
  have HPl:=φ (HP.out W2 W.heap.size w1.heap.size (.slice a1 m1 g1) (H.out.keep hB2 (Nat.le_refl _)).pf ⟨hX2,hO2,by show (D.latest (P.first+n)).length=512;rw[<- HSec.out];exact HLat.out,B1.out.size,HNw.out,HNr.out,⟨Int.le_refl _,by show (0:Int)<=_;omega⟩,fun g hg=>H.out.pf.lt g hg⟩);have HB2:=φ hB2;rw[<- hW2];clear hW2 hX2 hO2 hB2 O1;generalize w1.heap.size=fq at *;clear B1 d4 d6;go_wp2_with (go_at_call 92;refine HPl.out.mono ?_;rintro e w3 ⟨rfl,⟨sv',Q',B',Us',hq,hpf⟩,ht⟩;have HQ:=φ hq;have PF3:=φ hpf;have T3:=φ ht;clear hq hpf ht);have hT:=((Trn.refl V W).below HB2.out (Nat.le_refl _)).then T3.out;have hnv:∀ g,newV V W.heap.size w3 g->V g∨W.heap.size<=g:=fun g hg=>by
   rcases hg with hg|hg
   ·exact .inl hg
   ·exact .inr hg.1
  have hfin:=HG.out w3 (newV V W.heap.size w3) sv' Q' B' Us' (H.out.pool PF3.out hT hnv (Nat.le_succ _)) hT hnv;rw[HQ.out] at hfin;exact hfin
 ·have HB:=φ (HBd.out hm);have HRq:Hid (Calls Tryz.prog 34 #[.pointer (some ⟨d,0,none⟩),.int .i64 sec] W.drew fun e w'=>e=.returned (.tuple #[.slice none 0 0,.int .i64 (D.may sec)])/\w'=W.drew):=φ (HRd.out.mono fun e w' hh=>by
   rcases hh with ⟨-,h1⟩|⟨h2,-⟩
   ·exact h1
   ·exact absurd h2 hm)
  have e1:(D.may sec == 0)=false:=by simpa using hm
  clear hm HGd HBd HRd;generalize D.may sec=my at *
  conv=>arg 2;whnf
  go_region_held3 (fun w'=>w'.cell? ⟨p,4,none⟩=some (.pointer (some ⟨d,0,none⟩))/\w'.cell? ⟨p,6,none⟩=some (.int .i64 P.first)) (first|go_keep|exact⟨by assumption,by assumption⟩) (first|(go_at_call 34;refine HRq.out.mono ?_;rintro e w1 ⟨rfl,hw1⟩;subst hw1));go_wp2_with (fail);exact HB.out
def FrG (U V:Nat->Prop) (d ds do_ l p K:Nat) (P:PK) (n:Int) (L:LK) (D:DK) (m:Nat) (w:World) (e:Ending) (w':World):Prop :=
 ∃ x V' sv hand Q B Us,FrameP P n L D x/\RG w' U V' d ds do_ l p (K+10000) x.2.2.2.2 x.2.2.2.1 x.2.2.1 sv m hand Q B Us/\Trn (AllB U V d ds do_) w w'/\(∀ g,V' g->V g∨w.heap.size<=g) /\
  ((x.1≠0/\e=.returned (.tuple #[.pointer none,.int .i64 x.1]))∨(x.1=0/\x.2.1<x.2.2.1.frames.length/\e=.returned (.tuple #[.pointer (some ⟨Q x.2.1,0,none⟩),.int .i64 0])))
theorem plNone (hroom:P.frames.length<P.most) (hk:k<=1000000000) :
  ∀ W2 b0 fq v,PF W2 V p d l k P sv m hand Q B Us->NewF W2 V b0 fq v true P x->Calls Tryz.prog 92 #[.pointer (some ⟨p,0,none⟩),.pointer (some ⟨fq,0,none⟩),.pointer none] W2 fun e w'=>e=.returned (.tuple #[])/\(∃ sv' Q' B' Us',Q' P.frames.length=fq/\PF w' (newV V b0 w') p d l (k+1) (P.push x) sv' m hand Q' B' Us')/\Trn V W2 w':=fun W2 b0 fq v hpf hN =>
 (place_none V p d l k P sv m hand Q B Us b0 fq v true x W2 hpf hroom hN hk).mono fun e w' hh=>by
  obtain⟨h1,sv',h2,h3⟩:=hh;exact⟨h1,⟨sv',_,_,_,by simp[upd],h2⟩,h3⟩
theorem plSome {i:Nat} (hi:i<P.frames.length) (hk:k<=1000000000) :
  ∀ W2 b0 fq v,PF W2 V p d l k P sv m hand Q B Us->NewF W2 V b0 fq v true P x->Calls Tryz.prog 92 #[.pointer (some ⟨p,0,none⟩),.pointer (some ⟨fq,0,none⟩),.pointer (some ⟨Q i,0,none⟩)] W2 fun e w'=>e=.returned (.tuple #[])/\(∃ sv' Q' B' Us',Q' i=fq/\PF w' (newV V b0 w') p d l (k+1) (P.setFr i x) sv' m hand Q' B' Us')/\Trn V W2 w':=fun W2 b0 fq v hpf hN =>
 (place_some V p d l k P sv m hand Q B Us b0 fq v true x i W2 hpf hi hN hk).mono fun e w' hh=>⟨hh.1,⟨sv,_,_,_,by simp[upd],hh.2.1⟩,hh.2.2⟩
theorem RG.look {w:World} {U:Nat->Prop} {ds do_ K:Nat} {D:DK} {L:LK} (h:RG w U V d ds do_ l p K D L P sv m hand Q B Us) (n:Int) (h1:-9223372036854775808<=n) (h2:n<=9223372036854775807) :
  (∃ i,i<P.frames.length/\(P.frames.getD i fr0).page=n/\(Instr.lookup 85 (.map (some m)) (.int .i64 n) true).run Tryz.prog w=.ok (.tuple #[.pointer (some ⟨Q i,0,none⟩),.bool true]) w) ∨
  ((∀ y∈P.frames,y.page≠n)/\(Instr.lookup 85 (.map (some m)) (.int .i64 n) true).run Tryz.prog w=.ok (.tuple #[.pointer none,.bool false]) w):=by
 obtain⟨mk,f,g,hmk,hMH,hPM⟩:=h.pf.map.split;have hz:(zeroValue 116).run Tryz.prog w=.ok (.pointer none) w:=by
  obtain⟨i0,hi,hz0,hz1,hz2⟩:=info_parts info_pframe;simp[zeroValue,typeInfo,hi,hz0]
 have hlo:=hMH.lookOk Tryz.underlying85 hz n h1 h2
 cases hg:g n with
 | true =>
  obtain⟨i,hi,e⟩:=hPM.of n hg;have:=hPM.at_ i hi;rw[e] at this;rw[this.1,this.2] at hlo;exact .inl ⟨i,hi,e,hlo⟩
 | false =>
  rw[hg,hMH.off hg] at hlo;refine .inr ⟨fun y hy e=>?_,hlo⟩;obtain⟨i,hi,rfl⟩:=List.getElem_of_mem hy;have:=hPM.at_ i hi;rw[List.getD_eq_getElem?_getD,List.getElem?_eq_getElem hi] at this;have h3:=this.2;rw[show (some P.frames[i]).getD fr0=P.frames[i] from rfl,e,hg] at h3
  cases h3
theorem frame_any (U V:Nat->Prop) (d ds do_ l p K:Nat) (D:DK) (L:LK) (P:PK) (sv:Value) (m hand:Nat) (Q:Nat->Nat) (B:Nat->Value) (Us:Nat->Bool) (n:Int) (w:World) (h:RG w U V d ds do_ l p K D L P sv m hand Q B Us) (hn:0<=n/\n<P.count) (hK:K<=800000000) :
  Calls Tryz.prog 54 #[.pointer (some ⟨p,0,none⟩),.int .i64 n] w (FrG U V d ds do_ l p K P n L D m w):=by
 have hok:=h.pf.ok;have p1:w.cell? ⟨p,1,none⟩=some (.map (some m)):=cell_of_row _ _ 1 _ _ _ h.pf.blk;rcases h.look n (by omega) (by have:=hok.fc;have:=hok.f1;omega) with ⟨i,hi,hpg,hlo⟩|⟨hnew,hlo⟩
 ·have hf:=h.pf.fr i hi;have q2:w.cell? ⟨Q i,2,none⟩=some (.bool (Us i)):=cell_of_row _ _ 2 _ _ _ hf.blk;have f2:w.frozen? ⟨Q i,2,none⟩=false:=by simp[World.frozen?,hf.blk,frObj]
  have HFin:Hid (FrG U V d ds do_ l p K P n L D m w (.returned (.tuple #[.pointer (some ⟨Q i,0,none⟩),.int .i64 0])) (w.setCell ⟨Q i,2,none⟩ (.bool true))):=φ (by
   have hT:Trn V w (w.setCell ⟨Q i,2,none⟩ (.bool true)):=(Trn.refl V w).set _ _ _ (.inl (h.pf.vq i hi));refine⟨(0,i,P,L,D),V,sv,hand,Q,B,upd Us i true,.here i _ (by rw[List.getElem?_eq_getElem hi]) ?_,(h.pool (h.pf.mark hi true) hT (fun g hg=>.inl hg) (Nat.le_refl _)).mono (by omega),hT.mono fun g hg=>.inl (.inr (.inl hg)),fun g hg=>.inl hg,.inr ⟨rfl,hi,rfl⟩⟩;rw[List.getD_eq_getElem?_getD,List.getElem?_eq_getElem hi] at hpg;exact hpg)
  clear h hok hn hf hpg hi;generalize Q i=qi at *;go_enter Tryz.func54,Tryz.ntmps54;go_wp2_with (fail);go_ret2;exact HFin.out
 ·by_cases hroom:P.frames.length<P.most
  ·have HVi:Hid (∀ W,W.heap=w.heap->Calls Tryz.prog 91 #[.pointer (some ⟨p,0,none⟩)] W fun e w'=>e=.returned (.pointer none)/\w'=W.drew):=φ fun W hW=>victim_less V p d l K P sv m hand Q B Us W (h.keepN hW).pf hroom
   have H:=φ h;have HRo:=φ hroom;have HNw:=φ hnew;have HNr:=φ hn;clear h hok hn hroom hnew;go_enter Tryz.func54,Tryz.ntmps54;go_upto_region 10 with (go_at_call 91;refine (HVi.out w rfl).mono ?_;rintro e w1 ⟨rfl,hw1⟩;subst hw1);exact fr_tail U V d ds do_ l p K D L P (P.push (P.new n D)) sv m hand Q B Us n (.pointer none) P.frames.length w.drew _ (H.out.keepN rfl) HNr.out HNw.out (by omega) (plNone HRo.out (by omega))
    (fun hm=>⟨(D.may (P.first+n),0,P,L,D),V,sv,hand,Q,B,Us,by
     have:=FrameP.more (P:=P) (n:=n) (L:=L) (D:=D) HNw.out HRo.out;unfold PK.come at this;rw[if_pos hm] at this;exact this,(H.out.keepN (w':=w.drew.drew) rfl).mono (by omega),((Trn.refl _ w).drew).drew,fun g hg=>.inl hg,.inl ⟨hm,rfl⟩⟩)
    (fun hm w' V' sv' Q' B' Us' hrg ht hV=>⟨(0,P.frames.length,P.push (P.new n D),L,D),V',sv',hand,Q',B',Us',by
     have:=FrameP.more (P:=P) (n:=n) (L:=L) (D:=D) HNw.out HRo.out;rw[PK.come_none hm] at this;exact this,hrg.mono (by omega),((Trn.refl _ w).drew).then (ht.mono fun g hg=>.inl (.inr (.inl hg))),hV,.inr ⟨rfl,by show P.frames.length<(P.push (P.new n D)).frames.length;rw[P.push_len];omega,rfl⟩⟩) _ _ _ _ _ _ _ _ _ _ _ _ _ _ _ _ _ _ _ _ _ _ _ _ _ _ _ _ _ _ _ _ _ _ _ _ _ _ _ _ _ _ _ _ _ _ _ _ _ _ _ _ _ _ _ _ _ _ _ _ _ _ _ _ _ _ _ _ _ _ _ _ (by assumption)
  ·have HVi:Hid (∀ W,W.heap=w.heap->Calls Tryz.prog 91 #[.pointer (some ⟨p,0,none⟩)] W (VicP V p d l K P sv m Q B W)):=φ fun W hW=>victim_full V p d l K P sv m hand Q B Us W (h.keepN hW).pf (by omega) (by omega)
   have H:=φ h;have HRo:Hid (P.most<=P.frames.length):=φ (by omega);have HNw:=φ hnew;have HNr:=φ hn;clear h hok hn hroom hnew;go_enter Tryz.func54,Tryz.ntmps54;go_upto_region 6 with (go_at_call 91;refine (HVi.out w rfl).mono ?_;rintro e w1 ⟨i,hand1,Us1,hi,rfl,hpf,ht⟩;have HI:=φ hi;have PF1:=φ hpf;have T1:=φ ht;clear hi hpf ht);have R1:Hid (RG w1 U V d ds do_ l p (K+32) D L P sv m hand1 Q B Us1):=φ (H.out.pool PF1.out T1.out (fun g hg=>.inl hg) (by omega));have hTA:Trn (AllB U V d ds do_) w w1:=T1.out.mono fun g hg=>.inl (.inr (.inl hg))
   have TA:=φ hTA;have q3:w1.cell? ⟨Q i,3,none⟩=some (.bool (P.frames.getD i fr0).dirty):=cell_of_row _ _ 3 _ _ _ (R1.out.pf.fr i HI.out).blk;have HAt:Hid (P.frames[i]? = some (P.frames.getD i fr0)):=φ (by rw[List.getD_eq_getElem?_getD,List.getElem?_eq_getElem HI.out];rfl);clear hTA HVi
   cases hd:(P.frames.getD i fr0).dirty with
   | false =>
    rw[hd] at q3;have HD:=φ hd;clear hd;go_upto_region 10 with (fail);exact fr_tail U V d ds do_ l p (K+32) D L P (P.setFr i (P.new n D)) sv m hand1 Q B Us1 n (.pointer (some ⟨Q i,0,none⟩)) i w1 _ R1.out HNr.out HNw.out (by omega) (plSome HI.out (by omega))
     (fun hm=>⟨(D.may (P.first+n),0,P,L,D),V,sv,hand1,Q,B,Us1,by
      have:=FrameP.out (n:=n) (L:=L) (D:=D) i _ _ HNw.out HRo.out HAt.out (.clean HD.out);unfold PK.come at this;rw[if_pos hm] at this;exact this,(R1.out.keepN (w':=w1.drew) rfl).mono (by omega),TA.out.drew,fun g hg=>.inl hg,.inl ⟨hm,rfl⟩⟩)
     (fun hm w' V' sv' Q' B' Us' hrg ht hV=>⟨(0,i,P.setFr i (P.new n D),L,D),V',sv',hand1,Q',B',Us',by
      have:=FrameP.out (n:=n) (L:=L) (D:=D) i _ _ HNw.out HRo.out HAt.out (.clean HD.out);rw[PK.come_some i hm] at this;exact this,hrg.mono (by omega),TA.out.then (ht.mono fun g hg=>.inl (.inr (.inl hg))),fun g hg=>by
       rcases hV g hg with h1|h1
       ·exact .inl h1
       ·exact .inr (Nat.le_trans T1.out.size h1),.inr ⟨rfl,by show i<(P.setFr i (P.new n D)).frames.length;rw[P.setFr_len];exact HI.out,rfl⟩⟩) _ _ _ _ _ _ _ _ _ _ _ _ _ _ _ _ _ _ _ _ _ _ _ _ _ _ _ _ _ _ _ _ _ _ _ _ _ _ _ _ _ _ _ _ _ _ _ _ _ _ _ _ _ _ _ _ _ _ _ _ _ _ _ _ _ _ _ _ _ _ _ _ (by assumption)
   | true =>
    rw[hd] at q3;have HD:=φ hd;clear hd;have HWr:=φ (pwrite_any U V d ds do_ l p (K+32) D L P sv m hand1 Q B Us1 i w1 R1.out HI.out (by omega));unfold PwP at HWr;obtain⟨y,hy⟩:∃ y,y=P.write i (P.frames.getD i fr0) L D:=⟨_,rfl⟩
    have HFr:∀ x,OutP P n i (P.frames.getD i fr0) L D x->FrameP P n L D x:=fun x hx=>FrameP.out (n:=n) (L:=L) (D:=D) i _ x HNw.out HRo.out HAt.out hx
    have HB1:Hid (y.1≠0->FrameP P n L D (y.1,0,y.2)):=φ fun h2=>HFr _ (by rw[hy] at h2 ⊢;exact .bad HD.out h2)
    have HG1:Hid (y.1=0->FrameP P n L D (y.2.1.come n (some i) y.2.2.1 y.2.2.2)):=φ fun h2=>HFr _ (by rw[hy] at h2 ⊢;exact .good HD.out h2)
    have HY:Hid (y.2.1=P∨y.2.1=P.setFr i (clean (P.frames.getD i fr0))):=φ (by
     rw[hy];unfold PK.write;split
     ·exact .inl rfl
     ·split
      ·exact .inl rfl
      ·exact .inr rfl)
    rw[<- hy] at HWr;clear hy HFr;obtain⟨e1,P1,L1,D1⟩:=y;simp only at HWr HB1 HG1 HY;have HL1:Hid (P1.frames.length=P.frames.length/\(∀ x∈P1.frames,x.page≠n)/\P1.count=P.count):=φ (by
     rcases HY.out with e|e
     ·rw[e];exact⟨rfl,HNw.out,rfl⟩
     ·rw[e];refine⟨P.setFr_len i _,fun x hx=>?_,rfl⟩;rcases List.mem_or_eq_of_mem_set hx with h1|h1
      ·exact HNw.out x h1
      ·rw[h1];have:=HNw.out _ (getD_page_mem HI.out);exact this)
    by_cases h0:e1=0
    ·subst h0;have HG2:=φ (HG1.out rfl);clear HB1 HG1;go_upto_region 10 with (go_at_call 58;refine HWr.out.mono ?_;rintro e w2 ⟨rfl,h2,ht2⟩;have R2:=φ h2;have T2:=φ (TA.out.then ht2);clear h2 ht2);exact fr_tail U V d ds do_ l p (K+32+8193) D1 L1 P1 (P1.setFr i (P1.new n D1)) sv m hand1 Q B Us1 n (.pointer (some ⟨Q i,0,none⟩)) i w2 _ R2.out (by rw[HL1.out.2.2];exact HNr.out) HL1.out.2.1 (by omega) (plSome (by rw[HL1.out.1];exact HI.out) (by omega))
      (fun hm=>⟨(D1.may (P1.first+n),0,P1,L1,D1),V,sv,hand1,Q,B,Us1,by
       have:=HG2.out;unfold PK.come at this;rw[if_pos hm] at this;exact this,(R2.out.keepN (w':=w2.drew) rfl).mono (by omega),T2.out.drew,fun g hg=>.inl hg,.inl ⟨hm,rfl⟩⟩)
      (fun hm w' V' sv' Q' B' Us' hrg ht hV=>⟨(0,i,P1.setFr i (P1.new n D1),L1,D1),V',sv',hand1,Q',B',Us',by
       have:=HG2.out;rw[PK.come_some i hm] at this;exact this,hrg.mono (by omega),T2.out.then (ht.mono fun g hg=>.inl (.inr (.inl hg))),fun g hg=>by
        rcases hV g hg with h1|h1
        ·exact .inl h1
        ·exact .inr (Nat.le_trans T2.out.size h1),.inr ⟨rfl,by show i<(P1.setFr i (P1.new n D1)).frames.length;rw[P1.setFr_len,HL1.out.1];exact HI.out,rfl⟩⟩) _ _ _ _ _ _ _ _ _ _ _ _ _ _ _ _ _ _ _ _ _ _ _ _ _ _ _ _ _ _ _ _ _ _ _ _ _ _ _ _ _ _ _ _ _ _ _ _ _ _ _ _ _ _ _ _ _ _ _ _ _ _ _ _ _ _ _ _ _ _ _ _ (by assumption)
    ·have HB2:=φ (HB1.out h0);have HE:Hid (e1≠0):=φ h0;have ee:(e1 == 0)=false:=(by simpa using h0);clear HB1 HG1 h0;go_wp2_with (go_at_call 58;refine HWr.out.mono ?_;rintro e w2 ⟨rfl,h2,ht2⟩;have R2:=φ h2;have T2:=φ (TA.out.then ht2);clear h2 ht2);go_ret2;exact⟨(e1,0,P1,L1,D1),V,sv,hand1,Q,B,Us1,HB2.out,R2.out.mono (by omega),T2.out,fun g hg=>.inl hg,.inl ⟨HE.out,rfl⟩⟩
end Go.Proofs.YtohlkkannjifmaaGreatDoor
