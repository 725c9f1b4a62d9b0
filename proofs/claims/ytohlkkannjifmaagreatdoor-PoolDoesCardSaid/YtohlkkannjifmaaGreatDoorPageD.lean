import Derived.Test.YtohlkkannjifmaaGreatDoorPageC
namespace Go.Proofs.YtohlkkannjifmaaGreatDoor
set_option maxHeartbeats 2000000
set_option maxRecDepth 100000
open Go.RowKit Go.Shelf
attribute [local go_sem] Oper.semAt_some
def keyOf (p:List UInt8) (i:Nat):List UInt8:=(p.drop (i+2)).take (bt p i).toNat
def okRow (p:List UInt8) (f i e:Nat):Bool :=
 decide (e<=p.length) && decide (1<=bt p i) && decide (bt p i<=40) && decide (1<=bt p (i+1)) && decide (e-i-2<=220) && (decide (f=0) || decide (Lib.compareBytes (keyOf p f) (keyOf p i)<0))
def walkB (p:List UInt8):Nat×Nat->List (Nat×Nat)->Option (Nat×Nat)
 | s,[]=>some s
 | s,x::r=>if okRow p s.2 x.1 x.2=true then walkB p (x.2,x.1) r else none
def βL (p:List UInt8):Nat :=
 if p.length≠512∨127<bt p 0∨32<=bt p 8 then 0 else
 match walkB p (11,0) (scan p (bt p 10).toNat 11) with
 | none=>0
 | some s=>if 0<trimLen (p.drop s.1) then 0 else s.1
theorem walkB_append (p:List UInt8):∀ (l r:List (Nat×Nat)) (s:Nat×Nat),walkB p s (l++r)=(walkB p s l).bind fun s'=>walkB p s' r
 | [],r,s=>rfl
 | x::l,r,s=>by
  simp only[List.cons_append,walkB];split
  ·exact walkB_append p l r _
  ·rfl
theorem walkB_snoc (p:List UInt8) (l:List (Nat×Nat)) (x:Nat×Nat) (s s':Nat×Nat) (h:walkB p s l=some s') :
  walkB p s (l++[x])=if okRow p s'.2 x.1 x.2=true then some (x.2,x.1) else none:=by
 rw[walkB_append,h];rfl
theorem walkB_prefix (p:List UInt8) (l m:List (Nat×Nat)) (s:Nat×Nat) (h:l <+: m) (hn:walkB p s l=none):walkB p s m=none:=by
 obtain⟨r,rfl⟩:=h;rw[walkB_append,hn];rfl
def BdS (p:List UInt8) (s:Nat×Nat):Prop:=s.1<=p.length/\(s.2=0∨(11<=s.2/\1<=bt p s.2/\s.2+2+(bt p s.2).toNat<=p.length))
theorem okRow_bd {p:List UInt8} {f i e:Nat} (h:okRow p f i e=true) (h11:11<=i) (he:e=endOf p i):BdS p (e,i):=by
 unfold okRow at h;simp only[Bool.and_eq_true,decide_eq_true_eq] at h;obtain⟨⟨⟨⟨⟨h1,h2⟩,-⟩,-⟩,-⟩,-⟩:=h;refine⟨h1,.inr ⟨h11,h2,?_⟩⟩;have:=bt_bd p (i+1);unfold endOf at he;split at he<;>simp only<;>omega
theorem behind_yes (N:Nat) (b o c:Nat) (L:List UInt8) (w:World) (hr:RB N w (some ⟨b,o,none⟩) 512 c L) (hN:N<=w.heap.size) (h0:bt L 0<=127) (h8:bt L 8<32) :
  CallsIn Fence.wide 5 Tryz.prog 65 #[.slice (some ⟨b,o,none⟩) 512 c] w fun e w'=>e=.returned (.int .i64 (βL L))/\Below w.heap.size w w':=by
 have hle:=hr.le;have hmx:=hr.mx;have hlm:=hr.lm;have hln:=hr.len;obtain⟨b',o',he,hB,hcell⟩:=hr.at_ (by omega)
 cases he
 have g0:=hcell 0 (by omega);have g8:=hcell 8 (by omega);rw[Nat.add_zero] at g0;have hbw:b<w.heap.size:=by omega
 have hb0:=bt_bd L 0;have hb8:=bt_bd L 8;have Hln:=φ hln;clear hln;have Hcell:=φ hcell;clear hcell;refine callsIn_of_wp_marks Tryz.func65 rfl trivial ?_ rfl;simp only[Tryz.ntmps65,List.size_toArray,List.length_cons,List.length_nil,Nat.reduceAdd,Nat.reduceSub,Array.replicate_succ,Array.replicate_zero,List.push_toArray,List.append_toArray,List.nil_append,List.cons_append];obtain⟨z,hz⟩:∃ z,z=w.heap.size:=⟨_,rfl⟩
 have c1:=Box.new w 27 (.slice (some ⟨b,o,none⟩) 512 c);have c2:=Box.new (w.alloc (.cells #[.slice (some ⟨b,o,none⟩) 512 c] 27)) 3 (.int .i64 0);have c3:=Box.new ((w.alloc (.cells #[.slice (some ⟨b,o,none⟩) 512 c] 27)).alloc (.cells #[.int .i64 0] 3)) 3 (.int .i64 11);have c4:=Box.new (((w.alloc (.cells #[.slice (some ⟨b,o,none⟩) 512 c] 27)).alloc (.cells #[.int .i64 0] 3)).alloc (.cells #[.int .i64 11] 3)) 3 (.int .i64 0);have c5:=Box.new ((((w.alloc (.cells #[.slice (some ⟨b,o,none⟩) 512 c] 27)).alloc (.cells #[.int .i64 0] 3)).alloc (.cells #[.int .i64 11] 3)).alloc (.cells #[.int .i64 0] 3)) 27 (.slice (some ⟨b,o,none⟩) 512 c);have hlb:Below w.heap.size w (((((w.alloc (.cells #[.slice (some ⟨b,o,none⟩) 512 c] 27)).alloc (.cells #[.int .i64 0] 3)).alloc (.cells #[.int .i64 11] 3)).alloc (.cells #[.int .i64 0] 3)).alloc (.cells #[.slice (some ⟨b,o,none⟩) 512 c] 27)):=by go_grown
 have hsz:(((((w.alloc (.cells #[.slice (some ⟨b,o,none⟩) 512 c] 27)).alloc (.cells #[.int .i64 0] 3)).alloc (.cells #[.int .i64 11] 3)).alloc (.cells #[.int .i64 0] 3)).alloc (.cells #[.slice (some ⟨b,o,none⟩) 512 c] 27)).heap.size=w.heap.size+1+1+1+1+1:=by simp
 simp only[World.size_alloc,<- hz] at c1 c2 c3 c4 c5 hlb hsz hN hbw;have c1':=(((c1.alloc (.cells #[.int .i64 0] 3)).alloc (.cells #[.int .i64 11] 3)).alloc (.cells #[.int .i64 0] 3)).alloc (.cells #[.slice (some ⟨b,o,none⟩) 512 c] 27);have c2':=((c2.alloc (.cells #[.int .i64 11] 3)).alloc (.cells #[.int .i64 0] 3)).alloc (.cells #[.slice (some ⟨b,o,none⟩) 512 c] 27);have c3':=(c3.alloc (.cells #[.int .i64 0] 3)).alloc (.cells #[.slice (some ⟨b,o,none⟩) 512 c] 27);have c4':=c4.alloc (.cells #[.slice (some ⟨b,o,none⟩) 512 c] 27);clear c1 c2 c3 c4;have Hz:=φ hz;rw[hz] at hbw;clear hz;have C:=φ (And.intro c1' (And.intro c2' (And.intro c3' (And.intro c4' (And.intro c5 (And.intro hlb hsz))))));clear c1' c2' c3' c4' c5 hlb hsz
 gi_wp2_with (refine⟨trivial,?_⟩;gi_at_call 82;refine (callsIn_wide.2 (each_any _ _ _ _)).mono ?_;rintro e w' ⟨rfl,rfl⟩)
 obtain⟨c1,c2,c3,c4,c5,hlb,hsz⟩:=C.out;clear C;generalize (((((w.alloc (.cells #[.slice (some ⟨b,o,none⟩) 512 c] 27)).alloc (.cells #[.int .i64 0] 3)).alloc (.cells #[.int .i64 11] 3)).alloc (.cells #[.int .i64 0] 3)).alloc (.cells #[.slice (some ⟨b,o,none⟩) 512 c] 27))=w1 at *;have hz:=Hz.out;simp only[<- hz];have hbz:b<z:=by rw[hz];exact hbw
 clear hz;have hs1:z+5<=w1.heap.size:=c5.lt;clear hsz;have hr1:=hr.below (hlb.mono hN);have Hc:=φ (And.intro c1 (And.intro c2 (And.intro c3 (And.intro c4 c5))));clear c1 c2 c3 c4;refine range_law (α:=El L fun _=>True) (by omega) (gf:=131) (lb:=#[.pointer (some ⟨z+1+1+1+1,0,none⟩)]) rfl (enters_of Tryz.func131 (by kernel_rfl) rfl)
  (each_stops 4 (by omega) (z+1+1+1+1) N b o 512 c L (fun _=>True) (fun _ _=>trivial) (fun k=>k=b∨k=z+1+1+1+1) (.inl rfl) (.inr rfl) (by omega) w1 (by rintro k (rfl|rfl)<;>omega) c5.cell hr1) (by rintro k (rfl|rfl)<;>omega) (fun _=>rfl)
  (fun pre W=>∃ s,Hid (walkB L (11,0) (pre.map (·.1))=some s)/\Hid (BdS L s)/\Box W z 27 (.slice (some ⟨b,o,none⟩) 512 c)/\Box W (z+1) 3 (.int .i64 0)/\Box W (z+1+1) 3 (.int .i64 s.1)/\Box W (z+1+1+1) 3 (.int .i64 s.2)/\Below z w W/\w1.heap.size<=W.heap.size)
  (fun cd pre W=>cd=.ret/\Hid (walkB L (11,0) (pre.map (·.1))=none)/\Box W (z+1) 3 (.int .i64 0)/\Below z w W/\w1.heap.size<=W.heap.size)
  ?hI ?hIx ?h0 ?_
 case hI =>
  refine ownFrom_of_below (fun pre W W' h hB hb=>?_) (fun pre W h=>?_)
  ·obtain⟨s,h1,h2,b1,b2,b3,b4,h5,h6⟩:=h;exact⟨s,h1,h2,b1.below hb (by omega),b2.below hb (by omega),b3.below hb (by omega),b4.below hb (by omega),h5.trans (hb.mono (by omega)),Nat.le_trans h6 hb.size⟩
  ·obtain⟨s,h1,h2,b1,b2,b3,b4,h5,h6⟩:=h;exact h6
 case hIx =>
  intro cd;refine ownFrom_of_below (fun pre W W' h hB hb=>?_) (fun pre W h=>?_)
  ·obtain⟨h0,h1,b1,h5,h6⟩:=h;exact⟨h0,h1,b1.below hb (by omega),h5.trans (hb.mono (by omega)),Nat.le_trans h6 hb.size⟩
  ·obtain⟨h0,h1,b1,h5,h6⟩:=h;exact h6
 case h0 =>
  obtain⟨c1,c2,c3,c4,c5⟩:=Hc.out;exact⟨(11,0),rfl,⟨by rw[<- Hln.out];omega,.inl rfl⟩,c1,c2,c3,c4,hlb,Nat.le_refl _⟩
 apply Exists.intro;refine⟨?assign,?body,?done,?stop⟩
 case assign =>
  intro l x W K hK
  gi_wp2
  exact hK
 case body =>
  rintro l pre x W ⟨⟨la,fr⟩,h1,h2,b1,b2,b3,b4,h5,h6⟩ _;obtain⟨i,e,hxe⟩:∃ i e,x.1=(i,e):=⟨_,_,rfl⟩
  obtain⟨⟨hx1,hx2,hx3⟩,-⟩:=x.2;rw[hxe] at hx1 hx2 hx3;simp only[hxe];have Hxe:=φ hxe;clear hxe;dsimp only at hx1 hx2 hx3 b3 b4 h2 h1 ⊢;have g1:=b1.cell;have g2:=b2.frozen;have g2':=b2.cell;have g3:=b3.cell;have g3':=b3.frozen;have g4:=b4.cell;have g4':=b4.frozen;have hrW:=hr.below (h5.mono hN);have Hx3:=φ hx3;have hwb:=walkB_snoc L _ (i,e) _ _ h1.out;dsimp only at hwb;have Hwb:=φ hwb;clear hwb hx3;have hbl:=h2.out;obtain⟨hla,hfr⟩:=hbl;dsimp only at hla hfr;rw[<- Hln.out] at hla hfr hx2;by_cases hA:(512:Int)<(e:Int)
  ·have hno:okRow L fr i e=false:=by
    unfold okRow;rw[<- Hln.out];have:decide (e<=512)=false:=(by simp;omega);simp[this]
   have Hno:=φ hno;clear hno
   gi_wp2
   refine round_quiet_lit (by kernel_rfl) (by kernel_rfl) (by kernel_rfl) ?_
   repeat (go_big_quiet_step (fail))
   refine wpQuiet_nil ?_;intro _ hw';obtain⟨nq,hw''⟩:=hw';subst hw''
   gi_wp2
   exact⟨ko_set _ _ _ _,rfl,by show _=_;rw[List.map_append,List.map_singleton,Hxe.out,Hwb.out,Hno.out];rfl,(b2.drewN nq).set _,(δ h5 nq).setCell (p:=⟨z+1,0,none⟩) (by simp) _,by rw[size_setCell'];exact h6⟩
  have hx3:=Hx3.out;have hi2:i+2<=512:=by
   by_cases h:i+2<=512
   ·exact h
   ·rw[endOf_out (by rw[<- Hln.out];exact h),<- Hln.out] at hx3;omega
  rw[endOf_in (by rw[<- Hln.out];exact hi2)] at hx3;have gx:=(h5.cell (p:=⟨b,o+i,none⟩) hbz).trans (Hcell.out i (by omega));have gy:=(h5.cell (p:=⟨b,o+(i+1),none⟩) hbz).trans (Hcell.out (i+1) (by omega));have hbx:=bt_bd L i;have hby:=bt_bd L (i+1);have hA':(e:Int)<=512:=by omega
  have hei:i+2<=e:=by omega
  have hsub:IntKind.i64.wrap ((e:Int)-i)=(e:Int)-i:=IntWalk.i64_in _ (by omega);have hsub0:0<=(e:Int)-i:=by omega
  have hsub2:IntKind.i64.wrap ((e:Int)-i-2)=(e:Int)-i-2:=IntWalk.i64_in _ (by omega);have hadd:IntKind.i64.wrap ((i:Int)+1)=(i:Int)+1:=IntWalk.i64_in _ (by omega);have haddn:((i:Int)+1).toNat=i+1:=by omega
  have Hx3':=φ hx3;clear hx3;have hAd:decide ((512:Int)<(e:Int))=false:=decide_eq_false (by omega);by_cases hB1:bt L i<1
  ·have hno:okRow L fr i e=false:=by
    unfold okRow;rw[<- Hln.out];have:decide (1<=bt L i)=false:=(by simp;omega);simp[this]
   have Hno:=φ hno;clear hno
   gi_wp2
   refine round_quiet_lit (by kernel_rfl) (by kernel_rfl) (by kernel_rfl) ?_
   repeat (go_big_quiet_step (fail))
   refine wpQuiet_nil ?_;intro _ hw';obtain⟨nq,hw''⟩:=hw';subst hw''
   gi_wp2
   exact⟨ko_set _ _ _ _,rfl,by show _=_;rw[List.map_append,List.map_singleton,Hxe.out,Hwb.out,Hno.out];rfl,(b2.drewN nq).set _,(δ h5 nq).setCell (p:=⟨z+1,0,none⟩) (by simp) _,by rw[size_setCell'];exact h6⟩
  have hBd:decide (bt L i<1)=false:=decide_eq_false hB1;by_cases hC1:40<bt L i
  ·have hno:okRow L fr i e=false:=by
    unfold okRow;rw[<- Hln.out];have:decide (bt L i<=40)=false:=(by simp;omega);simp[this]
   have Hno:=φ hno;clear hno
   gi_wp2
   refine round_quiet_lit (by kernel_rfl) (by kernel_rfl) (by kernel_rfl) ?_
   repeat (go_big_quiet_step (fail))
   refine wpQuiet_nil ?_;intro _ hw';obtain⟨nq,hw''⟩:=hw';subst hw''
   gi_wp2
   exact⟨ko_set _ _ _ _,rfl,by show _=_;rw[List.map_append,List.map_singleton,Hxe.out,Hwb.out,Hno.out];rfl,(b2.drewN nq).set _,(δ h5 nq).setCell (p:=⟨z+1,0,none⟩) (by simp) _,by rw[size_setCell'];exact h6⟩
  have hCd:decide (40<bt L i)=false:=decide_eq_false hC1;by_cases hD1:bt L (i+1)<1
  ·have hno:okRow L fr i e=false:=by
    unfold okRow;rw[<- Hln.out];have:decide (1<=bt L (i+1))=false:=(by simp;omega);simp[this]
   have Hno:=φ hno;clear hno
   gi_wp2
   refine round_quiet_lit (by kernel_rfl) (by kernel_rfl) (by kernel_rfl) ?_
   repeat (go_big_quiet_step (fail))
   refine wpQuiet_nil ?_;intro _ hw';obtain⟨nq,hw''⟩:=hw';subst hw''
   gi_wp2
   exact⟨ko_set _ _ _ _,rfl,by show _=_;rw[List.map_append,List.map_singleton,Hxe.out,Hwb.out,Hno.out];rfl,(b2.drewN nq).set _,(δ h5 nq).setCell (p:=⟨z+1,0,none⟩) (by simp) _,by rw[size_setCell'];exact h6⟩
  have hDd:decide (bt L (i+1)<1)=false:=decide_eq_false hD1;by_cases hE1:220<(e:Int)-i-2
  ·have hno:okRow L fr i e=false:=by
    unfold okRow;rw[<- Hln.out];have:decide (e-i-2<=220)=false:=decide_eq_false (by omega);rw[this];simp
   have Hno:=φ hno;clear hno
   gi_wp2
   refine round_quiet_lit (by kernel_rfl) (by kernel_rfl) (by kernel_rfl) ?_
   repeat (go_big_quiet_step (fail))
   refine wpQuiet_nil ?_;intro _ hw';obtain⟨nq,hw''⟩:=hw';subst hw''
   gi_wp2
   exact⟨ko_set _ _ _ _,rfl,by show _=_;rw[List.map_append,List.map_singleton,Hxe.out,Hwb.out,Hno.out];rfl,(b2.drewN nq).set _,(δ h5 nq).setCell (p:=⟨z+1,0,none⟩) (by simp) _,by rw[size_setCell'];exact h6⟩
  have hEd:decide ((220:Int)<(e:Int)-i-2)=false:=decide_eq_false hE1;have hpre:okRow L fr i e=(decide (fr=0) || decide (Lib.compareBytes (keyOf L fr) (keyOf L i)<0)):=by
   unfold okRow;rw[<- Hln.out];have k1:decide (e<=512)=true:=decide_eq_true (by omega);have k2:decide (1<=bt L i)=true:=decide_eq_true (by omega);have k3:decide (bt L i<=40)=true:=decide_eq_true (by omega);have k4:decide (1<=bt L (i+1))=true:=decide_eq_true (by omega);have k5:decide (e-i-2<=220)=true:=decide_eq_true (by omega);rw[k1,k2,k3,k4,k5];rfl
  by_cases hF0:fr=0
  ·subst hF0;have g40:W.cell? ⟨z+1+1+1,0,none⟩=some (.int .i64 0):=g4;clear g4;have hno:okRow L 0 i e=true:=by rw[hpre];rfl
   have Hbd:Hid (BdS L (e,i)):=okRow_bd hno hx1 Hx3.out;have Hno:=φ hno;clear hno hpre
   gi_wp2
   refine round_quiet_lit (by kernel_rfl) (by kernel_rfl) (by kernel_rfl) ?_
   repeat (go_big_quiet_step (fail))
   refine wpQuiet_nil ?_;intro _ hw';obtain⟨nq,hw''⟩:=hw';subst hw''
   gi_wp2
   refine⟨(ko_set _ _ _ _).trans (KeepsOthers.setCell _ _ _),((KpS.drewN _ _ _).setCell (by show ¬ (_∨_);simp;omega) _).setCell (by show ¬ (_∨_);simp;omega) _,(e,i),?_,Hbd.out,?_,?_,?_,?_,?_,?_⟩
   ·show _=_;rw[List.map_append,List.map_singleton,Hxe.out,Hwb.out,Hno.out];rfl
   ·exact ((b1.drewN nq).other (by omega) _).other (by omega) _
   ·exact ((b2.drewN nq).other (by omega) _).other (by omega) _
   ·exact ((b3.drewN nq).set _).other (by omega) _
   ·exact ((b4.drewN nq).other (by omega) _).set _
   ·exact ((δ h5 nq).setCell (p:=⟨z+1+1,0,none⟩) (by simp;omega) _).setCell (p:=⟨z+1+1+1,0,none⟩) (by simp;omega) _
   ·rw[size_setCell',size_setCell'];exact h6
  have hfr':11<=fr/\1<=bt L fr/\fr+2+(bt L fr).toNat<=512:=by
   rcases hfr with h|h
   ·exact absurd h hF0
   ·exact h
  clear hfr;have hf0:(0:Int)<(fr:Int):=by omega
  have hf0n:0<fr:=by omega
  have hkf:decide (fr=0)=false:=decide_eq_false hF0;rw[hkf,Bool.false_or] at hpre;have HF:Hid (bt L fr=((bt L fr).toNat:Int)/\fr+2+(bt L fr).toNat<=512/\1<=(bt L fr).toNat):=⟨by omega,hfr'.2.2,by omega⟩
  have HI:Hid (bt L i=((bt L i).toNat:Int)/\i+2+(bt L i).toNat<=512/\1<=(bt L i).toNat):=⟨by omega,by have:=Hx3'.out;omega,by omega⟩
  have HKf:Hid (RB N W (some ⟨b,o+(fr+2),none⟩) (bt L fr).toNat (c-(fr+2)) (keyOf L fr)):=hrW.sub (fr+2) (bt L fr).toNat (by omega);have HKi:Hid (RB N W (some ⟨b,o+(i+2),none⟩) (bt L i).toNat (c-(i+2)) (keyOf L i)):=hrW.sub (i+2) (bt L i).toNat HI.out.2.1;clear hfr' hkf;by_cases hG:0<=Lib.compareBytes (keyOf L fr) (keyOf L i)
  ·have hno:okRow L fr i e=false:=by rw[hpre];exact decide_eq_false (by omega)
   have Hno:=φ hno;clear hno hpre
   gi_wp2
   refine round_quiet_lit (by kernel_rfl) (by kernel_rfl) (by kernel_rfl) ?_
   repeat (go_big_quiet_step (first|(go_at_call 84;with_reducible exact quiet_same (key_pos N b o 512 c L fr (bt L fr).toNat _ (hrW.drewN _) HF.out.1 HF.out.2.1 HF.out.2.2))|(go_at_call 84;with_reducible exact quiet_same (key_pos N b o 512 c L i (bt L i).toNat _ (hrW.drewN _) HI.out.1 HI.out.2.1 HI.out.2.2))|(go_at_call 119;with_reducible exact quiet_same (Compare_any N N _ _ _ _ _ _ _ _ _ (HKf.out.drewN _) (HKi.out.drewN _)))))
   refine wpQuiet_nil ?_;intro _ hw';obtain⟨nq,hw''⟩:=hw';subst hw''
   gi_wp2
   exact⟨ko_set _ _ _ _,rfl,by show _=_;rw[List.map_append,List.map_singleton,Hxe.out,Hwb.out,Hno.out];rfl,(b2.drewN nq).set _,(δ h5 nq).setCell (p:=⟨z+1,0,none⟩) (by simp) _,by rw[size_setCell'];exact h6⟩
  ·have hno:okRow L fr i e=true:=by rw[hpre];exact decide_eq_true (by omega)
   have Hbd:Hid (BdS L (e,i)):=okRow_bd hno hx1 Hx3.out;have hGd:decide (0<=Lib.compareBytes (keyOf L fr) (keyOf L i))=false:=decide_eq_false hG;have Hno:=φ hno;clear hno hpre
   gi_wp2
   refine round_quiet_lit (by kernel_rfl) (by kernel_rfl) (by kernel_rfl) ?_
   repeat (go_big_quiet_step (first|(go_at_call 84;with_reducible exact quiet_same (key_pos N b o 512 c L fr (bt L fr).toNat _ (hrW.drewN _) HF.out.1 HF.out.2.1 HF.out.2.2))|(go_at_call 84;with_reducible exact quiet_same (key_pos N b o 512 c L i (bt L i).toNat _ (hrW.drewN _) HI.out.1 HI.out.2.1 HI.out.2.2))|(go_at_call 119;with_reducible exact quiet_same (Compare_any N N _ _ _ _ _ _ _ _ _ (HKf.out.drewN _) (HKi.out.drewN _)))))
   refine wpQuiet_nil ?_;intro _ hw';obtain⟨nq,hw''⟩:=hw';subst hw''
   gi_wp2
   refine⟨(ko_set _ _ _ _).trans (KeepsOthers.setCell _ _ _),((KpS.drewN _ _ _).setCell (by show ¬ (_∨_);simp;omega) _).setCell (by show ¬ (_∨_);simp;omega) _,(e,i),?_,Hbd.out,?_,?_,?_,?_,?_,?_⟩
   ·show _=_;rw[List.map_append,List.map_singleton,Hxe.out,Hwb.out,Hno.out];rfl
   ·exact ((b1.drewN nq).other (by omega) _).other (by omega) _
   ·exact ((b2.drewN nq).other (by omega) _).other (by omega) _
   ·exact ((b3.drewN nq).set _).other (by omega) _
   ·exact ((b4.drewN nq).other (by omega) _).set _
   ·exact ((δ h5 nq).setCell (p:=⟨z+1+1,0,none⟩) (by simp;omega) _).setCell (p:=⟨z+1+1+1,0,none⟩) (by simp;omega) _
   ·rw[size_setCell',size_setCell'];exact h6
 case done =>
  rintro D xs W hD hxs ⟨⟨la,fr⟩,h1,h2,b1,b2,b3,b4,h5,h6⟩ hK;rw[hxs] at h1;dsimp only at b3 b4;have hbl:=h2.out.1;rw[<- Hln.out] at hbl;dsimp only at hbl;have g1:=b1.cell;have g2:=b2.frozen;have g2':=b2.cell;have g3:=b3.cell;have hrW:=hr.below (h5.mono hN);have hdrop:(L.drop la).take (512-la)=L.drop la:=List.take_of_length_le (by rw[List.length_drop,<- Hln.out];omega);have hfin:βL L=if 0<trimLen (L.drop la) then 0 else la:=by
   unfold βL;rw[if_neg (by rw[<- Hln.out];simp;omega),h1.out]
  have Hfin:=φ hfin;have hk2:=hK;have HK:=φ hK;clear hfin hK hk2;obtain⟨sa,hsa⟩:∃ sa:Option Addr,sa=if c=la then some ⟨b,o,none⟩ else some ⟨b,o+la,none⟩:=⟨_,rfl⟩
  have hrs:RB N W (if c=la then some ⟨b,o,none⟩ else some ⟨b,o+la,none⟩) (512-la) (c-la) (L.drop la):=by
   split
   ·have:la=512:=(by omega);subst this;have e:L.drop 512=[]:=List.eq_nil_of_length_eq_zero (by rw[List.length_drop,<- Hln.out]);rw[e,show c-512=0 by omega];exact RB.emp _
   ·have:=hrW.sub la (512-la) (by omega)
    rwa [hdrop] at this
  clear hsa hdrop;by_cases hT:0<trimLen (L.drop la)
  ·gi_wp2_with (refine⟨trivial,?_⟩;gi_at_call 120;refine (callsIn_wide.2 (Trim_any N _ _ _ _ _ hrs)).mono ?_;rintro e w' ⟨⟨a',c',rfl⟩,q,rfl⟩)
   all_goals
    have hK':=(ko_set W q ⟨z+1,0,none⟩ (.int .i64 0)).same D _ HK.out rfl;refine⟨by simp,.inl ⟨_,_,rfl,run_takeDeferred hK',?_⟩⟩;have hc5:=cell_kept ((b2.drewN q).set (.int .i64 0)).cell (grownBy_putObj' _ D (.deferred none)) (fun r e=>by cases e;exact⟨_,hK',rfl⟩);refine⟨.int .i64 0,?_,by rw[Hfin.out,if_pos hT];rfl,by rw[<- Hz.out];exact ((δ h5 q).setCell (p:=⟨z+1,0,none⟩) (by simp) _).trans (belowK_b (w:=w1) (n₀:=z) (by omega) _ D _ _ hD hK' rfl rfl)⟩;simp[results,Tryz.f65,go_sem,hc5]
  ·have h0T:trimLen (L.drop la)=0:=by omega
   gi_wp2_with (refine⟨trivial,?_⟩;gi_at_call 120;refine (callsIn_wide.2 (Trim_any N _ _ _ _ _ hrs)).mono ?_;rintro e w' ⟨⟨a',c',rfl⟩,q,rfl⟩)
   all_goals
    have hK':=(ko_set W q ⟨z+1,0,none⟩ (.int .i64 la)).same D _ HK.out rfl;refine⟨by simp,.inl ⟨_,_,rfl,run_takeDeferred hK',?_⟩⟩;have hc5:=cell_kept ((b2.drewN q).set (.int .i64 la)).cell (grownBy_putObj' _ D (.deferred none)) (fun r e=>by cases e;exact⟨_,hK',rfl⟩);refine⟨.int .i64 la,?_,by rw[Hfin.out,if_neg hT],by rw[<- Hz.out];exact ((δ h5 q).setCell (p:=⟨z+1,0,none⟩) (by simp) _).trans (belowK_b (w:=w1) (n₀:=z) (by omega) _ D _ _ hD hK' rfl rfl)⟩;simp[results,Tryz.f65,go_sem,hc5]
 case stop =>
  rintro D cd pre W hD hpre ⟨rfl,h1,b2,h5,h6⟩ hK;have hfin:βL L=0:=by
   unfold βL;rw[if_neg (by rw[<- Hln.out];simp;omega),walkB_prefix L _ _ _ hpre h1.out]
  have Hfin:=φ hfin;clear hfin
  gi_wp2
  refine⟨by simp,.inl ⟨_,_,rfl,run_takeDeferred hK,?_⟩⟩;have hc5:=cell_kept b2.cell (grownBy_putObj' _ D (.deferred none)) (fun r e=>by cases e;exact⟨_,hK,rfl⟩);refine⟨.int .i64 0,?_,by rw[Hfin.out];rfl,by rw[<- Hz.out];exact h5.trans (belowK_b (w:=w1) (n₀:=z) (by omega) W D _ _ hD hK rfl rfl)⟩;simp[results,Tryz.f65,go_sem,hc5]
theorem behind_any (N:Nat) (a:Option Addr) (n c:Nat) (L:List UInt8) (w:World) (hr:RB N w a n c L) (hN:N<=w.heap.size) :
  Calls Tryz.prog 65 #[.slice a n c] w fun e w'=>e=.returned (.int .i64 (βL L))/\Below w.heap.size w w':=by
 have hle:=hr.le;have hmx:=hr.mx;have hlm:=hr.lm;have hln:=hr.len;by_cases hn:n=512
 ·subst hn;obtain⟨b,o,rfl,hB,hcell⟩:=hr.at_ (by omega);by_cases h0:127<bt L 0
  ·have hfin:βL L=0:=by unfold βL;rw[if_pos (.inr (.inl h0))]
   have Hfin:=φ hfin;have g0:=hcell 0 (by omega);rw[Nat.add_zero] at g0;have hbw:b<w.heap.size:=by omega
   clear hcell hfin hln;go_enter Tryz.func65,Tryz.ntmps65;go_wp2;refine bodyPost_ret (v:=.int .i64 0) (by simp[results,Tryz.f65,go_sem]) rfl ⟨by rw[Hfin.out];rfl,by go_grown⟩
  ·by_cases h8:32<=bt L 8
   ·have hfin:βL L=0:=(by unfold βL;rw[if_pos (.inr (.inr h8))]);have Hfin:=φ hfin;have g0:=hcell 0 (by omega);rw[Nat.add_zero] at g0;have g8:=hcell 8 (by omega);have hbw:b<w.heap.size:=(by omega);have h0d:decide (127<bt L 0)=false:=decide_eq_false h0;clear hcell hfin hln;go_enter Tryz.func65,Tryz.ntmps65;go_wp2;refine bodyPost_ret (v:=.int .i64 0) (by simp[results,Tryz.f65,go_sem]) rfl ⟨by rw[Hfin.out];rfl,by go_grown⟩
   ·exact callsIn_wide.1 (behind_yes N b o c L w hr hN (by omega) (by omega))
 ·have hfin:βL L=0:=by unfold βL;rw[if_pos (.inl (by rw[<- hln];exact hn))]
  have Hfin:=φ hfin;have hn':((n:Int) != 512)=true:=by simp;omega
  clear hln hfin;go_enter Tryz.func65,Tryz.ntmps65;go_wp2;refine bodyPost_ret (v:=.int .i64 0) (by simp[results,Tryz.f65,go_sem]) rfl ⟨by rw[Hfin.out];rfl,by go_grown⟩
end Go.Proofs.YtohlkkannjifmaaGreatDoor
