import Derived.Test.YtohlkkannjifmaaGreatDoorPageD
import Derived.Test.YtohlkkannjifmaaGreatDoorPageC
import Derived.OwnWalk
import Derived.StillTailTactics
import Derived.Laws.CopyOwn
namespace Go.Proofs.YtohlkkannjifmaaGreatDoor
section
set_option maxHeartbeats 4000000
set_option maxRecDepth 100000
open Go.RowKit Go.Shelf
variable {p:List UInt8}
attribute [local go_sem] Oper.semAt_some
def findB (p k:List UInt8):Nat->List (Nat×Nat)->Nat×Nat×Bool
 | last,[]=>(last,last,false)
 | _,x::r=>if Lib.compareBytes (keyOf p x.1) k=0 then (x.1,x.2,true) else if 0<Lib.compareBytes (keyOf p x.1) k then (x.1,x.1,false) else findB p k x.2 r
def findL (p k:List UInt8):Nat×Nat×Bool:=findB p k 11 (scan p (bt p 10).toNat 11)
def pastB (p k:List UInt8):Nat->List (Nat×Nat)->Option Nat
 | last,[]=>some last
 | _,x::r=>if Lib.compareBytes (keyOf p x.1) k<0 then pastB p k x.2 r else none
theorem pastB_snoc (p k:List UInt8):∀ (l:List (Nat×Nat)) (x:Nat×Nat) (s s':Nat),pastB p k s l=some s'->pastB p k s (l++[x])=if Lib.compareBytes (keyOf p x.1) k<0 then some x.2 else none
 | [],x,s,s',h=>rfl
 | y::l,x,s,s',h=>by
  simp only[List.cons_append,pastB] at h ⊢;split
  ·rename_i hy;rw[if_pos hy] at h;exact pastB_snoc p k l x _ s' h
  ·rename_i hy;rw[if_neg hy] at h;cases h
theorem findB_past (p k:List UInt8):∀ (l r:List (Nat×Nat)) (s s':Nat),pastB p k s l=some s'->findB p k s (l++r)=findB p k s' r
 | [],r,s,s',h=>by simp only[pastB] at h;cases h;rfl
 | y::l,r,s,s',h=>by
  simp only[List.cons_append,pastB,findB] at h ⊢;split at h
  ·rename_i hy;rw[if_neg (by omega),if_neg (by omega)];exact findB_past p k l r _ s' h
  ·cases h
def RowOk (p:List UInt8) (x:Nat×Nat):Prop:=1<=bt p x.1/\x.1+2+(bt p x.1).toNat<=p.length/\x.2<=p.length
theorem scan_end (p:List UInt8):∀ (c q:Nat) (x:Nat×Nat),x∈scan p c q->x.2=endOf p x.1
 | 0,q,x,h=>by simp[scan] at h
 | c+1,q,x,h=>by
  simp only[scan,List.mem_cons] at h;rcases h with rfl|h
  ·rfl
  ·split at h
   ·simp at h
   ·exact scan_end p c _ x h
theorem walkB_rows (p:List UInt8):∀ (l:List (Nat×Nat)) (s s':Nat×Nat),walkB p s l=some s'->∀ x∈l,x.2<=p.length/\1<=bt p x.1
 | [],s,s',h,x,hx=>by simp at hx
 | y::l,s,s',h,x,hx=>by
  simp only[walkB] at h;split at h
  ·rename_i hy;unfold okRow at hy;simp only[Bool.and_eq_true,decide_eq_true_eq] at hy;rcases List.mem_cons.1 hx with rfl|hx
   ·exact⟨hy.1.1.1.1.1,hy.1.1.1.1.2⟩
   ·exact walkB_rows p l _ s' h x hx
  ·cases h
theorem right_len (h:0<βL p):p.length=512:=by
 unfold βL at h;split at h
 ·omega
 ·rename_i h512;rcases Nat.decEq p.length 512 with h|h
  ·exact absurd (.inl h) h512
  ·exact h
theorem right_rows (h:0<βL p):∀ x∈scan p (bt p 10).toNat 11,RowOk p x:=by
 intro x hx;unfold βL at h;split at h
 ·omega
 ·split at h
  ·omega
  ·rename_i s hs;obtain⟨h1,h2⟩:=walkB_rows p _ _ _ hs x hx;have he:=scan_end p _ _ x hx;refine⟨h2,?_,h1⟩;have:=bt_bd p (x.1+1);unfold endOf at he;split at he<;>omega
theorem find_in (N M:Nat) (b o c:Nat) (L:List UInt8) (ka:Option Addr) (kn kc:Nat) (K:List UInt8) (w:World) (hr:RB N w (some ⟨b,o,none⟩) 512 c L) (hk:RB M w ka kn kc K) (hN:N<=w.heap.size) (hM:M<=w.heap.size)
  (hR:∀ x∈scan L (bt L 10).toNat 11,RowOk L x) :
  CallsIn Fence.wide 5 Tryz.prog 67 #[.slice (some ⟨b,o,none⟩) 512 c,.slice ka kn kc] w fun e w' =>
   e=.returned (.tuple #[.int .i64 (findL L K).1,.int .i64 (findL L K).2.1,.bool (findL L K).2.2])/\Below w.heap.size w w':=by
 have hle:=hr.le;have hmx:=hr.mx;have hlm:=hr.lm;have hln:=hr.len;obtain⟨b',o',he,hB,hcell⟩:=hr.at_ (by omega)
 cases he
 have hbw:b<w.heap.size:=by omega
 have Hln:=φ hln;clear hln;have Hcell:=φ hcell;clear hcell;refine callsIn_of_wp_marks Tryz.func67 rfl trivial ?_ rfl;simp only[Tryz.ntmps67,List.size_toArray,List.length_cons,List.length_nil,Nat.reduceAdd,Nat.reduceSub,Array.replicate_succ,Array.replicate_zero,List.push_toArray,List.append_toArray,List.nil_append,List.cons_append]
 gi_wp2_with (refine⟨trivial,?_⟩;gi_at_call 82;refine (callsIn_wide.2 (each_any _ _ _ _)).mono ?_;rintro e w' ⟨rfl,rfl⟩)
 obtain⟨z,hz⟩:∃ z,z=w.heap.size:=⟨_,rfl⟩
 refine wpIn_boxes w [(_,_),(_,_),(_,_),(_,_),(_,_),(_,_),(_,_)] rfl ?_;intro w1 hlb hsz hbx;simp only[<- hz] at hlb hsz hbx hN hM hbw ⊢;have Hz:=φ hz;clear hz;have c1:Box w1 z _ _:=hbx 0 _ rfl;have c2:Box w1 (z+1) _ _:=hbx 1 _ rfl;have c3:Box w1 (z+1+1) _ _:=hbx 2 _ rfl;have c4:Box w1 (z+1+1+1) _ _:=hbx 3 _ rfl;have c5:Box w1 (z+1+1+1+1) _ _:=hbx 4 _ rfl;have c6:Box w1 (z+1+1+1+1+1) _ _:=hbx 5 _ rfl;have c7:Box w1 (z+1+1+1+1+1+1) _ _:=hbx 6 _ rfl;dsimp only at c1 c2 c3 c4 c5 c6 c7;clear hbx hsz;have hs1:=c7.lt;have hr1:=hr.below (hlb.mono hN);have Hc:=φ (And.intro c1 (And.intro c2 (And.intro c3 (And.intro c4 (And.intro c5 c6)))));clear c1 c2 c3 c4 c5 c6;refine range_law (α:=El L (RowOk L)) (by omega) (gf:=131) (lb:=#[.pointer (some ⟨z+1+1+1+1+1+1,0,none⟩)]) rfl (enters_of Tryz.func131 (by kernel_rfl) rfl)
  (each_stops 4 (by omega) (z+1+1+1+1+1+1) N b o 512 c L (RowOk L) hR (fun k=>k=b∨k=z+1+1+1+1+1+1) (.inl rfl) (.inr rfl) (by omega) w1 (by rintro k (rfl|rfl)<;>omega) c7.cell hr1) (by rintro k (rfl|rfl)<;>omega) (fun _=>rfl)
  (fun pre W=>∃ s,Hid (pastB L K 11 (pre.map (·.1))=some s)/\Box W z 27 (.slice (some ⟨b,o,none⟩) 512 c)/\Box W (z+1) 27 (.slice ka kn kc)/\Box W (z+1+1) 3 (.int .i64 0)/\Box W (z+1+1+1) 3 (.int .i64 0)/\Box W (z+1+1+1+1) 4 (.bool false)/\Box W (z+1+1+1+1+1) 3 (.int .i64 s)/\Below z w W/\w1.heap.size<=W.heap.size)
  (fun cd pre W=>cd=.ret/\∃ i e t,Hid (∀ r,findB L K 11 (pre.map (·.1)++r)=(i,e,t))/\Box W (z+1+1) 3 (.int .i64 (i:Nat))/\Box W (z+1+1+1) 3 (.int .i64 (e:Nat))/\Box W (z+1+1+1+1) 4 (.bool t)/\Below z w W/\w1.heap.size<=W.heap.size)
  ?hI ?hIx ?h0 ?_
 case hI =>
  refine ownFrom_of_below (fun pre W W' h hB hb=>?_) (fun pre W h=>?_)
  ·obtain⟨s,h1,b1,b2,b3,b4,b5,b6,h5,h6⟩:=h;exact⟨s,h1,b1.below hb (by omega),b2.below hb (by omega),b3.below hb (by omega),b4.below hb (by omega),b5.below hb (by omega),b6.below hb (by omega),h5.trans (hb.mono (by omega)),Nat.le_trans h6 hb.size⟩
  ·obtain⟨s,h1,b1,b2,b3,b4,b5,b6,h5,h6⟩:=h;exact h6
 case hIx =>
  intro cd;refine ownFrom_of_below (fun pre W W' h hB hb=>?_) (fun pre W h=>?_)
  ·obtain⟨h0,i,e,t,h1,b3,b4,b5,h5,h6⟩:=h;exact⟨h0,i,e,t,h1,b3.below hb (by omega),b4.below hb (by omega),b5.below hb (by omega),h5.trans (hb.mono (by omega)),Nat.le_trans h6 hb.size⟩
  ·obtain⟨h0,i,e,t,h1,b3,b4,b5,h5,h6⟩:=h;exact h6
 case h0 =>
  obtain⟨c1,c2,c3,c4,c5,c6⟩:=Hc.out;exact⟨11,rfl,c1,c2,c3,c4,c5,c6,hlb,Nat.le_refl _⟩
 apply Exists.intro;refine⟨?assign,?body,?done,?stop⟩
 case assign =>
  intro l x W K hK
  gi_wp2
  exact hK
 case body =>
  rintro l pre x W ⟨s,h1,b1,b2,b3,b4,b5,b6,h5,h6⟩ _;obtain⟨i,e,hxe⟩:∃ i e,x.1=(i,e):=⟨_,_,rfl⟩
  obtain⟨⟨hx1,hx2,hx3⟩,hro1,hro2,hro3⟩:=x.2;rw[hxe] at hx1 hx2 hx3 hro1 hro2 hro3;simp only[hxe];have Hxe:=φ hxe;clear hxe;dsimp only at hx1 hx2 hx3 hro1 hro2 hro3 h1 ⊢;rw[<- Hln.out] at hro2 hro3;clear hx3 hx2;have g1:=b1.cell;have g2:=b2.cell;have g3:=b3.cell;have g3':=b3.frozen;have g4:=b4.cell;have g4':=b4.frozen;have g5:=b5.cell;have g5':=b5.frozen;have g6:=b6.cell;have g6':=b6.frozen;have hrW:=hr.below (h5.mono hN);have hkW:=hk.below (h5.mono hM);have hsn:=pastB_snoc L K _ (i,e) _ _ h1.out;dsimp only at hsn;have Hsn:=φ hsn;clear hsn;have hfb:∀ r,findB L K 11 (pre.map (·.1)++[(i,e)]++r)=if Lib.compareBytes (keyOf L i) K=0 then (i,e,true) else if 0<Lib.compareBytes (keyOf L i) K then (i,i,false) else findB L K e r:=fun r=>by
   rw[List.append_assoc,findB_past L K _ _ _ _ h1.out];rfl
  have Hfb:=φ hfb;clear hfb;have HI:Hid (bt L i=((bt L i).toNat:Int)/\i+2+(bt L i).toNat<=512/\1<=(bt L i).toNat):=⟨by omega,hro2,by omega⟩
  have HKi:Hid (RB N W (some ⟨b,o+(i+2),none⟩) (bt L i).toNat (c-(i+2)) (keyOf L i)):=hrW.sub (i+2) (bt L i).toNat HI.out.2.1;obtain⟨cm,hcm⟩:∃ cm,cm=Lib.compareBytes (keyOf L i) K:=⟨_,rfl⟩
  have HC:Hid (∀ q,Calls Tryz.prog 119 #[.slice (some ⟨b,o+(i+2),none⟩) (bt L i).toNat (c-(i+2)),.slice ka kn kc] (W.drewN q) fun e w'=>e=.returned (.int .i64 cm)/\W.drewN q=w') :=
   fun q=>by rw[hcm];exact Compare_any N M _ _ _ _ _ _ _ _ _ (HKi.out.drewN q) (hkW.drewN q)
  have Hcm:=φ hcm;clear hcm;by_cases hz0:cm=0
  ·subst hz0
   gi_wp2
   refine round_quiet_lit (by kernel_rfl) (by kernel_rfl) (by kernel_rfl) ?_
   repeat (go_big_quiet_step (first|(go_at_call 84;with_reducible exact quiet_same (key_pos N b o 512 c L i (bt L i).toNat _ (hrW.drewN _) HI.out.1 HI.out.2.1 HI.out.2.2))|(go_at_call 119;with_reducible exact quiet_same (HC.out _))))
   refine wpQuiet_nil ?_;intro _ hw';obtain⟨nq,hw''⟩:=hw';subst hw''
   gi_wp2
   refine⟨((ko_set _ _ _ _).trans (KeepsOthers.setCell _ _ _)).trans (KeepsOthers.setCell _ _ _),rfl,i,e,true,?_,?_,?_,?_,?_,?_⟩
   ·intro r;rw[List.map_append,List.map_singleton,Hxe.out,Hfb.out r,<- Hcm.out];rfl
   ·exact (((b3.drewN nq).set _).other (by omega) _).other (by omega) _
   ·exact (((b4.drewN nq).other (by omega) _).set _).other (by omega) _
   ·exact (((b5.drewN nq).other (by omega) _).other (by omega) _).set _
   ·exact (((δ h5 nq).setCell (p:=⟨z+1+1,0,none⟩) (by simp;omega) _).setCell (p:=⟨z+1+1+1,0,none⟩) (by simp;omega) _).setCell (p:=⟨z+1+1+1+1,0,none⟩) (by simp;omega) _
   ·rw[size_setCell',size_setCell',size_setCell'];exact h6
  have hz0d:(cm == 0)=false:=by simpa using hz0
  by_cases hz1:0<cm
  ·gi_wp2
   refine round_quiet_lit (by kernel_rfl) (by kernel_rfl) (by kernel_rfl) ?_
   repeat (go_big_quiet_step (first|(go_at_call 84;with_reducible exact quiet_same (key_pos N b o 512 c L i (bt L i).toNat _ (hrW.drewN _) HI.out.1 HI.out.2.1 HI.out.2.2))|(go_at_call 119;with_reducible exact quiet_same (HC.out _))))
   refine wpQuiet_nil ?_;intro _ hw';obtain⟨nq,hw''⟩:=hw';subst hw''
   gi_wp2
   refine⟨((ko_set _ _ _ _).trans (KeepsOthers.setCell _ _ _)).trans (KeepsOthers.setCell _ _ _),rfl,i,i,false,?_,?_,?_,?_,?_,?_⟩
   ·intro r;rw[List.map_append,List.map_singleton,Hxe.out,Hfb.out r,<- Hcm.out];rw[if_neg hz0,if_pos hz1]
   ·exact (((b3.drewN nq).set _).other (by omega) _).other (by omega) _
   ·exact (((b4.drewN nq).other (by omega) _).set _).other (by omega) _
   ·exact (((b5.drewN nq).other (by omega) _).other (by omega) _).set _
   ·exact (((δ h5 nq).setCell (p:=⟨z+1+1,0,none⟩) (by simp;omega) _).setCell (p:=⟨z+1+1+1,0,none⟩) (by simp;omega) _).setCell (p:=⟨z+1+1+1+1,0,none⟩) (by simp;omega) _
   ·rw[size_setCell',size_setCell',size_setCell'];exact h6
  ·have hz1d:decide (0<cm)=false:=decide_eq_false hz1
   gi_wp2
   refine round_quiet_lit (by kernel_rfl) (by kernel_rfl) (by kernel_rfl) ?_
   repeat (go_big_quiet_step (first|(go_at_call 84;with_reducible exact quiet_same (key_pos N b o 512 c L i (bt L i).toNat _ (hrW.drewN _) HI.out.1 HI.out.2.1 HI.out.2.2))|(go_at_call 119;with_reducible exact quiet_same (HC.out _))))
   refine wpQuiet_nil ?_;intro _ hw';obtain⟨nq,hw''⟩:=hw';subst hw''
   gi_wp2
   refine⟨ko_set _ _ _ _,(KpS.drewN _ _ _).setCell (by show ¬ (_∨_);simp;omega) _,e,?_,(b1.drewN nq).other (by omega) _,(b2.drewN nq).other (by omega) _,(b3.drewN nq).other (by omega) _,(b4.drewN nq).other (by omega) _,(b5.drewN nq).other (by omega) _,(b6.drewN nq).set _,(δ h5 nq).setCell (p:=⟨z+1+1+1+1+1,0,none⟩) (by simp;omega) _,by rw[size_setCell'];exact h6⟩;show _=_;rw[List.map_append,List.map_singleton,Hxe.out,Hsn.out,<- Hcm.out,if_pos (by omega)]
 case done =>
  rintro D xs W hD hxs ⟨s,h1,b1,b2,b3,b4,b5,b6,h5,h6⟩ hK;rw[hxs] at h1;have hfin:findL L K=(s,s,false):=by
   unfold findL;have:=findB_past L K _ [] _ _ h1.out
   rwa [List.append_nil] at this
  have Hfin:=φ hfin;have HK:=φ hK;clear hfin hK;have g3:=b3.cell;have g3':=b3.frozen;have g4:=b4.cell;have g4':=b4.frozen;have g5:=b5.cell;have g5':=b5.frozen;have g6:=b6.cell
  gi_wp2
  refine wpIn_wide.2 ?_;go_region
  gi_wp2
  have e3:=((b3.set (.int .i64 s)).other (j:=z+1+1+1) (o:=0) (by omega) (.int .i64 s)).other (j:=z+1+1+1+1) (o:=0) (by omega) (.bool false);have e4:=((b4.other (j:=z+1+1) (o:=0) (by omega) (.int .i64 s)).set (.int .i64 s)).other (j:=z+1+1+1+1) (o:=0) (by omega) (.bool false);have e5:=((b5.other (j:=z+1+1) (o:=0) (by omega) (.int .i64 s)).other (j:=z+1+1+1) (o:=0) (by omega) (.int .i64 s)).set (.bool false);have hK':=(((KeepsOthers.setCell W ⟨z+1+1,0,none⟩ (.int .i64 s)).trans (KeepsOthers.setCell _ ⟨z+1+1+1,0,none⟩ (.int .i64 s))).trans (KeepsOthers.setCell _ ⟨z+1+1+1+1,0,none⟩ (.bool false))).same D _ HK.out rfl;have hbb:=((h5.setCell (p:=⟨z+1+1,0,none⟩) (by simp;omega) (.int .i64 s)).setCell (p:=⟨z+1+1+1,0,none⟩) (by simp;omega) (.int .i64 s)).setCell (p:=⟨z+1+1+1+1,0,none⟩) (by simp;omega) (.bool false);have hbb':=hbb.drew;have e3':=e3.drew;have e4':=e4.drew;have e5':=e5.drew;have hK'':=heap_drew hK';refine⟨by simp,.inl ⟨_,_,rfl,run_takeDeferred hK'',?_⟩⟩;have q3:=cell_kept e3'.cell (grownBy_putObj' _ D (.deferred none)) (fun r e=>by cases e;exact⟨_,hK'',rfl⟩);have q4:=cell_kept e4'.cell (grownBy_putObj' _ D (.deferred none)) (fun r e=>by cases e;exact⟨_,hK'',rfl⟩);have q5:=cell_kept e5'.cell (grownBy_putObj' _ D (.deferred none)) (fun r e=>by cases e;exact⟨_,hK'',rfl⟩);refine⟨.tuple #[.int .i64 s,.int .i64 s,.bool false],?_,by rw[Hfin.out],by rw[<- Hz.out];exact hbb'.trans (belowK_b (w:=w1) (n₀:=z) (by omega) _ D _ _ hD hK'' rfl rfl)⟩;simp[results,Tryz.f67,go_sem,q3,q4,q5]
 case stop =>
  rintro D cd pre W hD hpre ⟨rfl,i,e,t,h1,b3,b4,b5,h5,h6⟩ hK;obtain⟨r,hr'⟩:=hpre;have hfin:findL L K=(i,e,t):=by unfold findL;rw[<- hr'];exact h1.out r
  have Hfin:=φ hfin;clear hfin
  gi_wp2
  refine⟨by simp,.inl ⟨_,_,rfl,run_takeDeferred hK,?_⟩⟩;have hput:∀ {k T v},Box W k T v->(W.putObj D (.deferred none)).cell? ⟨k,0,none⟩=some v:=fun hb=>cell_kept hb.cell (grownBy_putObj' _ D (.deferred none)) (fun r e=>by cases e;exact⟨_,hK,rfl⟩)
  have q3:=hput b3;have q4:=hput b4;have q5:=hput b5;refine⟨.tuple #[.int .i64 i,.int .i64 e,.bool t],?_,by rw[Hfin.out],by rw[<- Hz.out];exact h5.trans (belowK_b (w:=w1) (n₀:=z) (by omega) W D _ _ hD hK rfl rfl)⟩;simp[results,Tryz.f67,go_sem,q3,q4,q5]
end
section
open Go.RowKit
variable {l:List UInt8} {v:Value} {w:World}
def OB (base:Nat) (w:World) (v:Value) (l:List UInt8):Prop:=w.ownsRow base 5 1 v l.length (l.map bv)
theorem Tryz.infoU8:(Tryz.prog.info? 5).map (fun i=>(i.zero,i.size,i.bytes))=some (some (.int .u8 0),1,1):=by kernel_rfl
theorem OB.nil (base:Nat) (w:World):OB base w (.slice none 0 0) []:=World.ownsRow_nil _ _ _ _
theorem OB.mono {B B':Nat} (h:OB B w v l) (hb:B'<=B):OB B' w v l:=by
 obtain⟨h1,h2|⟨g,cap,cur,hv,hg,r⟩⟩:=h
 ·exact⟨h1,.inl h2⟩
 ·exact⟨h1,.inr ⟨g,cap,cur,hv,Nat.le_trans hb hg,r⟩⟩
theorem OB.rb {base:Nat} (h:OB base w v l) (hmx:l.length<=140737488355328):∃ a c,v=.slice a l.length c/\RB w.heap.size w a l.length c l:=by
 have hl:=h.lt;obtain⟨h1,⟨rfl,h0⟩|⟨g,cap,cur,rfl,hg,hh,hle,hcap,hsz,ht⟩⟩:=h
 ·have:l=[]:=List.eq_nil_of_length_eq_zero h0;subst this;exact⟨none,0,rfl,RB.emp _⟩
 ·refine⟨some ⟨g,0,none⟩,cap,rfl,⟨rfl,hle,by simpa [maxLen] using hcap,hmx,fun _=>⟨g,0,rfl,(Array.getElem?_eq_some_iff.1 hh).1,fun i hi=>?_⟩⟩⟩;have hb:=bv_getD l i hi;rw[<- ht] at hb;simp only[World.cell?,hh,Nat.zero_add,Option.isSome_none,Bool.false_eq_true,if_false];rw[List.getElem?_take,if_pos (by omega)] at hb;simpa using hb
theorem run_append_nothing {P:Program} (w:World) (t ty e:TypeId) (i:TypeInfo) (ht:P.underlying t=some (.slice e)) (hi:P.info? e=some i) (sa xa:Option Addr) (n c d:Nat) (hnc:n<=c) :
  (Builtin.append_ #[t,t] ty #[.slice sa n c,.slice xa 0 d]).run P w=.ok (.slice sa n c) w:=by
 have hn:n+0<=c:=by omega
 have hl:∀ a,(loadCells a 0).run P w=.ok #[] w:=fun a=>by simpa using run_loadCells_list (P:=P) w a [] (by simp)
 cases sa<;>cases xa<;>simp[Builtin.append_,run_underlying ht,sizeOf,typeInfo,hi,Builtin.lenOf,Builtin.firstCells,hnc,hl,storeCells]
theorem wpList_append_bytes {ops:Array Oper} {rest:List Oper} {o:Oper} {a:Act} {Q:Exit->Act->World->Prop} (hgd:o.guard=none) (s x:Operand)
  (ho:o.op=.call { callee:=.builtin .append,args:=#[s,x],argTypes:=#[27,27] })
  (base B:Nat) (v:Value) (l:List UInt8) (hs:a.eval s=v) (hown:OB base w v l) (sa:Option Addr) (m c:Nat) (k:List UInt8) (hx:a.eval x=.slice sa m c) (hsrc:RB B w sa m c k)
  (hlen:l.length+k.length<=140737488355328) (hbase:base<=w.heap.size)
  (h:∀ v' w',OB base w' v' (l++k)->w.grownBy w' v.ownBlock->(v'=.slice none 0 0↔v=.slice none 0 0/\k=[])->wpList Tryz.prog ops Q rest (a.put o.dst v') w'):wpList Tryz.prog ops Q (o::rest) a w:=by
 obtain⟨i0,hi,hz0,hz1,hz2⟩:=info_parts Tryz.infoU8;have hm:=hsrc.len;by_cases h0:m=0
 ·subst h0;obtain rfl:k=[]:=List.eq_nil_of_length_eq_zero hm.symm;obtain⟨va,vc,rfl,hrb⟩:=hown.rb (by simpa using hlen);refine wpList_plain hgd fun K hK=>?_
  have hrun:=run_append_nothing (P:=Tryz.prog) w 27 o.type 5 i0 Tryz.underlying27 hi va sa l.length vc c hrb.le;unfold Oper.wp execOp;simp only[ho,resolve,invoke,builtin,Sem.run_bind,Sem.run_pure,Result.andThen_ok,List.map_toArray,List.map_cons,List.map_nil,hs,hx,hrun];exact hK _ _ (h _ _ (by simpa using hown) ⟨rfl,rfl,rfl,Nat.le_refl _,fun _ _ _=>rfl⟩ (by simp))
 ·have hle:=hsrc.le;obtain⟨b,o',rfl,hB,hc⟩:=hsrc.at_ (by omega);refine wpList_append_own w hgd s x 27 ho base 5 i0 _ 1 1 Tryz.underlying27 hi hz0 hz1 hz2 rfl (by decide) v l.length (l.map bv) hs hown ⟨b,o',none⟩ m c (k.map bv) hx (by simp[hm]) hsrc.cells
   (fun u hu=>by obtain⟨y,_,rfl⟩:=List.mem_map.1 hu;rfl) (by simp only[maxLen];omega) (by omega) hbase ?_
  intro v' w' hown' hg hn;refine h v' w' ?_ hg ?_
  ·unfold OB;rw[List.length_append,List.map_append,<- hm];exact hown'
  ·rw[hn];have:k≠[]:=fun e=>h0 (by rw[hm,e];rfl)
   simp[h0,this]
end
section
set_option maxHeartbeats 1000000
open Go.RowKit Go.Shelf
variable {L:List UInt8} {X:List Value} {c g:Nat} {W:World}
def turnedB (k o n:Nat):Bool:=decide (0<k) && decide (k<=40) && decide (0<max o n) && decide (k+max o n<=220)
theorem turned_any (ka oa na:Option Addr) (kn kc on oc nn nc:Nat) (w:World) (hk:kn<=140737488355328) (ho:on<=140737488355328) (hn:nn<=140737488355328) :
  Calls Tryz.prog 66 #[.agg #[.slice ka kn kc,.slice oa on oc,.slice na nn nc]] w fun e w'=>e=.returned (.bool (turnedB kn on nn))/\Below w.heap.size w w':=by
 have hm:((max on nn:Nat):Int)=max (on:Int) (nn:Int):=by omega
 go_enter Tryz.func66,Tryz.ntmps66;go_wp2;go_quiet (fail);go_wp2
 all_goals
  go_ret;refine⟨?_,δ (by go_grown) _⟩;refine congrArg (fun x=>Ending.returned (.bool x)) ?_;rw[Bool.eq_iff_iff];simp[turnedB];omega
structure PG (W:World) (g:Nat) (c:Nat) (L:List UInt8) (X:List Value):Prop where
 blk:W.heap[g]? = some (.cells (L.map bv++X).toArray 5 (0,0))
 len:L.length=512
 cap:c=512+X.length
 mx:c<=9223372036854775807
theorem PG.rb (h:PG W g c L X):RB W.heap.size W (some ⟨g,0,none⟩) 512 c L :=
 ⟨h.len.symm,by rw[h.cap];omega,h.mx,by omega,fun _=>⟨g,0,rfl,(Array.getElem?_eq_some_iff.1 h.blk).1,fun i hi=>by
  have hlen:=h.len;have hg:=bv_getD L i (by omega);simp only[World.cell?,h.blk,Nat.zero_add,Option.isSome_none,Bool.false_eq_true,if_false];rw[List.getElem?_toArray,List.getElem?_append_left (by simp;omega),hg]⟩⟩
theorem PG.below {B:Nat} {W':World} (h:PG W g c L X) (hb:Below B W W') (hg:g<B):PG W' g c L X :=
 ⟨(hb.block g hg).trans h.blk,h.len,h.cap,h.mx⟩
theorem PG.lt (h:PG W g c L X):g<W.heap.size:=(Array.getElem?_eq_some_iff.1 h.blk).1
theorem New_any (w:World) :
  Calls Tryz.prog 25 #[] w fun e w'=>e=.returned (.slice (some ⟨w.heap.size,0,none⟩) 512 512)/\PG w' w.heap.size 512 (List.replicate 512 0) []/\Below w.heap.size w w':=by
 obtain⟨i0,hi,hz0,hz1,hz2⟩:=info_parts Tryz.infoU8;have hmk:=run_make (P:=Tryz.prog) w 27 5 i0 _ Tryz.underlying27 hi hz0 .i64 .i64 512 512 (by decide) (by decide) (by rw[hz2];decide) (by decide);obtain⟨blk,hblk⟩:∃ blk,blk=madeCells (Value.int .u8 0).cells ((512:Int).toNat*i0.size):=⟨_,rfl⟩
 rw[<- hblk] at hmk;have hpg:PG (w.alloc (.cells blk 5)) w.heap.size 512 (List.replicate 512 0) []:=by
  refine⟨?_,by rw[List.length_replicate],rfl,by omega⟩;rw[heap_alloc_new,hblk,hz1];have e:madeCells (Value.int .u8 0).cells ((512:Int).toNat*1)=((List.replicate 512 (0:UInt8)).map bv++[]).toArray:=by
   apply Array.ext';rw[List.append_nil,List.map_replicate];exact toList_madeCells_one _ _
  rw[e]
 have hbl:Below w.heap.size w (w.alloc (.cells blk 5)):=(Below.refl _ w).alloc (Nat.le_refl _) _;have Hpg:=φ hpg;have Hbl:=φ hbl;clear hblk hpg hbl hi hz0 hz1 hz2;have e1:(512:Int).toNat=512:=rfl;rw[e1] at hmk;clear e1;go_enter Tryz.func25,Tryz.ntmps25;go_wp2;go_ret;exact⟨rfl,Hpg.out,Hbl.out⟩
theorem Right_any (N:Nat) (a:Option Addr) (n c:Nat) (L:List UInt8) (w:World) (hr:RB N w a n c L) (hN:N<=w.heap.size) :
  Calls Tryz.prog 76 #[.slice a n c] w fun e w'=>e=.returned (.bool (decide (0<βL L)))/\Below w.heap.size w w':=by
 go_enter Tryz.func76,Tryz.ntmps76;go_wp2_with (go_at_call 65;refine (behind_any N _ _ _ _ _ hr hN).mono ?_;rintro e w' ⟨rfl,hb⟩);go_ret;exact⟨by simp,hb⟩
theorem Clone_any (N:Nat) (a:Option Addr) (n c:Nat) (L:List UInt8) (w:World) (hr:RB N w a n c L) (hN:N<=w.heap.size) :
  Calls Tryz.prog 83 #[.slice a n c] w fun e w'=>(∃ v,e=.returned v/\OB w.heap.size w' v L)/\Below w.heap.size w w':=by
 have hle:=hr.le;have hmx:=hr.mx;have hlm:=hr.lm;have hln:=hr.len
 cases a with
 | none =>
  have hc0:c=0:=by
   rcases Nat.eq_zero_or_pos c with h|h
   ·exact h
   ·obtain⟨b,o,h',-⟩:=hr.at_ h;cases h'
  subst hc0;obtain rfl:n=0:=by omega
  obtain rfl:L=[]:=List.eq_nil_of_length_eq_zero hln.symm;have hq:=Lib.run_eql_slice_nil (P:=Tryz.prog) w 27 5 none 0 0 0 0 Tryz.underlying27;clear hle hmx hlm hln;go_enter Tryz.func83,Tryz.ntmps83;go_wp2;go_ret;exact⟨⟨_,rfl,OB.nil _ _⟩,Below.refl _ _⟩
 | some a =>
  have hq:=Lib.run_eql_slice_nil (P:=Tryz.prog) w 27 5 (some a) n c 0 0 Tryz.underlying27;have Hln:=φ hln;clear hln;go_enter Tryz.func83,Tryz.ntmps83;have hown0:OB w.heap.size (w.alloc (.cells #[] 5)) (.slice (some ⟨w.heap.size,0,none⟩) 0 0) []:=World.ownsRow_made w #[] 0 (Nat.le_refl _) (by simp) rfl;have hb1:Below w.heap.size w (w.alloc (.cells #[] 5)):=(Below.refl _ w).alloc (Nat.le_refl _) _;have hr1:=hr.below (hb1.mono hN);have Hown:=φ hown0;have Hb1:=φ hb1;have Hr1:=φ hr1;clear hown0 hb1 hr1;go_wp2_with (at_builtin;refine wpList_append_bytes rfl _ _ rfl w.heap.size N _ [] rfl Hown.out _ _ _ L rfl Hr1.out (by simp[<- Hln.out];exact hlm) (by simp) ?_;intro v' w' hown' hg _);go_ret;refine⟨⟨_,rfl,by simpa using hown'⟩,Hb1.out.grown hg (by simp) (fun k e=>?_)⟩
  cases e
  exact Nat.le_refl _
def valOf (p:List UInt8) (i e:Nat):List UInt8:=(p.drop (i+2+(bt p i).toNat)).take (e-(i+2+(bt p i).toNat))
theorem find_any (N M:Nat) (a:Option Addr) (n c:Nat) (L:List UInt8) (ka:Option Addr) (kn kc:Nat) (K:List UInt8) (w:World) (hr:RB N w a n c L) (hk:RB M w ka kn kc K) (hN:N<=w.heap.size) (hM:M<=w.heap.size)
  (hL:0<βL L):Calls Tryz.prog 67 #[.slice a n c,.slice ka kn kc] w fun e w' =>
   e=.returned (.tuple #[.int .i64 (findL L K).1,.int .i64 (findL L K).2.1,.bool (findL L K).2.2])/\Below w.heap.size w w':=by
 have hlen:=right_len hL;have hn:=hr.len;have hle:=hr.le;obtain rfl:n=512:=by omega
 obtain⟨b,o,rfl,-,-⟩:=hr.at_ (by omega);exact callsIn_wide.1 (find_in N M b o c L ka kn kc K w hr hk hN hM (right_rows hL))
end
section
open Go.RowKit Go.Shelf
variable {Q:Exit->Act->World->Prop} {L l:List UInt8} {X:List Value} {B c g k n:Nat} {o:Oper} {W a b w:World}
def Mod (g:Nat) (w w':World):Prop:=w.grownBy w' (some g)
theorem Mod.refl (g:Nat) (w:World):Mod g w w:=⟨rfl,rfl,rfl,Nat.le_refl _,fun _ _ _=>rfl⟩
theorem Mod.trans {c:World} (h:Mod g a b) (k:Mod g b c):Mod g a c :=
 ⟨k.os.trans h.os,k.tape.trans h.tape,k.output.trans h.output,Nat.le_trans h.size k.size,fun i hi hne=>(k.block i (Nat.lt_of_lt_of_le hi h.size) hne).trans (h.block i hi hne)⟩
theorem Mod.of_below (h:Below a.heap.size a b):Mod g a b:=⟨h.os,h.tape,h.output,h.size,fun i hi _=>h.block i hi⟩
theorem Mod.drew (h:Mod g a b):Mod g a b.drew:=⟨h.os,h.tape,h.output,h.size,h.block⟩
theorem Mod.block' (h:Mod g a b) (hk:k<a.heap.size) (hne:k≠g):b.heap[k]? = a.heap[k]?:=h.block k hk (fun e=>by cases e;exact hne rfl)
theorem Mod.cell (h:Mod g a b) {o:Nat} (hk:k<a.heap.size) (hne:k≠g):b.cell? ⟨k,o,none⟩=a.cell? ⟨k,o,none⟩:=World.cell?_of_block (w:=a) (h.block' hk hne)
structure RBn (g B:Nat) (w:World) (a:Option Addr) (n c:Nat) (l:List UInt8):Prop where
 rb:RB B w a n c l
 ne:0<c->∀ b o s,a=some ⟨b,o,s⟩->b≠g
theorem RBn.mod {w':World} {a:Option Addr} (h:RBn g B w a n c l) (hm:Mod g w w') (hB:B<=w.heap.size):RBn g B w' a n c l :=
 ⟨⟨h.rb.len,h.rb.le,h.rb.mx,h.rb.lm,fun hc=>by
  obtain⟨b,o,rfl,hb,hcell⟩:=h.rb.at_ hc;exact⟨b,o,rfl,hb,fun i hi=>(hm.cell (by omega) (h.ne hc b o none rfl)).trans (hcell i hi)⟩⟩,h.ne⟩
theorem PG.set (h:PG W g c L X) (i:Nat) (x:UInt8) (hi:i<512):PG (W.setCell ⟨g,i,none⟩ (.int .u8 (x.toNat:Int))) g c (L.set i x) X:=by
 have hlen:=h.len;refine⟨?_,by rw[List.length_set];exact hlen,h.cap,h.mx⟩;have hb:=h.blk;obtain⟨hlt,he⟩:=Array.getElem?_eq_some_iff.1 hb;show (W.heap.modify g _)[g]? = _;rw[Array.getElem?_modify,if_pos rfl,hb];simp only[Option.map_some,Option.isSome_none,Bool.false_eq_true,if_false]
 congr 2
 apply Array.ext';simp only[Array.toList_setIfInBounds];rw[List.set_append_left _ _ (by simp;omega),List.map_set];rfl
theorem Mod.set (g:Nat) (h:Mod g a b) (i:Nat) (v:Value):Mod g a (b.setCell ⟨g,i,none⟩ v) :=
 h.trans ⟨rfl,rfl,rfl,by simp[World.setCell],fun k hk hne=>Below.heap_setCell b ⟨g,i,none⟩ v k (fun e=>hne (by rw[e]))⟩
theorem PG.cell (h:PG W g c L X) (i:Nat) (hi:i<512):W.cell? ⟨g,i,none⟩=some (.int .u8 (bt L i)):=by
 obtain⟨b,o,he,-,hc⟩:=h.rb.at_ (by rw[h.cap];omega)
 cases he
 have:=hc i hi
 rwa [Nat.zero_add] at this
theorem PG.frozen (h:PG W g c L X) (i:Nat):W.frozen? ⟨g,i,none⟩=false:=by
 simp[World.frozen?,h.blk]
theorem PG.drew (h:PG W g c L X):PG W.drew g c L X:=⟨h.blk,h.len,h.cap,h.mx⟩
theorem splice_len {α:Type} (L:List α) (off:Nat) (cs:List α) (h:off+cs.length<=L.length):(splice L off cs).length=L.length:=length_splice L off cs h
theorem PG.splice (h:PG W g c L X) (off:Nat) (k:List UInt8) (hk:off+k.length<=512) :
  PG (W.setRow g ((L.map bv++X).toArray.toList.take off++k.map bv++(L.map bv++X).toArray.toList.drop (off+(k.map bv).length)).toArray) g c (Go.splice L off k) X:=by
 have hlen:=h.len;refine⟨?_,by rw[splice_len _ _ _ (by omega)];exact hlen,h.cap,h.mx⟩;rw[setRow_heap W g _ _ _ _ h.blk]
 congr 3
 simp only[List.length_map,Go.splice,List.map_append,List.map_take,List.map_drop];rw[List.take_append_of_le_length (by simp;omega),List.drop_append_of_le_length (by simp;omega)];simp[List.append_assoc]
theorem Mod.setRow (g:Nat) (h:Mod g a b) (cs:Array Value):Mod g a (b.setRow g cs) :=
 h.trans ⟨rfl,rfl,rfl,by simp[World.setRow],fun k hk hne=>setRow_other b g k cs (fun e=>hne (by rw[e]))⟩
def Src (w:World) (sa:Option Addr) (k:List UInt8):Prop:=0<k.length->∃ ad,sa=some ad/\∀ j v,(k.map bv)[j]? = some v->w.cell? (ad.add j)=some v
theorem RB.src {a:Option Addr} (h:RB B w a n c l):Src w a l:=fun h0=>by
 have hl:=h.len;have hle:=h.le;obtain⟨b,o,rfl,-,-⟩:=h.at_ (by omega);exact⟨_,rfl,h.cells⟩
theorem wpList_copy_pg {ops:Array Oper} {rest:List Oper} {a:Act} (hgd:o.guard=none) (d s:Operand)
  (ho:o.op=.call { callee:=.builtin .copy,args:=#[d,s],argTypes:=#[27,27] })
  (g c:Nat) (L:List UInt8) (X:List Value) (hpg:PG w g c L X) (da sa:Option Addr) (dl dc sl sc off:Nat) (k:List UInt8) (hd:a.eval d=.slice da dl dc) (hs:a.eval s=.slice sa sl sc)
  (hk:k.length=min sl dl) (hsrc:Src w sa k) (hda:0<k.length->da=some ⟨g,off,none⟩) (hfit:off+k.length<=512)
  (h:∀ w',PG w' g c (Go.splice L off k) X->Mod g w w'->w'.heap.size=w.heap.size->wpList Tryz.prog ops Q rest (a.put o.dst (goInt k.length)) w'):wpList Tryz.prog ops Q (o::rest) a w:=by
 have hsz:(Tryz.prog.info? 5).map (·.size)=some 1:=by
  obtain⟨i0,hi,hz0,hz1,hz2⟩:=info_parts Tryz.infoU8;rw[hi];simp[hz1]
 by_cases h0:k.length=0
 ·obtain rfl:k=[]:=List.eq_nil_of_length_eq_zero h0;refine wpList_copy_nothing hgd d s 27 27 ho 5 Tryz.underlying27 hsz da sa dl dc sl sc hd hs (by simpa using hk.symm) ?_;have e:Go.splice L off []=L:=by simp[Go.splice]
  have:=h w (by rw[e];exact hpg) (Mod.refl _ _) rfl;simpa using this
 ·obtain⟨ad,rfl,hcells⟩:=hsrc (by omega);obtain rfl:=hda (by omega);refine wpList_copy_own hgd d s 27 27 ho 5 Tryz.underlying27 hsz g off dl dc ad sl sc hd hs _ _ hpg.blk (k.map bv) (by simpa using hk) hcells (by simp[hpg.len];omega)
   (fun u hu=>by obtain⟨y,_,rfl⟩:=List.mem_map.1 hu;rfl) ?_
  have:=h _ (hpg.splice off k hfit) ((Mod.refl g w).setRow g _) (by simp[World.setRow]);simpa using this
theorem wpList_clear_pg {ops:Array Oper} {rest:List Oper} {a:Act} (hgd:o.guard=none) (d:Operand)
  (ho:o.op=.call { callee:=.builtin .clear,args:=#[d],argTypes:=#[27] })
  (g c:Nat) (L:List UInt8) (X:List Value) (hpg:PG w g c L X) (dl dc off:Nat) (hd:a.eval d=.slice (some ⟨g,off,none⟩) dl dc) (h0:0<dl) (hfit:off+dl<=512)
  (h:∀ w',PG w' g c (Go.splice L off (List.replicate dl 0)) X->Mod g w w'->w'.heap.size=w.heap.size->wpList Tryz.prog ops Q rest (a.put o.dst (.tuple #[])) w'):wpList Tryz.prog ops Q (o::rest) a w:=by
 obtain⟨i0,hi,hz0,hz1,hz2⟩:=info_parts Tryz.infoU8;refine wpList_plain hgd fun K hK=>?_
 have hzc:(Builtin.zeroCells #[Value.int .u8 0] dl).toList=(List.replicate dl (0:UInt8)).map bv:=by
  apply List.ext_getElem
  ·simp[Builtin.zeroCells]
  ·intro i h1 h2;simp[Builtin.zeroCells,bv,Nat.mod_one]
 have hst:=run_storeCells_at Tryz.prog g off 5 ((List.replicate dl (0:UInt8)).map bv) 0 _ w hpg.blk (by simp[hpg.len];omega) (fun u hu=>by obtain⟨y,_,rfl⟩:=List.mem_map.1 hu;rfl);have hrun:(Builtin.clear_ #[27] o.type #[.slice (some ⟨g,off,none⟩) dl dc]).run Tryz.prog w=.ok (.tuple #[]) (w.setRow g ((L.map bv++X).toArray.toList.take off++(List.replicate dl 0).map bv++(L.map bv++X).toArray.toList.drop (off+((List.replicate dl (0:UInt8)).map bv).length)).toArray):=by
  obtain⟨m,rfl⟩:∃ m,dl=m+1:=⟨dl-1,by omega⟩
  simp only[Nat.add_zero] at hst;simp[Builtin.clear_,run_underlying Tryz.underlying27,zeroValue,typeInfo,hi,hz0,Value.cells];rw[hzc,hst];simp
 unfold Oper.wp execOp;simp only[ho,resolve,invoke,builtin,Sem.run_bind,Sem.run_pure,Result.andThen_ok,List.map_toArray,List.map_cons,List.map_nil,hd,hrun];exact hK _ _ (h _ (hpg.splice off (List.replicate dl 0) (by simp;omega)) ((Mod.refl g w).setRow g _) (by simp[World.setRow]))
theorem u8_inc (l:List UInt8) (i:Nat):IntKind.u8.wrap (bt l i+1)=((l.getD i 0+1).toNat:Int):=by
 unfold bt;rw[IntKind.wrap_u8,UInt8.toNat_add];simp
theorem u8_dec (l:List UInt8) (i:Nat):IntKind.u8.wrap (bt l i-1)=((l.getD i 0+(0-1)).toNat:Int):=by
 unfold bt;rw[IntKind.wrap_u8,UInt8.toNat_add];have h1:((0-1:UInt8)).toNat=255:=by decide
 rw[h1];have:=(l.getD i 0).toNat_lt;omega
end
section
set_option maxHeartbeats 1000000
open Go.RowKit Go.Shelf
variable {z:Nat} {v0 v1 v2:Value} {W W':World}
def byteOf (n:Nat):UInt8:=UInt8.ofNat n
def moved (p:List UInt8) (i e last size:Nat):List UInt8:=splice p (i+size) ((p.drop e).take (last-e))
def wiped (p:List UInt8) (i e last size:Nat):List UInt8 :=
 if last-(e-i)+size<last then splice (moved p i e last size) (last-(e-i)+size) (List.replicate (last-(last-(e-i)+size)) 0) else moved p i e last size
def laid (p:List UInt8) (i:Nat) (k n:List UInt8):List UInt8:=splice (splice ((p.set i (byteOf k.length)).set (i+1) (byteOf n.length)) (i+2) k) (i+2+k.length) n
def counted (p:List UInt8) (d:UInt8):List UInt8:=p.set 10 (p.getD 10 0+d)
def turnBytes (p:List UInt8) (i e last:Nat) (k n:List UInt8) (is:Bool):List UInt8 :=
 let size:=if n=[] then 0 else 2+k.length+n.length
 let p2:=wiped p i e last size
 let p3:=if n=[] then p2 else counted (laid p2 i k n) 1
 if is then counted p3 (0-1) else p3
def turnL (p k o n:List UInt8):Nat×List UInt8 :=
 if βL p=0 then (4,p) else
 if turnedB k.length o.length n.length=false then (2,p) else
 match findL p k with
 | (i,e,is) =>
  if (is != decide (0<o.length))=true∨(is=true/\eqB (valOf p i e) o=false) then (6,p) else
  if 512<βL p-(e-i)+(if n=[] then 0 else 2+k.length+n.length) then (5,p) else
  (0,turnBytes p i e (βL p) k n is)
def TurnPost (g c:Nat) (w:World) (r:Nat×List UInt8) (X:List Value) (e:Ending) (w':World):Prop :=
 e=.returned (.int .i64 r.1)/\PG w' g c r.2 X/\Mod g w w'
theorem Turn_shape (g c:Nat) (L:List UInt8) (X:List Value) (B:Nat) (ka oa na:Option Addr) (kn kc on oc nn nc:Nat) (K O N:List UInt8) (w:World) (hp:PG w g c L X)
  (_hk:RBn g B w ka kn kc K) (_ho:RBn g B w oa on oc O) (_hn:RBn g B w na nn nc N) (_hB:B<=w.heap.size) (h0:βL L=0) :
  Calls Tryz.prog 21 #[.slice (some ⟨g,0,none⟩) 512 c,.agg #[.slice ka kn kc,.slice oa on oc,.slice na nn nc]] w (TurnPost g c w (turnL L K O N) X):=by
 have hfin:turnL L K O N=(4,L):=by unfold turnL;rw[if_pos h0]
 have Hfin:=φ hfin;have HB:Hid (∀ w':World,Below w.heap.size w w'->Calls Tryz.prog 65 #[.slice (some ⟨g,0,none⟩) 512 c] w' fun e w''=>e=.returned (.int .i64 0)/\Below w'.heap.size w' w''):=by
  intro w' hb;have:=behind_any w'.heap.size _ _ _ _ w' (hp.below hb hp.lt).rb (Nat.le_refl _);rw[h0] at this;exact this
 have hb0:Below w.heap.size w (w.alloc (.cells #[.slice ka kn kc,.slice oa on oc,.slice na nn nc] 29)):=(Below.refl _ w).alloc (Nat.le_refl _) _;have Hb0:=φ hb0;clear hfin h0 hb0;go_enter Tryz.func21,Tryz.ntmps21;go_wp2_with (go_at_call 65;refine (HB.out _ Hb0.out).mono ?_;rintro e w' ⟨rfl,hb⟩);go_ret;have hb2:=Hb0.out.trans (hb.mono Hb0.out.size);exact⟨by rw[Hfin.out];rfl,by rw[Hfin.out];exact hp.below hb2 hp.lt,Mod.of_below hb2⟩
def T3 (W:World) (z:Nat) (v0 v1 v2:Value):Prop:=W.heap[z]? = some (.cells #[v0,v1,v2] 29 (0,0))
theorem T3.below {B:Nat} (h:T3 W z v0 v1 v2) (hb:Below B W W') (hz:z<B):T3 W' z v0 v1 v2:=(hb.block z hz).trans h
theorem T3.cells (h:T3 W z v0 v1 v2):W.cell? ⟨z,0,none⟩=some v0/\W.cell? ⟨z,1,none⟩=some v1/\W.cell? ⟨z,2,none⟩=some v2:=by
 unfold T3 at h;simp[World.cell?,h]
theorem T3.drew (h:T3 W z v0 v1 v2):T3 W.drew z v0 v1 v2:=h
theorem T3.lt (h:T3 W z v0 v1 v2):z<W.heap.size:=(Array.getElem?_eq_some_iff.1 h).1
theorem T3.mod {g:Nat} (h:T3 W z v0 v1 v2) (hm:Mod g W W') (hne:z≠g):T3 W' z v0 v1 v2:=(hm.block' h.lt hne).trans h
theorem Turn_arg (g c:Nat) (L:List UInt8) (X:List Value) (B:Nat) (ka oa na:Option Addr) (kn kc on oc nn nc:Nat) (K O N:List UInt8) (w:World) (hp:PG w g c L X)
  (hk:RBn g B w ka kn kc K) (ho:RBn g B w oa on oc O) (hn:RBn g B w na nn nc N) (_hB:B<=w.heap.size) (h0:βL L≠0) (ht:turnedB K.length O.length N.length=false) :
  Calls Tryz.prog 21 #[.slice (some ⟨g,0,none⟩) 512 c,.agg #[.slice ka kn kc,.slice oa on oc,.slice na nn nc]] w (TurnPost g c w (turnL L K O N) X):=by
 have hfin:turnL L K O N=(2,L):=by unfold turnL;rw[if_neg h0,if_pos ht]
 have Hfin:=φ hfin;obtain⟨last,hlast⟩:∃ last,last=βL L:=⟨_,rfl⟩
 have HB:Hid (∀ w':World,Below w.heap.size w w'->Calls Tryz.prog 65 #[.slice (some ⟨g,0,none⟩) 512 c] w' fun e w''=>e=.returned (.int .i64 last)/\Below w'.heap.size w' w''):=by
  intro w' hb;rw[hlast];exact behind_any w'.heap.size _ _ _ _ w' (hp.below hb hp.lt).rb (Nat.le_refl _)
 have HT:Hid (∀ w':World,Calls Tryz.prog 66 #[.agg #[.slice ka kn kc,.slice oa on oc,.slice na nn nc]] w' fun e w''=>e=.returned (.bool false)/\Below w'.heap.size w' w''):=by
  intro w';have:=turned_any ka oa na kn kc on oc nn nc w' hk.rb.lm ho.rb.lm hn.rb.lm;rw[hk.rb.len,ho.rb.len,hn.rb.len,ht] at this;rw[hk.rb.len,ho.rb.len,hn.rb.len];exact this
 have hl0:last≠0:=by rw[hlast];exact h0
 have hld:((last:Int) == 0)=false:=by simp;omega
 have hb0:Below w.heap.size w (w.alloc (.cells #[.slice ka kn kc,.slice oa on oc,.slice na nn nc] 29)):=(Below.refl _ w).alloc (Nat.le_refl _) _;have ht0:T3 (w.alloc (.cells #[.slice ka kn kc,.slice oa on oc,.slice na nn nc] 29)) w.heap.size (.slice ka kn kc) (.slice oa on oc) (.slice na nn nc):=heap_alloc_new w _;have Hb0:=φ hb0;have Ht0:=φ ht0;clear hfin h0 hb0 ht0 hlast ht hl0;go_enter Tryz.func21,Tryz.ntmps21;go_wp2_with (first|(go_at_call 65;refine (HB.out _ Hb0.out).mono ?_;rintro e w1 ⟨rfl,hb1⟩;obtain⟨c0,c1,c2⟩:=(Ht0.out.below hb1 (by simp)).cells)|(go_at_call 66;refine (HT.out _).mono ?_;rintro e w2 ⟨rfl,hb2⟩));go_ret;have hb3:=(Hb0.out.trans (hb1.mono Hb0.out.size)).trans (hb2.mono (Hb0.out.trans (hb1.mono Hb0.out.size)).size);exact⟨by rw[Hfin.out];rfl,by rw[Hfin.out];exact hp.below hb3 hp.lt,Mod.of_below hb3⟩
theorem find_bd (p k:List UInt8):∀ (c q f la f':Nat),walkB p (q,f) (scan p c q)=some (la,f')->q<=p.length->11<=q->∀ (i e:Nat) (t:Bool),findB p k q (scan p c q)=(i,e,t) ->
  q<=i/\i<=e/\e<=la/\la<=p.length/\(t=true->1<=bt p i/\i+2+(bt p i).toNat<e)/\(t=false->i=e)
 | 0,q,f,la,f',h,hq,_,i,e,t,hf=>by
  simp only[scan,walkB,findB] at h hf
  cases h;cases hf
  exact⟨Nat.le_refl _,Nat.le_refl _,Nat.le_refl _,hq,(fun h=>by cases h),fun _=>rfl⟩
 | c+1,q,f,la,f',h,hq,h11,i,e,t,hf=>by
  simp only[scan,walkB,findB] at h hf;split at h
  case isFalse=>cases h
  rename_i hok;unfold okRow at hok;simp only[Bool.and_eq_true,decide_eq_true_eq] at hok;obtain⟨⟨⟨⟨⟨h1,h2⟩,-⟩,h4⟩,-⟩,-⟩:=hok;have hgt:¬ p.length<endOf p q:=by omega
  rw[if_neg hgt] at h hf;have hge:=endOf_ge p q hq;have hin:q+2<=p.length:=by
   by_cases hh:q+2<=p.length
   ·exact hh
   ·rw[endOf_out hh] at h1;omega
  have hend:=endOf_in hin;have hla:endOf p q<=la/\la<=p.length:=by
   obtain⟨i',e',t',hf'⟩:∃ i' e' t',findB p k (endOf p q) (scan p c (endOf p q))=(i',e',t'):=⟨_,_,_,rfl⟩
   obtain⟨a1,a2,a3,a4,-⟩:=find_bd p k c (endOf p q) q la f' h h1 (by omega) i' e' t' hf';exact⟨by omega,a4⟩
  split at hf
  ·cases hf
   exact⟨Nat.le_refl _,by omega,hla.1,hla.2,fun _=>⟨h2,by omega⟩,fun h=>by cases h⟩
  ·split at hf
   ·cases hf
    exact⟨Nat.le_refl _,Nat.le_refl _,by omega,hla.2,(fun h=>by cases h),fun _=>rfl⟩
   ·obtain⟨a1,a2,a3,a4,a5,a6⟩:=find_bd p k c (endOf p q) q la f' h h1 (by omega) i e t hf;exact⟨by omega,a2,a3,a4,a5,a6⟩
theorem findL_bd {p k:List UInt8} (h0:βL p≠0) {i e:Nat} {t:Bool} (hf:findL p k=(i,e,t)) :
  11<=i/\i<=e/\e<=βL p/\βL p<=512/\(t=true->1<=bt p i/\i+2+(bt p i).toNat<e)/\(t=false->i=e):=by
 have hlen:=right_len (Nat.pos_of_ne_zero h0);unfold βL at h0 ⊢;split at h0
 ·exact absurd rfl h0
 ·rename_i hh;rw[if_neg hh];split at h0
  ·exact absurd rfl h0
  ·rename_i s hs;split at h0
   ·exact absurd rfl h0
   ·rename_i ht;rw[if_neg ht];have:=find_bd p k _ 11 0 s.1 s.2 hs (by omega) (Nat.le_refl _) i e t hf;rw[hlen] at this;exact this
end
end Go.Proofs.YtohlkkannjifmaaGreatDoor
