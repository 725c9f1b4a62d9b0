/- The walk of amount.Join. The walks of amount.Times and the document's; of the document's Sum. Plain Lean: joining hangs on no order and on no cut. -/
import Derived.Test.YtgplnekpgdhcpaaGreatJMap
import Derived.Maps.RangeWalk
import Derived.Maps.OwnOps
import Derived.Test.YtgplnekpgdhcpaaGreatQEnds
import Derived.Test.YtgplnekpgdhcpaaGreatJShelf
import Derived.Test.YtgplnekpgdhcpaaGreatJPure
namespace Go.Proofs.YtgplnekpgdhcpaaGreat
open Go.RowKit Go.Shelf Go.Lib Go.Maps
theorem keyS:Keyed Tryz.prog 9:=string_keyed Tryz.underlying9
theorem zeroI (w:World):(zeroValue 2).run Tryz.prog w = .ok (.int .i64 0) w:=by kernel_rfl
theorem fine_flat {B:Nat} {w:World} {a:Option Addr} {n c:Nat} {V:List PV} (h:RV B w a n c V):Fine (flatV V):=by
 intro p hp
 obtain⟨v,hv,hp⟩:=List.mem_flatMap.1 hp
 obtain⟨i,hi,rfl⟩:=List.mem_iff_getElem.1 hv
 have:=(h.each i (by have:=h.len;omega)).fine
 rw[List.getD_eq_getElem?_getD,List.getElem?_eq_getElem hi] at this
 exact this p hp
theorem joinL_drop {L S:List Pt} {i:Nat} (h:i < L.length):joinL S (L.drop i)=match addA (sumAt S (L.getD i default).1) (L.getD i default).2 with | none=>none | some n=>joinL (setAt S (L.getD i default).1 n) (L.drop (i+1)):=by
 rw[List.drop_eq_getElem_cons h,List.getD_eq_getElem?_getD,List.getElem?_eq_getElem h]
 rfl
def JoinPost (w:World) (T:Option (List Pt)) (e:Ending) (w':World):Prop:=Below w.heap.size w w' /\
 match T with
 | none=>e = .returned (.tuple #[.slice none 0 0,.bool false])
 | some S=>∃ a' c',e = .returned (.tuple #[.slice a' S.length c',.bool true])/\OP w.heap.size w' (.slice a' S.length c') S
theorem own_below {H:Type} {P:Program} {k:TypeId} {R:Value->Option (DataW H×List MemPlace)} {W W':World} {b n:Nat} {D:DataW H} (h:W.ownsMap P k R b n D) (hb:Below W.heap.size W W'):W'.ownsMap P k R b n D:=by
 have hlt:=h.lt
 obtain⟨es,clock,hh,r⟩:=h
 exact⟨es,clock,(hb.block b hlt).trans hh,r⟩
theorem grown_below {W1 W W2:World} {row:Option Nat} (h:W1.grownBy W row) (hb:Below W.heap.size W W2):W1.grownBy W2 row :=
 ⟨hb.os.trans h.os,hb.tape.trans h.tape,hb.output.trans h.output,Nat.le_trans h.size hb.size,fun k hk hne=>(hb.block k (Nat.lt_of_lt_of_le hk h.size)).trans (h.block k hk hne)⟩
theorem grown_grown {W1 W W2:World} {row:Option Nat} (h:W1.grownBy W row) (hb:W.grownBy W2 row):W1.grownBy W2 row :=
 ⟨hb.os.trans h.os,hb.tape.trans h.tape,hb.output.trans h.output,Nat.le_trans h.size hb.size,fun k hk hne=>(hb.block k (Nat.lt_of_lt_of_le hk h.size) hne).trans (h.block k hk hne)⟩
theorem one_src (W:World) (x:List UInt8) (q:Int) (t:TypeId):∀ j u,(cellsP [(x,q)])[j]? = some u->(W.alloc (.cells #[encStr x,.int .i64 q] t)).cell? ((⟨W.heap.size,0,none⟩:Addr).add j)=some u:=by
 intro j u hu
 have e:(⟨W.heap.size,0,none⟩:Addr).add j=⟨W.heap.size,0+j,none⟩:=by unfold Addr.add;split <;> simp_all
 rw[e]
 simp only[World.cell?,(Go.MapKept.heap_alloc W _).1]
 simpa [cellsP,encP] using hu
theorem box2 {W W':World} {v0 v1:Value} {t:TypeId} (hb:Below (W.alloc (.cells #[v0,v1] t)).heap.size (W.alloc (.cells #[v0,v1] t)) W'):W'.cell? ⟨W.heap.size,0,none⟩=some v0/\W'.cell? ⟨W.heap.size,1,none⟩=some v1:=by
 have h:=hb.block W.heap.size (by simp)
 rw[(Go.MapKept.heap_alloc W _).1] at h
 simp only[World.cell?,h]
 exact⟨rfl,rfl⟩
set_option maxHeartbeats 4000000 in
theorem Join_any {H:Type} (B:Nat) (a:Option Addr) (n c:Nat) (V:List PV) (w:World) (hl:RV B w a n c V) (hB:B<=w.heap.size) (htot:(flatV V).length<=1048576) :
  Calls Tryz.prog 99 #[.slice a n c] w fun e w'=>JoinPost w (joinL [] (flatV V)) e w':=by
 have hf:=fine_flat hl
 have Hf:=Lib.hid hf
 obtain⟨L,hL⟩:∃ L,L=flatV V:=⟨_,rfl⟩
 rw[<- hL] at htot Hf ⊢
 have HC:Hid (∀ W:World,Below w.heap.size w W->Calls Tryz.prog 131 #[.slice a n c] W fun e w'=>∃ a' c',e = .returned (.slice a' L.length c')/\OP W.heap.size w' (.slice a' L.length c') L/\Below W.heap.size W w') :=
  Lib.hid fun W hb=>by
   have:=Concat_any B a n c V W (hl.below (hb.mono hB)) (Nat.le_trans hB hb.size) (by rw[<- hL];exact htot)
   rw[<- hL] at this
   exact this
 obtain⟨T,hT⟩:∃ T,T=joinL [] L:=⟨_,rfl⟩
 rw[<- hT]
 have HT:=Lib.hid hT
 clear hf hl hT hL
 have hmm:=@run_makeMap Tryz.prog
 have hown0:=World.ownsMap_made (H:=H) w Tryz.prog 9 (plainElem Tryz.prog 2)
 have hb0:Below w.heap.size w (w.alloc (.map #[] 0)):=(Below.refl _ _).alloc (Nat.le_refl _) _
 have hs0:(w.alloc (.map #[] 0)).heap.size=w.heap.size+1:=by simp
 have Hown0:=Lib.hid hown0
 have Hb0:=Lib.hid hb0
 clear hown0 hb0
 go_enter Tryz.func99,Tryz.ntmps99
 go_wp2_with (go_at_call 131;refine (HC.out _ Hb0.out).mono ?_;rintro e w1 ⟨a1,c1,rfl,ho1,hb1⟩)
 have Ho1:Hid (OP (w.heap.size+1) w1 (.slice a1 L.length c1) L):=Lib.hid (by rw[hs0] at ho1;exact ho1)
 have hb1':Below (w.heap.size+1) (w.alloc (.map #[] 0)) w1:=by rw[hs0] at hb1;exact hb1
 have Hz1:=Lib.hid (show w.heap.size < w1.heap.size by have:=hb1'.size;omega)
 have Hbw:=Lib.hid (show Below w.heap.size w w1 from Hb0.out.trans (hb1'.mono (by omega)))
 have Hown1:=Lib.hid (show w1.ownsMap Tryz.prog 9 (plainElem Tryz.prog 2) w.heap.size 0 (.map []:DataW H) from by
  obtain⟨es,clock,hb,r⟩:=Hown0.out
  exact⟨es,clock,(hb1'.block w.heap.size (by omega)).trans hb,r⟩)
 clear ho1 hb1 hb1' Hown0
 obtain⟨v1,hv1⟩:∃ v1,v1=Value.slice a1 L.length c1:=⟨_,rfl⟩
 go_loopw [16] (fun t wr=>∃ (i:Nat) (S:List Pt) (D:DataW H),t = .int .i64 i/\i<=L.length/\Hid (T=joinL S (L.drop i))/\Hid (Up S)/\Hid (MapIs D S)/\Hid (wr.ownsMap Tryz.prog 9 (plainElem Tryz.prog 2) w.heap.size i D)/\Hid (w1.grownBy wr (some w.heap.size))) (fun t _=>L.length - (intOf t).toNat)
 case atStart=>exact⟨0,[],.map [],rfl,by omega,HT,Lib.hid Up.nil,Lib.hid MapIs.start,Hown1,Lib.hid ⟨rfl,rfl,rfl,Nat.le_refl _,fun _ _ _=>rfl⟩⟩
 case round =>
  obtain⟨i,S,D,rfl,hi,ht,hup,hD,hown,hgr⟩:=hrel
  have Hor:=Lib.hid (Ho1.out.keep (W':=wr) fun b e=>hgr.out.block b (Ho1.out.ge b e).2 (by have:=(Ho1.out.ge b e).1;intro e2;cases e2;omega))
  obtain⟨a',c',e',hr⟩:=Hor.out.rp Hf.out
  cases e'
  have HR:=Lib.hid hr
  have hle:=hr.le;have hmx:=hr.mx
  clear hr
  by_cases hin:i < L.length
  ·obtain⟨b,o,rfl,hbB,hc⟩:=HR.out.at_ (by omega)
   obtain⟨g0,g1⟩:=hc i hin
   have hfi:=Hf.out.at_ hin
   have hd:=joinL_drop (S:=S) hin
   clear hc
   generalize L.getD i default=p at g0 g1 hfi hd
   obtain⟨x,q⟩:=p
   simp only at g0 g1 hfi hd
   rw[<- ht.out] at hd
   have Hd:=Lib.hid hd
   clear hd
   have hkey:keyOf Tryz.prog 9 (encStr x)=some (.string x):=by
    have:=Go.WideMaps.keyOf_string_mk Tryz.underlying9 (s:=⟨x.toArray⟩) (by show x.toArray.size<=maxLen;simpa [maxLen] using hfi.1)
    exact this
   have hsum:=okA_iff.1 (hup.out.sum_ok x)
   have hadd:=fun W=>Add_any (sumAt S x) q W (by omega) hfi.2
   have hs:=hD.out.2.1 x
   have Hsub:=Lib.hid (show w.heap.size < wr.heap.size by have:=hgr.out.size;have:=Hz1.out;omega)
   obtain⟨A,hA⟩:∃ A,A=addA (sumAt S x) q:=⟨_,rfl⟩
   rw[<- hA] at hadd Hd
   cases A with
   | none =>
    simp only[ansV,Option.isSome_none] at hadd
    go_wp2_with (first | (at_lookup;refine wpList_lookup_own_int _ rfl _ _ 159 rfl 9 2 .i64 keyS Tryz.underlying159 Tryz.underlying2 (zeroI _) w.heap.size i D rfl (hown.out.alloc _) _ _ rfl hkey ?_;intro c hat hwc;rw[hs] at hat;cases hat) | (go_at_call 132;refine (hadd _).mono ?_;rintro e w2 ⟨rfl,hb2⟩;obtain⟨k0,k1⟩:=box2 hb2))
    go_ret2
    rw[Hd.out]
    refine⟨?_,rfl⟩
    have hbx:Below wr.heap.size wr w2:=((Below.refl _ wr).alloc (Nat.le_refl _) _).trans (hb2.mono (by simp))
    exact Hbw.out.grown (grown_below hgr.out hbx) (by have:=Hz1.out;omega) (fun k hk=>by cases hk;omega)
   | some m =>
    simp only[ansV,Option.isSome_some] at hadd
    have hm:=addA_some hA.symm
    have hmf:=okA_iff.1 hm.2.2.1
    have hwf:(Lit.int .i64 m).wf=true:=WalkArith.wf_i64 (by omega)
    have Hm:=Lib.hid hm
    clear hm
    go_wp2_with (first | (at_lookup;refine wpList_lookup_own_int _ rfl _ _ 159 rfl 9 2 .i64 keyS Tryz.underlying159 Tryz.underlying2 (zeroI _) w.heap.size i D rfl (hown.out.alloc _) _ _ rfl hkey ?_;intro c hat hwc;rw[hs] at hat;cases hat) | (go_at_call 132;refine (hadd _).mono ?_;rintro e w2 ⟨rfl,hb2⟩;obtain⟨k0,k1⟩:=box2 hb2;have ho2:=Lib.hid (own_below (hown.out.alloc _) hb2);have hg2:=Lib.hid hb2;clear hb2) | (at_mapUpdate;go_loud (refine wpList_mapUpdate_own _ rfl _ _ _ 159 rfl 9 2 keyS Tryz.underlying159 (plainElem Tryz.prog 2) w.heap.size i D rfl ho2.out (by unfold maxLen;omega) _ _ _ rfl rfl hkey (.lit (.int .i64 m)) [] (plainElem_int Tryz.underlying2 hwf) ?_;intro w3 hown3 hgrow3)))
    have hbx:Below wr.heap.size wr w2:=((Below.refl _ wr).alloc (Nat.le_refl _) _).trans (hg2.out.mono (by simp))
    refine⟨⟨i+1,setAt S x m,D.put (.string x) (.lit (.int .i64 m)),by simp,by omega,Lib.hid Hd.out,Lib.hid (hup.out.set x Hm.out.2.2.1),Lib.hid (hD.out.put hup.out x m),Lib.hid hown3,Lib.hid (grown_grown (grown_below hgr.out hbx) hgrow3)⟩,by simp[intOf];omega⟩
  ·have ei:i=L.length:=by omega
   have hfin:T=some S:=by rw[ht.out,ei,List.drop_length];rfl
   subst ei
   have Hfin:=Lib.hid hfin
   clear hfin ht Ho1 Hown1
   go_wp2_with (at_range;refine wpList_range_own _ rfl _ 159 rfl 9 2 keyS Tryz.underlying159 (plainElem Tryz.prog 2) w.heap.size L.length D rfl hown.out ?_;intro w4 hrg0 hg0 hs0)
   go_frame
   have H4:=Lib.hid (show Below w.heap.size w w4 from (Hbw.out.grown hgr.out (by have:=Hz1.out;omega) (fun k hk=>by cases hk;omega)).grown hg0 (by have:=hgr.out.size;have:=Hz1.out;omega) (fun k hk=>by cases hk))
   have Hr:=Lib.hid (show w.heap.size < wr.heap.size by have:=hgr.out.size;have:=Hz1.out;omega)
   have Hsz:=Lib.hid (show Maps.size D<=L.length by have:=hown.out.size_le;omega)
   generalize wr.heap.size=r at hrg0 hs0 Hr ⊢
   have Hrg0:=Lib.hid hrg0
   have Hs0:=Lib.hid hs0
   clear hg0 hgr hown hrg0 hs0
   go_loopw [9,10] (fun s _ wq=>∃ (left:Lit->Bool) (cnt:Nat) (out:List Pt) (a2:Option Addr) (c2:Nat),s = .slice a2 out.length c2/\Hid (wq.ranges Tryz.prog 9 (plainElem Tryz.prog 2) w.heap.size r L.length D left cnt)/\Hid (Got D S left out)/\Hid (OP (r+1) wq (.slice a2 out.length c2) out)/\Hid (Below w.heap.size w wq)/\Hid (out.length+cnt<=L.length)) (fun _ _ wq=>wq.rangeLeft w.heap.size r)
   case atStart=>exact⟨_,_,[],none,0,rfl,Hrg0,Lib.hid (Got.start D S),Lib.hid (OP.nil _ _),H4,Lib.hid (by simpa using Hsz.out)⟩
   case round =>
    obtain⟨left,cnt,out,a2,c2,rfl,hrg,hgot,hop,hb4,hcnt⟩:=hrel
    go_wp2_with (at_next;refine wpList_next_ranges _ rfl _ rfl 9 keyS (plainElem Tryz.prog 2) encStr (Value.int .i64) (fun key kl hk=>by obtain⟨x,hx,_⟩:=Maps.keyOf_str Tryz.underlying9 hk;exact⟨x,hx⟩) (fun v y hv=>by obtain⟨c,rfl,_⟩:=plainElem_int_inv Tryz.underlying2 hv;exact⟨c,rfl⟩) w.heap.size r L.length D left cnt rfl hrg.out ?_ ?_)
    ·intro _ hl0
     have hperm:=hgot.out.done hD.out hup.out hl0
     have hlen:=hperm.length_eq
     have HS:Hid (Calls Tryz.prog 133 #[.slice a2 out.length c2,.func (.func 134) #[] #[]] wr fun e w'=>e = .returned (.tuple #[])/\OP (r+1) w' (.slice a2 out.length c2) S/\Below (r+1) wr w'):=by
      refine Lib.hid ?_
      rcases Nat.eq_zero_or_pos out.length with h0 | h0
      ·have e1:S=[]:=List.eq_nil_of_length_eq_zero (by omega)
       have e2:out=[]:=List.eq_nil_of_length_eq_zero h0
       have ho:=hop.out
       rw[e2] at ho ⊢
       rw[e1]
       exact (AnyF.slices_SortFunc_none Tryz.sortP a2 c2 _ wr).mono fun e w' ⟨he,hw⟩=>⟨he,hw ▸ ho,hw ▸ Below.refl _ _⟩
      ·have ho:=hop.out
       have ha:∃ g,a2=some ⟨g,0,none⟩:=by
        obtain⟨h1,⟨hv,hz⟩ | ⟨g,cap,cur,hv,r⟩⟩:=ho
        ·omega
        ·cases hv;exact⟨g,rfl⟩
       obtain⟨g,rfl⟩:=ha
       exact sort_any (r+1) g c2 out S wr ho hup.out hperm (by have:=hcnt.out;omega)
     have Hlen:=Lib.hid hlen
     clear hl0 hperm hlen
     go_wp2_with (go_at_call 133;with_reducible refine HS.out.mono ?_;rintro e w7 ⟨rfl,ho7,hb7⟩)
     go_ret2
     rw[Hfin.out]
     exact⟨hb4.out.trans (hb7.mono (by have:=Hr.out;omega)),a2,c2,by rw[Hlen.out];rfl,by rw[<- Hlen.out];exact ho7.mono (by have:=Hr.out;omega)⟩
    ·intro x q kl y1 y2 w5 cnt5 hkx hlk hv hat hrg1 hlt hg1 hs1 hen
     obtain⟨x',ex,rfl,-⟩:=Maps.keyOf_str Tryz.underlying9 hkx
     obtain rfl:x=x':=encStr_inj ex
     obtain⟨q',eq,e3,-⟩:=plainElem_int_inv Tryz.underlying2 hv
     cases eq;cases e3
     have Hgot2:=Lib.hid (hgot.out.step hD.out hlk hat)
     have Hop5:=Lib.hid (hop.out.keep (W':=w5) fun b e=>hg1.block b (hop.out.ge b e).2 (by have:=(hop.out.ge b e).1;intro e2;cases e2;omega))
     have Hop6:=Lib.hid (Hop5.out.below ((Below.refl _ w5).alloc (Nat.le_refl _) (.cells #[encStr x,.int .i64 q] 74)))
     have Hrg1:=Lib.hid hrg1
     have Hlt:=Lib.hid hlt
     have hr5:=Lib.hid (show r+1<=w5.heap.size by have:=hrg1.lt;omega)
     have Hb5:=Lib.hid (show Below w.heap.size w (w5.alloc (.cells #[encStr x,.int .i64 q] 74)) from (hb4.out.grown hg1 hb4.out.size (fun k hk=>by cases hk;have:=Hr.out;omega)).alloc (by have:=hr5.out;have:=Hr.out;omega) _)
     clear ex hkx hv hrg1 hlt hg1 hs1 hlk hat
     go_wp2_with (at_builtin;go_loud (refine wpList_append_parts rfl _ _ rfl (r+1) (.slice a2 out.length c2) out [(x,q)] rfl Hop6.out (some ⟨w5.heap.size,0,none⟩) 1 rfl (fun _=>⟨_,rfl,one_src _ _ _ _⟩) (by have:=hr5.out;simp;omega) (by have:=hcnt.out;have:=Hlt.out;simp;omega) ?_;intro a3 c3 w6 ho6 hg6))
     have n1:some w.heap.size≠(Value.slice a2 out.length c2).ownBlock:=fun e=>by have:=(Hop5.out.ge _ e.symm).1;have:=Hr.out;omega
     have n2:some r≠(Value.slice a2 out.length c2).ownBlock:=fun e=>by have:=(Hop5.out.ge _ e.symm).1;omega
     have Hrg6:=Lib.hid ((Hrg1.out.alloc (.cells #[encStr x,.int .i64 q] 74)).kept hg6 n1 n2)
     have Ho6:=Lib.hid ho6
     have Hb6:=Lib.hid (Hb5.out.grown hg6 Hb5.out.size (fun k hk=>by have:=(Hop5.out.ge k hk).1;have:=Hr.out;omega))
     clear ho6 hg6 n1 n2
     go_round
     case rel=>exact⟨_,cnt5,out ++ [(x,q)],a3,c3,by simp,Hrg6,Hgot2,Lib.hid (by simpa using Ho6.out),Hb6,Lib.hid (by have:=hcnt.out;have:=Hlt.out;simp;omega)⟩
     case measure=>rw[Hrg6.out.left_eq,hrg.out.left_eq];exact Hlt.out
end Go.Proofs.YtgplnekpgdhcpaaGreat
namespace Go.Proofs.YtgplnekpgdhcpaaGreat
open Go.RowKit
def timesA (a b:Int):Option Int:=if okA a && (okA b && decide (a * b<=mostA)) then some (a * b) else none
set_option maxHeartbeats 2000000 in
theorem Times_any (a b:Int) (w:World) :
  Calls Tryz.prog 100 #[.int .i64 a,.int .i64 b] w fun e w'=>e = .returned (.tuple #[.int .i64 (ansV (timesA a b)),.bool (timesA a b).isSome])/\w=w':=by
 have hra:=fun w=>Right_any a w
 have hrb:=fun w=>Right_any b w
 have HT:Hid (timesA a b=if okA a && (okA b && decide (a * b<=mostA)) then some (a * b) else none):=rfl
 obtain⟨T,hT⟩:∃ T,T=timesA a b:=⟨_,rfl⟩
 rw[<- hT] at HT ⊢
 clear hT
 cases hka:okA a
 ·rw[hka] at hra HT
  go_enter Tryz.func100,Tryz.ntmps100
  go_wp2_with (go_at_call 97;refine (hra _).mono ?_;rintro e w' ⟨rfl,rfl⟩)
  go_ret2
  rw[HT.out];exact⟨rfl,rfl⟩
 ·rw[hka] at hra HT
  have hka':=okA_iff.1 hka
  cases hkb:okA b
  ·rw[hkb] at hrb HT
   clear hka hkb
   go_enter Tryz.func100,Tryz.ntmps100
   go_wp2_with (go_at_call 97;first | (with_reducible refine (hra _).mono ?_;rintro e w' ⟨rfl,rfl⟩) | (with_reducible refine (hrb _).mono ?_;rintro e w' ⟨rfl,rfl⟩))
   go_ret2
   rw[HT.out];exact⟨rfl,rfl⟩
  ·rw[hkb] at hrb HT
   have hkb':=okA_iff.1 hkb
   have htn:=times_nat hka'.1 hkb'.1
   clear hka hkb
   obtain⟨x,rfl⟩:∃ x:Nat,a=x:=⟨a.toNat,by omega⟩
   obtain⟨y,rfl⟩:∃ y:Nat,b=y:=⟨b.toNat,by omega⟩
   have hmul:=fun w=>Tryz.bits_Mul64 x y (by omega) (by omega) w
   simp only[Int.toNat_natCast] at htn
   rw[<- Int.natCast_mul] at htn HT
   have hlo:x * y / 18446744073709551616=0->x * y % 18446744073709551616=x * y:=by omega
   generalize x * y=p at htn HT hlo hmul
   generalize p / 18446744073709551616=h at htn hlo hmul
   generalize p % 18446744073709551616=l at htn hlo hmul
   have w1:IntKind.u64.wrap (x:Int)=x:=IntWalk.u64_in _ (by omega)
   have w2:IntKind.u64.wrap (y:Int)=y:=IntWalk.u64_in _ (by omega)
   have Htn:=Lib.hid htn
   have Hlo:=Lib.hid hlo
   clear htn hlo
   by_cases hh:h=0
   ·by_cases hl:l<=1125899906842624
    ·have e:decide ((p:Int)<=mostA)=true:=decide_eq_true (Htn.out.1 ⟨hh,hl⟩)
     rw[e] at HT
     have el:=Hlo.out hh
     have w3:=wrap_in (x:=(l:Int)) (by omega) (by omega)
     clear e
     subst hh
     go_enter Tryz.func100,Tryz.ntmps100
     go_wp2_with (first | (go_at_call 97;first | (with_reducible refine (hra _).mono ?_;rintro e w' ⟨rfl,rfl⟩) | (with_reducible refine (hrb _).mono ?_;rintro e w' ⟨rfl,rfl⟩)) | (go_at_call 136;refine (hmul _).mono ?_;rintro e w' ⟨rfl,rfl⟩))
     go_ret2
     rw[HT.out];exact⟨by simp[ansV],rfl⟩
    ·have e:decide ((p:Int)<=mostA)=false:=decide_eq_false fun h=>hl (Htn.out.2 h).2
     rw[e] at HT
     clear e
     subst hh
     go_enter Tryz.func100,Tryz.ntmps100
     go_wp2_with (first | (go_at_call 97;first | (with_reducible refine (hra _).mono ?_;rintro e w' ⟨rfl,rfl⟩) | (with_reducible refine (hrb _).mono ?_;rintro e w' ⟨rfl,rfl⟩)) | (go_at_call 136;refine (hmul _).mono ?_;rintro e w' ⟨rfl,rfl⟩))
     go_ret2
     rw[HT.out];exact⟨rfl,rfl⟩
   ·have e:decide ((p:Int)<=mostA)=false:=decide_eq_false fun h=>hh (Htn.out.2 h).1
    rw[e] at HT
    clear e
    go_enter Tryz.func100,Tryz.ntmps100
    go_wp2_with (first | (go_at_call 97;first | (with_reducible refine (hra _).mono ?_;rintro e w' ⟨rfl,rfl⟩) | (with_reducible refine (hrb _).mono ?_;rintro e w' ⟨rfl,rfl⟩)) | (go_at_call 136;refine (hmul _).mono ?_;rintro e w' ⟨rfl,rfl⟩))
    go_ret2
    rw[HT.out];exact⟨rfl,rfl⟩
end Go.Proofs.YtgplnekpgdhcpaaGreat
namespace Go.Proofs.YtgplnekpgdhcpaaGreat
def tot (k:List UInt8):List Pt->Int
 | []=>0
 | p :: L=>(if p.1=k then p.2 else 0)+tot k L
theorem tot_nonneg (k:List UInt8):∀ {L:List Pt},(∀ p∈L,okA p.2=true)->0<=tot k L
 | [],_=>Int.le_refl _
 | p :: L,h=>by
  have:=tot_nonneg k (L:=L) (fun q hq=>h q (List.mem_cons_of_mem _ hq))
  have h1:=(okA_iff.1 (h p (by simp))).1
  unfold tot
  split <;> omega
theorem addA_iff {a b n:Int} (ha:okA a=true):addA a b=some n↔okA b=true/\a+b<=mostA/\n=a+b:=by
 unfold addA
 rw[ha,Bool.true_and]
 cases hb:okA b
 ·simp
 ·by_cases h:a+b<=mostA
  ·simp[h,eq_comm]
  ·simp[h]
theorem set_tot {S:List Pt} (hS:Up S) {p:Pt} {n:Int} (hn:n=sumAt S p.1+p.2) (L:List Pt) (k:List UInt8):sumAt (setAt S p.1 n) k+tot k L=sumAt S k+tot k (p :: L):=by
 rw[sumAt_set p.1 n k hS]
 conv=>rhs;unfold tot
 by_cases e:k=p.1
 ·subst e
  rw[if_pos rfl,if_pos rfl];omega
 ·rw[if_neg e,if_neg (fun e2=>e e2.symm)];omega
theorem joinL_iff:∀ {L S:List Pt},Up S->((joinL S L).isSome=true↔(∀ p∈L,okA p.2=true)/\∀ k,sumAt S k+tot k L<=mostA)
 | [],S,h=>by
  refine⟨fun _=>⟨(fun p hp=>by cases hp),fun k=>?_⟩,fun _=>rfl⟩
  have:=(okA_iff.1 (h.sum_ok k)).2
  show sumAt S k+0<=1125899906842624
  omega
 | p :: L,S,h=>by
  have hs:=h.sum_ok p.1
  unfold joinL
  cases hA:addA (sumAt S p.1) p.2 with
  | none =>
   refine⟨(fun e=>by cases e),fun ⟨h1,h2⟩=>?_⟩
   have h3:=h1 p (by simp)
   have h4:=tot_nonneg p.1 (L:=L) (fun q hq=>h1 q (List.mem_cons_of_mem _ hq))
   have h5:=h2 p.1
   unfold tot at h5
   rw[if_pos rfl] at h5
   have:=(addA_iff (n:=sumAt S p.1+p.2) hs).2 ⟨h3,by omega,rfl⟩
   rw[hA] at this
   cases this
  | some n =>
   obtain⟨h1,h2,h3⟩:=(addA_iff hs).1 hA
   have hn:=(addA_some hA).2.2.1
   show (joinL (setAt S p.1 n) L).isSome=true↔_
   rw[joinL_iff (h.set p.1 hn)]
   constructor
   ·rintro⟨k1,k2⟩
    refine⟨fun q hq=>?_,fun k=>?_⟩
    ·rcases List.mem_cons.1 hq with rfl | hq
     ·exact h1
     ·exact k1 q hq
    ·rw[<- set_tot h h3 L k];exact k2 k
   ·rintro⟨k1,k2⟩
    refine⟨fun q hq=>k1 q (List.mem_cons_of_mem _ hq),fun k=>?_⟩
    rw[set_tot h h3 L k];exact k2 k
theorem joinL_sum:∀ {L S R:List Pt},Up S->joinL S L=some R->∀ k,sumAt R k=sumAt S k+tot k L
 | [],S,R,_,e,k=>by cases e;show _=sumAt S k+0;omega
 | p :: L,S,R,h,e,k=>by
  have hs:=h.sum_ok p.1
  unfold joinL at e
  cases hA:addA (sumAt S p.1) p.2 with
  | none=>rw[hA] at e;cases e
  | some n =>
   rw[hA] at e
   obtain⟨-,-,h3⟩:=(addA_iff hs).1 hA
   rw[joinL_sum (h.set p.1 (addA_some hA).2.2.1) e k,set_tot h h3 L k]
theorem joinL_keys:∀ {L S R:List Pt},joinL S L=some R->∀ k,k∈R.map (·.1)↔k∈S.map (·.1)∨k∈L.map (·.1)
 | [],S,R,e,k=>by cases e;simp
 | p :: L,S,R,e,k=>by
  unfold joinL at e
  cases hA:addA (sumAt S p.1) p.2 with
  | none=>rw[hA] at e;cases e
  | some n =>
   rw[hA] at e
   rw[joinL_keys e k,keys_set,List.map_cons,List.mem_cons]
   constructor
   ·rintro ((h | h) | h)
    ·exact .inr (.inl h)
    ·exact .inl h
    ·exact .inr (.inr h)
   ·rintro (h | h | h)
    ·exact .inl (.inr h)
    ·exact .inl (.inl h)
    ·exact .inr h
theorem Up.ext {R T:List Pt} (hR:Up R) (hT:Up T) (hk:∀ k,k∈R.map (·.1)↔k∈T.map (·.1)) (hs:∀ k,sumAt R k=sumAt T k):R=T:=by
 have hnd:(R.map (·.1)).Nodup:=by
  refine List.pairwise_map.2 (hR.1.imp fun {a b} hlt e=>?_)
  rw[e] at hlt
  exact List.lt_irrefl _ hlt
 exact hT.sorted (hT.perm hnd hk (fun p hp=>by rw[<- hs,hR.sum_mem hp])) (hR.1.imp fun {a b} hlt hgt=>lt_asymm' hlt hgt)
theorem joinL_cons (S:List Pt) (p:Pt) (L:List Pt):joinL S (p :: L)=match addA (sumAt S p.1) p.2 with | none=>none | some n=>joinL (setAt S p.1 n) L:=rfl
theorem joinL_append:∀ (A B S:List Pt),joinL S (A ++ B)=(joinL S A).bind fun S'=>joinL S' B
 | [],B,S=>rfl
 | p :: A,B,S=>by
  rw[List.cons_append,joinL_cons,joinL_cons]
  cases addA (sumAt S p.1) p.2 with
  | none=>rfl
  | some n=>exact joinL_append A B _
theorem Up.tot_eq:∀ {R:List Pt},Up R->∀ k,tot k R=sumAt R k
 | [],_,_=>rfl
 | p :: R,h,k=>by
  have ih:=Up.tot_eq h.tail k
  unfold tot sumAt
  by_cases e:p.1=k
  ·rw[if_pos e,if_pos e,ih]
   have hno:k ∉ R.map (·.1):=fun hk=>by
    obtain⟨q,hq,e2⟩:=List.mem_map.1 hk
    have:=(List.pairwise_cons.1 h.1).1 q hq
    rw[e,<- e2] at this
    exact List.lt_irrefl _ this
   rw[sumAt_none hno];omega
  ·rw[if_neg e,if_neg e,ih];omega
theorem joinL_self {R:List Pt} (h:Up R):joinL [] R=some R:=by
 have hs:(joinL [] R).isSome=true:=by
  refine (joinL_iff Up.nil).2 ⟨h.2,fun k=>?_⟩
  have:=(okA_iff.1 (h.sum_ok k)).2
  rw[h.tot_eq k]
  show 0+sumAt R k<=1125899906842624
  omega
 cases e:joinL [] R with
 | none=>rw[e] at hs;cases hs
 | some T =>
  refine congrArg some (Up.ext (joinL_up Up.nil e) h (fun k=>?_) (fun k=>?_))
  ·rw[joinL_keys e k];simp
  ·rw[joinL_sum Up.nil e k,h.tot_eq k]
   show 0+_=_
   omega
end Go.Proofs.YtgplnekpgdhcpaaGreat
