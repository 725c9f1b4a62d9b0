/-  -/
import Derived.Test.YtgplnekpgdhcpaaGreatJMap
import Derived.Maps.RangeWalk
import Derived.Maps.OwnOps
import Derived.Test.YtgplnekpgdhcpaaGreatKFind
import Derived.Test.YtgplnekpgdhcpaaGreatJShelf
import Derived.Test.YtgplnekpgdhcpaaGreatJPure
namespace Go.Proofs.YtgplnekpgdhcpaaGreat
section
open Go.RowKit Go.Shelf Go.Lib Go.Maps
theorem keyS:Keyed Tryz.prog 9:=string_keyed Tryz.underlying9
theorem zeroI (w:World):(zeroValue 2).run Tryz.prog w=.ok (.int .i64 0) w:=by kernel_rfl
theorem fine_flat {B:Nat} {w:World} {a:Option Addr} {n c:Nat} {V:List PV} (h:RV B w a n c V):Fine (flatV V):=by
 intro p hp;obtain⟨v,hv,hp⟩:=List.mem_flatMap.1 hp;obtain⟨i,hi,rfl⟩:=List.mem_iff_getElem.1 hv;have:=(h.each i (by have:=h.len;omega)).fine;rw[List.getD_eq_getElem?_getD,List.getElem?_eq_getElem hi] at this;exact this p hp
theorem joinL_drop {L S:List Pt} {i:Nat} (h:i<L.length):joinL S (L.drop i)=match addA (sumAt S (L.getD i default).1) (L.getD i default).2 with|none=>none|some n=>joinL (setAt S (L.getD i default).1 n) (L.drop (i+1)):=by
 rw[List.drop_eq_getElem_cons h,List.getD_eq_getElem?_getD,List.getElem?_eq_getElem h];rfl
def JoinPost (w:World) (T:Option (List Pt)) (e:Ending) (w':World):Prop:=Below w.heap.size w w' /\
 match T with
 | none=>e=.returned (.tuple #[.slice none 0 0,.bool false])
 | some S=>∃ a' c',e=.returned (.tuple #[.slice a' S.length c',.bool true])/\OP w.heap.size w' (.slice a' S.length c') S
theorem own_below {H:Type} {P:Program} {k:TypeId} {R:Value->Option (DataW H×List MemPlace)} {W W':World} {b n:Nat} {D:DataW H} (h:W.ownsMap P k R b n D) (hb:Below W.heap.size W W'):W'.ownsMap P k R b n D:=by
 have hlt:=h.lt;obtain⟨es,clock,hh,r⟩:=h;exact⟨es,clock,(hb.block b hlt).trans hh,r⟩
theorem grown_below {W1 W W2:World} {row:Option Nat} (h:W1.grownBy W row) (hb:Below W.heap.size W W2):W1.grownBy W2 row :=
 ⟨hb.os.trans h.os,hb.tape.trans h.tape,hb.output.trans h.output,Nat.le_trans h.size hb.size,fun k hk hne=>(hb.block k (Nat.lt_of_lt_of_le hk h.size)).trans (h.block k hk hne)⟩
theorem grown_grown {W1 W W2:World} {row:Option Nat} (h:W1.grownBy W row) (hb:W.grownBy W2 row):W1.grownBy W2 row :=
 ⟨hb.os.trans h.os,hb.tape.trans h.tape,hb.output.trans h.output,Nat.le_trans h.size hb.size,fun k hk hne=>(hb.block k (Nat.lt_of_lt_of_le hk h.size) hne).trans (h.block k hk hne)⟩
theorem one_src (W:World) (x:List UInt8) (q:Int) (t:TypeId):∀ j u,(cellsP [(x,q)])[j]? = some u->(W.alloc (.cells #[encStr x,.int .i64 q] t)).cell? ((⟨W.heap.size,0,none⟩:Addr).add j)=some u:=by
 intro j u hu;have e:(⟨W.heap.size,0,none⟩:Addr).add j=⟨W.heap.size,0+j,none⟩:=by unfold Addr.add;split<;>simp_all
 rw[e];simp only[World.cell?,(Go.MapKept.heap_alloc W _).1];simpa [cellsP,encP] using hu
theorem box2 {W W':World} {v0 v1:Value} {t:TypeId} (hb:Below (W.alloc (.cells #[v0,v1] t)).heap.size (W.alloc (.cells #[v0,v1] t)) W'):W'.cell? ⟨W.heap.size,0,none⟩=some v0/\W'.cell? ⟨W.heap.size,1,none⟩=some v1:=by
 have h:=hb.block W.heap.size (by simp);rw[(Go.MapKept.heap_alloc W _).1] at h;simp only[World.cell?,h];exact⟨rfl,rfl⟩
set_option maxHeartbeats 4000000 in
theorem Join_any {H:Type} (B:Nat) (a:Option Addr) (n c:Nat) (V:List PV) (w:World) (hl:RV B w a n c V) (hB:B<=w.heap.size) (htot:(flatV V).length<=1048576) :
  Calls Tryz.prog 99 #[.slice a n c] w fun e w'=>JoinPost w (joinL [] (flatV V)) e w':=by
 have hf:=fine_flat hl;have Hf:=Lib.hid hf;obtain⟨L,hL⟩:∃ L,L=flatV V:=⟨_,rfl⟩
 rw[<- hL] at htot Hf ⊢;have HC:Hid (∀ W:World,Below w.heap.size w W->Calls Tryz.prog 131 #[.slice a n c] W fun e w'=>∃ a' c',e=.returned (.slice a' L.length c')/\OP W.heap.size w' (.slice a' L.length c') L/\Below W.heap.size W w') :=
  Lib.hid fun W hb=>by
   have:=Concat_any B a n c V W (hl.below (hb.mono hB)) (Nat.le_trans hB hb.size) (by rw[<- hL];exact htot);rw[<- hL] at this;exact this
 obtain⟨T,hT⟩:∃ T,T=joinL [] L:=⟨_,rfl⟩
 rw[<- hT];have HT:=Lib.hid hT;clear hf hl hT hL;have hmm:=@run_makeMap Tryz.prog;have hown0:=World.ownsMap_made (H:=H) w Tryz.prog 9 (plainElem Tryz.prog 2);have hb0:Below w.heap.size w (w.alloc (.map #[] 0)):=(Below.refl _ _).alloc (Nat.le_refl _) _;have hs0:(w.alloc (.map #[] 0)).heap.size=w.heap.size+1:=by simp
 have Hown0:=Lib.hid hown0;have Hb0:=Lib.hid hb0;clear hown0 hb0;go_enter Tryz.func99,Tryz.ntmps99;go_wp2_with (go_at_call 131;refine (HC.out _ Hb0.out).mono ?_;rintro e w1 ⟨a1,c1,rfl,ho1,hb1⟩);have Ho1:Hid (OP (w.heap.size+1) w1 (.slice a1 L.length c1) L):=Lib.hid (by rw[hs0] at ho1;exact ho1);have hb1':Below (w.heap.size+1) (w.alloc (.map #[] 0)) w1:=by rw[hs0] at hb1;exact hb1
 have Hz1:=Lib.hid (show w.heap.size<w1.heap.size by have:=hb1'.size;omega);have Hbw:=Lib.hid (show Below w.heap.size w w1 from Hb0.out.trans (hb1'.mono (by omega)));have Hown1:=Lib.hid (show w1.ownsMap Tryz.prog 9 (plainElem Tryz.prog 2) w.heap.size 0 (.map []:DataW H) from by
  obtain⟨es,clock,hb,r⟩:=Hown0.out;exact⟨es,clock,(hb1'.block w.heap.size (by omega)).trans hb,r⟩)
 clear ho1 hb1 hb1' Hown0;obtain⟨v1,hv1⟩:∃ v1,v1=Value.slice a1 L.length c1:=⟨_,rfl⟩
 go_loopw [16] (fun t wr=>∃ (i:Nat) (S:List Pt) (D:DataW H),t=.int .i64 i/\i<=L.length/\Hid (T=joinL S (L.drop i))/\Hid (Up S)/\Hid (MapIs D S)/\Hid (wr.ownsMap Tryz.prog 9 (plainElem Tryz.prog 2) w.heap.size i D)/\Hid (w1.grownBy wr (some w.heap.size))) (fun t _=>L.length-(intOf t).toNat)
 case atStart=>exact⟨0,[],.map [],rfl,by omega,HT,Lib.hid Up.nil,Lib.hid MapIs.start,Hown1,Lib.hid ⟨rfl,rfl,rfl,Nat.le_refl _,fun _ _ _=>rfl⟩⟩
 case round =>
  obtain⟨i,S,D,rfl,hi,ht,hup,hD,hown,hgr⟩:=hrel;have Hor:=Lib.hid (Ho1.out.keep (W':=wr) fun b e=>hgr.out.block b (Ho1.out.ge b e).2 (by have:=(Ho1.out.ge b e).1;intro e2;cases e2;omega));obtain⟨a',c',e',hr⟩:=Hor.out.rp Hf.out
  cases e'
  have HR:=Lib.hid hr;have hle:=hr.le;have hmx:=hr.mx;clear hr;by_cases hin:i<L.length
  ·obtain⟨b,o,rfl,hbB,hc⟩:=HR.out.at_ (by omega);obtain⟨g0,g1⟩:=hc i hin;have hfi:=Hf.out.at_ hin;have hd:=joinL_drop (S:=S) hin;clear hc;generalize L.getD i default=p at g0 g1 hfi hd;obtain⟨x,q⟩:=p;simp only at g0 g1 hfi hd;rw[<- ht.out] at hd;have Hd:=Lib.hid hd;clear hd;have hkey:keyOf Tryz.prog 9 (encStr x)=some (.string x):=by
    have:=Go.WideMaps.keyOf_string_mk Tryz.underlying9 (s:=⟨x.toArray⟩) (by show x.toArray.size<=maxLen;simpa [maxLen] using hfi.1);exact this
   have hsum:=okA_iff.1 (hup.out.sum_ok x);have hadd:=fun W=>Add_any (sumAt S x) q W (by omega) hfi.2
   have hs:=hD.out.2.1 x;have Hsub:=Lib.hid (show w.heap.size<wr.heap.size by have:=hgr.out.size;have:=Hz1.out;omega);obtain⟨A,hA⟩:∃ A,A=addA (sumAt S x) q:=⟨_,rfl⟩
   rw[<- hA] at hadd Hd
   cases A with
   | none =>
    simp only[ansV,Option.isSome_none] at hadd;go_wp2_with (first|(at_lookup;refine wpList_lookup_own_int _ rfl _ _ 159 rfl 9 2 .i64 keyS Tryz.underlying159 Tryz.underlying2 (zeroI _) w.heap.size i D rfl (hown.out.alloc _) _ _ rfl hkey ?_;intro c hat hwc;rw[hs] at hat;cases hat)|(go_at_call 132;refine (hadd _).mono ?_;rintro e w2 ⟨rfl,hb2⟩;obtain⟨k0,k1⟩:=box2 hb2));go_ret2;rw[Hd.out];refine⟨?_,rfl⟩;have hbx:Below wr.heap.size wr w2:=((Below.refl _ wr).alloc (Nat.le_refl _) _).trans (hb2.mono (by simp));exact Hbw.out.grown (grown_below hgr.out hbx) (by have:=Hz1.out;omega) (fun k hk=>by cases hk;omega)
   | some m =>
    simp only[ansV,Option.isSome_some] at hadd;have hm:=addA_some hA.symm;have hmf:=okA_iff.1 hm.2.2.1;have hwf:(Lit.int .i64 m).wf=true:=WalkArith.wf_i64 (by omega);have Hm:=Lib.hid hm;clear hm;go_wp2_with (first|(at_lookup;refine wpList_lookup_own_int _ rfl _ _ 159 rfl 9 2 .i64 keyS Tryz.underlying159 Tryz.underlying2 (zeroI _) w.heap.size i D rfl (hown.out.alloc _) _ _ rfl hkey ?_;intro c hat hwc;rw[hs] at hat;cases hat)|(go_at_call 132;refine (hadd _).mono ?_;rintro e w2 ⟨rfl,hb2⟩;obtain⟨k0,k1⟩:=box2 hb2;have ho2:=Lib.hid (own_below (hown.out.alloc _) hb2);have hg2:=Lib.hid hb2;clear hb2)|(at_mapUpdate;go_loud (refine wpList_mapUpdate_own _ rfl _ _ _ 159 rfl 9 2 keyS Tryz.underlying159 (plainElem Tryz.prog 2) w.heap.size i D rfl ho2.out (by unfold maxLen;omega) _ _ _ rfl rfl hkey (.lit (.int .i64 m)) [] (plainElem_int Tryz.underlying2 hwf) ?_;intro w3 hown3 hgrow3)));have hbx:Below wr.heap.size wr w2:=((Below.refl _ wr).alloc (Nat.le_refl _) _).trans (hg2.out.mono (by simp));refine⟨⟨i+1,setAt S x m,D.put (.string x) (.lit (.int .i64 m)),by simp,by omega,Lib.hid Hd.out,Lib.hid (hup.out.set x Hm.out.2.2.1),Lib.hid (hD.out.put hup.out x m),Lib.hid hown3,Lib.hid (grown_grown (grown_below hgr.out hbx) hgrow3)⟩,by simp[intOf];omega⟩
  ·have ei:i=L.length:=by omega
   have hfin:T=some S:=by rw[ht.out,ei,List.drop_length];rfl
   subst ei;have Hfin:=Lib.hid hfin;clear hfin ht Ho1 Hown1;go_wp2_with (at_range;refine wpList_range_own _ rfl _ 159 rfl 9 2 keyS Tryz.underlying159 (plainElem Tryz.prog 2) w.heap.size L.length D rfl hown.out ?_;intro w4 hrg0 hg0 hs0);go_frame;have H4:=Lib.hid (show Below w.heap.size w w4 from (Hbw.out.grown hgr.out (by have:=Hz1.out;omega) (fun k hk=>by cases hk;omega)).grown hg0 (by have:=hgr.out.size;have:=Hz1.out;omega) (fun k hk=>by cases hk));have Hr:=Lib.hid (show w.heap.size<wr.heap.size by have:=hgr.out.size;have:=Hz1.out;omega);have Hsz:=Lib.hid (show Maps.size D<=L.length by have:=hown.out.size_le;omega);generalize wr.heap.size=r at hrg0 hs0 Hr ⊢;have Hrg0:=Lib.hid hrg0;have Hs0:=Lib.hid hs0;clear hg0 hgr hown hrg0 hs0;go_loopw [9,10] (fun s _ wq=>∃ (left:Lit->Bool) (cnt:Nat) (out:List Pt) (a2:Option Addr) (c2:Nat),s=.slice a2 out.length c2/\Hid (wq.ranges Tryz.prog 9 (plainElem Tryz.prog 2) w.heap.size r L.length D left cnt)/\Hid (Got D S left out)/\Hid (OP (r+1) wq (.slice a2 out.length c2) out)/\Hid (Below w.heap.size w wq)/\Hid (out.length+cnt<=L.length)) (fun _ _ wq=>wq.rangeLeft w.heap.size r)
   case atStart=>exact⟨_,_,[],none,0,rfl,Hrg0,Lib.hid (Got.start D S),Lib.hid (OP.nil _ _),H4,Lib.hid (by simpa using Hsz.out)⟩
   case round =>
    obtain⟨left,cnt,out,a2,c2,rfl,hrg,hgot,hop,hb4,hcnt⟩:=hrel;go_wp2_with (at_next;refine wpList_next_ranges _ rfl _ rfl 9 keyS (plainElem Tryz.prog 2) encStr (Value.int .i64) (fun key kl hk=>by obtain⟨x,hx,_⟩:=Maps.keyOf_str Tryz.underlying9 hk;exact⟨x,hx⟩) (fun v y hv=>by obtain⟨c,rfl,_⟩:=plainElem_int_inv Tryz.underlying2 hv;exact⟨c,rfl⟩) w.heap.size r L.length D left cnt rfl hrg.out ?_ ?_)
    ·intro _ hl0;have hperm:=hgot.out.done hD.out hup.out hl0;have hlen:=hperm.length_eq;have HS:Hid (Calls Tryz.prog 133 #[.slice a2 out.length c2,.func (.func 134) #[] #[]] wr fun e w'=>e=.returned (.tuple #[])/\OP (r+1) w' (.slice a2 out.length c2) S/\Below (r+1) wr w'):=by
      refine Lib.hid ?_;rcases Nat.eq_zero_or_pos out.length with h0|h0
      ·have e1:S=[]:=List.eq_nil_of_length_eq_zero (by omega);have e2:out=[]:=List.eq_nil_of_length_eq_zero h0;have ho:=hop.out;rw[e2] at ho ⊢;rw[e1];exact (AnyF.slices_SortFunc_none Tryz.sortP a2 c2 _ wr).mono fun e w' ⟨he,hw⟩=>⟨he,hw ▸ ho,hw ▸ Below.refl _ _⟩
      ·have ho:=hop.out;have ha:∃ g,a2=some ⟨g,0,none⟩:=by
        obtain⟨h1,⟨hv,hz⟩|⟨g,cap,cur,hv,r⟩⟩:=ho
        ·omega
        ·cases hv;exact⟨g,rfl⟩
       obtain⟨g,rfl⟩:=ha;exact sort_any (r+1) g c2 out S wr ho hup.out hperm (by have:=hcnt.out;omega)
     have Hlen:=Lib.hid hlen;clear hl0 hperm hlen;go_wp2_with (go_at_call 133;with_reducible refine HS.out.mono ?_;rintro e w7 ⟨rfl,ho7,hb7⟩);go_ret2;rw[Hfin.out];exact⟨hb4.out.trans (hb7.mono (by have:=Hr.out;omega)),a2,c2,by rw[Hlen.out];rfl,by rw[<- Hlen.out];exact ho7.mono (by have:=Hr.out;omega)⟩
    ·intro x q kl y1 y2 w5 cnt5 hkx hlk hv hat hrg1 hlt hg1 hs1 hen;obtain⟨x',ex,rfl,-⟩:=Maps.keyOf_str Tryz.underlying9 hkx;obtain rfl:x=x':=encStr_inj ex;obtain⟨q',eq,e3,-⟩:=plainElem_int_inv Tryz.underlying2 hv
     cases eq;cases e3
     have Hgot2:=Lib.hid (hgot.out.step hD.out hlk hat);have Hop5:=Lib.hid (hop.out.keep (W':=w5) fun b e=>hg1.block b (hop.out.ge b e).2 (by have:=(hop.out.ge b e).1;intro e2;cases e2;omega));have Hop6:=Lib.hid (Hop5.out.below ((Below.refl _ w5).alloc (Nat.le_refl _) (.cells #[encStr x,.int .i64 q] 74)));have Hrg1:=Lib.hid hrg1;have Hlt:=Lib.hid hlt;have hr5:=Lib.hid (show r+1<=w5.heap.size by have:=hrg1.lt;omega);have Hb5:=Lib.hid (show Below w.heap.size w (w5.alloc (.cells #[encStr x,.int .i64 q] 74)) from (hb4.out.grown hg1 hb4.out.size (fun k hk=>by cases hk;have:=Hr.out;omega)).alloc (by have:=hr5.out;have:=Hr.out;omega) _);clear ex hkx hv hrg1 hlt hg1 hs1 hlk hat;go_wp2_with (at_builtin;go_loud (refine wpList_append_parts rfl _ _ rfl (r+1) (.slice a2 out.length c2) out [(x,q)] rfl Hop6.out (some ⟨w5.heap.size,0,none⟩) 1 rfl (fun _=>⟨_,rfl,one_src _ _ _ _⟩) (by have:=hr5.out;simp;omega) (by have:=hcnt.out;have:=Hlt.out;simp;omega) ?_;intro a3 c3 w6 ho6 hg6));have n1:some w.heap.size≠(Value.slice a2 out.length c2).ownBlock:=fun e=>by have:=(Hop5.out.ge _ e.symm).1;have:=Hr.out;omega
     have n2:some r≠(Value.slice a2 out.length c2).ownBlock:=fun e=>by have:=(Hop5.out.ge _ e.symm).1;omega
     have Hrg6:=Lib.hid ((Hrg1.out.alloc (.cells #[encStr x,.int .i64 q] 74)).kept hg6 n1 n2);have Ho6:=Lib.hid ho6;have Hb6:=Lib.hid (Hb5.out.grown hg6 Hb5.out.size (fun k hk=>by have:=(Hop5.out.ge k hk).1;have:=Hr.out;omega));clear ho6 hg6 n1 n2;go_round
     case rel=>exact⟨_,cnt5,out++[(x,q)],a3,c3,by simp,Hrg6,Hgot2,Lib.hid (by simpa using Ho6.out),Hb6,Lib.hid (by have:=hcnt.out;have:=Hlt.out;simp;omega)⟩
     case measure=>rw[Hrg6.out.left_eq,hrg.out.left_eq];exact Hlt.out
end
section
open Go.RowKit
def timesA (a b:Int):Option Int:=if okA a && (okA b && decide (a*b<=mostA)) then some (a*b) else none
set_option maxHeartbeats 2000000 in
theorem Times_any (a b:Int) (w:World) :
  Calls Tryz.prog 100 #[.int .i64 a,.int .i64 b] w fun e w'=>e=.returned (.tuple #[.int .i64 (ansV (timesA a b)),.bool (timesA a b).isSome])/\w=w':=by
 have hra:=fun w=>Right_any a w
 have hrb:=fun w=>Right_any b w
 have HT:Hid (timesA a b=if okA a && (okA b && decide (a*b<=mostA)) then some (a*b) else none):=rfl;obtain⟨T,hT⟩:∃ T,T=timesA a b:=⟨_,rfl⟩
 rw[<- hT] at HT ⊢;clear hT
 cases hka:okA a
 ·rw[hka] at hra HT;go_enter Tryz.func100,Tryz.ntmps100;go_wp2_with (go_at_call 97;refine (hra _).mono ?_;rintro e w' ⟨rfl,rfl⟩);go_ret2;rw[HT.out];exact⟨rfl,rfl⟩
 ·rw[hka] at hra HT;have hka':=okA_iff.1 hka
  cases hkb:okA b
  ·rw[hkb] at hrb HT;clear hka hkb;go_enter Tryz.func100,Tryz.ntmps100;go_wp2_with (go_at_call 97;first|(with_reducible refine (hra _).mono ?_;rintro e w' ⟨rfl,rfl⟩)|(with_reducible refine (hrb _).mono ?_;rintro e w' ⟨rfl,rfl⟩));go_ret2;rw[HT.out];exact⟨rfl,rfl⟩
  ·rw[hkb] at hrb HT;have hkb':=okA_iff.1 hkb;have htn:=times_nat hka'.1 hkb'.1;clear hka hkb;obtain⟨x,rfl⟩:∃ x:Nat,a=x:=⟨a.toNat,by omega⟩
   obtain⟨y,rfl⟩:∃ y:Nat,b=y:=⟨b.toNat,by omega⟩
   have hmul:=fun w=>Tryz.bits_Mul64 x y (by omega) (by omega) w
   simp only[Int.toNat_natCast] at htn;rw[<- Int.natCast_mul] at htn HT;have hlo:x*y / 18446744073709551616=0->x*y % 18446744073709551616=x*y:=by omega
   generalize x*y=p at htn HT hlo hmul;generalize p / 18446744073709551616=h at htn hlo hmul;generalize p % 18446744073709551616=l at htn hlo hmul;have w1:IntKind.u64.wrap (x:Int)=x:=IntWalk.u64_in _ (by omega);have w2:IntKind.u64.wrap (y:Int)=y:=IntWalk.u64_in _ (by omega);have Htn:=Lib.hid htn;have Hlo:=Lib.hid hlo;clear htn hlo;by_cases hh:h=0
   ·by_cases hl:l<=1125899906842624
    ·have e:decide ((p:Int)<=mostA)=true:=decide_eq_true (Htn.out.1 ⟨hh,hl⟩);rw[e] at HT;have el:=Hlo.out hh;have w3:=wrap_in (x:=(l:Int)) (by omega) (by omega);clear e;subst hh;go_enter Tryz.func100,Tryz.ntmps100;go_wp2_with (first|(go_at_call 97;first|(with_reducible refine (hra _).mono ?_;rintro e w' ⟨rfl,rfl⟩)|(with_reducible refine (hrb _).mono ?_;rintro e w' ⟨rfl,rfl⟩))|(go_at_call 136;refine (hmul _).mono ?_;rintro e w' ⟨rfl,rfl⟩));go_ret2;rw[HT.out];exact⟨by simp[ansV],rfl⟩
    ·have e:decide ((p:Int)<=mostA)=false:=decide_eq_false fun h=>hl (Htn.out.2 h).2
     rw[e] at HT;clear e;subst hh;go_enter Tryz.func100,Tryz.ntmps100;go_wp2_with (first|(go_at_call 97;first|(with_reducible refine (hra _).mono ?_;rintro e w' ⟨rfl,rfl⟩)|(with_reducible refine (hrb _).mono ?_;rintro e w' ⟨rfl,rfl⟩))|(go_at_call 136;refine (hmul _).mono ?_;rintro e w' ⟨rfl,rfl⟩));go_ret2;rw[HT.out];exact⟨rfl,rfl⟩
   ·have e:decide ((p:Int)<=mostA)=false:=decide_eq_false fun h=>hh (Htn.out.2 h).1
    rw[e] at HT;clear e;go_enter Tryz.func100,Tryz.ntmps100;go_wp2_with (first|(go_at_call 97;first|(with_reducible refine (hra _).mono ?_;rintro e w' ⟨rfl,rfl⟩)|(with_reducible refine (hrb _).mono ?_;rintro e w' ⟨rfl,rfl⟩))|(go_at_call 136;refine (hmul _).mono ?_;rintro e w' ⟨rfl,rfl⟩));go_ret2;rw[HT.out];exact⟨rfl,rfl⟩
set_option maxHeartbeats 2000000 in
theorem rTimes_any (a b:Int) (w:World) :
  Calls Tryz.prog 104 #[.int .i64 a,.int .i64 b] w fun e w'=>e=.returned (.tuple #[.int .i64 (ansV (timesA a b)),.bool (timesA a b).isSome])/\w=w':=by
 have hra:=fun w=>rRight_any a w
 have hrb:=fun w=>rRight_any b w
 have HT:Hid (timesA a b=if okA a && (okA b && decide (a*b<=mostA)) then some (a*b) else none):=rfl;obtain⟨T,hT⟩:∃ T,T=timesA a b:=⟨_,rfl⟩
 rw[<- hT] at HT ⊢;clear hT
 cases hka:okA a
 ·rw[hka] at hra HT;go_enter Tryz.func104,Tryz.ntmps104;go_wp2_with (go_at_call 72;refine (hra _).mono ?_;rintro e w' ⟨rfl,rfl⟩);go_ret2;rw[HT.out];exact⟨rfl,rfl⟩
 ·rw[hka] at hra HT;have hka':=okA_iff.1 hka
  cases hkb:okA b
  ·rw[hkb] at hrb HT;clear hka hkb;go_enter Tryz.func104,Tryz.ntmps104;go_wp2_with (go_at_call 72;first|(with_reducible refine (hra _).mono ?_;rintro e w' ⟨rfl,rfl⟩)|(with_reducible refine (hrb _).mono ?_;rintro e w' ⟨rfl,rfl⟩));go_ret2;rw[HT.out];exact⟨rfl,rfl⟩
  ·rw[hkb] at hrb HT;have hkb':=okA_iff.1 hkb;clear hka hkb;by_cases h0:0<b
   ·have htd:=times_div (a:=a) h0;have hne:¬ b=0:=(by omega);have hq0:0<=Int.tdiv 1125899906842624 b:=Int.tdiv_nonneg (by omega) (by omega);have hq1:Int.tdiv 1125899906842624 b<=1125899906842624:=by
     rw[Int.tdiv_eq_ediv_of_nonneg (by omega)];exact Int.ediv_le_self _ (by omega)
    have wq:=wrap_in (x:=Int.tdiv 1125899906842624 b) (by omega) (by omega);obtain⟨q,hq⟩:∃ q,q=Int.tdiv 1125899906842624 b:=⟨_,rfl⟩
    rw[<- hq] at htd hq0 hq1 wq;have hq':=hq.symm;clear hq;have Htd:=Lib.hid htd;clear htd;by_cases hm:a*b<=1125899906842624
    ·have e:decide (a*b<=mostA)=true:=decide_eq_true hm;rw[e] at HT;have hno:¬ a > q:=fun h=>Htd.out.1 h hm
     have hnn:0<=a*b:=Int.mul_nonneg hka'.1 hkb'.1;have wm:=wrap_in (x:=a*b) (by omega) (by omega);obtain⟨p,hp⟩:∃ p,p=a*b:=⟨_,rfl⟩
     rw[<- hp] at HT wm;have hp':=hp.symm;clear e hm hnn hp;go_enter Tryz.func104,Tryz.ntmps104;go_wp2_with (go_at_call 72;first|(with_reducible refine (hra _).mono ?_;rintro e w' ⟨rfl,rfl⟩)|(with_reducible refine (hrb _).mono ?_;rintro e w' ⟨rfl,rfl⟩));go_ret2;rw[HT.out];exact⟨rfl,rfl⟩
    ·have e:decide (a*b<=mostA)=false:=decide_eq_false hm;rw[e] at HT;have hno:a > q:=Htd.out.2 hm;clear e hm;go_enter Tryz.func104,Tryz.ntmps104;go_wp2_with (go_at_call 72;first|(with_reducible refine (hra _).mono ?_;rintro e w' ⟨rfl,rfl⟩)|(with_reducible refine (hrb _).mono ?_;rintro e w' ⟨rfl,rfl⟩));go_ret2;rw[HT.out];exact⟨rfl,rfl⟩
   ·obtain rfl:b=0:=by omega
    have e:decide (a*0<=mostA)=true:=(by rw[Int.mul_zero];decide);rw[e,Int.mul_zero] at HT;clear e;go_enter Tryz.func104,Tryz.ntmps104;go_wp2_with (go_at_call 72;first|(with_reducible refine (hra _).mono ?_;rintro e w' ⟨rfl,rfl⟩)|(with_reducible refine (hrb _).mono ?_;rintro e w' ⟨rfl,rfl⟩));go_ret2;rw[HT.out];exact⟨rfl,rfl⟩
end
section
def tot (k:List UInt8):List Pt->Int
 | []=>0
 | p::L=>(if p.1=k then p.2 else 0)+tot k L
theorem tot_append (k:List UInt8):∀ L M:List Pt,tot k (L++M)=tot k L+tot k M
 | [],M=>by simp[tot]
 | p::L,M=>by
  show (if p.1=k then p.2 else 0)+tot k (L++M)=((if p.1=k then p.2 else 0)+tot k L)+tot k M;rw[tot_append k L M];omega
theorem tot_nonneg (k:List UInt8):∀ {L:List Pt},(∀ p∈L,okA p.2=true)->0<=tot k L
 | [],_=>Int.le_refl _
 | p::L,h=>by
  have:=tot_nonneg k (L:=L) (fun q hq=>h q (List.mem_cons_of_mem _ hq));have h1:=(okA_iff.1 (h p (by simp))).1;unfold tot;split<;>omega
theorem addA_iff {a b n:Int} (ha:okA a=true):addA a b=some n↔okA b=true/\a+b<=mostA/\n=a+b:=by
 unfold addA;rw[ha,Bool.true_and]
 cases hb:okA b
 ·simp
 ·by_cases h:a+b<=mostA
  ·simp[h,eq_comm]
  ·simp[h]
theorem set_tot {S:List Pt} (hS:Up S) {p:Pt} {n:Int} (hn:n=sumAt S p.1+p.2) (L:List Pt) (k:List UInt8):sumAt (setAt S p.1 n) k+tot k L=sumAt S k+tot k (p::L):=by
 rw[sumAt_set p.1 n k hS]
 conv=>rhs;unfold tot
 by_cases e:k=p.1
 ·subst e;rw[if_pos rfl,if_pos rfl];omega
 ·rw[if_neg e,if_neg (fun e2=>e e2.symm)];omega
theorem joinL_iff:∀ {L S:List Pt},Up S->((joinL S L).isSome=true↔(∀ p∈L,okA p.2=true)/\∀ k,sumAt S k+tot k L<=mostA)
 | [],S,h=>by
  refine⟨fun _=>⟨(fun p hp=>by cases hp),fun k=>?_⟩,fun _=>rfl⟩;have:=(okA_iff.1 (h.sum_ok k)).2;show sumAt S k+0<=1125899906842624;omega
 | p::L,S,h=>by
  have hs:=h.sum_ok p.1;unfold joinL
  cases hA:addA (sumAt S p.1) p.2 with
  | none =>
   refine⟨(fun e=>by cases e),fun ⟨h1,h2⟩=>?_⟩;have h3:=h1 p (by simp);have h4:=tot_nonneg p.1 (L:=L) (fun q hq=>h1 q (List.mem_cons_of_mem _ hq));have h5:=h2 p.1;unfold tot at h5;rw[if_pos rfl] at h5;have:=(addA_iff (n:=sumAt S p.1+p.2) hs).2 ⟨h3,by omega,rfl⟩;rw[hA] at this
   cases this
  | some n =>
   obtain⟨h1,h2,h3⟩:=(addA_iff hs).1 hA;have hn:=(addA_some hA).2.2.1;show (joinL (setAt S p.1 n) L).isSome=true↔_;rw[joinL_iff (h.set p.1 hn)];constructor
   ·rintro⟨k1,k2⟩;refine⟨fun q hq=>?_,fun k=>?_⟩
    ·rcases List.mem_cons.1 hq with rfl|hq
     ·exact h1
     ·exact k1 q hq
    ·rw[<- set_tot h h3 L k];exact k2 k
   ·rintro⟨k1,k2⟩;refine⟨fun q hq=>k1 q (List.mem_cons_of_mem _ hq),fun k=>?_⟩;rw[set_tot h h3 L k];exact k2 k
theorem joinL_sum:∀ {L S R:List Pt},Up S->joinL S L=some R->∀ k,sumAt R k=sumAt S k+tot k L
 | [],S,R,_,e,k=>by cases e;show _=sumAt S k+0;omega
 | p::L,S,R,h,e,k=>by
  have hs:=h.sum_ok p.1;unfold joinL at e
  cases hA:addA (sumAt S p.1) p.2 with
  | none=>rw[hA] at e;cases e
  | some n =>
   rw[hA] at e;obtain⟨-,-,h3⟩:=(addA_iff hs).1 hA;rw[joinL_sum (h.set p.1 (addA_some hA).2.2.1) e k,set_tot h h3 L k]
theorem joinL_keys:∀ {L S R:List Pt},joinL S L=some R->∀ k,k∈R.map (·.1)↔k∈S.map (·.1)∨k∈L.map (·.1)
 | [],S,R,e,k=>by cases e;simp
 | p::L,S,R,e,k=>by
  unfold joinL at e
  cases hA:addA (sumAt S p.1) p.2 with
  | none=>rw[hA] at e;cases e
  | some n =>
   rw[hA] at e;rw[joinL_keys e k,keys_set,List.map_cons,List.mem_cons];constructor
   ·rintro ((h|h)|h)
    ·exact .inr (.inl h)
    ·exact .inl h
    ·exact .inr (.inr h)
   ·rintro (h|h|h)
    ·exact .inl (.inr h)
    ·exact .inl (.inl h)
    ·exact .inr h
theorem Up.ext {R T:List Pt} (hR:Up R) (hT:Up T) (hk:∀ k,k∈R.map (·.1)↔k∈T.map (·.1)) (hs:∀ k,sumAt R k=sumAt T k):R=T:=by
 have hnd:(R.map (·.1)).Nodup:=by
  refine List.pairwise_map.2 (hR.1.imp fun {a b} hlt e=>?_);rw[e] at hlt;exact List.lt_irrefl _ hlt
 exact hT.sorted (hT.perm hnd hk (fun p hp=>by rw[<- hs,hR.sum_mem hp])) (hR.1.imp fun {a b} hlt hgt=>lt_asymm' hlt hgt)
theorem joinL_eq {L M:List Pt} (ht:∀ k,tot k L=tot k M) (hk:∀ k,k∈L.map (·.1)↔k∈M.map (·.1)) (ho:(∀ p∈L,okA p.2=true)↔(∀ p∈M,okA p.2=true)):joinL [] L=joinL [] M:=by
 have e:(joinL [] L).isSome=(joinL [] M).isSome:=by
  rw[Bool.eq_iff_iff,joinL_iff Up.nil,joinL_iff Up.nil,ho];simp only[ht]
 cases h1:joinL [] L with
 | none =>
  rw[h1] at e
  cases h2:joinL [] M with
  | none=>rfl
  | some R=>rw[h2] at e;cases e
 | some R =>
  rw[h1] at e
  cases h2:joinL [] M with
  | none=>rw[h2] at e;cases e
  | some T =>
   refine congrArg some (Up.ext (joinL_up Up.nil h1) (joinL_up Up.nil h2) (fun k=>?_) (fun k=>?_))
   ·rw[joinL_keys h1 k,joinL_keys h2 k,hk k]
   ·rw[joinL_sum Up.nil h1 k,joinL_sum Up.nil h2 k,ht k]
theorem joinL_cons (S:List Pt) (p:Pt) (L:List Pt):joinL S (p::L)=match addA (sumAt S p.1) p.2 with|none=>none|some n=>joinL (setAt S p.1 n) L:=rfl
theorem joinL_append:∀ (A B S:List Pt),joinL S (A++B)=(joinL S A).bind fun S'=>joinL S' B
 | [],B,S=>rfl
 | p::A,B,S=>by
  rw[List.cons_append,joinL_cons,joinL_cons]
  cases addA (sumAt S p.1) p.2 with
  | none=>rfl
  | some n=>exact joinL_append A B _
theorem joinL_more {A B:List Pt} (h:joinL [] A=none):joinL [] (A++B)=none:=by rw[joinL_append,h];rfl
theorem Up.tot_eq:∀ {R:List Pt},Up R->∀ k,tot k R=sumAt R k
 | [],_,_=>rfl
 | p::R,h,k=>by
  have ih:=Up.tot_eq h.tail k;unfold tot sumAt;by_cases e:p.1=k
  ·rw[if_pos e,if_pos e,ih];have hno:k ∉ R.map (·.1):=fun hk=>by
    obtain⟨q,hq,e2⟩:=List.mem_map.1 hk;have:=(List.pairwise_cons.1 h.1).1 q hq;rw[e,<- e2] at this;exact List.lt_irrefl _ this
   rw[sumAt_none hno];omega
  ·rw[if_neg e,if_neg e,ih];omega
theorem joinL_self {R:List Pt} (h:Up R):joinL [] R=some R:=by
 have hs:(joinL [] R).isSome=true:=by
  refine (joinL_iff Up.nil).2 ⟨h.2,fun k=>?_⟩;have:=(okA_iff.1 (h.sum_ok k)).2;rw[h.tot_eq k];show 0+sumAt R k<=1125899906842624;omega
 cases e:joinL [] R with
 | none=>rw[e] at hs;cases hs
 | some T =>
  refine congrArg some (Up.ext (joinL_up Up.nil e) h (fun k=>?_) (fun k=>?_))
  ·rw[joinL_keys e k];simp
  ·rw[joinL_sum Up.nil e k,h.tot_eq k];show 0+_=_;omega
end
section
open Go.RowKit
def partsX (X:List It) (c:List UInt8):List Pt:=match itF X c with|some x=>x.ps|none=>[]
theorem kids_parts (X:List It) (c:List UInt8):kidsX X c=(partsX X c).map (·.1):=by
 unfold kidsX partsX
 cases itF X c<;>rfl
def putStep (f:List Pt->List UInt8->Int->Option (List Pt)) (q:Int) (acc:Option (List Pt)) (p:Pt):Option (List Pt):=acc.bind fun S=>(timesA q p.2).bind fun n=>f S p.1 n
def putL (X:List It):Nat->List Pt->List UInt8->Int->Option (List Pt)
 | 0,_,_,_=>none
 | k+1,S,c,q=>if (partsX X c).length=0 then joinL S [(c,q)] else (partsX X c).foldl (putStep (putL X k) q) (some S)
theorem put_none (f:List Pt->List UInt8->Int->Option (List Pt)) (q:Int) (l:List Pt):l.foldl (putStep f q) none=none:=by
 induction l with
 | nil=>rfl
 | cons p l ih=>rw[List.foldl_cons];exact ih
theorem put_stop {f:List Pt->List UInt8->Int->Option (List Pt)} {q:Int} {l:List Pt} {S S':List Pt} {j:Nat} (hj:j<l.length) (h:(l.take j).foldl (putStep f q) (some S)=some S') (hn:putStep f q (some S') (l.getD j default)=none):l.foldl (putStep f q) (some S)=none:=by
 have e:l=l.take j++(l.getD j default::l.drop (j+1)):=by
  rw[List.getD_eq_getElem?_getD,List.getElem?_eq_getElem hj];have:=List.take_append_drop j l;rw[List.drop_eq_getElem_cons hj] at this;exact this.symm
 rw[e,List.foldl_append,List.foldl_cons,h,hn,put_none]
theorem put_take {f:List Pt->List UInt8->Int->Option (List Pt)} {q:Int} {l:List Pt} {S S':List Pt} {j:Nat} (hj:j<l.length) (h:(l.take j).foldl (putStep f q) (some S)=some S'):(l.take (j+1)).foldl (putStep f q) (some S)=putStep f q (some S') (l.getD j default):=by
 rw[List.take_succ_eq_append_getElem hj,List.foldl_append,h,List.getD_eq_getElem?_getD,List.getElem?_eq_getElem hj];rfl
structure PS (X:List It) (S:List Pt):Prop where
 up:Up S
 sub:∀ p∈S,p.1∈codes X
 len:S.length<=X.length
theorem ps_of {X:List It} (_:Sound X) {S:List Pt} (hu:Up S) (hsub:∀ p∈S,p.1∈codes X):PS X S:=by
 refine⟨hu,hsub,?_⟩;have hnd:(S.map (·.1)).Nodup:=by
  rw[List.nodup_iff_pairwise_ne,List.pairwise_map];exact hu.1.imp fun h e=>by rw[e] at h;exact List.lt_irrefl _ h
 have hl:(codes X).length=X.length:=by unfold codes;rw[List.length_map]
 rw[<- hl,show S.length=(S.map (·.1)).length by rw[List.length_map]];have key:∀ (l m:List (List UInt8)),l.Nodup->(∀ x∈l,x∈m)->l.length<=m.length:=fun l=>by
  induction l with
  | nil=>intro m _ _;exact Nat.zero_le _
  | cons x l ih =>
   intro m hd hm;obtain⟨h1,h2⟩:=List.nodup_cons.1 hd;have h3:=ih (m.erase x) h2 (fun y hy=>(List.mem_erase_of_ne (fun e=>h1 (by rw[<- e];exact hy))).2 (hm y (List.mem_cons_of_mem _ hy)));have hx:=hm x (List.mem_cons_self ..);rw[List.length_erase_of_mem hx] at h3;have:0<m.length:=List.length_pos_of_mem hx;rw[List.length_cons];omega
 exact key _ _ hnd fun x hx=>by
  obtain⟨p,hp,rfl⟩:=List.mem_map.1 hx;exact hsub p hp
theorem ps_join {X:List It} (hs:Sound X) {S S':List Pt} (h:PS X S) {c:List UInt8} {q:Int} (hc:c∈codes X) (hj:joinL S [(c,q)]=some S'):PS X S':=by
 refine ps_of hs (joinL_up h.up hj) fun p hp=>?_
 have h1:=(joinL_keys hj p.1).1 (List.mem_map.2 ⟨p,hp,rfl⟩);rcases h1 with h1|h1
 ·obtain⟨r,hr,e⟩:=List.mem_map.1 h1;rw[<- e];exact h.sub r hr
 ·simp at h1;rw[h1];exact hc
structure LP (W:World) (B be ba bl ma n:Nat) (fv:Value) (X:List It) (a:Option Addr) (c:Nat) (S:List Pt):Prop where
 ce:W.cell? ⟨be,0,none⟩=some (.slice a S.length c)
 fe:W.frozen? ⟨be,0,none⟩=false
 op:OP (be+1) W (.slice a S.length c) S
 ca:W.cell? ⟨ba,0,none⟩=some (.map (some ma))
 cl:W.cell? ⟨bl,0,none⟩=some fv
 all:MF W ma n zItem (bookF X)
 ok:∀ x∈X,ItOk B W x
 na:ba≠be
 nl:bl≠be
 nm:ma≠be
 le:be<W.heap.size
 la:ba<W.heap.size
 ll:bl<W.heap.size
 hB:B<=be
theorem LP.below {W W':World} {B be ba bl ma n:Nat} {fv:Value} {X:List It} {a:Option Addr} {c:Nat} {S:List Pt} (h:LP W B be ba bl ma n fv X a c S) (hb:Below W.heap.size W W'):LP W' B be ba bl ma n fv X a c S :=
 ⟨(hb.cell h.le).trans h.ce,by
  have:=hb.block be h.le;unfold World.frozen? at *;have h2:=h.fe;unfold World.frozen? at h2;simp only[this];exact h2,h.op.below hb,(hb.cell h.la).trans h.ca,(hb.cell h.ll).trans h.cl,h.all.below hb h.all.lt,fun x hx=>(h.ok x hx).below (hb.mono (Nat.le_trans h.hB (Nat.le_of_lt h.le))),h.na,h.nl,h.nm,Nat.lt_of_lt_of_le h.le hb.size,Nat.lt_of_lt_of_le h.la hb.size,Nat.lt_of_lt_of_le h.ll hb.size,h.hB⟩
theorem sc_block (W:World) (g:Nat) (v:Value) {k:Nat} (hk:k≠g):(W.setCell ⟨g,0,none⟩ v).heap[k]? = W.heap[k]?:=Below.heap_setCell W ⟨g,0,none⟩ v k hk
theorem sc_grown (W:World) (g:Nat) (v:Value):W.grownBy (W.setCell ⟨g,0,none⟩ v) (some g):=⟨rfl,rfl,rfl,by simp[World.setCell],fun k _ hne=>sc_block W g v (fun e=>hne (by rw[e]))⟩
theorem LP.put {W:World} {B be ba bl ma n:Nat} {fv:Value} {X:List It} {a a':Option Addr} {c c':Nat} {S S':List Pt} (h:LP W B be ba bl ma n fv X a c S) (ho:OP (be+1) W (.slice a' S'.length c') S'):LP (W.setCell ⟨be,0,none⟩ (.slice a' S'.length c')) B be ba bl ma n fv X a' c' S':=by
 have other:∀ {x o:Nat},x≠be->(W.setCell ⟨be,0,none⟩ (.slice a' S'.length c')).cell? ⟨x,o,none⟩=W.cell? ⟨x,o,none⟩:=fun hx=>World.cell?_of_block (w:=W) (sc_block W be _ hx)
 have hb:Below be W (W.setCell ⟨be,0,none⟩ (.slice a' S'.length c')):=(Below.refl be W).grown (sc_grown W be _) (Nat.le_of_lt h.le) (fun k e=>by rw[<- Option.some.inj e];exact Nat.le_refl _);have hsz:(W.setCell ⟨be,0,none⟩ (.slice a' S'.length c')).heap.size=W.heap.size:=by simp[World.setCell]
 exact⟨World.cell?_setCell_same _ _ _ h.ce,by rw[World.frozen?_setCell];exact h.fe,ho.keep fun b e=>sc_block W be _ (by have:=(ho.ge b e).1;omega),(other h.na).trans h.ca,(other h.nl).trans h.cl,h.all.block (sc_block W be _ h.nm),fun x hx=>(h.ok x hx).below (hb.mono h.hB),h.na,h.nl,h.nm,by rw[hsz];exact h.le,by rw[hsz];exact h.la,by rw[hsz];exact h.ll,h.hB⟩
def PutPost (X:List It) (W:World) (B be ba bl ma n:Nat) (fv:Value) (r:Option (List Pt)) (e:Ending) (W':World):Prop :=
 W.grownBy W' (some be)/\match r with
 | none=>e=.returned (.bool false)
 | some S=>e=.returned (.bool true)/\PS X S/\∃ a c,LP W' B be ba bl ma n fv X a c S
theorem OP.size {B:Nat} {W:World} {a:Option Addr} {c:Nat} {S:List Pt} (h:OP B W (.slice a S.length c) S):S.length<=c/\c<=9223372036854775807:=by
 obtain⟨h1,⟨h2,h3⟩|⟨g,cap,cur,hv,hg,hh,hle,hcap,r⟩⟩:=h
 ·injection h2 with e1 e2 e3;omega
 ·cases hv;exact⟨hle,by simpa [maxLen] using hcap⟩
theorem below_grown {W W':World} (h:Below W.heap.size W W') (g:Nat):W.grownBy W' (some g):=⟨h.os,h.tape,h.output,h.size,fun i hi _=>h.block i hi⟩
theorem two_rv {W:World} {a:Option Addr} {cc:Nat} {S:List Pt} {c:List UInt8} {q:Int} (h1:OP 0 W (.slice a S.length cc) S) (hf:Fine S) (hc:c.length<=9223372036854775807) (hq:-9223372036854775808<=q/\q<=9223372036854775807) :
  RV ((W.alloc (.cells #[.string ⟨c.toArray⟩,.int .i64 q] 74)).alloc (.cells #[.slice a S.length cc,.slice (some ⟨W.heap.size,0,none⟩) 1 1] 64)).heap.size ((W.alloc (.cells #[.string ⟨c.toArray⟩,.int .i64 q] 74)).alloc (.cells #[.slice a S.length cc,.slice (some ⟨W.heap.size,0,none⟩) 1 1] 64)) (some ⟨W.heap.size+1,0,none⟩) 2 2 [⟨a,S.length,cc,S⟩,⟨some ⟨W.heap.size,0,none⟩,1,1,[(c,q)]⟩]:=by
 obtain⟨W1,hW1⟩:∃ V,V=W.alloc (.cells #[.string ⟨c.toArray⟩,.int .i64 q] 74):=⟨_,rfl⟩
 have s1:W1.heap.size=W.heap.size+1:=by rw[hW1,World.size_alloc]
 have a1:W1.heap[W.heap.size]? = some (.cells #[.string ⟨c.toArray⟩,.int .i64 q] 74):=by rw[hW1];exact heap_alloc_new _ _
 have b1:Below W.heap.size W W1:=by rw[hW1];exact (Below.refl _ W).alloc (Nat.le_refl _) _
 rw[<- hW1];obtain⟨W2,hW2⟩:∃ V,V=W1.alloc (.cells #[.slice a S.length cc,.slice (some ⟨W.heap.size,0,none⟩) 1 1] 64):=⟨_,rfl⟩
 have s2:W2.heap.size=W.heap.size+2:=by rw[hW2,World.size_alloc,s1]
 have a2:W2.heap[W.heap.size+1]? = some (.cells #[.slice a S.length cc,.slice (some ⟨W.heap.size,0,none⟩) 1 1] 64):=by rw[hW2,<- s1];exact heap_alloc_new _ _
 have b2:Below W1.heap.size W1 W2:=by rw[hW2];exact (Below.refl _ W1).alloc (Nat.le_refl _) _
 rw[<- hW2];have hrp:=h1.rp hf;have hs:=OP.size h1;refine⟨rfl,Nat.le_refl _,by omega,fun _=>⟨_,0,rfl,by omega,fun i hi=>?_⟩,fun i hi=>?_⟩
 ·rcases (show i=0∨i=1 by omega) with rfl|rfl
  ·unfold World.cell?;rw[a2];rfl
  ·unfold World.cell?;rw[a2];rfl
 ·rcases (show i=0∨i=1 by omega) with rfl|rfl
  ·obtain⟨a',c',e,hr⟩:=hrp
   cases e
   exact ((hr.below b1).below (b2.mono b1.size)).mono (by omega)
  ·refine⟨rfl,Nat.le_refl _,(by show (1:Nat)<=_;omega),fun p hp=>?_,fun _=>⟨W.heap.size,0,rfl,by omega,fun i hi=>?_⟩⟩
   ·simp only[List.getD_cons_succ,List.getD_cons_zero,List.mem_singleton] at hp;subst hp;exact⟨hc,hq⟩
   ·obtain rfl:i=0:=by
     simp only[List.getD_cons_succ,List.getD_cons_zero] at hi;omega
    have hb:=(b2.block W.heap.size (by omega)).trans a1;exact pair_at hb
def QR (X:List It) (W:World) (B be ba bl ma n:Nat) (fv:Value) (k:Nat) (q:Int) (ps S:List Pt) (j:Nat) (wr:World):Prop :=
 ∃ Sj a c,(ps.take j).foldl (putStep (putL X k) q) (some S)=some Sj/\PS X Sj/\LP wr B be ba bl ma n fv X a c Sj/\W.grownBy wr (some be)
theorem timesA_in {a b n:Int} (h:timesA a b=some n):-9223372036854775808<=n/\n<=9223372036854775807:=by
 unfold timesA at h;split at h
 ·rename_i hc
  cases h
  rw[Bool.and_eq_true,Bool.and_eq_true,decide_eq_true_eq] at hc;obtain⟨h1,h2,h3⟩:=hc;unfold okA at h1 h2;rw[Bool.and_eq_true,decide_eq_true_eq,decide_eq_true_eq] at h1 h2;unfold mostA at h3;have:=Int.mul_nonneg h1.1 h2.1;omega
 ·cases h
set_option maxHeartbeats 8000000 in
set_option maxRecDepth 100000 in
theorem put_any (B be ba bl ma n:Nat) (fv:Value) (X:List It) (hfv:fv=.func (.func 98) #[] #[.pointer (some ⟨ba,0,none⟩),.pointer (some ⟨be,0,none⟩),.pointer (some ⟨bl,0,none⟩)]) (hs:Sound X) (k:Nat):∀ (S:List Pt) (a:Option Addr) (cc:Nat) (c:List UInt8) (q:Int) (W:World),LP W B be ba bl ma n fv X a cc S->PS X S->c∈codes X->(∃ d,hgt (kidsX X) k c=some d)->-9223372036854775808<=q->q<=9223372036854775807 ->
  Calls Tryz.prog 98 #[.string ⟨c.toArray⟩,.int .i64 q,.pointer (some ⟨ba,0,none⟩),.pointer (some ⟨be,0,none⟩),.pointer (some ⟨bl,0,none⟩)] W (PutPost X W B be ba bl ma n fv (putL X k S c q)):=by
 have HS:=Lib.hid hs;clear hs
 induction k with
 | zero=>rintro S a cc c q W - - - ⟨d,hd⟩;cases hd
 | succ k ih =>
  intro S a cc c q W hL hP hc hh hq1 hq2;obtain⟨x,hx,hxm,hxc⟩:=itF_some hc;have hok:=hL.ok x hxm;have hcl:c.length<=9223372036854775807:=by rw[<- hxc];exact hok.code
  have hpx:partsX X c=x.ps:=by unfold partsX;rw[hx]
  have hall:=hL.all.look Tryz.underlying112 (zeroItem _) c hcl;rw[book_at HS.out.nd hx] at hall;unfold It.val encStr at hall;have HL:=Lib.hid hL;have HP:=Lib.hid hP;have HC:=Lib.hid hc;have HH:=Lib.hid hh;have HCL:=Lib.hid hcl;have HX:=Lib.hid hx;have HPX:=Lib.hid hpx;have HXM:=Lib.hid hxm;have ce:=hL.ce;have ca:=hL.ca;have cl:=hL.cl;have hf2:=field_parts;have hmx:=hok.rp.mx;have hle:=hok.rp.le;have HRP:=Lib.hid hok.rp;obtain⟨np,hnp⟩:∃ m,m=x.ps.length:=⟨_,rfl⟩
  rw[<- hnp] at hle hall;have HNP:=Lib.hid hnp;obtain⟨pa,hpa⟩:∃ z,z=x.pa:=⟨_,rfl⟩
  rw[<- hpa] at hall;have HPA:=Lib.hid hpa;clear hL hP hc hh hcl hx hpx hxm hnp hpa hok;go_enter Tryz.func98,Tryz.ntmps98;by_cases h0:np=0
  ·have e0:((np:Int) == 0)=true:=by simp;omega
   have HPL:Hid (putL X (k+1) S c q=joinL S [(c,q)]):=Lib.hid (by unfold putL;rw[if_pos (by rw[HPX.out,<- HNP.out];exact h0)]);clear h0;have hsz:=OP.size HL.out.op;have hfine:Fine S:=fun p hp=>⟨by
    obtain⟨y,hy,hye⟩:=List.mem_map.1 (HP.out.sub p hp);rw[<- hye];exact (HL.out.ok y hy).code,by
    have:=HP.out.up.2 p hp;unfold okA at this;rw[Bool.and_eq_true,decide_eq_true_eq,decide_eq_true_eq] at this;unfold mostA at this;omega⟩
   have hrv:=two_rv (HL.out.op.mono (Nat.zero_le _)) hfine HCL.out ⟨hq1,hq2⟩;have hb2:Below W.heap.size W ((W.alloc (.cells #[.string ⟨c.toArray⟩,.int .i64 q] 74)).alloc (.cells #[.slice a S.length cc,.slice (some ⟨W.heap.size,0,none⟩) 1 1] 64)):=((Below.refl _ W).alloc (Nat.le_refl _) _).alloc (by rw[World.size_alloc];omega) _;have hjl:joinL [] (flatV [⟨a,S.length,cc,S⟩,⟨some ⟨W.heap.size,0,none⟩,1,1,[(c,q)]⟩])=joinL S [(c,q)]:=by
    show joinL [] (S++([(c,q)]++[]))=_;rw[List.append_nil,joinL_append,joinL_self HP.out.up];rfl
   have hjoin:=Join_any (H:=Unit) _ _ _ _ _ _ hrv (Nat.le_refl _) (by
    show (S++([(c,q)]++[])).length<=1048576;have:=HP.out.len;have:=HS.out.len;simp;omega)
   rw[hjl] at hjoin;have HJ:=Lib.hid hjoin;have HB2:=Lib.hid hb2;clear hrv hb2 hjl hjoin hfine hsz;go_wp2_with (fail);go_at_call 99;refine HJ.out.mono ?_;rintro e w3 ⟨hb3,hpost⟩;have hb9:=HB2.out.trans (hb3.mono HB2.out.size);have HL3:=Lib.hid (HL.out.below hb9);have HB9:=Lib.hid hb9;have ce3:=HL3.out.ce;have fe3:=HL3.out.fe
   cases hT:joinL S [(c,q)] with
   | none =>
    rw[hT] at hpost HPL;obtain rfl:=hpost;clear hT hb3 hb9 HJ;go_wp2_with (fail);go_ret;refine⟨(below_grown HB9.out be).trans (sc_grown _ _ _),?_⟩;rw[HPL.out];rfl
   | some S' =>
    rw[hT] at hpost HPL;obtain⟨a',c',rfl,hop⟩:=hpost;have HOP:=Lib.hid (hop.mono (show be+1<=_ by rw[World.size_alloc,World.size_alloc];have:=HL.out.le;omega));have HPS:=Lib.hid (ps_join HS.out HP.out HC.out hT);clear hT hb3 hb9 HJ hop;go_wp2_with (fail);go_ret;refine⟨(below_grown HB9.out be).trans (sc_grown _ _ _),?_⟩;rw[HPL.out];exact⟨rfl,HPS.out,a',c',HL3.out.put HOP.out⟩
  ·have e0:((np:Int) == 0)=false:=by simp;omega
   have HPL:Hid (putL X (k+1) S c q=x.ps.foldl (putStep (putL X k) q) (some S)):=Lib.hid (by unfold putL;rw[if_neg (by rw[HPX.out,<- HNP.out];exact h0),HPX.out]);have HKS:Hid (kidsX X c=x.ps.map (·.1)):=Lib.hid (by rw[kids_parts,HPX.out]);have hn8:np<=8:=by
    have h:=HS.out.k8 c HC.out;rw[HKS.out,List.length_map,<- HNP.out] at h;exact h
   clear h0;go_wp2_with (fail);go_loopw [37] (fun s37 wr=>∃ j:Nat,s37=.int .i64 j/\j<=np/\Hid (QR X W B be ba bl ma n fv k q x.ps S j wr)) (fun s37 _=>np-(intOf s37).toNat)
   case atStart=>exact⟨0,rfl,by omega,Lib.hid ⟨S,a,cc,rfl,HP.out,HL.out,⟨rfl,rfl,rfl,Nat.le_refl _,fun _ _ _=>rfl⟩⟩⟩
   case round =>
    obtain⟨j,rfl,hj,HR⟩:=hrel;by_cases hjn:j<np
    ·have t1:decide ((j:Int)<(np:Int))=true:=(by simp;omega);have j0:(0:Int)<=(j:Int):=(by omega);have j1:(j:Int)<(np:Int):=(by omega);have f1:IntKind.i64.wrap ((j:Int)+1)=((j+1:Nat):Int):=(by rw[wrap_in (by omega) (by omega)];omega);obtain⟨Sj,aj,cj,hfj,hPj,hLj,hGj⟩:=HR.out;have hin:j<x.ps.length:=(by rw[<- HNP.out];exact hjn);have hokj:=hLj.ok x HXM.out;obtain⟨b,po,hpa',-,p0,p1⟩:=hokj.rp.part hin;rw[<- HPA.out] at hpa';subst hpa';obtain⟨pj,hpj⟩:∃ p,p=x.ps.getD j default:=⟨_,rfl⟩
     have HPJ:=Lib.hid hpj;have hstep:=put_take hin hfj;rw[<- hpj] at p0 p1 hstep;obtain⟨nm,qt⟩:=pj;simp only at p0 p1;unfold encStr at p0;have hkm:nm∈kidsX X c:=by
      rw[HKS.out,List.mem_map];exact⟨(nm,qt),by rw[hpj,List.getD_eq_getElem?_getD,List.getElem?_eq_getElem hin];exact List.getElem_mem _,rfl⟩
     have HNM:=Lib.hid (HS.out.kids c HC.out nm hkm);have HNH:Hid (∃ d,hgt (kidsX X) k nm=some d):=Lib.hid (by
      obtain⟨d,hd⟩:=HH.out;rw[hgt_succ] at hd;obtain⟨d',h1,-⟩:=(foldH_some hd).2 nm hkm;exact⟨d',h1⟩)
     have hpc:=pair_cells wr (.string ⟨nm.toArray⟩) (.int .i64 qt);have hga:wr.grownBy (wr.alloc (.cells #[.string ⟨nm.toArray⟩,.int .i64 qt] 74)) (some be):=World.grownBy_alloc _ _ _;obtain⟨q0,q1⟩:=pair_at hpc;have hLa:=hLj.below ((Below.refl wr.heap.size wr).alloc (Nat.le_refl _) (.cells #[.string ⟨nm.toArray⟩,.int .i64 qt] 74));have cl2:=hLa.cl;rw[hfv] at cl2;have HGA:=Lib.hid (hGj.trans hga);have HLA:=Lib.hid hLa;have HPS:=Lib.hid hPj;have HST:=Lib.hid hstep;have HFJ:=Lib.hid hfj;have HIN:=Lib.hid hin;clear hkm hpj hin hfj hPj hLj hGj hpc hga hLa hstep hokj
     cases hT:timesA q qt with
     | none =>
      have htm:∀ w,Calls Tryz.prog 100 #[.int .i64 q,.int .i64 qt] w fun e w'=>e=.returned (.tuple #[.int .i64 0,.bool false])/\w=w':=fun w=>by
       have:=Times_any q qt w;rw[hT] at this;exact this
      have HNN:Hid (putL X (k+1) S c q=none):=Lib.hid (by
       rw[HPL.out];refine put_stop HIN.out HFJ.out ?_;rw[<- HPJ.out];show ((some Sj).bind fun S=>(timesA q qt).bind fun n=>putL X k S nm n)=none;rw[hT];rfl)
      clear hT;go_wp2_with (fail);go_at_call 100;refine (htm _).mono ?_;rintro e w9 ⟨rfl,rfl⟩;go_wp2_with (fail);go_ret;refine⟨HGA.out,?_⟩;rw[HNN.out];rfl
     | some n' =>
      have htm:∀ w,Calls Tryz.prog 100 #[.int .i64 q,.int .i64 qt] w fun e w'=>e=.returned (.tuple #[.int .i64 n',.bool true])/\w=w':=fun w=>by
       have:=Times_any q qt w;rw[hT] at this;exact this
      have hn:=timesA_in hT;have hcall:=Lib.hid (ih Sj aj cj nm n' _ HLA.out HPS.out HNM.out HNH.out (by omega) (by omega));have HST2:Hid ((x.ps.take (j+1)).foldl (putStep (putL X k) q) (some S)=putL X k Sj nm n'):=Lib.hid (by
       rw[HST.out];show ((some Sj).bind fun S=>(timesA q qt).bind fun n=>putL X k S nm n)=_;rw[hT];rfl)
      have HSP:Hid (putStep (putL X k) q (some Sj) (x.ps.getD j default)=putL X k Sj nm n'):=Lib.hid (by
       rw[<- HPJ.out];show ((some Sj).bind fun S=>(timesA q qt).bind fun n=>putL X k S nm n)=_;rw[hT];rfl)
      clear hT hn;go_wp2_with (fail);go_at_call 100;refine (htm _).mono ?_;rintro e w9 ⟨rfl,rfl⟩;go_wp2_with (fail);go_at_call 98;refine hcall.out.mono ?_;rintro e w3 ⟨hgr,hpost⟩;have HG3:=Lib.hid (HGA.out.trans hgr)
      cases hU:putL X k Sj nm n' with
      | none =>
       rw[hU] at hpost HSP;obtain rfl:=hpost;have HNN:Hid (putL X (k+1) S c q=none):=Lib.hid (by
        rw[HPL.out];exact put_stop HIN.out HFJ.out HSP.out)
       clear hU hgr hcall q0 q1 cl2 p0 p1;go_wp2_with (fail);go_ret;refine⟨HG3.out,?_⟩;rw[HNN.out];rfl
      | some S3 =>
       rw[hU] at hpost HST2;obtain⟨rfl,hP3,a3,c3,hL3⟩:=hpost;have HQ9:Hid (QR X W B be ba bl ma n fv k q x.ps S (j+1) w3):=Lib.hid ⟨S3,a3,c3,HST2.out,hP3,hL3,HG3.out⟩;clear hU hgr hcall hP3 hL3 q0 q1 cl2 p0 p1;go_wp2_with (fail);go_roundw
       case rel=>exact⟨j+1,rfl,by omega,HQ9⟩
       case measure=>simp only[intOf];omega
    ·have t1:decide ((j:Int)<(np:Int))=false:=(by simp;omega);obtain⟨Sj,aj,cj,hfj,hPj,hLj,hGj⟩:=HR.out;rw[List.take_of_length_le (by rw[<- HNP.out];omega)] at hfj;have HFIN:Hid (PutPost X W B be ba bl ma n fv (putL X (k+1) S c q) (.returned (.bool true)) wr):=Lib.hid (by
      refine⟨hGj,?_⟩;rw[HPL.out,hfj];exact⟨rfl,hPj,aj,cj,hLj⟩)
     clear hfj hPj hLj hGj;go_wp2_with (fail);go_ret;exact HFIN.out
end
end Go.Proofs.YtgplnekpgdhcpaaGreat
