/-  -/
import Derived.Test.YtgplnekpgdhcpaaGreatQTurn
import Derived.Test.YtgplnekpgdhcpaaGreatQRAllT
namespace Go.Proofs.YtgplnekpgdhcpaaGreat
open Go.RowKit Go.Sort Go.Lib Go.Shelf
theorem allY_no {parts:List UInt8->Int->Option (List (List UInt8×Int))} {row:List UInt8->List (List UInt8)} {right:LineV->Bool} {L:List LotV} {now:Int} {N:List LineV} (h:¬ (nowOk now=true/\(N.map (·.id)).Nodup/\N.all right=true)):allY parts row right L now N=[]:=by
 unfold allY;rw[if_neg];rintro⟨e1,e2,e3⟩;exact h ⟨e1,by unfold idsN at e2;simpa using e2,e3⟩
def ResN (N:List LineV) (i:Nat):List LineV:=(N.take i).map resetL++N.drop i
theorem resN_len (N:List LineV) (i:Nat):(ResN N i).length=N.length:=by unfold ResN;rw[List.length_append,List.length_map,List.length_take,List.length_drop];omega
theorem resN_get (N:List LineV) (i t:Nat):(ResN N i)[t]? = if t<i then N[t]?.map resetL else N[t]?:=by
 by_cases h2:t<N.length
 ·by_cases h:t<i
  ·rw[if_pos h];unfold ResN;rw[List.getElem?_append_left (by rw[List.length_map,List.length_take];omega),List.getElem?_map,List.getElem?_take_of_lt h]
  ·rw[if_neg h];unfold ResN;rw[List.getElem?_append_right (by rw[List.length_map,List.length_take];omega),List.length_map,List.length_take,Nat.min_eq_left (by omega),List.getElem?_drop,show i+(t-i)=t by omega]
 ·rw[List.getElem?_eq_none (by rw[resN_len];omega),List.getElem?_eq_none (show N.length<=t by omega)];split<;>rfl
theorem resN_zero (N:List LineV):ResN N 0=N:=by unfold ResN;simp
theorem resN_full (N:List LineV):ResN N N.length=N.map resetL:=by unfold ResN;simp
theorem resN_id (N:List LineV) (i t:Nat):((ResN N i).getD t default).id=(N.getD t default).id:=by
 rw[List.getD_eq_getElem?_getD,List.getD_eq_getElem?_getD,resN_get];split
 ·cases N[t]? with
  | none=>rfl
  | some x=>exact reset_id x
 ·rfl
theorem resN_at (N:List LineV) (i:Nat):(ResN N i).getD i default=N.getD i default:=by
 rw[List.getD_eq_getElem?_getD,List.getD_eq_getElem?_getD,resN_get,if_neg (Nat.lt_irrefl _)]
theorem resN_set {N:List LineV} {i:Nat} (hi:i<N.length) {p:LineV} (hp:p=resetL (N.getD i default)):(ResN N i).set i p=ResN N (i+1):=by
 subst hp;refine List.ext_getElem? (fun t=>?_);rw[List.getElem?_set,resN_get,resN_get];by_cases e:i=t
 ·subst e;rw[if_pos rfl,if_pos (by rw[resN_len];exact hi),if_pos (Nat.lt_succ_self _),List.getD_eq_getElem?_getD,List.getElem?_eq_getElem hi];rfl
 ·rw[if_neg e];by_cases h:t<i
  ·rw[if_pos h,if_pos (by omega)]
  ·rw[if_neg h,if_neg (by omega)]
theorem resN_same {N:List LineV} {i:Nat} (hi:i<N.length) (hs:(N.getD i default).st≠1):ResN N i=ResN N (i+1):=by
 rw[<- resN_set hi rfl];refine List.ext_getElem? (fun t=>?_);rw[List.getElem?_set];by_cases e:i=t
 ·subst e;rw[if_pos rfl,if_pos (by rw[resN_len];exact hi),resN_get,if_neg (Nat.lt_irrefl _)];rw[List.getD_eq_getElem?_getD,List.getElem?_eq_getElem hi] at *;unfold resetL;rw[if_neg hs];rfl
 ·rw[if_neg e]
theorem own_reset {base g n c:Nat} {w:World} {Y:List LineV} (h:lineE.Own base w (.slice (some ⟨g,0,none⟩) n c) Y) {i:Nat} (hi:i<n) {id:Int} {item:List UInt8} {qty asked rank st day:Int} {code:List UInt8} (hx:Y.getD i default=⟨id,item,qty,asked,rank,st,day,code⟩):lineE.Own base ((w.setCell ⟨g,i*8+6,none⟩ (.int .i64 (-1))).setCell ⟨g,i*8+7,none⟩ (.string ⟨#[]⟩)) (.slice (some ⟨g,0,none⟩) n c) (Y.set i ⟨id,item,qty,asked,rank,st,-1,[]⟩):=by
 have hl:n=Y.length:=by obtain⟨a8,c8,e8,-⟩:=h.form;exact (Value.slice.inj e8).2.1
 have h1:=own_setCell h i 6 ⟨id,item,qty,asked,rank,st,-1,code⟩ (.int .i64 (-1)) hi (by decide) (by rw[hx];rfl);have h2:=own_setCell h1 i 7 ⟨id,item,qty,asked,rank,st,-1,[]⟩ (.string ⟨#[]⟩) hi (by decide) (by rw[show (Y.set i ⟨id,item,qty,asked,rank,st,-1,code⟩).getD i default=(⟨id,item,qty,asked,rank,st,-1,code⟩:LineV) from by rw[List.getD_eq_getElem?_getD,List.getElem?_set_self (by rw[<- hl];exact hi)];rfl];rfl);rw[List.set_set] at h2;exact h2
theorem reset_fine {l:LineV} (h:okLine l):okLine (resetL l):=by
 unfold resetL;split
 ·obtain⟨o1,o2,o3,o4,o5,o6,o7,o8⟩:=h;exact⟨o1,o2,o3,o4,o5,o6,⟨by show (-9223372036854775808:Int)<=-1;decide,by show (-1:Int)<=9223372036854775807;decide⟩,Nat.zero_le _⟩
 ·exact h
theorem reset_nodup {N:List LineV} (h:(N.map (·.id)).Nodup):((N.map resetL).map (·.id)).Nodup:=by
 rw[List.map_map,show ((fun x:LineV=>x.id) ∘ resetL)=fun x=>x.id from funext reset_id];exact h
theorem ids_clash {N:List LineV} {i j:Nat} (hj:j<i) (hi:i<N.length) (e:(N.getD j default).id=(N.getD i default).id):¬ (N.map (·.id)).Nodup:=fun h=>by
 rw[List.getD_eq_getElem?_getD,List.getD_eq_getElem?_getD,List.getElem?_eq_getElem hi,List.getElem?_eq_getElem (show j<N.length by omega)] at e;have:=nodup_at h (show j<N.length by omega) hi e;omega
theorem ids_up {N:List LineV} {i:Nat} (hi:i<N.length) (h:((N.take i).map (·.id)).Nodup) (h2:∀ t,t<i->(N.getD t default).id≠(N.getD i default).id):((N.take (i+1)).map (·.id)).Nodup:=by
 refine ids_more hi h (List.any_eq_false.2 (fun l hl=>?_));obtain⟨t,ht,rfl⟩:=List.getElem_of_mem hl;rw[List.length_take] at ht;have:=h2 t (by omega);rw[List.getD_eq_getElem?_getD,List.getElem?_eq_getElem (show t<N.length by omega)] at this;rw[List.getElem_take];simpa using this
set_option maxHeartbeats 8000000 in
set_option maxRecDepth 100000 in
theorem rAll_any (B:Nat) (now nl nx:Int) (a1:Option Addr) (n1 c1:Nat) (X:List It) (a2:Option Addr) (n2 c2:Nat) (L:List LotV) (a3:Option Addr) (n3 c3:Nat) (N:List LineV) (w:World) (h:StIn B w a1 n1 c1 X a2 n2 c2 L a3 n3 c3 N) (hB:B<=w.heap.size) (h1:n1<=5000) (h2:n2<=5000) (h3:n3<=5000) :
  Calls Tryz.prog 19 #[.agg #[.int .i64 now,.int .i64 nl,.int .i64 nx,.slice a1 n1 c1,.slice a2 n2 c2,.slice a3 n3 c3]] w fun e w'=>AlP w (allY (partsO X) (rowX X) lineOk L now N) e w':=by
 obtain⟨Z,hZ⟩:∃ Z,Z=allY (partsO X) (rowX X) lineOk L now N:=⟨_,rfl⟩
 rw[<- hZ];obtain⟨W0,hW0⟩:∃ V,V=w.alloc (stObj now nl nx (.slice a1 n1 c1) (.slice a2 n2 c2) (.slice a3 n3 c3)):=⟨_,rfl⟩
 have hb0:Below w.heap.size w W0:=by rw[hW0];exact below_allocL _ _
 have k0:W0.heap[w.heap.size]? = some (stObj now nl nx (.slice a1 n1 c1) (.slice a2 n2 c2) (.slice a3 n3 c3)):=by rw[hW0];exact heap_alloc_new _ _
 have l0:w.heap.size<W0.heap.size:=(Array.getElem?_eq_some_iff.1 k0).1;have HAt:=Lib.hid (fun (V:World) (hb:Below W0.heap.size W0 V)=>(show V.heap[w.heap.size]? = some (stObj now nl nx (.slice a1 n1 c1) (.slice a2 n2 c2) (.slice a3 n3 c3))/\Below w.heap.size w V/\StIn B V a1 n1 c1 X a2 n2 c2 L a3 n3 c3 N/\B<=V.heap.size from by
  have hbw:=hb0.trans (hb.mono hb0.size);exact⟨(hb.block _ l0).trans k0,hbw,h.below (hbw.mono hB),Nat.le_trans hB hbw.size⟩))
 have HlN:Hid (N.length=n3):=Lib.hid h.lines.len.symm;have HNF:=Lib.hid h.lines.fine;have HlX:=Lib.hid h.items.len;have hle3:=h.lines.le;have hmx3:=h.lines.mx;have HZ:=Lib.hid hZ;have HW0:=Lib.hid hW0;have HB0:=Lib.hid hb0;have HLI:=Lib.hid ((h.lines.below (hb0.mono hB)));obtain⟨y0,y1,y2,y3,y4,y5⟩:=stObj_cells k0;unfold stObj at HW0;clear hZ hW0 h k0;by_cases hn0:now<0
 ·have E:Hid (Z=[]):=Lib.hid (by rw[HZ.out,allY_no (fun e=>by have:=e.1;unfold nowOk at this;simp at this;omega)]);go_enter Tryz.func19,Tryz.ntmps19;go_upto_region 1 with (fail);rw[<- HW0.out];go_wp2_with (fail);go_ret;rw[E.out];exact⟨⟨_,_,rfl,El.Own.nil _ _ _⟩,HB0.out⟩
 by_cases hn4:4000<now
 ·have E:Hid (Z=[]):=Lib.hid (by rw[HZ.out,allY_no (fun e=>by have:=e.1;unfold nowOk at this;simp at this;omega)]);go_enter Tryz.func19,Tryz.ntmps19;go_upto_region 1 with (fail);rw[<- HW0.out];go_wp2_with (fail);go_ret;rw[E.out];exact⟨⟨_,_,rfl,El.Own.nil _ _ _⟩,HB0.out⟩
 have HNW:Hid (nowOk now=true):=Lib.hid (by unfold nowOk;simp;omega);go_enter Tryz.func19,Tryz.ntmps19;go_upto_region 1 with (fail);rw[<- HW0.out];have hl0:Hid (lineE.Own W0.heap.size (W0.alloc (.cells #[] 29)) (.slice (some ⟨W0.heap.size,0,none⟩) 0 0) []):=Lib.hid (World.ownsRow_lit (e:=29) (size:=lineE.k) W0 #[] 0 (Nat.le_refl _) (Nat.zero_le _) (by simp));have hbl:=Lib.hid (below_allocL W0 (.cells #[] 29));have hsrc:=Lib.hid ((HLI.out.below (hbl.out.mono (Nat.le_trans hB HB0.out.size))).src);go_wp2_with (at_builtin;refine wpList_appendN lineE rfl _ _ rfl W0.heap.size (some ⟨W0.heap.size,0,none⟩) 0 0 [] N n3 HlN.out.symm rfl rfl hl0.out a3 c3 rfl hsrc.out hbl.out.size (by omega) ?_;intro ao co wC hoC hbC;have OC:Hid (lineE.Own W0.heap.size wC (.slice ao n3 co) N):=Lib.hid (by simpa only [Nat.zero_add,List.nil_append] using hoC);have BC:=Lib.hid (hbl.out.trans hbC);clear hoC hbC;rw[Nat.zero_add]);obtain⟨go,hgo⟩:∃ go,(ao=some ⟨go,0,none⟩/\W0.heap.size<=go/\go<wC.heap.size)∨(n3=0/\go=wC.heap.size):=by
  by_cases h0:0<n3
  ·obtain⟨a8,c8,e8,-,-,hg⟩:=OC.out.form;obtain⟨gg,hgg⟩:=hg (by rw[HlN.out];exact h0);have e9:=(Value.slice.inj e8).1.trans hgg;subst e9;have:=OC.out.ge gg rfl;exact⟨gg,.inl ⟨rfl,this.1,this.2⟩⟩
  ·exact⟨wC.heap.size,.inr ⟨by omega,rfl⟩⟩
 have HGO:=Lib.hid hgo;have hrm:n3<=co/\co<=9223372036854775807:=by obtain⟨a8,c8,e8,k1,k2,-⟩:=OC.out.form;obtain⟨-,-,e3⟩:=Value.slice.inj e8;subst e3;exact⟨by rw[<- HlN.out];exact k1,k2⟩
 obtain⟨hrle,hrmx⟩:=hrm;have HKP:Hid (∀ wr,Kp2 go go wC wr->Below W0.heap.size W0 wr):=Lib.hid (fun wr hk=>by
  have e1:=BC.out.size;have e2:W0.heap.size<=go:=by rcases HGO.out with ⟨-,k1,-⟩|⟨-,k2⟩<;>omega
  exact hk.out BC.out e2 e2 e1)
 have A0:Hid (lineE.Own W0.heap.size wC (.slice ao n3 co) (ResN N 0)/\Kp2 go go wC wC/\((N.take 0).map (·.id)).Nodup/\(N.take 0).all lineOk=true):=Lib.hid ⟨by rw[resN_zero];exact OC.out,Kp2.refl _ _ _,by simp,by simp⟩;clear hgo hl0 hbl hsrc OC y0 y1 y2 y3 y4 y5 hn0 hn4;go_loopw [4] (fun s4 wr=>∃ i:Nat,s4=.int .i64 i/\i<=n3/\Hid (lineE.Own W0.heap.size wr (.slice ao n3 co) (ResN N i)/\Kp2 go go wC wr/\((N.take i).map (·.id)).Nodup/\(N.take i).all lineOk=true)) (fun s4 _=>n3-(intOf s4).toNat)
 case atStart=>exact⟨0,rfl,Nat.zero_le _,A0⟩
 case round =>
  obtain⟨i,rfl,hi,HI⟩:=hrel;obtain⟨wo,rfl⟩:∃ z,z=wr:=⟨_,rfl⟩
  clear A0;by_cases hlt:i<n3
  ·obtain⟨q1,q2,q3,q4⟩:=HI.out;obtain⟨rfl,hg1,hg2⟩:ao=some ⟨go,0,none⟩/\W0.heap.size<=go/\go<wC.heap.size:=by rcases HGO.out with h|⟨h,-⟩;exact h;omega
   have hiN:i<N.length:=by rw[HlN.out];exact hlt
   have Q1:=Lib.hid q1;have Q2:=Lib.hid q2;have Q3:=Lib.hid q3;have Q4:=Lib.hid q4;have HGL:Hid (go<wo.heap.size):=Lib.hid (q1.ge go rfl).2;have HC0:Hid (∀ t,t<n3->wo.cell? ⟨go,t*8,none⟩=some (.int .i64 (N.getD t default).id)):=Lib.hid (fun t ht=>by
    have c0:=(q1.cell).2.2.2.2.2 t ht 0 (by decide);rw[<- resN_id N i t];exact c0)
   have A1:Hid ((∀ t,t<0->(N.getD t default).id≠(N.getD i default).id)/\Below wo.heap.size wo wo):=Lib.hid ⟨fun t ht=>absurd ht (Nat.not_lt_zero _),Below.refl _ _⟩;have hix0:(0:Int)<=(i:Int):=by omega
   have hix1:(i:Int)<(n3:Int):=by omega
   clear q1 q2 q3 q4 HI;go_wp2_with (fail);go_loopw [5] (fun s5 wr=>∃ j:Nat,s5=.int .i64 j/\j<=i/\Hid ((∀ t,t<j->(N.getD t default).id≠(N.getD i default).id)/\Below wo.heap.size wo wr)) (fun s5 _=>i-(intOf s5).toNat)
   case atStart=>exact⟨0,rfl,Nat.zero_le _,A1⟩
   case round =>
    obtain⟨j,rfl,hj,HJ⟩:=hrel;obtain⟨wi,rfl⟩:∃ z,z=wr:=⟨_,rfl⟩
    have HBi:=Lib.hid HJ.out.2;clear A1;by_cases hjt:j<i
    ·have C0:=HC0.out j (by omega);have C1:=HC0.out i hlt;obtain⟨jd,hjd⟩:∃ z,z=(N.getD j default).id:=⟨_,rfl⟩
     obtain⟨id,hid⟩:∃ z,z=(N.getD i default).id:=⟨_,rfl⟩
     rw[<- hjd] at C0;rw[<- hid] at C1;have HJD:=Lib.hid hjd;have HID:=Lib.hid hid;clear hjd hid;have hjx0:(0:Int)<=(j:Int):=(by omega);have hjx1:(j:Int)<(n3:Int):=(by omega);have f0:∀ x:BelowW wi,x.v.cell? ⟨go,j*8,none⟩=some (.int .i64 jd):=fun x=>((HBi.out.trans (x.h.mono HBi.out.size)).cell (p:=⟨go,j*8,none⟩) HGL.out).trans C0
     have f1:∀ x:BelowW wi,x.v.cell? ⟨go,i*8,none⟩=some (.int .i64 id):=fun x=>((HBi.out.trans (x.h.mono HBi.out.size)).cell (p:=⟨go,i*8,none⟩) HGL.out).trans C1
     clear C0 C1;by_cases hE:jd=id
     ·have E:Hid (Z=[]):=Lib.hid (by rw[HZ.out,allY_no (fun e=>ids_clash hjt hiN (by rw[<- HJD.out,<- HID.out];exact hE) e.2.1)]);subst hE;go_upto_region 10 with (fail);refine wp_region_below wi (by kernel_rfl) (by kernel_rfl) (Below.refl _ _) ?_
      repeat (go_big_quiet_step (fail))
      refine wpQuiet_nil ?_;intro _ hw';obtain⟨y1,hw''⟩:=hw';subst hw'';clear f0 f1;go_wp2_with (fail);go_ret;rw[E.out];exact⟨⟨_,_,rfl,El.Own.nil _ _ _⟩,HB0.out.trans (((HKP.out _ Q2.out).trans ((HBi.out.trans (y1.h.mono HBi.out.size)).mono (HKP.out _ Q2.out).size)).mono HB0.out.size)⟩
     ·go_upto_region 10 with (fail);refine wp_region_below wi (by kernel_rfl) (by kernel_rfl) (Below.refl _ _) ?_
      repeat (go_big_quiet_step (fail))
      refine wpQuiet_nil ?_;intro _ hw';obtain⟨y1,hw''⟩:=hw';subst hw'';clear f0 f1;go_wp2_with (fail);go_roundw
      case rel=>exact⟨j+1,by go_num,by omega,Lib.hid ⟨fun t ht=>if e:t=j then by rw[e,<- HJD.out,<- HID.out];exact hE else HJ.out.1 t (by omega),HBi.out.trans (y1.h.mono HBi.out.size)⟩⟩
      case measure=>simp[intOf];omega
    ·have hji:i=j:=(by omega);subst hji;have HU:=Lib.hid (ids_up hiN Q3.out HJ.out.1);have O1:=Lib.hid (Q1.out.below HBi.out);have K1:=Lib.hid (Q2.out.below HBi.out);have HX:=Lib.hid (HNF.out (N.getD i default) (getD_mem hiN));have hxe:=resN_at N i;have c0:=(O1.out.cell).2.2.2.2.2 i hlt 0 (by decide);have c1:=(O1.out.cell).2.2.2.2.2 i hlt 1 (by decide);have c2:=(O1.out.cell).2.2.2.2.2 i hlt 2 (by decide);have c3:=(O1.out.cell).2.2.2.2.2 i hlt 3 (by decide);have c4:=(O1.out.cell).2.2.2.2.2 i hlt 4 (by decide);have c5:=(O1.out.cell).2.2.2.2.2 i hlt 5 (by decide);have c6:=(O1.out.cell).2.2.2.2.2 i hlt 6 (by decide);have c7:=(O1.out.cell).2.2.2.2.2 i hlt 7 (by decide);simp only[show lineE.k=8 from rfl] at c0 c1 c2 c3 c4 c5 c6 c7;rw[hxe] at c0 c1 c2 c3 c4 c5 c6 c7;have Hall:Hid (lineOk (N.getD i default)=true->(N.take (i+1)).all lineOk=true):=Lib.hid (fun e=>by
      rw[List.take_succ_eq_append_getElem hiN,List.all_append,Q4.out];rw[List.getD_eq_getElem?_getD,List.getElem?_eq_getElem hiN] at e;simpa using e)
     have Hbad:Hid (lineOk (N.getD i default)=false->¬ N.all lineOk=true):=Lib.hid (fun e h=>by
      have:=List.all_eq_true.1 h _ (getD_mem hiN);rw[e] at this
      cases this)
     have Hsame:Hid ((N.getD i default).st≠1->ResN N i=ResN N (i+1)):=Lib.hid (resN_same hiN);have Hset:Hid (∀ p,p=resetL (N.getD i default)->(ResN N i).set i p=ResN N (i+1)):=Lib.hid (fun p=>resN_set hiN);have HRi:=Lib.hid (fun (V:World)=>rRight9_any (N.getD i default) HX.out.2.1 HX.out.2.2.2.2.2.2.2 V);have HXE:=Lib.hid hxe;generalize N.getD i default=x at c0 c1 c2 c3 c4 c5 c6 c7 Hall Hbad Hsame Hset HRi HXE HX;obtain⟨id,item,qty,asked,rank,st,day,code⟩:=x;unfold LineV.val encStr at HRi;simp only at HRi;have g0:wi.cell? ⟨go,i*8,none⟩=some (.int .i64 id):=c0;have g1:wi.cell? ⟨go,i*8+1,none⟩=some (.string ⟨item.toArray⟩):=c1;have g2:wi.cell? ⟨go,i*8+2,none⟩=some (.int .i64 qty):=c2;have g3:wi.cell? ⟨go,i*8+3,none⟩=some (.int .i64 asked):=c3;have g4:wi.cell? ⟨go,i*8+4,none⟩=some (.int .i64 rank):=c4;have g5:wi.cell? ⟨go,i*8+5,none⟩=some (.int .u8 st):=c5;have g6:wi.cell? ⟨go,i*8+6,none⟩=some (.int .i64 day):=c6;have g7:wi.cell? ⟨go,i*8+7,none⟩=some (.string ⟨code.toArray⟩):=c7;have HGi:=Lib.hid (Q1.out.below HBi.out |>.ge go rfl).2;have HAF:Hid (∀ V,Below wi.heap.size wi V->V.cell? ⟨go,i*8+5,none⟩=some (.int .u8 st)/\V.cell? ⟨go,i*8+6,none⟩=some (.int .i64 day)/\V.cell? ⟨go,i*8+7,none⟩=some (.string ⟨code.toArray⟩)):=Lib.hid (fun V hb=>⟨(hb.cell (p:=⟨go,i*8+5,none⟩) HGi.out).trans g5,(hb.cell (p:=⟨go,i*8+6,none⟩) HGi.out).trans g6,(hb.cell (p:=⟨go,i*8+7,none⟩) HGi.out).trans g7⟩);clear c0 c1 c2 c3 c4 c5 c6 c7 hxe HJ HC0 Q1 Q2 Q3 Q4
     cases hlo:lineOk ⟨id,item,qty,asked,rank,st,day,code⟩ with
     | false =>
      have E:Hid (Z=[]):=Lib.hid (by rw[HZ.out,allY_no (fun e=>Hbad.out hlo e.2.2)]);rw[hlo] at HRi;clear hlo;go_wp2_with ((go_at_call 39;refine (HRi.out _).mono ?_;rintro e wB ⟨rfl,hbB⟩;have BB:=Lib.hid hbB;clear hbB));go_ret;rw[E.out];exact⟨⟨_,_,rfl,El.Own.nil _ _ _⟩,HB0.out.trans ((HKP.out _ (K1.out.below BB.out)).mono HB0.out.size)⟩
     | true =>
      have HA2:=Lib.hid (Hall.out hlo);rw[hlo] at HRi;clear hlo;go_upto_region 14 with ((go_at_call 39;refine (HRi.out _).mono ?_;rintro e wB ⟨rfl,hbB⟩;have BB:=Lib.hid hbB;clear hbB));obtain⟨v5,v6,v7⟩:=HAF.out wB BB.out;have OB:=Lib.hid (O1.out.below BB.out);have KB:=Lib.hid (K1.out.below BB.out);clear g0 g1 g2 g3 g4 g5 g6 g7 HAF;by_cases hs:st=1
      ·subst hs;have F6:wB.frozen? ⟨go,i*8+6,none⟩=false:=own_frozenL OB.out _;have F7:wB.frozen? ⟨go,i*8+7,none⟩=false:=own_frozenL OB.out _;obtain⟨W2,hW2⟩:∃ V,V=(wB.setCell ⟨go,i*8+6,none⟩ (.int .i64 (-1))).setCell ⟨go,i*8+7,none⟩ (.string ⟨#[]⟩):=⟨_,rfl⟩
       have O2:Hid (lineE.Own W0.heap.size W2 (.slice (some ⟨go,0,none⟩) n3 co) (ResN N (i+1))):=Lib.hid (by rw[hW2,<- Hset.out ⟨id,item,qty,asked,rank,1,-1,[]⟩ (by unfold resetL;rw[if_pos rfl])];exact own_reset OB.out hlt HXE.out);have K2:Hid (Kp2 go go wC W2):=Lib.hid (by rw[hW2];exact (KB.out.set (.inl rfl) _ _).set (.inl rfl) _ _);go_upto_region 6 with (fail);rw[<- hW2];clear hW2 v5 v6 v7 F6 F7;go_wp2_with (fail);go_roundw
       case rel=>exact⟨i+1,by go_num,by omega,Lib.hid ⟨O2.out,K2.out,HU.out,HA2.out⟩⟩
       case measure=>simp[intOf];omega
      ·have O2:Hid (lineE.Own W0.heap.size wB (.slice (some ⟨go,0,none⟩) n3 co) (ResN N (i+1))):=Lib.hid (by rw[<- Hsame.out hs];exact OB.out);clear v6 v7;go_wp2_with (fail);go_roundw
       case rel=>exact⟨i+1,by go_num,by omega,Lib.hid ⟨O2.out,KB.out,HU.out,HA2.out⟩⟩
       case measure=>simp[intOf];omega
  ·obtain⟨q1,q2,q3,q4⟩:=HI.out;have hin:i=N.length:=by rw[HlN.out];omega
   rw[hin,resN_full] at q1;rw[hin,List.take_length] at q3 q4;have hZ2:Z=allG (partsO X) (rowX X) lineOk L now (openX (N.map resetL)) (N.map resetL):=by
    rw[HZ.out];unfold allY;rw[if_pos ⟨HNW.out,by unfold idsN;exact decide_eq_true q3,q4⟩]
   have hBo:=HKP.out wo q2;have hAo:=HAt.out wo hBo;have hBw:=HB0.out.trans (hBo.mono HB0.out.size);have HX:=Lib.hid (rall_tail B w.heap.size now nl nx a1 n1 c1 X a2 n2 c2 L a3 c3 ao n3 co N (N.map resetL) w wo (fun e w'=>AlP w Z e w') hAo.2.2.1 hB hBw hAo.1 (Nat.lt_of_lt_of_le l0 hBo.size) (q1.mono HB0.out.size) (fun x hx=>by obtain⟨y,hy,rfl⟩:=List.mem_map.1 hx;exact reset_fine (HNF.out y hy)) (fun g e=>by have h5:=(q1.ge g (by rw[e];rfl)).1;omega) (reset_nodup q3) h1 h2 h3 Z hZ2 (fun w' ho hz hb=>⟨⟨ao,co,by rw[hz],by rw[hz];exact ho⟩,hb⟩));have hge:¬ (i:Int)<(n3:Int):=by omega
   clear q1 q2 q3 q4 HI hin hZ2 hBo hAo hBw;go_upto_region 5 with (fail)
   iterate 22 go_step
   exact HX.out _ _ _ _ _ _ _ _ _ _ _ _ _ _ _ _ _ _ _ _ _ _ _ _ _ _ _ _ _ _ _ _ _ _ _ _ _ _ _ _ _ _ _ _ _ _ _ _ _ _ _ _ _ _ _ _ _ _ _ _ _ _ _ _ _ _ _ _ _ _ _ _ _ _ _ _ _ _ _ _ _ _ _ _ _ _ _ _ _ _ _ _ _ _ _ _ _ _ _ 
end Go.Proofs.YtgplnekpgdhcpaaGreat
