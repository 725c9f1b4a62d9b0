/-  -/
import Derived.Test.YtgplnekpgdhcpaaGreatKRefEnd
import Derived.Test.YtgplnekpgdhcpaaGreatKRefDeep
import Derived.Test.YtgplnekpgdhcpaaGreatQLineOk
import Derived.Test.YtgplnekpgdhcpaaGreatQPromO
import Derived.Test.YtgplnekpgdhcpaaGreatQWantsN
namespace Go.Proofs.YtgplnekpgdhcpaaGreat
section
open Go.RowKit
theorem fI_out {X:List It} {c:List UInt8} (h:c ∉ codes X):fI X c=-1:=fI_none fun _j hj e=>h (List.mem_map.2 ⟨_,getD_mem hj,e⟩)
set_option maxHeartbeats 4000000 in
set_option maxRecDepth 100000 in
theorem rParts_any (B:Nat) (a:Option Addr) (n cp:Nat) (X:List It) (c:List UInt8) (q:Int) (w:World) (hr:RI B w a n cp X) (hB:B<=w.heap.size) (hc:c.length<=9223372036854775807) :
  Calls Tryz.prog 41 #[.slice a n cp,.string ⟨c.toArray⟩,.int .i64 q] w fun e w'=>Below w.heap.size w w'/\∃ v,e=.returned (.tuple #[v,.int .i64 (partsE X c q)])/\(partsE X c q≠0->v=.slice none 0 0)/\(partsE X c q=0->∃ a c' S,v=.slice a S.length c'/\endL X c q=some S/\PS X S/\OP w.heap.size w' v S):=by
 have HR:=Lib.hid hr;have HCK:=Lib.hid (rCheck_any B a n cp X w hr hB);have HFD:=Lib.hid (fun w' (hb:Below w.heap.size w w')=>Find_any B a n cp X c w' (hr.below (hb.mono hB)) (Nat.le_trans hB hb.size) hc);have HRT:=Lib.hid (fun w=>rRight_any q w);clear hr hc;go_enter Tryz.func41,Tryz.ntmps41;go_wp2_with (fail);go_at_call 71;refine HCK.out.mono ?_;rintro e w1 ⟨rfl,hb1⟩;have HB1:=Lib.hid hb1;clear hb1;by_cases h0:chkE X=0
 ·rw[h0];have H0:=Lib.hid h0;have HS:=Lib.hid (sound_of h0);clear h0;by_cases hq1:1<=q
  ·have q1:decide (q<1)=false:=decide_eq_false (by omega)
   cases hk:okA q with
   | false =>
    rw[hk] at HRT;have HE:Hid (partsE X c q=2):=Lib.hid (by unfold partsE;rw[if_neg (by simp[H0.out]),if_pos (by simp[hk])]);clear hk;go_wp2_with (first|(go_at_call 72;refine (HRT.out _).mono ?_;rintro e w9 ⟨rfl,rfl⟩));go_ret2;exact⟨HB1.out,_,by rw[HE.out];rfl,fun _=>rfl,fun h=>by rw[HE.out] at h;cases h⟩
   | true =>
    rw[hk] at HRT;have hkk:=okA_iff.1 hk;have HKK:=Lib.hid hk;clear hk;by_cases hcc:c∈codes X
    ·obtain⟨i,hi,hfi,hci⟩:=there hcc;have HFW:=Lib.hid (HFD.out w1 HB1.out);rw[hfi] at HFW;have HEN:=Lib.hid (rEnd_any B a n cp X HS.out 8 c q w1 _ (HR.out.below (HB1.out.mono hB)) (Nat.le_trans hB HB1.out.size) hcc (HS.out.hgt8 hcc) hq1 (by unfold mostA;omega));rw[<- end_leaves HS.out hcc hq1 (by unfold mostA;omega),hfi] at HEN;have HCC:=Lib.hid hcc;have i0:decide ((i:Int)<0)=false:=decide_eq_false (by omega);clear hi hfi hci hcc hkk;go_wp2_with (first|(go_at_call 72;refine (HRT.out _).mono ?_;rintro e w9 ⟨rfl,rfl⟩)|(go_at_call 70;refine HFW.out.mono ?_;rintro e w9 ⟨rfl,rfl⟩));go_at_call 73;refine HEN.out.mono ?_;rintro e w3 ⟨hb3,hpost⟩;have HB3:=Lib.hid (HB1.out.trans (hb3.mono HB1.out.size))
     cases hU:endL X c q with
     | none =>
      rw[hU] at hpost;obtain rfl:=hpost;have HE:Hid (partsE X c q=3):=Lib.hid (by unfold partsE;rw[if_neg (by simp[H0.out]),if_neg (by simp[hq1,HKK.out]),if_neg (by simp[HCC.out]),hU]);clear hU hb3 HEN;go_wp2_with (fail);go_ret2;exact⟨HB3.out,_,by rw[HE.out];rfl,fun _=>rfl,fun h=>by rw[HE.out] at h;cases h⟩
     | some S =>
      rw[hU] at hpost;obtain⟨a3,c3,rfl,hop⟩:=hpost;have HE:Hid (partsE X c q=0):=Lib.hid (by unfold partsE;rw[if_neg (by simp[H0.out]),if_neg (by simp[hq1,HKK.out]),if_neg (by simp[HCC.out]),hU]);have hps:PS X S:=by
       have hl:=hU;rw[end_leaves HS.out HCC.out hq1 (by have:=okA_iff.1 HKK.out;unfold mostA;omega)] at hl;refine ps_of HS.out (joinL_up Up.nil hl) fun p hp=>?_
       exact (end_mem HS.out HCC.out hq1 (by have:=okA_iff.1 HKK.out;unfold mostA;omega) hU p hp).2.1
      have HPS:=Lib.hid hps;have HOP:=Lib.hid (hop.mono HB1.out.size);have HU:=Lib.hid hU;clear hU hb3 HEN hop hps;go_wp2_with (fail);go_ret2;exact⟨HB3.out,_,by rw[HE.out];rfl,fun h=>absurd HE.out h,fun _=>⟨a3,c3,S,rfl,HU.out,HPS.out,HOP.out⟩⟩
    ·have HFW:=Lib.hid (HFD.out w1 HB1.out);rw[fI_out hcc] at HFW;have HE:Hid (partsE X c q=150):=Lib.hid (by unfold partsE;rw[if_neg (by simp[H0.out]),if_neg (by simp[hq1,HKK.out]),if_pos hcc]);clear hcc;go_wp2_with (first|(go_at_call 72;refine (HRT.out _).mono ?_;rintro e w9 ⟨rfl,rfl⟩)|(go_at_call 70;refine HFW.out.mono ?_;rintro e w9 ⟨rfl,rfl⟩));go_ret2;exact⟨HB1.out,_,by rw[HE.out];rfl,fun _=>rfl,fun h=>by rw[HE.out] at h;cases h⟩
  ·have q1:decide (q<1)=true:=decide_eq_true (by omega);have HE:Hid (partsE X c q=2):=Lib.hid (by unfold partsE;rw[if_neg (by simp[H0.out]),if_pos (by simp[hq1])]);clear hq1;go_wp2_with (fail);go_ret2;exact⟨HB1.out,_,by rw[HE.out];rfl,fun _=>rfl,fun h=>by rw[HE.out] at h;cases h⟩
 ·have HE:Hid (partsE X c q=chkE X):=Lib.hid (by unfold partsE;rw[if_pos h0]);obtain⟨r,hr⟩:∃ r,r=chkE X:=⟨_,rfl⟩
  rw[<- hr] at h0 HE ⊢;have e1:(r != 0)=true:=by simpa using h0
  have H0:=Lib.hid h0;clear h0 hr;go_wp2_with (fail);go_ret2;exact⟨HB1.out,_,by rw[HE.out];rfl,fun _=>rfl,fun h=>absurd (by rw[<- HE.out];exact h) H0.out⟩
end
section
open Go.RowKit Go.Sort Go.Lib Go.Shelf
theorem want_grown {base:Nat} {w w':World} {v:Value} {X:List WantV} (h:wantE.Own base w v X) (hg:w.grownBy w' v.ownBlock) {q:Nat} {cs:Array Value} {ty:TypeId} (hq:w.heap[q]? = some (.cells cs ty (0,0))) (ht:ty≠71):w'.heap[q]? = some (.cells cs ty (0,0)):=by
 refine (hg.block q (Array.getElem?_eq_some_iff.1 hq).1 (fun e=>?_)).trans hq;obtain⟨cur,hc⟩:=Tx.row_is h e.symm;rw[hq] at hc;injection hc with hc
 injection hc with h1 h2 h3
 exact ht h2
theorem want_grown_op {base b2:Nat} {w w':World} {v u:Value} {X:List WantV} {S:List Pt} (h:wantE.Own base w v X) (hg:w.grownBy w' v.ownBlock) (ho:OP b2 w u S):OP b2 w' u S:=by
 refine ho.keep fun b e=>?_
 obtain⟨cur,hc⟩:=Tx.row_is ho e;rw[hc];exact want_grown h hg hc (by decide)
set_option maxHeartbeats 8000000 in
set_option maxRecDepth 100000 in
theorem rWants_any (B:Nat) (a:Option Addr) (n cp:Nat) (X:List It) (a3:Option Addr) (n3 c3:Nat) (N:List LineV) (w:World) (hr:RI B w a n cp X) (hN:lineE.In B w a3 n3 c3 N) (hB:B<=w.heap.size) (hn:X.length<=5000) (hn3:N.length<=5000) :
  Calls Tryz.prog 15 #[.slice a n cp,.slice a3 n3 c3] w fun e w'=>WnP w (wantsN (partsO X) N) e w'/\(wantsN (partsO X) N).length<=N.length*X.length/\∀ x∈wantsN (partsO X) N,okWant x:=by
 have HX:=Lib.hid hr;have HN:=Lib.hid hN;have hle:=hN.le;have hmx:=hN.mx;have Hln:=Lib.hid hN.len;have HM:=Lib.hid hn;have HM3:=Lib.hid hn3;have HXC:=Lib.hid (fun x hx=>(hr.ok x hx).code);generalize hV:wantsN (partsO X) N=V;have HV:=Lib.hid hV;clear hr hN hn hn3 hV;go_enter Tryz.func15,Tryz.ntmps15;go_wp2_with (fail);go_loopw [5,6] (fun s5 s6 wr=>∃ (j:Nat) (va:Option Addr) (vn vc:Nat),s5=.slice va vn vc/\s6=.int .i64 j/\j<=n3/\Hid (vn=(wantsN (partsO X) (N.take j)).length)/\Hid (wantE.Own w.heap.size wr (.slice va vn vc) (wantsN (partsO X) (N.take j))/\(wantsN (partsO X) (N.take j)).length<=j*X.length/\∀ x∈wantsN (partsO X) (N.take j),okWant x)/\Hid (Below w.heap.size w wr)) (fun _ s6 _=>n3-(intOf s6).toNat)
 case atStart=>exact⟨0,none,0,0,rfl,rfl,Nat.zero_le _,Lib.hid rfl,Lib.hid ⟨El.Own.nil _ _ _,Nat.zero_le _,fun x hx=>(by cases hx)⟩,Lib.hid (Below.refl _ _)⟩
 case round =>
  obtain⟨j,va,vn,vc,rfl,rfl,hj,HL,HO,Hb⟩:=hrel;obtain⟨wo,rfl⟩:∃ z,z=wr:=⟨_,rfl⟩
  by_cases hlt:j<n3
  ·obtain⟨b,o,rfl,hbB,hc⟩:=lineE_at (HN.out.below (Hb.out.mono hB)) (by omega);obtain⟨g0,g1,g2,g3,g4,g5,g6,g7⟩:=hc j hlt;have hok:=HN.out.ok_at hlt;have Hsucc:=Lib.hid (wantsN_succ (p:=partsO X) (N:=N) (j:=j) (by have:=Hln.out;omega));clear hc;generalize N.getD j default=l at g0 g1 g2 g3 g4 g5 g6 g7 hok Hsucc;obtain⟨id,item,qty,asked,rank,st,day,code⟩:=l;simp only at g0 g1 g2 g3 g4 g5 g6 g7 hok;simp only[encStr] at g1 g7;obtain⟨W1,hW1⟩:∃ V,V=wo.alloc (lineObj id item qty asked rank st day code):=⟨_,rfl⟩
   have hb1:Below wo.heap.size wo W1:=by rw[hW1];exact below_allocL _ _
   have hk1:W1.heap[wo.heap.size]? = some (lineObj id item qty asked rank st day code):=by rw[hW1];exact heap_alloc_new _ _
   have hl1:wo.heap.size<W1.heap.size:=(Array.getElem?_eq_some_iff.1 hk1).1;have hB1:=Hb.out.trans (hb1.mono Hb.out.size);obtain⟨o1,o2,o3,o4,o5,o6,o7,o8⟩:=hok;simp only at o3 o7 o8;have HP:=Lib.hid (rParts_any B a n cp X code qty W1 (HX.out.below (hB1.mono hB)) (Nat.le_trans hB hB1.size) o8);have HK:=Lib.hid (fun (V:World) (hb:Below W1.heap.size W1 V)=>lineObj_cells ((hb.block wo.heap.size hl1).trans hk1));obtain⟨k0,k1,k2,k3,k4,k5,k6,k7⟩:=HK.out W1 (Below.refl _ _);have HB1:=Lib.hid hB1;have HO1:=Lib.hid (HO.out.1.below hb1);have HF:=Lib.hid HO.out.2;have HW1:=Lib.hid hW1;have HD:=Lib.hid o7;unfold lineObj at HW1;clear hW1 hb1 hB1 o1 o2 o3 o4 o5 o6 o7 o8 HO Hb;generalize hQ:wantsN (partsO X) (N.take j)=Q at HL HO1 HF Hsucc;clear hQ;have HT:Hid (∀ k,k<=X.length->vn+k<=100000000):=Lib.hid (fun k hk=>by
    have h1:=HF.out.1;have h2:=HL.out;have h3:=HM.out;have h4:=HM3.out;have h5:=Hln.out;have h6:j*X.length<=5000*5000:=Nat.mul_le_mul (by omega) (by omega);omega)
   by_cases hs:st=1
   ·subst hs;by_cases hd:day<0
    ·have HS2:Hid (wantsN (partsO X) (N.take (j+1))=Q):=Lib.hid (by rw[Hsucc.out,wants_shut (fun h=>by have:=h.2;simp only at this;omega),List.append_nil]);go_upto_region 6 with (fail);rw[<- HW1.out];go_wp2_with (fail);go_roundw
     case rel=>exact⟨j+1,va,vn,vc,by first|rfl|trivial,by go_num,by omega,Lib.hid (by rw[HS2.out];exact HL.out),Lib.hid (by rw[HS2.out];exact⟨HO1.out,Nat.le_trans HF.out.1 (Nat.mul_le_mul_right _ (by omega)),HF.out.2⟩),HB1⟩
     case measure=>simp[intOf];omega
    ·go_upto_region 6 with (fail);rw[<- HW1.out];go_upto_region 8 with (go_at_call 41;refine HP.out.mono ?_;rintro e wP ⟨hbP,vP,rfl,hne,hoP⟩;have HBP:=Lib.hid hbP;have HNE:=Lib.hid hne;have HOP:=Lib.hid hoP;clear hbP hne hoP);have HBw:=Lib.hid (HB1.out.trans (HBP.out.mono HB1.out.size));have HOP1:=Lib.hid (HO1.out.below HBP.out);by_cases hE:partsE X code qty=0
     ·obtain⟨pa,pc,S,rfl,hend,hPS,hop⟩:=HOP.out hE;have hfn:=ps_fine hPS HXC.out;have HOPS:=Lib.hid hop;obtain⟨pa',pc',e9,hple,hpmx,-⟩:=Tx.rows_form hop;injection e9 with e7 e8 e9
      subst e7;subst e9;have HFN:=Lib.hid hfn;have HKL:=Lib.hid ((HBP.out.block wo.heap.size hl1).trans hk1);have HSX:Hid (S.length<=X.length):=Lib.hid hPS.len;have HS2:Hid (wantsN (partsO X) (N.take (j+1))=Q++moreW day S):=Lib.hid (by rw[Hsucc.out,wants_open (X:=X) (l:=⟨id,item,qty,asked,rank,1,day,code⟩) rfl (by simp only;omega) hE hend]);have HF2:Hid ((moreW day S).length=S.length/\∀ x∈moreW day S,okWant x):=Lib.hid ⟨by unfold moreW;rw[List.length_map],more_fine HD.out hfn⟩;have HSM:=Lib.hid (fun (k:Nat) (hk:k<S.length)=>moreW_succ' day hk);rw[hE];clear hE hop hPS hend HOP HNE k0 k1 k2 k3 k4 k5 k6 k7 hfn HP HO1 HB1;go_wp2_with (fail);go_loopw [5,10] (fun s5 s10 wr=>∃ (k:Nat) (ua:Option Addr) (un uc:Nat),s5=.slice ua un uc/\s10=.int .i64 k/\k<=S.length/\Hid (un=vn+k)/\Hid (wantE.Own w.heap.size wr (.slice ua un uc) (Q++moreW day (S.take k)))/\Hid (Below w.heap.size w wr)/\Hid (wr.heap[wo.heap.size]? = some (lineObj id item qty asked rank 1 day code)/\OP W1.heap.size wr (.slice pa S.length pc) S)) (fun _ s10 _=>S.length-(intOf s10).toNat)
      case atStart=>exact⟨0,va,vn,vc,rfl,rfl,Nat.zero_le _,Lib.hid rfl,Lib.hid (by simpa [moreW] using HOP1.out),HBw,Lib.hid ⟨HKL.out,HOPS.out⟩⟩
      case round =>
       obtain⟨k,ua,un,uc,rfl,rfl,hk,HUN,HUO,Hbk,HCK⟩:=hrel;obtain⟨wk,rfl⟩:∃ z,z=wr:=⟨_,rfl⟩
       by_cases hlk:k<S.length
       ·have c6:=(lineObj_cells HCK.out.1).2.2.2.2.2.2.1;obtain⟨pa2,pc2,e9,hrp⟩:=HCK.out.2.rp HFN.out;injection e9 with e7 e8 e9
        subst e7;subst e9;obtain⟨b2,o2,rfl,hbb,p0,p1⟩:=hrp.part hlk;have Hs:=Lib.hid (HSM.out k hlk);clear hrp;generalize S.getD k default=pt at p0 p1 Hs;obtain⟨pi,pq⟩:=pt;simp only at p0 p1 Hs;simp only[encStr] at p0;generalize moreW day (S.take k)=Q0 at HUO Hs;have d0:wk.drew.cell? ⟨b2,o2+k*2,none⟩=some (.string ⟨pi.toArray⟩):=p0;have d1:wk.drew.cell? ⟨b2,o2+k*2+1,none⟩=some (.int .i64 pq):=p1;have d2:wk.drew.cell? ⟨wo.heap.size,6,none⟩=some (.int .i64 day):=c6;have bA:Below wk.heap.size wk (wk.drew.alloc (.cells #[.string ⟨pi.toArray⟩,.int .i64 day,.int .i64 pq] 71)):=((Below.refl _ wk).drew).alloc (Nat.le_refl _) _;have hOA:Hid (wantE.Own w.heap.size (wk.drew.alloc (.cells #[.string ⟨pi.toArray⟩,.int .i64 day,.int .i64 pq] 71)) (.slice ua un uc) (Q++Q0)):=Lib.hid (HUO.out.below bA);have hBA:Hid (Below w.heap.size w (wk.drew.alloc (.cells #[.string ⟨pi.toArray⟩,.int .i64 day,.int .i64 pq] 71))):=Lib.hid (Hbk.out.trans (bA.mono Hbk.out.size));have HX1:Hid (un=(Q++Q0).length/\un<=100000000):=Lib.hid (by
         obtain⟨a9,c9,e9,-⟩:=HUO.out.form;injection e9 with e1 e2 e3
         have h1:=HT.out k (by have:=HSX.out;omega);have h2:=HUN.out;exact⟨e2,by omega⟩)
        have HKA:Hid ((wk.drew.alloc (.cells #[.string ⟨pi.toArray⟩,.int .i64 day,.int .i64 pq] 71)).heap[wo.heap.size]? = some (lineObj id item qty asked rank 1 day code)/\OP W1.heap.size (wk.drew.alloc (.cells #[.string ⟨pi.toArray⟩,.int .i64 day,.int .i64 pq] 71)) (.slice (some ⟨b2,o2,none⟩) S.length pc) S):=Lib.hid ⟨(bA.block _ (Array.getElem?_eq_some_iff.1 HCK.out.1).1).trans HCK.out.1,HCK.out.2.below bA⟩;clear bA;go_wp2_with (fail);go_region_law (first|(refine El.step_append1 wantE rfl _ _ rfl w.heap.size (.slice ua un uc) (Q++Q0) ⟨pi,day,pq⟩ (un+1) (by rw[<- HX1.out.1]) rfl hOA.out _ 1 rfl (wantE_lit _ ⟨pi,day,pq⟩ _) hBA.out.size (by have:=HX1.out;omega) ?_;intro g9 c9 w9 hown9 hg9 hgg9;have O9:Hid (wantE.Own w.heap.size w9 (.slice (some ⟨g9,0,none⟩) (un+1) c9) ((Q++Q0)++[⟨pi,day,pq⟩])):=Lib.hid hown9;have B9:=Lib.hid (hBA.out.grown hg9 hBA.out.size (fun k e=>(hOA.out.ge k e).1));have K9:Hid (w9.heap[wo.heap.size]? = some (lineObj id item qty asked rank 1 day code)/\OP W1.heap.size w9 (.slice (some ⟨b2,o2,none⟩) S.length pc) S):=Lib.hid ⟨want_grown hOA.out hg9 HKA.out.1 (by decide),want_grown_op hOA.out hg9 HKA.out.2⟩;clear hown9 hg9 hgg9))
        all_goals (
         clear d0 d1 d2;go_wp2_with (fail);go_roundw
         case rel=>exact⟨k+1,some ⟨g9,0,none⟩,un+1,c9,by go_num,by go_num,by omega,Lib.hid (by have:=HUN.out;omega),Lib.hid (by rw[Hs.out,<- List.append_assoc];exact O9.out),B9,K9⟩
         case measure=>simp[intOf];omega)
       ·have hks:S.length=k:=(by omega);have hO:=HUO.out;rw[List.take_of_length_le (by omega)] at hO;have HO9:=Lib.hid hO;have HU9:Hid (un=(Q++moreW day S).length):=Lib.hid (by rw[HUN.out,HL.out,List.length_append,HF2.out.1,hks]);clear hO hks HUO;go_wp2_with (fail);go_roundw
        case rel=>exact⟨j+1,ua,un,uc,by first|rfl|trivial,by go_num,by omega,Lib.hid (by rw[HS2.out];exact HU9.out),Lib.hid (by rw[HS2.out];exact⟨HO9.out,by rw[List.length_append,HF2.out.1,Nat.add_mul,Nat.one_mul];have:=HF.out.1;have:=HSX.out;omega,fun x hx=>(List.mem_append.1 hx).elim (HF.out.2 x) (HF2.out.2 x)⟩),Hbk⟩
        case measure=>simp[intOf];omega
     ·have hv:=HNE.out hE;subst hv;have HS2:Hid (wantsN (partsO X) (N.take (j+1))=Q):=Lib.hid (by rw[Hsucc.out,wants_bad (X:=X) (l:=⟨id,item,qty,asked,rank,1,day,code⟩) hE,List.append_nil]);clear HOP HNE;generalize partsE X code qty=er at hE;go_wp2_with (fail);go_loopw [5,10] (fun s5 s10 wr=>s5=.slice va vn vc/\s10=.int .i64 0/\wr=wP) (fun _ _ _=>0)
      case atStart=>exact⟨rfl,rfl,rfl⟩
      case round =>
       obtain⟨rfl,rfl,rfl⟩:=hrel;go_wp2_with (fail);go_roundw
       case rel=>exact⟨j+1,va,vn,vc,by first|rfl|trivial,by go_num,by omega,Lib.hid (by rw[HS2.out];exact HL.out),Lib.hid (by rw[HS2.out];exact⟨HOP1.out,Nat.le_trans HF.out.1 (Nat.mul_le_mul_right _ (by omega)),HF.out.2⟩),HBw⟩
       case measure=>simp[intOf];omega
   ·have HS2:Hid (wantsN (partsO X) (N.take (j+1))=Q):=Lib.hid (by rw[Hsucc.out,wants_shut (X:=X) (l:=⟨id,item,qty,asked,rank,st,day,code⟩) (fun h=>hs h.1),List.append_nil]);go_upto_region 6 with (fail);rw[<- HW1.out];go_wp2_with (fail);go_roundw
    case rel=>exact⟨j+1,va,vn,vc,by first|rfl|trivial,by go_num,by omega,Lib.hid (by rw[HS2.out];exact HL.out),Lib.hid (by rw[HS2.out];exact⟨HO1.out,Nat.le_trans HF.out.1 (Nat.mul_le_mul_right _ (by omega)),HF.out.2⟩),HB1⟩
    case measure=>simp[intOf];omega
  ·have ej:j=N.length:=by have:=Hln.out;omega
   have HE:=Lib.hid ej;clear ej;go_wp2_with (fail);go_ret;have h:=HO.out;have hl:=HL.out;rw[HE.out,List.take_length,HV.out] at h hl;refine⟨⟨⟨va,vc,by rw[hl];rfl,by rw[<- hl];exact h.1⟩,Hb.out⟩,h.2.1,h.2.2⟩
end
section
open Go.RowKit Go.Sort Go.Lib Go.Shelf
theorem rowX_at {X:List It} {c:List UInt8} {i:Nat} (hi:i<X.length) (hf:fI X c=(i:Int)) (hc:(X.getD i default).code=c):rowX X c=c::(X.getD i default).os:=by
 have hidx:X.findIdx (fun x=>decide (x.code=c))=i:=by
  unfold fI at hf;split at hf
  ·omega
  ·omega
 unfold rowX;have hlt:X.findIdx (fun x=>decide (x.code=c))<X.length:=by rw[hidx];exact hi
 have h1:X.find? (fun x=>decide (x.code=c))=some (X.getD i default):=by
  rw[List.find?_eq_some_iff_getElem];refine⟨decide_eq_true hc,i,hi,?_,fun j hj=>?_⟩
  ·rw[List.getD_eq_getElem?_getD,List.getElem?_eq_getElem hi];rfl
  ·have:=List.not_of_lt_findIdx (xs:=X) (p:=fun x=>decide (x.code=c)) (i:=j) (by rw[hidx];exact hj);simpa using this
 rw[h1]
theorem rowX_none {X:List It} {c:List UInt8} (hf:fI X c<0):rowX X c=[]:=by
 have:=fI_neg hf;unfold rowX;rw[List.find?_eq_none.2 (fun x hx=>by
  obtain⟨j,hj,rfl⟩:=List.getElem_of_mem hx;have:=this j hj;rw[List.getD_eq_getElem?_getD,List.getElem?_eq_getElem hj] at this;simpa using this)]
set_option maxHeartbeats 2000000 in
set_option maxRecDepth 100000 in
theorem rRow_any (B:Nat) (a:Option Addr) (n cp:Nat) (X:List It) (c:List UInt8) (w:World) (hr:RI B w a n cp X) (hB:B<=w.heap.size) (hc:c.length<=9223372036854775807) (hsz:∀ x∈X,x.os.length*16<=140737488355328) :
  Calls Tryz.prog 40 #[.slice a n cp,.string ⟨c.toArray⟩] w fun e w'=>(∃ a' c',e=.returned (.slice a' (rowX X c).length c')/\txE.Own w.heap.size w' (.slice a' (rowX X c).length c') (rowX X c))/\Below w.heap.size w w':=by
 have HF:=Lib.hid (Find_any B a n cp X c w hr hB hc);have hle:=hr.le;have hmx:=hr.mx;rcases Int.lt_or_le (fI X c) 0 with hneg|hpos
 ·have E:=Lib.hid (rowX_none hneg);generalize fI X c=q at HF hneg;clear hr;go_enter Tryz.func40,Tryz.ntmps40;go_wp2_with (go_at_call 70;refine HF.out.mono ?_;rintro e w1 ⟨rfl,hw1⟩;subst hw1);go_ret;rw[E.out];exact⟨⟨_,_,rfl,El.Own.nil _ _ _⟩,Below.refl _ _⟩
 ·have hex:∃ j,j<X.length/\(X.getD j default).code=c:=by
   unfold fI at hpos;split at hpos
   ·next h =>
    refine⟨_,h,?_⟩;have:=List.findIdx_getElem (w:=h);rw[List.getD_eq_getElem?_getD,List.getElem?_eq_getElem h];exact of_decide_eq_true this
   ·omega
  obtain⟨i,hi,hfi,hci⟩:=fI_there hex;have E:=Lib.hid (rowX_at hi hfi hci);rw[hfi] at HF;have hin:i<n:=by rw[hr.len];exact hi
  obtain⟨b,o,rfl,hbB,hok,c0,c1,c2,c3⟩:=hr.item hin;have hs:=hsz _ (getD_mem hi);generalize X.getD i default=x at E c0 c1 c2 c3 hok hs;have HT:=Lib.hid (RT.el hok.rt);have hb1:=Lib.hid ((Below.refl w.heap.size w).alloc (Nat.le_refl _) (.cells #[.string ⟨c.toArray⟩] 9));have k3:=(hb1.out.cell (p:=⟨b,o+i*4+3,none⟩) (by show b<_;omega)).trans c3;have hO:Hid (txE.Own w.heap.size (w.alloc (.cells #[.string ⟨c.toArray⟩] 9)) (.slice (some ⟨w.heap.size,0,none⟩) 1 1) [c]):=Lib.hid (El.Own.lit (E:=txE) w [c] _ rfl (Nat.le_refl _) (by simp));have HS:=Lib.hid hs;clear hr hpos hex hfi hci hi hok hs c0 c1 c2 c3;go_enter Tryz.func40,Tryz.ntmps40;go_wp2_with (first|(go_at_call 70;refine HF.out.mono ?_;rintro e w1 ⟨rfl,hw1⟩;subst hw1)|(at_builtin;refine wpList_append_tx rfl _ _ rfl w.heap.size (some ⟨w.heap.size,0,none⟩) 1 1 [c] x.os _ rfl rfl hO.out rfl _ _ rfl (HT.out.below (hb1.out.mono hB)).src hb1.out.size (by have:=HS.out;unfold txMax;omega) ?_;intro a3 c3 w3 ho3 hg3;have O3:=Lib.hid ho3;have B3:Hid (Below w.heap.size w w3):=Lib.hid (hb1.out.grown hg3 hb1.out.size (fun r e=>by cases e;exact Nat.le_refl _));clear ho3 hg3));go_ret;rw[E.out];have h:=O3.out;have el:(c::x.os).length=1+x.os.length:=by simp;omega
  rw[el];exact⟨⟨_,_,rfl,h⟩,B3.out⟩
theorem rCompare_any (a b:LineV) (w:World):Calls Tryz.prog 79 #[a.val,b.val] w fun e w'=>e=.returned (.int .i64 (cmpR a b))/\Below w.heap.size w w':=by
 obtain⟨i1,n1,q1,a1,r1,s1,d1,c1⟩:=a;obtain⟨i2,n2,q2,a2,r2,s2,d2,c2⟩:=b;generalize hC:cmpR ⟨i1,n1,q1,a1,r1,s1,d1,c1⟩ ⟨i2,n2,q2,a2,r2,s2,d2,c2⟩=C;have HC:=Lib.hid hC;clear hC;unfold LineV.val encStr;simp only;obtain⟨W1,hW1⟩:∃ V,V=w.alloc (lineObj i1 n1 q1 a1 r1 s1 d1 c1):=⟨_,rfl⟩
 obtain⟨W2,hW2⟩:∃ V,V=W1.alloc (lineObj i2 n2 q2 a2 r2 s2 d2 c2):=⟨_,rfl⟩
 have b1:Below w.heap.size w W1:=by rw[hW1];exact below_allocL _ _
 have sz1:W1.heap.size=w.heap.size+1:=by rw[hW1,World.size_alloc]
 have b2:Below W1.heap.size W1 W2:=by rw[hW2];exact below_allocL _ _
 have k1:W1.heap[w.heap.size]? = some (lineObj i1 n1 q1 a1 r1 s1 d1 c1):=by rw[hW1];exact heap_alloc_new _ _
 have k2:W2.heap[w.heap.size+1]? = some (lineObj i2 n2 q2 a2 r2 s2 d2 c2):=by rw[hW2,<- sz1];exact heap_alloc_new _ _
 obtain⟨x0,-,-,-,x4,-,-,-⟩:=lineObj_cells ((b2.block w.heap.size (by omega)).trans k1);obtain⟨y0,-,-,-,y4,-,-,-⟩:=lineObj_cells k2;have HB:=Lib.hid (b1.trans (b2.mono (by omega)));have HW:Hid ((w.alloc (lineObj i1 n1 q1 a1 r1 s1 d1 c1)).alloc (lineObj i2 n2 q2 a2 r2 s2 d2 c2)=W2):=Lib.hid (by rw[hW2,hW1]);unfold lineObj at HW;clear hW1 hW2 b1 b2 sz1 k1 k2;by_cases h1:r1<r2
 ·have E:=Lib.hid (show C=-1 by rw[<- HC.out];unfold cmpR orI cmpI;simp[h1]);go_enter Tryz.func79,Tryz.ntmps79;go_upto_region 1 with (fail);rw[HW.out];go_wp2_with (fail);go_ret;exact⟨by rw[E.out];rfl,HB.out⟩
 ·by_cases h2:r2<r1
  ·have E:=Lib.hid (show C=1 by rw[<- HC.out];unfold cmpR orI cmpI;simp[h1,h2]);go_enter Tryz.func79,Tryz.ntmps79;go_upto_region 1 with (fail);rw[HW.out];go_wp2_with (fail);go_ret;exact⟨by rw[E.out];rfl,HB.out⟩
  ·by_cases h3:i1<i2
   ·have E:=Lib.hid (show C=-1 by rw[<- HC.out];unfold cmpR orI cmpI;simp[h1,h2,h3]);go_enter Tryz.func79,Tryz.ntmps79;go_upto_region 1 with (fail);rw[HW.out];go_wp2_with (fail);go_ret;exact⟨by rw[E.out];rfl,HB.out⟩
   ·by_cases h4:i2<i1
    ·have E:=Lib.hid (show C=1 by rw[<- HC.out];unfold cmpR orI cmpI;simp[h1,h2,h3,h4]);go_enter Tryz.func79,Tryz.ntmps79;go_upto_region 1 with (fail);rw[HW.out];go_wp2_with (fail);go_ret;exact⟨by rw[E.out];rfl,HB.out⟩
    ·have E:=Lib.hid (show C=0 by rw[<- HC.out];unfold cmpR orI cmpI;simp[h1,h2,h3,h4]);go_enter Tryz.func79,Tryz.ntmps79;go_upto_region 1 with (fail);rw[HW.out];go_wp2_with (fail);go_ret;exact⟨by rw[E.out];rfl,HB.out⟩
theorem ins_sorted {O:List LineV} {x:LineV} {p:Nat} (hs:O.Pairwise fun a b=>leK a b=true) (hp:p<=O.length) (h1:∀ k,p<=k->k<O.length->cmpR x (O.getD k default)<0) (h2:p=0∨¬ cmpR x (O.getD (p-1) default)<0):(O.take p++[x]++O.drop p).Pairwise fun a b=>leK a b=true:=by
 have hx1:∀ k,p<=k->k<O.length->leK x (O.getD k default)=true:=fun k a b=>by
  have:=cmpR_lt.1 (h1 k a b);have ht:=leK_total x (O.getD k default);rw[this,Bool.or_false] at ht;exact ht
 have hx2:∀ a∈O.take p,leK a x=true:=fun a ha=>by
  rcases h2 with h2|h2
  ·subst h2;simp at ha
  ·obtain⟨k,hk,rfl⟩:=List.getElem_of_mem ha;rw[List.length_take] at hk;rw[List.getElem_take];have hlast:leK (O.getD (p-1) default) x=true:=by
    cases h:leK (O.getD (p-1) default) x with
    | true=>rfl
    | false=>exact absurd (cmpR_lt.2 h) h2
   rcases Nat.lt_or_ge k (p-1) with hlt|hge
   ·have h3:=List.pairwise_iff_getElem.1 hs k (p-1) (by omega) (by omega) hlt;have e:O.getD (p-1) default=O[p-1]'(by omega):=(by rw[List.getD_eq_getElem?_getD,List.getElem?_eq_getElem (by omega)];rfl);rw[e] at hlast;exact leK_trans _ _ _ h3 hlast
   ·have e:O.getD (p-1) default=O[k]'(by omega):=by
     rw[List.getD_eq_getElem?_getD,List.getElem?_eq_getElem (by omega)];simp only[Option.getD_some]
     congr 1
     omega
    rw[e] at hlast;exact hlast
 have hx3:∀ a∈O.drop p,leK x a=true:=fun a ha=>by
  obtain⟨k,hk,rfl⟩:=List.getElem_of_mem ha;rw[List.length_drop] at hk;rw[List.getElem_drop];have:=hx1 (p+k) (by omega) (by omega)
  rwa [List.getD_eq_getElem?_getD,List.getElem?_eq_getElem (by omega)] at this
 rw[List.pairwise_append];refine⟨?_,hs.sublist (List.drop_sublist _ _),fun a ha b hb=>?_⟩
 ·rw[List.pairwise_append];exact⟨hs.sublist (List.take_sublist _ _),List.pairwise_singleton _ _,fun a ha b hb=>by rw[List.mem_singleton.1 hb];exact hx2 a ha⟩
 ·rcases List.mem_append.1 ha with ha|ha
  ·exact leK_trans _ _ _ (hx2 a ha) (hx3 b hb)
  ·rw[List.mem_singleton.1 ha];exact hx3 b hb
theorem ins_perm {O F:List LineV} {x:LineV} {p:Nat} (h:O.Perm F):(O.take p++[x]++O.drop p).Perm (F++[x]):=by
 have:(O.take p++[x]++O.drop p).Perm (O.take p++O.drop p++[x]):=by
  rw[List.append_assoc,List.append_assoc];exact List.Perm.append_left _ List.perm_append_comm
 rw[List.take_append_drop] at this;exact this.trans (h.append_right _)
end
end Go.Proofs.YtgplnekpgdhcpaaGreat
