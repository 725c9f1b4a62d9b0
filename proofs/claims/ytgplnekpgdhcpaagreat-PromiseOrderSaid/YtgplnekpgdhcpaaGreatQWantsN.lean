/- promise.now, promise.wants: walks. promise.Wants: its walk. -/
import Derived.Test.YtgplnekpgdhcpaaGreatQDelB
import Derived.Test.YtgplnekpgdhcpaaGreatQPick
namespace Go.Proofs.YtgplnekpgdhcpaaGreat
open Go.RowKit Go.Sort Go.Lib Go.Shelf
theorem moreW_succ' (d:Int) {P:List Pt} {j:Nat} (hj:j < P.length):moreW d (P.take (j+1))=moreW d (P.take j) ++ [⟨(P.getD j default).1,d,(P.getD j default).2⟩]:=by
 unfold moreW
 rw[List.take_succ_eq_append_getElem hj,List.map_append,List.getD_eq_getElem?_getD,List.getElem?_eq_getElem hj]
 rfl
def WnP (w:World) (V:List WantV) (e:Ending) (w':World):Prop:=(∃ a' c',e = .returned (.slice a' V.length c')/\wantE.Own w.heap.size w' (.slice a' V.length c') V)/\Below w.heap.size w w'
set_option maxHeartbeats 4000000 in
set_option maxRecDepth 100000 in
theorem wants_any (B:Nat) (a:Option Addr) (n cp:Nat) (X:List It) (l:LineV) (w:World) (hr:RI B w a n cp X) (hB:B<=w.heap.size) (hl:okLine l) (hn:X.length<=100000000) :
  Calls Tryz.prog 43 #[.slice a n cp,l.val] w fun e w'=>WnP w (wantsL (partsO X) l) e w'/\(wantsL (partsO X) l).length<=X.length/\∀ x∈wantsL (partsO X) l,okWant x:=by
 have HX:=Lib.hid (fun x hx=>(hr.ok x hx).code)
 have HN:=Lib.hid hn
 obtain⟨id,item,qty,asked,rank,st,day,code⟩:=l
 obtain⟨W1,hW1⟩:∃ V,V=w.alloc (lineObj id item qty asked rank st day code):=⟨_,rfl⟩
 have hb1:Below w.heap.size w W1:=by rw[hW1];exact below_allocL _ _
 have hk1:W1.heap[w.heap.size]? = some (lineObj id item qty asked rank st day code):=by rw[hW1];exact heap_alloc_new _ _
 have hl1:w.heap.size < W1.heap.size:=(Array.getElem?_eq_some_iff.1 hk1).1
 obtain⟨o1,o2,o3,o4,o5,o6,o7,o8⟩:=hl
 have HP:=Lib.hid (Parts_any B a n cp X code qty W1 (hr.below (hb1.mono hB)) (Nat.le_trans hB hb1.size) o8 o3.1 o3.2)
 have HW1:=Lib.hid hW1
 have HB1:=Lib.hid hb1
 have HK:=Lib.hid (fun (V:World) (hb:Below W1.heap.size W1 V)=>lineObj_cells ((hb.block w.heap.size hl1).trans hk1))
 have HD:=Lib.hid o7
 obtain⟨k0,k1,k2,k3,k4,k5,k6,k7⟩:=HK.out W1 (Below.refl _ _)
 have HL1:=Lib.hid hl1
 clear hr hB hn hW1 hb1 hk1 o1 o2 o3 o4 o5 o6 o8 hl1
 generalize hV:wantsL (partsO X) ⟨id,item,qty,asked,rank,st,day,code⟩=V
 have HV:=Lib.hid hV
 clear hV
 unfold lineObj at HW1
 unfold LineV.val encStr
 simp only
 by_cases hs:st=1
 ·subst hs
  by_cases hd:day < 0
  ·have E:=Lib.hid (wants_shut (X:=X) (l:=⟨id,item,qty,asked,rank,1,day,code⟩) (fun h=>by have:=h.2;simp only at this;omega))
   go_enter Tryz.func43,Tryz.ntmps43
   go_upto_region 1 with (fail)
   rw[<- HW1.out]
   go_wp2_with (fail)
   go_ret
   unfold WnP
   rw[<- HV.out,E.out]
   exact⟨⟨⟨_,_,rfl,El.Own.nil _ _ _⟩,HB1.out⟩,Nat.zero_le _,fun x hx=>(by cases hx)⟩
  ·go_enter Tryz.func43,Tryz.ntmps43
   go_upto_region 1 with (fail)
   rw[<- HW1.out]
   go_upto_region 4 with (go_at_call 67;refine HP.out.mono ?_;rintro e wP ⟨hbP,vP,rfl,hne,hoP⟩;have HBP:=Lib.hid hbP;have HNE:=Lib.hid hne;have HOP:=Lib.hid hoP;clear hbP hne hoP)
   by_cases hE:partsE X code qty=0
   ·obtain⟨pa,pc,S,rfl,hend,hPS,hop⟩:=HOP.out hE
    have hfn:=ps_fine hPS HX.out
    obtain⟨pa',pc',e9,hrp⟩:=hop.rp hfn
    injection e9 with e7 e8 e9
    subst e7;subst e9
    have HRP:=Lib.hid hrp
    have hple:=hrp.le;have hpmx:=hrp.mx
    have HSL:Hid (S.length<=100000000):=Lib.hid (by have e1:=hPS.len;have e2:=HN.out;omega)
    have HF2:Hid ((moreW day S).length=S.length/\S.length<=X.length/\∀ x∈moreW day S,okWant x):=Lib.hid ⟨by unfold moreW;rw[List.length_map],hPS.len,more_fine HD.out hfn⟩
    have E:=Lib.hid (wants_open (X:=X) (l:=⟨id,item,qty,asked,rank,1,day,code⟩) rfl (by simp only;omega) hE hend)
    have HKP:=Lib.hid (fun (V:World) (hb:Below wP.heap.size wP V)=>HK.out V (HBP.out.trans (hb.mono HBP.out.size)))
    rw[hE]
    clear hE hop hrp hPS hend HOP HNE k0 k1 k2 k3 k4 k5 k6 k7
    go_wp2_with (fail)
    go_loopw [7,31] (fun s7 s31 wr=>∃ (j:Nat) (va:Option Addr) (vn vc:Nat),s7 = .slice va vn vc/\s31 = .int .i64 j/\j<=S.length/\Hid (wantE.Own wP.heap.size wr (.slice va vn vc) (moreW day (S.take j)))/\Hid (Below wP.heap.size wP wr)) (fun _ s31 _=>S.length - (intOf s31).toNat)
    case atStart=>exact⟨0,none,0,0,rfl,rfl,Nat.zero_le _,Lib.hid (El.Own.nil _ _ _),Lib.hid (Below.refl _ _)⟩
    case round =>
     obtain⟨j,va,vn,vc,rfl,rfl,hj,HO,Hb⟩:=hrel
     by_cases hlt:j < S.length
     ·obtain⟨b,o,rfl,hbb,g0,g1⟩:=(HRP.out.below Hb.out).part hlt
      have Hsucc:=Lib.hid (moreW_succ' day hlt)
      generalize S.getD j default=pt at g0 g1 Hsucc
      obtain⟨pi,pq⟩:=pt
      simp only at g0 g1 Hsucc
      simp only[encStr] at g0
      obtain⟨W3,hW3⟩:∃ V,V=wr.alloc (.cells #[.string ⟨pi.toArray⟩,.int .i64 pq] 74):=⟨_,rfl⟩
      have bW3:Hid (Below wr.heap.size wr W3):=Lib.hid (by rw[hW3];exact below_allocL _ _)
      have z0:W3.cell? ⟨wr.heap.size,0,none⟩=some (.string ⟨pi.toArray⟩):=by rw[hW3];simp
      have z1:W3.cell? ⟨wr.heap.size,1,none⟩=some (.int .i64 pq):=by rw[hW3];simp
      obtain⟨-,-,-,-,-,-,z2,-⟩:=HKP.out W3 (Hb.out.trans (bW3.out.mono Hb.out.size))
      have HW3:=Lib.hid hW3
      have hB3:=Lib.hid (Hb.out.trans (bW3.out.mono Hb.out.size))
      have hOA:Hid (wantE.Own wP.heap.size (W3.alloc (.cells #[.string ⟨pi.toArray⟩,.int .i64 day,.int .i64 pq] 71)) (.slice va vn vc) (moreW day (S.take j))):=Lib.hid ((HO.out.below bW3.out).below (below_allocL _ _))
      have hBA:Hid (Below wP.heap.size wP (W3.alloc (.cells #[.string ⟨pi.toArray⟩,.int .i64 day,.int .i64 pq] 71))):=Lib.hid (hB3.out.trans ((below_allocL _ _).mono hB3.out.size))
      have hVN:Hid (vn=(moreW day (S.take j)).length/\vn<=100000000):=Lib.hid (by
       obtain⟨a9,c9,e9,-⟩:=HO.out.form
       injection e9 with e1 e2 e3
       refine⟨e2,?_⟩
       rw[e2]
       unfold moreW
       rw[List.length_map,List.length_take]
       have:=HSL.out
       omega)
      clear hW3
      go_upto_region 10 with (fail)
      rw[<- HW3.out]
      go_wp2_with (at_builtin;refine El.wpList_append1 wantE rfl _ _ rfl wP.heap.size (.slice va vn vc) (moreW day (S.take j)) ⟨pi,day,pq⟩ (vn+1) (by rw[<- hVN.out.1]) rfl hOA.out _ 1 rfl (wantE_lit _ ⟨pi,day,pq⟩ _) hBA.out.size (by have:=hVN.out;omega) ?_;intro g9 c9 w9 hown9 hg9 hgg9;have O9:Hid (wantE.Own wP.heap.size w9 (.slice (some ⟨g9,0,none⟩) (vn+1) c9) (moreW day (S.take (j+1)))):=Lib.hid (by rw[Hsucc.out];exact hown9);have B9:=Lib.hid (hBA.out.grown hg9 hBA.out.size (fun k e=>(hOA.out.ge k e).1));clear hown9 hg9 hgg9)
      go_roundw
      case rel=>exact⟨j+1,some ⟨g9,0,none⟩,vn+1,c9,by go_num,by go_num,by omega,O9,B9⟩
      case measure=>simp[intOf];omega
     ·have hjs:S.length=j:=by omega
      have hO:=HO.out
      rw[List.take_of_length_le (by omega)] at hO
      have HO2:=Lib.hid hO
      have hge:¬ (j:Int) < (S.length:Int):=by omega
      have HVN:Hid (vn=(moreW day S).length):=Lib.hid (by
       obtain⟨a9,c9,e9,-⟩:=hO.form
       injection e9 with e1 e2 e3)
      clear hO hjs HO
      go_wp2_with (fail)
      go_ret
      unfold WnP
      rw[<- HV.out,E.out]
      simp only
      have h:=HO2.out
      rw[HVN.out] at h ⊢
      exact⟨⟨⟨_,_,rfl,h.mono (Nat.le_trans HB1.out.size HBP.out.size)⟩,HB1.out.trans ((HBP.out.trans (Hb.out.mono HBP.out.size)).mono HB1.out.size)⟩,by rw[HF2.out.1];exact HF2.out.2.1,HF2.out.2.2⟩
   ·have hv:=HNE.out hE
    subst hv
    have E:=Lib.hid (wants_bad (X:=X) (l:=⟨id,item,qty,asked,rank,1,day,code⟩) hE)
    clear HOP HNE
    generalize partsE X code qty=er at hE
    go_wp2_with (fail)
    go_ret
    unfold WnP
    rw[<- HV.out,E.out]
    exact⟨⟨⟨_,_,rfl,El.Own.nil _ _ _⟩,HB1.out.trans (HBP.out.mono HB1.out.size)⟩,Nat.zero_le _,fun x hx=>(by cases hx)⟩
 ·have E:=Lib.hid (wants_shut (X:=X) (l:=⟨id,item,qty,asked,rank,st,day,code⟩) (fun h=>hs h.1))
  go_enter Tryz.func43,Tryz.ntmps43
  go_upto_region 1 with (fail)
  rw[<- HW1.out]
  go_wp2_with (fail)
  go_ret
  unfold WnP
  rw[<- HV.out,E.out]
  exact⟨⟨⟨_,_,rfl,El.Own.nil _ _ _⟩,HB1.out⟩,Nat.zero_le _,fun x hx=>(by cases hx)⟩
theorem now_any (now nl nx:Int) (v1 v2 v3:Value) (w:World):Calls Tryz.prog 34 #[.agg #[.int .i64 now,.int .i64 nl,.int .i64 nx,v1,v2,v3]] w fun e w'=>e = .returned (.bool (nowOk now))/\Below w.heap.size w w':=by
 have HB:=Lib.hid (fun o=>below_allocL w o)
 by_cases h1:0<=now
 ·by_cases h2:now<=4000
  ·have E:=Lib.hid (show nowOk now=true by unfold nowOk;simp[h1,h2])
   go_enter Tryz.func34,Tryz.ntmps34
   go_wp2_with (fail)
   go_ret
   exact⟨by rw[E.out];first | rfl | simp,HB.out _⟩
  ·have E:=Lib.hid (show nowOk now=false by unfold nowOk;simp[h2])
   go_enter Tryz.func34,Tryz.ntmps34
   go_wp2_with (fail)
   go_ret
   exact⟨by rw[E.out];first | rfl | simp,HB.out _⟩
 ·have E:=Lib.hid (show nowOk now=false by unfold nowOk;simp[h1])
  go_enter Tryz.func34,Tryz.ntmps34
  go_wp2_with (fail)
  go_ret
  exact⟨by rw[E.out];first | rfl | simp,HB.out _⟩
end Go.Proofs.YtgplnekpgdhcpaaGreat
namespace Go.Proofs.YtgplnekpgdhcpaaGreat
open Go.RowKit Go.Sort Go.Lib Go.Shelf
theorem wpList_appendN {α:Type} [Inhabited α] {w:World} {ops:Array Oper} {rest:List Oper} {o:Oper} {a:Act} {K:Exit->Act->World->Prop} (E:El α) (hgd:o.guard=none) (s x:Operand)
  (ho:o.op = .call { callee:=.builtin .append,args:=#[s,x],argTypes:=#[E.t,E.t] }) (base:Nat) (va:Option Addr) (vn vc:Nat) (X Y:List α) (k:Nat) (hk:k=Y.length) (hn:vn=X.length) (hs:a.eval s = .slice va vn vc) (h:E.Own base w (.slice va vn vc) X) (sa:Option Addr) (c:Nat)
  (hx:a.eval x = .slice sa k c) (hsrc:0 < Y.length->∃ ad,sa=some ad/\∀ j u,(E.cells Y)[j]? = some u->w.cell? (ad.add j)=some u) (hbase:base<=w.heap.size) (hl:vn+k<=1000000000)
  (hK:∀ a' c' w',E.Own base w' (.slice a' (vn+k) c') (X ++ Y)->Below base w w'->wpList Tryz.prog ops K rest (a.put o.dst (.slice a' (vn+k) c')) w'):wpList Tryz.prog ops K (o :: rest) a w:=by
 subst hk
 subst hn
 by_cases h0:Y.length=0
 ·obtain rfl:Y=[]:=List.eq_nil_of_length_eq_zero h0
  obtain⟨i0,hi,-⟩:=E.info'
  have hle:X.length<=vc:=by
   obtain⟨a1,c1,e1,h1,-⟩:=h.form
   injection e1 with e1 e2 e3
   rw[e3];exact h1
  have hr:=run_append_nothing (P:=Tryz.prog) w E.t o.type E.e i0 E.under hi va sa X.length vc c hle
  refine wpList_plain hgd fun K' hK'=>?_
  unfold Oper.wp execOp
  simp only[List.length_nil] at hx
  simp only[ho,resolve,invoke,builtin,Sem.run_bind,Sem.run_pure,Result.andThen_ok,List.map_toArray,List.map_cons,List.map_nil,hs,hx,hr]
  exact hK' _ _ (hK va vc w (by simpa using h) (Below.refl _ _))
 ·obtain⟨g,cap,w',hr,h1,h2,h3,h4⟩:=El.run_append h o.type sa c (hsrc (by omega)) (by omega) hbase hl
  refine wpList_plain hgd fun K' hK'=>?_
  unfold Oper.wp execOp
  simp only[ho,resolve,invoke,builtin,Sem.run_bind,Sem.run_pure,Result.andThen_ok,List.map_toArray,List.map_cons,List.map_nil,hs,hx,hr]
  exact hK' _ _ (hK _ cap w' h1 ((Below.refl _ w).grown h3 hbase (fun k e=>(h.ge k e).1)))
theorem wantsN_succ {p:List UInt8->Int->Option (List (List UInt8×Int))} {N:List LineV} {j:Nat} (hj:j < N.length):wantsN p (N.take (j+1))=wantsN p (N.take j) ++ wantsL p (N.getD j default):=by
 unfold wantsN
 rw[List.take_succ_eq_append_getElem hj,List.flatMap_append,List.getD_eq_getElem?_getD,List.getElem?_eq_getElem hj]
 simp
set_option maxHeartbeats 4000000 in
set_option maxRecDepth 100000 in
theorem Wants_any (B:Nat) (a:Option Addr) (n cp:Nat) (X:List It) (a3:Option Addr) (n3 c3:Nat) (N:List LineV) (w:World) (hr:RI B w a n cp X) (hN:lineE.In B w a3 n3 c3 N) (hB:B<=w.heap.size) (hn:X.length<=10000) (hn3:N.length<=10000) :
  Calls Tryz.prog 14 #[.slice a n cp,.slice a3 n3 c3] w fun e w'=>WnP w (wantsN (partsO X) N) e w'/\(wantsN (partsO X) N).length<=N.length * X.length/\∀ x∈wantsN (partsO X) N,okWant x:=by
 have HX:=Lib.hid hr
 have HN:=Lib.hid hN
 have hle:=hN.le;have hmx:=hN.mx
 have Hln:=Lib.hid hN.len
 have HM:=Lib.hid hn
 have HM3:=Lib.hid hn3
 generalize hV:wantsN (partsO X) N=V
 have HV:=Lib.hid hV
 clear hr hN hn hn3 hV
 go_enter Tryz.func14,Tryz.ntmps14
 go_wp2_with (fail)
 go_loopw [5,10] (fun s5 s10 wr=>∃ (j:Nat) (va:Option Addr) (vn vc:Nat),s5 = .slice va vn vc/\s10 = .int .i64 j/\j<=n3/\Hid (vn=(wantsN (partsO X) (N.take j)).length)/\Hid (wantE.Own w.heap.size wr (.slice va vn vc) (wantsN (partsO X) (N.take j))/\(wantsN (partsO X) (N.take j)).length<=j * X.length/\∀ x∈wantsN (partsO X) (N.take j),okWant x)/\Hid (Below w.heap.size w wr)) (fun _ s10 _=>n3 - (intOf s10).toNat)
 case atStart=>exact⟨0,none,0,0,rfl,rfl,Nat.zero_le _,Lib.hid rfl,Lib.hid ⟨El.Own.nil _ _ _,Nat.zero_le _,fun x hx=>(by cases hx)⟩,Lib.hid (Below.refl _ _)⟩
 case round =>
  obtain⟨j,va,vn,vc,rfl,rfl,hj,HL,HO,Hb⟩:=hrel
  by_cases hlt:j < n3
  ·obtain⟨b,o,rfl,hbB,hc⟩:=lineE_at (HN.out.below (Hb.out.mono hB)) (by omega)
   obtain⟨g0,g1,g2,g3,g4,g5,g6,g7⟩:=hc j hlt
   have hok:=HN.out.ok_at hlt
   have Hsucc:=Lib.hid (wantsN_succ (p:=partsO X) (N:=N) (j:=j) (by have:=Hln.out;omega))
   clear hc
   generalize N.getD j default=l at g0 g1 g2 g3 g4 g5 g6 g7 hok Hsucc
   have hW:=fun (V:World) (hb:Below w.heap.size w V)=>wants_any B a n cp X l V (HX.out.below (hb.mono hB)) (Nat.le_trans hB hb.size) hok (by have:=HM.out;omega)
   obtain⟨id,item,qty,asked,rank,st,day,code⟩:=l
   simp only at g0 g1 g2 g3 g4 g5 g6 g7
   simp only[encStr] at g1 g7
   unfold LineV.val encStr at hW
   simp only at hW
   obtain⟨W1,hW1⟩:∃ V,V=wr.alloc (lineObj id item qty asked rank st day code):=⟨_,rfl⟩
   have hb1:Below wr.heap.size wr W1:=by rw[hW1];exact below_allocL _ _
   have hk1:W1.heap[wr.heap.size]? = some (lineObj id item qty asked rank st day code):=by rw[hW1];exact heap_alloc_new _ _
   obtain⟨k0,k1,k2,k3,k4,k5,k6,k7⟩:=lineObj_cells hk1
   have HB1:=Lib.hid (Hb.out.trans (hb1.mono Hb.out.size))
   have HW:=Lib.hid (hW W1 HB1.out)
   have HO1:=Lib.hid (HO.out.1.below hb1)
   have HF:=Lib.hid HO.out.2
   have HW1:=Lib.hid hW1
   unfold lineObj at HW1
   clear hW hW1 hb1 hk1 hok HO Hb
   generalize hQ:wantsN (partsO X) (N.take j)=Q at HL HO1 HF Hsucc
   generalize hY:wantsL (partsO X) ⟨id,item,qty,asked,rank,st,day,code⟩=Y at HW Hsucc
   clear hQ hY
   obtain⟨k,hk⟩:∃ k,k=Y.length:=⟨_,rfl⟩
   unfold WnP at HW
   rw[<- hk] at HW
   have HKY:=Lib.hid hk
   have HT:Hid (k<=X.length->vn+k<=1000000000):=Lib.hid (fun hk=>by
    have h1:=HF.out.1
    have h2:=HL.out
    have h3:=HM.out
    have h4:=HM3.out
    have h5:=Hln.out
    have h6:j * X.length<=10000 * 10000:=Nat.mul_le_mul (by omega) (by omega)
    omega)
   clear hk
   go_upto_region 5 with (fail)
   rw[<- HW1.out]
   go_wp2_with (first | (go_at_call 43;refine HW.out.mono ?_;rintro e w2 ⟨⟨⟨a2,c2,rfl,ho2⟩,hb2⟩,hl2,hf2⟩;have B2:=Lib.hid (HB1.out.trans (hb2.mono HB1.out.size));have O1:=Lib.hid (HO1.out.below hb2);have OY:=Lib.hid ho2;have FY:Hid (k<=X.length/\∀ x∈Y,okWant x):=Lib.hid ⟨hl2,hf2⟩;clear ho2 hb2 hl2 hf2) | (at_builtin;refine wpList_appendN wantE rfl _ _ rfl w.heap.size va vn vc Q Y k HKY.out HL.out rfl O1.out a2 c2 rfl (fun _=>(by obtain⟨a7,c7,e7,h7⟩:=OY.out.in_ FY.out.2;rw[HKY.out] at OY;injection e7 with e8 e9 e10;subst e8;exact h7.src (by omega))) B2.out.size (HT.out FY.out.1) ?_;intro a3 c3 w3 ho3 hb3;have B3:=Lib.hid (B2.out.trans hb3);have O3:=Lib.hid ho3;clear ho3 hb3))
   go_roundw
   case rel =>
    refine⟨j+1,a3,vn+k,c3,by go_num,by go_num,by omega,?_,?_,B3⟩
    ·rw[Hsucc.out];exact Lib.hid (by rw[List.length_append,<- HL.out,<- HKY.out])
    ·rw[Hsucc.out]
     exact Lib.hid ⟨O3.out,by rw[List.length_append,<- HKY.out,Nat.add_mul,Nat.one_mul];have:=HF.out.1;have:=FY.out.1;omega,fun x hx=>(List.mem_append.1 hx).elim (HF.out.2 x) (FY.out.2 x)⟩
   case measure=>simp[intOf];omega
  ·have ej:j=N.length:=by have:=Hln.out;omega
   have HE:=Lib.hid ej
   clear ej
   go_wp2_with (fail)
   go_ret
   have h:=HO.out
   have hl:=HL.out
   rw[HE.out,List.take_length,HV.out] at h hl
   refine⟨⟨⟨va,vc,by rw[hl];rfl,by rw[<- hl];exact h.1⟩,Hb.out⟩,h.2.1,h.2.2⟩
end Go.Proofs.YtgplnekpgdhcpaaGreat
