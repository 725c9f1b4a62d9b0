/- promise.All: its walk. (Printed by gen/pall2.py.) What One tells: served beside the others; on no day ahead, by no code ahead. The first open line with a lot more. (Plain.) What is in so many of an item in the end: its leaves, joined. Plain Lean. Lists of api.Lot that are lent, kept, copied: walks. (Printed by gen/kinds.py.) Lists of api.Line that are lent, kept, copied: walks. (Printed by gen/kinds.py.) -/
import Derived.Test.YtgplnekpgdhcpaaGreatQPAllT
import Derived.Test.YtgplnekpgdhcpaaGreatQPromO
import Derived.Test.YtgplnekpgdhcpaaGreatQWantsN
import Derived.Test.YtgplnekpgdhcpaaGreatQMeet
import Derived.Test.YtgplnekpgdhcpaaGreatQFill
import Derived.Test.YtgplnekpgdhcpaaGreatQEnds
import Derived.Test.YtgplnekpgdhcpaaGreatTxA
import Derived.Test.YtgplnekpgdhcpaaGreatQLine
namespace Go.Proofs.YtgplnekpgdhcpaaGreat
open Go.RowKit Go.Sort Go.Lib Go.Shelf
def AlP (w:World) (Z:List LineV) (e:Ending) (w':World):Prop:=(∃ a c,e = .returned (.slice a Z.length c)/\lineE.Own w.heap.size w' (.slice a Z.length c) Z)/\Below w.heap.size w w'
theorem ids_more {N:List LineV} {j:Nat} (hj:j < N.length) (h:((N.take j).map (·.id)).Nodup) (h2:((N.take j).any fun l=>decide (l.id=(N.getD j default).id))=false):((N.take (j+1)).map (·.id)).Nodup:=by
 rw[List.getD_eq_getElem?_getD,List.getElem?_eq_getElem hj] at h2
 simp only[Option.getD_some] at h2
 rw[List.take_succ_eq_append_getElem hj,List.map_append,List.nodup_append]
 refine⟨h,by simp,fun a ha b hb e=>?_⟩
 obtain⟨l,hl,rfl⟩:=List.mem_map.1 ha
 simp only[List.map_cons,List.map_nil,List.mem_singleton] at hb
 have:=List.any_eq_false.1 h2 l hl
 rw[hb] at e
 simp[e] at this
theorem ids_not {N:List LineV} {j:Nat} (hj:j < N.length) (h2:((N.take j).any fun l=>decide (l.id=(N.getD j default).id))=true):¬ (N.map (·.id)).Nodup:=fun hn=>by
 rw[List.getD_eq_getElem?_getD,List.getElem?_eq_getElem hj] at h2
 obtain⟨l,hl,he⟩:=List.any_eq_true.1 h2
 rw[<- List.take_append_drop j N,List.drop_eq_getElem_cons hj,List.map_append,List.nodup_append] at hn
 exact hn.2.2 l.id (List.mem_map_of_mem hl) N[j].id (by rw[List.map_cons];exact List.mem_cons_self) (by simpa using he)
theorem allX_no {parts:List UInt8->Int->Option (List (List UInt8×Int))} {row:List UInt8->List (List UInt8)} {right:LineV->Bool} {L:List LotV} {now:Int} {N:List LineV} (h:¬ (nowOk now=true/\(N.map (·.id)).Nodup/\N.all right=true)):allX parts row right L now N=[]:=by
 unfold allX
 rw[if_neg]
 rintro⟨e1,e2,e3⟩
 exact h ⟨e1,by unfold idsN at e2;simpa using e2,e3⟩
set_option maxHeartbeats 8000000 in
set_option maxRecDepth 100000 in
theorem all_any (B:Nat) (now nl nx:Int) (a1:Option Addr) (n1 c1:Nat) (X:List It) (a2:Option Addr) (n2 c2:Nat) (L:List LotV) (a3:Option Addr) (n3 c3:Nat) (N:List LineV) (w:World) (h:StIn B w a1 n1 c1 X a2 n2 c2 L a3 n3 c3 N) (hB:B<=w.heap.size) (h1:n1<=5000) (h2:n2<=5000) (h3:n3<=5000) :
  Calls Tryz.prog 18 #[.agg #[.int .i64 now,.int .i64 nl,.int .i64 nx,.slice a1 n1 c1,.slice a2 n2 c2,.slice a3 n3 c3]] w fun e w'=>AlP w (allX (partsO X) (rowX X) lineOk L now N) e w':=by
 obtain⟨Z,hZ⟩:∃ Z,Z=allX (partsO X) (rowX X) lineOk L now N:=⟨_,rfl⟩
 rw[<- hZ]
 obtain⟨W0,hW0⟩:∃ V,V=w.alloc (stObj now nl nx (.slice a1 n1 c1) (.slice a2 n2 c2) (.slice a3 n3 c3)):=⟨_,rfl⟩
 have hb0:Below w.heap.size w W0:=by rw[hW0];exact below_allocL _ _
 have k0:W0.heap[w.heap.size]? = some (stObj now nl nx (.slice a1 n1 c1) (.slice a2 n2 c2) (.slice a3 n3 c3)):=by rw[hW0];exact heap_alloc_new _ _
 have l0:w.heap.size < W0.heap.size:=(Array.getElem?_eq_some_iff.1 k0).1
 have HAt:=Lib.hid (fun (V:World) (hb:Below W0.heap.size W0 V)=>(show V.heap[w.heap.size]? = some (stObj now nl nx (.slice a1 n1 c1) (.slice a2 n2 c2) (.slice a3 n3 c3))/\Below w.heap.size w V/\StIn B V a1 n1 c1 X a2 n2 c2 L a3 n3 c3 N/\B<=V.heap.size from by
  have hbw:=hb0.trans (hb.mono hb0.size)
  exact⟨(hb.block _ l0).trans k0,hbw,h.below (hbw.mono hB),Nat.le_trans hB hbw.size⟩))
 have HNow:=Lib.hid (fun (V:World)=>now_any now nl nx (.slice a1 n1 c1) (.slice a2 n2 c2) (.slice a3 n3 c3) V)
 have HlN:Hid (N.length=n3):=Lib.hid h.lines.len.symm
 have HNF:=Lib.hid h.lines.fine
 have HlX:=Lib.hid h.items.len
 have hle3:=h.lines.le
 have hmx3:=h.lines.mx
 have HZ:=Lib.hid hZ
 have HW0:=Lib.hid hW0
 obtain⟨y0,y1,y2,y3,y4,y5⟩:=stObj_cells k0
 have hmk:=@run_makeMap Tryz.prog
 unfold stObj at HW0
 clear hZ hW0 h k0
 cases hnw:nowOk now with
 | false =>
  have E:Hid (Z=[]):=Lib.hid (by rw[HZ.out,allX_no (fun e=>by rw[hnw] at e;cases e.1)])
  rw[hnw] at HNow
  clear hnw
  go_enter Tryz.func18,Tryz.ntmps18
  go_upto_region 1 with (fail)
  rw[<- HW0.out]
  go_wp2_with ((go_at_call 34;refine (HNow.out _).mono ?_;rintro e wA ⟨rfl,hbA⟩;have BA:=Lib.hid hbA;obtain⟨x0,x1,x2,x3,x4,x5⟩:=stObj_cells (HAt.out wA hbA).1;clear hbA))
  go_ret
  rw[E.out]
  exact⟨⟨_,_,rfl,El.Own.nil _ _ _⟩,(HAt.out wA BA.out).2.1⟩
 | true =>
  have HNW:=Lib.hid hnw
  have hnow:0<=now/\now<=4000:=by unfold nowOk at hnw;simpa using hnw
  have HNOW:=Lib.hid hnow
  rw[hnw] at HNow
  clear hnw hnow
  go_enter Tryz.func18,Tryz.ntmps18
  go_upto_region 1 with (fail)
  rw[<- HW0.out]
  go_upto_region 4 with ((go_at_call 34;refine (HNow.out _).mono ?_;rintro e wA ⟨rfl,hbA⟩;have BA:=Lib.hid hbA;obtain⟨x0,x1,x2,x3,x4,x5⟩:=stObj_cells (HAt.out wA hbA).1;clear hbA))
  have hM0:=Lib.hid (MH.made wA (.int .i64 0))
  have hB0:Hid (Below wA.heap.size wA (wA.alloc (.map #[] 0))):=Lib.hid (below_allocL _ _)
  obtain⟨z0,z1,z2,z3,z4,z5⟩:=stObj_cells (HAt.out _ (BA.out.trans (hB0.out.mono BA.out.size))).1
  go_wp2_with (fail)
  go_loopw [19] (fun s19 wr=>∃ (j:Nat) (f:Int->Value) (g:Int->Bool),s19 = .int .i64 j/\j<=n3/\Hid (MH wr wA.heap.size j (.int .i64 0) f g)/\Hid ((∀ k,k < j->f (N.getD k default).id = .int .i64 k)/\∀ i,g i=(N.take j).any fun l=>decide (l.id=i))/\Hid ((N.take j).all lineOk=true/\((N.take j).map (·.id)).Nodup)/\Hid (Below wA.heap.size wA wr)) (fun s19 _=>n3 - (intOf s19).toNat)
  case atStart=>exact⟨0,_,_,rfl,Nat.zero_le _,hM0,Lib.hid ⟨fun k hk=>absurd hk (Nat.not_lt_zero _),fun i=>by simp⟩,Lib.hid ⟨by simp,by simp⟩,hB0⟩
  case round =>
   obtain⟨j,f,g,rfl,hj,HM,HG,HO,Hb⟩:=hrel
   obtain⟨wo,rfl⟩:∃ z,z=wr:=⟨_,rfl⟩
   clear hM0 hB0 z0 z1 z2 z3 z4 z5
   have HBo:=Lib.hid (BA.out.trans (Hb.out.mono BA.out.size))
   by_cases hlt:j < n3
   ·obtain⟨b,o,rfl,hbB,hc⟩:=lineE_at (HAt.out wo HBo.out).2.2.1.lines (by omega)
    obtain⟨g0,g1,g2,g3,g4,g5,g6,g7⟩:=hc j hlt
    have hok:=HNF.out (N.getD j default) (getD_mem (by rw[HlN.out];exact hlt))
    have hjN:j < N.length:=by rw[HlN.out];exact hlt
    have Hmore:=Lib.hid (ids_more hjN HO.out.2)
    have Hnot:=Lib.hid (ids_not hjN)
    have HGj:=Lib.hid (HG.out.2 (N.getD j default).id)
    have Hall:Hid (lineOk (N.getD j default)=true->(N.take (j+1)).all lineOk=true):=Lib.hid (fun e=>by
     rw[List.take_succ_eq_append_getElem hjN,List.all_append,HO.out.1]
     rw[List.getD_eq_getElem?_getD,List.getElem?_eq_getElem hjN] at e
     simpa using e)
    have Hbad:Hid (lineOk (N.getD j default)=false->¬ N.all lineOk=true):=Lib.hid (fun e h=>by
     have:=List.all_eq_true.1 h _ (getD_mem hjN)
     rw[e] at this
     cases this)
    have Hnew:Hid (∀ k,k < j->(N.getD k default).id=(N.getD j default).id->g (N.getD j default).id=true):=Lib.hid (fun k hk e=>by
     rw[HG.out.2,List.any_eq_true]
     refine⟨N.getD k default,?_,by rw[e];simp⟩
     rw[List.getD_eq_getElem?_getD,List.getElem?_eq_getElem (by omega)]
     exact List.mem_take_iff_getElem.2 ⟨k,by omega,rfl⟩)
    have Hany:Hid (∀ i,(N.take (j+1)).any (fun l=>decide (l.id=i))=if i=(N.getD j default).id then true else g i):=Lib.hid (fun i=>by
     rw[List.take_succ_eq_append_getElem hjN,List.any_append,<- HG.out.2,List.getD_eq_getElem?_getD,List.getElem?_eq_getElem hjN]
     simp only[Option.getD_some,List.any_cons,List.any_nil,Bool.or_false]
     by_cases e:i=(N[j]).id
     ·rw[if_pos e,e];simp
     ·rw[if_neg e,decide_eq_false (fun e2=>e e2.symm),Bool.or_false])
    have HfJ:=Lib.hid HG.out.1
    have HRi:=Lib.hid (fun (V:World)=>rankRight_any (N.getD j default) hok.2.1 hok.2.2.2.2.2.2.2 V)
    have HXD:Hid (∃ x,x=N.getD j default):=Lib.hid ⟨_,rfl⟩
    obtain⟨x,hx⟩:=HXD.out
    have HXE:=Lib.hid hx
    rw[<- hx] at g0 g1 g2 g3 g4 g5 g6 g7 hok Hmore Hnot HGj Hall Hbad Hnew Hany HRi
    clear hc hx HXD
    obtain⟨id,item,qty,asked,rank,st,day,code⟩:=x
    simp only at g0 g1 g2 g3 g4 g5 g6 g7 Hmore Hnot HGj Hnew Hany
    simp only[encStr] at g1 g7
    unfold LineV.val encStr at HRi
    simp only at HRi
    obtain⟨W1,hW1⟩:∃ V,V=wo.alloc (lineObj id item qty asked rank st day code):=⟨_,rfl⟩
    have b1:Below wo.heap.size wo W1:=by rw[hW1];exact below_allocL _ _
    have k1:W1.heap[wo.heap.size]? = some (lineObj id item qty asked rank st day code):=by rw[hW1];exact heap_alloc_new _ _
    have l1:wo.heap.size < W1.heap.size:=(Array.getElem?_eq_some_iff.1 k1).1
    obtain⟨p0,p1,p2,p3,p4,p5,p6,p7⟩:=lineObj_cells k1
    have M1:=Lib.hid (HM.out.below b1 HM.out.lt)
    have lk:=M1.out.lookOk Tryz.underlying77 (zeroIntH _) id hok.1.1 hok.1.2
    have HW1:=Lib.hid hW1
    have B1:=Lib.hid (Hb.out.trans (b1.mono Hb.out.size))
    have K1:=Lib.hid k1
    have HID2:=Lib.hid hok.1
    obtain⟨fv,hfv⟩:∃ v,v=f id:=⟨_,rfl⟩
    rw[<- hfv] at lk
    unfold lineObj at HW1
    clear hW1 b1 k1 hok HM HG hfv Hb
    cases hg:g id with
    | true =>
     have E:Hid (Z=[]):=Lib.hid (by rw[HZ.out,allX_no (fun e=>Hnot.out (by rw[<- HGj.out];exact hg) e.2.1)])
     rw[hg] at lk
     clear hg
     go_upto_region 7 with (fail)
     rw[<- HW1.out]
     go_wp2_with (fail)
     go_ret
     rw[E.out]
     exact⟨⟨_,_,rfl,El.Own.nil _ _ _⟩,(HAt.out W1 (BA.out.trans (B1.out.mono BA.out.size))).2.1⟩
    | false =>
     have HG0:=Lib.hid hg
     rw[hg] at lk
     clear hg
     cases hlo:lineOk ⟨id,item,qty,asked,rank,st,day,code⟩ with
     | false =>
      have E:Hid (Z=[]):=Lib.hid (by rw[HZ.out,allX_no (fun e=>Hbad.out hlo e.2.2)])
      rw[hlo] at HRi
      clear hlo
      go_upto_region 7 with (fail)
      rw[<- HW1.out]
      go_wp2_with (go_at_call 21;refine (HRi.out _).mono ?_;rintro e wB ⟨rfl,hbB⟩;have BB:=Lib.hid (B1.out.trans (hbB.mono B1.out.size));clear hbB)
      go_ret
      rw[E.out]
      exact⟨⟨_,_,rfl,El.Own.nil _ _ _⟩,(HAt.out wB (BA.out.trans (BB.out.mono BA.out.size))).2.1⟩
     | true =>
      have HA2:=Lib.hid (Hall.out hlo)
      have HD2:=Lib.hid (Hmore.out (by rw[<- HGj.out];exact HG0.out))
      rw[hlo] at HRi
      clear hlo
      go_upto_region 7 with (fail)
      rw[<- HW1.out]
      go_wp2_with (first | (go_at_call 21;refine (HRi.out _).mono ?_;rintro e wB ⟨rfl,hbB⟩;have BB:=Lib.hid (B1.out.trans (hbB.mono B1.out.size));have MB:=Lib.hid (M1.out.below hbB M1.out.lt);obtain⟨v0,-⟩:=lineObj_cells ((hbB.block wo.heap.size l1).trans K1.out);clear hbB) | (at_mapUpdate;refine wpList_put_mh rfl _ _ _ 77 rfl Tryz.underlying77 MB.out (by omega) id (.int .i64 j) rfl rfl rfl HID2.out.1 HID2.out.2 ?_;intro w10 hM10 hg10;have M10:=Lib.hid hM10;have B10:=Lib.hid (BB.out.grown hg10 BB.out.size (fun k e=>by have:=Option.some.inj e;omega));clear hM10 hg10))
      go_roundw
      case rel =>
       refine⟨j+1,_,_,by go_num,by omega,M10,Lib.hid ⟨fun k hk=>?_,fun i=>by rw[Hany.out]⟩,Lib.hid ⟨HA2.out,HD2.out⟩,B10⟩
       by_cases ek:k=j
       ·subst ek
        rw[<- HXE.out]
        exact updV_same _ _ _
       ·have hkj:k < j:=by omega
        rw[updV_other _ _ (fun e=>by have:=Hnew.out k hkj e;rw[HG0.out] at this;cases this)]
        exact HfJ.out k hkj
      case measure=>simp[intOf];omega
   ·have ej:N.take j=N:=List.take_of_length_le (by rw[HlN.out];omega)
    have hjn:j=n3:=by omega
    have hall:=HO.out
    have hff:=HG.out.1
    rw[ej] at hall
    have hZ2:Z=(allF (partsO X) (rowX X) L now (openX N) (N,[])).1:=by
     rw[HZ.out]
     unfold allX
     rw[if_pos ⟨HNW.out,by unfold idsN;exact decide_eq_true hall.2,hall.1⟩]
    have hAo:=HAt.out wo HBo.out
    have HX:=Lib.hid (all_tail B w.heap.size wA.heap.size j now nl nx a1 n1 c1 X a2 n2 c2 L a3 n3 c3 N f g w wo (fun e w'=>AlP w Z e w') hAo.2.2.1 hB hAo.2.1 hAo.1 HM.out (fun k hk=>hff k (by rw[hjn,<- HlN.out];exact hk)) hall.2 HNOW.out h1 h2 h3 Z hZ2 (fun a c w' ho hb=>⟨⟨a,c,rfl,ho⟩,hb⟩))
    have hge:¬ (j:Int) < (n3:Int):=by omega
    clear ej hall hff hZ2 hAo HM HG HO hjn
    go_upto_region 5 with (fail)
    iterate 14 go_step
    exact HX.out _ _ _ _ _ _ _ _ _ _ _ _ _ _ _ _ _ _ _ _ _ _ _ _ _ _ _ _ _ _ _ _ _ _ _ _ _ _ _ _ _ _ _ _ _ _ _ _ _ _ _ _ _ _ _ _ _ _ _ _ _ _ _ _ _ _ _ _ _ _ _ _ _ _ _ _ _ _ _ _ 
end Go.Proofs.YtgplnekpgdhcpaaGreat
namespace Go.Proofs.YtgplnekpgdhcpaaGreat
open Go.RowKit
section
variable {parts:List UInt8->Int->Option (List (List UInt8×Int))} {row:List UInt8->List (List UInt8)} {L:List LotV} {now:Int}
theorem first_served {W:List WantV} {l:LineV} (hs:l.st=1) (hn:0<=now) (h:0<=(promL parts row L now W l).day):now<=(promL parts row L now W l).day/\l.asked<=(promL parts row L now W l).day/\(promL parts row L now W l).day<=now+400/\(promL parts row L now W l).day<=4000/\(fillX L (W ++ wantsL parts (promL parts row L now W l))).isSome=true /\
  ∃ P,parts (promL parts row L now W l).code l.qty=some P/\wantsL parts (promL parts row L now W l)=moreW (promL parts row L now W l).day P:=by
 rcases promC_cases (parts:=parts) (L:=L) (now:=now) W l (row l.item) with ⟨h1,-⟩ | ⟨A,c,B,P,d,-,h2,h3,h4,-⟩
 ·have e:promL parts row L now W l = { l with day:=-1,code:=[] }:=h1
  rw[e] at h
  exact absurd (show (0:Int)<=-1 from h) (by decide)
 ·have e:promL parts row L now W l = { l with day:=d,code:=c }:=h4
  obtain⟨k1,k2,k3,-⟩:=dayX_iff.1 h3
  have:wantsL parts { l with day:=d,code:=c } = moreW d P:=by
   unfold wantsL
   rw[if_pos ⟨hs,show (0:Int)<=d by omega⟩]
   simp only[h2]
  rw[e,this]
  exact⟨by show now<=d;omega,by show l.asked<=d;omega,by show d<=_;omega,by show d<=_;omega,k3,P,h2,rfl⟩
theorem first_none {W:List WantV} {l:LineV} (h:row l.item=[]):promL parts row L now W l = { l with day:=-1,code:=[] }:=by
 unfold promL
 rw[h]
 rfl
theorem first_ahead {W:List WantV} {l:LineV} (hs:l.st=1) (ha:0<=l.asked) {k:Nat} {c:List UInt8} (hk:(row l.item)[k]? = some c) {d:Int} (h1:max l.asked now<=d) (h2:d<=now+400) (h3:d<=4000)
  (hf:(∃ i:Nat,i<=k/\0<=(promL parts row L now W l).day/\(row l.item)[i]? = some (promL parts row L now W l).code)->c=(promL parts row L now W l).code/\d < (promL parts row L now W l).day) :
  wantsL parts { l with day:=d,code:=c } = []∨(fillX L (W ++ wantsL parts { l with day:=d,code:=c })).isSome=false:=by
 have hw:wantsL parts { l with day:=d,code:=c } = match parts c l.qty with | some P=>moreW d P | none=>[]:=by
  unfold wantsL
  rw[if_pos ⟨hs,show (0:Int)<=d by omega⟩]
  all_goals rfl
 cases hp:parts c l.qty with
 | none =>
  rw[hp] at hw
  exact .inl hw
 | some P =>
  rw[hp] at hw
  simp only at hw
  refine .inr ?_
  rw[hw]
  show hadB L W P d=false
  rcases promC_cases (parts:=parts) (L:=L) (now:=now) W l (row l.item) with ⟨-,g2⟩ | ⟨A,c1,B,P1,d1,g1,g2,g3,g4,g5⟩
  ·exact dayX_none (g2 c (List.mem_of_getElem? hk) P hp) d (by omega) (by omega)
  ·have e:promL parts row L now W l = { l with day:=d1,code:=c1 }:=g4
   rw[e] at hf
   simp only at hf
   rw[g1] at hk
   obtain⟨q1,q2,q3,q4⟩:=dayX_iff.1 g3
   by_cases hkA:k < A.length
   ·rw[List.getElem?_append_left hkA] at hk
    exact dayX_none (g5 c (List.mem_of_getElem? hk) P hp) d (by omega) (by omega)
   ·obtain⟨e1,e2⟩:=hf ⟨A.length,by omega,by omega,by rw[g1];simp⟩
    subst e1
    rw[g2] at hp
    injection hp with hp
    subst hp
    exact q4 d (by omega) e2
section
variable {right:LineV->Bool} {N:List LineV}
theorem openP_cons {l:LineV} {R:List LineV} (h:openX N=l :: R):∃ Z,openP parts row L now N=promL parts row L now [] l :: Z:=by
 unfold openP
 rw[h,prF]
 exact⟨_,rfl⟩
theorem more_first {x:LotV} (hL:mayB (L ++ [x]) []=true) {l:LineV} (h:0<=(promL parts row L now [] l).day):0<=(promL parts row (L ++ [x]) now [] l).day/\((promL parts row (L ++ [x]) now [] l).code=(promL parts row L now [] l).code->(promL parts row (L ++ [x]) now [] l).day<=(promL parts row L now [] l).day):=promC_lot hL [] l _ h
end
end
end Go.Proofs.YtgplnekpgdhcpaaGreat
namespace Go.Proofs.YtgplnekpgdhcpaaGreat
open Go.RowKit
def leaves (X:List It):Nat->List UInt8->Int->List Pt
 | 0,_,_=>[]
 | k+1,c,q=>if (partsX X c).length=0 then [(c,q)] else (partsX X c).flatMap fun p=>leaves X k p.1 (q * p.2)
theorem leaves_leaf {X:List It} {k:Nat} {c:List UInt8} {q:Int} (h:(partsX X c).length=0):leaves X (k+1) c q=[(c,q)]:=by
 show (if _ then _ else _)=_
 rw[if_pos h]
theorem leaves_kit {X:List It} {k:Nat} {c:List UInt8} {q:Int} (h:(partsX X c).length≠0):leaves X (k+1) c q=(partsX X c).flatMap fun p=>leaves X k p.1 (q * p.2):=by
 show (if _ then _ else _)=_
 rw[if_neg h]
theorem Sound.parts {X:List It} (hs:Sound X) {c:List UInt8} (hc:c∈codes X):∀ p∈partsX X c,p.1∈codes X/\1<=p.2/\p.2<=1073741824:=fun p hp=>by
 refine⟨hs.kids c hc p.1 (by rw[kids_parts];exact List.mem_map.2 ⟨p,hp,rfl⟩),?_⟩
 obtain⟨i,hi,-,rfl⟩:=there hc
 have hsh:=(okIt_parts (hs.ok i hi)).2.2
 unfold partsX at hp
 rw[itF_cd hs.nd hi] at hp
 have hp:p∈(X.getD i default).ps:=hp
 obtain⟨k,hk,rfl⟩:=List.getElem_of_mem hp
 unfold okShape at hsh
 rw[if_neg (by omega),Bool.and_eq_true,decide_eq_true_eq,decide_eq_true_eq] at hsh
 have h1:=hsh.2 k hk
 unfold okPart at h1
 rw[Bool.and_eq_true,decide_eq_true_eq,decide_eq_true_eq,List.getD_eq_getElem?_getD,List.getElem?_eq_getElem hk] at h1
 exact h1.1
theorem hgt_parts {X:List It} {k:Nat} {c:List UInt8} {d:Nat} (h:hgt (kidsX X) (k+1) c=some d):∀ p∈partsX X c,∃ d',hgt (kidsX X) k p.1=some d':=fun p hp=>by
 rw[hgt_succ] at h
 obtain⟨d',h1,-⟩:=(foldH_some h).2 p.1 (by rw[kids_parts];exact List.mem_map.2 ⟨p,hp,rfl⟩)
 exact⟨d',h1⟩
theorem leaves_ge {X:List It} (hs:Sound X):∀ (k:Nat) {c:List UInt8} {q:Int},c∈codes X->1<=q->∀ p∈leaves X k c q,q<=p.2/\p.1∈codes X/\(partsX X p.1).length=0
 | 0,_,_,_,_,p,hp=>by cases hp
 | k+1,c,q,hc,hq,p,hp=>by
  by_cases h0:(partsX X c).length=0
  ·rw[leaves_leaf h0,List.mem_singleton] at hp
   subst hp
   exact⟨Int.le_refl _,hc,h0⟩
  ·rw[leaves_kit h0,List.mem_flatMap] at hp
   obtain⟨r,hr,hp⟩:=hp
   obtain⟨h1,h2,-⟩:=hs.parts hc r hr
   have hqr:q<=q * r.2:=by
    have:=Int.mul_le_mul_of_nonneg_left h2 (show 0<=q by omega)
    omega
   obtain⟨h3,h4,h5⟩:=leaves_ge hs k h1 (show 1<=q * r.2 by omega) p hp
   exact⟨by omega,h4,h5⟩
theorem leaves_some {X:List It}:∀ (k:Nat) {c:List UInt8} {q:Int} {d:Nat},hgt (kidsX X) k c=some d->∃ p,p∈leaves X k c q
 | 0,_,_,_,h=>by cases h
 | k+1,c,q,d,h=>by
  by_cases h0:(partsX X c).length=0
  ·exact⟨(c,q),by rw[leaves_leaf h0];simp⟩
  ·rw[leaves_kit h0]
   obtain⟨r,hr⟩:∃ r,r∈partsX X c:=by
    cases hp:partsX X c with
    | nil=>rw[hp] at h0;exact absurd rfl h0
    | cons r l=>exact⟨r,by simp⟩
   obtain⟨d',hd'⟩:=hgt_parts h r hr
   obtain⟨p,hp⟩:=leaves_some k (q:=q * r.2) hd'
   exact⟨p,List.mem_flatMap.2 ⟨r,hr,hp⟩⟩
theorem joinL_big {S L:List Pt} (hS:Up S) {p:Pt} (hp:p∈L) (hb:mostA < p.2):joinL S L=none:=by
 cases h:joinL S L with
 | none=>rfl
 | some R =>
  have h1:=((joinL_iff hS).1 (by rw[h];rfl)).1 p hp
  have:=okA_iff.1 h1
  unfold mostA at hb
  omega
theorem times_fine {a b:Int} (ha:1<=a) (hb:1<=b) (hb2:b<=1073741824) (ha2:a<=mostA):timesA a b=if a * b<=mostA then some (a * b) else none:=by
 unfold timesA
 unfold mostA at ha2
 rw[okA_iff.2 (by omega),okA_iff.2 (by omega)]
 simp
theorem put_list {f:List Pt->List UInt8->Int->Option (List Pt)} {g:Pt->List Pt} {q:Int}:∀ {L:List Pt} {S:List Pt},Up S->(∀ p∈L,∀ S',Up S'->putStep f q (some S') p=joinL S' (g p))->L.foldl (putStep f q) (some S)=joinL S (L.flatMap g)
 | [],S,_,_=>rfl
 | p :: L,S,hS,h=>by
  rw[List.foldl_cons,List.flatMap_cons,joinL_append,h p (List.mem_cons_self ..) S hS]
  cases hj:joinL S (g p) with
  | none=>exact put_none f q L
  | some S'=>exact put_list (joinL_up hS hj) fun r hr=>h r (List.mem_cons_of_mem _ hr)
theorem putL_leaves {X:List It} (hs:Sound X):∀ (k:Nat) {c:List UInt8} {q:Int} {d:Nat} {S:List Pt},c∈codes X->hgt (kidsX X) k c=some d->1<=q->q<=mostA->Up S->putL X k S c q=joinL S (leaves X k c q)
 | 0,_,_,_,_,_,h,_,_,_=>by cases h
 | k+1,c,q,d,S,hc,h,hq,hq2,hS=>by
  by_cases h0:(partsX X c).length=0
  ·rw[leaves_leaf h0]
   show (if _ then _ else _)=_
   rw[if_pos h0]
  ·rw[leaves_kit h0]
   show (if _ then _ else _)=_
   rw[if_neg h0]
   refine put_list hS fun p hp S' hS'=>?_
   obtain⟨h1,h2,h3⟩:=hs.parts hc p hp
   obtain⟨d',hd'⟩:=hgt_parts h p hp
   have hge:1<=q * p.2:=by
    have:=Int.mul_le_mul_of_nonneg_left h2 (show 0<=q by omega)
    omega
   show (timesA q p.2).bind (fun n=>putL X k S' p.1 n)=_
   rw[times_fine hq h2 h3 hq2]
   by_cases hle:q * p.2<=mostA
   ·rw[if_pos hle]
    exact putL_leaves hs k h1 hd' hge hle hS'
   ·rw[if_neg hle]
    obtain⟨r,hr⟩:=leaves_some (X:=X) k (q:=q * p.2) hd'
    have:=(leaves_ge hs k h1 hge r hr).1
    exact (joinL_big hS' hr (by omega)).symm
end Go.Proofs.YtgplnekpgdhcpaaGreat
namespace Go.Proofs.YtgplnekpgdhcpaaGreat
open Go.RowKit
set_option maxRecDepth 100000 in
theorem CopyLots_any (N:Nat) (a:Option Addr) (n c:Nat) (L:List LotV) (w:World) (hr:lotE.In N w a n c L) (hs:n<=1000000000) :
  Calls Tryz.prog 25 #[.slice a n c] w fun e w'=>(∃ a' c',e = .returned (.slice a' n c')/\lotE.Own w.heap.size w' (.slice a' n c') L)/\Below w.heap.size w w':=by
 have hln:=hr.len
 have Hln:=Lib.hid hln
 have Hr:=Lib.hid hr
 clear hr hln
 go_enter Tryz.func25,Tryz.ntmps25
 go_wp2_with (at_builtin;refine El.wpList_append0 lotE rfl _ _ rfl L rfl _ n _ rfl Hln.out (Hr.out).src (by have:=Hln.out;omega) ?_;intro a2 c2 w2 hown2 hb2)
 go_ret
 exact⟨⟨_,_,rfl,hown2⟩,hb2⟩
end Go.Proofs.YtgplnekpgdhcpaaGreat
namespace Go.Proofs.YtgplnekpgdhcpaaGreat
open Go.RowKit
set_option maxRecDepth 100000 in
theorem CopyLines_any (N:Nat) (a:Option Addr) (n c:Nat) (L:List LineV) (w:World) (hr:lineE.In N w a n c L) (hs:n<=1000000000) :
  Calls Tryz.prog 60 #[.slice a n c] w fun e w'=>(∃ a' c',e = .returned (.slice a' n c')/\lineE.Own w.heap.size w' (.slice a' n c') L)/\Below w.heap.size w w':=by
 have hln:=hr.len
 have Hln:=Lib.hid hln
 have Hr:=Lib.hid hr
 clear hr hln
 go_enter Tryz.func60,Tryz.ntmps60
 go_wp2_with (at_builtin;refine El.wpList_append0 lineE rfl _ _ rfl L rfl _ n _ rfl Hln.out (Hr.out).src (by have:=Hln.out;omega) ?_;intro a2 c2 w2 hown2 hb2)
 go_ret
 exact⟨⟨_,_,rfl,hown2⟩,hb2⟩
end Go.Proofs.YtgplnekpgdhcpaaGreat
