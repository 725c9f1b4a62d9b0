/- (*promise.table).promise: its walk. -/
import Derived.Test.YtgplnekpgdhcpaaGreatQWantsN
import Derived.Test.YtgplnekpgdhcpaaGreatQDayW
import Derived.Test.YtgplnekpgdhcpaaGreatQLineOk
import Derived.Test.YtgplnekpgdhcpaaGreatTxA
namespace Go.Proofs.YtgplnekpgdhcpaaGreat
open Go.RowKit Go.Sort Go.Lib Go.Shelf
def tbObj (now nl nx:Int) (v1 v2 v3 v4:Value):Obj:=.cells #[.int .i64 now,.int .i64 nl,.int .i64 nx,v1,v2,v3,v4] 62
theorem tbObj_cells {w:World} {p:Nat} {now nl nx:Int} {v1 v2 v3 v4:Value} (h:w.heap[p]? = some (tbObj now nl nx v1 v2 v3 v4)):w.cell? ⟨p,0,none⟩=some (.int .i64 now)/\w.cell? ⟨p,1,none⟩=some (.int .i64 nl)/\w.cell? ⟨p,2,none⟩=some (.int .i64 nx)/\w.cell? ⟨p,3,none⟩=some v1/\w.cell? ⟨p,4,none⟩=some v2/\w.cell? ⟨p,5,none⟩=some v3/\w.cell? ⟨p,6,none⟩=some v4:=by
 unfold tbObj at h
 refine⟨?_,?_,?_,?_,?_,?_,?_⟩ <;> (unfold World.cell?;rw[h];rfl)
theorem below_drewP {B:Nat} {w w':World} (h:Below B w w'):Below B w w'.drew:=h.trans ⟨rfl,rfl,rfl,Nat.le_refl _,fun _ _=>rfl⟩
def put8 (W:World) (q:Nat) (id:Int) (item:List UInt8) (qty asked rank st day:Int) (code:List UInt8):World:=(((((((W.setCell ⟨q,0,none⟩ (.int .i64 id)).setCell ⟨q,1,none⟩ (.string ⟨item.toArray⟩)).setCell ⟨q,2,none⟩ (.int .i64 qty)).setCell ⟨q,3,none⟩ (.int .i64 asked)).setCell ⟨q,4,none⟩ (.int .i64 rank)).setCell ⟨q,5,none⟩ (.int .u8 st)).setCell ⟨q,6,none⟩ (.int .i64 day)).setCell ⟨q,7,none⟩ (.string ⟨code.toArray⟩)
theorem put8_at {W:World} {q:Nat} {id0:Int} {item0:List UInt8} {qty0 asked0 rank0 st0 day0:Int} {code0:List UInt8} (hq:W.heap[q]? = some (lineObj id0 item0 qty0 asked0 rank0 st0 day0 code0)) (id:Int) (item:List UInt8) (qty asked rank st day:Int) (code:List UInt8):(put8 W q id item qty asked rank st day code).heap[q]? = some (lineObj id item qty asked rank st day code):=by
 unfold put8 lineObj at *
 simp[setCell_eq,mapBlock,Array.getElem?_modify,hq,onCells]
theorem put8_below {B:Nat} {w W:World} (h:Below B w W) (q:Nat) (id:Int) (item:List UInt8) (qty asked rank st day:Int) (code:List UInt8) (hq:B<=q):Below B w (put8 W q id item qty asked rank st day code):=below_set (below_set (below_set (below_set (below_set (below_set (below_set (below_set h _ _ _ hq) _ _ _ hq) _ _ _ hq) _ _ _ hq) _ _ _ hq) _ _ _ hq) _ _ _ hq) _ _ _ hq
theorem line_frozen {w:World} {p:Nat} {id:Int} {item:List UInt8} {qty asked rank st day:Int} {code:List UInt8} (h:w.heap[p]? = some (lineObj id item qty asked rank st day code)) (k:Nat):w.frozen? ⟨p,k,none⟩=false:=by
 unfold lineObj at h
 unfold World.frozen?
 rw[h]
 simp
theorem line_frozen8 {W:World} {p:Nat} {id:Int} {item:List UInt8} {qty asked rank st day:Int} {code:List UInt8} (h:W.heap[p]? = some (lineObj id item qty asked rank st day code)):W.frozen? ⟨p,0,none⟩=false/\W.frozen? ⟨p,1,none⟩=false/\W.frozen? ⟨p,2,none⟩=false/\W.frozen? ⟨p,3,none⟩=false/\W.frozen? ⟨p,4,none⟩=false/\W.frozen? ⟨p,5,none⟩=false/\W.frozen? ⟨p,6,none⟩=false/\W.frozen? ⟨p,7,none⟩=false:=⟨line_frozen h 0,line_frozen h 1,line_frozen h 2,line_frozen h 3,line_frozen h 4,line_frozen h 5,line_frozen h 6,line_frozen h 7⟩
theorem rowX_fine {X:List It} {c:List UInt8} (hc:c.length<=9223372036854775807) (hX:∀ x∈X,∀ t∈x.os,t.length<=9223372036854775807):∀ t∈rowX X c,t.length<=9223372036854775807:=fun t ht=>by
 unfold rowX at ht
 cases hf:X.find? (fun x=>decide (x.code=c)) with
 | none=>rw[hf] at ht;cases ht
 | some x =>
  rw[hf] at ht
  rcases List.mem_cons.1 ht with rfl | ht
  ·exact hc
  ·exact hX x (List.mem_of_find?_eq_some hf) t ht
theorem promC_at {parts:List UInt8->Int->Option (List (List UInt8×Int))} {L:List LotV} {now:Int} {W:List WantV} {l:LineV} {T:List (List UInt8)} {j:Nat} (hj:j < T.length):promC parts L now W l (T.drop j)=match parts (T.getD j []) l.qty with
  | none=>promC parts L now W l (T.drop (j+1))
  | some P=>match dayX L W P (max l.asked now) (min (now+400) 4000) with
   | some d=>{ l with day:=d,code:=T.getD j [] }
   | none=>promC parts L now W l (T.drop (j+1)):=by
 rw[List.drop_eq_getElem_cons hj,promC]
 have e:T.getD j []=T[j]:=by rw[List.getD_eq_getElem?_getD,List.getElem?_eq_getElem hj];rfl
 rw[e]
 cases parts T[j] l.qty with
 | none=>rfl
 | some P =>
  simp only
  cases dayX L W P (max l.asked now) (min (now+400) 4000) <;> rfl
set_option maxHeartbeats 8000000 in
set_option maxRecDepth 100000 in
theorem prom_any (B tb:Nat) (now nl nx:Int) (a:Option Addr) (n cp:Nat) (X:List It) (a2:Option Addr) (n2 c2:Nat) (L:List LotV) (v3:Value) (a4:Option Addr) (n4 c4:Nat) (Wn:List WantV) (l:LineV) (w:World)
  (hr:RI B w a n cp X) (hL:lotE.In B w a2 n2 c2 L) (hW:wantE.In B w a4 n4 c4 Wn) (hB:B<=w.heap.size) (ht:w.heap[tb]? = some (tbObj now nl nx (.slice a n cp) (.slice a2 n2 c2) v3 (.slice a4 n4 c4))) (hl:okLine l) (hnow:0<=now/\now<=4000)
  (hn:X.length<=10000) (hn2:n2<=400000) (hn4:n4<=100000000) (hsz:∀ x∈X,x.os.length * 16<=140737488355328) :
  Calls Tryz.prog 38 #[.pointer (some ⟨tb,0,none⟩),l.val] w fun e w'=>e = .returned (promL (partsO X) (rowX X) L now Wn l).val/\Below w.heap.size w w':=by
 have htl:tb < w.heap.size:=(Array.getElem?_eq_some_iff.1 ht).1
 obtain⟨R,hR⟩:∃ R,R=promL (partsO X) (rowX X) L now Wn l:=⟨_,rfl⟩
 rw[<- hR]
 unfold promL at hR
 obtain⟨id,item,qty,asked,rank,st,day,code⟩:=l
 obtain⟨V,hV⟩:∃ V,V=(w.alloc (lineObj id item qty asked rank st (-1) [])).alloc (lineObj 0 [] 0 0 0 0 0 []):=⟨_,rfl⟩
 have bV1:Below w.heap.size w (w.alloc (lineObj id item qty asked rank st (-1) [])):=below_allocL _ _
 have sV1:=World.size_alloc w (lineObj id item qty asked rank st (-1) [])
 have bV:Below w.heap.size w V:=by rw[hV];exact bV1.alloc (by omega) _
 have sV:V.heap.size=w.heap.size+2:=by rw[hV,World.size_alloc,sV1]
 have kl:V.heap[w.heap.size]? = some (lineObj id item qty asked rank st (-1) []):=by
  rw[hV,(below_allocL (w.alloc (lineObj id item qty asked rank st (-1) [])) _).block w.heap.size (by omega)]
  exact heap_alloc_new _ _
 have kz:V.heap[w.heap.size+1]? = some (lineObj 0 [] 0 0 0 0 0 []):=by
  rw[hV,<- sV1];exact heap_alloc_new _ _
 obtain⟨o1,o2,o3,o4,o5,o6,o7,o8⟩:=hl
 simp only at hR o1 o2 o3 o4 o5 o6 o7 o8
 have hAt:=fun (U:World) (hb:Below V.heap.size V U)=>(show U.heap[tb]? = some (tbObj now nl nx (.slice a n cp) (.slice a2 n2 c2) v3 (.slice a4 n4 c4))/\U.heap[w.heap.size]? = some (lineObj id item qty asked rank st (-1) [])/\U.heap[w.heap.size+1]? = some (lineObj 0 [] 0 0 0 0 0 [])/\Below w.heap.size w U/\RI B U a n cp X/\lotE.In B U a2 n2 c2 L/\wantE.In B U a4 n4 c4 Wn/\B<=U.heap.size from by
  have hbw:=bV.trans (hb.mono bV.size)
  exact⟨(hbw.block tb htl).trans ht,(hb.block _ (by omega)).trans kl,(hb.block _ (by omega)).trans kz,hbw,hr.below (hbw.mono hB),hL.below (hbw.mono hB),hW.below (hbw.mono hB),Nat.le_trans hB hbw.size⟩)
 have HAt:=Lib.hid hAt
 have HRow:=Lib.hid (fun (U:World) (hb:Below V.heap.size V U)=>Row_any B a n cp X item U (hAt U hb).2.2.2.2.1 (hAt U hb).2.2.2.2.2.2.2 o2 hsz)
 have HPar:=Lib.hid (fun (U:World) (hb:Below V.heap.size V U) (c:List UInt8) (hc:c.length<=9223372036854775807)=>Parts_any B a n cp X c qty U (hAt U hb).2.2.2.2.1 (hAt U hb).2.2.2.2.2.2.2 hc o3.1 o3.2)
 have HDay:=Lib.hid (fun (U U':World) (hb:Below V.heap.size V U) (hb':Below U.heap.size U U') (pa:Option Addr) (pn pc:Nat) (S:List Pt) (hp:ptE.In U.heap.size U pa pn pc S) (hpn:pn<=100000000)=>day_any U.heap.size a2 a4 pa n2 c2 n4 c4 pn pc L Wn S (max asked now) (min (now+400) 4000) U' (((hAt U hb).2.2.2.2.2.1.below (hb'.mono (hAt U hb).2.2.2.2.2.2.2)).mono (hAt U hb).2.2.2.2.2.2.2) (((hAt U hb).2.2.2.2.2.2.1.below (hb'.mono (hAt U hb).2.2.2.2.2.2.2)).mono (hAt U hb).2.2.2.2.2.2.2) (hp.below hb') hb'.size hn2 hn4 hpn)
 have hxf:∀ t∈rowX X item,t.length<=9223372036854775807:=rowX_fine o2 (fun x hx t ht=>(hr.ok x hx).rt.fine t ht)
 have HXF:=Lib.hid hxf
 have HXC:=Lib.hid (fun x hx=>(hr.ok x hx).code)
 have HR:=Lib.hid hR
 have HV:Hid ((w.alloc (lineObj id item qty asked rank st (-1) [])).alloc (lineObj 0 [] 0 0 0 0 0 [])=V):=Lib.hid hV.symm
 have HsV:=Lib.hid sV
 have hn1:=Lib.hid hn
 obtain⟨q0,q1,q2,q3,q4,q5,q6⟩:=tbObj_cells (hAt V (Below.refl _ _)).1
 obtain⟨l0,l1,l2,l3,l4,l5,l6,l7⟩:=lineObj_cells kl
 have htV:tb < V.heap.size:=by omega
 have hlV:w.heap.size < V.heap.size:=by omega
 unfold lineObj at HV
 unfold LineV.val encStr
 simp only
 clear hr hL hW ht hn hsz hV bV1 sV1 bV sV kl kz hAt hxf hR o1 o2 o3 o4 o5 o6 o7 o8
 go_enter Tryz.func38,Tryz.ntmps38
 go_upto_region 2 with (fail)
 have HV':=HV.out
 simp only[List.toArray] at HV'
 rw[HV']
 clear HV'
 go_region_held3 (fun w'=>(w'.cell? ⟨tb,3,none⟩=some (.slice a n cp)/\w'.cell? ⟨w.heap.size,1,none⟩=some (.string ⟨item.toArray⟩))/\Hid (Below V.heap.size V w')) (first | exact⟨⟨by assumption,by assumption⟩,Lib.hid (below_drewP (Below.refl _ _))⟩ | exact⟨⟨by assumption,by assumption⟩,by assumption⟩ | go_keep | exact⟨⟨by assumption,by assumption⟩,Lib.hid (below_drewP (Hid.out (by assumption)))⟩) (first | (go_at_call 23;refine (HRow.out _ (below_drewP (Below.refl _ _))).mono ?_;rintro e wR ⟨⟨ra,rc,rfl,hro⟩,hbR⟩;have d0:=(hbR.cell (p:=⟨tb,3,none⟩) htV).trans q3;have d1:=(hbR.cell (p:=⟨w.heap.size,1,none⟩) hlV).trans l1;have HBR:Hid (Below V.heap.size V wR):=Lib.hid ((below_drewP (Below.refl _ _)).trans hbR);have HRO:=Lib.hid hro;clear hbR hro))
 clear d0 d1 q0 q1 q2 q3 q4 q5 q6 l0 l1 l2 l3 l4 l5 l6 l7 HRow
 obtain⟨ra',rc',er,hri⟩:=HRO.out.in_ HXF.out
 injection er with er1 er2 er3
 subst er1;subst er3
 have HRT:=Lib.hid (txE_rt hri)
 have hrle:=hri.le;have hrmx:=hri.mx
 generalize hT:rowX X item=T at HRT HR HXF hrle hrmx ⊢
 obtain⟨m,hm⟩:∃ m,m=T.length:=⟨_,rfl⟩
 rw[<- hm] at HRT hrle ⊢
 have HM:=Lib.hid hm
 clear hri HRO hT hm
 go_wp2_with (fail)
 go_loopw [22] (fun s22 wr=>∃ j:Nat,s22 = .int .i64 j/\j<=m/\Hid (promC (partsO X) L now Wn ⟨id,item,qty,asked,rank,st,day,code⟩ (T.drop j)=R)/\Hid (Below wR.heap.size wR wr)) (fun s22 _=>m - (intOf s22).toNat)
 case atStart=>exact⟨0,rfl,Nat.zero_le _,Lib.hid (by rw[HR.out];rfl),Lib.hid (Below.refl _ _)⟩
 case round =>
  obtain⟨j,rfl,hj,HC,Hb⟩:=hrel
  obtain⟨wo,rfl⟩:∃ z,z=wr:=⟨_,rfl⟩
  have HBo:=Lib.hid (HBR.out.trans (Hb.out.mono HBR.out.size))
  have hszo:=HBo.out.size
  by_cases hlt:j < m
  ·obtain⟨b,o,rfl,hbB,hc⟩:=(HRT.out.below Hb.out).at_ (by omega)
   have g0:=hc j hlt
   have hcf:(T.getD j []).length<=9223372036854775807:=HXF.out _ (by rw[List.getD_eq_getElem?_getD,List.getElem?_eq_getElem (by rw[<- HM.out];exact hlt)];exact List.getElem_mem _)
   have HCn:=Lib.hid (HC.out.symm.trans (promC_at (by rw[<- HM.out];exact hlt)))
   clear hc HC
   generalize T.getD j []=c at g0 hcf HCn
   simp only[encStr] at g0
   have HPj:=Lib.hid (fun (U:World) (hb:Below wo.heap.size wo U)=>HPar.out U (HBo.out.trans (hb.mono HBo.out.size)) c hcf)
   obtain⟨q0,q1,q2,q3,q4,q5,q6⟩:=tbObj_cells (HAt.out wo HBo.out).1
   obtain⟨l0,l1,l2,l3,l4,l5,l6,l7⟩:=lineObj_cells (HAt.out wo HBo.out).2.1
   have hto:tb < wo.heap.size:=by omega
   have hlo:w.heap.size < wo.heap.size:=by omega
   go_upto_region 5 with (fail)
   go_region_held3 (fun w'=>(w'.cell? ⟨tb,3,none⟩=some (.slice a n cp)/\w'.cell? ⟨w.heap.size,2,none⟩=some (.int .i64 qty))/\Hid (Below wo.heap.size wo w')) (first | exact⟨⟨by assumption,by assumption⟩,Lib.hid (below_drewP (Below.refl _ _))⟩ | exact⟨⟨by assumption,by assumption⟩,by assumption⟩ | go_keep | exact⟨⟨by assumption,by assumption⟩,Lib.hid (below_drewP (Hid.out (by assumption)))⟩) (first | (go_at_call 67;refine (HPj.out _ (below_drewP (Below.refl _ _))).mono ?_;rintro e wP ⟨hbP,vP,rfl,hne,hoP⟩;have d0:=(hbP.cell (p:=⟨tb,3,none⟩) hto).trans q3;have d1:=(hbP.cell (p:=⟨w.heap.size,2,none⟩) hlo).trans l2;have HBP:Hid (Below wo.heap.size wo wP):=Lib.hid ((below_drewP (Below.refl _ _)).trans hbP);have HNE:=Lib.hid hne;have HOP:=Lib.hid hoP;clear hbP hne hoP))
   clear d0 d1 q0 q1 q2 q3 q4 q5 q6 l0 l1 l2 l3 l4 l5 l6 l7 HPj
   have hpP:=HBP.out.size
   have HBw:=Lib.hid (Hb.out.trans (HBP.out.mono Hb.out.size))
   have HBV:=Lib.hid (HBo.out.trans (HBP.out.mono HBo.out.size))
   by_cases hE:partsE X c qty=0
   ·obtain⟨pa,pc,S,rfl,hend,hPS,hop⟩:=HOP.out hE
    have hfn:=ps_fine hPS HXC.out
    obtain⟨pa',pc',e9,hrp⟩:=hop.rp hfn
    injection e9 with e7 e8 e9
    subst e7;subst e9
    have hSL:S.length<=100000000:=by have e1:=hPS.len;have e2:=hn1.out;omega
    have HCn2:=Lib.hid HCn.out
    rw[show partsO X c qty=some S by unfold partsO;rw[if_pos hE];exact hend] at HCn2
    simp only at HCn2
    have HD:=Lib.hid (fun (U:World) (hb:Below wP.heap.size wP U)=>HDay.out wP U HBV.out hb pa S.length pc S (RP.el hrp) hSL)
    rw[dayX_spans] at HD
    have hAP:=HAt.out wP HBV.out
    have f0:∀ y:BelowW wP,y.v.cell? ⟨tb,0,none⟩=some (.int .i64 now):=fun y=>(y.h.cell (by show tb < _;omega)).trans (tbObj_cells hAP.1).1
    have f4:∀ y:BelowW wP,y.v.cell? ⟨tb,4,none⟩=some (.slice a2 n2 c2):=fun y=>(y.h.cell (by show tb < _;omega)).trans (tbObj_cells hAP.1).2.2.2.2.1
    have f6:∀ y:BelowW wP,y.v.cell? ⟨tb,6,none⟩=some (.slice a4 n4 c4):=fun y=>(y.h.cell (by show tb < _;omega)).trans (tbObj_cells hAP.1).2.2.2.2.2.2
    have f3:∀ y:BelowW wP,y.v.cell? ⟨w.heap.size,3,none⟩=some (.int .i64 asked):=fun y=>(y.h.cell (by show w.heap.size < _;omega)).trans (lineObj_cells hAP.2.1).2.2.2.1
    have hw4:IntKind.i64.wrap (now+400)=now+400:=wrap_in (by omega) (by omega)
    rw[hE]
    clear hE hop hrp hPS hend HOP HNE hfn hAP HCn
    cases hdx:dayX L Wn S (max asked now) (min (now+400) 4000) with
    | none =>
     rw[hdx] at HD HCn2
     simp only[Option.getD_none,Option.isSome_none] at HD HCn2
     clear hdx
     go_upto_region 7 with (fail)
     refine wp_region_below wP (by kernel_rfl) (by kernel_rfl) (Below.refl _ _) ?_
     repeat (go_big_quiet_step ((go_at_call 68;exact below_call (HD.out _ (BelowW.h _)))))
     refine wpQuiet_nil ?_
     intro _ hw'
     obtain⟨y,hw''⟩:=hw'
     subst hw''
     clear f0 f3 f4 f6
     go_wp2_with (fail)
     go_roundw
     case rel=>exact⟨j+1,by go_num,by omega,Lib.hid HCn2.out.symm,Lib.hid (HBw.out.trans (y.h.mono HBw.out.size))⟩
     case measure=>simp[intOf];omega
    | some d =>
     rw[hdx] at HD HCn2
     simp only[Option.getD_some,Option.isSome_some] at HD HCn2
     clear hdx
     go_upto_region 7 with (fail)
     refine wp_region_below wP (by kernel_rfl) (by kernel_rfl) (Below.refl _ _) ?_
     repeat (go_big_quiet_step ((go_at_call 68;exact below_call (HD.out _ (BelowW.h _)))))
     refine wpQuiet_nil ?_
     intro _ hw'
     obtain⟨y,hw''⟩:=hw'
     subst hw''
     have hY:=HBV.out.trans (y.h.mono HBV.out.size)
     obtain⟨-,a1,a2,a3,-⟩:=HAt.out y.v hY
     have A1:=Lib.hid a1
     have A2:=Lib.hid a2
     have A3:=Lib.hid a3
     obtain⟨l0,l1,l2,l3,l4,l5,l6,l7⟩:=lineObj_cells a1
     obtain⟨z0,z1,z2,z3,z4,z5,z6,z7⟩:=lineObj_cells a2
     obtain⟨fl0,fl1,fl2,fl3,fl4,fl5,fl6,fl7⟩:=line_frozen8 a1
     obtain⟨fz0,fz1,fz2,fz3,fz4,fz5,fz6,fz7⟩:=line_frozen8 a2
     have hneq:w.heap.size≠w.heap.size+1:=by omega
     clear f0 f3 f4 f6 a1 a2 a3 hY
     go_wp2_with (fail)
     have hput:(put8 ((y.v.setCell ⟨w.heap.size,6,none⟩ (.int .i64 d)).setCell ⟨w.heap.size,7,none⟩ (.string ⟨c.toArray⟩)) (w.heap.size+1) id item qty asked rank st d c).heap[w.heap.size+1]? = some (lineObj id item qty asked rank st d c):=put8_at (by rw[setCell_block _ _ _ _ (by omega),setCell_block _ _ _ _ (by omega)];exact A2.out) _ _ _ _ _ _ _ _
     have hbel:Below w.heap.size w (put8 ((y.v.setCell ⟨w.heap.size,6,none⟩ (.int .i64 d)).setCell ⟨w.heap.size,7,none⟩ (.string ⟨c.toArray⟩)) (w.heap.size+1) id item qty asked rank st d c):=put8_below (below_set (below_set A3.out _ _ _ (Nat.le_refl _)) _ _ _ (Nat.le_refl _)) _ _ _ _ _ _ _ _ _ (by omega)
     obtain⟨W9,hW9⟩:∃ V,V=put8 ((y.v.setCell ⟨w.heap.size,6,none⟩ (.int .i64 d)).setCell ⟨w.heap.size,7,none⟩ (.string ⟨c.toArray⟩)) (w.heap.size+1) id item qty asked rank st d c:=⟨_,rfl⟩
     rw[<- hW9] at hput hbel
     unfold put8 at hW9
     rw[<- hW9]
     unfold lineObj at hput
     refine bodyPost_ret (results_cell_row (P:=Tryz.prog) (fn:=Tryz.f38) (p:=4) (ty:=29) rfl _ W9 (w.heap.size+1) 29 _ (0,0) _ rfl hput Tryz.underlying29 rfl (by kernel_rfl)) rfl ?_
     exact⟨by rw[HCn2.out],hbel⟩
   ·have hv:=HNE.out hE
    subst hv
    have HCn2:=Lib.hid HCn.out
    rw[show partsO X c qty=none by unfold partsO;rw[if_neg hE]] at HCn2
    simp only at HCn2
    clear HOP HNE HCn
    generalize partsE X c qty=er at hE
    go_wp2_with (fail)
    go_roundw
    case rel=>exact⟨j+1,by go_num,by omega,Lib.hid HCn2.out.symm,HBw⟩
    case measure=>simp[intOf];omega
  ·have ej:j=m:=by omega
   have HCn2:Hid (R=⟨id,item,qty,asked,rank,st,-1,[]⟩):=Lib.hid (by rw[<- HC.out,ej,HM.out,List.drop_length];rfl)
   obtain⟨-,a1,a2,a3,-⟩:=HAt.out wo HBo.out
   have A2:=Lib.hid a2
   have A3:=Lib.hid a3
   obtain⟨l0,l1,l2,l3,l4,l5,l6,l7⟩:=lineObj_cells a1
   obtain⟨z0,z1,z2,z3,z4,z5,z6,z7⟩:=lineObj_cells a2
   obtain⟨fz0,fz1,fz2,fz3,fz4,fz5,fz6,fz7⟩:=line_frozen8 a2
   clear a1 a2 a3 HC ej
   go_wp2_with (fail)
   have hput:(put8 wo (w.heap.size+1) id item qty asked rank st (-1) ([]:List UInt8)).heap[w.heap.size+1]? = some (lineObj id item qty asked rank st (-1) ([]:List UInt8)):=put8_at (by exact A2.out) _ _ _ _ _ _ _ _
   have hbel:Below w.heap.size w (put8 wo (w.heap.size+1) id item qty asked rank st (-1) ([]:List UInt8)):=put8_below (A3.out) _ _ _ _ _ _ _ _ _ (by omega)
   obtain⟨W9,hW9⟩:∃ V,V=put8 wo (w.heap.size+1) id item qty asked rank st (-1) ([]:List UInt8):=⟨_,rfl⟩
   rw[<- hW9] at hput hbel
   unfold put8 at hW9
   rw[<- hW9]
   unfold lineObj at hput
   refine bodyPost_ret (results_cell_row (P:=Tryz.prog) (fn:=Tryz.f38) (p:=4) (ty:=29) rfl _ W9 (w.heap.size+1) 29 _ (0,0) _ rfl hput Tryz.underlying29 rfl (by kernel_rfl)) rfl ?_
   exact⟨by rw[HCn2.out],hbel⟩
end Go.Proofs.YtgplnekpgdhcpaaGreat
