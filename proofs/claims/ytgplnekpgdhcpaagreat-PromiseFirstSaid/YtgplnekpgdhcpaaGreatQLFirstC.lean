/- PromiseFirst: the piece from what the others want on. (Printed by gen/lfirst.py.) -/
import Derived.Test.YtgplnekpgdhcpaaGreatQLFirstB
namespace Go.Proofs.YtgplnekpgdhcpaaGreat
open Go.RowKit Go.Sort Go.Lib Go.Shelf
set_option maxHeartbeats 16000000 in
set_option maxRecDepth 100000 in
theorem lfirst_c (now nl nx:Int) (a1:Option Addr) (n1 c1:Nat) (X:List It) (a2:Option Addr) (n2 c2:Nat) (L:List LotV) (a3:Option Addr) (n3 c3:Nat) (sb lb xb:Nat) (id:Int) (item:List UInt8) (qty asked rank st day:Int) (code:List UInt8) (xid:Int) (xitem:List UInt8) (xqty xasked xrank xst xday:Int) (xcode:List UInt8) (V:World) (R:Ending->World->Prop) (hX:RI V.heap.size V a1 n1 c1 X) (hL:lotE.In V.heap.size V a2 n2 c2 L) (m1:n1<=12) (m2:n2<=12) (hsz:∀ x∈X,x.ps.length * 24<=140737488355328/\x.os.length * 16<=140737488355328) (hs:V.heap[sb]? = some (stObj now nl nx (.slice a1 n1 c1) (.slice a2 n2 c2) (.slice a3 n3 c3))) (hl:V.heap[lb]? = some (lineObj id item qty asked rank st day code)) (hx:V.heap[xb]? = some (lineObj xid xitem xqty xasked xrank xst xday xcode)) (oa:Option Addr) (on oc:Nat) (O:List LineV) (hO:lineE.In V.heap.size V oa on oc O) (hon:on<=12) (hF:FirS now X L (wantsN (partsO X) O) (⟨id,item,qty,asked,rank,st,day,code⟩:LineV) (⟨xid,xitem,xqty,xasked,xrank,xst,xday,xcode⟩:LineV)) (dd pp:Int) (hdd:-9223372036854775808<=dd/\dd<=9223372036854775807) (hpp:-9223372036854775808<=pp/\pp<=9223372036854775807) (hR:∀ w',Below V.heap.size V w'->R (.returned (.bool true)) w') (s0 s1 s6 s7 s8 s11 s12 s13 s14 s15 s16 s17 s18 s19 s20 s21 s22 s23 s24 s25 s26 s27 s28 s29 s30 s31 s32 s33 s34 s35 s36 s37 s38 s39 s40 s41 s42 s43 s44 s45 s46 s47 s48 s49 s50 s51 s52 s53 s54 s55 s56 s57 s58 s59 s60 s61 s62 s63 s64 s65 s66 s67 s68 s69 s70 s71 s72 s73 s74 s75 s76 s77 s78 s79 s80 s81 s82 s83 s84 s85 s86 s87 s88 s89 s90 s91 s92 s93 s94 s95 s96 s97 s98 s99 s100 s101 s102 s103 s104 s105 s106 s107 s108 s109 s110 s111 s112 s113 s114 s115 s116 s117 s118 s119 s120 s121 s122 s123 s124 s125 s126 s127 s128 s129 s130 s131 s132 s133 s134 s135 s136 s137 s138 s139 s140 s141 s142 s143 s144 s145 s146 s147 s148 s149 s150 s151 s152 s153 s154 s155 s156 s157 s158 s159 s160 s161 s162 s163 s164 s165 s166 s167 s168 s169 s170 s171 s172 s173 s174 s175 s176 s177 s178 s179 s180 s181 s182 s183 s184 s185 s186 s187 s188 s189 s190 s191 s192 s193 s194 s195 s196 s197 s198 s199 s200 s201 s202 s203 s204 s205 s206 s207 s208 s209 s210 s211 s212 s213 s214 s215 s216 s217 s218 s219 s220:Value) :
  Code.wp Tryz.prog (dropQ 6 (Tryz.f5.body.getD .skip)) (bodyPost Tryz.prog Tryz.f5 R) ⟨List.toArray (s0 :: s1 :: (.int .i64 dd) :: (.int .i64 pp) :: (.pointer (some ⟨sb,0,none⟩)) :: (.pointer (some ⟨lb,0,none⟩)) :: s6 :: s7 :: s8 :: (.pointer (some ⟨xb,0,none⟩)) :: (.slice oa on oc) :: s11 :: s12 :: s13 :: s14 :: s15 :: s16 :: s17 :: s18 :: s19 :: s20 :: s21 :: s22 :: s23 :: s24 :: s25 :: s26 :: s27 :: s28 :: s29 :: s30 :: s31 :: s32 :: s33 :: s34 :: s35 :: s36 :: s37 :: s38 :: s39 :: s40 :: s41 :: s42 :: s43 :: s44 :: s45 :: s46 :: s47 :: s48 :: s49 :: s50 :: s51 :: s52 :: s53 :: s54 :: s55 :: s56 :: s57 :: s58 :: s59 :: s60 :: s61 :: s62 :: s63 :: s64 :: s65 :: s66 :: s67 :: s68 :: s69 :: s70 :: s71 :: s72 :: s73 :: s74 :: s75 :: s76 :: s77 :: s78 :: s79 :: s80 :: s81 :: s82 :: s83 :: s84 :: s85 :: s86 :: s87 :: s88 :: s89 :: s90 :: s91 :: s92 :: s93 :: s94 :: s95 :: s96 :: s97 :: s98 :: s99 :: s100 :: s101 :: s102 :: s103 :: s104 :: s105 :: s106 :: s107 :: s108 :: s109 :: s110 :: s111 :: s112 :: s113 :: s114 :: s115 :: s116 :: s117 :: s118 :: s119 :: s120 :: s121 :: s122 :: s123 :: s124 :: s125 :: s126 :: s127 :: s128 :: s129 :: s130 :: s131 :: s132 :: s133 :: s134 :: s135 :: s136 :: s137 :: s138 :: s139 :: s140 :: s141 :: s142 :: s143 :: s144 :: s145 :: s146 :: s147 :: s148 :: s149 :: s150 :: s151 :: s152 :: s153 :: s154 :: s155 :: s156 :: s157 :: s158 :: s159 :: s160 :: s161 :: s162 :: s163 :: s164 :: s165 :: s166 :: s167 :: s168 :: s169 :: s170 :: s171 :: s172 :: s173 :: s174 :: s175 :: s176 :: s177 :: s178 :: s179 :: s180 :: s181 :: s182 :: s183 :: s184 :: s185 :: s186 :: s187 :: s188 :: s189 :: s190 :: s191 :: s192 :: s193 :: s194 :: s195 :: s196 :: s197 :: s198 :: s199 :: s200 :: s201 :: s202 :: s203 :: s204 :: s205 :: s206 :: s207 :: s208 :: s209 :: s210 :: s211 :: s212 :: s213 :: s214 :: s215 :: s216 :: s217 :: s218 :: s219 :: s220 :: []),[]⟩ V:=by
 have HC:=Lib.hid (fun (U:World) (hb:Below V.heap.size V U)=>And.intro (stObj_cells ((hb.block sb (Array.getElem?_eq_some_iff.1 hs).1).trans hs)) (And.intro (lineObj_cells ((hb.block lb (Array.getElem?_eq_some_iff.1 hl).1).trans hl)) (lineObj_cells ((hb.block xb (Array.getElem?_eq_some_iff.1 hx).1).trans hx))))
 have hXl:X.length<=12:=by rw[<- hX.len];exact m1
 have hOl:O.length<=12:=by rw[<- hO.len];exact hon
 have HWa:=Lib.hid (Wants_any V.heap.size a1 n1 c1 X oa on oc O V hX hO (Nat.le_refl _) (by omega) (by omega))
 obtain⟨W,hW⟩:∃ W,W=wantsN (partsO X) O:=⟨_,rfl⟩
 rw[<- hW] at HWa hF
 obtain⟨wl,hwl⟩:∃ n,n=W.length:=⟨_,rfl⟩
 obtain⟨Q,hQ⟩:∃ Q,Q=wantsN (partsO X) [(⟨xid,xitem,xqty,xasked,xrank,xst,xday,xcode⟩:LineV)]:=⟨_,rfl⟩
 have HWn:=Lib.hid (fun (U:World) (hb:Below V.heap.size V U) (a:Option Addr) (c:Nat) (hl:lineE.In U.heap.size U a 1 c [(⟨xid,xitem,xqty,xasked,xrank,xst,xday,xcode⟩:LineV)])=>Wants_any U.heap.size a1 n1 c1 X a 1 c [(⟨xid,xitem,xqty,xasked,xrank,xst,xday,xcode⟩:LineV)] U ((hX.below hb).mono hb.size) hl (Nat.le_refl _) (by omega) (by simp))
 have hgot:=hF.got
 rw[<- hQ] at HWn hgot
 unfold WnP at HWn HWa
 obtain⟨ql,hql⟩:∃ n,n=Q.length:=⟨_,rfl⟩
 rw[<- hql] at HWn hgot
 rw[<- hwl] at HWa
 have HGOT:=Lib.hid hgot
 have HQL:=Lib.hid hql
 have HWL:=Lib.hid hwl
 have HXF:=Lib.hid hF.xf
 have hn0:=hF.n0
 have hn4:=hF.n4
 have HX:=Lib.hid hX
 have HL:=Lib.hid hL
 have HS:=Lib.hid hs
 have HLb:=Lib.hid hl
 have HXb:=Lib.hid hx
 have HF:=Lib.hid hF
 have HRR:=Lib.hid hR
 have HSZ:=Lib.hid hsz
 have hlsb:=Lib.hid (Array.getElem?_eq_some_iff.1 hs).1
 have hllb:=Lib.hid (Array.getElem?_eq_some_iff.1 hl).1
 have hlxb:=Lib.hid (Array.getElem?_eq_some_iff.1 hx).1
 obtain⟨⟨y0,y1,y2,y3,y4,y5⟩,⟨l0,l1,l2,l3,l4,l5,l6,l7⟩,⟨x0,x1,x2,x3,x4,x5,x6,x7⟩⟩:=HC.out V (Below.refl _ _)
 clear hX hL hs hl hx hF hR hsz hO hW hwl hQ hql hgot
 conv=>arg 2;whnf
 go_upto_region 13 with (go_at_call 14;refine HWa.out.mono ?_;rintro e w1 ⟨⟨⟨wa,wc,rfl,ho⟩,hb⟩,hlw,hfw⟩;have B1:=Lib.hid hb;have OW:=Lib.hid ho;have HWF:=Lib.hid hfw;have LW:=Lib.hid hlw;clear hb ho hfw hlw)
 clear y0 y1 y2 y3 y4 y5 l0 l1 l2 l3 l4 l5 l6 l7 x0 x1 x2 x3 x4 x5 x6 x7
 obtain⟨⟨y0,y1,y2,y3,y4,y5⟩,⟨l0,l1,l2,l3,l4,l5,l6,l7⟩,⟨x0,x1,x2,x3,x4,x5,x6,x7⟩⟩:=HC.out w1 B1.out
 obtain⟨W1,hW1⟩:∃ U,U=w1.alloc (lineObj xid xitem xqty xasked xrank xst xday xcode):=⟨_,rfl⟩
 have bW1:Below w1.heap.size w1 W1:=by rw[hW1];exact below_allocL _ _
 have HW1:=Lib.hid (show w1.alloc (lineObj xid xitem xqty xasked xrank xst xday xcode)=W1 from hW1.symm)
 have HLL:=Lib.hid (show lineE.In W1.heap.size W1 (some ⟨w1.heap.size,0,none⟩) 1 1 [(⟨xid,xitem,xqty,xasked,xrank,xst,xday,xcode⟩:LineV)] from line_lit (by rw[hW1];exact heap_alloc_new _ _) HXF.out)
 have BW1:=Lib.hid (B1.out.trans (bW1.mono B1.out.size))
 have BW1w:=Lib.hid bW1
 have HWcall:=Lib.hid (HWn.out W1 BW1.out _ _ HLL.out)
 unfold lineObj at HW1
 clear hW1 bW1
 go_upto_region 14 with (go_at_call 14;rw[HW1.out];refine HWcall.out.mono ?_;rintro e w2 ⟨⟨⟨qa,qc,rfl,ho⟩,hb⟩,hlq,hfq⟩;have B2:=Lib.hid (BW1.out.trans (hb.mono BW1.out.size));have B12:=Lib.hid (BW1w.out.trans (hb.mono BW1w.out.size));have OQ:=Lib.hid ho;have FQ:=Lib.hid hfq;have LQ:=Lib.hid hlq;clear hb ho hfq hlq)
 clear y0 y1 y2 y3 y4 y5 l0 l1 l2 l3 l4 l5 l6 l7 x0 x1 x2 x3 x4 x5 x6 x7
 have INQ:Hid (wantE.In w2.heap.size w2 qa ql qc Q):=Lib.hid (own_inW OQ.out HQL.out FQ.out)
 have INW:Hid (wantE.In w1.heap.size w1 wa wl wc W):=Lib.hid (own_inW OW.out HWL.out HWF.out)
 have hleq:=INQ.out.le
 have hmxq:=INQ.out.mx
 have hlew:=INW.out.le
 have hmxw:=INW.out.mx
 have hql100:ql<=12:=by have:=LQ.out;simp only[List.length_cons,List.length_nil,Nat.zero_add,Nat.one_mul] at this;omega
 have hwl:wl<=100000:=by have:=LW.out;have:=Nat.mul_le_mul hOl hXl;omega
 have HEND:=Lib.hid (fun (U:World) (hb2:Below w2.heap.size w2 U)=>(have hb:Below V.heap.size V U:=B2.out.trans (hb2.mono B2.out.size);have hw:wantE.In U.heap.size U wa wl wc W:=(INW.out.below (B12.out.trans (hb2.mono B12.out.size))).mono (B12.out.trans (hb2.mono B12.out.size)).size;lfirst_b now nl nx a1 n1 c1 X a2 n2 c2 L a3 n3 c3 sb lb xb id item qty asked rank st day code xid xitem xqty xasked xrank xst xday xcode U R ((HX.out.below hb).mono hb.size) ((HL.out.below hb).mono hb.size) m1 m2 HSZ.out ((hb.block sb hlsb.out).trans HS.out) ((hb.block lb hllb.out).trans HLb.out) ((hb.block xb hlxb.out).trans HXb.out) wa wl wc W hw hwl HF.out HWF.out dd pp hdd hpp (fun w' hb2=>HRR.out w' (hb.trans (hb2.mono hb.size)))))
 have HC2:=Lib.hid (fun (U:World) (hb:Below w2.heap.size w2 U)=>(show U.cell? ⟨sb,0,none⟩=some (.int .i64 now)/\U.cell? ⟨sb,4,none⟩=some (.slice a2 n2 c2)/\U.cell? ⟨lb,3,none⟩=some (.int .i64 asked)/\U.cell? ⟨xb,6,none⟩=some (.int .i64 xday) from by
  obtain⟨⟨y0,-,-,-,y4,-⟩,⟨-,-,-,l3,-⟩,⟨-,-,-,-,-,-,x6,-⟩⟩:=HC.out U (B2.out.trans (hb.mono B2.out.size))
  exact⟨y0,y4,l3,x6⟩))
 by_cases hxd:xday < 0
 ·have d0:decide (0<=xday)=false:=by simp;omega
  have f0:∀ z:BelowW w2,z.v.cell? ⟨xb,6,none⟩=some (.int .i64 xday):=fun z=>(HC2.out z.v z.h).2.2.2
  clear hxd
  refine wp_region_below (w2) (by kernel_rfl) (by kernel_rfl) (Below.refl _ _) ?_
  repeat (go_big_quiet_step (fail))
  refine wpQuiet_nil ?_
  intro _ hw'
  obtain⟨y9,hw''⟩:=hw'
  subst hw''
  clear f0
  go_upto_if 116 with (fail)
  iterate 4 go_step
  exact HEND.out y9.v y9.h _ _ _ _ _ _ _ _ _ _ _ _ _ _ _ _ _ _ _ _ _ _ _ _ _ _ _ _ _ _ _ _ _ _ _ _ _ _ _ _ _ _ _ _ _ _ _ _ _ _ _ _ _ _ _ _ _ _ _ _ _ _ _ _ _ _ _ _ _ _ _ _ _ _ _ _ _ _ _ _ _ _ _ _ _ _ _ _ _ _ _ _ _ _ _ _ _ _ _ _ _ _ _ _ _ _ _ _ _ _ _ _ _ _ _ _ _ _ _ _ _ _ _ _ _ _ _ _ _ _ _ _ _ _ _ _ _ _ _ _ _ _ _ _ _ _ _ _ _ _ _ _ _ _ _ _ _ _ _ _ _ _ _ _ _ _ _ _ _ _ _ _ _ _ _ _ _ _ _ _ _ _ _ _ _ _ _ _ _ _ _ _ _ _ _ _ _ _ _ _ _ _ _ _ _ _ _ _ _ _ _ _ _ _ _
 obtain⟨g1,g2,g3,g4,g5,g6⟩:=HGOT.out (by omega)
 try simp only at g1 g2 g3 g4
 have HFit:=Lib.hid g5
 have d0:decide (0<=xday)=true:=by simp;omega
 have d1:decide (xday < now)=false:=by simp;omega
 have d2:decide (xday < asked)=false:=by simp;omega
 have d3:decide (now+400 < xday)=false:=by simp;omega
 have d4:decide (4000 < xday)=false:=by simp;omega
 have e0:((ql:Int) == 0)=false:=by simp;omega
 have fnow:IntKind.i64.wrap (now+400)=now+400:=wrap_in (by omega) (by omega)
 clear hxd g1 g2 g3 g4 g5 g6
 have HIN2:=Lib.hid (fun (U:World) (hb:Below w2.heap.size w2 U)=>(show lotE.In U.heap.size U a2 n2 c2 L/\wantE.In w2.heap.size U wa wl wc W/\wantE.In w2.heap.size U qa ql qc Q from ⟨(HL.out.below (B2.out.trans (hb.mono B2.out.size))).mono (B2.out.trans (hb.mono B2.out.size)).size,((INW.out.below (B12.out.trans (hb.mono B12.out.size))).mono B12.out.size),INQ.out.below hb⟩))
 have BA:Hid (Below w2.heap.size w2 (w2.alloc (.cells #[] 71)).drew):=Lib.hid (below_drewP (below_allocL _ _))
 have OA:Hid (wantE.Own w2.heap.size (w2.alloc (.cells #[] 71)).drew (.slice (some ⟨w2.heap.size,0,none⟩) 0 0) []):=Lib.hid (want_lit0 w2).drew
 obtain⟨aA0,aA4,aA3,aA6⟩:=HC2.out _ BA.out
 have hn2le:n2<=100000000:=by omega
 obtain⟨s0,s4,l3,x6⟩:=HC2.out w2 (Below.refl _ _)
 go_region_held3 (fun w'=>(w'.cell? ⟨sb,0,none⟩=some (.int .i64 now))/\(w'.cell? ⟨sb,4,none⟩=some (.slice a2 n2 c2))/\(w'.cell? ⟨lb,3,none⟩=some (.int .i64 asked))/\(w'.cell? ⟨xb,6,none⟩=some (.int .i64 xday))/\Hid (Below w2.heap.size w2 w')) (first | exact⟨by assumption,by assumption,by assumption,by assumption,Lib.hid (below_drewP (Below.refl _ _))⟩ | exact⟨by assumption,by assumption,by assumption,by assumption,by assumption⟩ | go_keep) (first | (go_at_call 22;(with_reducible refine (fits_any w7.heap.size a2 a7 n2 c2 (wl+ql) c7 L (W ++ Q) w7 (HIN2.out w7 B7.out).1 IN7.out (Nat.le_refl _) hn2le).mono ?_);rintro e w8 ⟨rfl,hb8⟩;rw[HFit.out];have B8:Hid (Below w2.heap.size w2 w8):=Lib.hid (B7.out.trans (hb8.mono B7.out.size));obtain⟨s0,s4,l3,x6⟩:=HC2.out w8 B8.out;clear hb8) | (refine step_appendNw wantE (by rfl) _ _ rfl w2.heap.size a6 (0+wl) c6 ([] ++ W) Q ql HQL.out (by rw[Nat.zero_add];exact HWL.out) rfl O6.out qa qc rfl (HIN2.out _ B6.out).2.2.src B6.out.size (by omega) ?_;intro a7 c7 w7 ho7 hg7;have B7:Hid (Below w2.heap.size w2 w7):=Lib.hid (B6.out.grown hg7 B6.out.size (fun r e=>(O6.out.ge r e).1));have O7:Hid (wantE.Own w2.heap.size w7 (.slice a7 (wl+ql) c7) (W ++ Q)):=Lib.hid (by rw[Nat.zero_add] at ho7;exact ho7);obtain⟨s0,s4,l3,x6⟩:=HC2.out w7 B7.out;have IN7:Hid (wantE.In w7.heap.size w7 a7 (wl+ql) c7 (W ++ Q)):=Lib.hid (own_inW O7.out (by rw[List.length_append,<- HWL.out,<- HQL.out]) (fun x hx=>by rcases List.mem_append.1 hx with hx | hx;exact HWF.out x hx;exact FQ.out x hx));clear ho7 hg7) | (refine step_appendNw wantE (by rfl) _ _ rfl w2.heap.size (some ⟨w2.heap.size,0,none⟩) 0 0 [] W wl HWL.out rfl rfl OA.out wa wc rfl (HIN2.out _ BA.out).2.1.src BA.out.size (by omega) ?_;intro a6 c6 w6 ho6 hg6;have B6:Hid (Below w2.heap.size w2 w6):=Lib.hid (BA.out.grown hg6 BA.out.size (fun r e=>(OA.out.ge r e).1));have O6:Hid (wantE.Own w2.heap.size w6 (.slice a6 (0+wl) c6) ([] ++ W)):=Lib.hid ho6;obtain⟨s0,s4,l3,x6⟩:=HC2.out w6 B6.out;clear ho6 hg6))
 go_upto_if 116 with (fail)
 iterate 4 go_step
 exact HEND.out w8 B8.out _ _ _ _ _ _ _ _ _ _ _ _ _ _ _ _ _ _ _ _ _ _ _ _ _ _ _ _ _ _ _ _ _ _ _ _ _ _ _ _ _ _ _ _ _ _ _ _ _ _ _ _ _ _ _ _ _ _ _ _ _ _ _ _ _ _ _ _ _ _ _ _ _ _ _ _ _ _ _ _ _ _ _ _ _ _ _ _ _ _ _ _ _ _ _ _ _ _ _ _ _ _ _ _ _ _ _ _ _ _ _ _ _ _ _ _ _ _ _ _ _ _ _ _ _ _ _ _ _ _ _ _ _ _ _ _ _ _ _ _ _ _ _ _ _ _ _ _ _ _ _ _ _ _ _ _ _ _ _ _ _ _ _ _ _ _ _ _ _ _ _ _ _ _ _ _ _ _ _ _ _ _ _ _ _ _ _ _ _ _ _ _ _ _ _ _ _ _ _ _ _ _ _ _ _ _ _ _ _ _ _ _ _ _ _
end Go.Proofs.YtgplnekpgdhcpaaGreat
