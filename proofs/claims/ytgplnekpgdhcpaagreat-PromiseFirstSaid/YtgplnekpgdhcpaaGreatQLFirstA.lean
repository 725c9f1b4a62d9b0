/- PromiseFirst: the piece behind the loop over the codes. (Printed by gen/lfirst.py.) -/
import Derived.Test.YtgplnekpgdhcpaaGreatQLFirstZ
namespace Go.Proofs.YtgplnekpgdhcpaaGreat
open Go.RowKit Go.Sort Go.Lib Go.Shelf
set_option maxHeartbeats 16000000 in
set_option maxRecDepth 100000 in
theorem lfirst_a (now nl nx:Int) (a1:Option Addr) (n1 c1:Nat) (X:List It) (a2:Option Addr) (n2 c2:Nat) (L:List LotV) (a3:Option Addr) (n3 c3:Nat) (sb lb xb:Nat) (id:Int) (item:List UInt8) (qty asked rank st day:Int) (code:List UInt8) (xid:Int) (xitem:List UInt8) (xqty xasked xrank xst xday:Int) (xcode:List UInt8) (V:World) (R:Ending->World->Prop) (hX:RI V.heap.size V a1 n1 c1 X) (hL:lotE.In V.heap.size V a2 n2 c2 L) (m1:n1<=12) (m2:n2<=12) (hsz:∀ x∈X,x.ps.length * 24<=140737488355328/\x.os.length * 16<=140737488355328) (hs:V.heap[sb]? = some (stObj now nl nx (.slice a1 n1 c1) (.slice a2 n2 c2) (.slice a3 n3 c3))) (hl:V.heap[lb]? = some (lineObj id item qty asked rank st day code)) (hx:V.heap[xb]? = some (lineObj xid xitem xqty xasked xrank xst xday xcode)) (wa:Option Addr) (wl wc:Nat) (W:List WantV) (hW:wantE.In V.heap.size V wa wl wc W) (hWl:wl<=100000) (hF:FirS now X L W (⟨id,item,qty,asked,rank,st,day,code⟩:LineV) (⟨xid,xitem,xqty,xasked,xrank,xst,xday,xcode⟩:LineV)) (hWf:∀ x∈W,okWant x) (ca:Option Addr) (cn cc:Nat) (hT:txE.In V.heap.size V ca cn cc (rowX X item)) (k:Nat) (hk:k < cn) (fb:Bool) (hfb:fb=true↔∃ i:Nat,i<=k/\0<=xday/\(rowX X item)[i]? = some xcode) (dd:Int) (hdd:-9223372036854775808<=dd/\dd<=9223372036854775807) (hR:∀ w',Below V.heap.size V w'->R (.returned (.bool true)) w') (s0 s1 s3 s6 s7 s8 s10 s11 s13 s17 s18 s19 s20 s21 s22 s23 s24 s25 s26 s27 s28 s29 s30 s31 s32 s33 s34 s35 s36 s37 s38 s39 s40 s41 s42 s43 s44 s45 s46 s47 s48 s49 s50 s51 s52 s53 s54 s55 s56 s57 s58 s59 s60 s61 s62 s63 s64 s65 s66 s67 s68 s69 s70 s71 s72 s73 s74 s75 s76 s77 s78 s79 s80 s81 s82 s83 s84 s85 s86 s87 s88 s89 s90 s91 s92 s93 s94 s95 s96 s97 s98 s99 s100 s101 s102 s103 s104 s105 s106 s107 s108 s109 s110 s111 s112 s113 s114 s115 s116 s117 s118 s119 s120 s121 s122 s123 s124 s125 s126 s127 s128 s129 s130 s131 s132 s133 s134 s135 s136 s137 s138 s139 s140 s141 s142 s143 s144 s145 s146 s147 s148 s149 s150 s151 s152 s153 s154 s155 s156 s157 s158 s159 s160 s161 s162 s163 s164 s165 s166 s167 s168 s169 s170 s171 s172 s173 s174 s175 s176 s177 s178 s179 s180 s181 s182 s183 s184 s185 s186 s187 s188 s189 s190 s191 s192 s193 s194 s195 s196 s197 s198 s199 s200 s201 s202 s203 s204 s205 s206 s207 s208 s209 s210 s211 s212 s213 s214 s215 s216 s217 s218 s219 s220:Value) :
  Code.wp Tryz.prog (dropQ 14 (Tryz.f5.body.getD .skip)) (bodyPost Tryz.prog Tryz.f5 R) ⟨List.toArray (s0 :: s1 :: (.int .i64 dd) :: s3 :: (.pointer (some ⟨sb,0,none⟩)) :: (.pointer (some ⟨lb,0,none⟩)) :: s6 :: s7 :: s8 :: (.pointer (some ⟨xb,0,none⟩)) :: s10 :: s11 :: (.slice wa wl wc) :: s13 :: (.slice ca cn cc) :: (.int .i64 (k:Int)) :: (.bool fb) :: s17 :: s18 :: s19 :: s20 :: s21 :: s22 :: s23 :: s24 :: s25 :: s26 :: s27 :: s28 :: s29 :: s30 :: s31 :: s32 :: s33 :: s34 :: s35 :: s36 :: s37 :: s38 :: s39 :: s40 :: s41 :: s42 :: s43 :: s44 :: s45 :: s46 :: s47 :: s48 :: s49 :: s50 :: s51 :: s52 :: s53 :: s54 :: s55 :: s56 :: s57 :: s58 :: s59 :: s60 :: s61 :: s62 :: s63 :: s64 :: s65 :: s66 :: s67 :: s68 :: s69 :: s70 :: s71 :: s72 :: s73 :: s74 :: s75 :: s76 :: s77 :: s78 :: s79 :: s80 :: s81 :: s82 :: s83 :: s84 :: s85 :: s86 :: s87 :: s88 :: s89 :: s90 :: s91 :: s92 :: s93 :: s94 :: s95 :: s96 :: s97 :: s98 :: s99 :: s100 :: s101 :: s102 :: s103 :: s104 :: s105 :: s106 :: s107 :: s108 :: s109 :: s110 :: s111 :: s112 :: s113 :: s114 :: s115 :: s116 :: s117 :: s118 :: s119 :: s120 :: s121 :: s122 :: s123 :: s124 :: s125 :: s126 :: s127 :: s128 :: s129 :: s130 :: s131 :: s132 :: s133 :: s134 :: s135 :: s136 :: s137 :: s138 :: s139 :: s140 :: s141 :: s142 :: s143 :: s144 :: s145 :: s146 :: s147 :: s148 :: s149 :: s150 :: s151 :: s152 :: s153 :: s154 :: s155 :: s156 :: s157 :: s158 :: s159 :: s160 :: s161 :: s162 :: s163 :: s164 :: s165 :: s166 :: s167 :: s168 :: s169 :: s170 :: s171 :: s172 :: s173 :: s174 :: s175 :: s176 :: s177 :: s178 :: s179 :: s180 :: s181 :: s182 :: s183 :: s184 :: s185 :: s186 :: s187 :: s188 :: s189 :: s190 :: s191 :: s192 :: s193 :: s194 :: s195 :: s196 :: s197 :: s198 :: s199 :: s200 :: s201 :: s202 :: s203 :: s204 :: s205 :: s206 :: s207 :: s208 :: s209 :: s210 :: s211 :: s212 :: s213 :: s214 :: s215 :: s216 :: s217 :: s218 :: s219 :: s220 :: []),[]⟩ V:=by
 have HC:=Lib.hid (fun (U:World) (hb:Below V.heap.size V U)=>And.intro (stObj_cells ((hb.block sb (Array.getElem?_eq_some_iff.1 hs).1).trans hs)) (And.intro (lineObj_cells ((hb.block lb (Array.getElem?_eq_some_iff.1 hl).1).trans hl)) (lineObj_cells ((hb.block xb (Array.getElem?_eq_some_iff.1 hx).1).trans hx))))
 obtain⟨q0,q1,q2,q3,q4,q5,q6,-⟩:=hF.fine
 have hn0:=hF.n0
 have hn4:=hF.n4
 have ha0:=hF.a0
 have ha4:=hF.a4
 simp only at ha0 ha4
 obtain⟨cb,co,rfl,hcbB,hcc⟩:=(txE_rt hT).at_ (by have:=hT.le;omega)
 have hck:=hcc k hk
 have hTl:=hT.len
 have hcle:=hT.le
 have hcmx:=hT.mx
 have hget:(rowX X item)[k]? = some ((rowX X item).getD k []):=by rw[List.getD_eq_getElem?_getD,List.getElem?_eq_getElem (by omega)];rfl
 have hcf:=hT.fine ((rowX X item).getD k []) (List.mem_of_getElem? hget)
 obtain⟨c,hc⟩:∃ c,c=(rowX X item).getD k []:=⟨_,rfl⟩
 rw[<- hc] at hck hget hcf
 unfold encStr at hck
 have HCK:=Lib.hid (fun (U:World) (hb:Below V.heap.size V U)=>(hb.cell (p:=⟨cb,co+k,none⟩) hcbB).trans hck)
 have HX:=Lib.hid hX
 have HL:=Lib.hid hL
 have HS:=Lib.hid hs
 have HLb:=Lib.hid hl
 have HXb:=Lib.hid hx
 have HW:=Lib.hid hW
 have HWF:=Lib.hid hWf
 have HF:=Lib.hid hF
 have HFB:=Lib.hid hfb
 have HGET:=Lib.hid hget
 have HCF:=Lib.hid hcf
 have HRR:=Lib.hid hR
 have HSZ:=Lib.hid hsz
 have hlelw:=hW.le
 have hmxw:=hW.mx
 have HWLN:=Lib.hid hW.len
 have hki0:(0:Int)<=(k:Int):=by omega
 have hki1:(k:Int) < (cn:Int):=by omega
 have hlsb:sb < V.heap.size:=(Array.getElem?_eq_some_iff.1 hs).1
 have hllb:lb < V.heap.size:=(Array.getElem?_eq_some_iff.1 hl).1
 have hlxb:xb < V.heap.size:=(Array.getElem?_eq_some_iff.1 hx).1
 obtain⟨W2,hW2⟩:∃ U,U=V.alloc (lineObj id item qty asked rank st day c):=⟨_,rfl⟩
 have bW2:Below V.heap.size V W2:=by rw[hW2];exact below_allocL _ _
 have p2:W2.heap[V.heap.size]? = some (lineObj id item qty asked rank st day c):=by rw[hW2];exact heap_alloc_new _ _
 have HW2:=Lib.hid hW2
 have BW2:=Lib.hid bW2
 have P2:=Lib.hid p2
 obtain⟨yb,hyb⟩:∃ y,y=V.heap.size:=⟨_,rfl⟩
 have HYB:=Lib.hid hyb
 obtain⟨⟨y0,y1,y2,y3,y4,y5⟩,⟨l0,l1,l2,l3,l4,l5,l6,l7⟩,⟨x0,x1,x2,x3,x4,x5,x6,x7⟩⟩:=HC.out V (Below.refl _ _)
 have k1:=HCK.out (V.alloc (.cells #[.int .i64 id,.string ⟨item.toArray⟩,.int .i64 qty,.int .i64 asked,.int .i64 rank,.int .u8 st,.int .i64 day,.string ⟨code.toArray⟩] 29)) (below_allocL _ _)
 unfold lineObj at HW2
 clear hc hW2 bW2 p2 hX hL hs hl hx hW hWf hF hfb hget hcf hR hsz hcc hck hT hTl hyb q0 q1 q2 q3 q4 q5 q6
 conv=>arg 2;whnf
 go_upto_region 27 with (fail)
 rw[<- HW2.out,<- HYB.out]
 rw[<- HYB.out] at P2 hlsb hllb hlxb
 clear k1 y0 y1 y2 y3 y4 y5 l0 l1 l2 l3 l4 l5 l6 l7 x0 x1 x2 x3 x4 x5 x6 x7
 obtain⟨⟨y0,y1,y2,y3,y4,y5⟩,⟨l0,l1,l2,l3,l4,l5,l6,l7⟩,⟨x0,x1,x2,x3,x4,x5,x6,x7⟩⟩:=HC.out W2 BW2.out
 obtain⟨v0,v1,v2,v3,v4,v5,v6,v7⟩:=lineObj_cells P2.out
 have fy:=line_frozen P2.out 6
 have ne1:yb≠sb:=by omega
 have ne2:yb≠lb:=by omega
 go_region_held3 (fun w'=>(w'.cell? ⟨sb,0,none⟩=some (.int .i64 now))/\(w'.cell? ⟨lb,3,none⟩=some (.int .i64 asked))) (first | exact⟨by assumption,by assumption⟩ | go_keep) (first | (go_at_call 24;refine (Pick_any dd 30 _ hdd (by decide)).mono ?_;rintro e wp ⟨⟨k2,hk2,rfl⟩,rfl⟩;have fw:IntKind.i64.wrap (max asked now+(k2:Int))=max asked now+(k2:Int):=wrap_in (by omega) (by omega);have HK2:=Lib.hid hk2;clear hk2))
 all_goals (
  obtain⟨d,hd⟩:∃ d,d=max asked now+(k2:Int):=⟨_,rfl⟩
  have hk2:=HK2.out
  have hd1:max asked now<=d/\d<=8000:=by omega
  obtain⟨W3,hW3⟩:∃ U,U=(W2.setCell ⟨yb,6,none⟩ (.int .i64 d)).drew:=⟨_,rfl⟩
  have B3:Hid (Below V.heap.size V W3):=Lib.hid (by rw[hW3];exact below_drewP (below_set BW2.out _ _ _ (by rw[HYB.out];exact Nat.le_refl _)))
  have P3:Hid (W3.heap[yb]? = some (lineObj id item qty asked rank st d c)):=Lib.hid (by rw[hW3];exact line_put6 (W:=W2) P2.out d)
  go_upto_region 28 with (fail)
  rw[<- hd,<- hW3]
  have HD:=Lib.hid hd1
  clear hd hW3 fw hk2 hd1 y0 y1 y2 y3 y4 y5 l0 l1 l2 l3 l4 l5 l6 l7 x0 x1 x2 x3 x4 x5 x6 x7 v0 v1 v2 v3 v4 v5 v6 v7 fy
  have fnow:IntKind.i64.wrap (now+400)=now+400:=wrap_in (by omega) (by omega)
  have HG3:=Lib.hid (fun (U:World) (hb:Below W3.heap.size W3 U)=>(show U.cell? ⟨yb,6,none⟩=some (.int .i64 d)/\U.cell? ⟨sb,0,none⟩=some (.int .i64 now)/\U.cell? ⟨cb,co+k,none⟩=some (.string ⟨c.toArray⟩)/\U.cell? ⟨xb,7,none⟩=some (.string ⟨xcode.toArray⟩)/\U.cell? ⟨xb,6,none⟩=some (.int .i64 xday) from by
   have hbb:=B3.out.trans (hb.mono B3.out.size)
   obtain⟨⟨y0,-⟩,-,⟨-,-,-,-,-,-,x6,x7⟩⟩:=HC.out U hbb
   exact⟨(hb.cell (p:=⟨yb,6,none⟩) (Array.getElem?_eq_some_iff.1 P3.out).1).trans (lineObj_cells P3.out).2.2.2.2.2.2.1,y0,HCK.out U hbb,x7,x6⟩))
  have HEND:=Lib.hid (fun (U:World) (hb:Below W3.heap.size W3 U) (h5:(∃ i:Nat,i<=k/\0<=xday/\(rowX X item)[i]? = some xcode)->c=xcode/\d < xday) (h6:d<=now+400) (h7:d<=4000)=>lfirst_z now nl nx a1 n1 c1 X a2 n2 c2 L a3 n3 c3 sb yb id item qty asked rank st d c U R ((HX.out.below (B3.out.trans (hb.mono B3.out.size))).mono (B3.out.trans (hb.mono B3.out.size)).size) ((HL.out.below (B3.out.trans (hb.mono B3.out.size))).mono (B3.out.trans (hb.mono B3.out.size)).size) m1 m2 (((B3.out.trans (hb.mono B3.out.size)).block sb (by rw[<- HYB.out];exact hlsb)).trans HS.out) ((hb.block yb (Array.getElem?_eq_some_iff.1 P3.out).1).trans P3.out) (by obtain⟨q0,q1,q2,q3,q4,q5,q6,q7⟩:=HF.out.fine;exact⟨q0,q1,q2,q3,q4,q5,⟨by show -9223372036854775808<=d;have:=HD.out;omega,by show d<=9223372036854775807;have:=HD.out;omega⟩,HCF.out⟩) wa wl wc W ((HW.out.below (B3.out.trans (hb.mono B3.out.size))).mono (B3.out.trans (hb.mono B3.out.size)).size) hWl HWF.out (HF.out.ahead k c d HGET.out HD.out.1 h6 h7 h5) (fun w' hb2=>HRR.out w' (B3.out.trans ((hb.trans (hb2.mono hb.size)).mono B3.out.size))))
  have f0:∀ z:BelowW W3,z.v.cell? ⟨yb,6,none⟩=some (.int .i64 d):=fun z=>(HG3.out z.v z.h).1
  have f1:∀ z:BelowW W3,z.v.cell? ⟨sb,0,none⟩=some (.int .i64 now):=fun z=>(HG3.out z.v z.h).2.1
  have f2:∀ z:BelowW W3,z.v.cell? ⟨cb,co+k,none⟩=some (.string ⟨c.toArray⟩):=fun z=>(HG3.out z.v z.h).2.2.1
  have f3:∀ z:BelowW W3,z.v.cell? ⟨xb,7,none⟩=some (.string ⟨xcode.toArray⟩):=fun z=>(HG3.out z.v z.h).2.2.2.1
  have f4:∀ z:BelowW W3,z.v.cell? ⟨xb,6,none⟩=some (.int .i64 xday):=fun z=>(HG3.out z.v z.h).2.2.2.2
  by_cases hd1:now+400 < d
  ·have d1:decide (now+400 < d)=true:=by simp[hd1]
   clear hd1
   refine wp_region_below (W3) (by kernel_rfl) (by kernel_rfl) (Below.refl _ _) ?_
   repeat (go_big_quiet_step (fail))
   refine wpQuiet_nil ?_
   intro _ hw'
   obtain⟨y9,hw''⟩:=hw'
   subst hw''
   clear f0 f1 f2 f3 f4
   go_wp2_with (fail)
   exact HRR.out _ (B3.out.trans (y9.h.mono B3.out.size))
  have d1:decide (now+400 < d)=false:=by simp;omega
  by_cases hd2:4000 < d
  ·have d2:decide (4000 < d)=true:=by simp[hd2]
   clear hd1 hd2
   refine wp_region_below (W3) (by kernel_rfl) (by kernel_rfl) (Below.refl _ _) ?_
   repeat (go_big_quiet_step (fail))
   refine wpQuiet_nil ?_
   intro _ hw'
   obtain⟨y9,hw''⟩:=hw'
   subst hw''
   clear f0 f1 f2 f3 f4
   go_wp2_with (fail)
   exact HRR.out _ (B3.out.trans (y9.h.mono B3.out.size))
  have d2:decide (4000 < d)=false:=by simp;omega
  have HDD:=Lib.hid (show d<=now+400/\d<=4000 by omega)
  clear hd1 hd2
  cases fb with
  | false =>
   have h5:(∃ i:Nat,i<=k/\0<=xday/\(rowX X item)[i]? = some xcode)->c=xcode/\d < xday:=fun h=>by have:=HFB.out.2 h;cases this
   have H5:=Lib.hid h5
   clear h5
   refine wp_region_below (W3) (by kernel_rfl) (by kernel_rfl) (Below.refl _ _) ?_
   repeat (go_big_quiet_step (fail))
   refine wpQuiet_nil ?_
   intro _ hw'
   obtain⟨y9,hw''⟩:=hw'
   subst hw''
   clear f0 f1 f2 f3 f4
   go_upto_if 201 with (fail)
   iterate 4 go_step
   exact HEND.out y9.v y9.h H5.out HDD.out.1 HDD.out.2 _ _ _ _ _ _ _ _ _ _ _ _ _ _ _ _ _ _ _ _ _ _ _ _ _ _ _ _ _ _ _ _ _ _ _ _ _ _ _ _ _ _ _ _ _ _ _ _ _ _ _ _ _ _ _ _ _ _ _ _ _ _ _ _ _ _ _ _ _ _ _ _ _ _ _ _ _ _ _ _ _ _ _ _ _ _ _ _ _ _ _ _ _ _ _ _ _ _ _ _ _ _ _ _ _ _ _ _ _ _ _ _ _ _ _ _ _ _ _ _ _ _ _ _ _ _ _ _ _ _ _ _ _ _ _ _ _ _ _ _ _ _ _ _ _ _ _ _ _ _ _ _ _ _ _ _ _ _ _ _ _ _ _ _ _ _ _ _ _ _ _ _ _ _ _ _ _ _ _ _ _ _ _ _ _ _ _ _ _ _ _ _ _ _ _ _ _ _ _ _ _ _ _ _ _ _ _ _ _ _ _ _ _ _ _ _ _ _
  | true =>
   by_cases hcx:c=xcode
   ·have e3:(c == xcode)=true:=by simp[hcx]
    have e4:(c != xcode)=false:=by simp[hcx]
    by_cases hdx:xday<=d
    ·have d3:decide (xday<=d)=true:=by simp[hdx]
     clear hdx hcx
     refine wp_region_below (W3) (by kernel_rfl) (by kernel_rfl) (Below.refl _ _) ?_
     repeat (go_big_quiet_step (fail))
     refine wpQuiet_nil ?_
     intro _ hw'
     obtain⟨y9,hw''⟩:=hw'
     subst hw''
     clear f0 f1 f2 f3 f4
     go_wp2_with (fail)
     exact HRR.out _ (B3.out.trans (y9.h.mono B3.out.size))
    ·have d3:decide (xday<=d)=false:=by simp;omega
     have H5:=Lib.hid (fun (_:∃ i:Nat,i<=k/\0<=xday/\(rowX X item)[i]? = some xcode)=>(And.intro hcx (by omega:d < xday)))
     clear hdx hcx
     refine wp_region_below (W3) (by kernel_rfl) (by kernel_rfl) (Below.refl _ _) ?_
     repeat (go_big_quiet_step (fail))
     refine wpQuiet_nil ?_
     intro _ hw'
     obtain⟨y9,hw''⟩:=hw'
     subst hw''
     clear f0 f1 f2 f3 f4
     go_upto_if 201 with (fail)
     iterate 4 go_step
     exact HEND.out y9.v y9.h H5.out HDD.out.1 HDD.out.2 _ _ _ _ _ _ _ _ _ _ _ _ _ _ _ _ _ _ _ _ _ _ _ _ _ _ _ _ _ _ _ _ _ _ _ _ _ _ _ _ _ _ _ _ _ _ _ _ _ _ _ _ _ _ _ _ _ _ _ _ _ _ _ _ _ _ _ _ _ _ _ _ _ _ _ _ _ _ _ _ _ _ _ _ _ _ _ _ _ _ _ _ _ _ _ _ _ _ _ _ _ _ _ _ _ _ _ _ _ _ _ _ _ _ _ _ _ _ _ _ _ _ _ _ _ _ _ _ _ _ _ _ _ _ _ _ _ _ _ _ _ _ _ _ _ _ _ _ _ _ _ _ _ _ _ _ _ _ _ _ _ _ _ _ _ _ _ _ _ _ _ _ _ _ _ _ _ _ _ _ _ _ _ _ _ _ _ _ _ _ _ _ _ _ _ _ _ _ _ _ _ _ _ _ _ _ _ _ _ _ _ _ _ _ _ _ _ _
   ·have e3:(c == xcode)=false:=by simp[hcx]
    have e4:(c != xcode)=true:=by simp[hcx]
    clear hcx
    refine wp_region_below (W3) (by kernel_rfl) (by kernel_rfl) (Below.refl _ _) ?_
    repeat (go_big_quiet_step (fail))
    refine wpQuiet_nil ?_
    intro _ hw'
    obtain⟨y9,hw''⟩:=hw'
    subst hw''
    clear f0 f1 f2 f3 f4
    go_wp2_with (fail)
    exact HRR.out _ (B3.out.trans (y9.h.mono B3.out.size))
  )
end Go.Proofs.YtgplnekpgdhcpaaGreat
