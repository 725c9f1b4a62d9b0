/- PromiseFirst: the piece from the codes on. (Printed by gen/lfirst.py.) -/
import Derived.Test.YtgplnekpgdhcpaaGreatQLFirstA
namespace Go.Proofs.YtgplnekpgdhcpaaGreat
open Go.RowKit Go.Sort Go.Lib Go.Shelf
theorem rowX_len {X:List It} {c:List UInt8} (h:∀ x∈X,x.os.length * 16<=140737488355328):(rowX X c).length<=140737488355328:=by
 unfold rowX
 cases hf:X.find? (fun x=>decide (x.code=c)) with
 | none=>simp
 | some x =>
  have:=h x (List.mem_of_find?_eq_some hf)
  simp only[List.length_cons]
  omega
set_option maxHeartbeats 16000000 in
set_option maxRecDepth 100000 in
theorem lfirst_b (now nl nx:Int) (a1:Option Addr) (n1 c1:Nat) (X:List It) (a2:Option Addr) (n2 c2:Nat) (L:List LotV) (a3:Option Addr) (n3 c3:Nat) (sb lb xb:Nat) (id:Int) (item:List UInt8) (qty asked rank st day:Int) (code:List UInt8) (xid:Int) (xitem:List UInt8) (xqty xasked xrank xst xday:Int) (xcode:List UInt8) (V:World) (R:Ending->World->Prop) (hX:RI V.heap.size V a1 n1 c1 X) (hL:lotE.In V.heap.size V a2 n2 c2 L) (m1:n1<=12) (m2:n2<=12) (hsz:∀ x∈X,x.ps.length * 24<=140737488355328/\x.os.length * 16<=140737488355328) (hs:V.heap[sb]? = some (stObj now nl nx (.slice a1 n1 c1) (.slice a2 n2 c2) (.slice a3 n3 c3))) (hl:V.heap[lb]? = some (lineObj id item qty asked rank st day code)) (hx:V.heap[xb]? = some (lineObj xid xitem xqty xasked xrank xst xday xcode)) (wa:Option Addr) (wl wc:Nat) (W:List WantV) (hW:wantE.In V.heap.size V wa wl wc W) (hWl:wl<=100000) (hF:FirS now X L W (⟨id,item,qty,asked,rank,st,day,code⟩:LineV) (⟨xid,xitem,xqty,xasked,xrank,xst,xday,xcode⟩:LineV)) (hWf:∀ x∈W,okWant x) (dd pp:Int) (hdd:-9223372036854775808<=dd/\dd<=9223372036854775807) (hpp:-9223372036854775808<=pp/\pp<=9223372036854775807) (hR:∀ w',Below V.heap.size V w'->R (.returned (.bool true)) w') (s0 s1 s6 s7 s8 s10 s11 s13 s14 s15 s16 s17 s18 s19 s20 s21 s22 s23 s24 s25 s26 s27 s28 s29 s30 s31 s32 s33 s34 s35 s36 s37 s38 s39 s40 s41 s42 s43 s44 s45 s46 s47 s48 s49 s50 s51 s52 s53 s54 s55 s56 s57 s58 s59 s60 s61 s62 s63 s64 s65 s66 s67 s68 s69 s70 s71 s72 s73 s74 s75 s76 s77 s78 s79 s80 s81 s82 s83 s84 s85 s86 s87 s88 s89 s90 s91 s92 s93 s94 s95 s96 s97 s98 s99 s100 s101 s102 s103 s104 s105 s106 s107 s108 s109 s110 s111 s112 s113 s114 s115 s116 s117 s118 s119 s120 s121 s122 s123 s124 s125 s126 s127 s128 s129 s130 s131 s132 s133 s134 s135 s136 s137 s138 s139 s140 s141 s142 s143 s144 s145 s146 s147 s148 s149 s150 s151 s152 s153 s154 s155 s156 s157 s158 s159 s160 s161 s162 s163 s164 s165 s166 s167 s168 s169 s170 s171 s172 s173 s174 s175 s176 s177 s178 s179 s180 s181 s182 s183 s184 s185 s186 s187 s188 s189 s190 s191 s192 s193 s194 s195 s196 s197 s198 s199 s200 s201 s202 s203 s204 s205 s206 s207 s208 s209 s210 s211 s212 s213 s214 s215 s216 s217 s218 s219 s220:Value) :
  Code.wp Tryz.prog (dropQ 9 (Tryz.f5.body.getD .skip)) (bodyPost Tryz.prog Tryz.f5 R) ⟨List.toArray (s0 :: s1 :: (.int .i64 dd) :: (.int .i64 pp) :: (.pointer (some ⟨sb,0,none⟩)) :: (.pointer (some ⟨lb,0,none⟩)) :: s6 :: s7 :: s8 :: (.pointer (some ⟨xb,0,none⟩)) :: s10 :: s11 :: (.slice wa wl wc) :: s13 :: s14 :: s15 :: s16 :: s17 :: s18 :: s19 :: s20 :: s21 :: s22 :: s23 :: s24 :: s25 :: s26 :: s27 :: s28 :: s29 :: s30 :: s31 :: s32 :: s33 :: s34 :: s35 :: s36 :: s37 :: s38 :: s39 :: s40 :: s41 :: s42 :: s43 :: s44 :: s45 :: s46 :: s47 :: s48 :: s49 :: s50 :: s51 :: s52 :: s53 :: s54 :: s55 :: s56 :: s57 :: s58 :: s59 :: s60 :: s61 :: s62 :: s63 :: s64 :: s65 :: s66 :: s67 :: s68 :: s69 :: s70 :: s71 :: s72 :: s73 :: s74 :: s75 :: s76 :: s77 :: s78 :: s79 :: s80 :: s81 :: s82 :: s83 :: s84 :: s85 :: s86 :: s87 :: s88 :: s89 :: s90 :: s91 :: s92 :: s93 :: s94 :: s95 :: s96 :: s97 :: s98 :: s99 :: s100 :: s101 :: s102 :: s103 :: s104 :: s105 :: s106 :: s107 :: s108 :: s109 :: s110 :: s111 :: s112 :: s113 :: s114 :: s115 :: s116 :: s117 :: s118 :: s119 :: s120 :: s121 :: s122 :: s123 :: s124 :: s125 :: s126 :: s127 :: s128 :: s129 :: s130 :: s131 :: s132 :: s133 :: s134 :: s135 :: s136 :: s137 :: s138 :: s139 :: s140 :: s141 :: s142 :: s143 :: s144 :: s145 :: s146 :: s147 :: s148 :: s149 :: s150 :: s151 :: s152 :: s153 :: s154 :: s155 :: s156 :: s157 :: s158 :: s159 :: s160 :: s161 :: s162 :: s163 :: s164 :: s165 :: s166 :: s167 :: s168 :: s169 :: s170 :: s171 :: s172 :: s173 :: s174 :: s175 :: s176 :: s177 :: s178 :: s179 :: s180 :: s181 :: s182 :: s183 :: s184 :: s185 :: s186 :: s187 :: s188 :: s189 :: s190 :: s191 :: s192 :: s193 :: s194 :: s195 :: s196 :: s197 :: s198 :: s199 :: s200 :: s201 :: s202 :: s203 :: s204 :: s205 :: s206 :: s207 :: s208 :: s209 :: s210 :: s211 :: s212 :: s213 :: s214 :: s215 :: s216 :: s217 :: s218 :: s219 :: s220 :: []),[]⟩ V:=by
 have HC:=Lib.hid (fun (U:World) (hb:Below V.heap.size V U)=>And.intro (stObj_cells ((hb.block sb (Array.getElem?_eq_some_iff.1 hs).1).trans hs)) (And.intro (lineObj_cells ((hb.block lb (Array.getElem?_eq_some_iff.1 hl).1).trans hl)) (lineObj_cells ((hb.block xb (Array.getElem?_eq_some_iff.1 hx).1).trans hx))))
 have hif:=hF.fine.2.1
 have hRow:=Row_any V.heap.size a1 n1 c1 X item V hX (Nat.le_refl _) hif (fun x hx=>(hsz x hx).2)
 have hTf:=rowX_fine (X:=X) (c:=item) hif (fun x hx t ht=>(hX.ok x hx).rt.fine t ht)
 have hTl:=rowX_len (X:=X) (c:=item) (fun x hx=>(hsz x hx).2)
 obtain⟨tl,htl⟩:∃ n,n=(rowX X item).length:=⟨_,rfl⟩
 rw[<- htl] at hRow hTl
 have HTL:=Lib.hid htl
 have HRow:=Lib.hid hRow
 have HTF:=Lib.hid hTf
 have HX:=Lib.hid hX
 have HL:=Lib.hid hL
 have HS:=Lib.hid hs
 have HLb:=Lib.hid hl
 have HXb:=Lib.hid hx
 have HW:=Lib.hid hW
 have HWF:=Lib.hid hWf
 have HF:=Lib.hid hF
 have HRR:=Lib.hid hR
 have HSZ:=Lib.hid hsz
 have hlsb:=Lib.hid (Array.getElem?_eq_some_iff.1 hs).1
 have hllb:=Lib.hid (Array.getElem?_eq_some_iff.1 hl).1
 have hlxb:=Lib.hid (Array.getElem?_eq_some_iff.1 hx).1
 obtain⟨⟨y0,y1,y2,y3,y4,y5⟩,⟨l0,l1,l2,l3,l4,l5,l6,l7⟩,⟨x0,x1,x2,x3,x4,x5,x6,x7⟩⟩:=HC.out V (Below.refl _ _)
 clear htl hRow hTf hX hL hs hl hx hW hWf hF hR hsz hif
 conv=>arg 2;whnf
 go_upto_region 17 with (go_at_call 23;refine HRow.out.mono ?_;rintro e w1 ⟨⟨ta,tc,rfl,hoT⟩,hb⟩;have B1:=Lib.hid hb;have OT:=Lib.hid hoT;clear hb hoT)
 have INT:Hid (txE.In w1.heap.size w1 ta tl tc (rowX X item)):=Lib.hid (by obtain⟨a7,c7,e7,h7⟩:=OT.out.in_ HTF.out;rw[<- HTL.out] at e7 h7;obtain⟨e1,-,e3⟩:=Value.slice.inj e7;subst e1;subst e3;exact h7)
 have hlet:=INT.out.le
 have hmxt:=INT.out.mx
 clear y0 y1 y2 y3 y4 y5 l0 l1 l2 l3 l4 l5 l6 l7 x0 x1 x2 x3 x4 x5 x6 x7
 obtain⟨⟨y0,y1,y2,y3,y4,y5⟩,⟨l0,l1,l2,l3,l4,l5,l6,l7⟩,⟨x0,x1,x2,x3,x4,x5,x6,x7⟩⟩:=HC.out w1 B1.out
 by_cases ht0:tl=0
 ·obtain⟨e1,e2⟩:=HF.out.none (List.eq_nil_of_length_eq_zero (by rw[<- HTL.out];exact ht0))
  simp only at e1 e2
  have e0:((tl:Int) == 0)=true:=by simp[ht0]
  subst e2
  have e3:(xday == -1)=true:=by simp[e1]
  clear ht0 e1
  go_wp2_with (fail)
  exact HRR.out _ B1.out
 have e0:((tl:Int) == 0)=false:=by simp[ht0]
 have htp:1<=tl:=by omega
 clear ht0
 go_wp2_with (go_at_call 24;refine (Pick_any pp tl _ hpp (by omega)).mono ?_;rintro e wp ⟨⟨k,hk,rfl⟩,rfl⟩)
 have hkn:k < tl:=by omega
 clear y0 y1 y2 y3 y4 y5 l0 l1 l2 l3 l4 l5 l6 l7 x0 x1 x2 x3 x4 x5 x6 x7 e0
 obtain⟨cb,co,rfl,hcbB,hcc⟩:=(txE_rt INT.out).at_ (by omega)
 have HCC:=Lib.hid hcc
 have hcb:=Lib.hid hcbB
 clear hcc hcbB
 have A0:Hid ((false=true↔(∃ j:Nat,j < 0/\0<=xday/\(rowX X item)[j]? = some xcode))/\Below w1.heap.size w1 w1):=Lib.hid ⟨⟨fun h=>(by cases h),fun ⟨j,hj,_⟩=>absurd hj (Nat.not_lt_zero _)⟩,Below.refl _ _⟩
 go_loopw [16,17] (fun s16 s17 wr=>∃ (i:Nat) (fb:Bool),s16 = .bool fb/\s17 = .int .i64 i/\i<=k+1/\Hid ((fb=true↔(∃ j:Nat,j < i/\0<=xday/\(rowX X item)[j]? = some xcode))/\Below w1.heap.size w1 wr)) (fun _ s17 _=>k+1 - (intOf s17).toNat)
 case atStart=>exact⟨0,false,rfl,rfl,Nat.zero_le _,A0⟩
 case round =>
  obtain⟨i,fb,rfl,rfl,hi,HI⟩:=hrel
  obtain⟨wo,rfl⟩:∃ z,z=wr:=⟨_,rfl⟩
  have BO:=Lib.hid (B1.out.trans (HI.out.2.mono B1.out.size))
  have BOw:=Lib.hid HI.out.2
  clear A0
  by_cases hlt:i<=k
  ·have t1:decide ((i:Int)<=(k:Int))=true:=by simp[hlt]
   have hiT:i < (rowX X item).length:=by rw[<- HTL.out];omega
   have hgi:(rowX X item)[i]? = some ((rowX X item).getD i []):=by rw[List.getD_eq_getElem?_getD,List.getElem?_eq_getElem hiT];rfl
   have hci:=HCC.out i (by omega)
   obtain⟨c,hc⟩:∃ c,c=(rowX X item).getD i []:=⟨_,rfl⟩
   rw[<- hc] at hgi hci
   unfold encStr at hci
   have HGI:=Lib.hid hgi
   have hix0:(0:Int)<=(i:Int):=by omega
   have hix1:(i:Int) < (tl:Int):=by omega
   have fi:IntKind.i64.wrap ((i:Int)+1)=((i+1:Nat):Int):=by rw[wrap_in (by omega) (by omega)];omega
   have f0:∀ z:BelowW wo,z.v.cell? ⟨xb,6,none⟩=some (.int .i64 xday):=fun z=>(HC.out z.v (BO.out.trans (z.h.mono BO.out.size))).2.2.2.2.2.2.2.2.1
   have f1:∀ z:BelowW wo,z.v.cell? ⟨xb,7,none⟩=some (.string ⟨xcode.toArray⟩):=fun z=>(HC.out z.v (BO.out.trans (z.h.mono BO.out.size))).2.2.2.2.2.2.2.2.2
   have f2:∀ z:BelowW wo,z.v.cell? ⟨cb,co+i,none⟩=some (.string ⟨c.toArray⟩):=fun z=>((BOw.out.trans (z.h.mono BOw.out.size)).cell (p:=⟨cb,co+i,none⟩) hcb.out).trans hci
   have hnew:∀ fb2:Bool,(fb2=true↔fb=true∨(0<=xday/\c=xcode))->(fb2=true↔∃ j:Nat,j < i+1/\0<=xday/\(rowX X item)[j]? = some xcode):=fun fb2 h=>by
    rw[h,HI.out.1]
    constructor
    ·rintro (⟨j,h1,h2,h3⟩ | ⟨h1,h2⟩)
     ·exact⟨j,by omega,h2,h3⟩
     ·exact⟨i,by omega,h1,by rw[HGI.out,h2]⟩
    ·rintro⟨j,h1,h2,h3⟩
     by_cases hj:j=i
     ·subst hj
      rw[HGI.out] at h3
      injection h3 with h3
      exact .inr ⟨h2,h3⟩
     ·exact .inl ⟨j,by omega,h2,h3⟩
   have HNEW:=Lib.hid hnew
   clear hc hgi hci hiT HI hnew
   go_upto_region 24 with (fail)
   cases fb with
   | true =>
    refine wp_region_below (wo) (by kernel_rfl) (by kernel_rfl) (Below.refl _ _) ?_
    repeat (go_big_quiet_step (fail))
    refine wpQuiet_nil ?_
    intro _ hw'
    obtain⟨y9,hw''⟩:=hw'
    subst hw''
    clear f0 f1 f2
    go_wp2_with (fail)
    go_roundw
    case rel=>exact⟨i+1,true,rfl,by go_num,by omega,Lib.hid ⟨HNEW.out true (by simp),BOw.out.trans (y9.h.mono BOw.out.size)⟩⟩
    case measure=>simp[intOf];omega
   | false =>
    by_cases hxd:0<=xday
    ·have d0:decide (0<=xday)=true:=by simp[hxd]
     obtain⟨bv,hbv⟩:∃ bv,(c == xcode)=bv:=⟨_,rfl⟩
     have HBV:Hid (bv=true↔c=xcode):=Lib.hid (by rw[<- hbv];simp)
     have HXD:=Lib.hid hxd
     clear hxd
     refine wp_region_below (wo) (by kernel_rfl) (by kernel_rfl) (Below.refl _ _) ?_
     repeat (go_big_quiet_step (fail))
     refine wpQuiet_nil ?_
     intro _ hw'
     obtain⟨y9,hw''⟩:=hw'
     subst hw''
     clear f0 f1 f2
     go_wp2_with (fail)
     go_roundw
     case rel=>exact⟨i+1,bv,rfl,by go_num,by omega,Lib.hid ⟨HNEW.out bv (by rw[HBV.out];simp[HXD.out]),BOw.out.trans (y9.h.mono BOw.out.size)⟩⟩
     case measure=>simp[intOf];omega
    ·have d0:decide (0<=xday)=false:=by simp;omega
     have HXD:=Lib.hid hxd
     clear hxd
     refine wp_region_below (wo) (by kernel_rfl) (by kernel_rfl) (Below.refl _ _) ?_
     repeat (go_big_quiet_step (fail))
     refine wpQuiet_nil ?_
     intro _ hw'
     obtain⟨y9,hw''⟩:=hw'
     subst hw''
     clear f0 f1 f2
     go_wp2_with (fail)
     go_roundw
     case rel=>exact⟨i+1,false,rfl,by go_num,by omega,Lib.hid ⟨HNEW.out false (by simp[HXD.out]),BOw.out.trans (y9.h.mono BOw.out.size)⟩⟩
     case measure=>simp[intOf];omega
  ·have t1:decide ((i:Int)<=(k:Int))=false:=by simp;omega
   have hik:i=k+1:=by omega
   have hfb:fb=true↔∃ j:Nat,j<=k/\0<=xday/\(rowX X item)[j]? = some xcode:=by
    rw[HI.out.1,hik]
    constructor
    ·rintro⟨j,h1,h2⟩;exact⟨j,by omega,h2⟩
    ·rintro⟨j,h1,h2⟩;exact⟨j,by omega,h2⟩
   have HEND:=Lib.hid (lfirst_a now nl nx a1 n1 c1 X a2 n2 c2 L a3 n3 c3 sb lb xb id item qty asked rank st day code xid xitem xqty xasked xrank xst xday xcode wo R ((HX.out.below BO.out).mono BO.out.size) ((HL.out.below BO.out).mono BO.out.size) m1 m2 HSZ.out ((BO.out.block sb hlsb.out).trans HS.out) ((BO.out.block lb hllb.out).trans HLb.out) ((BO.out.block xb hlxb.out).trans HXb.out) wa wl wc W ((HW.out.below BO.out).mono BO.out.size) hWl HF.out HWF.out (some ⟨cb,co,none⟩) tl tc ((INT.out.below BOw.out).mono BOw.out.size) k hkn fb hfb dd hdd (fun w' hb=>HRR.out w' (BO.out.trans (hb.mono BO.out.size))))
   clear HI hik hfb
   go_upto_region 22 with (fail)
   iterate 19 go_step
   exact HEND.out _ _ _ _ _ _ _ _ _ _ _ _ _ _ _ _ _ _ _ _ _ _ _ _ _ _ _ _ _ _ _ _ _ _ _ _ _ _ _ _ _ _ _ _ _ _ _ _ _ _ _ _ _ _ _ _ _ _ _ _ _ _ _ _ _ _ _ _ _ _ _ _ _ _ _ _ _ _ _ _ _ _ _ _ _ _ _ _ _ _ _ _ _ _ _ _ _ _ _ _ _ _ _ _ _ _ _ _ _ _ _ _ _ _ _ _ _ _ _ _ _ _ _ _ _ _ _ _ _ _ _ _ _ _ _ _ _ _ _ _ _ _ _ _ _ _ _ _ _ _ _ _ _ _ _ _ _ _ _ _ _ _ _ _ _ _ _ _ _ _ _ _ _ _ _ _ _ _ _ _ _ _ _ _ _ _ _ _ _ _ _ _ _ _ _ _ _ _ _ _ _ _ _ _ _ _ _ _ _ _ _ _ _
end Go.Proofs.YtgplnekpgdhcpaaGreat
