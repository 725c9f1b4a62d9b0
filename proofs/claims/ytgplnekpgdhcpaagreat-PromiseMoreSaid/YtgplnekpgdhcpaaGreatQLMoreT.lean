/- PromiseMore behind its fifth statement. (Printed by gen/lmore.py.) -/
import Derived.Test.YtgplnekpgdhcpaaGreatQLWith
import Derived.Test.YtgplnekpgdhcpaaGreatQROpen
import Derived.Test.YtgplnekpgdhcpaaGreatKRight
import Derived.Test.YtgplnekpgdhcpaaGreatQPromO
import Derived.Test.YtgplnekpgdhcpaaGreatQFillQ
namespace Go.Proofs.YtgplnekpgdhcpaaGreat
open Go.RowKit Go.Sort Go.Lib Go.Shelf
theorem line_lit {W:World} {g:Nat} {id:Int} {item:List UInt8} {qty asked rank st day:Int} {code:List UInt8} (hg:W.heap[g]? = some (lineObj id item qty asked rank st day code)) (hf:okLine ⟨id,item,qty,asked,rank,st,day,code⟩):lineE.In W.heap.size W (some ⟨g,0,none⟩) 1 1 [⟨id,item,qty,asked,rank,st,day,code⟩]:=by
 refine⟨rfl,Nat.le_refl _,by decide,fun x hx=>?_,fun _=>⟨g,0,rfl,(Array.getElem?_eq_some_iff.1 hg).1,fun i hi j hj=>?_⟩⟩
 ·rw[List.mem_singleton.1 hx];exact hf
 ·have hj':j < 8:=hj
  have h1:i=0:=by omega
  have h2:j=0∨j=1∨j=2∨j=3∨j=4∨j=5∨j=6∨j=7:=by omega
  unfold lineObj at hg
  unfold World.cell?
  rw[hg]
  subst h1
  rcases h2 with rfl | rfl | rfl | rfl | rfl | rfl | rfl | rfl <;> rfl
theorem drewN_belowM (w:World) (q:Nat):Below w.heap.size w (w.drewN q):=by
 refine⟨?_,?_,?_,?_,fun k _=>?_⟩ <;> simp[World.drewN]
set_option maxHeartbeats 16000000 in
set_option maxRecDepth 100000 in
theorem lmore_tail (sb tb:Nat) (now nl nx:Int) (a1:Option Addr) (n1 c1:Nat) (X:List It) (a2:Option Addr) (n2 c2:Nat) (L:List LotV) (ax:Option Addr) (nx2 cx:Nat) (x:LotV) (a3:Option Addr) (n3 c3:Nat) (N:List LineV) (V:World) (R:Ending->World->Prop) (hX:RI V.heap.size V a1 n1 c1 X) (hL:lotE.In V.heap.size V a2 n2 c2 L) (hL2:lotE.In V.heap.size V ax nx2 cx (L ++ [x])) (hN:lineE.In V.heap.size V a3 n3 c3 N) (hsz:∀ x∈X,x.ps.length * 24<=140737488355328/\x.os.length * 16<=140737488355328) (hs:V.heap[sb]? = some (stObj now nl nx (.slice a1 n1 c1) (.slice a2 n2 c2) (.slice a3 n3 c3))) (ht:V.heap[tb]? = some (stObj now nl nx (.slice a1 n1 c1) (.slice ax nx2 cx) (.slice a3 n3 c3))) (hrg:RgtS now X L N) (hR:∀ w',Below V.heap.size V w'->R (.returned (.bool true)) w') (s0 s1 s3 s4 s6 s7 s8 s9 s10 s11 s12 s13 s14 s15 s16 s17 s18 s19 s20 s21 s22 s23 s24 s25 s26 s27 s28 s29 s30 s31 s32 s33 s34 s35 s36 s37 s38 s39 s40 s41 s42 s43 s44 s45 s46 s47 s48 s49 s50 s51 s52 s53 s54 s55 s56 s57 s58 s59 s60 s61 s62 s63 s64 s65 s66 s67 s68 s69 s70 s71 s72 s73 s74 s75 s76 s77 s78 s79 s80 s81 s82 s83 s84 s85 s86 s87 s88 s89 s90 s91 s92 s93 s94 s95 s96 s97 s98 s99 s100 s101 s102 s103 s104 s105 s106 s107 s108 s109 s110 s111 s112 s113:Value) :
  Code.wp Tryz.prog (dropQ 5 (Tryz.f6.body.getD .skip)) (bodyPost Tryz.prog Tryz.f6 R) ⟨List.toArray (s0 :: s1 :: (.pointer (some ⟨sb,0,none⟩)) :: s3 :: s4 :: (.pointer (some ⟨tb,0,none⟩)) :: s6 :: s7 :: s8 :: s9 :: s10 :: s11 :: s12 :: s13 :: s14 :: s15 :: s16 :: s17 :: s18 :: s19 :: s20 :: s21 :: s22 :: s23 :: s24 :: s25 :: s26 :: s27 :: s28 :: s29 :: s30 :: s31 :: s32 :: s33 :: s34 :: s35 :: s36 :: s37 :: s38 :: s39 :: s40 :: s41 :: s42 :: s43 :: s44 :: s45 :: s46 :: s47 :: s48 :: s49 :: s50 :: s51 :: s52 :: s53 :: s54 :: s55 :: s56 :: s57 :: s58 :: s59 :: s60 :: s61 :: s62 :: s63 :: s64 :: s65 :: s66 :: s67 :: s68 :: s69 :: s70 :: s71 :: s72 :: s73 :: s74 :: s75 :: s76 :: s77 :: s78 :: s79 :: s80 :: s81 :: s82 :: s83 :: s84 :: s85 :: s86 :: s87 :: s88 :: s89 :: s90 :: s91 :: s92 :: s93 :: s94 :: s95 :: s96 :: s97 :: s98 :: s99 :: s100 :: s101 :: s102 :: s103 :: s104 :: s105 :: s106 :: s107 :: s108 :: s109 :: s110 :: s111 :: s112 :: s113 :: []),[]⟩ V:=by
 have m1:n1<=12:=by rw[hX.len];exact hrg.nX
 have m2:n2<=12:=by rw[hL.len];exact hrg.nL
 have m2x:nx2<=13:=by rw[hL2.len,List.length_append,List.length_singleton];have:=hrg.nL;omega
 have m3:n3<=12:=by rw[hN.len];exact hrg.nN
 have hcode:∀ x∈X,x.code.length<=9223372036854775807:=fun x hx=>(hX.ok x hx).code
 have hS1:=allS hrg.now hrg.ids hrg.all hcode hN.fine L
 have hS2:=allS hrg.now hrg.ids hrg.all hcode hN.fine (L ++ [x])
 have hMo:=fun (h:RgtS now X (L ++ [x]) N) (h0:0 < (openX N).length)=>moreS (now:=now) (X:=X) (N:=N) (L:=L) h.may h0
 have hkl:=openX_len (N:=N)
 have HA1:=Lib.hid (fun (U:World) (hb:Below V.heap.size V U)=>all_any U.heap.size now nl nx a1 n1 c1 X a2 n2 c2 L a3 n3 c3 N U ⟨(hX.below hb).mono hb.size,(hL.below hb).mono hb.size,(hN.below hb).mono hb.size,by omega,by omega,by omega,hsz⟩ (Nat.le_refl _) (by omega) (by omega) (by omega))
 have HA2:=Lib.hid (fun (U:World) (hb:Below V.heap.size V U)=>all_any U.heap.size now nl nx a1 n1 c1 X ax nx2 cx (L ++ [x]) a3 n3 c3 N U ⟨(hX.below hb).mono hb.size,(hL2.below hb).mono hb.size,(hN.below hb).mono hb.size,by omega,by omega,by omega,hsz⟩ (Nat.le_refl _) (by omega) (by omega) (by omega))
 have HRg:=Lib.hid (fun (U:World) (hb:Below V.heap.size V U)=>lRight_any U.heap.size now nl nx a1 n1 c1 X ax nx2 cx (L ++ [x]) a3 n3 c3 N U ((hX.below hb).mono hb.size) ((hL2.below hb).mono hb.size) ((hN.below hb).mono hb.size) hsz (Nat.le_refl _))
 obtain⟨Z1,hZ1⟩:∃ Z,Z=allX (partsO X) (rowX X) lineOk L now N:=⟨_,rfl⟩
 obtain⟨Z2,hZ2⟩:∃ Z,Z=allX (partsO X) (rowX X) lineOk (L ++ [x]) now N:=⟨_,rfl⟩
 obtain⟨P1,hP1⟩:∃ P,P=openP (partsO X) (rowX X) L now N:=⟨_,rfl⟩
 obtain⟨P2,hP2⟩:∃ P,P=openP (partsO X) (rowX X) (L ++ [x]) now N:=⟨_,rfl⟩
 rw[<- hZ1,<- hP1] at hS1
 rw[<- hZ2,<- hP2] at hS2
 rw[<- hZ1] at HA1
 rw[<- hZ2] at HA2
 rw[<- hP1,<- hP2] at hMo
 unfold AlP at HA1 HA2
 rw[hS1.len,<- hN.len] at HA1
 rw[hS2.len,<- hN.len] at HA2
 have HNL:=Lib.hid hN.len
 have S1:=Lib.hid hS1
 have S2:=Lib.hid hS2
 have MO:=Lib.hid hMo
 obtain⟨k,hk⟩:∃ k,k=(openX N).length:=⟨_,rfl⟩
 have HK:=Lib.hid hk
 have hk12:k<=12:=by have:=hN.len;omega
 have HC:=Lib.hid (fun (U:World) (hb:Below V.heap.size V U)=>And.intro (stObj_cells ((hb.block sb (Array.getElem?_eq_some_iff.1 hs).1).trans hs)) (stObj_cells ((hb.block tb (Array.getElem?_eq_some_iff.1 ht).1).trans ht)))
 have HOx:Hid (∀ (Z P:List LineV) (L0:List LotV) (hS:AllS now X L0 N Z P) (B:Nat) (a:Option Addr) (c:Nat) (U U2:World) (ho:lineE.Own B U (.slice a n3 c) Z),Below U.heap.size U U2->Calls Tryz.prog 26 #[.slice a n3 c] U2 fun e w'=>(∃ a' c',e = .returned (.slice a' k c')/\lineE.In w'.heap.size w' a' k c' P)/\Below U2.heap.size U2 w'):=Lib.hid (fun Z P L0 hS B a c U U2 ho hb=>by
  obtain⟨a7,c7,e7,h7⟩:=ho.in_ hS.fine
  rw[hS.len,<- HNL.out] at e7 h7
  obtain⟨e1,-,e3⟩:=Value.slice.inj e7
  subst e1
  subst e3
  have hln:(Z.filter keepR).length=P.length:=by rw[<- hS.opn];exact ((openX_perm Z).length_eq).symm
  have:=open_any U2.heap.size a n3 c Z U2 ((h7.below hb).mono hb.size) (Nat.le_refl _) (by omega)
  rw[hln,hS.pl,<- HK.out] at this
  refine this.mono ?_
  rintro e w' ⟨⟨a8,c8,Y,rfl,ho8,hp8,hs8⟩,hb8⟩
  have EY:Y=P:=(openX_only hS.ids hp8 hs8).trans hS.opn
  subst EY
  refine⟨⟨a8,c8,rfl,?_⟩,hb8⟩
  obtain⟨a9,c9,e9,h9⟩:=ho8.in_ hS.pf
  rw[hS.pl,<- HK.out] at e9 h9
  obtain⟨e1,-,e3⟩:=Value.slice.inj e9
  subst e1
  subst e3
  exact h9)
 have HRR:=Lib.hid hR
 obtain⟨⟨y0,y1,y2,y3,y4,y5⟩,⟨z0,z1,z2,z3,z4,z5⟩⟩:=HC.out V (Below.refl _ _)
 clear hX hL hL2 hN hsz hs ht hrg hR hcode hS1 hS2 hMo hkl hZ1 hZ2 hP1 hP2 hk
 conv=>arg 2;whnf
 go_upto_region 7 with (fail)
 go_region_held3 (fun w'=>(w'.cell? ⟨sb,0,none⟩=some (.int .i64 now))/\(w'.cell? ⟨sb,1,none⟩=some (.int .i64 nl))/\(w'.cell? ⟨sb,2,none⟩=some (.int .i64 nx))/\(w'.cell? ⟨sb,3,none⟩=some (.slice a1 n1 c1))/\(w'.cell? ⟨sb,4,none⟩=some (.slice a2 n2 c2))/\(w'.cell? ⟨sb,5,none⟩=some (.slice a3 n3 c3))/\(w'.cell? ⟨tb,0,none⟩=some (.int .i64 now))/\(w'.cell? ⟨tb,1,none⟩=some (.int .i64 nl))/\(w'.cell? ⟨tb,2,none⟩=some (.int .i64 nx))/\(w'.cell? ⟨tb,3,none⟩=some (.slice a1 n1 c1))/\(w'.cell? ⟨tb,4,none⟩=some (.slice ax nx2 cx))/\(w'.cell? ⟨tb,5,none⟩=some (.slice a3 n3 c3))/\Hid (Below V.heap.size V w')) (first | exact⟨by assumption,by assumption,by assumption,by assumption,by assumption,by assumption,by assumption,by assumption,by assumption,by assumption,by assumption,by assumption,Lib.hid (below_drewP (Below.refl _ _))⟩ | exact⟨by assumption,by assumption,by assumption,by assumption,by assumption,by assumption,by assumption,by assumption,by assumption,by assumption,by assumption,by assumption,by assumption⟩ | go_keep | exact⟨by assumption,by assumption,by assumption,by assumption,by assumption,by assumption,by assumption,by assumption,by assumption,by assumption,by assumption,by assumption,Lib.hid (below_drewP (Hid.out (by assumption)))⟩) (first | (go_at_call 18;(with_reducible refine (HA1.out V.drew (below_drewP (Below.refl _ _))).mono ?_);rintro e wa ⟨⟨pa,pc,rfl,ho⟩,hb⟩;have Ba:Hid (Below V.heap.size V wa):=Lib.hid ((below_drewP (Below.refl _ _)).trans hb);have O1:=Lib.hid ho;obtain⟨⟨y0,y1,y2,y3,y4,y5⟩,⟨z0,z1,z2,z3,z4,z5⟩⟩:=HC.out wa Ba.out;clear hb ho) | (go_at_call 18;(with_reducible refine (HA2.out _ Bb.out).mono ?_);rintro e wc ⟨⟨qa,qc,rfl,ho⟩,hb⟩;have Bc:Hid (Below V.heap.size V wc):=Lib.hid (Bb.out.trans (hb.mono Bb.out.size));have BBc:=Lib.hid hb;have O2:=Lib.hid ho;obtain⟨⟨y0,y1,y2,y3,y4,y5⟩,⟨z0,z1,z2,z3,z4,z5⟩⟩:=HC.out wc Bc.out;clear hb ho) | (go_at_call 26;(with_reducible refine (HOx.out Z1 P1 L S1.out _ pa pc wa _ O1.out (Below.refl _ _)).mono ?_);rintro e wb ⟨⟨ra,rc,rfl,hin⟩,hb⟩;have Bb:Hid (Below V.heap.size V wb):=Lib.hid (Ba.out.trans (hb.mono Ba.out.size));have I1:=Lib.hid hin;obtain⟨⟨y0,y1,y2,y3,y4,y5⟩,⟨z0,z1,z2,z3,z4,z5⟩⟩:=HC.out wb Bb.out;clear hb hin) | (go_at_call 26;(with_reducible refine (HOx.out Z2 P2 (L ++ [x]) S2.out _ qa qc wc _ O2.out (Below.refl _ _)).mono ?_);rintro e wd ⟨⟨ta,tc,rfl,hin⟩,hb⟩;have Bd:Hid (Below V.heap.size V wd):=Lib.hid (Bc.out.trans (hb.mono Bc.out.size));have I1d:=Lib.hid ((I1.out.below (BBc.out.trans (hb.mono BBc.out.size))).mono (Nat.le_trans BBc.out.size hb.size));have I2:=Lib.hid hin;obtain⟨⟨y0,y1,y2,y3,y4,y5⟩,⟨z0,z1,z2,z3,z4,z5⟩⟩:=HC.out wd Bd.out;clear hb hin))
 obtain⟨⟨y0,y1,y2,y3,y4,y5⟩,⟨z0,z1,z2,z3,z4,z5⟩⟩:=HC.out wd Bd.out
 have hleA:=I1d.out.le
 have hmxA:=I1d.out.mx
 have hleB:=I2.out.le
 have hmxB:=I2.out.mx
 go_upto_region 8 with (fail)
 by_cases hk0:k=0
 ·have e0:((k:Int) == 0)=true:=by simp[hk0]
  clear hk0
  go_wp2_with (go_at_call 20;refine (HRg.out _ Bd.out).mono ?_;rintro e we ⟨⟨bb,rfl,hbb⟩,hb⟩;have Be:Hid (Below V.heap.size V we):=Lib.hid (Bd.out.trans (hb.mono Bd.out.size));have RB:=Lib.hid hbb;have INA:Hid (lineE.In we.heap.size we ra k rc P1):=Lib.hid ((I1d.out.below hb).mono hb.size);have INB:Hid (lineE.In we.heap.size we ta k tc P2):=Lib.hid ((I2.out.below hb).mono hb.size);clear hbb hb y0 y1 y2 y3 y4 y5 z0 z1 z2 z3 z4 z5;cases bb)
  all_goals exact HRR.out _ Be.out
 have hkp:0 < k:=by omega
 have e0:((k:Int) == 0)=false:=by simp[hk0]
 clear hk0
 go_wp2_with (go_at_call 20;refine (HRg.out _ Bd.out).mono ?_;rintro e we ⟨⟨bb,rfl,hbb⟩,hb⟩;have Be:Hid (Below V.heap.size V we):=Lib.hid (Bd.out.trans (hb.mono Bd.out.size));have RB:=Lib.hid hbb;have INA:Hid (lineE.In we.heap.size we ra k rc P1):=Lib.hid ((I1d.out.below hb).mono hb.size);have INB:Hid (lineE.In we.heap.size we ta k tc P2):=Lib.hid ((I2.out.below hb).mono hb.size);clear hbb hb y0 y1 y2 y3 y4 y5 z0 z1 z2 z3 z4 z5;cases bb)
 ·exact HRR.out _ Be.out
 have RG2:=Lib.hid (RB.out (by first | rfl | trivial))
 have MS:=Lib.hid (MO.out RG2.out (by rw[<- HK.out];exact hkp))
 have hA1:0 < P1.length:=by rw[S1.out.pl,<- HK.out];exact hkp
 have hC1:0 < P2.length:=by rw[S2.out.pl,<- HK.out];exact hkp
 have HAF:=Lib.hid (S1.out.pf _ (getD_mem hA1))
 have HCF:=Lib.hid (S2.out.pf _ (getD_mem hC1))
 have HB1:=Lib.hid (INB.out.take 1 hkp)
 have HTK:Hid (P2.take 1=[P2.getD 0 default]):=Lib.hid (by
  cases hp2:P2 with
  | nil=>rw[hp2] at hC1;exact absurd hC1 (by simp)
  | cons z zs=>rfl)
 obtain⟨ba,oa,rfl,hbA,hcA⟩:=lineE_at INA.out (by omega)
 obtain⟨bc,oc,rfl,hbC,hcC⟩:=lineE_at INB.out (by omega)
 have HgA:=hcA 0 hkp
 have HgC:=hcC 0 hkp
 obtain⟨mid,mday⟩:=MS.out
 generalize P1.getD 0 default=xa at HgA mid mday HAF
 generalize P2.getD 0 default=xc at HgC mid mday HTK HCF
 rw[HTK.out] at HB1
 obtain⟨aid,aitem,aqty,aasked,arank,ast,aday,acode⟩:=xa
 obtain⟨cid,citem,cqty,casked,crank,cst,cday,ccode⟩:=xc
 unfold encStr at HgA HgC
 simp only at HgA HgC
 try simp only at mid mday
 have HID:=Lib.hid mid
 have HDY:=Lib.hid mday
 have HFA:=Lib.hid (fun (U:World) (hb:Below we.heap.size we U)=>(show (U.cell? ⟨ba,oa,none⟩=some (.int .i64 aid)/\U.cell? ⟨ba,oa+1,none⟩=some (.string ⟨aitem.toArray⟩)/\U.cell? ⟨ba,oa+2,none⟩=some (.int .i64 aqty)/\U.cell? ⟨ba,oa+3,none⟩=some (.int .i64 aasked)/\U.cell? ⟨ba,oa+4,none⟩=some (.int .i64 arank)/\U.cell? ⟨ba,oa+5,none⟩=some (.int .u8 ast)/\U.cell? ⟨ba,oa+6,none⟩=some (.int .i64 aday)/\U.cell? ⟨ba,oa+7,none⟩=some (.string ⟨acode.toArray⟩))/\(U.cell? ⟨bc,oc,none⟩=some (.int .i64 cid)/\U.cell? ⟨bc,oc+1,none⟩=some (.string ⟨citem.toArray⟩)/\U.cell? ⟨bc,oc+2,none⟩=some (.int .i64 cqty)/\U.cell? ⟨bc,oc+3,none⟩=some (.int .i64 casked)/\U.cell? ⟨bc,oc+4,none⟩=some (.int .i64 crank)/\U.cell? ⟨bc,oc+5,none⟩=some (.int .u8 cst)/\U.cell? ⟨bc,oc+6,none⟩=some (.int .i64 cday)/\U.cell? ⟨bc,oc+7,none⟩=some (.string ⟨ccode.toArray⟩)) from ⟨⟨(hb.cell (p:=⟨ba,oa,none⟩) hbA).trans HgA.1,(hb.cell (p:=⟨ba,oa+1,none⟩) hbA).trans HgA.2.1,(hb.cell (p:=⟨ba,oa+2,none⟩) hbA).trans HgA.2.2.1,(hb.cell (p:=⟨ba,oa+3,none⟩) hbA).trans HgA.2.2.2.1,(hb.cell (p:=⟨ba,oa+4,none⟩) hbA).trans HgA.2.2.2.2.1,(hb.cell (p:=⟨ba,oa+5,none⟩) hbA).trans HgA.2.2.2.2.2.1,(hb.cell (p:=⟨ba,oa+6,none⟩) hbA).trans HgA.2.2.2.2.2.2.1,(hb.cell (p:=⟨ba,oa+7,none⟩) hbA).trans HgA.2.2.2.2.2.2.2⟩,⟨(hb.cell (p:=⟨bc,oc,none⟩) hbC).trans HgC.1,(hb.cell (p:=⟨bc,oc+1,none⟩) hbC).trans HgC.2.1,(hb.cell (p:=⟨bc,oc+2,none⟩) hbC).trans HgC.2.2.1,(hb.cell (p:=⟨bc,oc+3,none⟩) hbC).trans HgC.2.2.2.1,(hb.cell (p:=⟨bc,oc+4,none⟩) hbC).trans HgC.2.2.2.2.1,(hb.cell (p:=⟨bc,oc+5,none⟩) hbC).trans HgC.2.2.2.2.2.1,(hb.cell (p:=⟨bc,oc+6,none⟩) hbC).trans HgC.2.2.2.2.2.2.1,(hb.cell (p:=⟨bc,oc+7,none⟩) hbC).trans HgC.2.2.2.2.2.2.2⟩⟩))
 have hk1:(0:Int) < (k:Int):=by omega
 have hk2:(1:Int)<=(k:Int):=by omega
 have hk3:(1:Int)<=(tc:Int):=by omega
 have f0:∀ z:BelowW we,z.v.cell? ⟨ba,oa,none⟩=some (.int .i64 aid):=fun z=>(HFA.out z.v z.h).1.1
 have f1:∀ z:BelowW we,z.v.cell? ⟨bc,oc,none⟩=some (.int .i64 aid):=fun z=>by rw[HID.out];exact (HFA.out z.v z.h).2.1
 clear HgA HgC mid mday hcA hcC hA1 hC1 MS
 refine wp_region_below (we) (by kernel_rfl) (by kernel_rfl) (Below.refl _ _) ?_
 repeat (go_big_quiet_step (fail))
 refine wpQuiet_nil ?_
 intro _ hw'
 obtain⟨y1,hw''⟩:=hw'
 subst hw''
 clear f0 f1
 have f0:∀ z:BelowW y1.v,z.v.cell? ⟨ba,oa+7,none⟩=some (.string ⟨acode.toArray⟩):=fun z=>(HFA.out z.v (y1.h.trans (z.h.mono y1.h.size))).1.2.2.2.2.2.2.2
 have f1:∀ z:BelowW y1.v,z.v.cell? ⟨bc,oc+7,none⟩=some (.string ⟨ccode.toArray⟩):=fun z=>(HFA.out z.v (y1.h.trans (z.h.mono y1.h.size))).2.2.2.2.2.2.2.2
 by_cases hcc:acode=ccode
 ·have e1:(acode == ccode)=true:=by simpa using hcc
  have HCC:=Lib.hid hcc
  clear hcc
  go_upto_region 12 with (fail)
  refine wp_region_below (y1.v) (by kernel_rfl) (by kernel_rfl) (Below.refl _ _) ?_
  repeat (go_big_quiet_step (fail))
  refine wpQuiet_nil ?_
  intro _ hw'
  obtain⟨y2,hw''⟩:=hw'
  subst hw''
  clear f0 f1
  have f0:∀ z:BelowW y2.v,z.v.cell? ⟨ba,oa+6,none⟩=some (.int .i64 aday):=fun z=>(HFA.out z.v (y1.h.trans ((y2.h.trans (z.h.mono y2.h.size)).mono y1.h.size))).1.2.2.2.2.2.2.1
  have f1:∀ z:BelowW y2.v,z.v.cell? ⟨bc,oc+6,none⟩=some (.int .i64 cday):=fun z=>(HFA.out z.v (y1.h.trans ((y2.h.trans (z.h.mono y2.h.size)).mono y1.h.size))).2.2.2.2.2.2.2.1
  by_cases hd:aday < 0
  ·have d0:decide (aday < 0)=true:=by simp[hd]
   clear hd
   go_upto_region 13 with (fail)
   refine wp_region_below (y2.v) (by kernel_rfl) (by kernel_rfl) (Below.refl _ _) ?_
   repeat (go_big_quiet_step (fail))
   refine wpQuiet_nil ?_
   intro _ hw'
   obtain⟨y3,hw''⟩:=hw'
   subst hw''
   clear f0 f1
   go_wp2_with (fail)
   exact HRR.out _ (Be.out.trans ((y1.h.trans ((y2.h.trans (y3.h.mono y2.h.size)).mono y1.h.size)).mono Be.out.size))
  ·have hdd:=HDY.out (by omega)
   have hcd:=hdd.1
   have hca:=hdd.2 HCC.out.symm
   have d0:decide (aday < 0)=false:=by simp[hd]
   have d1:decide (0<=cday)=true:=by simp[hcd]
   have d2:decide (cday<=aday)=true:=by simp[hca]
   clear hd hdd hcd hca
   go_upto_region 13 with (fail)
   refine wp_region_below (y2.v) (by kernel_rfl) (by kernel_rfl) (Below.refl _ _) ?_
   repeat (go_big_quiet_step (fail))
   refine wpQuiet_nil ?_
   intro _ hw'
   obtain⟨y3,hw''⟩:=hw'
   subst hw''
   clear f0 f1
   go_wp2_with (fail)
   exact HRR.out _ (Be.out.trans ((y1.h.trans ((y2.h.trans (y3.h.mono y2.h.size)).mono y1.h.size)).mono Be.out.size))
 ·have e1:(acode == ccode)=false:=by simpa using hcc
  clear hcc
  go_upto_region 12 with (fail)
  refine wp_region_below (y1.v) (by kernel_rfl) (by kernel_rfl) (Below.refl _ _) ?_
  repeat (go_big_quiet_step (fail))
  refine wpQuiet_nil ?_
  intro _ hw'
  obtain⟨y2,hw''⟩:=hw'
  subst hw''
  clear f0 f1
  by_cases hd:aday < 0
  ·have d0:decide (aday < 0)=true:=by simp[hd]
   clear hd
   have f0:∀ z:BelowW y2.v,z.v.cell? ⟨ba,oa+6,none⟩=some (.int .i64 aday):=fun z=>(HFA.out z.v (y1.h.trans ((y2.h.trans (z.h.mono y2.h.size)).mono y1.h.size))).1.2.2.2.2.2.2.1
   go_upto_region 14 with (fail)
   refine wp_region_below (y2.v) (by kernel_rfl) (by kernel_rfl) (Below.refl _ _) ?_
   repeat (go_big_quiet_step (fail))
   refine wpQuiet_nil ?_
   intro _ hw'
   obtain⟨y3,hw''⟩:=hw'
   subst hw''
   clear f0
   go_wp2_with (fail)
   exact HRR.out _ (Be.out.trans ((y1.h.trans ((y2.h.trans (y3.h.mono y2.h.size)).mono y1.h.size)).mono Be.out.size))
  ·have hcd:=(HDY.out (by omega)).1
   have d0:decide (aday < 0)=false:=by simp[hd]
   have d1:decide (0<=cday)=true:=by simp[hcd]
   clear hd hcd
   obtain⟨U0,hU0⟩:∃ U,U=y2.v:=⟨_,rfl⟩
   have BU:Hid (Below we.heap.size we U0):=Lib.hid (by rw[hU0];exact y1.h.trans (y2.h.mono y1.h.size))
   rw[<- hU0]
   clear hU0
   have HFU:=Lib.hid (fun (U:World) (hb:Below U0.heap.size U0 U)=>HFA.out U (BU.out.trans (hb.mono BU.out.size)))
   obtain⟨⟨g0,g1,g2,g3,g4,g5,g6,g7⟩,⟨h0,h1,h2,h3,h4,h5,h6,h7⟩⟩:=HFU.out U0 (Below.refl _ _)
   go_upto_region 14 with (fail)
   go_region_held3 (fun w'=>(w'.cell? ⟨ba,oa,none⟩=some (.int .i64 aid))/\(w'.cell? ⟨ba,oa+1,none⟩=some (.string ⟨aitem.toArray⟩))/\(w'.cell? ⟨ba,oa+2,none⟩=some (.int .i64 aqty))/\(w'.cell? ⟨ba,oa+3,none⟩=some (.int .i64 aasked))/\(w'.cell? ⟨ba,oa+4,none⟩=some (.int .i64 arank))/\(w'.cell? ⟨ba,oa+5,none⟩=some (.int .u8 ast))/\(w'.cell? ⟨ba,oa+6,none⟩=some (.int .i64 aday))/\(w'.cell? ⟨ba,oa+7,none⟩=some (.string ⟨acode.toArray⟩))/\(w'.cell? ⟨bc,oc,none⟩=some (.int .i64 cid))/\(w'.cell? ⟨bc,oc+1,none⟩=some (.string ⟨citem.toArray⟩))/\(w'.cell? ⟨bc,oc+2,none⟩=some (.int .i64 cqty))/\(w'.cell? ⟨bc,oc+3,none⟩=some (.int .i64 casked))/\(w'.cell? ⟨bc,oc+4,none⟩=some (.int .i64 crank))/\(w'.cell? ⟨bc,oc+5,none⟩=some (.int .u8 cst))/\(w'.cell? ⟨bc,oc+6,none⟩=some (.int .i64 cday))/\(w'.cell? ⟨bc,oc+7,none⟩=some (.string ⟨ccode.toArray⟩))/\Hid (Below U0.heap.size U0 w')) (first | exact⟨by assumption,by assumption,by assumption,by assumption,by assumption,by assumption,by assumption,by assumption,by assumption,by assumption,by assumption,by assumption,by assumption,by assumption,by assumption,by assumption,Lib.hid (below_drewP (Below.refl _ _))⟩ | exact⟨by assumption,by assumption,by assumption,by assumption,by assumption,by assumption,by assumption,by assumption,by assumption,by assumption,by assumption,by assumption,by assumption,by assumption,by assumption,by assumption,by assumption⟩ | (have ball:Below U0.heap.size U0 (U0.alloc (.cells #[.int .i64 aid,.string ⟨aitem.toArray⟩,.int .i64 aqty,.int .i64 aasked,.int .i64 arank,.int .u8 ast,.int .i64 aday,.string ⟨acode.toArray⟩] 29)).drew:=below_drewP (below_allocL _ _);obtain⟨⟨g0,g1,g2,g3,g4,g5,g6,g7⟩,⟨h0,h1,h2,h3,h4,h5,h6,h7⟩⟩:=HFU.out _ ball;exact⟨by assumption,by assumption,by assumption,by assumption,by assumption,by assumption,by assumption,by assumption,by assumption,by assumption,by assumption,by assumption,by assumption,by assumption,by assumption,by assumption,Lib.hid ball⟩) | go_keep | exact⟨by assumption,by assumption,by assumption,by assumption,by assumption,by assumption,by assumption,by assumption,by assumption,by assumption,by assumption,by assumption,by assumption,by assumption,by assumption,by assumption,Lib.hid (below_drewP (Hid.out (by assumption)))⟩) (first | (go_at_call 27;refine (with1_any (U0.alloc (lineObj aid aitem aqty aasked arank ast aday acode)).drew.heap.size (some ⟨U0.heap.size,0,none⟩) 1 1 ⟨aid,aitem,aqty,aasked,arank,ast,aday,acode⟩ cid citem cqty casked crank cst cday ccode (U0.alloc (lineObj aid aitem aqty aasked arank ast aday acode)).drew (line_lit (W:=(U0.alloc (lineObj aid aitem aqty aasked arank ast aday acode)).drew) (heap_alloc_new U0 _) HAF.out) (Nat.le_refl _) HID.out).mono ?_;rintro e w5 ⟨⟨va,vc,rfl,hov⟩,hb⟩;have B5:Hid (Below U0.heap.size U0 w5):=Lib.hid ((below_drewP (below_allocL U0 _)).trans (hb.mono (below_drewP (below_allocL U0 _)).size));have O5:=Lib.hid hov;obtain⟨⟨g0,g1,g2,g3,g4,g5,g6,g7⟩,⟨h0,h1,h2,h3,h4,h5,h6,h7⟩⟩:=HFU.out w5 B5.out;clear hb hov) | (go_at_call 17;refine ((by obtain⟨a7,c7,e7,h7⟩:=O5.out.in_ (fun z hz=>by rw[List.mem_singleton.1 hz];exact HCF.out);obtain⟨e1,-,e3⟩:=Value.slice.inj e7;subst e1;subst e3;exact SameLines_any _ _ _ _ _ _ _ _ _ _ w5 h7 (HB1.out.below (BU.out.trans (B5.out.mono BU.out.size))):Calls Tryz.prog 17 #[.slice va 1 vc,.slice (some ⟨bc,oc,none⟩) 1 tc] w5 fun e w'=>e = .returned (.bool (decide ([(⟨cid,citem,cqty,casked,crank,cst,cday,ccode⟩:LineV)]=[(⟨cid,citem,cqty,casked,crank,cst,cday,ccode⟩:LineV)])))/\∃ q,w'=w5.drewN q)).mono ?_;rintro e w6 ⟨rfl,qz,rfl⟩;rw[decide_eq_true (rfl:[(⟨cid,citem,cqty,casked,crank,cst,cday,ccode⟩:LineV)]=[⟨cid,citem,cqty,casked,crank,cst,cday,ccode⟩])];have Bz:Hid (Below U0.heap.size U0 (w5.drewN qz)):=Lib.hid (B5.out.trans ((drewN_belowM w5 qz).mono B5.out.size));obtain⟨⟨g0,g1,g2,g3,g4,g5,g6,g7⟩,⟨h0,h1,h2,h3,h4,h5,h6,h7⟩⟩:=HFU.out _ Bz.out))
   go_wp2_with (fail)
   exact HRR.out _ (Be.out.trans ((BU.out.trans (Bz.out.mono BU.out.size)).mono Be.out.size))
end Go.Proofs.YtgplnekpgdhcpaaGreat
