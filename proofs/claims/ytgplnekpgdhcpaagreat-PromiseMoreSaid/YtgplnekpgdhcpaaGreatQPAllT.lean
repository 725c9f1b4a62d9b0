/- promise.All behind its first loop: its walk. (Printed by gen/pallt.py.) -/
import Derived.Test.YtgplnekpgdhcpaaGreatQPromO
namespace Go.Proofs.YtgplnekpgdhcpaaGreat
open Go.RowKit Go.Sort Go.Lib Go.Shelf
theorem own_frozenL {base g n c:Nat} {w:World} {X:List LineV} (h:lineE.Own base w (.slice (some ⟨g,0,none⟩) n c) X) (t:Nat):w.frozen? ⟨g,t,none⟩=false:=by
 have hx:=(h.cell).1
 subst hx
 unfold El.Own at h
 exact World.ownsRow.frozenAt h t
def AlS (X:List It) (L:List LotV) (now nl nx:Int) (v1 v2 v3 vo:Value) (N Y Z:List LineV) (base go tb:Nat) (w14:World) (k:Nat) (wr:World) (O:List LineV) (Wk:List WantV) (wa:Option Addr) (wc:Nat):Prop :=
 (allF (partsO X) (rowX X) L now (Y.drop k) (O,Wk)).1=Z/\lineE.Own base wr vo O/\O.map (·.id)=N.map (·.id)/\(∀ x∈O,okLine x)/\wr.heap[tb]? = some (tbObj now nl nx v1 v2 v3 (.slice wa Wk.length wc))/\wantE.Own w14.heap.size wr (.slice wa Wk.length wc) Wk/\(∀ x∈Wk,okWant x)/\Wk.length<=k * X.length/\Kp2 go tb w14 wr
theorem allF_at {X:List It} {L:List LotV} {now:Int} {Y:List LineV} {k:Nat} (hk:k < Y.length) (O:List LineV) (Wk:List WantV):allF (partsO X) (rowX X) L now (Y.drop k) (O,Wk)=allF (partsO X) (rowX X) L now (Y.drop (k+1)) ((O.map fun x=>if x.id=(Y.getD k default).id then promL (partsO X) (rowX X) L now Wk (Y.getD k default) else x),Wk ++ wantsL (partsO X) (promL (partsO X) (rowX X) L now Wk (Y.getD k default))):=by
 have e:Y.getD k default=Y[k]:=by rw[List.getD_eq_getElem?_getD,List.getElem?_eq_getElem hk];rfl
 rw[List.drop_eq_getElem_cons hk,allF,e]
theorem promL_fine {X:List It} (hX:∀ x∈X,x.code.length<=9223372036854775807) {L:List LotV} {now:Int} {W:List WantV} {l:LineV} (hl:okLine l):okLine (promL (partsO X) (rowX X) L now W l):=by
 obtain⟨o1,o2,o3,o4,o5,o6,o7,o8⟩:=hl
 have key:∀ cs:List (List UInt8),okLine (promC (partsO X) L now W l cs):=by
  intro cs
  induction cs with
  | nil=>exact⟨o1,o2,o3,o4,o5,o6,(show (-9223372036854775808:Int)<=-1/\(-1:Int)<=9223372036854775807 by decide),Nat.zero_le _⟩
  | cons c cs ih =>
   rw[promC]
   cases hp:partsO X c l.qty with
   | none=>exact ih
   | some P =>
    simp only
    cases hd:dayX L W P (max l.asked now) (min (now+400) 4000) with
    | none=>exact ih
    | some d =>
     simp only
     obtain⟨k1,k2,-,-⟩:=dayX_iff.1 hd
     refine⟨o1,o2,o3,o4,o5,o6,(show -9223372036854775808<=d/\d<=9223372036854775807 by omega),?_⟩
     obtain⟨h0,-⟩:=partsO_ps hp
     unfold partsE at h0
     split at h0
     ·next h=>exact absurd h0 h
     ·split at h0
      ·exact absurd h0 (by decide)
      ·split at h0
       ·exact absurd h0 (by decide)
       ·next h =>
        have hc:c∈codes X:=Classical.not_not.1 h
        unfold codes at hc
        obtain⟨x,hx,e⟩:=List.mem_map.1 hc
        show c.length<=_
        rw[<- e]
        exact hX x hx
 exact key _
set_option maxHeartbeats 8000000 in
set_option maxRecDepth 100000 in
theorem all_tail (B sb mb cnt:Nat) (now nl nx:Int) (a1:Option Addr) (n1 c1:Nat) (X:List It) (a2:Option Addr) (n2 c2:Nat) (L:List LotV) (a3:Option Addr) (n3 c3:Nat) (N:List LineV) (f:Int->Value) (g:Int->Bool) (w0 W:World) (R:Ending->World->Prop)
  (h:StIn B W a1 n1 c1 X a2 n2 c2 L a3 n3 c3 N) (hB:B<=w0.heap.size) (hW:Below w0.heap.size w0 W) (hs:W.heap[sb]? = some (stObj now nl nx (.slice a1 n1 c1) (.slice a2 n2 c2) (.slice a3 n3 c3))) (hM:MH W mb cnt (.int .i64 0) f g) (hf:∀ k,k < N.length->f (N.getD k default).id = .int .i64 k) (hid:(N.map (·.id)).Nodup) (hnow:0<=now/\now<=4000)
  (h1:n1<=5000) (h2:n2<=5000) (h3:n3<=5000) (Z:List LineV) (hZ:Z=(allF (partsO X) (rowX X) L now (openX N) (N,[])).1)
  (hR:∀ a c w',lineE.Own w0.heap.size w' (.slice a Z.length c) Z->Below w0.heap.size w0 w'->R (.returned (.slice a Z.length c)) w') (s0 s2 s4 s5 s6 s7 s8 s9 s10 s11 s12 s13 s14 s15 s16 s17 s18 s19 s20 s21 s22 s23 s24 s25 s26 s27 s28 s29 s30 s31 s32 s33 s34 s35 s36 s37 s38 s39 s40 s41 s42 s43 s44 s45 s46 s47 s48 s49 s50 s51 s52 s53 s54 s55 s56 s57 s58 s59 s60 s61 s62 s63 s64 s65 s66 s67 s68 s69 s70 s71 s72 s73 s74 s75 s76 s77 s78 s79 s80 s81:Value) :
  Code.wp Tryz.prog (dropQ 4 (Tryz.f18.body.getD .skip)) (bodyPost Tryz.prog Tryz.f18 R) ⟨List.toArray (s0 :: (.pointer (some ⟨sb,0,none⟩)) :: s2 :: (.map (some mb)) :: s4 :: s5 :: s6 :: s7 :: s8 :: s9 :: s10 :: s11 :: s12 :: s13 :: s14 :: s15 :: s16 :: s17 :: s18 :: s19 :: s20 :: s21 :: s22 :: s23 :: s24 :: s25 :: s26 :: s27 :: s28 :: s29 :: s30 :: s31 :: s32 :: s33 :: s34 :: s35 :: s36 :: s37 :: s38 :: s39 :: s40 :: s41 :: s42 :: s43 :: s44 :: s45 :: s46 :: s47 :: s48 :: s49 :: s50 :: s51 :: s52 :: s53 :: s54 :: s55 :: s56 :: s57 :: s58 :: s59 :: s60 :: s61 :: s62 :: s63 :: s64 :: s65 :: s66 :: s67 :: s68 :: s69 :: s70 :: s71 :: s72 :: s73 :: s74 :: s75 :: s76 :: s77 :: s78 :: s79 :: s80 :: s81 :: []),[]⟩ W:=by
 have hsl:sb < W.heap.size:=(Array.getElem?_eq_some_iff.1 hs).1
 have hBW:B<=W.heap.size:=Nat.le_trans hB hW.size
 obtain⟨y0,y1,y2,y3,y4,y5⟩:=stObj_cells hs
 have HCl:=Lib.hid (cloneLine_any B a3 n3 c3 N W h.lines hBW (by omega))
 have H:=Lib.hid h
 have HW:=Lib.hid hW
 have HS:=Lib.hid hs
 have HM:=Lib.hid hM
 have HF:=Lib.hid hf
 have HID:=Lib.hid hid
 have HZ:=Lib.hid hZ
 have HRR:=Lib.hid hR
 have HNOW:=Lib.hid hnow
 have HlN:Hid (N.length=n3):=Lib.hid h.lines.len.symm
 have HlX:=Lib.hid h.items.len
 clear h hW hs hM hf hid hZ hR hnow
 conv=>arg 2;whnf
 go_upto_region 13 with (go_at_call 36;refine HCl.out.mono ?_;rintro e wC ⟨⟨ao,co,rfl,-,hoC⟩,hbC⟩;have BC:=Lib.hid hbC;have OC:=Lib.hid hoC;obtain⟨x0,x1,x2,x3,x4,x5⟩:=stObj_cells ((hbC.block sb hsl).trans HS.out);clear hoC hbC)
 obtain⟨W13,hW13⟩:∃ V,V=wC.alloc (tbObj now nl nx (.slice a1 n1 c1) (.slice a2 n2 c2) (.slice a3 n3 c3) (.slice none 0 0)):=⟨_,rfl⟩
 have b13:Below wC.heap.size wC W13:=by rw[hW13];exact below_allocL _ _
 have k13:W13.heap[wC.heap.size]? = some (tbObj now nl nx (.slice a1 n1 c1) (.slice a2 n2 c2) (.slice a3 n3 c3) (.slice none 0 0)):=by rw[hW13];exact heap_alloc_new _ _
 have s13:W13.heap.size=wC.heap.size+1:=by rw[hW13,World.size_alloc]
 obtain⟨tb,htb⟩:∃ t,t=wC.heap.size:=⟨_,rfl⟩
 have O13:=OC.out.below b13
 obtain⟨ao2,co2,eO,hinO⟩:=O13.in_ H.out.lines.fine
 rw[HlN.out] at eO hinO
 injection eO with eO1 eO2 eO3
 subst eO1;subst eO3
 have HOp:=Lib.hid (open_any W13.heap.size ao n3 co N W13 hinO (Nat.le_refl _) (by omega))
 have HW13:=Lib.hid hW13
 have K13:=Lib.hid k13
 have B13:=Lib.hid b13
 have S13:=Lib.hid s13
 have HTB:=Lib.hid htb
 have HO13:=Lib.hid O13
 unfold tbObj at HW13
 clear hW13 k13 b13 s13 O13 eO2 hinO HCl OC
 go_upto_region 14 with (fail)
 have q13:=HW13.out
 simp only[List.toArray] at q13
 rw[<- q13]
 clear q13
 skip
 go_wp2_with (go_at_call 26;refine HOp.out.mono ?_;rintro e w14 ⟨⟨ra,rc,Y,rfl,hoY,hpY,hsY⟩,hb14⟩;have B14:=Lib.hid hb14;have OY:=Lib.hid hoY;have PY:=Lib.hid (And.intro hpY hsY);clear hoY hpY hsY hb14)
 have hY:Y=openX N:=openX_only HID.out PY.out.1 PY.out.2
 have hml:(N.filter keepR).length=Y.length:=PY.out.1.length_eq.symm
 rw[hml] at OY ⊢
 obtain⟨m,hm⟩:∃ m,m=Y.length:=⟨_,rfl⟩
 rw[<- hm] at OY ⊢
 have HMm:=Lib.hid hm
 have HmN:Hid (m<=n3):=Lib.hid (by rw[hm,<- hml,<- HlN.out];exact List.length_filter_le _ _)
 have HYN:Hid (∀ x∈Y,x∈N):=Lib.hid (fun x hx=>(List.mem_filter.1 (PY.out.1.mem_iff.1 hx)).1)
 have HZ2:Hid ((allF (partsO X) (rowX X) L now (Y.drop 0) (N,[])).1=Z):=Lib.hid (by rw[HZ.out,hY];rfl)
 have HS2:Hid (W.heap.size<=wC.heap.size/\W13.heap.size=wC.heap.size+1/\wC.heap.size+1<=w14.heap.size):=Lib.hid (by have e1:=BC.out.size;have e2:=B14.out.size;have e3:=S13.out;omega)
 obtain⟨go,hgo⟩:∃ go,(0 < n3->ao=some ⟨go,0,none⟩)/\W.heap.size<=go/\go<=wC.heap.size:=by
  by_cases h0:0 < n3
  ·obtain⟨a8,c8,e8,-,-,hg⟩:=HO13.out.form
   obtain⟨gg,hgg⟩:=hg (by rw[HlN.out];exact h0)
   injection e8 with e8
   have e9:=e8.trans hgg
   subst e9
   have:=HO13.out.ge gg rfl
   have h13:=HS2.out.2.1
   exact⟨gg,fun _=>rfl,this.1,by omega⟩
  ·exact⟨wC.heap.size,fun h=>absurd h h0,HS2.out.1,Nat.le_refl _⟩
 have HGO:=Lib.hid hgo
 have hrm:m<=rc/\rc<=9223372036854775807:=by obtain⟨a8,c8,e8,k1,k2,-⟩:=OY.out.form;injection e8 with e1 e2 e3;subst e3;exact⟨by rw[hm];exact k1,k2⟩
 obtain⟨hrle,hrmx⟩:=hrm
 have HKP:Hid (∀ wr,Kp2 go wC.heap.size w14 wr->StIn B wr a1 n1 c1 X a2 n2 c2 L a3 n3 c3 N/\MH wr mb cnt (.int .i64 0) f g/\lineE.Own W13.heap.size wr (.slice ra m rc) Y/\Below w0.heap.size w0 wr/\B<=wr.heap.size):=Lib.hid (fun wr hk=>by
  have e0:=HW.out.size
  have e1:=HS2.out
  have e2:=HGO.out.2
  have hb14:Below W.heap.size W w14:=(BC.out.trans (B13.out.mono e1.1)).trans (B14.out.mono (by omega))
  have hbw:Below W.heap.size W wr:=hk.out hb14 e2.1 e1.1 (by omega)
  refine⟨H.out.below (hbw.mono hBW),HM.out.below hbw HM.out.lt,OY.out.keep (fun b e=>?_),HW.out.trans (hbw.mono e0),Nat.le_trans hBW hbw.size⟩
  have:=OY.out.ge b e
  exact hk.block b (by omega) (by omega) this.2)
 have A0:Hid (AlS X L now nl nx (.slice a1 n1 c1) (.slice a2 n2 c2) (.slice a3 n3 c3) (.slice ao n3 co) N Y Z W.heap.size go wC.heap.size w14 0 w14 N [] none 0):=Lib.hid ⟨HZ2.out,HO13.out.below B14.out,rfl,H.out.lines.fine,(B14.out.block _ (by have:=S13.out;omega)).trans K13.out,El.Own.nil _ _ _,fun x hx=>(by cases hx),Nat.zero_le _,Kp2.refl _ _ _⟩
 clear hY hml hm hgo HZ2 HZ x0 x1 x2 x3 x4 x5 y0 y1 y2 y3 y4 y5 HOp HW13 PY HO13
 go_loopw [51] (fun s51 wr=>∃ (k:Nat) (O:List LineV) (Wk:List WantV) (wa:Option Addr) (wc:Nat),s51 = .int .i64 k/\k<=m/\Hid (AlS X L now nl nx (.slice a1 n1 c1) (.slice a2 n2 c2) (.slice a3 n3 c3) (.slice ao n3 co) N Y Z W.heap.size go wC.heap.size w14 k wr O Wk wa wc)) (fun s51 _=>m - (intOf s51).toNat)
 case atStart=>exact⟨0,N,[],none,0,rfl,Nat.zero_le _,A0⟩
 case round =>
  obtain⟨k,O,Wk,wa,wc,rfl,hk,HA⟩:=hrel
  obtain⟨wo,rfl⟩:∃ z,z=wr:=⟨_,rfl⟩
  obtain⟨z1,z2,z3,z4,z5,z6,z7,z8,z9⟩:=HA.out
  obtain⟨k1,k2,k3,k4,k5⟩:=HKP.out wo z9
  by_cases hlt:k < m
  ·skip
   have hkY:k < Y.length:=by rw[<- HMm.out];exact hlt
   obtain⟨rb,ro,hra,hrb,hcells⟩:∃ b o,ra=some ⟨b,o,none⟩/\W13.heap.size<=b/\∀ j,j < 8->wo.cell? ⟨b,o+k * 8+j,none⟩=(lineE.enc (Y.getD k default))[j]?:=by
    obtain⟨a8,c8,e8,-,-,hg⟩:=k3.form
    obtain⟨gg,hgg⟩:=hg (Nat.lt_of_le_of_lt (Nat.zero_le _) hkY)
    injection e8 with e8
    have e9:=e8.trans hgg
    subst e9
    obtain⟨-,-,-,hge,-,hcl⟩:=k3.cell
    exact⟨gg,0,rfl,hge,fun j hj=>by rw[Nat.zero_add];exact hcl k hlt j hj⟩
   subst hra
   have hlN:Y.getD k default∈N:=HYN.out _ (by rw[List.getD_eq_getElem?_getD,List.getElem?_eq_getElem hkY];exact List.getElem_mem _)
   obtain⟨ix,hix,hixe⟩:=List.getElem_of_mem hlN
   have hlok:okLine (Y.getD k default):=k1.lines.fine _ hlN
   have hixd:N.getD ix default=Y.getD k default:=by rw[List.getD_eq_getElem?_getD,List.getElem?_eq_getElem hix];exact hixe
   have hfx:f (Y.getD k default).id = .int .i64 ix:=by rw[<- hixd];exact HF.out ix hix
   have hOl:O.length=n3:=by rw[<- HlN.out];have:=congrArg List.length z3;simpa using this
   have hOix:(O.getD ix default).id=(Y.getD k default).id:=by
    have e1:(O.map (·.id))[ix]? = (N.map (·.id))[ix]?:=by rw[z3]
    rw[List.getElem?_map,List.getElem?_map,List.getElem?_eq_getElem hix,List.getElem?_eq_getElem (by rw[hOl,<- HlN.out];exact hix)] at e1
    rw[List.getD_eq_getElem?_getD,List.getElem?_eq_getElem (by rw[hOl,<- HlN.out];exact hix),<- hixe]
    simpa using e1
   have hstep:=allF_at (X:=X) (L:=L) (now:=now) hkY O Wk
   rw[map_set_id (by rw[z3];exact HID.out) (by rw[hOl,<- HlN.out];exact hix) hOix] at hstep
   have hpk:=promL_keys (parts:=partsO X) (row:=rowX X) (L:=L) (now:=now) Wk (Y.getD k default)
   have hpok:okLine (promL (partsO X) (rowX X) L now Wk (Y.getD k default)):=promL_fine (fun x hx=>(k1.items.ok x hx).code) hlok
   have e0:=hcells 0 (by decide)
   have e1:=hcells 1 (by decide)
   have e2:=hcells 2 (by decide)
   have e3:=hcells 3 (by decide)
   have e4:=hcells 4 (by decide)
   have e5:=hcells 5 (by decide)
   have e6:=hcells 6 (by decide)
   have e7:=hcells 7 (by decide)
   have hWk:Wk.length<=25000000:=Nat.le_trans z8 (Nat.le_trans (Nat.mul_le_mul (show k<=5000 by have:=HmN.out;omega) (show X.length<=5000 by rw[<- HlX.out];exact h1)) (by decide))
   have HPRM:=Lib.hid (fun (V:World) (hb:Below wo.heap.size wo V)=>prom_any V.heap.size wC.heap.size now nl nx a1 n1 c1 X a2 n2 c2 L (.slice a3 n3 c3) wa Wk.length wc Wk (Y.getD k default) V ((k1.items.below (hb.mono k5)).mono (Nat.le_trans k5 hb.size)) ((k1.lots.below (hb.mono k5)).mono (Nat.le_trans k5 hb.size)) (by obtain⟨a8,c8,e8,hin8⟩:=z6.in_ z7;injection e8 with e8 e9 e10;subst e8;subst e10;exact (hin8.below hb).mono hb.size) (Nat.le_refl _) ((hb.block _ (Array.getElem?_eq_some_iff.1 z5).1).trans z5) hlok HNOW.out (by rw[<- HlX.out];omega) (by omega) (by omega) (fun x hx=>(k1.sz x hx).2))
   have htbl:wC.heap.size < wo.heap.size:=(Array.getElem?_eq_some_iff.1 z5).1
   have HWA:=Lib.hid (fun (V:World) (hb:Below W.heap.size W V) (p:LineV) (hp:okLine p)=>wants_any B a1 n1 c1 X p V (H.out.items.below (hb.mono hBW)) (Nat.le_trans hBW hb.size) hp (by rw[<- HlX.out];omega))
   generalize Y.getD k default=l at e0 e1 e2 e3 e4 e5 e6 e7 hfx hstep HPRM hpk hlok hpok hOix hixd hlN hixe
   obtain⟨⟨pid,pitem,pqty,pasked,prank,pst,pday,pcode⟩,hP⟩:∃ p,p=promL (partsO X) (rowX X) L now Wk l:=⟨_,rfl⟩
   rw[<- hP] at hstep HPRM hpk hpok
   have hpid:pid=l.id:=hpk.1
   rw[<- hpid] at hfx
   obtain⟨id,item,qty,asked,rank,st,day,code⟩:=l
   unfold LineV.val encStr at HPRM
   simp only at HPRM hpid
   have E0:wo.cell? ⟨rb,ro+k * 8,none⟩=some (.int .i64 id):=e0
   have E1:wo.cell? ⟨rb,ro+k * 8+1,none⟩=some (.string ⟨item.toArray⟩):=e1
   have E2:wo.cell? ⟨rb,ro+k * 8+2,none⟩=some (.int .i64 qty):=e2
   have E3:wo.cell? ⟨rb,ro+k * 8+3,none⟩=some (.int .i64 asked):=e3
   have E4:wo.cell? ⟨rb,ro+k * 8+4,none⟩=some (.int .i64 rank):=e4
   have E5:wo.cell? ⟨rb,ro+k * 8+5,none⟩=some (.int .u8 st):=e5
   have E6:wo.cell? ⟨rb,ro+k * 8+6,none⟩=some (.int .i64 day):=e6
   have E7:wo.cell? ⟨rb,ro+k * 8+7,none⟩=some (.string ⟨code.toArray⟩):=e7
   obtain⟨W16,hW16⟩:∃ V,V=wo.alloc (lineObj id item qty asked rank st day code):=⟨_,rfl⟩
   have b16:Below wo.heap.size wo W16:=by rw[hW16];exact below_allocL _ _
   have k16:W16.heap[wo.heap.size]? = some (lineObj id item qty asked rank st day code):=by rw[hW16];exact heap_alloc_new _ _
   have l16:wo.heap.size < W16.heap.size:=(Array.getElem?_eq_some_iff.1 k16).1
   obtain⟨d0,d1,d2,d3,d4,d5,d6,d7⟩:=lineObj_cells k16
   have HP16:=Lib.hid (HPRM.out W16 b16)
   have HZ5:=Lib.hid z5
   have HZ6:=Lib.hid z6
   have HZ9:=Lib.hid z9
   have HZ2:=Lib.hid z2
   have HM2:=Lib.hid k2
   have HK4:=Lib.hid k4
   have HST:=Lib.hid (hstep.symm ▸ z1:(allF (partsO X) (rowX X) L now (Y.drop (k+1)) (O.set ix ⟨pid,pitem,pqty,pasked,prank,pst,pday,pcode⟩,Wk ++ wantsL (partsO X) ⟨pid,pitem,pqty,pasked,prank,pst,pday,pcode⟩)).1=Z)
   have HO3:=Lib.hid z3
   have HO4:=Lib.hid z4
   have HO7:=Lib.hid z7
   have HO8:=Lib.hid z8
   have HPOK:=Lib.hid hpok
   have HOIX:=Lib.hid (And.intro hOix hOl)
   have HPID:=Lib.hid hpid
   have HFX:=Lib.hid hfx
   have HIX:Hid (ix < n3):=Lib.hid (by rw[<- HlN.out];exact hix)
   have HWKL:=Lib.hid hWk
   have HW16:=Lib.hid hW16
   have HB16:=Lib.hid b16
   have HK16:=Lib.hid k16
   unfold lineObj at HW16
   clear e0 e1 e2 e3 e4 e5 e6 e7 hcells hW16 b16 k16 z1 z2 z3 z4 z5 z6 z7 z8 z9 k1 k2 k3 k4 k5 hstep hpk hlok hpok hOix hixd hixe hlN hP hpid hfx hix hOl hWk HPRM HA A0 hkY
   go_upto_region 17 with (fail)
   rw[<- HW16.out]
   go_upto_region 18 with (go_at_call 38;refine HP16.out.mono ?_;rintro e wP ⟨rfl,hbP⟩;have BP:=Lib.hid hbP;have kP:=(hbP.block wo.heap.size l16).trans HK16.out;obtain⟨v0,v1,v2,v3,v4,v5,v6,v7⟩:=lineObj_cells kP;obtain⟨fv0,fv1,fv2,fv3,fv4,fv5,fv6,fv7⟩:=line_frozen8 kP;have KP:=Lib.hid kP;clear hbP kP)
   obtain⟨W17,hW17⟩:∃ V,V=put8 wP wo.heap.size pid pitem pqty pasked prank pst pday pcode:=⟨_,rfl⟩
   have b17:Below wo.heap.size wo W17:=by rw[hW17];exact put8_below (HB16.out.trans (BP.out.mono HB16.out.size)) _ _ _ _ _ _ _ _ _ (Nat.le_refl _)
   have k17:W17.heap[wo.heap.size]? = some (lineObj pid pitem pqty pasked prank pst pday pcode):=by rw[hW17];exact put8_at KP.out _ _ _ _ _ _ _ _
   unfold put8 at hW17
   rw[<- hW17]
   clear hW17 v0 v1 v2 v3 v4 v5 v6 v7 fv0 fv1 fv2 fv3 fv4 fv5 fv6 fv7 d0 d1 d2 d3 d4 d5 d6 d7
   obtain⟨rfl,-,-⟩:ao=some ⟨go,0,none⟩/\True/\True:=⟨HGO.out.1 (by have:=HIX.out;omega),trivial,trivial⟩
   have HO17:=Lib.hid (HZ2.out.below b17)
   have m17:=(HM2.out.below b17 HM2.out.lt).mi.look Tryz.underlying77 (zeroIntH _) pid HPOK.out.1.1 HPOK.out.1.2
   rw[HFX.out] at m17
   obtain⟨p0,p1,p2,p3,p4,p5,p6,p7⟩:=lineObj_cells k17
   have hco:=(HO17.out.cell).2.1
   have hcx:=(HO17.out.cell).2.2.1
   have hix0:(0:Int)<=(ix:Int):=by omega
   have hix1:(ix:Int) < (n3:Int):=by have:=HIX.out;omega
   have hix2:=HIX.out
   have c0:=(HO17.out.cell).2.2.2.2.2 ix HIX.out 0 (by decide)
   have c1:=(HO17.out.cell).2.2.2.2.2 ix HIX.out 1 (by decide)
   have c2:=(HO17.out.cell).2.2.2.2.2 ix HIX.out 2 (by decide)
   have c3:=(HO17.out.cell).2.2.2.2.2 ix HIX.out 3 (by decide)
   have c4:=(HO17.out.cell).2.2.2.2.2 ix HIX.out 4 (by decide)
   have c5:=(HO17.out.cell).2.2.2.2.2 ix HIX.out 5 (by decide)
   have c6:=(HO17.out.cell).2.2.2.2.2 ix HIX.out 6 (by decide)
   have c7:=(HO17.out.cell).2.2.2.2.2 ix HIX.out 7 (by decide)
   simp only[show lineE.k=8 from rfl] at c0 c1 c2 c3 c4 c5 c6 c7
   generalize O.getD ix default=oo at c0 c1 c2 c3 c4 c5 c6 c7
   obtain⟨q1,q2,q3,q4,q5,q6,q7,q8⟩:=oo
   have C0:W17.cell? ⟨go,ix * 8,none⟩=some (.int .i64 q1):=c0
   have C1:W17.cell? ⟨go,ix * 8+1,none⟩=some (encStr q2):=c1
   have C2:W17.cell? ⟨go,ix * 8+2,none⟩=some (.int .i64 q3):=c2
   have C3:W17.cell? ⟨go,ix * 8+3,none⟩=some (.int .i64 q4):=c3
   have C4:W17.cell? ⟨go,ix * 8+4,none⟩=some (.int .i64 q5):=c4
   have C5:W17.cell? ⟨go,ix * 8+5,none⟩=some (.int .u8 q6):=c5
   have C6:W17.cell? ⟨go,ix * 8+6,none⟩=some (.int .i64 q7):=c6
   have C7:W17.cell? ⟨go,ix * 8+7,none⟩=some (encStr q8):=c7
   have F0:W17.frozen? ⟨go,ix * 8,none⟩=false:=own_frozenL HO17.out _
   have F1:W17.frozen? ⟨go,ix * 8+1,none⟩=false:=own_frozenL HO17.out _
   have F2:W17.frozen? ⟨go,ix * 8+2,none⟩=false:=own_frozenL HO17.out _
   have F3:W17.frozen? ⟨go,ix * 8+3,none⟩=false:=own_frozenL HO17.out _
   have F4:W17.frozen? ⟨go,ix * 8+4,none⟩=false:=own_frozenL HO17.out _
   have F5:W17.frozen? ⟨go,ix * 8+5,none⟩=false:=own_frozenL HO17.out _
   have F6:W17.frozen? ⟨go,ix * 8+6,none⟩=false:=own_frozenL HO17.out _
   have F7:W17.frozen? ⟨go,ix * 8+7,none⟩=false:=own_frozenL HO17.out _
   clear c0 c1 c2 c3 c4 c5 c6 c7
   obtain⟨W18,hW18⟩:∃ V,V=put8L W17 go ix pid pitem pqty pasked prank pst pday pcode:=⟨_,rfl⟩
   have O18:=Lib.hid (show lineE.Own W.heap.size W18 (.slice (some ⟨go,0,none⟩) n3 co) (O.set ix ⟨pid,pitem,pqty,pasked,prank,pst,pday,pcode⟩) by rw[hW18];exact own_set8 HO17.out HIX.out _ _ _ _ _ _ _ _)
   have hgolt:go < wo.heap.size/\go<=wC.heap.size:=by have e1:=HGO.out.2;omega
   have hgotb:go≠wC.heap.size:=by
    intro e
    obtain⟨cur,hcur⟩:=Tx.row_is HO17.out (g:=go) rfl
    have h5:=(b17.block _ htbl).trans HZ5.out
    rw[e] at hcur
    rw[hcur] at h5
    unfold tbObj at h5
    injection h5 with h5
    injection h5 with h5a h5b
    exact absurd h5b (by decide)
   have K18:=Lib.hid (show W18.heap[wo.heap.size]? = some (lineObj pid pitem pqty pasked prank pst pday pcode) by rw[hW18,put8L_block _ _ _ _ _ _ _ _ (by omega)];exact k17)
   have T18:=Lib.hid (show W18.heap[wC.heap.size]? = some (tbObj now nl nx (.slice a1 n1 c1) (.slice a2 n2 c2) (.slice a3 n3 c3) (.slice wa Wk.length wc)) by rw[hW18,put8L_block _ _ _ _ _ _ _ _ (Ne.symm hgotb)];exact (b17.block _ htbl).trans HZ5.out)
   have Kp18:=Lib.hid (show Kp2 go wC.heap.size w14 W18 by rw[hW18];exact put8L_kp (HZ9.out.below b17) rfl _ _ _ _ _ _ _ _)
   have WA18:=Lib.hid (show wantE.Own w14.heap.size W18 (.slice wa Wk.length wc) Wk by
    rw[hW18]
    exact (HZ6.out.below b17).keep (fun b e=>put8L_block _ _ _ _ _ _ _ _ (by have h1:=(HZ6.out.ge b e).1;have h2:=HS2.out;omega)))
   have S18:Hid (W18.heap.size=W17.heap.size):=Lib.hid (by rw[hW18];exact put8L_size _ _ _ _ _ _ _ _ _ _ _)
   have B18:=Lib.hid (HKP.out W18 Kp18.out).2.2.2.1
   have BW18:Hid (Below W.heap.size W W18):=Lib.hid (Kp18.out.out ((BC.out.trans (B13.out.mono HS2.out.1)).trans (B14.out.mono (by have:=HS2.out;omega))) HGO.out.2.1 HS2.out.1 (by have:=HS2.out;omega))
   have HS17:Hid (wo.heap.size < W17.heap.size):=Lib.hid (Array.getElem?_eq_some_iff.1 k17).1
   unfold put8L at hW18
   go_upto_region 19 with (fail)
   rw[<- hW18]
   clear hW18 C0 C1 C2 C3 C4 C5 C6 C7 F0 F1 F2 F3 F4 F5 F6 F7 p0 p1 p2 p3 p4 p5 p6 p7 m17 k17 b17 E0 E1 E2 E3 E4 E5 E6 E7
   have b18:=Lib.hid (below_drewP (Below.refl W18.heap.size W18))
   have hts:=Lib.hid (show wC.heap.size < W18.heap.size by have e1:=HS17.out;have e2:=S18.out;omega)
   obtain⟨t0,t1,t2,t3,t4,t5,t6⟩:=tbObj_cells ((b18.out.block _ hts.out).trans T18.out)
   obtain⟨p0,p1,p2,p3,p4,p5,p6,p7⟩:=lineObj_cells ((b18.out.block _ (show wo.heap.size < W18.heap.size by have e1:=HS17.out;have e2:=S18.out;omega)).trans K18.out)
   have HWd:=Lib.hid (HWA.out W18.drew (BW18.out.trans (b18.out.mono BW18.out.size)) ⟨pid,pitem,pqty,pasked,prank,pst,pday,pcode⟩ HPOK.out)
   obtain⟨V,hV⟩:∃ V,V=wantsL (partsO X) ⟨pid,pitem,pqty,pasked,prank,pst,pday,pcode⟩:=⟨_,rfl⟩
   rw[<- hV] at HWd HST
   unfold LineV.val encStr at HWd
   simp only at HWd
   unfold WnP at HWd
   obtain⟨vl,hvl⟩:∃ n,n=V.length:=⟨_,rfl⟩
   rw[<- hvl] at HWd
   have HVL:=Lib.hid hvl
   have HFT:Hid (∀ wV,Below W18.heap.size W18 wV->wV.cell? ⟨wC.heap.size,6,none⟩=some (.slice wa Wk.length wc)):=Lib.hid (fun wV hb=>(tbObj_cells ((hb.block _ hts.out).trans T18.out)).2.2.2.2.2.2)
   have HFG:Hid (∀ wV,Below W18.heap.size W18 wV->∀ w9,wV.grownBy w9 (Value.slice wa Wk.length wc).ownBlock->w9.heap[wC.heap.size]? = some (tbObj now nl nx (.slice a1 n1 c1) (.slice a2 n2 c2) (.slice a3 n3 c3) (.slice wa Wk.length wc))):=Lib.hid (fun wV hb w9 hg=>by
    refine (hg.block _ (Nat.lt_of_lt_of_le hts.out hb.size) (fun e=>?_)).trans ((hb.block _ hts.out).trans T18.out)
    have h1:=(WA18.out.ge _ e.symm).1
    have h2:=HS2.out
    omega)
   have HFIN:Hid (∀ wV,Below W18.heap.size W18 wV->∀ a9 c9 w9,wantE.Own w14.heap.size w9 (.slice a9 (Wk.length+vl) c9) (Wk ++ V)->wV.grownBy w9 (Value.slice wa Wk.length wc).ownBlock->(vl<=X.length/\∀ x∈V,okWant x)->AlS X L now nl nx (.slice a1 n1 c1) (.slice a2 n2 c2) (.slice a3 n3 c3) (.slice (some ⟨go,0,none⟩) n3 co) N Y Z W.heap.size go wC.heap.size w14 (k+1) (w9.setCell ⟨wC.heap.size,6,none⟩ (.slice a9 (Wk.length+vl) c9)) (O.set ix ⟨pid,pitem,pqty,pasked,prank,pst,pday,pcode⟩) (Wk ++ V) a9 c9):=Lib.hid (fun wV hb a9 c9 w9 ho9 hg9 hVp=>by
    have el:(Wk ++ V).length=Wk.length+vl:=by rw[List.length_append,hvl]
    have hgeo:∀ b,(Value.slice wa Wk.length wc).ownBlock=some b->w14.heap.size<=b:=fun b e=>(WA18.out.ge b e).1
    have hkp:Kp2 go wC.heap.size w14 w9:=(Kp18.out.below hb).grown hg9 hgeo
    have hne9:∀ b,(Value.slice a9 (Wk.length+vl) c9).ownBlock=some b->b≠wC.heap.size:=fun b e=>by have h1:=(ho9.ge b e).1;have h2:=HS2.out;omega
    refine⟨HST.out,?_,?_,?_,?_,?_,?_,?_,hkp.set (.inr rfl) _ _⟩
    ·refine O18.out.keep (fun b e=>?_)
     have hbg:b=go:=by injection e with e;exact e.symm
     subst hbg
     rw[setCell_block _ _ _ _ hgotb]
     have hb18:b < W18.heap.size:=(O18.out.ge b e).2
     exact (hg9.block b (Nat.lt_of_lt_of_le hb18 hb.size) (fun e2=>by have h1:=hgeo b e2.symm;have h2:=HS2.out;have h3:=hgolt.2;omega)).trans (hb.block b hb18)
    ·rw[List.map_set,HO3.out]
     have e1:=HOIX.out.1
     have e3:=HO3.out
     refine List.ext_getElem? (fun t=>?_)
     rw[List.getElem?_set]
     by_cases et:ix=t
     ·subst et
      rw[if_pos rfl]
      have h5:(O.map (·.id))[ix]? = (N.map (·.id))[ix]?:=by rw[e3]
      rw[List.getElem?_map,List.getElem?_eq_getElem (by rw[HOIX.out.2];exact HIX.out)] at h5
      rw[List.getD_eq_getElem?_getD,List.getElem?_eq_getElem (by rw[HOIX.out.2];exact HIX.out)] at e1
      rw[if_pos (by rw[List.length_map,HlN.out];exact HIX.out),<- h5]
      simp only[Option.map_some,Option.some.injEq]
      simp only[Option.getD_some] at e1
      rw[e1,HPID.out]
     ·rw[if_neg et]
    ·intro x hx
     rcases List.mem_or_eq_of_mem_set hx with hx | hx
     ·exact HO4.out x hx
     ·rw[hx];exact HPOK.out
    ·rw[el]
     have h6:=HFG.out wV hb w9 hg9
     unfold tbObj at h6 ⊢
     rw[heap_setCell_same _ _ 6 _ _ _ h6]
     rfl
    ·rw[el]
     exact ho9.keep (fun b e=>setCell_block _ _ _ _ (hne9 b e))
    ·intro x hx
     exact (List.mem_append.1 hx).elim (HO7.out x) (hVp.2 x)
    ·rw[el,Nat.add_mul,Nat.one_mul]
     have:=HO8.out
     have:=hVp.1
     omega)
   have HW14:Hid (w14.heap.size<=W18.heap.size):=Lib.hid Kp18.out.size
   clear hV hvl K18 T18 Kp18 O18 HST HO3 HO4 HO7 HO8 HOIX HPID HFX HO17 HM2 HK4 HZ2 HZ5 HZ6 HZ9 HP16 HK16 HB16 HW16 BP KP HWA HKP hco hcx
   go_region_law (first | (refine step_call (f:=43) (args:=#[.slice a1 n1 c1,.agg #[.int .i64 pid,.string ⟨pitem.toArray⟩,.int .i64 pqty,.int .i64 pasked,.int .i64 prank,.int .u8 pst,.int .i64 pday,.string ⟨pcode.toArray⟩]]) rfl (run_fn2 rfl rfl ent_wants _ rfl rfl) ?_;refine HWd.out.mono ?_;rintro e wV ⟨⟨⟨va,vc,rfl,hoV⟩,hbV⟩,hVl,hVf⟩;have bV:=Lib.hid (b18.out.trans (hbV.mono b18.out.size));have u6:=HFT.out wV bV.out;have OV:=Lib.hid hoV;have FV:=Lib.hid (And.intro hVl hVf);clear hoV hbV hVl hVf;refine⟨_,rfl,?_⟩) | (refine step_appendN wantE rfl _ _ rfl w14.heap.size wa Wk.length wc Wk V vl HVL.out rfl rfl (WA18.out.below bV.out) va vc rfl (fun h0=>by obtain⟨a7,c7,e7,h7⟩:=OV.out.in_ FV.out.2;rw[HVL.out] at OV;injection e7 with e8 e9 e10;subst e8;exact h7.src h0) (Nat.le_trans HW14.out bV.out.size) (by have e1:=FV.out.1;have e2:=HWKL.out;have e3:=HlX.out;omega) ?_;intro a9 c9 w9 ho9 hg9;have h6:=HFG.out wV bV.out w9 hg9;have x6:=(tbObj_cells h6).2.2.2.2.2.2;have fx6:w9.frozen? ⟨wC.heap.size,6,none⟩=false:=(by unfold tbObj at h6;unfold World.frozen?;rw[h6];simp);have FIN:=Lib.hid (HFIN.out wV bV.out a9 c9 w9 ho9 hg9 FV.out);clear h6 ho9 hg9))
   all_goals clear t0 t1 t2 t3 t4 t5 t6 p0 p1 p2 p3 p4 p5 p6 p7 HFIN HFG HFT HWd
   all_goals (
    go_wp2_with (fail)
    go_roundw
    case rel=>exact⟨k+1,O.set ix ⟨pid,pitem,pqty,pasked,prank,pst,pday,pcode⟩,Wk ++ V,a9,c9,by go_num,by omega,FIN⟩
    case measure=>simp[intOf];omega)
  ·have ek:Y.drop k=[]:=List.drop_eq_nil_of_le (by have:=HMm.out;omega)
   rw[ek] at z1
   have ez:O=Z:=z1
   have el:Z.length=n3:=by rw[<- ez,<- HlN.out];have:=congrArg List.length z3;simpa using this
   rw[ez] at z2
   have OZ:=Lib.hid (z2.mono HW.out.size)
   have B9:=Lib.hid k4
   have EL:=Lib.hid el
   clear z1 z2 z3 z4 z5 z6 z7 z8 z9 k1 k2 k3 k4 k5 ek ez el
   go_wp2_with (fail)
   have h:=OZ.out
   have hr:=HRR.out ao co wo
   rw[EL.out] at hr
   exact hr h B9.out
end Go.Proofs.YtgplnekpgdhcpaaGreat
