/- storemanref07.end, storemanref07.Parts: their walks. storemanref07.Parts, storemanref07.Deep: their walks. The document's Wants (storemanref10): its walk. The document's Row (storemanref08), Compare and Open (storemanref09): walks. -/
import Derived.Test.YtgplnekpgdhcpaaGreatJOver
import Derived.Test.YtgplnekpgdhcpaaGreatKRefCheck
import Derived.Test.YtgplnekpgdhcpaaGreatJRef
import Derived.Test.YtgplnekpgdhcpaaGreatQLineOk
import Derived.Test.YtgplnekpgdhcpaaGreatQPromO
import Derived.Test.YtgplnekpgdhcpaaGreatQWantsN
namespace Go.Proofs.YtgplnekpgdhcpaaGreat
open Go.RowKit

theorem join_merge {A B S T:List Pt} (hA:joinL [] A=some S) (hB:joinL [] B=some T):joinL [] (S ++ T)=joinL [] (A ++ B):=by
 have uS:=joinL_up Up.nil hA
 have uT:=joinL_up Up.nil hB
 refine joinL_eq (fun k=>?_) (fun k=>?_) ⟨fun _ r hr=>?_,fun _ r hr=>?_⟩
 ·rw[tot_append,tot_append,uS.tot_eq,uT.tot_eq,joinL_sum Up.nil hA,joinL_sum Up.nil hB]
  show (0+_)+(0+_)=_
  omega
 ·rw[List.map_append,List.mem_append,List.map_append,List.mem_append,joinL_keys hA,joinL_keys hB]
  simp
 ·rcases List.mem_append.1 hr with hr | hr
  ·exact ((joinL_iff Up.nil).1 (by rw[hA];rfl)).1 r hr
  ·exact ((joinL_iff Up.nil).1 (by rw[hB];rfl)).1 r hr
 ·rcases List.mem_append.1 hr with hr | hr
  ·exact uS.2 r hr
  ·exact uT.2 r hr
theorem leaves_pos {X:List It} (hs:Sound X) (k:Nat) {c:List UInt8} (hc:c∈codes X) {q:Int} (h1:1<=q):∀ p∈leaves X k c q,0<=p.2:=fun p hp=>by
 have:=(leaves_ge hs k hc h1 p hp).1
 omega
theorem part_ge {q r:Int} (h1:1<=q) (h2:1<=r):1<=q * r/\q<=q * r:=by
 have:=Int.mul_le_mul_of_nonneg_left h2 (show 0<=q by omega)
 omega
theorem end_sub {X:List It} (hs:Sound X) {k:Nat} {c:List UInt8} (hc:c∈codes X) (h0:(partsX X c).length≠0) {q:Int} (h1:1<=q) {p:Pt} (hp:p∈partsX X c) (h:joinL [] (leaves X k p.1 (q * p.2))=none):joinL [] (leaves X (k+1) c q)=none:=by
 cases hw:joinL [] (leaves X (k+1) c q) with
 | none=>rfl
 | some R =>
  obtain⟨f1,f2⟩:=(joinL_iff Up.nil).1 (show (joinL [] (leaves X (k+1) c q)).isSome=true by rw[hw];rfl)
  have h3:(joinL [] (leaves X k p.1 (q * p.2))).isSome=true:=(joinL_iff Up.nil).2 ⟨fun r hr=>f1 r (by rw[leaves_kit h0];exact List.mem_flatMap.2 ⟨p,hp,hr⟩),fun s=>by
   have h4:=f2 s
   rw[leaves_kit h0] at h4
   have h5:=tot_flat s (fun p=>leaves X k p.1 (q * p.2)) (L:=partsX X c) (fun x hx=>leaves_pos hs k (hs.parts hc x hx).1 (part_ge h1 (hs.parts hc x hx).2.1).1) hp
   have h6:tot s (leaves X k p.1 (q * p.2))<=tot s (List.flatMap (fun p=>leaves X k p.1 (q * p.2)) (partsX X c)):=h5
   omega⟩
  rw[h] at h3
  cases h3
theorem end_over {X:List It} (hs:Sound X) {k:Nat} {c:List UInt8} (hc:c∈codes X) (h0:(partsX X c).length≠0) {d:Nat} (hd:hgt (kidsX X) (k+1) c=some d) {q:Int} (h1:1<=q) (h2:q<=mostA) {p:Pt} (hp:p∈partsX X c) (h:timesA q p.2=none):joinL [] (leaves X (k+1) c q)=none:=by
 obtain⟨g1,g2,g3⟩:=hs.parts hc p hp
 rw[times_fine h1 g2 g3 h2] at h
 have hb:mostA < q * p.2:=by
  by_cases hle:q * p.2<=mostA
  ·rw[if_pos hle] at h;cases h
  ·omega
 obtain⟨d',hd'⟩:=hgt_parts hd p hp
 obtain⟨r,hr⟩:=leaves_some (X:=X) k (q:=q * p.2) hd'
 have h3:=(leaves_ge hs k g1 (part_ge h1 g2).1 r hr).1
 exact joinL_big Up.nil (p:=r) (by rw[leaves_kit h0];exact List.mem_flatMap.2 ⟨p,hp,hr⟩) (by omega)
theorem flat_take {α β:Type} [Inhabited α] (g:α->List β) {L:List α} {j:Nat} (hj:j < L.length):(L.take (j+1)).flatMap g=(L.take j).flatMap g ++ g (L.getD j default):=by
 rw[List.take_succ_eq_append_getElem hj,List.flatMap_append,List.getD_eq_getElem?_getD,List.getElem?_eq_getElem hj]
 simp
theorem flat_more {α β:Type} (g:α->List β) (L:List α) (j:Nat):L.flatMap g=(L.take j).flatMap g ++ (L.drop j).flatMap g:=by
 rw[<- List.flatMap_append,List.take_append_drop]
theorem RV.two {B:Nat} {W:World} {a0 a1:Option Addr} {n0 n1 c0 c1:Nat} {P0 P1:List Pt} (h0:RP B W a0 n0 c0 P0) (h1:RP B W a1 n1 c1 P1) (hB:B<=W.heap.size) :
  RV (W.heap.size+1) (W.alloc (.cells #[.slice a0 n0 c0,.slice a1 n1 c1] 64)) (some ⟨W.heap.size,0,none⟩) 2 2 [⟨a0,n0,c0,P0⟩,⟨a1,n1,c1,P1⟩]:=by
 refine⟨rfl,Nat.le_refl _,by omega,fun _=>⟨W.heap.size,0,rfl,by omega,fun i hi=>?_⟩,fun i hi=>?_⟩
 ·rcases (show i=0∨i=1 by omega) with rfl | rfl <;> simp only[World.cell?,(Go.MapKept.heap_alloc W _).1] <;> rfl
 ·rcases (show i=0∨i=1 by omega) with rfl | rfl
  ·exact (h0.below ((Below.refl _ W).alloc hB _)).mono (by omega)
  ·exact (h1.below ((Below.refl _ W).alloc hB _)).mono (by omega)
theorem op_one {base:Nat} {W:World} (hb:base<=W.heap.size) (c:List UInt8) (q:Int):OP base (W.alloc (.cells #[.string ⟨c.toArray⟩,.int .i64 q] 74)) (.slice (some ⟨W.heap.size,0,none⟩) 1 1) [(c,q)] :=
 ⟨rfl,.inr ⟨W.heap.size,1,_,rfl,hb,heap_alloc_new _ _,Nat.le_refl _,by simp[maxLen],rfl,rfl⟩⟩
def ER (X:List It) (k:Nat) (q:Int) (ps:List Pt) (w:World) (g:Nat) (x:It) (v:Value) (j m:Nat) (wr:World):Prop :=
 ∃ S,m=S.length/\joinL [] ((ps.take j).flatMap fun p=>leaves X k p.1 (q * p.2))=some S/\PS X S/\OP w.heap.size wr v S/\Below w.heap.size w wr/\XC wr g x

set_option maxHeartbeats 8000000 in
set_option maxRecDepth 100000 in
theorem rEnd_any (B:Nat) (a:Option Addr) (n cp:Nat) (X:List It) (hs:Sound X) (k:Nat):∀ (c:List UInt8) (q:Int) (w:World) (d:Nat),RI B w a n cp X->B<=w.heap.size->c∈codes X->hgt (kidsX X) k c=some d->1<=q->q<=mostA ->
  Calls Tryz.prog 73 #[.slice a n cp,.int .i64 (fI X c),.int .i64 q] w (JoinPost w (joinL [] (leaves X k c q))):=by
 have HS:=Lib.hid hs
 clear hs
 induction k with
 | zero=>rintro c q w d - - - hd;cases hd
 | succ k ih =>
  intro c q w d hr hB hc hd hq1 hq2
  obtain⟨i,hi,hfi,hci⟩:=there hc
  rw[hfi]
  have hn:=hr.len
  have hle:=hr.le
  have hmx:=hr.mx
  have i0:(0:Int)<=(i:Int):=by omega
  have i1:(i:Int) < (n:Int):=by omega
  obtain⟨b,o,ha,hbB,hok,c0,c1,c2,c3⟩:=hr.item (i:=i) (by omega)
  subst ha
  obtain⟨x,hx⟩:∃ x,x=X.getD i default:=⟨_,rfl⟩
  have hxi:itF X c=some x:=by rw[<- hci,itF_cd HS.out.nd hi,hx]
  have hxc:x.code=c:=by rw[hx];exact hci
  have hpx:partsX X c=x.ps:=by unfold partsX;rw[hxi]
  rw[<- hx] at hok c0 c1 c2 c3
  unfold encStr at c0
  have hrp:=hok.rp
  have hpl:=hrp.le
  have hpm:=hrp.mx
  obtain⟨np,hnp⟩:∃ m,m=x.ps.length:=⟨_,rfl⟩
  rw[<- hnp] at hpl c2
  obtain⟨no,hno⟩:∃ m,m=x.os.length:=⟨_,rfl⟩
  rw[<- hno] at c3
  obtain⟨W1,hW1⟩:∃ W',W'=w.alloc (.cells #[.string ⟨x.code.toArray⟩,.int .i64 x.life,.slice x.pa np x.pc,.slice x.oa no x.oc] 87):=⟨_,rfl⟩
  have hx1:XC W1 w.heap.size x:=⟨by rw[hW1,hnp,hno];exact heap_alloc_new _ _⟩
  have hb1:Below w.heap.size w W1:=by rw[hW1];exact (Below.refl _ w).alloc (Nat.le_refl _) _
  have HX1:=Lib.hid hx1
  have HB1:=Lib.hid hb1
  have HR:=Lib.hid hr
  have HC:=Lib.hid hc
  have HD:=Lib.hid hd
  have HXC:=Lib.hid hxc
  have HPX:=Lib.hid hpx
  have HRP:=Lib.hid hrp
  have HNP:=Lib.hid hnp
  have HW1:=Lib.hid hW1
  have HOKX:=Lib.hid (show ∀ x∈X,x.code.length<=9223372036854775807 from fun y hy=>(hr.ok y hy).code)
  clear hr hc hd hx hxi hxc hpx hrp hok hx1 hb1 hci hfi hi hbB hno hn
  go_enter Tryz.func73,Tryz.ntmps73
  by_cases h0:np=0
  ·have e0:((np:Int) == 0)=true:=by simp;omega
   have hj:joinL [] (leaves X (k+1) c q)=some [(c,q)]:=by
    rw[leaves_leaf (by rw[HPX.out,<- HNP.out];exact h0)]
    show (match addA (sumAt [] c) q with | none=>none | some n=>joinL (setAt [] c n) [])=_
    have:addA (sumAt [] c) q=some q:=by
     show addA 0 q=some q
     unfold mostA at hq2
     exact (addA_iff (by decide)).2 ⟨okA_iff.2 (by omega),by unfold mostA;omega,by omega⟩
    rw[this]
    rfl
   have HJ:=Lib.hid hj
   clear h0 hj hnp
   go_upto_region 2 with (fail)
   rw[<- hW1]
   obtain⟨x0,-,x2⟩:=HX1.out.cells
   unfold encStr at x0
   rw[<- HNP.out] at x2
   clear hW1 c0 c1 c2 c3
   go_wp2_with (fail)
   go_ret2
   refine⟨HB1.out.alloc HB1.out.size _,?_⟩
   rw[HJ.out]
   refine⟨_,_,rfl,?_⟩
   rw[HXC.out]
   exact op_one HB1.out.size c q
  ·have e0:((np:Int) == 0)=false:=by simp;omega
   have HK0:Hid ((partsX X c).length≠0):=Lib.hid (by rw[HPX.out,<- HNP.out];exact h0)
   have hn8:np<=8:=by
    have h:=HS.out.k8 c HC.out
    rw[kids_parts,HPX.out,List.length_map] at h
    omega
   clear h0 hnp
   go_upto_region 2 with (fail)
   rw[<- hW1]
   obtain⟨x0,-,x2⟩:=HX1.out.cells
   rw[<- HNP.out] at x2
   clear hW1 c0 c1 c2 c3 x0
   go_wp2_with (fail)
   go_loopw [9,10] (fun v s wr=>∃ (j m:Nat) (a':Option Addr) (c':Nat),j<=np/\s = .int .i64 j/\v = .slice a' m c'/\Hid (ER X k q x.ps w w.heap.size x (.slice a' m c') j m wr)) (fun _ s _=>np - (intOf s).toNat)
   case atStart=>exact⟨0,0,none,0,by omega,rfl,rfl,Lib.hid ⟨[],rfl,rfl,ps_of HS.out Up.nil (fun p hp=>by cases hp),OP.nil _ _,HB1.out,HX1.out⟩⟩
   case round =>
    clear x2
    obtain⟨j,m,a',c',hj,rfl,rfl,HE⟩:=hrel
    have hx2:=HE.out
    obtain⟨S,hS,hjl,hps,hop,hbl,hxc⟩:=hx2
    obtain⟨-,-,x2⟩:=hxc.cells
    rw[<- HNP.out] at x2
    by_cases hlt:j < np
    ·have t1:decide ((j:Int) < (np:Int))=true:=by simp;omega
     have j0:(0:Int)<=(j:Int):=by omega
     have j1:(j:Int) < (np:Int):=by omega
     have f1:IntKind.i64.wrap ((j:Int)+1)=((j+1:Nat):Int):=by rw[wrap_in (by omega) (by omega)];omega
     obtain⟨pb,po,hpa,hpB,p0,p1⟩:=(HRP.out.below (hbl.mono hB)).part (i:=j) (by rw[<- HNP.out];exact hlt)
     obtain⟨pj,hpj⟩:∃ p,p=x.ps.getD j default:=⟨_,rfl⟩
     have hpm2:pj∈partsX X c:=by rw[HPX.out,hpj,List.getD_eq_getElem?_getD,List.getElem?_eq_getElem (by rw[<- HNP.out];exact hlt)];exact List.getElem_mem _
     rw[<- hpj] at p0 p1
     obtain⟨g1,g2,g3⟩:=HS.out.parts HC.out pj hpm2
     obtain⟨d',hd'⟩:=hgt_parts HD.out pj hpm2
     have hov:=fun h=>end_over HS.out HC.out HK0.out HD.out hq1 hq2 hpm2 h
     have hsb:=fun h=>end_sub (k:=k) HS.out HC.out HK0.out hq1 hpm2 h
     have hge:=part_ge hq1 g2
     have htk:=flat_take (fun p=>leaves X k p.1 (q * p.2)) (L:=x.ps) (j:=j) (by rw[<- HNP.out];exact hlt)
     rw[<- hpj] at htk
     obtain⟨nm,qt⟩:=pj
     simp only at p0 p1 g1 g2 g3 hd' hov hsb hge htk
     unfold encStr at p0
     rw[hpa] at x2
     have HOV:=Lib.hid hov
     have HSB:=Lib.hid hsb
     have HTK:=Lib.hid htk
     have HPA:=Lib.hid hpa
     have HKD:=Lib.hid hd'
     have HNM:=Lib.hid g1
     have HJL:=Lib.hid hjl
     have HPS:=Lib.hid hps
     have HOP:=Lib.hid hop
     have HBL:=Lib.hid hbl
     have HXCC:=Lib.hid hxc
     have HSM:=Lib.hid hS
     have hnl:=code_le HOKX.out g1
     have HFI:=Lib.hid (fun w' (hb:Below w.heap.size w w')=>Find_any B _ n cp X nm w' (HR.out.below (hb.mono hB)) (Nat.le_trans hB hb.size) hnl)
     obtain⟨ti,hti⟩:∃ t,t=fI X nm:=⟨_,rfl⟩
     have HTI:=Lib.hid hti
     have HTM:=Lib.hid (fun w=>rTimes_any q qt w)
     have HGE:=Lib.hid hge
     clear hpm2 hpj hov hsb htk hpa hd' g1 hjl hps hop hbl hxc hS hnl hge hpB
     cases hT:timesA q qt with
     | none =>
      have HNO:=Lib.hid (HOV.out hT)
      rw[hT] at HTM
      have HTM:Hid (∀ w,Calls Tryz.prog 104 #[.int .i64 q,.int .i64 qt] w fun e w'=>e = .returned (.tuple #[.int .i64 0,.bool false])/\w=w'):=HTM
      clear hT
      go_wp2_with (first | (go_at_call 104;refine (HTM.out _).mono ?_;rintro e w9 ⟨rfl,rfl⟩))
      go_ret2
      refine⟨HBL.out,?_⟩
      rw[HNO.out]
      rfl
     | some n' =>
      have hn':n'=q * qt/\n'<=mostA:=by
       have h:=hT
       rw[times_fine hq1 g2 g3 hq2] at h
       by_cases hle:q * qt<=mostA
       ·rw[if_pos hle] at h;cases h;exact⟨rfl,hle⟩
       ·rw[if_neg hle] at h;cases h
      obtain⟨hn1,hn2⟩:=hn'
      rw[hT] at HTM
      have HTM:Hid (∀ w,Calls Tryz.prog 104 #[.int .i64 q,.int .i64 qt] w fun e w'=>e = .returned (.tuple #[.int .i64 n',.bool true])/\w=w'):=HTM
      have HEN:=Lib.hid (ih nm n' wr _ (HR.out.below (HBL.out.mono hB)) (Nat.le_trans hB HBL.out.size) HNM.out HKD.out (by rw[hn1];exact HGE.out.1) hn2)
      have HFW:=Lib.hid (HFI.out wr HBL.out)
      have HNE:=Lib.hid hn1
      rw[<- hti] at HFW HEN
      rw[<- hn1] at HSB HTK
      clear hT hn1 hn2 hti
      go_wp2_with (first | (go_at_call 104;refine (HTM.out _).mono ?_;rintro e w9 ⟨rfl,rfl⟩) | (go_at_call 70;refine HFW.out.mono ?_;rintro e w9 ⟨rfl,rfl⟩))
      go_at_call 73
      refine HEN.out.mono ?_
      rintro e w3 ⟨hb3,hpost⟩
      have HB3:=Lib.hid (HBL.out.trans (hb3.mono HBL.out.size))
      cases hU:joinL [] (leaves X k nm n') with
      | none =>
       have HNO:=Lib.hid (HSB.out hU)
       rw[hU] at hpost
       obtain rfl:=hpost
       clear hU hb3 HEN
       go_wp2_with (fail)
       go_ret2
       refine⟨HB3.out,?_⟩
       rw[HNO.out]
       rfl
      | some S3 =>
       rw[hU] at hpost
       obtain⟨a3,c3,rfl,hop3⟩:=hpost
       have hps3:PS X S3:=ps_of HS.out (joinL_up Up.nil hU) (fun p hp=>by
        have h1:=(joinL_keys hU p.1).1 (List.mem_map.2 ⟨p,hp,rfl⟩)
        rcases h1 with h1 | h1
        ·cases h1
        ·obtain⟨r,hr,e⟩:=List.mem_map.1 h1
         rw[<- e]
         exact (leaves_ge HS.out k HNM.out (by rw[HNE.out];exact HGE.out.1) r hr).2.1)
       have hop1:=HOP.out.below hb3
       rw[HSM.out] at hop1
       have hf1:=fine_ps HOKX.out HPS.out
       have hf3:=fine_ps HOKX.out hps3
       have hrp1:=hop1.rp2 hf1
       rw[<- HSM.out] at hrp1
       obtain⟨m3,hm3⟩:∃ z,z=S3.length:=⟨_,rfl⟩
       have hrp3:=hop3.rp2 hf3
       rw[<- hm3] at hrp3 ⊢
       have hrv:=RV.two hrp1 hrp3 (Nat.le_refl _)
       have hjm:=join_merge HJL.out hU
       rw[<- HTK.out] at hjm
       have hsz:(flatV [⟨a',m,c',S⟩,⟨a3,m3,c3,S3⟩]).length<=1048576:=by
        have h1:=HPS.out.len
        have h2:=hps3.len
        have h3:=HS.out.len
        simp[flatV]
        omega
       have hrj:=rJoin_any _ _ _ _ _ _ hrv (by rw[World.size_alloc];exact Nat.le_refl _) hsz
       have hfl:flatV [⟨a',m,c',S⟩,⟨a3,m3,c3,S3⟩]=S ++ S3:=by simp[flatV]
       rw[hfl,hjm] at hrj
       have HRJ:=Lib.hid hrj
       have HX3:=Lib.hid (HXCC.out.below hb3 HXCC.out.lt)
       have HBA:=Lib.hid (HB3.out.alloc HB3.out.size (.cells #[.slice a' m c',.slice a3 m3 c3] 64))
       have HXA:=Lib.hid (HX3.out.below ((Below.refl w3.heap.size w3).alloc (Nat.le_refl _) (.cells #[.slice a' m c',.slice a3 m3 c3] 64)) HX3.out.lt)
       have HPS3:=Lib.hid hps3
       clear hU hb3 HEN hop1 hf1 hf3 hrp1 hrp3 hrv hjm hsz hrj hfl hop3 hps3 hm3 p0 p1 x2
       go_wp2_with (fail)
       go_at_call 105
       refine HRJ.out.mono ?_
       rintro e w4 ⟨hb4,hpost⟩
       have HB4:=Lib.hid (HBA.out.trans (hb4.mono HBA.out.size))
       have HX4:=Lib.hid (HXA.out.below hb4 HXA.out.lt)
       cases hV:joinL [] (List.flatMap (fun p=>leaves X k p.1 (q * p.2)) (x.ps.take (j+1))) with
       | none =>
        rw[hV] at hpost
        obtain rfl:=hpost
        have HNO:Hid (joinL [] (leaves X (k+1) c q)=none):=Lib.hid (by
         rw[leaves_kit HK0.out,HPX.out,flat_more _ x.ps (j+1)]
         exact joinL_more hV)
        clear hV hb4 HRJ
        go_wp2_with (fail)
        go_ret2
        refine⟨HB4.out,?_⟩
        rw[HNO.out]
        rfl
       | some S4 =>
        rw[hV] at hpost
        obtain⟨a4,c4,rfl,hop4⟩:=hpost
        have hps4:PS X S4:=ps_of HS.out (joinL_up Up.nil hV) (fun p hp=>by
         have h1:=(joinL_keys hV p.1).1 (List.mem_map.2 ⟨p,hp,rfl⟩)
         rcases h1 with h1 | h1
         ·cases h1
         ·obtain⟨r,hr,e⟩:=List.mem_map.1 h1
          obtain⟨t,ht,hr⟩:=List.mem_flatMap.1 hr
          have htp:t∈partsX X c:=by rw[HPX.out];exact List.mem_of_mem_take ht
          obtain⟨t1,t2,t3⟩:=HS.out.parts HC.out t htp
          rw[<- e]
          exact (leaves_ge HS.out k t1 (part_ge hq1 t2).1 r hr).2.1)
        have HE4:Hid (ER X k q x.ps w w.heap.size x (.slice a4 S4.length c4) (j+1) S4.length w4):=Lib.hid ⟨S4,rfl,hV,hps4,hop4.mono HBA.out.size,HB4.out,HX4.out⟩
        obtain⟨m4,hm4⟩:∃ z,z=S4.length:=⟨_,rfl⟩
        rw[<- hm4] at HE4 ⊢
        clear hV hb4 HRJ hop4 hps4 hm4
        go_wp2_with (fail)
        go_roundw
        case rel=>exact⟨j+1,m4,a4,c4,by omega,by go_num,rfl,HE4⟩
        case measure=>simp[intOf];omega
    ·have t1:decide ((j:Int) < (np:Int))=false:=by simp;omega
     have hfin:joinL [] (leaves X (k+1) c q)=some S:=by
      rw[leaves_kit HK0.out,HPX.out,<- hjl,List.take_of_length_le (by rw[<- HNP.out];omega)]
     have HFIN:=Lib.hid hfin
     have HOP:=Lib.hid hop
     have HBL:=Lib.hid hbl
     have HSM:=Lib.hid hS
     clear hfin hop hbl hS hjl hps hxc
     go_wp2_with (fail)
     go_ret2
     refine⟨HBL.out,?_⟩
     rw[HFIN.out]
     have h:=HOP.out
     rw[HSM.out] at h ⊢
     exact⟨_,_,rfl,h⟩
end Go.Proofs.YtgplnekpgdhcpaaGreat
namespace Go.Proofs.YtgplnekpgdhcpaaGreat
open Go.RowKit

theorem fI_out {X:List It} {c:List UInt8} (h:c ∉ codes X):fI X c = -1:=fI_none fun _j hj e=>h (List.mem_map.2 ⟨_,getD_mem hj,e⟩)
set_option maxHeartbeats 4000000 in
set_option maxRecDepth 100000 in
theorem rParts_any (B:Nat) (a:Option Addr) (n cp:Nat) (X:List It) (c:List UInt8) (q:Int) (w:World) (hr:RI B w a n cp X) (hB:B<=w.heap.size) (hc:c.length<=9223372036854775807) :
  Calls Tryz.prog 41 #[.slice a n cp,.string ⟨c.toArray⟩,.int .i64 q] w fun e w'=>Below w.heap.size w w'/\∃ v,e = .returned (.tuple #[v,.int .i64 (partsE X c q)])/\(partsE X c q≠0->v = .slice none 0 0)/\(partsE X c q=0->∃ a c' S,v = .slice a S.length c'/\endL X c q=some S/\PS X S/\OP w.heap.size w' v S):=by
 have HR:=Lib.hid hr
 have HCK:=Lib.hid (rCheck_any B a n cp X w hr hB)
 have HFD:=Lib.hid (fun w' (hb:Below w.heap.size w w')=>Find_any B a n cp X c w' (hr.below (hb.mono hB)) (Nat.le_trans hB hb.size) hc)
 have HRT:=Lib.hid (fun w=>rRight_any q w)
 clear hr hc
 go_enter Tryz.func41,Tryz.ntmps41
 go_wp2_with (fail)
 go_at_call 71
 refine HCK.out.mono ?_
 rintro e w1 ⟨rfl,hb1⟩
 have HB1:=Lib.hid hb1
 clear hb1
 by_cases h0:chkE X=0
 ·rw[h0]
  have H0:=Lib.hid h0
  have HS:=Lib.hid (sound_of h0)
  clear h0
  by_cases hq1:1<=q
  ·have q1:decide (q < 1)=false:=decide_eq_false (by omega)
   cases hk:okA q with
   | false =>
    rw[hk] at HRT
    have HE:Hid (partsE X c q=2):=Lib.hid (by unfold partsE;rw[if_neg (by simp[H0.out]),if_pos (by simp[hk])])
    clear hk
    go_wp2_with (first | (go_at_call 72;refine (HRT.out _).mono ?_;rintro e w9 ⟨rfl,rfl⟩))
    go_ret2
    exact⟨HB1.out,_,by rw[HE.out];rfl,fun _=>rfl,fun h=>by rw[HE.out] at h;cases h⟩
   | true =>
    rw[hk] at HRT
    have hkk:=okA_iff.1 hk
    have HKK:=Lib.hid hk
    clear hk
    by_cases hcc:c∈codes X
    ·obtain⟨i,hi,hfi,hci⟩:=there hcc
     have HFW:=Lib.hid (HFD.out w1 HB1.out)
     rw[hfi] at HFW
     have HEN:=Lib.hid (rEnd_any B a n cp X HS.out 8 c q w1 _ (HR.out.below (HB1.out.mono hB)) (Nat.le_trans hB HB1.out.size) hcc (HS.out.hgt8 hcc) hq1 (by unfold mostA;omega))
     rw[<- end_leaves HS.out hcc hq1 (by unfold mostA;omega),hfi] at HEN
     have HCC:=Lib.hid hcc
     have i0:decide ((i:Int) < 0)=false:=decide_eq_false (by omega)
     clear hi hfi hci hcc hkk
     go_wp2_with (first | (go_at_call 72;refine (HRT.out _).mono ?_;rintro e w9 ⟨rfl,rfl⟩) | (go_at_call 70;refine HFW.out.mono ?_;rintro e w9 ⟨rfl,rfl⟩))
     go_at_call 73
     refine HEN.out.mono ?_
     rintro e w3 ⟨hb3,hpost⟩
     have HB3:=Lib.hid (HB1.out.trans (hb3.mono HB1.out.size))
     cases hU:endL X c q with
     | none =>
      rw[hU] at hpost
      obtain rfl:=hpost
      have HE:Hid (partsE X c q=3):=Lib.hid (by unfold partsE;rw[if_neg (by simp[H0.out]),if_neg (by simp[hq1,HKK.out]),if_neg (by simp[HCC.out]),hU])
      clear hU hb3 HEN
      go_wp2_with (fail)
      go_ret2
      exact⟨HB3.out,_,by rw[HE.out];rfl,fun _=>rfl,fun h=>by rw[HE.out] at h;cases h⟩
     | some S =>
      rw[hU] at hpost
      obtain⟨a3,c3,rfl,hop⟩:=hpost
      have HE:Hid (partsE X c q=0):=Lib.hid (by unfold partsE;rw[if_neg (by simp[H0.out]),if_neg (by simp[hq1,HKK.out]),if_neg (by simp[HCC.out]),hU])
      have hps:PS X S:=by
       have hl:=hU
       rw[end_leaves HS.out HCC.out hq1 (by have:=okA_iff.1 HKK.out;unfold mostA;omega)] at hl
       refine ps_of HS.out (joinL_up Up.nil hl) fun p hp=>?_
       exact (end_mem HS.out HCC.out hq1 (by have:=okA_iff.1 HKK.out;unfold mostA;omega) hU p hp).2.1
      have HPS:=Lib.hid hps
      have HOP:=Lib.hid (hop.mono HB1.out.size)
      have HU:=Lib.hid hU
      clear hU hb3 HEN hop hps
      go_wp2_with (fail)
      go_ret2
      exact⟨HB3.out,_,by rw[HE.out];rfl,fun h=>absurd HE.out h,fun _=>⟨a3,c3,S,rfl,HU.out,HPS.out,HOP.out⟩⟩
    ·have HFW:=Lib.hid (HFD.out w1 HB1.out)
     rw[fI_out hcc] at HFW
     have HE:Hid (partsE X c q=150):=Lib.hid (by unfold partsE;rw[if_neg (by simp[H0.out]),if_neg (by simp[hq1,HKK.out]),if_pos hcc])
     clear hcc
     go_wp2_with (first | (go_at_call 72;refine (HRT.out _).mono ?_;rintro e w9 ⟨rfl,rfl⟩) | (go_at_call 70;refine HFW.out.mono ?_;rintro e w9 ⟨rfl,rfl⟩))
     go_ret2
     exact⟨HB1.out,_,by rw[HE.out];rfl,fun _=>rfl,fun h=>by rw[HE.out] at h;cases h⟩
  ·have q1:decide (q < 1)=true:=decide_eq_true (by omega)
   have HE:Hid (partsE X c q=2):=Lib.hid (by unfold partsE;rw[if_neg (by simp[H0.out]),if_pos (by simp[hq1])])
   clear hq1
   go_wp2_with (fail)
   go_ret2
   exact⟨HB1.out,_,by rw[HE.out];rfl,fun _=>rfl,fun h=>by rw[HE.out] at h;cases h⟩
 ·have HE:Hid (partsE X c q=chkE X):=Lib.hid (by unfold partsE;rw[if_pos h0])
  obtain⟨r,hr⟩:∃ r,r=chkE X:=⟨_,rfl⟩
  rw[<- hr] at h0 HE ⊢
  have e1:(r != 0)=true:=by simpa using h0
  have H0:=Lib.hid h0
  clear h0 hr
  go_wp2_with (fail)
  go_ret2
  exact⟨HB1.out,_,by rw[HE.out];rfl,fun _=>rfl,fun h=>absurd (by rw[<- HE.out];exact h) H0.out⟩
end Go.Proofs.YtgplnekpgdhcpaaGreat
namespace Go.Proofs.YtgplnekpgdhcpaaGreat
open Go.RowKit Go.Sort Go.Lib Go.Shelf

theorem want_grown {base:Nat} {w w':World} {v:Value} {X:List WantV} (h:wantE.Own base w v X) (hg:w.grownBy w' v.ownBlock) {q:Nat} {cs:Array Value} {ty:TypeId} (hq:w.heap[q]? = some (.cells cs ty (0,0))) (ht:ty≠71):w'.heap[q]? = some (.cells cs ty (0,0)):=by
 refine (hg.block q (Array.getElem?_eq_some_iff.1 hq).1 (fun e=>?_)).trans hq
 obtain⟨cur,hc⟩:=Tx.row_is h e.symm
 rw[hq] at hc
 injection hc with hc
 injection hc with h1 h2 h3
 exact ht h2
theorem want_grown_op {base b2:Nat} {w w':World} {v u:Value} {X:List WantV} {S:List Pt} (h:wantE.Own base w v X) (hg:w.grownBy w' v.ownBlock) (ho:OP b2 w u S):OP b2 w' u S:=by
 refine ho.keep fun b e=>?_
 obtain⟨cur,hc⟩:=Tx.row_is ho e
 rw[hc]
 exact want_grown h hg hc (by decide)
set_option maxHeartbeats 8000000 in
set_option maxRecDepth 100000 in
theorem rWants_any (B:Nat) (a:Option Addr) (n cp:Nat) (X:List It) (a3:Option Addr) (n3 c3:Nat) (N:List LineV) (w:World) (hr:RI B w a n cp X) (hN:lineE.In B w a3 n3 c3 N) (hB:B<=w.heap.size) (hn:X.length<=5000) (hn3:N.length<=5000) :
  Calls Tryz.prog 15 #[.slice a n cp,.slice a3 n3 c3] w fun e w'=>WnP w (wantsN (partsO X) N) e w'/\(wantsN (partsO X) N).length<=N.length * X.length/\∀ x∈wantsN (partsO X) N,okWant x:=by
 have HX:=Lib.hid hr
 have HN:=Lib.hid hN
 have hle:=hN.le;have hmx:=hN.mx
 have Hln:=Lib.hid hN.len
 have HM:=Lib.hid hn
 have HM3:=Lib.hid hn3
 have HXC:=Lib.hid (fun x hx=>(hr.ok x hx).code)
 generalize hV:wantsN (partsO X) N=V
 have HV:=Lib.hid hV
 clear hr hN hn hn3 hV
 go_enter Tryz.func15,Tryz.ntmps15
 go_wp2_with (fail)
 go_loopw [5,6] (fun s5 s6 wr=>∃ (j:Nat) (va:Option Addr) (vn vc:Nat),s5 = .slice va vn vc/\s6 = .int .i64 j/\j<=n3/\Hid (vn=(wantsN (partsO X) (N.take j)).length)/\Hid (wantE.Own w.heap.size wr (.slice va vn vc) (wantsN (partsO X) (N.take j))/\(wantsN (partsO X) (N.take j)).length<=j * X.length/\∀ x∈wantsN (partsO X) (N.take j),okWant x)/\Hid (Below w.heap.size w wr)) (fun _ s6 _=>n3 - (intOf s6).toNat)
 case atStart=>exact⟨0,none,0,0,rfl,rfl,Nat.zero_le _,Lib.hid rfl,Lib.hid ⟨El.Own.nil _ _ _,Nat.zero_le _,fun x hx=>(by cases hx)⟩,Lib.hid (Below.refl _ _)⟩
 case round =>
  obtain⟨j,va,vn,vc,rfl,rfl,hj,HL,HO,Hb⟩:=hrel
  obtain⟨wo,rfl⟩:∃ z,z=wr:=⟨_,rfl⟩
  by_cases hlt:j < n3
  ·obtain⟨b,o,rfl,hbB,hc⟩:=lineE_at (HN.out.below (Hb.out.mono hB)) (by omega)
   obtain⟨g0,g1,g2,g3,g4,g5,g6,g7⟩:=hc j hlt
   have hok:=HN.out.ok_at hlt
   have Hsucc:=Lib.hid (wantsN_succ (p:=partsO X) (N:=N) (j:=j) (by have:=Hln.out;omega))
   clear hc
   generalize N.getD j default=l at g0 g1 g2 g3 g4 g5 g6 g7 hok Hsucc
   obtain⟨id,item,qty,asked,rank,st,day,code⟩:=l
   simp only at g0 g1 g2 g3 g4 g5 g6 g7 hok
   simp only[encStr] at g1 g7
   obtain⟨W1,hW1⟩:∃ V,V=wo.alloc (lineObj id item qty asked rank st day code):=⟨_,rfl⟩
   have hb1:Below wo.heap.size wo W1:=by rw[hW1];exact below_allocL _ _
   have hk1:W1.heap[wo.heap.size]? = some (lineObj id item qty asked rank st day code):=by rw[hW1];exact heap_alloc_new _ _
   have hl1:wo.heap.size < W1.heap.size:=(Array.getElem?_eq_some_iff.1 hk1).1
   have hB1:=Hb.out.trans (hb1.mono Hb.out.size)
   obtain⟨o1,o2,o3,o4,o5,o6,o7,o8⟩:=hok
   simp only at o3 o7 o8
   have HP:=Lib.hid (rParts_any B a n cp X code qty W1 (HX.out.below (hB1.mono hB)) (Nat.le_trans hB hB1.size) o8)
   have HK:=Lib.hid (fun (V:World) (hb:Below W1.heap.size W1 V)=>lineObj_cells ((hb.block wo.heap.size hl1).trans hk1))
   obtain⟨k0,k1,k2,k3,k4,k5,k6,k7⟩:=HK.out W1 (Below.refl _ _)
   have HB1:=Lib.hid hB1
   have HO1:=Lib.hid (HO.out.1.below hb1)
   have HF:=Lib.hid HO.out.2
   have HW1:=Lib.hid hW1
   have HD:=Lib.hid o7
   unfold lineObj at HW1
   clear hW1 hb1 hB1 o1 o2 o3 o4 o5 o6 o7 o8 HO Hb
   generalize hQ:wantsN (partsO X) (N.take j)=Q at HL HO1 HF Hsucc
   clear hQ
   have HT:Hid (∀ k,k<=X.length->vn+k<=100000000):=Lib.hid (fun k hk=>by
    have h1:=HF.out.1
    have h2:=HL.out
    have h3:=HM.out
    have h4:=HM3.out
    have h5:=Hln.out
    have h6:j * X.length<=5000 * 5000:=Nat.mul_le_mul (by omega) (by omega)
    omega)
   by_cases hs:st=1
   ·subst hs
    by_cases hd:day < 0
    ·have HS2:Hid (wantsN (partsO X) (N.take (j+1))=Q):=Lib.hid (by rw[Hsucc.out,wants_shut (fun h=>by have:=h.2;simp only at this;omega),List.append_nil])
     go_upto_region 6 with (fail)
     rw[<- HW1.out]
     go_wp2_with (fail)
     go_roundw
     case rel=>exact⟨j+1,va,vn,vc,by first | rfl | trivial,by go_num,by omega,Lib.hid (by rw[HS2.out];exact HL.out),Lib.hid (by rw[HS2.out];exact⟨HO1.out,Nat.le_trans HF.out.1 (Nat.mul_le_mul_right _ (by omega)),HF.out.2⟩),HB1⟩
     case measure=>simp[intOf];omega
    ·go_upto_region 6 with (fail)
     rw[<- HW1.out]
     go_upto_region 8 with (go_at_call 41;refine HP.out.mono ?_;rintro e wP ⟨hbP,vP,rfl,hne,hoP⟩;have HBP:=Lib.hid hbP;have HNE:=Lib.hid hne;have HOP:=Lib.hid hoP;clear hbP hne hoP)
     have HBw:=Lib.hid (HB1.out.trans (HBP.out.mono HB1.out.size))
     have HOP1:=Lib.hid (HO1.out.below HBP.out)
     by_cases hE:partsE X code qty=0
     ·obtain⟨pa,pc,S,rfl,hend,hPS,hop⟩:=HOP.out hE
      have hfn:=ps_fine hPS HXC.out
      have HOPS:=Lib.hid hop
      obtain⟨pa',pc',e9,hple,hpmx,-⟩:=Tx.rows_form hop
      injection e9 with e7 e8 e9
      subst e7;subst e9
      have HFN:=Lib.hid hfn
      have HKL:=Lib.hid ((HBP.out.block wo.heap.size hl1).trans hk1)
      have HSX:Hid (S.length<=X.length):=Lib.hid hPS.len
      have HS2:Hid (wantsN (partsO X) (N.take (j+1))=Q ++ moreW day S):=Lib.hid (by rw[Hsucc.out,wants_open (X:=X) (l:=⟨id,item,qty,asked,rank,1,day,code⟩) rfl (by simp only;omega) hE hend])
      have HF2:Hid ((moreW day S).length=S.length/\∀ x∈moreW day S,okWant x):=Lib.hid ⟨by unfold moreW;rw[List.length_map],more_fine HD.out hfn⟩
      have HSM:=Lib.hid (fun (k:Nat) (hk:k < S.length)=>moreW_succ' day hk)
      rw[hE]
      clear hE hop hPS hend HOP HNE k0 k1 k2 k3 k4 k5 k6 k7 hfn HP HO1 HB1
      go_wp2_with (fail)
      go_loopw [5,10] (fun s5 s10 wr=>∃ (k:Nat) (ua:Option Addr) (un uc:Nat),s5 = .slice ua un uc/\s10 = .int .i64 k/\k<=S.length/\Hid (un=vn+k)/\Hid (wantE.Own w.heap.size wr (.slice ua un uc) (Q ++ moreW day (S.take k)))/\Hid (Below w.heap.size w wr)/\Hid (wr.heap[wo.heap.size]? = some (lineObj id item qty asked rank 1 day code)/\OP W1.heap.size wr (.slice pa S.length pc) S)) (fun _ s10 _=>S.length - (intOf s10).toNat)
      case atStart=>exact⟨0,va,vn,vc,rfl,rfl,Nat.zero_le _,Lib.hid rfl,Lib.hid (by simpa [moreW] using HOP1.out),HBw,Lib.hid ⟨HKL.out,HOPS.out⟩⟩
      case round =>
       obtain⟨k,ua,un,uc,rfl,rfl,hk,HUN,HUO,Hbk,HCK⟩:=hrel
       obtain⟨wk,rfl⟩:∃ z,z=wr:=⟨_,rfl⟩
       by_cases hlk:k < S.length
       ·have c6:=(lineObj_cells HCK.out.1).2.2.2.2.2.2.1
        obtain⟨pa2,pc2,e9,hrp⟩:=HCK.out.2.rp HFN.out
        injection e9 with e7 e8 e9
        subst e7;subst e9
        obtain⟨b2,o2,rfl,hbb,p0,p1⟩:=hrp.part hlk
        have Hs:=Lib.hid (HSM.out k hlk)
        clear hrp
        generalize S.getD k default=pt at p0 p1 Hs
        obtain⟨pi,pq⟩:=pt
        simp only at p0 p1 Hs
        simp only[encStr] at p0
        generalize moreW day (S.take k)=Q0 at HUO Hs
        have d0:wk.drew.cell? ⟨b2,o2+k * 2,none⟩=some (.string ⟨pi.toArray⟩):=p0
        have d1:wk.drew.cell? ⟨b2,o2+k * 2+1,none⟩=some (.int .i64 pq):=p1
        have d2:wk.drew.cell? ⟨wo.heap.size,6,none⟩=some (.int .i64 day):=c6
        have bA:Below wk.heap.size wk (wk.drew.alloc (.cells #[.string ⟨pi.toArray⟩,.int .i64 day,.int .i64 pq] 71)):=((Below.refl _ wk).drew).alloc (Nat.le_refl _) _
        have hOA:Hid (wantE.Own w.heap.size (wk.drew.alloc (.cells #[.string ⟨pi.toArray⟩,.int .i64 day,.int .i64 pq] 71)) (.slice ua un uc) (Q ++ Q0)):=Lib.hid (HUO.out.below bA)
        have hBA:Hid (Below w.heap.size w (wk.drew.alloc (.cells #[.string ⟨pi.toArray⟩,.int .i64 day,.int .i64 pq] 71))):=Lib.hid (Hbk.out.trans (bA.mono Hbk.out.size))
        have HX1:Hid (un=(Q ++ Q0).length/\un<=100000000):=Lib.hid (by
         obtain⟨a9,c9,e9,-⟩:=HUO.out.form
         injection e9 with e1 e2 e3
         have h1:=HT.out k (by have:=HSX.out;omega)
         have h2:=HUN.out
         exact⟨e2,by omega⟩)
        have HKA:Hid ((wk.drew.alloc (.cells #[.string ⟨pi.toArray⟩,.int .i64 day,.int .i64 pq] 71)).heap[wo.heap.size]? = some (lineObj id item qty asked rank 1 day code)/\OP W1.heap.size (wk.drew.alloc (.cells #[.string ⟨pi.toArray⟩,.int .i64 day,.int .i64 pq] 71)) (.slice (some ⟨b2,o2,none⟩) S.length pc) S):=Lib.hid ⟨(bA.block _ (Array.getElem?_eq_some_iff.1 HCK.out.1).1).trans HCK.out.1,HCK.out.2.below bA⟩
        clear bA
        go_wp2_with (fail)
        go_region_law (first | (refine El.step_append1 wantE rfl _ _ rfl w.heap.size (.slice ua un uc) (Q ++ Q0) ⟨pi,day,pq⟩ (un+1) (by rw[<- HX1.out.1]) rfl hOA.out _ 1 rfl (wantE_lit _ ⟨pi,day,pq⟩ _) hBA.out.size (by have:=HX1.out;omega) ?_;intro g9 c9 w9 hown9 hg9 hgg9;have O9:Hid (wantE.Own w.heap.size w9 (.slice (some ⟨g9,0,none⟩) (un+1) c9) ((Q ++ Q0) ++ [⟨pi,day,pq⟩])):=Lib.hid hown9;have B9:=Lib.hid (hBA.out.grown hg9 hBA.out.size (fun k e=>(hOA.out.ge k e).1));have K9:Hid (w9.heap[wo.heap.size]? = some (lineObj id item qty asked rank 1 day code)/\OP W1.heap.size w9 (.slice (some ⟨b2,o2,none⟩) S.length pc) S):=Lib.hid ⟨want_grown hOA.out hg9 HKA.out.1 (by decide),want_grown_op hOA.out hg9 HKA.out.2⟩;clear hown9 hg9 hgg9))
        all_goals (
         clear d0 d1 d2
         go_wp2_with (fail)
         go_roundw
         case rel=>exact⟨k+1,some ⟨g9,0,none⟩,un+1,c9,by go_num,by go_num,by omega,Lib.hid (by have:=HUN.out;omega),Lib.hid (by rw[Hs.out,<- List.append_assoc];exact O9.out),B9,K9⟩
         case measure=>simp[intOf];omega)
       ·have hks:S.length=k:=by omega
        have hO:=HUO.out
        rw[List.take_of_length_le (by omega)] at hO
        have HO9:=Lib.hid hO
        have HU9:Hid (un=(Q ++ moreW day S).length):=Lib.hid (by rw[HUN.out,HL.out,List.length_append,HF2.out.1,hks])
        clear hO hks HUO
        go_wp2_with (fail)
        go_roundw
        case rel=>exact⟨j+1,ua,un,uc,by first | rfl | trivial,by go_num,by omega,Lib.hid (by rw[HS2.out];exact HU9.out),Lib.hid (by rw[HS2.out];exact⟨HO9.out,by rw[List.length_append,HF2.out.1,Nat.add_mul,Nat.one_mul];have:=HF.out.1;have:=HSX.out;omega,fun x hx=>(List.mem_append.1 hx).elim (HF.out.2 x) (HF2.out.2 x)⟩),Hbk⟩
        case measure=>simp[intOf];omega
     ·have hv:=HNE.out hE
      subst hv
      have HS2:Hid (wantsN (partsO X) (N.take (j+1))=Q):=Lib.hid (by rw[Hsucc.out,wants_bad (X:=X) (l:=⟨id,item,qty,asked,rank,1,day,code⟩) hE,List.append_nil])
      clear HOP HNE
      generalize partsE X code qty=er at hE
      go_wp2_with (fail)
      go_loopw [5,10] (fun s5 s10 wr=>s5 = .slice va vn vc/\s10 = .int .i64 0/\wr=wP) (fun _ _ _=>0)
      case atStart=>exact⟨rfl,rfl,rfl⟩
      case round =>
       obtain⟨rfl,rfl,rfl⟩:=hrel
       go_wp2_with (fail)
       go_roundw
       case rel=>exact⟨j+1,va,vn,vc,by first | rfl | trivial,by go_num,by omega,Lib.hid (by rw[HS2.out];exact HL.out),Lib.hid (by rw[HS2.out];exact⟨HOP1.out,Nat.le_trans HF.out.1 (Nat.mul_le_mul_right _ (by omega)),HF.out.2⟩),HBw⟩
       case measure=>simp[intOf];omega
   ·have HS2:Hid (wantsN (partsO X) (N.take (j+1))=Q):=Lib.hid (by rw[Hsucc.out,wants_shut (X:=X) (l:=⟨id,item,qty,asked,rank,st,day,code⟩) (fun h=>hs h.1),List.append_nil])
    go_upto_region 6 with (fail)
    rw[<- HW1.out]
    go_wp2_with (fail)
    go_roundw
    case rel=>exact⟨j+1,va,vn,vc,by first | rfl | trivial,by go_num,by omega,Lib.hid (by rw[HS2.out];exact HL.out),Lib.hid (by rw[HS2.out];exact⟨HO1.out,Nat.le_trans HF.out.1 (Nat.mul_le_mul_right _ (by omega)),HF.out.2⟩),HB1⟩
    case measure=>simp[intOf];omega
  ·have ej:j=N.length:=by have:=Hln.out;omega
   have HE:=Lib.hid ej
   clear ej
   go_wp2_with (fail)
   go_ret
   have h:=HO.out
   have hl:=HL.out
   rw[HE.out,List.take_length,HV.out] at h hl
   refine⟨⟨⟨va,vc,by rw[hl];rfl,by rw[<- hl];exact h.1⟩,Hb.out⟩,h.2.1,h.2.2⟩
end Go.Proofs.YtgplnekpgdhcpaaGreat
namespace Go.Proofs.YtgplnekpgdhcpaaGreat
open Go.RowKit Go.Sort Go.Lib Go.Shelf

theorem rowX_at {X:List It} {c:List UInt8} {i:Nat} (hi:i < X.length) (hf:fI X c=(i:Int)) (hc:(X.getD i default).code=c):rowX X c=c :: (X.getD i default).os:=by
 have hidx:X.findIdx (fun x=>decide (x.code=c))=i:=by
  unfold fI at hf
  split at hf
  ·omega
  ·omega
 unfold rowX
 have hlt:X.findIdx (fun x=>decide (x.code=c)) < X.length:=by rw[hidx];exact hi
 have h1:X.find? (fun x=>decide (x.code=c))=some (X.getD i default):=by
  rw[List.find?_eq_some_iff_getElem]
  refine⟨decide_eq_true hc,i,hi,?_,fun j hj=>?_⟩
  ·rw[List.getD_eq_getElem?_getD,List.getElem?_eq_getElem hi];rfl
  ·have:=List.not_of_lt_findIdx (xs:=X) (p:=fun x=>decide (x.code=c)) (i:=j) (by rw[hidx];exact hj)
   simpa using this
 rw[h1]
theorem rowX_none {X:List It} {c:List UInt8} (hf:fI X c < 0):rowX X c=[]:=by
 have:=fI_neg hf
 unfold rowX
 rw[List.find?_eq_none.2 (fun x hx=>by
  obtain⟨j,hj,rfl⟩:=List.getElem_of_mem hx
  have:=this j hj
  rw[List.getD_eq_getElem?_getD,List.getElem?_eq_getElem hj] at this
  simpa using this)]
set_option maxHeartbeats 2000000 in
set_option maxRecDepth 100000 in
theorem rRow_any (B:Nat) (a:Option Addr) (n cp:Nat) (X:List It) (c:List UInt8) (w:World) (hr:RI B w a n cp X) (hB:B<=w.heap.size) (hc:c.length<=9223372036854775807) (hsz:∀ x∈X,x.os.length * 16<=140737488355328) :
  Calls Tryz.prog 40 #[.slice a n cp,.string ⟨c.toArray⟩] w fun e w'=>(∃ a' c',e = .returned (.slice a' (rowX X c).length c')/\txE.Own w.heap.size w' (.slice a' (rowX X c).length c') (rowX X c))/\Below w.heap.size w w':=by
 have HF:=Lib.hid (Find_any B a n cp X c w hr hB hc)
 have hle:=hr.le;have hmx:=hr.mx
 rcases Int.lt_or_le (fI X c) 0 with hneg | hpos
 ·have E:=Lib.hid (rowX_none hneg)
  generalize fI X c=q at HF hneg
  clear hr
  go_enter Tryz.func40,Tryz.ntmps40
  go_wp2_with (go_at_call 70;refine HF.out.mono ?_;rintro e w1 ⟨rfl,hw1⟩;subst hw1)
  go_ret
  rw[E.out]
  exact⟨⟨_,_,rfl,El.Own.nil _ _ _⟩,Below.refl _ _⟩
 ·have hex:∃ j,j < X.length/\(X.getD j default).code=c:=by
   unfold fI at hpos
   split at hpos
   ·next h =>
    refine⟨_,h,?_⟩
    have:=List.findIdx_getElem (w:=h)
    rw[List.getD_eq_getElem?_getD,List.getElem?_eq_getElem h]
    exact of_decide_eq_true this
   ·omega
  obtain⟨i,hi,hfi,hci⟩:=fI_there hex
  have E:=Lib.hid (rowX_at hi hfi hci)
  rw[hfi] at HF
  have hin:i < n:=by rw[hr.len];exact hi
  obtain⟨b,o,rfl,hbB,hok,c0,c1,c2,c3⟩:=hr.item hin
  have hs:=hsz _ (getD_mem hi)
  generalize X.getD i default=x at E c0 c1 c2 c3 hok hs
  have HT:=Lib.hid (RT.el hok.rt)
  have hb1:=Lib.hid ((Below.refl w.heap.size w).alloc (Nat.le_refl _) (.cells #[.string ⟨c.toArray⟩] 9))
  have k3:=(hb1.out.cell (p:=⟨b,o+i * 4+3,none⟩) (by show b < _;omega)).trans c3
  have hO:Hid (txE.Own w.heap.size (w.alloc (.cells #[.string ⟨c.toArray⟩] 9)) (.slice (some ⟨w.heap.size,0,none⟩) 1 1) [c]):=Lib.hid (El.Own.lit (E:=txE) w [c] _ rfl (Nat.le_refl _) (by simp))
  have HS:=Lib.hid hs
  clear hr hpos hex hfi hci hi hok hs c0 c1 c2 c3
  go_enter Tryz.func40,Tryz.ntmps40
  go_wp2_with (first | (go_at_call 70;refine HF.out.mono ?_;rintro e w1 ⟨rfl,hw1⟩;subst hw1) | (at_builtin;refine wpList_append_tx rfl _ _ rfl w.heap.size (some ⟨w.heap.size,0,none⟩) 1 1 [c] x.os _ rfl rfl hO.out rfl _ _ rfl (HT.out.below (hb1.out.mono hB)).src hb1.out.size (by have:=HS.out;unfold txMax;omega) ?_;intro a3 c3 w3 ho3 hg3;have O3:=Lib.hid ho3;have B3:Hid (Below w.heap.size w w3):=Lib.hid (hb1.out.grown hg3 hb1.out.size (fun r e=>by cases e;exact Nat.le_refl _));clear ho3 hg3))
  go_ret
  rw[E.out]
  have h:=O3.out
  have el:(c :: x.os).length=1+x.os.length:=by simp;omega
  rw[el]
  exact⟨⟨_,_,rfl,h⟩,B3.out⟩
end Go.Proofs.YtgplnekpgdhcpaaGreat
