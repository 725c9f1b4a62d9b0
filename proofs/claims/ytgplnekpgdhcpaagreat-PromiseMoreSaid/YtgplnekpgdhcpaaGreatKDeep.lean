/- How deep items are, by the program: the closure that looks down. -/
import Derived.Test.YtgplnekpgdhcpaaGreatQMeet
namespace Go.Proofs.YtgplnekpgdhcpaaGreat
open Go.RowKit
def codes (X:List It):List (List UInt8):=X.map (·.code)
def itF (X:List It) (c:List UInt8):Option It:=X.find? (fun x=>decide (x.code=c))
def kidsX (X:List It) (c:List UInt8):List (List UInt8):=match itF X c with | some x=>x.ps.map (·.1) | none=>[]
theorem itF_some {X:List It} {c:List UInt8} (h:c∈codes X):∃ x,itF X c=some x/\x∈X/\x.code=c:=by
 unfold itF
 cases hf:X.find? (fun x=>decide (x.code=c)) with
 | none =>
  obtain⟨x,hx,e⟩:=List.mem_map.1 h
  have:=List.find?_eq_none.1 hf x hx
  simp[e] at this
 | some x=>exact⟨x,rfl,List.mem_of_find?_eq_some hf,by simpa using List.find?_some hf⟩
theorem book_other {X:List It} {c:List UInt8} (h:c ∉ codes X) (f:List UInt8->Value):X.foldl (fun f x=>setO f x.code x.val) f c=f c:=by
 induction X generalizing f with
 | nil=>rfl
 | cons x X ih =>
  rw[List.foldl_cons,ih (fun hm=>h (List.mem_cons_of_mem _ hm)),setO_other _ (fun e=>h (by rw[e];exact List.mem_cons_self ..))]
theorem book_at {X:List It} (hd:(codes X).Nodup) {c:List UInt8} {x:It} (h:itF X c=some x):bookF X c=x.val:=by
 unfold bookF
 generalize (fun _=>zItem:List UInt8->Value)=f
 induction X generalizing f with
 | nil=>cases h
 | cons y X ih =>
  rw[List.foldl_cons]
  have hd':y.code ∉ codes X/\(codes X).Nodup:=List.nodup_cons.1 hd
  unfold itF at h
  rw[List.find?_cons] at h
  by_cases e:y.code=c
  ·rw[decide_eq_true e] at h
   cases h
   rw[<- e,book_other hd'.1,setO_same]
  ·rw[decide_eq_false e] at h
   exact ih hd'.2 h _
structure LK (W:World) (B bo ba bl mo ma n:Nat) (fv:Value) (X:List It):Prop where
 co:W.cell? ⟨bo,0,none⟩=some (.map (some mo))
 ca:W.cell? ⟨ba,0,none⟩=some (.map (some ma))
 cl:W.cell? ⟨bl,0,none⟩=some fv
 all:MF W ma n zItem (bookF X)
 ok:∀ x∈X,ItOk B W x
 no:bo≠mo
 na:ba≠mo
 nl:bl≠mo
 nm:ma≠mo
 lo:bo < W.heap.size
 la:ba < W.heap.size
 ll:bl < W.heap.size
 hB:B<=mo
theorem LK.grown {W W':World} {B bo ba bl mo ma n:Nat} {fv:Value} {X:List It} (h:LK W B bo ba bl mo ma n fv X) (hg:W.grownBy W' (some mo)) (hBW:B<=W.heap.size):LK W' B bo ba bl mo ma n fv X:=by
 have hb:Below B W W':=(Below.refl B W).grown hg hBW (fun k e=>by rw[<- Option.some.inj e];exact h.hB)
 have cell:∀ {x:Nat},x < W.heap.size->x≠mo->W'.cell? ⟨x,0,none⟩=W.cell? ⟨x,0,none⟩:=fun hx hne=>World.cell?_of_block (w:=W) (hg.block _ hx (fun e=>hne (Option.some.inj e)))
 exact⟨(cell h.lo h.no).trans h.co,(cell h.la h.na).trans h.ca,(cell h.ll h.nl).trans h.cl,h.all.kept hg (fun e=>h.nm (Option.some.inj e)),fun x hx=>(h.ok x hx).below hb,h.no,h.na,h.nl,h.nm,Nat.lt_of_lt_of_le h.lo hg.size,Nat.lt_of_lt_of_le h.la hg.size,Nat.lt_of_lt_of_le h.ll hg.size,h.hB⟩
def oV (o:List UInt8->Int):List UInt8->Value:=fun s=>.int .i64 (o s)
theorem oV_set (o:List UInt8->Int) (c:List UInt8) (v:Int):setO (oV o) c (.int .i64 v)=oV (setO o c v):=by
 funext s
 unfold oV setO
 split <;> rfl
def LR (X:List It) (W:World) (B bo ba bl mo ma n:Nat) (fv:Value) (o1:List UInt8->Int) (N1:Nat) (ks:List (List UInt8)) (j:Nat) (nv:Nat) (wr:World):Prop :=
 ∃ oj Nj,MF wr mo Nj (.int .i64 0) (oV oj)/\DI (kidsX X) oj/\Ext o1 oj/\(∀ p∈ks.take j,0 < oj p)/\nv=(ks.take j).foldl (fun n p=>max n ((oj p).toNat+1)) 1/\Nj+2 * zc (codes X) oj<=N1+2 * zc (codes X) o1/\W.grownBy wr (some mo)/\LK wr B bo ba bl mo ma n fv X/\∀ s,s ∉ codes X->oj s=o1 s
theorem ext_fold {oj o':List UInt8->Int} {ks:List (List UInt8)} {j:Nat} (hj:j < ks.length) (he:Ext oj o') (hp:∀ p∈ks.take j,0 < oj p) (h1:0 < o' (ks.getD j [])) :
  (∀ p∈ks.take (j+1),0 < o' p)/\(ks.take (j+1)).foldl (fun n p=>max n ((o' p).toNat+1)) 1=max ((ks.take j).foldl (fun n p=>max n ((oj p).toNat+1)) 1) ((o' (ks.getD j [])).toNat+1):=by
 have ht:ks.take (j+1)=ks.take j ++ [ks.getD j []]:=by
  rw[List.take_succ_eq_append_getElem hj,List.getD_eq_getElem?_getD,List.getElem?_eq_getElem hj];rfl
 have hsame:∀ p∈ks.take j,oj p=o' p:=fun p hp'=>(he.1 p (by have:=hp p hp';omega)).symm
 refine⟨fun p hp'=>?_,?_⟩
 ·rw[ht] at hp'
  rcases List.mem_append.1 hp' with h | h
  ·rw[<- hsame p h];exact hp p h
  ·rw[List.mem_singleton.1 h];exact h1
 ·rw[ht,List.foldl_append,maxfold_congr hsame];rfl
theorem DI.le {X:List It} {o:List UInt8->Int} (h:DI (kidsX X) o) (hV:∀ c∈codes X,∀ p∈kidsX X c,p∈codes X) {c:List UInt8} (hc:c∈codes X) (hl:X.length<=60):-1<=o c/\o c<=60:=by
 rcases h c with h | h | ⟨k,d,hd,e⟩
 ·omega
 ·omega
 ·have:=hgt_le hV hc hd
  unfold codes at this
  rw[List.length_map] at this
  omega
def LookPost (X:List It) (W:World) (_B mo N:Nat) (o:List UInt8->Int) (c:List UInt8) (r:Bool) (W':World):Prop :=
 W.grownBy W' (some mo)/\((r=true/\∃ o' N',MF W' mo N' (.int .i64 0) (oV o')/\DI (kidsX X) o'/\Ext o o'/\0 < o' c/\N' + 2 * zc (codes X) o'<=N+2 * zc (codes X) o/\∀ s,s ∉ codes X->o' s=o s)∨(r=false/\∃ x∈codes X,∀ k,hgt (kidsX X) k x=none))
set_option maxHeartbeats 4000000 in
set_option maxRecDepth 100000 in
theorem look_any (B bo ba bl mo ma n:Nat) (fv:Value) (X:List It) (hfv:fv = .func (.func 144) #[] #[.pointer (some ⟨bo,0,none⟩),.pointer (some ⟨ba,0,none⟩),.pointer (some ⟨bl,0,none⟩)]) (hd:(codes X).Nodup) (hV:∀ c∈codes X,∀ p∈kidsX X c,p∈codes X) (hl:X.length<=60) (m:Nat):∀ (o:List UInt8->Int) (c:List UInt8) (N:Nat) (W:World),LK W B bo ba bl mo ma n fv X->MF W mo N (.int .i64 0) (oV o)->DI (kidsX X) o->Up2 (kidsX X) o c->c∈codes X->zc (codes X) o < m->N+2 * zc (codes X) o<=1000->B<=W.heap.size ->
  Calls Tryz.prog 144 #[.string ⟨c.toArray⟩,.pointer (some ⟨bo,0,none⟩),.pointer (some ⟨ba,0,none⟩),.pointer (some ⟨bl,0,none⟩)] W fun e W'=>∃ r,e = .returned (.bool r)/\LookPost X W B mo N o c r W':=by
 have HD:=Lib.hid hd
 have HV:=Lib.hid hV
 clear hd hV
 induction m with
 | zero=>intro o c N W _ _ _ _ _ hz;exact absurd hz (Nat.not_lt_zero _)
 | succ m ih =>
  intro o c N W hL hM hDI hUp hc hz hN hB
  obtain⟨x,hx,hxm,hxc⟩:=itF_some hc
  have hok:=hL.ok x hxm
  have hcl:c.length<=9223372036854775807:=by rw[<- hxc];exact hok.code
  have HL:=Lib.hid hL
  have HM:=Lib.hid hM
  have HDI:=Lib.hid hDI
  have HUp:=Lib.hid hUp
  have HC:=Lib.hid hc
  have HCL:=Lib.hid hcl
  have HX:=Lib.hid hx
  have co:=hL.co
  have ca:=hL.ca
  have cl:=hL.cl
  have hlk:=hM.look Tryz.underlying113 (zeroInt _) c hcl
  unfold oV at hlk
  obtain⟨oc,hoc⟩:∃ v,v=o c:=⟨_,rfl⟩
  rw[<- hoc] at hlk
  have HOC:=Lib.hid hoc
  clear hL hM hDI hUp hc hcl hx hoc hxm
  go_enter Tryz.func144,Tryz.ntmps144
  rcases HDI.out c with h0 | h0 | ⟨k0,d0,hd0,h0⟩
  ·-- not looked at
   have e0:oc=0:=by rw[HOC.out];exact h0
   subst e0
   have H0:=Lib.hid h0
   clear h0
   have e1:setO (oV o) c (.int .i64 (-1))=oV (setO o c (-1)):=oV_set o c (-1)
   have E1:=Lib.hid e1
   clear e1
   have hf2:=field_parts
   obtain⟨o1,ho1⟩:∃ f,f=setO o c (-1):=⟨_,rfl⟩
   rw[<- ho1] at E1
   have HO1:=Lib.hid ho1
   clear ho1
   go_wp2_with (at_mapUpdate;refine wpList_put_mf rfl _ _ _ 113 rfl Tryz.underlying113 HM.out (by omega) c (.int .i64 (-1)) rfl rfl rfl HCL.out (by simp) ?_;intro W2 hM2 hg2;rw[E1.out] at hM2;have hL2:=HL.out.grown hg2 hB;have co2:=hL2.co;have ca2:=hL2.ca;have cl2:=hL2.cl;have hall:=hL2.all.look Tryz.underlying112 (zeroItem _) c HCL.out;rw[book_at HD.out HX.out] at hall;unfold It.val encStr at hall;have HM2:=Lib.hid hM2;have HG2:=Lib.hid hg2;have HL2:=Lib.hid hL2;clear hM2 hg2 hL2)
   have hok2:=(HL2.out.ok x (by have:=HX.out;unfold itF at this;exact List.mem_of_find?_eq_some this))
   have HOK2:=Lib.hid hok2
   have hmx:=hok2.rp.mx
   have hle:=hok2.rp.le
   obtain⟨np,hnp⟩:∃ k,k=x.ps.length:=⟨_,rfl⟩
   rw[<- hnp] at hle ⊢
   have HNP:=Lib.hid hnp
   obtain⟨pa,hpa⟩:∃ a,a=x.pa:=⟨_,rfl⟩
   rw[<- hpa]
   have HPA:=Lib.hid hpa
   clear hpa
   have HKS:Hid (kidsX X c=x.ps.map (·.1)):=Lib.hid (by unfold kidsX;rw[HX.out])
   have HDI1:Hid (DI (kidsX X) o1):=Lib.hid (by rw[HO1.out];exact HDI.out.set c)
   have hz1:zc (codes X) o1 < zc (codes X) o:=by rw[HO1.out];exact zc_set H0.out HC.out
   clear hok2 hnp co2 ca2 cl2 hall hlk co ca cl
   go_loopw [7,24] (fun s7 s24 wr=>∃ j nv:Nat,s24 = .int .i64 j/\s7 = .int .i64 nv/\j<=np/\nv<=1000/\Hid (LR X W2 B bo ba bl mo ma n fv o1 (N+1) (x.ps.map (·.1)) j nv wr)) (fun _ s24 _=>np - (intOf s24).toNat)
   case atStart=>exact⟨0,1,rfl,rfl,by omega,by omega,Lib.hid ⟨o1,N+1,HM2.out,HDI1.out,Ext.refl _,fun p hp=>by simp at hp,by simp,Nat.le_refl _,⟨rfl,rfl,rfl,Nat.le_refl _,fun _ _ _=>rfl⟩,HL2.out,fun _ _=>rfl⟩⟩
   case round =>
    obtain⟨j,nv,rfl,rfl,hj,hnv,HR⟩:=hrel
    by_cases hjn:j < np
    ·have t1:decide ((j:Int) < (np:Int))=true:=by simp;omega
     have j0:(0:Int)<=(j:Int):=by omega
     have j1:(j:Int) < (np:Int):=by omega
     have f1:IntKind.i64.wrap ((j:Int)+1)=((j+1:Nat):Int):=by rw[wrap_in (by omega) (by omega)];omega
     obtain⟨oj,Nj,hMj,hDj,hEj,hPj,hnvj,hNj,hGj,hLj,hSj⟩:=HR.out
     have HSJ:=Lib.hid hSj
     clear hSj
     have hin:j < x.ps.length:=by rw[<- HNP.out];exact hjn
     obtain⟨b,po,hpa',-,p0,p1⟩:=(hLj.ok x (by have:=HX.out;unfold itF at this;exact List.mem_of_find?_eq_some this)).rp.part hin
     rw[<- HPA.out] at hpa'
     subst hpa'
     obtain⟨pj,hpj⟩:∃ p,p=x.ps.getD j default:=⟨_,rfl⟩
     have hfn:=HOK2.out.rp.fine.at_ hin
     rw[<- hpj] at p0 p1 hfn
     obtain⟨nm,qt⟩:=pj
     simp only at p0 p1 hfn
     unfold encStr at p0
     have hks:(x.ps.map (·.1)).getD j []=nm:=by
      rw[List.getD_eq_getElem?_getD,List.getElem?_map,List.getElem?_eq_getElem hin]
      rw[List.getD_eq_getElem?_getD,List.getElem?_eq_getElem hin] at hpj
      simp only[Option.map_some,Option.getD_some] at hpj ⊢
      rw[<- hpj]
     have hkm:nm∈kidsX X c:=by
      rw[HKS.out,<- hks,List.getD_eq_getElem?_getD,List.getElem?_eq_getElem (by rw[List.length_map];exact hin)]
      exact List.getElem_mem _
     have HKS2:=Lib.hid hks
     have HKM:=Lib.hid hkm
     have HNM:=Lib.hid (HV.out c HC.out nm hkm)
     have HNL:=Lib.hid hfn.1
     have HIN:=Lib.hid hin
     -- the pair's own block
     have hpc:=pair_cells wr (.string ⟨nm.toArray⟩) (.int .i64 qt)
     have hga:wr.grownBy (wr.alloc (.cells #[.string ⟨nm.toArray⟩,.int .i64 qt] 74)) (some mo):=World.grownBy_alloc _ _ _
     obtain⟨q0,q1⟩:=pair_at hpc
     have hBj:B<=wr.heap.size:=Nat.le_trans hB (Nat.le_trans HG2.out.size hGj.size)
     have hLa:=hLj.grown hga hBj
     have hMa:MF (wr.alloc (.cells #[.string ⟨nm.toArray⟩,.int .i64 qt] 74)) mo Nj (.int .i64 0) (oV oj):=hMj.below ((Below.refl wr.heap.size wr).alloc (Nat.le_refl _) _) hMj.lt
     have cl2:=hLa.cl
     have hcall:=Lib.hid (ih oj nm Nj _ hLa hMa hDj (HUp.out.kid (fun y hy=>by rw[<- HO1.out];exact hEj.2 y hy) hkm) HNM.out (by have:=hEj.zc (codes X);omega) (by have:=hEj.zc (codes X);omega) (by rw[World.size_alloc];omega))
     have HGA:=Lib.hid (hGj.trans hga)
     have HE:=Lib.hid hEj
     have HPJ:=Lib.hid hPj
     have HNV:=Lib.hid hnvj
     have HNJ:=Lib.hid hNj
     have HPC:=Lib.hid hpc
     have HMJ:=Lib.hid hMj
     have HLA:=Lib.hid hLa
     have HBJ:=Lib.hid hBj
     rw[hfv] at cl2
     clear hfn hks hkm hin hpj hMj hDj hEj hPj hnvj hNj hGj hLj hpc hga hLa hMa hBj
     have hmw:mo < wr.heap.size:=by have:=HMJ.out.lt;exact this
     go_wp2_with (fail)
     go_at_call 144
     refine hcall.out.mono ?_
     rintro e w3 ⟨r,rfl,hgr,⟨rfl,o',N',hM',hD',hE',hp',hN',hS'⟩ | ⟨rfl,hcyc⟩⟩
     ·have hL3:=HLA.out.grown hgr (by rw[World.size_alloc];have:=HBJ.out;omega)
      have co3:=hL3.co
      obtain⟨r0,r1⟩:=pair_at ((hgr.block wr.heap.size (by rw[World.size_alloc];omega) (fun e=>by have:=Option.some.inj e;omega)).trans HPC.out)
      have hlk3:=hM'.look Tryz.underlying113 (zeroInt _) nm HNL.out
      unfold oV at hlk3
      have hle9:=hD'.le HV.out HNM.out hl
      obtain⟨d,hd⟩:∃ d:Nat,o' nm=(d:Int):=⟨(o' nm).toNat,by omega⟩
      rw[hd] at hlk3
      have hd60:d<=60:=by omega
      have f2:IntKind.i64.wrap (1+(d:Int))=((d+1:Nat):Int):=by rw[wrap_in (by omega) (by omega)];omega
      have HM':=Lib.hid hM'
      have HD':=Lib.hid hD'
      have HE':=Lib.hid hE'
      have HP':=Lib.hid hp'
      have HN':=Lib.hid hN'
      have HG':=Lib.hid hgr
      have HL3:=Lib.hid hL3
      have HDD:=Lib.hid hd
      have HS':=Lib.hid hS'
      clear hS'
      clear hM' hD' hE' hp' hN' hgr hL3 hd hle9 hcall q0 q1 cl2 p0 p1
      have hef:=ext_fold (ks:=x.ps.map (·.1)) (j:=j) (by rw[List.length_map];exact HIN.out) HE'.out HPJ.out (by rw[HKS2.out];exact HP'.out)
      rw[HKS2.out,<- HNV.out,HDD.out,Int.toNat_natCast] at hef
      have HEF:=Lib.hid hef
      clear hef
      go_wp2_with (fail)
      go_roundw
      case rel =>
       refine⟨j+1,max nv (d+1),rfl,?_,by omega,by omega,Lib.hid ⟨o',N',HM'.out,HD'.out,HE.out.trans HE'.out,HEF.out.1,HEF.out.2.symm,by have:=HN'.out;have:=HNJ.out;omega,HGA.out.trans HG'.out,HL3.out,fun s hs=>(HS'.out s hs).trans (HSJ.out s hs)⟩⟩
       congr 1
       first | omega | (split <;> omega)
      case measure=>simp only[intOf];omega
     ·have HG':=Lib.hid hgr
      have HY:=Lib.hid hcyc
      clear hgr hcyc hcall
      go_wp2_with (fail)
      go_ret
      exact⟨false,rfl,HG2.out.trans (HGA.out.trans HG'.out),Or.inr ⟨rfl,HY.out⟩⟩
    ·have t1:decide ((j:Int) < (np:Int))=false:=by simp;omega
     obtain⟨oj,Nj,hMj,hDj,hEj,hPj,hnvj,hNj,hGj,hLj,hSj⟩:=HR.out
     have HS9:=Lib.hid (show ∀ s,s ∉ codes X->setO oj c (nv:Int) s=o s from fun s hs=>by
      have hne:s≠c:=fun e=>hs (by rw[e];exact HC.out)
      rw[setO_other _ hne,hSj s hs,HO1.out,setO_other _ hne])
     clear hSj
     have ht:(x.ps.map (·.1)).take j=kidsX X c:=by
      rw[HKS.out,List.take_of_length_le (by rw[List.length_map,<- HNP.out];omega)]
     rw[ht] at hPj hnvj
     obtain⟨kk,hkk⟩:=hDj.done hPj
     rw[<- hnvj] at hkk
     have co3:=hLj.co
     have hpos:=hgt_pos hkk
     have hd9:=hDj.put hkk
     have hE9:Ext o (setO oj c (nv:Int)):=Ext.back H0.out (by rw[<- HO1.out];exact hEj)
     have hz9:zc (codes X) (setO oj c (nv:Int))<=zc (codes X) oj:=zc_le fun y _ hy=>by
      by_cases e:y=c
      ·subst e;rw[setO_same] at hy;omega
      ·rw[setO_other _ e] at hy;exact hy
     have hzj:=hEj.zc (codes X)
     have e9:setO (oV oj) c (.int .i64 (nv:Int))=oV (setO oj c (nv:Int)):=oV_set oj c nv
     have E9:=Lib.hid e9
     have HM9:=Lib.hid hMj
     have HD9:=Lib.hid hd9
     have HE9:=Lib.hid hE9
     have HG9:=Lib.hid hGj
     have HB9:=Lib.hid (show Nj+1+2 * zc (codes X) (setO oj c (nv:Int))<=N+2 * zc (codes X) o by omega)
     have hNb:Nj < 9223372036854775807:=by omega
     have HP9:=Lib.hid hpos
     clear ht hkk hpos hd9 hE9 hz9 hzj e9 hMj hDj hEj hPj hnvj hNj hGj hLj
     go_wp2_with (at_mapUpdate;refine wpList_put_mf rfl _ _ _ 113 rfl Tryz.underlying113 HM9.out hNb c (.int .i64 (nv:Int)) rfl rfl rfl HCL.out (by have:=HP9.out;simp;omega) ?_;intro w4 hM4 hg4;rw[E9.out] at hM4;have HM4:=Lib.hid hM4;have HG4:=Lib.hid hg4;clear hM4 hg4)
     go_ret
     exact⟨true,rfl,HG2.out.trans (HG9.out.trans HG4.out),Or.inl ⟨rfl,_,_,HM4.out,HD9.out,HE9.out,by rw[setO_same];have:=HP9.out;omega,HB9.out,HS9.out⟩⟩
  ·-- it is being looked at: a round
   have e0:oc = -1:=by rw[HOC.out];exact h0
   subst e0
   have HW:=Lib.hid (fun k=>(HUp.out c h0).round k)
   clear h0
   go_wp2_with (fail)
   go_ret
   exact⟨false,rfl,⟨rfl,rfl,rfl,Nat.le_refl _,fun _ _ _=>rfl⟩,Or.inr ⟨rfl,c,HC.out,HW.out⟩⟩
  ·-- it is told
   have hp:=hgt_pos hd0
   have e0:oc=(d0:Int):=by rw[HOC.out];exact h0
   have t0:(oc == 0)=false:=by simp;omega
   have t1:(oc != 0)=true:=by simp;omega
   have t2:decide (0 < oc)=true:=by simp;omega
   have HP:=Lib.hid (show 0 < o c by rw[<- HOC.out];omega)
   clear e0 h0 hd0 hp
   go_wp2_with (fail)
   go_ret
   exact⟨true,rfl,⟨rfl,rfl,rfl,Nat.le_refl _,fun _ _ _=>rfl⟩,Or.inl ⟨rfl,o,N,HM.out,HDI.out,Ext.refl o,HP.out,Nat.le_refl _,fun _ _=>rfl⟩⟩
end Go.Proofs.YtgplnekpgdhcpaaGreat
