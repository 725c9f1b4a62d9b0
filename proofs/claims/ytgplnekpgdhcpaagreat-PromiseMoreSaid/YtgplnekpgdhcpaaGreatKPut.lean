/- What is in so many of an item in the end, by the program: the closure. -/
import Derived.Test.YtgplnekpgdhcpaaGreatJMap
import Derived.Test.YtgplnekpgdhcpaaGreatJPureB
namespace Go.Proofs.YtgplnekpgdhcpaaGreat
open Go.RowKit
def partsX (X:List It) (c:List UInt8):List Pt:=match itF X c with | some x=>x.ps | none=>[]
theorem kids_parts (X:List It) (c:List UInt8):kidsX X c=(partsX X c).map (·.1):=by
 unfold kidsX partsX
 cases itF X c <;> rfl
def putStep (f:List Pt->List UInt8->Int->Option (List Pt)) (q:Int) (acc:Option (List Pt)) (p:Pt):Option (List Pt):=acc.bind fun S=>(timesA q p.2).bind fun n=>f S p.1 n
def putL (X:List It):Nat->List Pt->List UInt8->Int->Option (List Pt)
 | 0,_,_,_=>none
 | k+1,S,c,q=>if (partsX X c).length=0 then joinL S [(c,q)] else (partsX X c).foldl (putStep (putL X k) q) (some S)
theorem put_none (f:List Pt->List UInt8->Int->Option (List Pt)) (q:Int) (l:List Pt):l.foldl (putStep f q) none=none:=by
 induction l with
 | nil=>rfl
 | cons p l ih=>rw[List.foldl_cons];exact ih
theorem put_stop {f:List Pt->List UInt8->Int->Option (List Pt)} {q:Int} {l:List Pt} {S S':List Pt} {j:Nat} (hj:j < l.length) (h:(l.take j).foldl (putStep f q) (some S)=some S') (hn:putStep f q (some S') (l.getD j default)=none):l.foldl (putStep f q) (some S)=none:=by
 have e:l=l.take j ++ (l.getD j default :: l.drop (j+1)):=by
  rw[List.getD_eq_getElem?_getD,List.getElem?_eq_getElem hj]
  have:=List.take_append_drop j l
  rw[List.drop_eq_getElem_cons hj] at this
  exact this.symm
 rw[e,List.foldl_append,List.foldl_cons,h,hn,put_none]
theorem put_take {f:List Pt->List UInt8->Int->Option (List Pt)} {q:Int} {l:List Pt} {S S':List Pt} {j:Nat} (hj:j < l.length) (h:(l.take j).foldl (putStep f q) (some S)=some S'):(l.take (j+1)).foldl (putStep f q) (some S)=putStep f q (some S') (l.getD j default):=by
 rw[List.take_succ_eq_append_getElem hj,List.foldl_append,h,List.getD_eq_getElem?_getD,List.getElem?_eq_getElem hj]
 rfl
structure PS (X:List It) (S:List Pt):Prop where
 up:Up S
 sub:∀ p∈S,p.1∈codes X
 len:S.length<=X.length
theorem ps_of {X:List It} (_:Sound X) {S:List Pt} (hu:Up S) (hsub:∀ p∈S,p.1∈codes X):PS X S:=by
 refine⟨hu,hsub,?_⟩
 have hnd:(S.map (·.1)).Nodup:=by
  rw[List.nodup_iff_pairwise_ne,List.pairwise_map]
  exact hu.1.imp fun h e=>by rw[e] at h;exact List.lt_irrefl _ h
 have hl:(codes X).length=X.length:=by unfold codes;rw[List.length_map]
 rw[<- hl,show S.length=(S.map (·.1)).length by rw[List.length_map]]
 have key:∀ (l m:List (List UInt8)),l.Nodup->(∀ x∈l,x∈m)->l.length<=m.length:=fun l=>by
  induction l with
  | nil=>intro m _ _;exact Nat.zero_le _
  | cons x l ih =>
   intro m hd hm
   obtain⟨h1,h2⟩:=List.nodup_cons.1 hd
   have h3:=ih (m.erase x) h2 (fun y hy=>(List.mem_erase_of_ne (fun e=>h1 (by rw[<- e];exact hy))).2 (hm y (List.mem_cons_of_mem _ hy)))
   have hx:=hm x (List.mem_cons_self ..)
   rw[List.length_erase_of_mem hx] at h3
   have:0 < m.length:=List.length_pos_of_mem hx
   rw[List.length_cons]
   omega
 exact key _ _ hnd fun x hx=>by
  obtain⟨p,hp,rfl⟩:=List.mem_map.1 hx
  exact hsub p hp
theorem ps_join {X:List It} (hs:Sound X) {S S':List Pt} (h:PS X S) {c:List UInt8} {q:Int} (hc:c∈codes X) (hj:joinL S [(c,q)]=some S'):PS X S':=by
 refine ps_of hs (joinL_up h.up hj) fun p hp=>?_
 have h1:=(joinL_keys hj p.1).1 (List.mem_map.2 ⟨p,hp,rfl⟩)
 rcases h1 with h1 | h1
 ·obtain⟨r,hr,e⟩:=List.mem_map.1 h1
  rw[<- e];exact h.sub r hr
 ·simp at h1
  rw[h1];exact hc
structure LP (W:World) (B be ba bl ma n:Nat) (fv:Value) (X:List It) (a:Option Addr) (c:Nat) (S:List Pt):Prop where
 ce:W.cell? ⟨be,0,none⟩=some (.slice a S.length c)
 fe:W.frozen? ⟨be,0,none⟩=false
 op:OP (be+1) W (.slice a S.length c) S
 ca:W.cell? ⟨ba,0,none⟩=some (.map (some ma))
 cl:W.cell? ⟨bl,0,none⟩=some fv
 all:MF W ma n zItem (bookF X)
 ok:∀ x∈X,ItOk B W x
 na:ba≠be
 nl:bl≠be
 nm:ma≠be
 le:be < W.heap.size
 la:ba < W.heap.size
 ll:bl < W.heap.size
 hB:B<=be
theorem LP.below {W W':World} {B be ba bl ma n:Nat} {fv:Value} {X:List It} {a:Option Addr} {c:Nat} {S:List Pt} (h:LP W B be ba bl ma n fv X a c S) (hb:Below W.heap.size W W'):LP W' B be ba bl ma n fv X a c S :=
 ⟨(hb.cell h.le).trans h.ce,by
  have:=hb.block be h.le
  unfold World.frozen? at *
  have h2:=h.fe
  unfold World.frozen? at h2
  simp only[this]
  exact h2,h.op.below hb,(hb.cell h.la).trans h.ca,(hb.cell h.ll).trans h.cl,h.all.below hb h.all.lt,fun x hx=>(h.ok x hx).below (hb.mono (Nat.le_trans h.hB (Nat.le_of_lt h.le))),h.na,h.nl,h.nm,Nat.lt_of_lt_of_le h.le hb.size,Nat.lt_of_lt_of_le h.la hb.size,Nat.lt_of_lt_of_le h.ll hb.size,h.hB⟩
theorem sc_block (W:World) (g:Nat) (v:Value) {k:Nat} (hk:k≠g):(W.setCell ⟨g,0,none⟩ v).heap[k]? = W.heap[k]?:=Below.heap_setCell W ⟨g,0,none⟩ v k hk
theorem sc_grown (W:World) (g:Nat) (v:Value):W.grownBy (W.setCell ⟨g,0,none⟩ v) (some g):=⟨rfl,rfl,rfl,by simp[World.setCell],fun k _ hne=>sc_block W g v (fun e=>hne (by rw[e]))⟩
theorem LP.put {W:World} {B be ba bl ma n:Nat} {fv:Value} {X:List It} {a a':Option Addr} {c c':Nat} {S S':List Pt} (h:LP W B be ba bl ma n fv X a c S) (ho:OP (be+1) W (.slice a' S'.length c') S'):LP (W.setCell ⟨be,0,none⟩ (.slice a' S'.length c')) B be ba bl ma n fv X a' c' S':=by
 have other:∀ {x o:Nat},x≠be->(W.setCell ⟨be,0,none⟩ (.slice a' S'.length c')).cell? ⟨x,o,none⟩=W.cell? ⟨x,o,none⟩:=fun hx=>World.cell?_of_block (w:=W) (sc_block W be _ hx)
 have hb:Below be W (W.setCell ⟨be,0,none⟩ (.slice a' S'.length c')):=(Below.refl be W).grown (sc_grown W be _) (Nat.le_of_lt h.le) (fun k e=>by rw[<- Option.some.inj e];exact Nat.le_refl _)
 have hsz:(W.setCell ⟨be,0,none⟩ (.slice a' S'.length c')).heap.size=W.heap.size:=by simp[World.setCell]
 exact⟨World.cell?_setCell_same _ _ _ h.ce,by rw[World.frozen?_setCell];exact h.fe,ho.keep fun b e=>sc_block W be _ (by have:=(ho.ge b e).1;omega),(other h.na).trans h.ca,(other h.nl).trans h.cl,h.all.block (sc_block W be _ h.nm),fun x hx=>(h.ok x hx).below (hb.mono h.hB),h.na,h.nl,h.nm,by rw[hsz];exact h.le,by rw[hsz];exact h.la,by rw[hsz];exact h.ll,h.hB⟩
def PutPost (X:List It) (W:World) (B be ba bl ma n:Nat) (fv:Value) (r:Option (List Pt)) (e:Ending) (W':World):Prop :=
 W.grownBy W' (some be)/\match r with
 | none=>e = .returned (.bool false)
 | some S=>e = .returned (.bool true)/\PS X S/\∃ a c,LP W' B be ba bl ma n fv X a c S
theorem OP.size {B:Nat} {W:World} {a:Option Addr} {c:Nat} {S:List Pt} (h:OP B W (.slice a S.length c) S):S.length<=c/\c<=9223372036854775807:=by
 obtain⟨h1,⟨h2,h3⟩ | ⟨g,cap,cur,hv,hg,hh,hle,hcap,r⟩⟩:=h
 ·injection h2 with e1 e2 e3;omega
 ·cases hv;exact⟨hle,by simpa [maxLen] using hcap⟩
theorem below_grown {W W':World} (h:Below W.heap.size W W') (g:Nat):W.grownBy W' (some g):=⟨h.os,h.tape,h.output,h.size,fun i hi _=>h.block i hi⟩
theorem two_rv {W:World} {a:Option Addr} {cc:Nat} {S:List Pt} {c:List UInt8} {q:Int} (h1:OP 0 W (.slice a S.length cc) S) (hf:Fine S) (hc:c.length<=9223372036854775807) (hq:-9223372036854775808<=q/\q<=9223372036854775807) :
  RV ((W.alloc (.cells #[.string ⟨c.toArray⟩,.int .i64 q] 74)).alloc (.cells #[.slice a S.length cc,.slice (some ⟨W.heap.size,0,none⟩) 1 1] 64)).heap.size ((W.alloc (.cells #[.string ⟨c.toArray⟩,.int .i64 q] 74)).alloc (.cells #[.slice a S.length cc,.slice (some ⟨W.heap.size,0,none⟩) 1 1] 64)) (some ⟨W.heap.size+1,0,none⟩) 2 2 [⟨a,S.length,cc,S⟩,⟨some ⟨W.heap.size,0,none⟩,1,1,[(c,q)]⟩]:=by
 obtain⟨W1,hW1⟩:∃ V,V=W.alloc (.cells #[.string ⟨c.toArray⟩,.int .i64 q] 74):=⟨_,rfl⟩
 have s1:W1.heap.size=W.heap.size+1:=by rw[hW1,World.size_alloc]
 have a1:W1.heap[W.heap.size]? = some (.cells #[.string ⟨c.toArray⟩,.int .i64 q] 74):=by rw[hW1];exact heap_alloc_new _ _
 have b1:Below W.heap.size W W1:=by rw[hW1];exact (Below.refl _ W).alloc (Nat.le_refl _) _
 rw[<- hW1]
 obtain⟨W2,hW2⟩:∃ V,V=W1.alloc (.cells #[.slice a S.length cc,.slice (some ⟨W.heap.size,0,none⟩) 1 1] 64):=⟨_,rfl⟩
 have s2:W2.heap.size=W.heap.size+2:=by rw[hW2,World.size_alloc,s1]
 have a2:W2.heap[W.heap.size+1]? = some (.cells #[.slice a S.length cc,.slice (some ⟨W.heap.size,0,none⟩) 1 1] 64):=by rw[hW2,<- s1];exact heap_alloc_new _ _
 have b2:Below W1.heap.size W1 W2:=by rw[hW2];exact (Below.refl _ W1).alloc (Nat.le_refl _) _
 rw[<- hW2]
 have hrp:=h1.rp hf
 have hs:=OP.size h1
 refine⟨rfl,Nat.le_refl _,by omega,fun _=>⟨_,0,rfl,by omega,fun i hi=>?_⟩,fun i hi=>?_⟩
 ·rcases (show i=0∨i=1 by omega) with rfl | rfl
  ·unfold World.cell?;rw[a2];rfl
  ·unfold World.cell?;rw[a2];rfl
 ·rcases (show i=0∨i=1 by omega) with rfl | rfl
  ·obtain⟨a',c',e,hr⟩:=hrp
   cases e
   exact ((hr.below b1).below (b2.mono b1.size)).mono (by omega)
  ·refine⟨rfl,Nat.le_refl _,(by show (1:Nat)<=_;omega),fun p hp=>?_,fun _=>⟨W.heap.size,0,rfl,by omega,fun i hi=>?_⟩⟩
   ·simp only[List.getD_cons_succ,List.getD_cons_zero,List.mem_singleton] at hp
    subst hp
    exact⟨hc,hq⟩
   ·obtain rfl:i=0:=by
     simp only[List.getD_cons_succ,List.getD_cons_zero] at hi
     omega
    have hb:=(b2.block W.heap.size (by omega)).trans a1
    exact pair_at hb
def QR (X:List It) (W:World) (B be ba bl ma n:Nat) (fv:Value) (k:Nat) (q:Int) (ps S:List Pt) (j:Nat) (wr:World):Prop :=
 ∃ Sj a c,(ps.take j).foldl (putStep (putL X k) q) (some S)=some Sj/\PS X Sj/\LP wr B be ba bl ma n fv X a c Sj/\W.grownBy wr (some be)
theorem timesA_in {a b n:Int} (h:timesA a b=some n):-9223372036854775808<=n/\n<=9223372036854775807:=by
 unfold timesA at h
 split at h
 ·rename_i hc
  cases h
  rw[Bool.and_eq_true,Bool.and_eq_true,decide_eq_true_eq] at hc
  obtain⟨h1,h2,h3⟩:=hc
  unfold okA at h1 h2
  rw[Bool.and_eq_true,decide_eq_true_eq,decide_eq_true_eq] at h1 h2
  unfold mostA at h3
  have:=Int.mul_nonneg h1.1 h2.1
  omega
 ·cases h
set_option maxHeartbeats 8000000 in
set_option maxRecDepth 100000 in
theorem put_any (B be ba bl ma n:Nat) (fv:Value) (X:List It) (hfv:fv = .func (.func 98) #[] #[.pointer (some ⟨ba,0,none⟩),.pointer (some ⟨be,0,none⟩),.pointer (some ⟨bl,0,none⟩)]) (hs:Sound X) (k:Nat):∀ (S:List Pt) (a:Option Addr) (cc:Nat) (c:List UInt8) (q:Int) (W:World),LP W B be ba bl ma n fv X a cc S->PS X S->c∈codes X->(∃ d,hgt (kidsX X) k c=some d)->-9223372036854775808<=q->q<=9223372036854775807 ->
  Calls Tryz.prog 98 #[.string ⟨c.toArray⟩,.int .i64 q,.pointer (some ⟨ba,0,none⟩),.pointer (some ⟨be,0,none⟩),.pointer (some ⟨bl,0,none⟩)] W (PutPost X W B be ba bl ma n fv (putL X k S c q)):=by
 have HS:=Lib.hid hs
 clear hs
 induction k with
 | zero=>rintro S a cc c q W - - - ⟨d,hd⟩;cases hd
 | succ k ih =>
  intro S a cc c q W hL hP hc hh hq1 hq2
  obtain⟨x,hx,hxm,hxc⟩:=itF_some hc
  have hok:=hL.ok x hxm
  have hcl:c.length<=9223372036854775807:=by rw[<- hxc];exact hok.code
  have hpx:partsX X c=x.ps:=by unfold partsX;rw[hx]
  have hall:=hL.all.look Tryz.underlying112 (zeroItem _) c hcl
  rw[book_at HS.out.nd hx] at hall
  unfold It.val encStr at hall
  have HL:=Lib.hid hL
  have HP:=Lib.hid hP
  have HC:=Lib.hid hc
  have HH:=Lib.hid hh
  have HCL:=Lib.hid hcl
  have HX:=Lib.hid hx
  have HPX:=Lib.hid hpx
  have HXM:=Lib.hid hxm
  have ce:=hL.ce
  have ca:=hL.ca
  have cl:=hL.cl
  have hf2:=field_parts
  have hmx:=hok.rp.mx
  have hle:=hok.rp.le
  have HRP:=Lib.hid hok.rp
  obtain⟨np,hnp⟩:∃ m,m=x.ps.length:=⟨_,rfl⟩
  rw[<- hnp] at hle hall
  have HNP:=Lib.hid hnp
  obtain⟨pa,hpa⟩:∃ z,z=x.pa:=⟨_,rfl⟩
  rw[<- hpa] at hall
  have HPA:=Lib.hid hpa
  clear hL hP hc hh hcl hx hpx hxm hnp hpa hok
  go_enter Tryz.func98,Tryz.ntmps98
  by_cases h0:np=0
  ·have e0:((np:Int) == 0)=true:=by simp;omega
   have HPL:Hid (putL X (k+1) S c q=joinL S [(c,q)]):=Lib.hid (by unfold putL;rw[if_pos (by rw[HPX.out,<- HNP.out];exact h0)])
   clear h0
   have hsz:=OP.size HL.out.op
   have hfine:Fine S:=fun p hp=>⟨by
    obtain⟨y,hy,hye⟩:=List.mem_map.1 (HP.out.sub p hp)
    rw[<- hye];exact (HL.out.ok y hy).code,by
    have:=HP.out.up.2 p hp
    unfold okA at this
    rw[Bool.and_eq_true,decide_eq_true_eq,decide_eq_true_eq] at this
    unfold mostA at this
    omega⟩
   have hrv:=two_rv (HL.out.op.mono (Nat.zero_le _)) hfine HCL.out ⟨hq1,hq2⟩
   have hb2:Below W.heap.size W ((W.alloc (.cells #[.string ⟨c.toArray⟩,.int .i64 q] 74)).alloc (.cells #[.slice a S.length cc,.slice (some ⟨W.heap.size,0,none⟩) 1 1] 64)):=((Below.refl _ W).alloc (Nat.le_refl _) _).alloc (by rw[World.size_alloc];omega) _
   have hjl:joinL [] (flatV [⟨a,S.length,cc,S⟩,⟨some ⟨W.heap.size,0,none⟩,1,1,[(c,q)]⟩])=joinL S [(c,q)]:=by
    show joinL [] (S ++ ([(c,q)] ++ []))=_
    rw[List.append_nil,joinL_append,joinL_self HP.out.up]
    rfl
   have hjoin:=Join_any (H:=Unit) _ _ _ _ _ _ hrv (Nat.le_refl _) (by
    show (S ++ ([(c,q)] ++ [])).length<=1048576
    have:=HP.out.len
    have:=HS.out.len
    simp
    omega)
   rw[hjl] at hjoin
   have HJ:=Lib.hid hjoin
   have HB2:=Lib.hid hb2
   clear hrv hb2 hjl hjoin hfine hsz
   go_wp2_with (fail)
   go_at_call 99
   refine HJ.out.mono ?_
   rintro e w3 ⟨hb3,hpost⟩
   have hb9:=HB2.out.trans (hb3.mono HB2.out.size)
   have HL3:=Lib.hid (HL.out.below hb9)
   have HB9:=Lib.hid hb9
   have ce3:=HL3.out.ce
   have fe3:=HL3.out.fe
   cases hT:joinL S [(c,q)] with
   | none =>
    rw[hT] at hpost HPL
    obtain rfl:=hpost
    clear hT hb3 hb9 HJ
    go_wp2_with (fail)
    go_ret
    refine⟨(below_grown HB9.out be).trans (sc_grown _ _ _),?_⟩
    rw[HPL.out]
    rfl
   | some S' =>
    rw[hT] at hpost HPL
    obtain⟨a',c',rfl,hop⟩:=hpost
    have HOP:=Lib.hid (hop.mono (show be+1<=_ by rw[World.size_alloc,World.size_alloc];have:=HL.out.le;omega))
    have HPS:=Lib.hid (ps_join HS.out HP.out HC.out hT)
    clear hT hb3 hb9 HJ hop
    go_wp2_with (fail)
    go_ret
    refine⟨(below_grown HB9.out be).trans (sc_grown _ _ _),?_⟩
    rw[HPL.out]
    exact⟨rfl,HPS.out,a',c',HL3.out.put HOP.out⟩
  ·have e0:((np:Int) == 0)=false:=by simp;omega
   have HPL:Hid (putL X (k+1) S c q=x.ps.foldl (putStep (putL X k) q) (some S)):=Lib.hid (by unfold putL;rw[if_neg (by rw[HPX.out,<- HNP.out];exact h0),HPX.out])
   have HKS:Hid (kidsX X c=x.ps.map (·.1)):=Lib.hid (by rw[kids_parts,HPX.out])
   have hn8:np<=8:=by
    have h:=HS.out.k8 c HC.out
    rw[HKS.out,List.length_map,<- HNP.out] at h
    exact h
   clear h0
   go_wp2_with (fail)
   go_loopw [37] (fun s37 wr=>∃ j:Nat,s37 = .int .i64 j/\j<=np/\Hid (QR X W B be ba bl ma n fv k q x.ps S j wr)) (fun s37 _=>np - (intOf s37).toNat)
   case atStart=>exact⟨0,rfl,by omega,Lib.hid ⟨S,a,cc,rfl,HP.out,HL.out,⟨rfl,rfl,rfl,Nat.le_refl _,fun _ _ _=>rfl⟩⟩⟩
   case round =>
    obtain⟨j,rfl,hj,HR⟩:=hrel
    by_cases hjn:j < np
    ·have t1:decide ((j:Int) < (np:Int))=true:=by simp;omega
     have j0:(0:Int)<=(j:Int):=by omega
     have j1:(j:Int) < (np:Int):=by omega
     have f1:IntKind.i64.wrap ((j:Int)+1)=((j+1:Nat):Int):=by rw[wrap_in (by omega) (by omega)];omega
     obtain⟨Sj,aj,cj,hfj,hPj,hLj,hGj⟩:=HR.out
     have hin:j < x.ps.length:=by rw[<- HNP.out];exact hjn
     have hokj:=hLj.ok x HXM.out
     obtain⟨b,po,hpa',-,p0,p1⟩:=hokj.rp.part hin
     rw[<- HPA.out] at hpa'
     subst hpa'
     obtain⟨pj,hpj⟩:∃ p,p=x.ps.getD j default:=⟨_,rfl⟩
     have HPJ:=Lib.hid hpj
     have hstep:=put_take hin hfj
     rw[<- hpj] at p0 p1 hstep
     obtain⟨nm,qt⟩:=pj
     simp only at p0 p1
     unfold encStr at p0
     have hkm:nm∈kidsX X c:=by
      rw[HKS.out,List.mem_map]
      exact⟨(nm,qt),by rw[hpj,List.getD_eq_getElem?_getD,List.getElem?_eq_getElem hin];exact List.getElem_mem _,rfl⟩
     have HNM:=Lib.hid (HS.out.kids c HC.out nm hkm)
     have HNH:Hid (∃ d,hgt (kidsX X) k nm=some d):=Lib.hid (by
      obtain⟨d,hd⟩:=HH.out
      rw[hgt_succ] at hd
      obtain⟨d',h1,-⟩:=(foldH_some hd).2 nm hkm
      exact⟨d',h1⟩)
     have hpc:=pair_cells wr (.string ⟨nm.toArray⟩) (.int .i64 qt)
     have hga:wr.grownBy (wr.alloc (.cells #[.string ⟨nm.toArray⟩,.int .i64 qt] 74)) (some be):=World.grownBy_alloc _ _ _
     obtain⟨q0,q1⟩:=pair_at hpc
     have hLa:=hLj.below ((Below.refl wr.heap.size wr).alloc (Nat.le_refl _) (.cells #[.string ⟨nm.toArray⟩,.int .i64 qt] 74))
     have cl2:=hLa.cl
     rw[hfv] at cl2
     have HGA:=Lib.hid (hGj.trans hga)
     have HLA:=Lib.hid hLa
     have HPS:=Lib.hid hPj
     have HST:=Lib.hid hstep
     have HFJ:=Lib.hid hfj
     have HIN:=Lib.hid hin
     clear hkm hpj hin hfj hPj hLj hGj hpc hga hLa hstep hokj
     cases hT:timesA q qt with
     | none =>
      have htm:∀ w,Calls Tryz.prog 100 #[.int .i64 q,.int .i64 qt] w fun e w'=>e = .returned (.tuple #[.int .i64 0,.bool false])/\w=w':=fun w=>by
       have:=Times_any q qt w
       rw[hT] at this
       exact this
      have HNN:Hid (putL X (k+1) S c q=none):=Lib.hid (by
       rw[HPL.out]
       refine put_stop HIN.out HFJ.out ?_
       rw[<- HPJ.out]
       show ((some Sj).bind fun S=>(timesA q qt).bind fun n=>putL X k S nm n)=none
       rw[hT];rfl)
      clear hT
      go_wp2_with (fail)
      go_at_call 100
      refine (htm _).mono ?_
      rintro e w9 ⟨rfl,rfl⟩
      go_wp2_with (fail)
      go_ret
      refine⟨HGA.out,?_⟩
      rw[HNN.out]
      rfl
     | some n' =>
      have htm:∀ w,Calls Tryz.prog 100 #[.int .i64 q,.int .i64 qt] w fun e w'=>e = .returned (.tuple #[.int .i64 n',.bool true])/\w=w':=fun w=>by
       have:=Times_any q qt w
       rw[hT] at this
       exact this
      have hn:=timesA_in hT
      have hcall:=Lib.hid (ih Sj aj cj nm n' _ HLA.out HPS.out HNM.out HNH.out (by omega) (by omega))
      have HST2:Hid ((x.ps.take (j+1)).foldl (putStep (putL X k) q) (some S)=putL X k Sj nm n'):=Lib.hid (by
       rw[HST.out]
       show ((some Sj).bind fun S=>(timesA q qt).bind fun n=>putL X k S nm n)=_
       rw[hT];rfl)
      have HSP:Hid (putStep (putL X k) q (some Sj) (x.ps.getD j default)=putL X k Sj nm n'):=Lib.hid (by
       rw[<- HPJ.out]
       show ((some Sj).bind fun S=>(timesA q qt).bind fun n=>putL X k S nm n)=_
       rw[hT];rfl)
      clear hT hn
      go_wp2_with (fail)
      go_at_call 100
      refine (htm _).mono ?_
      rintro e w9 ⟨rfl,rfl⟩
      go_wp2_with (fail)
      go_at_call 98
      refine hcall.out.mono ?_
      rintro e w3 ⟨hgr,hpost⟩
      have HG3:=Lib.hid (HGA.out.trans hgr)
      cases hU:putL X k Sj nm n' with
      | none =>
       rw[hU] at hpost HSP
       obtain rfl:=hpost
       have HNN:Hid (putL X (k+1) S c q=none):=Lib.hid (by
        rw[HPL.out]
        exact put_stop HIN.out HFJ.out HSP.out)
       clear hU hgr hcall q0 q1 cl2 p0 p1
       go_wp2_with (fail)
       go_ret
       refine⟨HG3.out,?_⟩
       rw[HNN.out]
       rfl
      | some S3 =>
       rw[hU] at hpost HST2
       obtain⟨rfl,hP3,a3,c3,hL3⟩:=hpost
       have HQ9:Hid (QR X W B be ba bl ma n fv k q x.ps S (j+1) w3):=Lib.hid ⟨S3,a3,c3,HST2.out,hP3,hL3,HG3.out⟩
       clear hU hgr hcall hP3 hL3 q0 q1 cl2 p0 p1
       go_wp2_with (fail)
       go_roundw
       case rel=>exact⟨j+1,rfl,by omega,HQ9⟩
       case measure=>simp only[intOf];omega
    ·have t1:decide ((j:Int) < (np:Int))=false:=by simp;omega
     obtain⟨Sj,aj,cj,hfj,hPj,hLj,hGj⟩:=HR.out
     rw[List.take_of_length_le (by rw[<- HNP.out];omega)] at hfj
     have HFIN:Hid (PutPost X W B be ba bl ma n fv (putL X (k+1) S c q) (.returned (.bool true)) wr):=Lib.hid (by
      refine⟨hGj,?_⟩
      rw[HPL.out,hfj]
      exact⟨rfl,hPj,aj,cj,hLj⟩)
     clear hfj hPj hLj hGj
     go_wp2_with (fail)
     go_ret
     exact HFIN.out
end Go.Proofs.YtgplnekpgdhcpaaGreat
