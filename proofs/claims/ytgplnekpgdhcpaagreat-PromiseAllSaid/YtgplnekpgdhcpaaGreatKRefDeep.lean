/-  -/
import Derived.Test.YtgplnekpgdhcpaaGreatQRefF
import Derived.Test.YtgplnekpgdhcpaaGreatQSpans
import Derived.Test.YtgplnekpgdhcpaaGreatQWantsN
import Derived.Test.YtgplnekpgdhcpaaGreatQPromO
import Derived.Test.YtgplnekpgdhcpaaGreatKDepths
import Derived.Deep.DeepCutAuto
namespace Go.Proofs.YtgplnekpgdhcpaaGreat
section
open Go.RowKit Go.Sort Go.Lib Go.Shelf
theorem below_drewR {B:Nat} {w w':World} (h:Below B w w'):Below B w w'.drew:=h.trans ⟨rfl,rfl,rfl,Nat.le_refl _,fun _ _=>rfl⟩
set_option maxHeartbeats 4000000 in
set_option maxRecDepth 100000 in
theorem rHad_any (B:Nat) (a a2 a3:Option Addr) (n c n2 c2 n3 c3:Nat) (L:List LotV) (W:List WantV) (P:List Pt) (d:Int) (w:World) (hl:lotE.In B w a n c L) (hw:wantE.In B w a2 n2 c2 W) (hp:ptE.In B w a3 n3 c3 P) (hB:B<=w.heap.size) (hn2:n2<=50000000) (hn3:n3<=50000000) (hd:0<=d/\d<=4001) :
  Calls Tryz.prog 74 #[.slice a n c,.slice a2 n2 c2,.slice a3 n3 c3,.int .i64 d] w fun e w'=>e=.returned (.bool (hadB L W P d))/\Below w.heap.size w w':=by
 have hle:=hp.le;have hmx:=hp.mx;have Hl:=Lib.hid hl;have Hp:=Lib.hid hp;have Hw:=Lib.hid hw;have Hwl:=Lib.hid hw.len;have Hpl:=Lib.hid hp.len;have Hwf:=Lib.hid hw.fine;have HF:=Lib.hid (fun j (hj:j<n3)=>moreW_succ d (P:=P) (j:=j) (by have:=Hpl.out;omega));have hb0:=Lib.hid ((Below.refl w.heap.size w).alloc (Nat.le_refl _) (.cells #[] 71));have ho0:Hid (wantE.Own w.heap.size (w.alloc (.cells #[] 71)) (.slice (some ⟨w.heap.size,0,none⟩) 0 0) []):=Lib.hid (World.ownsRow_lit (e:=71) (size:=wantE.k) w #[] 0 (Nat.le_refl _) (Nat.zero_le _) (by simp));generalize hQ:hadB L W P d=Q;have HQ:=Lib.hid hQ;clear hl hw hp hQ;go_enter Tryz.func74,Tryz.ntmps74;go_wp2_with (at_builtin;refine wpList_appendN wantE rfl _ _ rfl w.heap.size (some ⟨w.heap.size,0,none⟩) 0 0 [] W n2 Hwl.out rfl rfl ho0.out _ _ rfl (Hw.out.below (hb0.out.mono hB)).src hb0.out.size (by omega) ?_;intro a5 c5 w5 ho5 hb5;have O5:Hid (wantE.Own w.heap.size w5 (.slice a5 (0+n2) c5) W):=Lib.hid ho5;have B5:=Lib.hid (hb0.out.trans hb5);clear ho5 hb5);rw[Nat.zero_add] at O5
 try rw[Nat.zero_add]
 go_loopw [9,10] (fun s9 s10 wr=>∃ (j:Nat) (va:Option Addr) (vn vc:Nat),s9=.slice va vn vc/\s10=.int .i64 j/\j<=n3/\Hid (vn=(W++moreW d (P.take j)).length)/\Hid (wantE.Own w.heap.size wr (.slice va vn vc) (W++moreW d (P.take j)))/\Hid (Below w.heap.size w wr)) (fun _ s10 _=>n3-(intOf s10).toNat)
 case atStart=>exact⟨0,a5,n2,c5,by first|rfl|simp,rfl,Nat.zero_le _,Lib.hid (by simp[moreW];exact Hwl.out),Lib.hid (by simpa [moreW] using O5.out),B5⟩
 case round =>
  obtain⟨j,va,vn,vc,rfl,rfl,hj,HN,HO,Hb⟩:=hrel;by_cases hlt:j<n3
  ·obtain⟨b,o,rfl,hbB,hcs⟩:=ptE_at (Hp.out.below (Hb.out.mono hB)) (by omega);obtain⟨g0,g1⟩:=hcs j hlt;have Hsucc:=Lib.hid (HF.out j hlt);have HXl:Hid (vn<=100000000):=Lib.hid (by
    have h1:=Hwl.out;have h2:=HN.out;rw[List.length_append,moreW_len,List.length_take] at h2;omega)
   clear hcs;generalize P.getD j default=pt at g0 g1 Hsucc;obtain⟨pi,pq⟩:=pt;simp only at g0 g1 Hsucc;generalize moreW d (P.take j)=Q0 at HN HO Hsucc;have d0:wr.drew.cell? ⟨b,o+j*2,none⟩=some (.string ⟨pi.toArray⟩):=g0;have d1:wr.drew.cell? ⟨b,o+j*2+1,none⟩=some (.int .i64 pq):=g1;have hOA:Hid (wantE.Own w.heap.size (wr.drew.alloc (.cells #[.string ⟨pi.toArray⟩,.int .i64 d,.int .i64 pq] 71)) (.slice va vn vc) (W++Q0)):=Lib.hid ((El.Own.drew HO.out).below (below_allocL _ _));have hBA:Hid (Below w.heap.size w (wr.drew.alloc (.cells #[.string ⟨pi.toArray⟩,.int .i64 d,.int .i64 pq] 71))):=Lib.hid ((below_drewR Hb.out).trans ((below_allocL _ _).mono Hb.out.size));go_wp2_with (fail);go_region_law (first|(refine El.step_append1 wantE rfl _ _ rfl w.heap.size (.slice va vn vc) (W++Q0) ⟨pi,d,pq⟩ (vn+1) (by rw[<- HN.out]) rfl hOA.out _ 1 rfl (wantE_lit _ ⟨pi,d,pq⟩ _) hBA.out.size (by have:=HXl.out;have:=HN.out;omega) ?_;intro g9 c9 w9 hown9 hg9 hgg9;have O9:Hid (wantE.Own w.heap.size w9 (.slice (some ⟨g9,0,none⟩) (vn+1) c9) ((W++Q0)++[⟨pi,d,pq⟩])):=Lib.hid hown9;have B9:=Lib.hid (hBA.out.grown hg9 hBA.out.size (fun k e=>(hOA.out.ge k e).1));clear hown9 hg9 hgg9))
   all_goals (
    clear d0 d1;go_wp2_with (fail);go_roundw
    case rel=>exact⟨j+1,some ⟨g9,0,none⟩,vn+1,c9,by go_num,by go_num,by omega,Lib.hid (by rw[Hsucc.out,<- List.append_assoc,List.length_append,<- HN.out];rfl),Lib.hid (by rw[Hsucc.out,<- List.append_assoc];exact O9.out),B9⟩
    case measure=>simp[intOf];omega)
  ·obtain rfl:j=n3:=by omega
   have hO:=HO.out;have hNl:=HN.out;rw[List.take_of_length_le (by have:=Hpl.out;omega)] at hO hNl;obtain⟨a',c',hv,hin⟩:=hO.in_ (fun x hx=>by
    rcases List.mem_append.1 hx with hx|hx
    ·exact Hwf.out x hx
    ·unfold moreW at hx;obtain⟨p,hp,rfl⟩:=List.mem_map.1 hx;obtain⟨k1,k2,k3⟩:=Hp.out.fine p hp;exact⟨k1,⟨by show _<=d;omega,by show d<=_;omega⟩,k2,k3⟩)
   rw[<- hNl] at hv hin;injection hv with e1 e2 e3
   subst e1;subst e3;have HFit:=Lib.hid (rFill_any wr.heap.size a va n c vn vc L (W++moreW d P) wr (((Hl.out.below (Hb.out.mono hB)).mono (by have:=Hb.out.size;omega))) hin (Nat.le_refl _));clear hin hO hNl HO HN HF;have HQ2:Hid ((fillX L (W++moreW d P)).isSome=Q):=Lib.hid HQ.out;unfold FlPost at HFit
   cases hX:fillX L (W++moreW d P) with
   | none =>
    rw[hX] at HFit HQ2;simp only at HFit;clear hX;go_wp2_with (go_at_call 106;refine HFit.out.mono ?_;rintro e w7 ⟨hb7,rfl⟩;have B7:=Lib.hid (Hb.out.trans (hb7.mono Hb.out.size));clear hb7);go_ret;exact⟨by rw[<- HQ2.out];rfl,B7.out⟩
   | some T =>
    obtain⟨U,f⟩:=T;rw[hX] at HFit HQ2;simp only at HFit;clear hX;go_wp2_with (go_at_call 106;refine HFit.out.mono ?_;rintro e w7 ⟨hb7,v,rfl,ho7⟩;obtain⟨ua,uc,hv7,-,-,-⟩:=ho7.form;subst hv7;have B7:=Lib.hid (Hb.out.trans (hb7.mono Hb.out.size));clear hb7 ho7);go_ret;exact⟨by rw[<- HQ2.out];rfl,B7.out⟩
set_option maxHeartbeats 2000000 in
set_option maxRecDepth 100000 in
theorem rDay_any (B:Nat) (a a2 a3:Option Addr) (n c n2 c2 n3 c3:Nat) (L:List LotV) (W:List WantV) (P:List Pt) (lo hi:Int) (w:World) (hl:lotE.In B w a n c L) (hw:wantE.In B w a2 n2 c2 W) (hp:ptE.In B w a3 n3 c3 P) (hB:B<=w.heap.size) (hn2:n2<=50000000) (hn3:n3<=50000000) :
  Calls Tryz.prog 42 #[.slice a n c,.slice a2 n2 c2,.slice a3 n3 c3,.int .i64 lo,.int .i64 hi] w fun e w'=>e=.returned (.tuple #[.int .i64 ((dayX L W P lo hi).getD 0),.bool (dayX L W P lo hi).isSome])/\Below w.heap.size w w':=by
 have HH:=Lib.hid (fun (d:Int) (hd:0<=d/\d<=4001) (V:World) (hb:Below w.heap.size w V)=>rHad_any B a a2 a3 n c n2 c2 n3 c3 L W P d V (hl.below (hb.mono hB)) (hw.below (hb.mono hB)) (hp.below (hb.mono hB)) (Nat.le_trans hB hb.size) hn2 hn3 hd);generalize hR:dayX L W P lo hi=R;have HR:=Lib.hid hR;clear hl hw hp hR;obtain⟨s,hs⟩:∃ s:Int,s=max lo 0:=⟨_,rfl⟩
 have hs0:0<=s:=by omega
 have HS:=Lib.hid hs;go_enter Tryz.func42,Tryz.ntmps42;go_wp2_with (fail);go_loopw [12] (fun s12 wr=>∃ d:Int,s12=.int .i64 d/\s<=d/\(d<=4001∨d=s)/\Hid (∀ y,s<=y->y<d->hadB L W P y=false)/\Hid (Below w.heap.size w wr)) (fun s12 _=>(4002-intOf s12).toNat)
 case atStart=>exact⟨s,by rw[HS.out],Int.le_refl _,.inr rfl,Lib.hid (fun y h1 h2=>by omega),Lib.hid (Below.refl _ _)⟩
 case round =>
  obtain⟨d,rfl,hd,hd2,HN,Hb⟩:=hrel;by_cases h1:d<=hi
  ·by_cases h2:d<=4000
   ·have HC:=Lib.hid (HH.out d (by omega) wr Hb.out);have hw1:IntKind.i64.wrap (d+1)=d+1:=wrap_in (by omega) (by omega)
    cases hx:hadB L W P d with
    | true =>
     have E:Hid (R=some d):=Lib.hid (by rw[<- HR.out];exact dayX_iff.2 ⟨by rw[<- HS.out];exact hd,by omega,hx,fun y k1 k2=>HN.out y (by rw[HS.out];exact k1) k2⟩);rw[hx] at HC;clear hx;go_wp2_with (go_at_call 74;refine HC.out.mono ?_;rintro e w1 ⟨rfl,hb1⟩;have B1:=Lib.hid (Hb.out.trans (hb1.mono Hb.out.size));clear hb1);go_ret2;exact⟨by rw[E.out];rfl,B1.out⟩
    | false =>
     have HN2:Hid (∀ y,s<=y->y<d+1->hadB L W P y=false):=Lib.hid (fun y k1 k2=>by
      by_cases e:y=d
      ·rw[e];exact hx
      ·exact HN.out y k1 (by omega))
     rw[hx] at HC;clear hx;go_wp2_with (go_at_call 74;refine HC.out.mono ?_;rintro e w1 ⟨rfl,hb1⟩;have B1:=Lib.hid (Hb.out.trans (hb1.mono Hb.out.size));clear hb1);go_roundw
     case rel=>exact⟨d+1,by first|rfl|trivial|go_num,by omega,.inl (by omega),HN2,B1⟩
     case measure=>simp[intOf];omega
   ·have E:Hid (R=none):=Lib.hid (by
     rw[<- HR.out]
     cases hx:dayX L W P lo hi with
     | none=>rfl
     | some x =>
      obtain⟨k1,k2,k3,-⟩:=dayX_iff.1 hx;rw[<- HS.out] at k1;rw[HN.out x k1 (by omega)] at k3
      cases k3)
    go_wp2_with (fail);go_ret2;exact⟨by rw[E.out];rfl,Hb.out⟩
  ·have E:Hid (R=none):=Lib.hid (by
    rw[<- HR.out]
    cases hx:dayX L W P lo hi with
    | none=>rfl
    | some x =>
     obtain⟨k1,k2,k3,-⟩:=dayX_iff.1 hx;rw[<- HS.out] at k1;rw[HN.out x k1 (by omega)] at k3
     cases k3)
   go_wp2_with (fail);go_ret2;exact⟨by rw[E.out];rfl,Hb.out⟩
end
section
open Go.RowKit
theorem valO_take {o:List UInt8->Nat} {ks:List (List UInt8)} {k:Nat} (hk:k<ks.length):valO o (ks.take (k+1))=goV o (valO o (ks.take k)) (ks.getD k []):=by
 rw[valO_eq,valO_eq,List.take_succ_eq_append_getElem hk,List.foldl_append,List.getD_eq_getElem?_getD,List.getElem?_eq_getElem hk];rfl
theorem valO_stop {o:List UInt8->Nat} {ks:List (List UInt8)} {k:Nat} (hk:k<ks.length) (h0:o (ks.getD k [])=0):valO o ks=0:=by
 have h1:valO o (ks.take (k+1))=0:=by
  rw[valO_take hk];unfold goV;rw[if_pos (Or.inr h0)]
 have e:ks=ks.take (k+1)++ks.drop (k+1):=(List.take_append_drop _ _).symm;rw[valO_eq] at h1 ⊢;rw[e,List.foldl_append,h1,goV_zero]
theorem valO_go {o:List UInt8->Nat} {ks:List (List UInt8)} {k m:Nat} (hk:k<ks.length) (hm:m=valO o (ks.take k)) (h0:m≠0) (h1:o (ks.getD k [])≠0):max m (o (ks.getD k [])+1)=valO o (ks.take (k+1)):=by
 rw[valO_take hk,<- hm];unfold goV;rw[if_neg (fun h=>h.elim h0 h1)]
set_option maxHeartbeats 4000000 in
set_option maxRecDepth 100000 in
theorem rDeep_any (B:Nat) (a:Option Addr) (n cp:Nat) (X:List It) (w:World) (hr:RI B w a n cp X) (hB:B<=w.heap.size) (hd:(codes X).Nodup) (hV:∀ c∈codes X,∀ p∈kidsX X c,p∈codes X) (hl:X.length<=60) :
  Calls Tryz.prog 103 #[.slice a n cp] w fun e w'=>∃ (g:Nat) (o:List UInt8->Nat),e=.returned (.slice (some ⟨g,0,none⟩) n n)/\OI w' g n (fun i=>(o (cd X i):Int))/\w.heap.size<=g/\Below w.heap.size w w'/\∀ c∈codes X,o c=(hgt (kidsX X) X.length c).getD 0:=by
 have hle:=hr.le;have hmx:=hr.mx;have hln:=hr.len;obtain⟨cs,hmk,hoi⟩:=makeI n (by omega) w;have HR:=Lib.hid (hr.mono hB);have HD:=Lib.hid hd;have HV:=Lib.hid hV;have HLN:=Lib.hid hln;have HL:=Lib.hid hl;have hn60:n<=60:=by omega
 have hbd:Below w.heap.size w (w.alloc (.cells cs 3)):=(Below.refl _ w).alloc (Nat.le_refl _) _;obtain⟨W1,hW1⟩:∃ W,W=w.alloc (.cells cs 3):=⟨_,rfl⟩
 rw[<- hW1] at hmk hoi hbd;obtain⟨g,hg⟩:∃ g,g=w.heap.size:=⟨_,rfl⟩
 have hg2:=hg;rw[<- hg] at hmk hoi;have HRD:Hid (RD X w g n 0 0 (fun _=>0) W1):=Lib.hid ⟨hoi,Snd.zero,Cmp.zero _ _,fun j hj=>absurd hj (Nat.not_lt_zero _),hbd⟩;have HG:=Lib.hid hg;clear hr hd hV hln hoi hbd hg hg2 hl hW1;go_enter Tryz.func103,Tryz.ntmps103;go_wp2_with (fail);go_loopw [4] (fun s4 wr=>∃ (r:Nat) (o:List UInt8->Nat),s4=.int .i64 r/\r<=n+1/\Hid (RD X w g n r 0 o wr)) (fun s4 _=>n+1-(intOf s4).toNat)
 case atStart=>exact⟨0,_,rfl,by omega,HRD⟩
 case round =>
  obtain⟨r,o,rfl,hr,HO⟩:=hrel;by_cases hrn:r<=n
  ·have t1:decide ((r:Int)<=(n:Int))=true:=by simp;omega
   have f1:IntKind.i64.wrap ((r:Int)+1)=((r+1:Nat):Int):=by rw[wrap_in (by omega) (by omega)];omega
   go_wp2_with (fail);go_loopw [5] (fun s5 wr=>∃ (i:Nat) (o:List UInt8->Nat),s5=.int .i64 i/\i<=n/\Hid (RD X w g n r i o wr)) (fun s5 _=>n-(intOf s5).toNat)
   case atStart=>exact⟨0,o,rfl,by omega,HO⟩
   case round =>
    obtain⟨i,o,rfl,hi,HO⟩:=hrel;by_cases hin:i<n
    ·have t2:decide ((i:Int)<(n:Int))=true:=(by simp;omega);have i0:(0:Int)<=(i:Int):=(by omega);have i1:(i:Int)<(n:Int):=(by omega);have f2:IntKind.i64.wrap ((i:Int)+1)=((i+1:Nat):Int):=(by rw[wrap_in (by omega) (by omega)];omega);obtain⟨w2,rfl⟩:∃ z,z=wr:=⟨_,rfl⟩
     have hRI:=HR.out.below HO.out.2.2.2.2;obtain⟨b,po,rfl,hbB,hok,c0,c1,c2,c3⟩:=hRI.item hin;have hks:=kids_cd HD.out (i:=i) (by have:=HLN.out;omega);obtain⟨x,hx⟩:∃ x,x=X.getD i default:=⟨_,rfl⟩
     rw[<- hx] at hok c0 c1 c2 c3 hks;have HKS:=Lib.hid hks;have HOK:=Lib.hid hok;have HRI:=Lib.hid hRI;have hmp:=hok.rp.mx;have hlp:=hok.rp.le;obtain⟨np,hnp⟩:∃ k,k=x.ps.length:=⟨_,rfl⟩
     obtain⟨pa,hpa⟩:∃ k,k=x.pa:=⟨_,rfl⟩
     rw[<- hnp] at hlp;rw[<- hnp,<- hpa] at c2;have HNP:=Lib.hid hnp;have HPA:=Lib.hid hpa;have cst:=HO.out.1.cell hin;have cfz:=HO.out.1.frozen i;clear hks hok hRI hnp hpa hx c0 c1 c3;go_wp2_with (fail);go_loopw [6,7] (fun s6 s7 wr=>∃ (k m:Nat),s7=.int .i64 k/\s6=.int .i64 m/\k<=np/\m≠0/\wr=w2/\Hid (m=valO o ((x.ps.map (·.1)).take k))) (fun _ s7 _=>np-(intOf s7).toNat)
     case atStart=>exact⟨0,1,rfl,rfl,by omega,by omega,rfl,Lib.hid rfl⟩
     case round =>
      obtain⟨k,m,rfl,rfl,hk,hm0,rfl,HMV⟩:=hrel;by_cases hkn:k<np
      ·have t3:decide ((k:Int)<(np:Int))=true:=(by simp;omega);have k0:(0:Int)<=(k:Int):=(by omega);have k1:(k:Int)<(np:Int):=(by omega);have f3:IntKind.i64.wrap ((k:Int)+1)=((k+1:Nat):Int):=(by rw[wrap_in (by omega) (by omega)];omega);have hkx:k<x.ps.length:=(by rw[<- HNP.out];exact hkn);obtain⟨b2,po2,hpa',-,p0,p1⟩:=HOK.out.rp.part hkx;rw[<- HPA.out] at hpa';subst hpa';obtain⟨nm,hnm⟩:∃ z,z=(x.ps.getD k default).1:=⟨_,rfl⟩
       have hnl:=(HOK.out.rp.fine.at_ hkx).1;rw[<- hnm] at p0 hnl;unfold encStr at p0;have hksn:(x.ps.map (·.1)).getD k []=nm:=by
        rw[List.getD_eq_getElem?_getD,List.getElem?_map,List.getElem?_eq_getElem hkx,hnm,List.getD_eq_getElem?_getD,List.getElem?_eq_getElem hkx];rfl
       have hnV:nm∈codes X:=HV.out (cd X i) (cd_mem (by have:=HLN.out;omega)) nm (by
        rw[HKS.out,<- hksn,List.getD_eq_getElem?_getD,List.getElem?_eq_getElem (by rw[List.length_map];exact hkx)];exact List.getElem_mem _)
       obtain⟨j,hj,hfj,hcj⟩:=there hnV;have hfind:=Lib.hid (Find_any g (some ⟨b,po,none⟩) n cp X nm wr (by rw[HG.out];exact HRI.out) (by rw[HG.out];exact HO.out.2.2.2.2.size) hnl);have cj:=HO.out.1.cell (i:=j) (by have:=HLN.out;omega);rw[hcj] at cj;rw[hfj] at hfind;have hle6:=HO.out.2.1.le HV.out hnV HL.out;have j0:(0:Int)<=(j:Int):=(by omega);have j1:(j:Int)<(n:Int):=(by have:=HLN.out;omega);obtain⟨d,hdv⟩:∃ d,d=o nm:=⟨_,rfl⟩
       rw[<- hdv] at cj hle6;have HDV:=Lib.hid hdv;have HKN:=Lib.hid hksn;have HKX:=Lib.hid hkx;have f4:IntKind.i64.wrap ((d:Int)+1)=((d+1:Nat):Int):=(by rw[wrap_in (by omega) (by omega)];omega);clear hkx hnl hksn hnV hfj hcj hdv hnm p1;go_wp2_with (fail);go_at_call 70;refine hfind.out.mono ?_;rintro e w3 ⟨rfl,rfl⟩;by_cases hd0:d=0
       ·have e1:((d:Int) == 0)=true:=(by simp;omega);have hs9:=Lib.hid (HO.out.step HLN.out hin HD.out HV.out (by rw[HG.out];exact Nat.le_refl _) (v:=0) (by
         rw[HKS.out,valO_stop (k:=k) (by rw[List.length_map];exact HKX.out) (by rw[HKN.out,<- HDV.out];exact hd0)]))
        clear hd0 hfind;go_wp2_with (fail);go_roundw
        case rel=>exact⟨i+1,_,rfl,by omega,Lib.hid hs9.out⟩
        case measure=>simp only[intOf];omega
       ·have e1:((d:Int) == 0)=false:=(by simp;omega);have hs9:=Lib.hid (valO_go (o:=o) (ks:=x.ps.map (·.1)) (by rw[List.length_map];exact HKX.out) HMV.out hm0 (by rw[HKN.out,<- HDV.out];exact hd0));have hs8:=hs9.out;rw[HKN.out,<- HDV.out] at hs8;have HS8:=Lib.hid hs8;clear hs8 hs9 hd0 hfind;go_wp2_with (fail);go_roundw
        case rel =>
         refine⟨k+1,max m (d+1),rfl,?_,by omega,by omega,trivial,HS8⟩
         congr 1
         first|omega|(split<;>omega)
        case measure=>simp only[intOf];omega
      ·have t3:decide ((k:Int)<(np:Int))=false:=(by simp;omega);have hs9:=Lib.hid (HO.out.step HLN.out hin HD.out HV.out (by rw[HG.out];exact Nat.le_refl _) (v:=m) (by
        rw[HMV.out,HKS.out,List.take_of_length_le (by rw[List.length_map,<- HNP.out];omega)]))
       go_wp2_with (fail);go_roundw
       case rel=>exact⟨i+1,_,rfl,by omega,hs9⟩
       case measure=>simp only[intOf];omega
    ·have t2:decide ((i:Int)<(n:Int))=false:=(by simp;omega);have hin2:i=n:=(by omega);have hn9:=Lib.hid (RD.next (by have h:=HO.out;rw[hin2] at h;exact h) HLN.out);clear hin2;go_wp2_with (fail);go_roundw
     case rel=>exact⟨r+1,o,rfl,by omega,hn9⟩
     case measure=>simp only[intOf];omega
  ·have t1:decide ((r:Int)<=(n:Int))=false:=by simp;omega
   have hfin:=Lib.hid (fun c hc=>rounds_end (kids:=kidsX X) (V:=codes X) HV.out (o:=o) (r:=r) (by unfold codes;rw[List.length_map];have:=HLN.out;omega) HO.out.2.1 HO.out.2.2.1 (c:=c) hc);go_wp2_with (fail);go_ret;exact⟨g,o,rfl,HO.out.1,by rw[HG.out];exact Nat.le_refl _,HO.out.2.2.2.2,fun c hc=>by have h:=hfin.out c hc;unfold codes at h;rw[List.length_map] at h;exact h⟩
end
end Go.Proofs.YtgplnekpgdhcpaaGreat
