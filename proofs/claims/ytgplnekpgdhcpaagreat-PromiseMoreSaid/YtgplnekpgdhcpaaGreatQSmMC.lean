/- slices.SortStableFunc at api.Line: slices.symMergeCmpFunc, more on both sides. (Printed by gen/sorts.py.) -/
import Derived.Test.YtgplnekpgdhcpaaGreatQStM
namespace Go.Proofs.YtgplnekpgdhcpaaGreat
open Go.Proofs Go.Shelf Go.RowKit Go.Lib Go.Sort
section
variable {P:Program} {α:Type} [Inhabited α]
set_option maxHeartbeats 8000000 in
set_option maxRecDepth 1000000 in
theorem symMergeMC (k:Nat) (L:StM P k) (enc:α->List Value) (cf:α->α->Int) (T:α->α->Bool) (hT:SWO T) (g:Nat) (cb:Array Value) (blk off cap sz:Nat) (d0:Array α) (w0:World)
  (eg:∀ args w,(callFunc g args).run P w = .ok (.enter g args) w) (hcmp:CmpLays P g cb enc k cf blk off d0.size w0) (R:RowK enc k w0 blk off d0) (h0:d0.size=sz) (hsz:sz < 4611686018427387904)
  (a m b:Nat) (d:Array α) (w:World) (hs:d.size=sz) (S:SWK enc k w0 blk off d w) (ham:a < m) (hmb:m < b) (hb:b<=sz) (hSM:SM (ltOf cf) T a m b d) (h1c:a+2<=m) (h2c:m+2<=b) (N:Nat) (hN:b<=N+1+a) (ih:∀ (a m b:Nat) (d:Array α) (w:World),b<=N+a->d.size=sz->SWK enc k w0 blk off d w->a < m->m < b->b<=sz->SM (ltOf cf) T a m b d->Calls P 127 #[.slice (some ⟨blk,off,none⟩) sz cap,.int .i64 a,.int .i64 m,.int .i64 b,.func (.func g) #[] cb] w fun e w'=>e = .returned (.tuple #[])/\∃ d',d'.size=sz/\SWK enc k w0 blk off d' w'/\PermIn a b d d'/\SortedIn T a b d') :
  Calls P 127 #[.slice (some ⟨blk,off,none⟩) sz cap,.int .i64 a,.int .i64 m,.int .i64 b,.func (.func g) #[] cb] w fun e w'=>e = .returned (.tuple #[])/\∃ d',d'.size=sz/\SWK enc k w0 blk off d' w'/\PermIn a b d d'/\SortedIn T a b d':=by
 have IH:=Lib.hid ih
 have HRO:Hid (∀ (a m b:Nat) (d:Array α) (w:World),d.size=sz->SWK enc k w0 blk off d w->a < m->m < b->b<=sz->Calls P 158 #[.slice (some ⟨blk,off,none⟩) sz cap,.int .i64 a,.int .i64 m,.int .i64 b,.func (.func g) #[] cb] w fun e w'=>e = .returned (.tuple #[])/\∃ d',d'.size=sz/\SWK enc k w0 blk off d' w'/\(∀ x,d'[x]! = rotF d a m b x)/\PermIn a b d d'):=Lib.hid fun a m b d w h1 h2 h3 h4 h5=>rotateM k L enc _ blk off cap a m b sz d0 d w0 w R h0 h1 h2 h3 h4 h5 hsz
 clear ih
 have mixed:=L.mixed;have late:=L.late;have unsure:=L.unsure
 have t0:=L.t0;have a0:=L.a0;have z0:=L.z0;have v0:=L.v0;have t3:=L.t3;have a3:=L.a3;have z3:=L.z3;have v3:=L.v3;have t4:=L.t4;have a4:=L.a4;have z4:=L.z4;have v4:=L.v4;have t22:=L.t22;have a22:=L.a22;have z22:=L.z22;have v22:=L.v22;have t35:=L.t35;have a35:=L.a35;have z35:=L.z35;have v35:=L.v35;have a25:=L.a25;have z25:=L.z25;have v25:=L.v25
 have u0:=run_underlying L.t0;have u3:=run_underlying L.t3;have u4:=run_underlying L.t4;have u22:=run_underlying L.t22;have u35:=run_underlying L.t35
 have aE:=L.aE;have zE:=L.zE
 have eR:∀ args w,(callFunc 158 args).run P w = .ok (.enter 158 args) w:=enters_of L.fRot (by kernel_rfl) rfl
 have eM:∀ args w,(callFunc 127 args).run P w = .ok (.enter 127 args) w:=enters_of L.fSym (by kernel_rfl) rfl
 have FG:=L.fSym
 have HC:Aside _:=hcmp
 have S0:Aside (SWK enc k w0 blk off d w):=S
 have M:Aside _:=hSM
 have HT:Aside _:=hT
 have HS:Aside (d.size=sz):=hs
 have hd0:d.size<=sz:=Nat.le_of_eq hs
 have hd1:sz<=d.size:=Nat.le_of_eq hs.symm
 have hd2:d0.size<=sz:=Nat.le_of_eq h0
 have hd3:sz<=d0.size:=Nat.le_of_eq h0.symm
 clear S hSM hcmp hT hs h0
 have CR:Aside (∀ i j,a<=i->i < m->m<=j->j < b->ltOf cf d[j]! d[i]! = T d[j]! d[i]!):=M.out.cross
 have rA:IntKind.i64.wrap ((m:Int) - (a:Int))=(m:Int) - (a:Int):=by rw[IntKind.wrap_i64];omega
 have rB:IntKind.i64.wrap ((b:Int) - (m:Int))=(b:Int) - (m:Int):=by rw[IntKind.wrap_i64];omega
 go_enter FG,Tryz.ntmps127
 have e1:¬ (m:Int) - (a:Int)=1:=by omega
 have e1b:((m:Int) - (a:Int) == 1)=false:=by simp[e1]
 have e2:¬ (b:Int) - (m:Int)=1:=by omega
 have e2b:((b:Int) - (m:Int) == 1)=false:=by simp[e2]
 obtain⟨mid,hmid⟩:∃ mid,mid=(a+b) / 2:=⟨_,rfl⟩
 have qm:((a:Int)+(b:Int)) / 2=(mid:Int):=by omega
 have mid1:2 * mid<=a+b:=by omega
 have mid2:a+b < 2 * mid+2:=by omega
 have HM:Aside (mid=(a+b) / 2):=hmid
 clear hmid
 go_upto_if 140 with (fail)
 go_cut [20,21] from 138 to 146 (fun s20 s21 wx=>∃ lo hi:Nat,s20 = .int .i64 lo/\s21 = .int .i64 hi/\Aside (Reach a m b mid (mid+m - 1) lo hi)/\lo<=hi/\hi<=mid/\hi<=m/\w=wx)
 case first =>
  by_cases hmm:mid < m
  ·have rn:IntKind.i64.wrap ((mid:Int)+(m:Int) - (b:Int))=((mid+m - b:Nat):Int):=by rw[IntKind.wrap_i64];omega
   have hmz:(mid:Int) < (m:Int):=by omega
   go_wp2_with fail
   go_meet
   exact⟨mid+m - b,mid,by go_num,rfl,(⟨ham,hmb,HM.out,by omega,fun _=>⟨rfl,rfl⟩,fun h=>by omega⟩:Reach a m b mid (mid+m - 1) (mid+m - b) mid),by omega,by omega,by omega,rfl⟩
  ·have hmz:¬ (mid:Int) < (m:Int):=by omega
   go_wp2_with fail
   go_meet
   exact⟨a,m,rfl,rfl,(⟨ham,hmb,HM.out,by omega,fun h=>by omega,fun _=>⟨rfl,rfl⟩⟩:Reach a m b mid (mid+m - 1) a m),by omega,by omega,by omega,rfl⟩
 case rest =>
  obtain⟨lo,hi,rfl,rfl,RE,hlh,him,him2,rfl⟩:=hcut
  clear e1 e1b e2 e2b rA rB qm
  have rp:IntKind.i64.wrap ((mid:Int)+(m:Int) - 1)=((mid+m - 1:Nat):Int):=by rw[IntKind.wrap_i64];omega
  obtain⟨p,hp⟩:∃ p,p=mid+m - 1:=⟨_,rfl⟩
  rw[<- hp] at RE rp
  have hp1:p+1<=mid+m:=by omega
  have hp2:mid+m<=p+1:=by omega
  have HP:Aside (p=mid+m - 1):=hp
  clear hp
  go_wp2
  go_loopg [20,21] (hi - lo) (fun kx s20 s21 wr=>∃ i j:Nat,s20 = .int .i64 i/\s21 = .int .i64 j/\i<=j/\j<=hi/\lo<=i/\j - i<=kx/\Aside (SWK enc k w0 blk off d wr)/\Aside (Sees (ltOf cf) p lo i j hi d))
  case atStart=>exact⟨lo,hi,rfl,rfl,hlh,Nat.le_refl _,Nat.le_refl _,Nat.le_refl _,S0,(Sees.start (ltOf cf) p hlh d:_)⟩
  case round =>
   clear S0 rp
   obtain⟨i,j,rfl,rfl,hij,hjh,hli,hkx,S1,I⟩:=hrel
   by_cases hlt:i < j
   ·have hltz:(i:Int) < (j:Int):=by omega
    obtain⟨c,hc⟩:∃ c,c=(i+j) / 2:=⟨_,rfl⟩
    have hc1:2 * c<=i+j:=by omega
    have hc2:i+j < 2 * c+2:=by omega
    have qc:((i:Int)+(j:Int)) / 2=(c:Int):=by omega
    clear hc
    obtain⟨b1,b2,b3,b4,b5⟩:=RE.out.bnd (show lo<=c by omega) (show c < hi by omega)
    obtain⟨q,hq⟩:∃ q,q=p - c:=⟨_,rfl⟩
    have hqc:q+c<=p:=by omega
    have hqc2:p<=q+c:=by omega
    have rq:IntKind.i64.wrap ((p:Int) - (c:Int))=(q:Int):=by rw[IntKind.wrap_i64];omega
    have HQ:Aside (q=p - c):=hq
    clear hq
    cases hlv:ltOf cf d[q]! d[c]! with
    | true =>
     have hh:Aside (Sees (ltOf cf) p lo i c hi d):=I.out.yes HT.out RE.out M.out (by omega) (by omega) (by rw[<- HQ.out];exact hlv)
     have ea63:((q:Int)).toNat=q:=by omega
     have ec63:((c:Int)).toNat=c:=by omega
     have pa63:(0:Int)<=(q:Int):=by omega
     have ba63:(q:Int) < (sz:Int):=by omega
     have ra63:IntKind.i64.wrap ((q:Int))=(q:Int):=by rw[IntKind.wrap_i64];omega
     have pc63:(0:Int)<=(c:Int):=by omega
     have bc63:(c:Int) < (sz:Int):=by omega
     have rc63:IntKind.i64.wrap ((c:Int))=(c:Int):=by rw[IntKind.wrap_i64];omega
     obtain⟨x63,hx63⟩:∃ x,x=d[q]!:=⟨_,rfl⟩
     obtain⟨y63,hy63⟩:∃ x,x=d[c]!:=⟨_,rfl⟩
     have l63a:=S1.out.ld R (by omega) P (q) (by omega)
     have l63b:=S1.out.ld R (by omega) P (c) (by omega)
     rw[<- hx63] at l63a
     rw[<- hy63] at l63b
     have hc63:=S1.out.cmp HC.out (by omega) x63 y63
     have hv63:cf x63 y63 < 0:=by rw[hx63,hy63];exact of_decide_eq_true hlv
     have hd63:decide (cf x63 y63 < 0)=true:=decide_eq_true hv63
     clear hx63 hy63 hlv
     go_wp2_with fail
     go_quiet_grown (first | (go_at_fn g;refine Calls.grown_of (hc63 _ _)))
     have S2:Aside (SWK enc k w0 blk off d (grow (wr.drewN nq) osq)):=S1.out.grown nq osq
     clear l63a l63b hc63
     generalize grow (wr.drewN nq) osq=w2 at S2 ⊢
     clear nq osq ea63 ec63
     go_wp2
     go_roundg (c - i)
     case measure=>omega
     case rel=>exact⟨i,c,rfl,rfl,by omega,by omega,hli,Nat.le_refl _,S2,hh⟩
    | false =>
     have hh:Aside (Sees (ltOf cf) p lo (c+1) j hi d):=I.out.no HT.out RE.out M.out (by omega) (by omega) (by rw[<- HQ.out];exact hlv)
     have ea63:((q:Int)).toNat=q:=by omega
     have ec63:((c:Int)).toNat=c:=by omega
     have pa63:(0:Int)<=(q:Int):=by omega
     have ba63:(q:Int) < (sz:Int):=by omega
     have ra63:IntKind.i64.wrap ((q:Int))=(q:Int):=by rw[IntKind.wrap_i64];omega
     have pc63:(0:Int)<=(c:Int):=by omega
     have bc63:(c:Int) < (sz:Int):=by omega
     have rc63:IntKind.i64.wrap ((c:Int))=(c:Int):=by rw[IntKind.wrap_i64];omega
     obtain⟨x63,hx63⟩:∃ x,x=d[q]!:=⟨_,rfl⟩
     obtain⟨y63,hy63⟩:∃ x,x=d[c]!:=⟨_,rfl⟩
     have l63a:=S1.out.ld R (by omega) P (q) (by omega)
     have l63b:=S1.out.ld R (by omega) P (c) (by omega)
     rw[<- hx63] at l63a
     rw[<- hy63] at l63b
     have hc63:=S1.out.cmp HC.out (by omega) x63 y63
     have hv63:¬ cf x63 y63 < 0:=by rw[hx63,hy63];exact of_decide_eq_false hlv
     have hd63:decide (cf x63 y63 < 0)=false:=decide_eq_false hv63
     clear hx63 hy63 hlv
     go_wp2_with fail
     go_quiet_grown (first | (go_at_fn g;refine Calls.grown_of (hc63 _ _)))
     have S2:Aside (SWK enc k w0 blk off d (grow (wr.drewN nq) osq)):=S1.out.grown nq osq
     clear l63a l63b hc63
     generalize grow (wr.drewN nq) osq=w2 at S2 ⊢
     clear nq osq ea63 ec63
     go_wp2
     go_roundg (j - (c+1))
     case measure=>omega
     case rel=>exact⟨c+1,j,by go_num,rfl,by omega,hjh,by omega,Nat.le_refl _,S2,hh⟩
   ·have hji:j=i:=by omega
    subst hji
    have hltz:¬ (j:Int) < (j:Int):=by omega
    obtain⟨PA,em,hjm⟩:=I.out.parts RE.out M.out
    have rE:IntKind.i64.wrap ((mid:Int)+(m:Int) - (j:Int))=((mid+m - j:Nat):Int):=by rw[IntKind.wrap_i64];omega
    obtain⟨e,he⟩:∃ e,e=mid+m - j:=⟨_,rfl⟩
    rw[<- he] at PA em rE
    have q1:=PA.as;have q2:=PA.sm;have q3:=PA.me;have q4:=PA.eb
    have he1:e+j<=mid+m:=by omega
    have he2:mid+m<=e+j:=by omega
    have PB:Aside (Parts T a m b j e d):=PA
    have EM:Aside (j+(e - m)=mid):=em
    clear PA em he I
    have AR:=Lib.hid (And.intro hN (And.intro ham (And.intro hmb (And.intro hb (And.intro hd0 (And.intro hd1 (And.intro hd2 (And.intro hd3 (And.intro h1c (And.intro h2c (And.intro mid1 (And.intro mid2 (And.intro hlh (And.intro him (And.intro him2 (And.intro hp1 (And.intro hp2 (And.intro hjh (And.intro hli (And.intro q1 (And.intro q2 (And.intro q3 (And.intro q4 (And.intro he1 (And.intro he2 (And.intro hjm hsz))))))))))))))))))))))))))
    clear hij hkx hlt hltz hN ham hmb hb hd0 hd1 hd2 hd3 h1c h2c mid1 mid2 hlh him him2 hp1 hp2 hjh hli q1 q2 q3 q4 he1 he2 hjm hsz
    obtain⟨bb,hbb⟩:∃ bb,bb=decide (j < m/\m < e):=⟨_,rfl⟩
    have HBB:Aside (bb=decide (j < m/\m < e)):=hbb
    clear hbb
    obtain⟨ww,hww⟩:∃ ww,ww=wr:=⟨_,rfl⟩
    rw[<- hww]
    have HWW:Aside (ww=wr):=hww
    clear hww
    go_upto_region 39 with (fail)
    go_cut [185] from 178 to 184 (fun sb wx=>sb = .bool bb/\ww=wx)
    case first =>
     by_cases k1:j < m
     ·have z1:(j:Int) < (m:Int):=by omega
      by_cases k2:m < e
      ·have z2:(m:Int) < (e:Int):=by omega
       have hbt:bb=true:=by rw[HBB.out];exact decide_eq_true ⟨k1,k2⟩
       have hbt2:=Lib.hid hbt
       clear hbt HBB
       go_wp2_with fail
       go_meet
       exact⟨by rw[hbt2.out],rfl⟩
      ·have z2:¬ (m:Int) < (e:Int):=by omega
       have hbt:bb=false:=by rw[HBB.out];exact decide_eq_false (fun h=>k2 h.2)
       have hbt2:=Lib.hid hbt
       clear hbt HBB k2
       go_wp2_with fail
       go_meet
       exact⟨by rw[hbt2.out],rfl⟩
     ·have z1:¬ (j:Int) < (m:Int):=by omega
      have hbt:bb=false:=by rw[HBB.out];exact decide_eq_false (fun h=>k1 h.1)
      have hbt2:=Lib.hid hbt
      clear hbt HBB k1
      go_wp2_with fail
      go_meet
      exact⟨by rw[hbt2.out],rfl⟩
    case rest =>
     obtain⟨rfl,rfl⟩:=hcut
     go_upto_if 185 with (fail)
     go_cut [] from 178 to 191 (fun wx=>∃ d1,d1.size=sz/\Aside (SWK enc k w0 blk off d1 wx)/\Aside (∀ x,d1[x]! = rotF d j m e x)/\Aside (PermIn a b d d1))
     case first =>
      by_cases hc:j < m/\m < e
      ·have hbt:bb=true:=by rw[HBB.out];exact decide_eq_true hc
       subst hbt
       have hC:=Lib.hid (HRO.out j m e d ww HS.out (by rw[HWW.out];exact S1.out) hc.1 hc.2 (by have AR:=AR.out;omega))
       go_wp2_with (first | (go_at_call 158;refine hC.out.mono ?_;rintro e9 w9 ⟨rfl,d',t1,t2,t3,t4⟩))
       go_meet
       exact⟨d',t1,t2,t3,permIn_mono d d' j e a b (by have AR:=AR.out;omega) (by have AR:=AR.out;omega) (by rw[HS.out];have AR:=AR.out;omega) t4⟩
      ·have hbt:bb=false:=by rw[HBB.out];exact decide_eq_false hc
       subst hbt
       go_wp2_with fail
       go_meet
       exact⟨d,HS.out,(show Aside _ by rw[HWW.out];exact S1),(rot_triv (by have AR:=AR.out;omega):_),(permIn_refl d a b:_)⟩
     case rest =>
      obtain⟨d1,hd1s,S2,X1,P1⟩:=hcut
      have F1:Aside (SM (ltOf cf) T a j mid d1):=by have:=PB.out.first M.out X1.out;rw[EM.out] at this;exact this
      have F2:Aside (SM (ltOf cf) T mid e b d1):=by have:=PB.out.second M.out X1.out;rw[EM.out] at this;exact this
      have F3:Aside (∀ x y,a<=x->x < mid->mid<=y->y < b->T d1[y]! d1[x]! = false):=by have:=PB.out.cross HT.out M.out X1.out;rw[EM.out] at this;exact this
      clear S1 HBB HWW bb ww
      obtain⟨bb,hbb⟩:∃ bb,bb=decide (a < j/\j < mid):=⟨_,rfl⟩
      have HBB:Aside (bb=decide (a < j/\j < mid)):=hbb
      clear hbb
      obtain⟨ww,hww⟩:∃ ww,ww=wc:=⟨_,rfl⟩
      rw[<- hww]
      have HWW:Aside (ww=wc):=hww
      clear hww
      go_upto_region 41 with (fail)
      go_cut [199] from 192 to 198 (fun sb wx=>sb = .bool bb/\ww=wx)
      case first =>
       by_cases k1:a < j
       ·have z1:(a:Int) < (j:Int):=by omega
        by_cases k2:j < mid
        ·have z2:(j:Int) < (mid:Int):=by omega
         have hbt:bb=true:=by rw[HBB.out];exact decide_eq_true ⟨k1,k2⟩
         have hbt2:=Lib.hid hbt
         clear hbt HBB
         go_wp2_with fail
         go_meet
         exact⟨by rw[hbt2.out],rfl⟩
        ·have z2:¬ (j:Int) < (mid:Int):=by omega
         have hbt:bb=false:=by rw[HBB.out];exact decide_eq_false (fun h=>k2 h.2)
         have hbt2:=Lib.hid hbt
         clear hbt HBB k2
         go_wp2_with fail
         go_meet
         exact⟨by rw[hbt2.out],rfl⟩
       ·have z1:¬ (a:Int) < (j:Int):=by omega
        have hbt:bb=false:=by rw[HBB.out];exact decide_eq_false (fun h=>k1 h.1)
        have hbt2:=Lib.hid hbt
        clear hbt HBB k1
        go_wp2_with fail
        go_meet
        exact⟨by rw[hbt2.out],rfl⟩
      case rest =>
       obtain⟨rfl,rfl⟩:=hcut
       go_upto_if 199 with (fail)
       go_cut [] from 192 to 205 (fun wx=>∃ d2,d2.size=sz/\Aside (SWK enc k w0 blk off d2 wx)/\Aside (PermIn a mid d1 d2)/\Aside (SortedIn T a mid d2))
       case first =>
        by_cases hc:a < j/\j < mid
        ·have hbt:bb=true:=by rw[HBB.out];exact decide_eq_true hc
         subst hbt
         have hC:=Lib.hid (IH.out a j mid d1 ww (by have AR:=AR.out;omega) hd1s (by rw[HWW.out];exact S2.out) hc.1 hc.2 (by have AR:=AR.out;omega) F1.out)
         go_wp2_with (first | (go_at_call 127;refine hC.out.mono ?_;rintro e9 w9 ⟨rfl,d',t1,t2,t3,t4⟩))
         go_meet
         exact⟨d',t1,t2,t3,t4⟩
        ·have hbt:bb=false:=by rw[HBB.out];exact decide_eq_false hc
         subst hbt
         go_wp2_with fail
         go_meet
         refine⟨d1,hd1s,(show Aside _ by rw[HWW.out];exact S2),(permIn_refl d1 a mid:_),?_⟩
         by_cases hj2:a < j
         ·exact (F1.out.all_left (by have AR:=AR.out;omega):_)
         ·exact (F1.out.all_right (by have AR:=AR.out;omega):_)
       case rest =>
        obtain⟨d2,hd2s,S3,P2,T2⟩:=hcut
        have F4:Aside (SM (ltOf cf) T mid e b d2):=F2.out.same (fun x h2 h3=>P2.out.2.1 x (.inr h2)) (by have AR:=AR.out;omega) (by have AR:=AR.out;omega)
        clear S2 HBB HWW bb ww
        obtain⟨bb,hbb⟩:∃ bb,bb=decide (mid < e/\e < b):=⟨_,rfl⟩
        have HBB:Aside (bb=decide (mid < e/\e < b)):=hbb
        clear hbb
        obtain⟨ww,hww⟩:∃ ww,ww=wc:=⟨_,rfl⟩
        rw[<- hww]
        have HWW:Aside (ww=wc):=hww
        clear hww
        go_upto_region 43 with (fail)
        go_cut [213] from 206 to 212 (fun sb wx=>sb = .bool bb/\ww=wx)
        case first =>
         by_cases k1:mid < e
         ·have z1:(mid:Int) < (e:Int):=by omega
          by_cases k2:e < b
          ·have z2:(e:Int) < (b:Int):=by omega
           have hbt:bb=true:=by rw[HBB.out];exact decide_eq_true ⟨k1,k2⟩
           have hbt2:=Lib.hid hbt
           clear hbt HBB
           go_wp2_with fail
           go_meet
           exact⟨by rw[hbt2.out],rfl⟩
          ·have z2:¬ (e:Int) < (b:Int):=by omega
           have hbt:bb=false:=by rw[HBB.out];exact decide_eq_false (fun h=>k2 h.2)
           have hbt2:=Lib.hid hbt
           clear hbt HBB k2
           go_wp2_with fail
           go_meet
           exact⟨by rw[hbt2.out],rfl⟩
         ·have z1:¬ (mid:Int) < (e:Int):=by omega
          have hbt:bb=false:=by rw[HBB.out];exact decide_eq_false (fun h=>k1 h.1)
          have hbt2:=Lib.hid hbt
          clear hbt HBB k1
          go_wp2_with fail
          go_meet
          exact⟨by rw[hbt2.out],rfl⟩
        case rest =>
         obtain⟨rfl,rfl⟩:=hcut
         by_cases hc:mid < e/\e < b
         ·have hbt:bb=true:=by rw[HBB.out];exact decide_eq_true hc
          subst hbt
          have hC:=Lib.hid (IH.out mid e b d2 ww (by have AR:=AR.out;omega) hd2s (by rw[HWW.out];exact S3.out) hc.1 hc.2 (by have AR:=AR.out;omega) F4.out)
          go_wp2_with (first | (go_at_call 127;refine hC.out.mono ?_;rintro e9 w9 ⟨rfl,d',t1,t2,t3,t4⟩))
          go_end0
          have J:=sm_join (by have AR:=AR.out;omega) (by have AR:=AR.out;omega) (by rw[hd1s];have AR:=AR.out;omega) F3.out P2.out T2.out t3 t4
          exact⟨rfl,d',t1,t2,permIn_trans _ _ _ _ _ P1.out J.1,J.2⟩
         ·have hbt:bb=false:=by rw[HBB.out];exact decide_eq_false hc
          subst hbt
          go_wp2_with fail
          have T3:SortedIn T mid b d2:=by
           by_cases hj2:mid < e
           ·exact F4.out.all_left (by have AR:=AR.out;omega)
           ·exact F4.out.all_right (by have AR:=AR.out;omega)
          go_end0
          have J:=sm_join (by have AR:=AR.out;omega) (by have AR:=AR.out;omega) (by rw[hd1s];have AR:=AR.out;omega) F3.out P2.out T2.out (permIn_refl d2 mid b) T3
          exact⟨rfl,d2,hd2s,(by rw[HWW.out];exact S3.out),permIn_trans _ _ _ _ _ P1.out J.1,J.2⟩
end
end Go.Proofs.YtgplnekpgdhcpaaGreat
