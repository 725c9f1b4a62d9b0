/- slices.SortStableFunc at api.Line: slices.symMergeCmpFunc. (Printed by gen/sorts.py.) slices.SortStableFunc at api.Line: its contract. (Printed by gen/sorts.py.) slices.DeleteFunc at lines, by rank.Open$1: its walk. (Printed by gen/delk.py.) rank.Compare, rank.Open: walks. -/
import Derived.Test.YtgplnekpgdhcpaaGreatQSmMB
import Derived.Test.YtgplnekpgdhcpaaGreatQSmMC
import Derived.Test.YtgplnekpgdhcpaaGreatJShelf
import Derived.Test.YtgplnekpgdhcpaaGreatQWantsN
import Derived.Test.YtgplnekpgdhcpaaGreatKRight
import Derived.Test.YtgplnekpgdhcpaaGreatQLine
import Derived.Test.YtgplnekpgdhcpaaGreatQPick
import Derived.Test.YtgplnekpgdhcpaaGreatQLineOk
namespace Go.Proofs.YtgplnekpgdhcpaaGreat
open Go.Proofs Go.Shelf Go.RowKit Go.Lib Go.Sort
section
variable {P:Program} {α:Type} [Inhabited α]
theorem symMergeM (k:Nat) (L:StM P k) (enc:α->List Value) (cf:α->α->Int) (T:α->α->Bool) (hT:SWO T) (g:Nat) (cb:Array Value) (blk off cap sz:Nat) (d0:Array α) (w0:World)
  (eg:∀ args w,(callFunc g args).run P w = .ok (.enter g args) w) (hcmp:CmpLays P g cb enc k cf blk off d0.size w0) (R:RowK enc k w0 blk off d0) (h0:d0.size=sz) (hsz:sz < 4611686018427387904) :
  ∀ (N a m b:Nat) (d:Array α) (w:World),b<=N+a->d.size=sz->SWK enc k w0 blk off d w->a < m->m < b->b<=sz->SM (ltOf cf) T a m b d ->
  Calls P 127 #[.slice (some ⟨blk,off,none⟩) sz cap,.int .i64 a,.int .i64 m,.int .i64 b,.func (.func g) #[] cb] w fun e w'=>e = .returned (.tuple #[])/\∃ d',d'.size=sz/\SWK enc k w0 blk off d' w'/\PermIn a b d d'/\SortedIn T a b d'
 | 0,a,m,b,d,w,hN,hs,S,ham,hmb,hb,hSM=>by omega
 | N+1,a,m,b,d,w,hN,hs,S,ham,hmb,hb,hSM=>by
  by_cases h1:m=a+1
  ·exact symMergeMA k L enc cf T hT g cb blk off cap sz d0 w0 eg hcmp R h0 hsz a m b d w hs S ham hmb hb hSM h1
  ·by_cases h2:b=m+1
   ·exact symMergeMB k L enc cf T hT g cb blk off cap sz d0 w0 eg hcmp R h0 hsz a m b d w hs S ham hmb hb hSM (by omega) h2
   ·exact symMergeMC k L enc cf T hT g cb blk off cap sz d0 w0 eg hcmp R h0 hsz a m b d w hs S ham hmb hb hSM (by omega) (by omega) N hN (symMergeM k L enc cf T hT g cb blk off cap sz d0 w0 eg hcmp R h0 hsz N)
end
end Go.Proofs.YtgplnekpgdhcpaaGreat
namespace Go.Proofs.YtgplnekpgdhcpaaGreat
open Go.Proofs Go.Shelf Go.RowKit Go.Lib Go.Sort
theorem stM_laid:StM Tryz.prog 8 where
 mixed:=by kernel_rfl
 late:=by kernel_rfl
 unsure:=by kernel_rfl
 fSwap:=Tryz.func181
 fRot:=Tryz.func158
 fSym:=Tryz.func127
 t0:=Tryz.underlying0
 a0:=Tryz.isAgg0
 z0:=Tryz.sizeOf0
 v0:=Tryz.zeroValue0
 t3:=Tryz.underlying3
 a3:=Tryz.isAgg3
 z3:=Tryz.sizeOf3
 v3:=Tryz.zeroValue3
 t4:=Tryz.underlying4
 a4:=Tryz.isAgg4
 z4:=Tryz.sizeOf4
 v4:=Tryz.zeroValue4
 t22:=Tryz.underlying24
 a22:=Tryz.isAgg24
 z22:=Tryz.sizeOf24
 v22:=Tryz.zeroValue24
 a25:=Tryz.isAgg91
 z25:=Tryz.sizeOf91
 v25:=Tryz.zeroValue91
 t35:=Tryz.underlying148
 a35:=Tryz.isAgg148
 z35:=Tryz.sizeOf148
 v35:=Tryz.zeroValue148
 aE:=Tryz.isAgg29
 zE:=Tryz.sizeOf29
section
variable {α:Type} [Inhabited α]
theorem insM_w (enc:α->List Value) (cf:α->α->Int) (T:α->α->Bool) (hT:SWO T) (g:Nat) (cb:Array Value) (blk off cap sz:Nat) (d0:Array α) (w0:World)
  (eg:∀ args w,(callFunc g args).run Tryz.prog w = .ok (.enter g args) w) (hcmp:CmpLays Tryz.prog g cb enc 8 cf blk off d0.size w0) (R:RowK enc 8 w0 blk off d0) (h0:d0.size=sz) (hsz:sz < 4611686018427387904)
  (a b:Nat) (d:Array α) (w:World) (hs:d.size=sz) (S:SWK enc 8 w0 blk off d w) (hab:a<=b) (hb:b<=sz) (hc:Compat (ltOf cf) T a b d) :
  Calls Tryz.prog 126 #[.slice (some ⟨blk,off,none⟩) sz cap,.int .i64 a,.int .i64 b,.func (.func g) #[] cb] w fun e w'=>e = .returned (.tuple #[])/\∃ d',d'.size=sz/\SWK enc 8 w0 blk off d' w'/\PermIn a b d d'/\SortedIn T a b d':=by
 have hs':(Sort.insertionSort (ltOf cf) d a b).size=d.size:=(ins_block hT hab (by rw[hs];exact hb) hc).1.1
 have hC:CmpLays Tryz.prog g cb enc 8 cf blk off d.size w:=fun m os dk hdk x y=>by
  obtain⟨n0,os0,rfl⟩:=S
  rw[sortWorldK_on enc 8 w0 blk off n0 m d dk os0 os R.hblk hdk]
  exact hcmp _ _ dk (by omega) x y
 have HH:=AnyQ.insertionSortCmpFunc Tryz.insM 8 Tryz.isAgg29 Tryz.sizeOf29 enc R.hk R.h1 cf g cb blk off cap a b d w eg hC (S.holds R.hblk R.hH (by omega)) (S.lt R.hblk) hab (by omega) (by omega)
 rw[hs] at HH
 refine HH.mono ?_
 rintro e w' ⟨rfl,n,os,rfl⟩
 have hB:=ins_block hT hab (by rw[hs];exact hb) hc
 exact⟨rfl,_,hs'.trans hs,S.on R.hblk n _ os hs',hB.1,hB.2⟩
set_option maxHeartbeats 4000000 in
set_option maxRecDepth 1000000 in
theorem stableM (enc:α->List Value) (cf:α->α->Int) (T:α->α->Bool) (hT:SWO T) (g:Nat) (cb:Array Value) (blk off cap sz:Nat) (d0:Array α) (w0:World)
  (eg:∀ args w,(callFunc g args).run Tryz.prog w = .ok (.enter g args) w) (hcmp:CmpLays Tryz.prog g cb enc 8 cf blk off d0.size w0) (R:RowK enc 8 w0 blk off d0) (h0:d0.size=sz) (hsz:sz < 1152921504606846976) (S:SWK enc 8 w0 blk off d0 w0) (hc:Compat (ltOf cf) T 0 d0.size d0) :
  Calls Tryz.prog 91 #[.slice (some ⟨blk,off,none⟩) sz cap,.int .i64 sz,.func (.func g) #[] cb] w0 fun e w'=>e = .returned (.tuple #[])/\∃ d',d'.size=sz/\SWK enc 8 w0 blk off d' w'/\PermIn 0 sz d0 d'/\SortedIn T 0 sz d':=by
 have HI:Hid (∀ (a b:Nat) (d:Array α) (w:World),d.size=sz->SWK enc 8 w0 blk off d w->a<=b->b<=sz->Compat (ltOf cf) T a b d->Calls Tryz.prog 126 #[.slice (some ⟨blk,off,none⟩) sz cap,.int .i64 a,.int .i64 b,.func (.func g) #[] cb] w fun e w'=>e = .returned (.tuple #[])/\∃ d',d'.size=sz/\SWK enc 8 w0 blk off d' w'/\PermIn a b d d'/\SortedIn T a b d'):=Lib.hid (insM_w enc cf T hT g cb blk off cap sz d0 w0 eg hcmp R h0 (by omega))
 have HM:Hid (∀ (a m b:Nat) (d:Array α) (w:World),d.size=sz->SWK enc 8 w0 blk off d w->a < m->m < b->b<=sz->SM (ltOf cf) T a m b d->Calls Tryz.prog 127 #[.slice (some ⟨blk,off,none⟩) sz cap,.int .i64 a,.int .i64 m,.int .i64 b,.func (.func g) #[] cb] w fun e w'=>e = .returned (.tuple #[])/\∃ d',d'.size=sz/\SWK enc 8 w0 blk off d' w'/\PermIn a b d d'/\SortedIn T a b d'):=Lib.hid fun a m b d w=>symMergeM 8 stM_laid enc cf T hT g cb blk off cap sz d0 w0 eg hcmp R h0 (by omega) b a m b d w (by omega)
 have HC:Hid (Compat (ltOf cf) T 0 d0.size d0):=Lib.hid hc
 have S0:Hid (SWK enc 8 w0 blk off d0 w0):=Lib.hid S
 have H0:Hid (d0.size=sz):=Lib.hid h0
 clear hcmp R hc S h0 hT eg
 go_enter Tryz.func91,Tryz.ntmps91
 go_wp2_with (fail)
 go_loopg [7,8] sz (fun kx s7 s8 wr=>∃ (p A:Nat) (dk:Array α),s7 = .int .i64 A/\s8 = .int .i64 ((A:Int)+20)/\A<=sz/\sz - A<=kx/\Hid (SWK enc 8 w0 blk off dk wr)/\Hid (A=p * 20)/\Hid (First T d0 dk 20 p))
 case atStart=>exact⟨0,0,d0,rfl,by go_num,Nat.zero_le _,by omega,S0,Lib.hid (by omega),Lib.hid (First.start T d0 20)⟩
 case round =>
  clear S0
  obtain⟨p,A,dk,rfl,rfl,hA,hkx,S1,HA,F1⟩:=hrel
  by_cases hlt:A+20<=sz
  ·have hC:=Lib.hid (HI.out A (A+20) dk wr (F1.out.size.trans H0.out) S1.out (by omega) hlt (F1.out.compat HC.out (by rw[HA.out];exact Nat.le_refl _) (by rw[H0.out];exact hlt)))
   go_wp2_with (first | (go_at_call 126;refine hC.out.mono ?_;rintro e9 w9 ⟨rfl,d',t1,t2,t3,t4⟩;have Q:=Lib.hid (And.intro t1 (And.intro t2 (And.intro t3 t4)));clear t1 t2 t3 t4))
   go_roundg (sz - (A+20))
   case measure=>omega
   case rel=>exact⟨p+1,A+20,d',by go_num,by go_num,hlt,Nat.le_refl _,Lib.hid Q.out.2.1,Lib.hid (by have:=HA.out;omega),Lib.hid (F1.out.step (by rw[<- HA.out,H0.out];exact hlt) (by rw[<- HA.out];exact Q.out.2.2.1) (by rw[<- HA.out];exact Q.out.2.2.2))⟩
  ·have hC:=Lib.hid (HI.out A sz dk wr (F1.out.size.trans H0.out) S1.out hA (Nat.le_refl _) (F1.out.compat HC.out (by rw[HA.out];exact Nat.le_refl _) (by rw[H0.out];exact Nat.le_refl _)))
   go_wp2_with (first | (go_at_call 126;refine hC.out.mono ?_;rintro e9 w9 ⟨rfl,d',t1,t2,t3,t4⟩;have Q:=Lib.hid (And.intro t1 (And.intro t2 (And.intro t3 t4)));clear t1 t2 t3 t4))
   have AL:Hid (All T d0 d' 20):=Lib.hid (F1.out.all (by rw[<- HA.out,H0.out];exact hA) (by rw[<- HA.out,H0.out];omega) (by rw[<- HA.out,H0.out];exact Q.out.2.2.1) (by rw[<- HA.out,H0.out];exact Q.out.2.2.2))
   have S2:Hid (SWK enc 8 w0 blk off d' w9):=Lib.hid Q.out.2.1
   clear Q hC F1 HA S1 hlt hkx hA
   go_loopg [6] (2 * sz+20) (fun kx s6 wr=>∃ (bs:Nat) (dk:Array α),s6 = .int .i64 bs/\0 < bs/\bs<=2 * sz+20/\2 * sz+20 - bs<=kx/\Hid (SWK enc 8 w0 blk off dk wr)/\Hid (All T d0 dk bs))
   case atStart=>exact⟨20,d',rfl,by omega,by omega,by omega,S2,AL⟩
   case round =>
    clear S2 AL
    obtain⟨bs,dk,rfl,hb0,hbs,hkx,S3,A3⟩:=hrel
    by_cases hlt:bs < sz
    ·have rw2:IntKind.i64.wrap (2 * (bs:Int))=((2 * bs:Nat):Int):=by rw[IntKind.wrap_i64];omega
     go_wp2_with (fail)
     go_loopg [7,8] sz (fun kx s7 s8 wr=>∃ (p A:Nat) (dk:Array α),s7 = .int .i64 A/\s8 = .int .i64 ((A+2 * bs:Nat):Int)/\A<=sz/\sz - A<=kx/\Hid (SWK enc 8 w0 blk off dk wr)/\Hid (A=p * (2 * bs))/\Hid (Pairs T d0 dk bs p))
     case atStart=>exact⟨0,0,dk,rfl,by go_num,Nat.zero_le _,by omega,S3,Lib.hid (by omega),Lib.hid A3.out.pairs⟩
     case round =>
      clear S3 A3
      obtain⟨p,A,dk,rfl,rfl,hA,hkx2,S1,HA,F1⟩:=hrel
      have rA:IntKind.i64.wrap ((A:Int)+(bs:Int))=((A+bs:Nat):Int):=by rw[IntKind.wrap_i64];omega
      by_cases hle:A+2 * bs<=sz
      ·have hsm:Hid (SM (ltOf cf) T A (A+bs) (A+2 * bs) dk):=Lib.hid (by
        have g1:=F1.out.first hb0 (by rw[<- HA.out,H0.out];omega)
        have g2:=F1.out.last hb0 (by rw[<- HA.out,H0.out];omega)
        rw[<- HA.out] at g1 g2
        rw[H0.out,show min (A+2 * bs) sz=A+2 * bs by omega] at g2
        exact g1.sm g2 (fun i j h1 h2 h3=>HC.out i j (Nat.zero_le _) h2 (by rw[H0.out];omega)) (by rw[F1.out.size,H0.out];exact hle) (by rw[H0.out];exact hle))
       have hC:=Lib.hid (HM.out A (A+bs) (A+2 * bs) dk wr (F1.out.size.trans H0.out) S1.out (by omega) (by omega) hle hsm.out)
       obtain⟨ab,hab⟩:∃ ab,ab=A+bs:=⟨_,rfl⟩
       obtain⟨a2,ha2⟩:∃ a2,a2=A+2 * bs:=⟨_,rfl⟩
       obtain⟨b2,hb2⟩:∃ b2,b2=2 * bs:=⟨_,rfl⟩
       obtain⟨a4,ha4⟩:∃ a4,a4=a2+b2:=⟨_,rfl⟩
       clear rA rw2
       have rA:IntKind.i64.wrap ((A:Int)+(bs:Int))=(ab:Int):=by rw[IntKind.wrap_i64];omega
       have rw2:IntKind.i64.wrap (2 * (bs:Int))=(b2:Int):=by rw[IntKind.wrap_i64];omega
       have rB:IntKind.i64.wrap ((a2:Int)+(b2:Int))=(a4:Int):=by rw[IntKind.wrap_i64];omega
       have hlez:(a2:Int)<=(sz:Int):=by omega
       rw[<- ha2,<- hab] at hC
       rw[<- ha2]
       have HAB:=Lib.hid hab
       have HA2:=Lib.hid ha2
       have HA4:=Lib.hid ha4
       have HB2:=Lib.hid hb2
       clear hab ha2 ha4 hb2
       go_wp2_with (first | (go_at_call 127;refine hC.out.mono ?_;rintro e9 w9 ⟨rfl,d',t1,t2,t3,t4⟩;have Q:=Lib.hid (And.intro t1 (And.intro t2 (And.intro t3 t4)));clear t1 t2 t3 t4))
       go_roundg (sz - a2)
       case measure=>have:=HA2.out;omega
       case rel=>exact⟨p+1,a2,d',by go_num,by rw[HA4.out,HB2.out],by have:=HA2.out;omega,Nat.le_refl _,Lib.hid Q.out.2.1,Lib.hid (by rw[HA2.out,HA.out,Nat.add_mul,Nat.one_mul]),Lib.hid (F1.out.step hb0 (by rw[<- HA.out,H0.out];exact hle) (by rw[<- HA.out,<- HA2.out];exact Q.out.2.2.1) (by rw[<- HA.out,<- HA2.out];exact Q.out.2.2.2))⟩
      ·have hlez:¬ ((A+2 * bs:Nat):Int)<=(sz:Int):=by omega
       obtain⟨a2,ha2⟩:∃ a2,a2=A+2 * bs:=⟨_,rfl⟩
       rw[<- ha2] at hlez ⊢
       have HA2:=Lib.hid ha2
       clear ha2
       have rC:IntKind.i64.wrap ((bs:Int) * 2)=((2 * bs:Nat):Int):=by rw[IntKind.wrap_i64];omega
       by_cases hm:A+bs < sz
       ·have hsm:Hid (SM (ltOf cf) T A (A+bs) sz dk):=Lib.hid (by
         have g1:=F1.out.first hb0 (by rw[<- HA.out,H0.out];omega)
         have g2:=F1.out.last hb0 (by rw[<- HA.out,H0.out];omega)
         rw[<- HA.out] at g1 g2
         rw[H0.out,show min (A+2 * bs) sz=sz by omega] at g2
         exact g1.sm g2 (fun i j h1 h2 h3=>HC.out i j (Nat.zero_le _) h2 (by rw[H0.out];omega)) (by rw[F1.out.size,H0.out];exact Nat.le_refl _) (by rw[H0.out];exact Nat.le_refl _))
        have hC:=Lib.hid (HM.out A (A+bs) sz dk wr (F1.out.size.trans H0.out) S1.out (by omega) hm (Nat.le_refl _) hsm.out)
        have hmz:((A+bs:Nat):Int) < (sz:Int):=by omega
        obtain⟨ab,hab⟩:∃ ab,ab=A+bs:=⟨_,rfl⟩
        rw[<- hab] at hC rA hmz
        clear hab
        go_wp2_with (first | (go_at_call 127;refine hC.out.mono ?_;rintro e9 w9 ⟨rfl,d',t1,t2,t3,t4⟩;have Q:=Lib.hid (And.intro t1 (And.intro t2 (And.intro t3 t4)));clear t1 t2 t3 t4))
        go_roundg (2 * sz+20 - 2 * bs)
        case measure=>omega
        case rel=>exact⟨2 * bs,d',rfl,by omega,by omega,Nat.le_refl _,Lib.hid Q.out.2.1,Lib.hid (F1.out.end2 hb0 (by rw[<- HA.out,H0.out];exact hm) (by rw[<- HA.out,H0.out];omega) (by rw[<- HA.out,H0.out];exact Q.out.2.2.1) (by rw[<- HA.out,H0.out];exact Q.out.2.2.2))⟩
       ·have hmz:¬ ((A+bs:Nat):Int) < (sz:Int):=by omega
        obtain⟨ab,hab⟩:∃ ab,ab=A+bs:=⟨_,rfl⟩
        rw[<- hab] at rA hmz
        clear hab
        go_wp2_with (fail)
        go_roundg (2 * sz+20 - 2 * bs)
        case measure=>omega
        case rel=>exact⟨2 * bs,dk,rfl,by omega,by omega,Nat.le_refl _,S1,Lib.hid (F1.out.end1 hb0 (by rw[<- HA.out,H0.out];exact hA) (by rw[<- HA.out,H0.out];omega))⟩
    ·go_wp2_with (fail)
     go_end0
     have E:=A3.out.end_ (by rw[H0.out];omega)
     rw[H0.out] at E
     exact⟨rfl,dk,A3.out.size.trans H0.out,S3.out,E.1,E.2⟩
theorem sortStableM (enc:α->List Value) (cf:α->α->Int) (T:α->α->Bool) (hT:SWO T) (g:Nat) (cb:Array Value) (blk off cap sz:Nat) (d0:Array α) (w0:World)
  (eg:∀ args w,(callFunc g args).run Tryz.prog w = .ok (.enter g args) w) (hcmp:CmpLays Tryz.prog g cb enc 8 cf blk off d0.size w0) (R:RowK enc 8 w0 blk off d0) (h0:d0.size=sz) (hsz:sz < 1152921504606846976) (S:SWK enc 8 w0 blk off d0 w0) (hc:Compat (ltOf cf) T 0 d0.size d0) :
  Calls Tryz.prog 58 #[.slice (some ⟨blk,off,none⟩) sz cap,.func (.func g) #[] cb] w0 fun e w'=>e = .returned (.tuple #[])/\∃ d',d'.size=sz/\SWK enc 8 w0 blk off d' w'/\PermIn 0 sz d0 d'/\SortedIn T 0 sz d':=by
 have HS:=Lib.hid (stableM enc cf T hT g cb blk off cap sz d0 w0 eg hcmp R h0 hsz S hc)
 clear hcmp R hc S h0 hT eg
 go_enter Tryz.func58,Tryz.ntmps58
 go_wp2_with (first | (go_at_call 91;refine HS.out.mono ?_;rintro e9 w9 ⟨rfl,t1⟩))
 go_end0
 exact⟨rfl,t1⟩
end
end Go.Proofs.YtgplnekpgdhcpaaGreat
namespace Go.Proofs.YtgplnekpgdhcpaaGreat
open Go.RowKit Go.Sort Go.Lib Go.Shelf
def keepR:LineV->Bool:=fun x=>decide (x.st=1)
theorem del1R (x:LineV) (w:World):Calls Tryz.prog 57 #[x.val] w fun e w'=>e = .returned (.bool (!(keepR) x))/\∃ o,w'=w.alloc o:=by
 obtain⟨xid,xitem,xqty,xasked,xrank,xst,xday,xcode⟩:=x
 unfold LineV.val encStr
 simp only
 go_enter Tryz.func57,Tryz.ntmps57
 go_wp2_with (fail)
 go_ret
 exact⟨by unfold keepR;first | rfl | (simp[*];done),_,rfl⟩
set_option maxHeartbeats 4000000 in
set_option maxRecDepth 100000 in
theorem delR_some (base:Nat) (g n c:Nat) (X:List LineV) (w:World) (h:lineE.Own base w (.slice (some ⟨g,0,none⟩) n c) X) (hf:∀ x∈X,okLine x) (hn:n<=100000000) (j0:Nat) (hj0:idxI (fun x:LineV=>!(keepR) x) X=j0) (hj1:j0 < n) :
  Calls Tryz.prog 35 #[.slice (some ⟨g,0,none⟩) n c,.func (.func 57) #[] #[]] w fun e w'=>∃ m,e = .returned (.slice (some ⟨g,0,none⟩) m c)/\lineE.Own base w' (.slice (some ⟨g,0,none⟩) n c) (X.filter (keepR) ++ List.replicate (n - (X.filter (keepR)).length) default)/\m=(X.filter (keepR)).length/\OnlyB g w w':=by
 have hx:=(h.cell).1
 obtain⟨-,hle,hmx,-,-,-⟩:=h.cell
 have hlt:=(h.ge g rfl).2
 have hsz:Hid (X.toArray.size=n):=Lib.hid (by simp[hx])
 have HPK:Hid (∀ V,Below w.heap.size w V->lineE.Own base V (.slice (some ⟨g,0,none⟩) n c) X/\RowK encLine 8 V g 0 X.toArray/\OnlyB g w V):=Lib.hid fun V hb=>⟨h.below hb,⟨lineE.len,lineE.one,own_holds (h.below hb),Nat.lt_of_lt_of_le hlt hb.size⟩,⟨hb.os,hb.tape,hb.output,hb.size,fun b _ hbl=>hb.block b hbl⟩⟩
 have HI:Hid (Calls Tryz.prog 61 #[.slice (some ⟨g,0,none⟩) n c,.func (.func 57) #[] #[]] w fun e w'=>e = .returned (.int .i64 j0)/\Below w.heap.size w w'):=Lib.hid (by
  obtain⟨a',c',e',hin⟩:=h.in_ hf
  injection e' with e1 e2 e3
  subst e1;subst e3
  rw[<- hx] at hin
  have:=indexLine_any ixLine_laid (fun x:LineV=>!(keepR) x) 57 #[] (enters_of Tryz.func57 (by kernel_rfl) rfl) w.heap.size _ n c X w hin (Nat.le_refl _) (fun V x hb1 _=>by
   have:=del1R x V
   simp only[LineV.val] at this
   refine Calls.mono (by simpa using this) ?_
   rintro e w' ⟨rfl,o,rfl⟩
   exact⟨rfl,below_allocL _ _⟩)
  rwa [hj0] at this)
 have HS0:=Lib.hid (idxK_start (p:=(keepR)) hj0)
 have HX:=Lib.hid hx
 clear hx hj0 h hf
 go_enter Tryz.func35,Tryz.ntmps35
 go_wp2_with (go_at_call 61;refine HI.out.mono ?_;rintro e w9 ⟨rfl,hb9⟩;have P9:=Lib.hid (HPK.out w9 hb9);clear hb9)
 have HS9:Hid (SWK encLine 8 w9 g 0 X.toArray w9):=Lib.hid (SWK.start P9.out.2.1.hH)
 have HO:=Lib.hid P9.out.1
 have R:=Lib.hid P9.out.2.1
 have HW9:=Lib.hid P9.out.2.2
 go_loopw [5,6,7] (fun s5 s6 _ wr=>∃ (i j:Nat) (dk:Array LineV),s5 = .int .i64 i/\s6 = .int .i64 j/\j<=n/\Hid (SWK encLine 8 w9 g 0 dk wr)/\Hid (KeptInv (fun j=>(keepR) (X.toArray[j]!)) X.toArray j i dk)) (fun _ s6 _ _=>n - (intOf s6).toNat)
 case atStart=>exact⟨j0,j0+1,X.toArray,rfl,by go_num,by omega,HS9,HS0⟩
 case round =>
  clear HS9 HS0
  obtain⟨i,j,dk,rfl,rfl,hj,S,I⟩:=hrel
  have hij:=I.out.lt
  have hds:Hid (dk.size=n):=Lib.hid (I.out.size.trans hsz.out)
  have Ow:Hid (lineE.Own base wr (.slice (some ⟨g,0,none⟩) n c) dk.toList/\OnlyB g w9 wr):=Lib.hid (own_sorted HO.out S.out (by rw[hds.out,HX.out]))
  by_cases hlt2:j < n
  ·obtain⟨g0,g1,g2,g3,g4,g5,g6,g7⟩:=line_own_cells Ow.out.1 hlt2
   have ex:dk.toList.getD j default=X.toArray[j]!:=by
    rw[<- I.out.high j (by omega),getElem!_pos dk j (by have:=hds.out;omega),List.getD_eq_getElem?_getD,List.getElem?_eq_getElem (by rw[Array.length_toList,hds.out];exact hlt2)]
    rfl
   rw[ex] at g0 g1 g2 g3 g4 g5 g6 g7
   have HK:=Lib.hid (fun (ha:(keepR) (X.toArray[j]!)=true)=>I.out.keep (by rw[hsz.out];exact hlt2) ha)
   have HN:=Lib.hid (fun (ha:(keepR) (X.toArray[j]!)=false)=>I.out.skip ha)
   clear ex
   generalize X.toArray[j]! = x at g0 g1 g2 g3 g4 g5 g6 g7 HK HN
   obtain⟨bk,hbk⟩:∃ b,b=(keepR) x:=⟨_,rfl⟩
   have HD0:Hid (∀ V:World,Calls Tryz.prog 57 #[x.val] V fun e w'=>e = .returned (.bool (!bk))/\∃ o,w'=V.alloc o):=Lib.hid fun V=>by rw[hbk];exact del1R x V
   rw[<- hbk] at HK HN
   clear hbk
   obtain⟨xid,xitem,xqty,xasked,xrank,xst,xday,xcode⟩:=x
   simp only at g0 g1 g2 g3 g4 g5 g6 g7
   unfold encStr at g1 g7
   unfold LineV.val encStr at HD0
   simp only at HD0
   obtain⟨W1,hW1⟩:∃ V,V=wr.alloc (.cells #[.int .i64 xid,.string ⟨xitem.toArray⟩,.int .i64 xqty,.int .i64 xasked,.int .i64 xrank,.int .u8 xst,.int .i64 xday,.string ⟨xcode.toArray⟩] 29):=⟨_,rfl⟩
   obtain⟨p,hp⟩:∃ p,p=wr.heap.size:=⟨_,rfl⟩
   have hp1:W1.heap[p]? = some (lineObj xid xitem xqty xasked xrank xst xday xcode):=by rw[hW1,hp];exact heap_alloc_new _ _
   have S1:Hid (SWK encLine 8 w9 g 0 dk W1):=Lib.hid (by rw[hW1];exact S.out.alloc _)
   obtain⟨y0,y1,y2,y3,y4,y5,y6,y7⟩:=lineObj_cells hp1
   have HP1:=Lib.hid hp1
   have HW1:=Lib.hid hW1
   have hs1:p < W1.heap.size:=(Array.getElem?_eq_some_iff.1 hp1).1
   have HD1:=Lib.hid (HD0.out W1)
   clear hW1 hp1
   cases bk with
   | false =>
    have HN1:=Lib.hid (HN.out rfl)
    go_upto_region 8 with (fail)
    rw[<- HW1.out,<- hp]
    clear hp
    go_wp2_with (go_at_call 57;refine HD1.out.mono ?_;rintro e w8 ⟨rfl,o8,rfl⟩;have S8:=Lib.hid (S1.out.alloc o8);have y8:=fun k=>(below_allocL W1 o8).cell (p:=⟨p,k,none⟩) hs1;have z0:=(y8 0).trans y0;have z1:=(y8 1).trans y1;have z2:=(y8 2).trans y2;have z3:=(y8 3).trans y3;have z4:=(y8 4).trans y4;have z5:=(y8 5).trans y5;have z6:=(y8 6).trans y6;have z7:=(y8 7).trans y7;clear y8 y0 y1 y2 y3 y4 y5 y6 y7)
    go_roundw
    case rel =>
     first | exact⟨i,j+1,dk,rfl,by go_num,by omega,S8,HN1⟩ | (refine⟨_,_,_,_,_,_,_,_,_,_,_,_,_,_,_,_,_,_,_,_,_,_,_,?_,rfl⟩;exact⟨i,j+1,dk,rfl,by go_num,by omega,S8,HN1⟩)
    case measure=>simp[intOf];omega
   | true =>
    have HK1:=Lib.hid (HK.out rfl)
    go_upto_region 8 with (fail)
    rw[<- HW1.out,<- hp]
    clear hp
    go_upto_region 9 with (go_at_call 57;refine HD1.out.mono ?_;rintro e w8 ⟨rfl,o8,rfl⟩;have S8:=Lib.hid (S1.out.alloc o8);have y8:=fun k=>(below_allocL W1 o8).cell (p:=⟨p,k,none⟩) hs1;have z0:=(y8 0).trans y0;have z1:=(y8 1).trans y1;have z2:=(y8 2).trans y2;have z3:=(y8 3).trans y3;have z4:=(y8 4).trans y4;have z5:=(y8 5).trans y5;have z6:=(y8 6).trans y6;have z7:=(y8 7).trans y7;clear y8 y0 y1 y2 y3 y4 y5 y6 y7)
    have S9:=Lib.hid (SWK_set lineE.len R.out.hblk S8.out i (by have:=hds.out;omega) (⟨xid,xitem,xqty,xasked,xrank,xst,xday,xcode⟩:LineV))
    have hc:∀ k,k < 8->(W1.alloc o8).cell? ⟨g,i * 8+k,none⟩=some (encLine dk[i]!)[k]!/\(W1.alloc o8).frozen? ⟨g,i * 8+k,none⟩=false:=fun k hk=>by
     have:=HoldsK.cell (S8.out.holds R.out.hblk R.out.hH (by rw[hds.out,hsz.out])) (i:=i) (c:=k) (by have:=hds.out;omega) hk
     rwa [Nat.zero_add] at this
    obtain⟨c0,f0⟩:=hc 0 (by decide)
    obtain⟨c1,f1⟩:=hc 1 (by decide)
    obtain⟨c2,f2⟩:=hc 2 (by decide)
    obtain⟨c3,f3⟩:=hc 3 (by decide)
    obtain⟨c4,f4⟩:=hc 4 (by decide)
    obtain⟨c5,f5⟩:=hc 5 (by decide)
    obtain⟨c6,f6⟩:=hc 6 (by decide)
    obtain⟨c7,f7⟩:=hc 7 (by decide)
    simp only[Nat.add_zero] at c0 f0
    clear hc
    rw[Nat.zero_add] at S9
    generalize dk[i]! = old at c0 c1 c2 c3 c4 c5 c6 c7
    have hig:(i:Int) < (n:Int):=by omega
    generalize W1.alloc o8=V at *
    go_wp2_with (fail)
    go_roundw
    case rel =>
     first | exact⟨i+1,j+1,_,by go_num,by go_num,by omega,S9,HK1⟩ | (refine⟨_,_,_,_,_,_,_,_,_,_,_,_,_,_,_,_,_,_,_,_,_,_,_,?_,rfl⟩;exact⟨i+1,j+1,_,by go_num,by go_num,by omega,S9,HK1⟩)
    case measure=>simp[intOf];omega
  ·obtain rfl:j=n:=by omega
   have hic:i < c:=by omega
   have hlen:Hid (lay dk i (List.replicate (j - i) default)=(X.filter (keepR) ++ List.replicate (j - i) default).toArray/\(X.filter (keepR)).length=i):=Lib.hid (by
    have h1:=I.out
    rw[<- hsz.out] at h1
    have h2:=h1.done default
    have h3:=h1.len
    rw[keptUpTo_filter (keepR) X.toArray] at h2 h3
    rw[hsz.out] at h2
    exact⟨h2,h3⟩)
   have S10:Hid (SWK encLine 8 w9 g 0 (lay dk i (List.replicate (j - i) default)) (wr.setCells g (0+i * 8) ((List.replicate (j - i) (default:LineV)).flatMap encLine))):=Lib.hid (SWK_lay lineE.len R.out.hblk (List.replicate (j - i) default) dk wr i (by rw[List.length_replicate,hds.out];omega) S.out)
   rw[hlen.out.1,Nat.zero_add] at S10
   have hcl:=fun ty=>run_clear_lines S.out R.out (by rw[hds.out,hsz.out]) i (j - i) (c - i) ty (by omega) (by rw[hds.out];omega)
   generalize wr.setCells g (i * 8) ((List.replicate (j - i) default).flatMap encLine)=W9 at S10 hcl
   have hig:(i:Int)<=(j:Int):=by omega
   have hi0:¬ ((i:Int) < 0):=by omega
   go_wp2_with (fail)
   go_ret
   obtain⟨q1,q2⟩:=own_sorted HO.out S10.out (by have:=hlen.out.2;simp;have:=HX.out;omega)
   exact⟨i,rfl,by rw[hlen.out.2];simpa using q1,hlen.out.2.symm,HW9.out.transL q2⟩
set_option maxHeartbeats 1000000 in
set_option maxRecDepth 100000 in
/-- slices.DeleteFunc at own lines: those that are kept; the slice stays one's own. -/
theorem delR_any (base:Nat) (v:Value) (X:List LineV) (w:World) (h:lineE.Own base w v X) (hf:∀ x∈X,okLine x) (hn:X.length<=100000000) (hb:base<=w.heap.size) :
  Calls Tryz.prog 35 #[v,.func (.func 57) #[] #[]] w fun e w'=>∃ a c,e = .returned (.slice a (X.filter (keepR)).length c)/\lineE.Own base w' (.slice a (X.filter (keepR)).length c) (X.filter (keepR))/\Below base w w':=by
 rcases idxI_formL (fun x:LineV=>!(keepR) x) X with hi | ⟨j,hj,hi⟩
 ·obtain⟨a,c,rfl,hin⟩:=h.in_ hf
  have HI:Hid (Calls Tryz.prog 61 #[.slice a X.length c,.func (.func 57) #[] #[]] w fun e w'=>e = .returned (.int .i64 (-1))/\Below w.heap.size w w'):=Lib.hid (by
   have:=indexLine_any ixLine_laid (fun x:LineV=>!(keepR) x) 57 #[] (enters_of Tryz.func57 (by kernel_rfl) rfl) w.heap.size _ X.length c X w hin (Nat.le_refl _) (fun V x hb1 _=>by
    have:=del1R x V
    simp only[LineV.val] at this
    refine Calls.mono (by simpa using this) ?_
    rintro e w' ⟨rfl,o,rfl⟩
    exact⟨rfl,below_allocL _ _⟩)
   rwa [hi] at this)
  have HX:=Lib.hid h
  rw[filterK_all hi]
  clear h hin hi
  go_enter Tryz.func35,Tryz.ntmps35
  go_wp2_with (go_at_call 61;refine HI.out.mono ?_;rintro e w9 ⟨rfl,hb9⟩)
  go_ret
  exact⟨a,c,rfl,HX.out.below hb9,hb9.mono hb⟩
 ·obtain⟨a,c,rfl,hle,hmx,hg⟩:=h.form
  obtain⟨g,rfl⟩:=hg (by omega)
  have hge:=(h.ge g rfl).1
  refine (delR_some base g X.length c X w h hf hn j hi hj).mono ?_
  rintro e w' ⟨m,rfl,hown,rfl,ho⟩
  have hfl:(X.filter (keepR)).length<=X.length:=List.length_filter_le _ _
  exact⟨_,_,rfl,own_take hown,below_only (Below.refl _ _) ho hb hge⟩
end Go.Proofs.YtgplnekpgdhcpaaGreat
namespace Go.Proofs.YtgplnekpgdhcpaaGreat
open Go.RowKit Go.Sort Go.Lib Go.Shelf
def cmpR (a b:LineV):Int:=orI (cmpI a.rank b.rank) (cmpI a.id b.id)
set_option maxHeartbeats 2000000 in
theorem rankCompare_any (a b:LineV) (w:World):Calls Tryz.prog 59 #[a.val,b.val] w fun e w'=>e = .returned (.int .i64 (cmpR a b))/\∃ q os',w'=Go.Sort.grow (w.drewN q) os':=by
 have HC:=Lib.hid (fun (x y:Int) (W:World)=>compare_any x y W)
 have HO:=Lib.hid or_any
 obtain⟨i1,n1,q1,a1,r1,s1,d1,c1⟩:=a
 obtain⟨i2,n2,q2,a2,r2,s2,d2,c2⟩:=b
 unfold cmpR LineV.val encStr
 simp only
 go_enter Tryz.func59,Tryz.ntmps59
 go_wp2_with (fail)
 obtain⟨O1,hO1⟩:∃ O,O=Obj.cells #[.int .i64 i1,.string ⟨n1.toArray⟩,.int .i64 q1,.int .i64 a1,.int .i64 r1,.int .u8 s1,.int .i64 d1,.string ⟨c1.toArray⟩] 29:=⟨_,rfl⟩
 obtain⟨O2,hO2⟩:∃ O,O=Obj.cells #[.int .i64 i2,.string ⟨n2.toArray⟩,.int .i64 q2,.int .i64 a2,.int .i64 r2,.int .u8 s2,.int .i64 d2,.string ⟨c2.toArray⟩] 29:=⟨_,rfl⟩
 obtain⟨W2,hW2⟩:∃ W,W=(w.alloc (.cells #[.int .i64 i1,.string ⟨n1.toArray⟩,.int .i64 q1,.int .i64 a1,.int .i64 r1,.int .u8 s1,.int .i64 d1,.string ⟨c1.toArray⟩] 29)).alloc (.cells #[.int .i64 i2,.string ⟨n2.toArray⟩,.int .i64 q2,.int .i64 a2,.int .i64 r2,.int .u8 s2,.int .i64 d2,.string ⟨c2.toArray⟩] 29):=⟨_,rfl⟩
 rw[<- hW2]
 have a0:W2.cell? ⟨w.heap.size,0,none⟩=some (.int .i64 i1):=by rw[hW2];simp
 have a3:W2.cell? ⟨w.heap.size,4,none⟩=some (.int .i64 r1):=by rw[hW2];simp
 have b0:W2.cell? ⟨w.heap.size+1,0,none⟩=some (.int .i64 i2):=by rw[hW2];simp
 have b3:W2.cell? ⟨w.heap.size+1,4,none⟩=some (.int .i64 r2):=by rw[hW2];simp
 rw[<- hO1,<- hO2] at hW2
 have HW2:=Lib.hid hW2
 clear hW2 hO1 hO2
 go_region_held3 (fun w'=>(w'.cell? ⟨w.heap.size,0,none⟩=some (.int .i64 i1)/\w'.cell? ⟨w.heap.size,4,none⟩=some (.int .i64 r1))/\(w'.cell? ⟨w.heap.size+1,0,none⟩=some (.int .i64 i2)/\w'.cell? ⟨w.heap.size+1,4,none⟩=some (.int .i64 r2))) (first | go_keep | exact⟨⟨by assumption,by assumption⟩,⟨by assumption,by assumption⟩⟩) (first | (go_at_call 93;refine (HC.out _ _ _).mono ?_;rintro e wA ⟨rfl,rfl⟩) | (go_at_call 92;refine (HO.out _ (cmpI r1 r2) (cmpI i1 i2) _ (by simp) (by simp)).mono ?_;rintro e wB ⟨rfl,rfl⟩))
 go_wp2_with (fail)
 go_ret
 refine⟨rfl,1,#[O1] ++ #[O2] ++ #[.cells #[.int .i64 (cmpI r1 r2),.int .i64 (cmpI i1 i2)] 3],?_⟩
 rw[HW2.out,Go.Sort.alloc_eq_grow,Go.Sort.alloc_eq_grow,Go.Sort.alloc_eq_grow,Go.Sort.grow_grow,Go.Sort.grow_grow]
 rfl
theorem cmpR_lt {a b:LineV}:cmpR a b < 0↔leK b a=false:=by
 unfold cmpR orI cmpI leK
 simp only[Bool.or_eq_false_iff,Bool.and_eq_false_iff,decide_eq_false_iff_not]
 repeat' split
 all_goals omega
theorem ltR_iff {a b:LineV}:ltOf cmpR a b = !leK b a:=by
 unfold ltOf
 cases h:leK b a with
 | false=>exact decide_eq_true (cmpR_lt.2 h)
 | true=>exact decide_eq_false (fun e=>by rw[cmpR_lt.1 e] at h;cases h)
theorem ltR_true {a b:LineV}:ltOf cmpR a b=true↔a.rank < b.rank∨(a.rank=b.rank/\a.id < b.id):=by
 rw[ltR_iff]
 unfold leK
 simp only[Bool.not_eq_true',Bool.or_eq_false_iff,Bool.and_eq_false_iff,decide_eq_false_iff_not]
 omega
theorem ltR_false {a b:LineV}:ltOf cmpR a b=false↔¬ (a.rank < b.rank∨(a.rank=b.rank/\a.id < b.id)):=by
 rw[<- ltR_true]
 cases ltOf cmpR a b <;> simp
theorem swoR:Go.Sort.SWO (ltOf cmpR) where
 irrefl x:=by rw[ltR_false];omega
 trans x y z h1 h2:=by rw[ltR_true] at *;omega
 ntrans x y z h1 h2:=by rw[ltR_false] at *;omega
set_option maxRecDepth 100000 in
/-- slices.SortStableFunc of nothing. -/
theorem sortStableM_none (p:Option Addr) (cap:Nat) (fv:Value) (w:World):Calls Tryz.prog 58 #[.slice p 0 cap,fv] w fun e w'=>e = .returned (.tuple #[])/\w'=w:=by
 have HI:=Lib.hid (AnyF.insertionSortCmpFunc_none Tryz.insM p cap fv w)
 have HS:Hid (Calls Tryz.prog 91 #[.slice p 0 cap,.int .i64 0,fv] w fun e w'=>e = .returned (.tuple #[])/\w'=w):=by
  refine Lib.hid ?_
  go_enter Tryz.func91,Tryz.ntmps91
  go_wp2_with (fail)
  go_loopw [7,8] (fun s7 s8 wr=>s7 = .int .i64 0/\s8 = .int .i64 20/\w=wr) (fun _ _ _=>0)
  case atStart=>exact⟨rfl,rfl,rfl⟩
  case round =>
   obtain⟨rfl,rfl,rfl⟩:=hrel
   go_wp2_with (go_at_call 126;refine HI.out.mono ?_;rintro e w9 ⟨rfl,rfl⟩)
   go_loopw [6] (fun s6 wr=>s6 = .int .i64 20/\w9=wr) (fun _ _=>0)
   case atStart=>exact⟨rfl,rfl⟩
   case round =>
    obtain⟨rfl,rfl⟩:=hrel
    go_wp2_with (fail)
    go_end0
    exact⟨rfl,rfl⟩
 go_enter Tryz.func58,Tryz.ntmps58
 go_wp2_with (go_at_call 91;refine HS.out.mono ?_;rintro e w9 ⟨rfl,rfl⟩)
 go_end0
 exact⟨rfl,rfl⟩
set_option maxRecDepth 100000 in
theorem sortLines (base g n c:Nat) (X:List LineV) (w:World) (h:lineE.Own base w (.slice (some ⟨g,0,none⟩) n c) X) (hn:n<=100000000) :
  Calls Tryz.prog 58 #[.slice (some ⟨g,0,none⟩) n c,.func (.func 59) #[] #[]] w fun e w'=>e = .returned (.tuple #[])/\∃ Y:List LineV,lineE.Own base w' (.slice (some ⟨g,0,none⟩) n c) Y/\Y.Perm X/\(Y.Pairwise fun a b=>leK a b=true)/\OnlyB g w w':=by
 have hx:=(h.cell).1
 have hlt:=(h.ge g rfl).2
 have hH:=own_holds h
 have R:RowK encLine 8 w g 0 X.toArray:=⟨lineE.len,lineE.one,hH,hlt⟩
 refine (sortStableM encLine cmpR (ltOf cmpR) swoR 59 #[] g 0 c n X.toArray w (enters_of Tryz.func59 (by kernel_rfl) rfl) (fun m os dk _ x y=>?_) R (by simp[hx]) (by omega) (SWK.start hH) (fun i j _ _ _=>rfl)).mono ?_
 ·have:=rankCompare_any x y (sortWorldK encLine 8 w g 0 m dk os)
  simpa [LineV.val,encLine] using this
 ·rintro e w' ⟨rfl,d',h1,h2,h3,h4⟩
  obtain⟨q1,q2⟩:=own_sorted h h2 (by omega)
  have hsz:X.toArray.size=n:=by simp[hx]
  refine⟨rfl,d'.toList,q1,?_,?_,q2⟩
  ·have:=permIn_list (d:=X.toArray) (d':=d') (by rw[hsz];exact h3)
   simpa using this
  ·refine (sortedIn_list h1 h4).imp fun {x y} hxy=>?_
   rw[ltR_iff] at hxy
   simpa using hxy
set_option maxHeartbeats 1000000 in
set_option maxRecDepth 100000 in
/-- rank.Open: the open ones, in order. -/
theorem open_any (B:Nat) (a:Option Addr) (n c:Nat) (X:List LineV) (w:World) (h:lineE.In B w a n c X) (hB:B<=w.heap.size) (hn:n<=100000000) :
  Calls Tryz.prog 26 #[.slice a n c] w fun e w'=>(∃ a' c' Y,e = .returned (.slice a' (X.filter keepR).length c')/\lineE.Own w.heap.size w' (.slice a' (X.filter keepR).length c') Y/\Y.Perm (X.filter keepR)/\(Y.Pairwise fun a b=>leK a b=true))/\Below w.heap.size w w':=by
 have HC:=Lib.hid (cloneLine_any B a n c X w h hB hn)
 have HF:=Lib.hid h.fine
 have HN:Hid (X.length<=100000000):=Lib.hid (by rw[<- h.len];exact hn)
 have HL:=Lib.hid h.len
 have HD:=Lib.hid (fun (v:Value) (W:World) (hv:lineE.Own w.heap.size W v X) (hb:w.heap.size<=W.heap.size)=>delR_any w.heap.size v X W hv HF.out HN.out hb)
 clear h
 obtain⟨F,hF⟩:∃ F,F=X.filter keepR:=⟨_,rfl⟩
 obtain⟨m,hm⟩:∃ m,m=F.length:=⟨_,rfl⟩
 have hm2:m<=100000000:=by rw[hm,hF];exact Nat.le_trans (List.length_filter_le _ _) HN.out
 rw[<- hF] at HD ⊢
 rw[<- hm] at HD ⊢
 have Hm:=Lib.hid hm
 clear hF hm
 by_cases h0:m=0
 ·subst h0
  have HS:=Lib.hid sortStableM_none
  go_enter Tryz.func26,Tryz.ntmps26
  go_wp2_with (first | (go_at_call 36;refine HC.out.mono ?_;rintro e w8 ⟨⟨a',c',rfl,-,hown⟩,hb⟩;have O8:=Lib.hid hown;have B8:=Lib.hid hb;have HD8:=Lib.hid (HD.out _ w8 O8.out B8.out.size);clear hown hb) | (go_at_call 35;refine HD8.out.mono ?_;rintro e w7 ⟨a7,c7,rfl,hown,hb⟩;have O7:=Lib.hid hown;have B7:=Lib.hid (B8.out.trans hb);clear hown hb) | (go_at_call 58;refine (HS.out _ _ _ _).mono ?_;rintro e w9 ⟨rfl,rfl⟩))
  go_ret
  refine⟨⟨a7,c7,F,rfl,O7.out,List.Perm.refl _,?_⟩,B7.out⟩
  rw[List.eq_nil_of_length_eq_zero Hm.out.symm]
  exact List.Pairwise.nil
 ·have HS:=Lib.hid sortLines
  go_enter Tryz.func26,Tryz.ntmps26
  go_wp2_with (first | (go_at_call 36;refine HC.out.mono ?_;rintro e w8 ⟨⟨a',c',rfl,-,hown⟩,hb⟩;have O8:=Lib.hid hown;have B8:=Lib.hid hb;have HD8:=Lib.hid (HD.out _ w8 O8.out B8.out.size);clear hown hb) | (go_at_call 35;refine HD8.out.mono ?_;rintro e w7 ⟨a7,c7,rfl,hown,hb⟩;obtain⟨g,rfl⟩:∃ g,a7=some ⟨g,0,none⟩:=(by obtain⟨a2,c2,e2,-,-,hg⟩:=hown.form;obtain⟨g,hg⟩:=hg (by have:=Hm.out;omega);injection e2 with e3;exact⟨g,e3.trans hg⟩);have O7:=Lib.hid hown;have B7:=Lib.hid (B8.out.trans hb);clear hown hb) | (go_at_call 58;refine (HS.out _ _ _ _ _ _ O7.out hm2).mono ?_;rintro e w9 ⟨rfl,Y,hY,hp,hs,ho⟩;have O9:=Lib.hid hY;have P9:=Lib.hid hp;have S9:=Lib.hid hs;have W9:=Lib.hid ho;clear hY hp hs ho))
  go_ret
  refine⟨⟨_,c7,Y,rfl,O9.out,P9.out,S9.out⟩,?_⟩
  have hg:=(O7.out.ge g rfl).1
  exact below_only B7.out W9.out (Nat.le_refl _) hg
end Go.Proofs.YtgplnekpgdhcpaaGreat
