/- slices.SortStableFunc at api.Lot: its contract. (Printed by gen/sorts.py.) slices.SortStableFunc at int: slices.swapRangeCmpFunc, slices.rotateCmpFunc: walks. (Printed by gen/sorts.py.) -/
import Derived.Test.YtgplnekpgdhcpaaGreatJShelf
import Derived.Shelf.SlSortCmp.KitK
import Derived.Shelf.SlSortCmp.Kit1
import Derived.Sort.WalkB2
import Derived.Sort.WalkB12
import Derived.Deep.LoopGhost
import Derived.Deep.DeepCutAuto
import Derived.Lib.Hide
import Derived.Test.YtgplnekpgdhcpaaGreatQMerge
import Derived.Test.YtgplnekpgdhcpaaGreatProg
namespace Go.Proofs.YtgplnekpgdhcpaaGreat
open Go.Proofs Go.Shelf Go.RowKit Go.Lib Go.Sort
theorem stL_laid:StL Tryz.prog 6 where
 mixed:=by kernel_rfl
 late:=by kernel_rfl
 unsure:=by kernel_rfl
 fSwap:=Tryz.func209
 fRot:=Tryz.func195
 fSym:=Tryz.func178
 t0:=Tryz.underlying0
 a0:=Tryz.isAgg0
 z0:=Tryz.sizeOf0
 v0:=Tryz.zeroValue0
 t3:=Tryz.underlying3
 a3:=Tryz.isAgg3
 z3:=Tryz.sizeOf3
 v3:=Tryz.zeroValue3
 t4:=Tryz.underlying4
 a4:=Tryz.isAgg4
 z4:=Tryz.sizeOf4
 v4:=Tryz.zeroValue4
 t22:=Tryz.underlying23
 a22:=Tryz.isAgg23
 z22:=Tryz.sizeOf23
 v22:=Tryz.zeroValue23
 a25:=Tryz.isAgg150
 z25:=Tryz.sizeOf150
 v25:=Tryz.zeroValue150
 t35:=Tryz.underlying148
 a35:=Tryz.isAgg148
 z35:=Tryz.sizeOf148
 v35:=Tryz.zeroValue148
 aE:=Tryz.isAgg50
 zE:=Tryz.sizeOf50
section
variable {α:Type} [Inhabited α]
theorem insL_w (enc:α->List Value) (cf:α->α->Int) (T:α->α->Bool) (hT:SWO T) (g:Nat) (cb:Array Value) (blk off cap sz:Nat) (d0:Array α) (w0:World)
  (eg:∀ args w,(callFunc g args).run Tryz.prog w = .ok (.enter g args) w) (hcmp:CmpLays Tryz.prog g cb enc 6 cf blk off d0.size w0) (R:RowK enc 6 w0 blk off d0) (h0:d0.size=sz) (hsz:sz < 4611686018427387904)
  (a b:Nat) (d:Array α) (w:World) (hs:d.size=sz) (S:SWK enc 6 w0 blk off d w) (hab:a<=b) (hb:b<=sz) (hc:Compat (ltOf cf) T a b d) :
  Calls Tryz.prog 177 #[.slice (some ⟨blk,off,none⟩) sz cap,.int .i64 a,.int .i64 b,.func (.func g) #[] cb] w fun e w'=>e = .returned (.tuple #[])/\∃ d',d'.size=sz/\SWK enc 6 w0 blk off d' w'/\PermIn a b d d'/\SortedIn T a b d':=by
 have hs':(Sort.insertionSort (ltOf cf) d a b).size=d.size:=(ins_block hT hab (by rw[hs];exact hb) hc).1.1
 have hC:CmpLays Tryz.prog g cb enc 6 cf blk off d.size w:=fun m os dk hdk x y=>by
  obtain⟨n0,os0,rfl⟩:=S
  rw[sortWorldK_on enc 6 w0 blk off n0 m d dk os0 os R.hblk hdk]
  exact hcmp _ _ dk (by omega) x y
 have HH:=AnyQ.insertionSortCmpFunc Tryz.insL 6 Tryz.isAgg50 Tryz.sizeOf50 enc R.hk R.h1 cf g cb blk off cap a b d w eg hC (S.holds R.hblk R.hH (by omega)) (S.lt R.hblk) hab (by omega) (by omega)
 rw[hs] at HH
 refine HH.mono ?_
 rintro e w' ⟨rfl,n,os,rfl⟩
 have hB:=ins_block hT hab (by rw[hs];exact hb) hc
 exact⟨rfl,_,hs'.trans hs,S.on R.hblk n _ os hs',hB.1,hB.2⟩
set_option maxHeartbeats 4000000 in
set_option maxRecDepth 1000000 in
theorem stableL (enc:α->List Value) (cf:α->α->Int) (T:α->α->Bool) (hT:SWO T) (g:Nat) (cb:Array Value) (blk off cap sz:Nat) (d0:Array α) (w0:World)
  (eg:∀ args w,(callFunc g args).run Tryz.prog w = .ok (.enter g args) w) (hcmp:CmpLays Tryz.prog g cb enc 6 cf blk off d0.size w0) (R:RowK enc 6 w0 blk off d0) (h0:d0.size=sz) (hsz:sz < 1152921504606846976) (S:SWK enc 6 w0 blk off d0 w0) (hc:Compat (ltOf cf) T 0 d0.size d0) :
  Calls Tryz.prog 156 #[.slice (some ⟨blk,off,none⟩) sz cap,.int .i64 sz,.func (.func g) #[] cb] w0 fun e w'=>e = .returned (.tuple #[])/\∃ d',d'.size=sz/\SWK enc 6 w0 blk off d' w'/\PermIn 0 sz d0 d'/\SortedIn T 0 sz d':=by
 have HI:Hid (∀ (a b:Nat) (d:Array α) (w:World),d.size=sz->SWK enc 6 w0 blk off d w->a<=b->b<=sz->Compat (ltOf cf) T a b d->Calls Tryz.prog 177 #[.slice (some ⟨blk,off,none⟩) sz cap,.int .i64 a,.int .i64 b,.func (.func g) #[] cb] w fun e w'=>e = .returned (.tuple #[])/\∃ d',d'.size=sz/\SWK enc 6 w0 blk off d' w'/\PermIn a b d d'/\SortedIn T a b d'):=Lib.hid (insL_w enc cf T hT g cb blk off cap sz d0 w0 eg hcmp R h0 (by omega))
 have HM:Hid (∀ (a m b:Nat) (d:Array α) (w:World),d.size=sz->SWK enc 6 w0 blk off d w->a < m->m < b->b<=sz->SM (ltOf cf) T a m b d->Calls Tryz.prog 178 #[.slice (some ⟨blk,off,none⟩) sz cap,.int .i64 a,.int .i64 m,.int .i64 b,.func (.func g) #[] cb] w fun e w'=>e = .returned (.tuple #[])/\∃ d',d'.size=sz/\SWK enc 6 w0 blk off d' w'/\PermIn a b d d'/\SortedIn T a b d'):=Lib.hid fun a m b d w=>symMergeL 6 stL_laid enc cf T hT g cb blk off cap sz d0 w0 eg hcmp R h0 (by omega) b a m b d w (by omega)
 have HC:Hid (Compat (ltOf cf) T 0 d0.size d0):=Lib.hid hc
 have S0:Hid (SWK enc 6 w0 blk off d0 w0):=Lib.hid S
 have H0:Hid (d0.size=sz):=Lib.hid h0
 clear hcmp R hc S h0 hT eg
 go_enter Tryz.func156,Tryz.ntmps156
 go_wp2_with (fail)
 go_loopg [7,8] sz (fun kx s7 s8 wr=>∃ (p A:Nat) (dk:Array α),s7 = .int .i64 A/\s8 = .int .i64 ((A:Int)+20)/\A<=sz/\sz - A<=kx/\Hid (SWK enc 6 w0 blk off dk wr)/\Hid (A=p * 20)/\Hid (First T d0 dk 20 p))
 case atStart=>exact⟨0,0,d0,rfl,by go_num,Nat.zero_le _,by omega,S0,Lib.hid (by omega),Lib.hid (First.start T d0 20)⟩
 case round =>
  clear S0
  obtain⟨p,A,dk,rfl,rfl,hA,hkx,S1,HA,F1⟩:=hrel
  by_cases hlt:A+20<=sz
  ·have hC:=Lib.hid (HI.out A (A+20) dk wr (F1.out.size.trans H0.out) S1.out (by omega) hlt (F1.out.compat HC.out (by rw[HA.out];exact Nat.le_refl _) (by rw[H0.out];exact hlt)))
   go_wp2_with (first | (go_at_call 177;refine hC.out.mono ?_;rintro e9 w9 ⟨rfl,d',t1,t2,t3,t4⟩;have Q:=Lib.hid (And.intro t1 (And.intro t2 (And.intro t3 t4)));clear t1 t2 t3 t4))
   go_roundg (sz - (A+20))
   case measure=>omega
   case rel=>exact⟨p+1,A+20,d',by go_num,by go_num,hlt,Nat.le_refl _,Lib.hid Q.out.2.1,Lib.hid (by have:=HA.out;omega),Lib.hid (F1.out.step (by rw[<- HA.out,H0.out];exact hlt) (by rw[<- HA.out];exact Q.out.2.2.1) (by rw[<- HA.out];exact Q.out.2.2.2))⟩
  ·have hC:=Lib.hid (HI.out A sz dk wr (F1.out.size.trans H0.out) S1.out hA (Nat.le_refl _) (F1.out.compat HC.out (by rw[HA.out];exact Nat.le_refl _) (by rw[H0.out];exact Nat.le_refl _)))
   go_wp2_with (first | (go_at_call 177;refine hC.out.mono ?_;rintro e9 w9 ⟨rfl,d',t1,t2,t3,t4⟩;have Q:=Lib.hid (And.intro t1 (And.intro t2 (And.intro t3 t4)));clear t1 t2 t3 t4))
   have AL:Hid (All T d0 d' 20):=Lib.hid (F1.out.all (by rw[<- HA.out,H0.out];exact hA) (by rw[<- HA.out,H0.out];omega) (by rw[<- HA.out,H0.out];exact Q.out.2.2.1) (by rw[<- HA.out,H0.out];exact Q.out.2.2.2))
   have S2:Hid (SWK enc 6 w0 blk off d' w9):=Lib.hid Q.out.2.1
   clear Q hC F1 HA S1 hlt hkx hA
   go_loopg [6] (2 * sz+20) (fun kx s6 wr=>∃ (bs:Nat) (dk:Array α),s6 = .int .i64 bs/\0 < bs/\bs<=2 * sz+20/\2 * sz+20 - bs<=kx/\Hid (SWK enc 6 w0 blk off dk wr)/\Hid (All T d0 dk bs))
   case atStart=>exact⟨20,d',rfl,by omega,by omega,by omega,S2,AL⟩
   case round =>
    clear S2 AL
    obtain⟨bs,dk,rfl,hb0,hbs,hkx,S3,A3⟩:=hrel
    by_cases hlt:bs < sz
    ·have rw2:IntKind.i64.wrap (2 * (bs:Int))=((2 * bs:Nat):Int):=by rw[IntKind.wrap_i64];omega
     go_wp2_with (fail)
     go_loopg [7,8] sz (fun kx s7 s8 wr=>∃ (p A:Nat) (dk:Array α),s7 = .int .i64 A/\s8 = .int .i64 ((A+2 * bs:Nat):Int)/\A<=sz/\sz - A<=kx/\Hid (SWK enc 6 w0 blk off dk wr)/\Hid (A=p * (2 * bs))/\Hid (Pairs T d0 dk bs p))
     case atStart=>exact⟨0,0,dk,rfl,by go_num,Nat.zero_le _,by omega,S3,Lib.hid (by omega),Lib.hid A3.out.pairs⟩
     case round =>
      clear S3 A3
      obtain⟨p,A,dk,rfl,rfl,hA,hkx2,S1,HA,F1⟩:=hrel
      have rA:IntKind.i64.wrap ((A:Int)+(bs:Int))=((A+bs:Nat):Int):=by rw[IntKind.wrap_i64];omega
      by_cases hle:A+2 * bs<=sz
      ·have hsm:Hid (SM (ltOf cf) T A (A+bs) (A+2 * bs) dk):=Lib.hid (by
        have g1:=F1.out.first hb0 (by rw[<- HA.out,H0.out];omega)
        have g2:=F1.out.last hb0 (by rw[<- HA.out,H0.out];omega)
        rw[<- HA.out] at g1 g2
        rw[H0.out,show min (A+2 * bs) sz=A+2 * bs by omega] at g2
        exact g1.sm g2 (fun i j h1 h2 h3=>HC.out i j (Nat.zero_le _) h2 (by rw[H0.out];omega)) (by rw[F1.out.size,H0.out];exact hle) (by rw[H0.out];exact hle))
       have hC:=Lib.hid (HM.out A (A+bs) (A+2 * bs) dk wr (F1.out.size.trans H0.out) S1.out (by omega) (by omega) hle hsm.out)
       obtain⟨ab,hab⟩:∃ ab,ab=A+bs:=⟨_,rfl⟩
       obtain⟨a2,ha2⟩:∃ a2,a2=A+2 * bs:=⟨_,rfl⟩
       obtain⟨b2,hb2⟩:∃ b2,b2=2 * bs:=⟨_,rfl⟩
       obtain⟨a4,ha4⟩:∃ a4,a4=a2+b2:=⟨_,rfl⟩
       clear rA rw2
       have rA:IntKind.i64.wrap ((A:Int)+(bs:Int))=(ab:Int):=by rw[IntKind.wrap_i64];omega
       have rw2:IntKind.i64.wrap (2 * (bs:Int))=(b2:Int):=by rw[IntKind.wrap_i64];omega
       have rB:IntKind.i64.wrap ((a2:Int)+(b2:Int))=(a4:Int):=by rw[IntKind.wrap_i64];omega
       have hlez:(a2:Int)<=(sz:Int):=by omega
       rw[<- ha2,<- hab] at hC
       rw[<- ha2]
       have HAB:=Lib.hid hab
       have HA2:=Lib.hid ha2
       have HA4:=Lib.hid ha4
       have HB2:=Lib.hid hb2
       clear hab ha2 ha4 hb2
       go_wp2_with (first | (go_at_call 178;refine hC.out.mono ?_;rintro e9 w9 ⟨rfl,d',t1,t2,t3,t4⟩;have Q:=Lib.hid (And.intro t1 (And.intro t2 (And.intro t3 t4)));clear t1 t2 t3 t4))
       go_roundg (sz - a2)
       case measure=>have:=HA2.out;omega
       case rel=>exact⟨p+1,a2,d',by go_num,by rw[HA4.out,HB2.out],by have:=HA2.out;omega,Nat.le_refl _,Lib.hid Q.out.2.1,Lib.hid (by rw[HA2.out,HA.out,Nat.add_mul,Nat.one_mul]),Lib.hid (F1.out.step hb0 (by rw[<- HA.out,H0.out];exact hle) (by rw[<- HA.out,<- HA2.out];exact Q.out.2.2.1) (by rw[<- HA.out,<- HA2.out];exact Q.out.2.2.2))⟩
      ·have hlez:¬ ((A+2 * bs:Nat):Int)<=(sz:Int):=by omega
       obtain⟨a2,ha2⟩:∃ a2,a2=A+2 * bs:=⟨_,rfl⟩
       rw[<- ha2] at hlez ⊢
       have HA2:=Lib.hid ha2
       clear ha2
       have rC:IntKind.i64.wrap ((bs:Int) * 2)=((2 * bs:Nat):Int):=by rw[IntKind.wrap_i64];omega
       by_cases hm:A+bs < sz
       ·have hsm:Hid (SM (ltOf cf) T A (A+bs) sz dk):=Lib.hid (by
         have g1:=F1.out.first hb0 (by rw[<- HA.out,H0.out];omega)
         have g2:=F1.out.last hb0 (by rw[<- HA.out,H0.out];omega)
         rw[<- HA.out] at g1 g2
         rw[H0.out,show min (A+2 * bs) sz=sz by omega] at g2
         exact g1.sm g2 (fun i j h1 h2 h3=>HC.out i j (Nat.zero_le _) h2 (by rw[H0.out];omega)) (by rw[F1.out.size,H0.out];exact Nat.le_refl _) (by rw[H0.out];exact Nat.le_refl _))
        have hC:=Lib.hid (HM.out A (A+bs) sz dk wr (F1.out.size.trans H0.out) S1.out (by omega) hm (Nat.le_refl _) hsm.out)
        have hmz:((A+bs:Nat):Int) < (sz:Int):=by omega
        obtain⟨ab,hab⟩:∃ ab,ab=A+bs:=⟨_,rfl⟩
        rw[<- hab] at hC rA hmz
        clear hab
        go_wp2_with (first | (go_at_call 178;refine hC.out.mono ?_;rintro e9 w9 ⟨rfl,d',t1,t2,t3,t4⟩;have Q:=Lib.hid (And.intro t1 (And.intro t2 (And.intro t3 t4)));clear t1 t2 t3 t4))
        go_roundg (2 * sz+20 - 2 * bs)
        case measure=>omega
        case rel=>exact⟨2 * bs,d',rfl,by omega,by omega,Nat.le_refl _,Lib.hid Q.out.2.1,Lib.hid (F1.out.end2 hb0 (by rw[<- HA.out,H0.out];exact hm) (by rw[<- HA.out,H0.out];omega) (by rw[<- HA.out,H0.out];exact Q.out.2.2.1) (by rw[<- HA.out,H0.out];exact Q.out.2.2.2))⟩
       ·have hmz:¬ ((A+bs:Nat):Int) < (sz:Int):=by omega
        obtain⟨ab,hab⟩:∃ ab,ab=A+bs:=⟨_,rfl⟩
        rw[<- hab] at rA hmz
        clear hab
        go_wp2_with (fail)
        go_roundg (2 * sz+20 - 2 * bs)
        case measure=>omega
        case rel=>exact⟨2 * bs,dk,rfl,by omega,by omega,Nat.le_refl _,S1,Lib.hid (F1.out.end1 hb0 (by rw[<- HA.out,H0.out];exact hA) (by rw[<- HA.out,H0.out];omega))⟩
    ·go_wp2_with (fail)
     go_end0
     have E:=A3.out.end_ (by rw[H0.out];omega)
     rw[H0.out] at E
     exact⟨rfl,dk,A3.out.size.trans H0.out,S3.out,E.1,E.2⟩
theorem sortStableL (enc:α->List Value) (cf:α->α->Int) (T:α->α->Bool) (hT:SWO T) (g:Nat) (cb:Array Value) (blk off cap sz:Nat) (d0:Array α) (w0:World)
  (eg:∀ args w,(callFunc g args).run Tryz.prog w = .ok (.enter g args) w) (hcmp:CmpLays Tryz.prog g cb enc 6 cf blk off d0.size w0) (R:RowK enc 6 w0 blk off d0) (h0:d0.size=sz) (hsz:sz < 1152921504606846976) (S:SWK enc 6 w0 blk off d0 w0) (hc:Compat (ltOf cf) T 0 d0.size d0) :
  Calls Tryz.prog 121 #[.slice (some ⟨blk,off,none⟩) sz cap,.func (.func g) #[] cb] w0 fun e w'=>e = .returned (.tuple #[])/\∃ d',d'.size=sz/\SWK enc 6 w0 blk off d' w'/\PermIn 0 sz d0 d'/\SortedIn T 0 sz d':=by
 have HS:=Lib.hid (stableL enc cf T hT g cb blk off cap sz d0 w0 eg hcmp R h0 hsz S hc)
 clear hcmp R hc S h0 hT eg
 go_enter Tryz.func121,Tryz.ntmps121
 go_wp2_with (first | (go_at_call 156;refine HS.out.mono ?_;rintro e9 w9 ⟨rfl,t1⟩))
 go_end0
 exact⟨rfl,t1⟩
end
end Go.Proofs.YtgplnekpgdhcpaaGreat
namespace Go.Proofs.YtgplnekpgdhcpaaGreat
open Go.Proofs Go.Shelf Go.RowKit Go.Lib Go.Sort
structure StN (P:Program):Prop where
 mixed:P.follows .mixedOrders=true
 late:P.follows .lateStores=true
 unsure:P.follows .lateStoresUnsure=true
 fSwap:P.funcs[210]? = some Tryz.f210
 fRot:P.funcs[196]? = some Tryz.f196
 fSym:P.funcs[180]? = some Tryz.f180
 t0:P.underlying 0=some (TypeDesc.tuple #[])
 a0:∀ w,(isAgg 0).run P w = .ok false w
 z0:∀ w,(Go.sizeOf 0).run P w = .ok 1 w
 v0:∀ w,(zeroValue 0).run P w = .ok (Value.tuple #[]) w
 t3:P.underlying 3=some (TypeDesc.int IntKind.i64)
 a3:∀ w,(isAgg 3).run P w = .ok false w
 z3:∀ w,(Go.sizeOf 3).run P w = .ok 1 w
 v3:∀ w,(zeroValue 3).run P w = .ok (Value.int IntKind.i64 0) w
 t4:P.underlying 4=some (TypeDesc.bool)
 a4:∀ w,(isAgg 4).run P w = .ok false w
 z4:∀ w,(Go.sizeOf 4).run P w = .ok 1 w
 v4:∀ w,(zeroValue 4).run P w = .ok (Value.bool false) w
 t22:P.underlying 119=some (TypeDesc.slice 3)
 a22:∀ w,(isAgg 119).run P w = .ok false w
 z22:∀ w,(Go.sizeOf 119).run P w = .ok 1 w
 v22:∀ w,(zeroValue 119).run P w = .ok (Value.slice none 0 0) w
 a25:∀ w,(isAgg 45).run P w = .ok false w
 z25:∀ w,(Go.sizeOf 45).run P w = .ok 1 w
 v25:∀ w,(zeroValue 45).run P w = .ok (Value.nilFunc) w
 t35:P.underlying 148=some (TypeDesc.int IntKind.u64)
 a35:∀ w,(isAgg 148).run P w = .ok false w
 z35:∀ w,(Go.sizeOf 148).run P w = .ok 1 w
 v35:∀ w,(zeroValue 148).run P w = .ok (Value.int IntKind.u64 0) w
section
variable {P:Program} {α:Type} [Inhabited α]
set_option maxHeartbeats 4000000 in
set_option maxRecDepth 1000000 in
theorem swapRangeN (L:StN P) (enc:α->Value) (fv:Value) (blk off cap a b n sz:Nat) (d0 d:Array α) (w0 w:World)
  (R:Row1 enc w0 blk off d0) (h0:d0.size=sz) (hs:d.size=sz) (S:SW enc w0 blk off d w) (hab:a+n<=b) (hb:b+n<=sz) (hsz:sz < 4611686018427387904) :
  Calls P 210 #[.slice (some ⟨blk,off,none⟩) sz cap,.int .i64 a,.int .i64 b,.int .i64 n,fv] w fun e w'=>e = .returned (.tuple #[])/\∃ d',d'.size=sz/\SW enc w0 blk off d' w'/\(∀ x,d'[x]! = swF d a b n x)/\∀ A B,A<=a->b+n<=B->B<=sz->PermIn A B d d':=by
 have mixed:=L.mixed;have late:=L.late;have unsure:=L.unsure
 have t0:=L.t0;have a0:=L.a0;have z0:=L.z0;have v0:=L.v0;have t3:=L.t3;have a3:=L.a3;have z3:=L.z3;have v3:=L.v3;have t4:=L.t4;have a4:=L.a4;have z4:=L.z4;have v4:=L.v4;have t22:=L.t22;have a22:=L.a22;have z22:=L.z22;have v22:=L.v22;have t35:=L.t35;have a35:=L.a35;have z35:=L.z35;have v35:=L.v35;have a25:=L.a25;have z25:=L.z25;have v25:=L.v25
 have u0:=run_underlying L.t0;have u3:=run_underlying L.t3;have u4:=run_underlying L.t4;have u22:=run_underlying L.t22;have u35:=run_underlying L.t35
 have hcl0:=R.hO.cells
 simp only[Value.cells] at hcl0
 have hst:=R.hO.store P
 have FG:=L.fSwap
 have S0:Aside (SW enc w0 blk off d w):=S
 have HS:Aside (d.size=sz):=hs
 clear S
 go_enter FG,Tryz.ntmps210
 go_wp2
 go_loopg [10] n (fun kx s10 wr=>∃ (i:Nat) (dk:Array α),s10 = .int .i64 i/\i<=n/\n - i<=kx/\dk.size=sz/\Aside (SW enc w0 blk off dk wr)/\Aside (∀ x,dk[x]! = swF d a b i x)/\Aside (∀ A B,A<=a->b+n<=B->B<=sz->PermIn A B d dk))
 case atStart=>exact⟨0,d,rfl,Nat.zero_le _,by omega,hs,S0,(fun x=>(swF_zero d a b x).symm:_),(fun A B _ _ _=>permIn_refl d A B:_)⟩
 case round =>
  clear S0
  obtain⟨i,dk,rfl,hi,hkx,hds,S1,X1,P1⟩:=hrel
  by_cases hlt:i < n
  ·have hltz:(i:Int) < (n:Int):=by omega
   go_wp2_with fail
   obtain⟨iN44,hiN44⟩:∃ zz,zz=a+i:=⟨_,rfl⟩
   obtain⟨jN44,hjN44⟩:∃ zz,zz=b+i:=⟨_,rfl⟩
   have ea44:((a:Int)+(i:Int)).toNat=iN44:=by omega
   have pa44:(0:Int)<=(a:Int)+(i:Int):=by omega
   have ba44:(a:Int)+(i:Int) < (sz:Int):=by omega
   have ra44:IntKind.i64.wrap ((a:Int)+(i:Int))=(a:Int)+(i:Int):=by rw[IntKind.wrap_i64];omega
   have ec44:((b:Int)+(i:Int)).toNat=jN44:=by omega
   have pc44:(0:Int)<=(b:Int)+(i:Int):=by omega
   have bc44:(b:Int)+(i:Int) < (sz:Int):=by omega
   have rc44:IntKind.i64.wrap ((b:Int)+(i:Int))=(b:Int)+(i:Int):=by rw[IntKind.wrap_i64];omega
   obtain⟨x44,hx44⟩:∃ x,x=dk[a+i]!:=⟨_,rfl⟩
   obtain⟨y44,hy44⟩:∃ x,x=dk[b+i]!:=⟨_,rfl⟩
   have S2:Aside (SW enc w0 blk off (swp dk (a+i) (b+i)) ((wr.setCell ⟨blk,off+iN44,none⟩ (enc y44)).setCell ⟨blk,off+jN44,none⟩ (enc x44)).drew):=by rw[hiN44,hjN44,hx44,hy44];exact S1.out.swapped R (a+i) (b+i) (by omega) (by omega)
   have c44a:=S1.out.c1 R (by omega) (a+i) (by omega)
   have c44b:=S1.out.c1 R (by omega) (b+i) (by omega)
   have f44a:=S1.out.f1 R (by omega) (a+i) (by omega)
   have f44b:=S1.out.f1 R (by omega) (b+i) (by omega)
   obtain⟨u44,c44c⟩:=S1.out.c2 R (by omega) (a+i) (b+i) (by omega) (by omega) (enc y44)
   rw[<- hjN44,<- hiN44] at c44c
   rw[<- hx44,<- hiN44] at c44a
   rw[<- hy44,<- hjN44] at c44b
   rw[<- hiN44] at f44a
   rw[<- hjN44] at f44b
   clear S1 hx44 hy44 hiN44 hjN44
   go_wp2_with fail
   go_big_region_o
   clear c44a c44b c44c f44a f44b
   generalize ((wr.setCell ⟨blk,off+iN44,none⟩ (enc y44)).setCell ⟨blk,off+jN44,none⟩ (enc x44)).drew=w2 at S2 ⊢
   clear ea44 ec44
   go_wp2
   go_roundg (n - (i+1))
   case measure=>omega
   case rel=>exact⟨i+1,swp dk (a+i) (b+i),by go_num,by omega,Nat.le_refl _,by rw[size_swp];exact hds,S2,swF_step (by rw[hds,HS.out]) hab (by rw[HS.out];exact hb) hlt X1.out,fun A B h1 h2 h3=>swap_in (P1.out A B h1 h2 h3) (by omega) (by omega) (by omega) (by omega) (by rw[HS.out];exact h3)⟩
  ·have hi2:i=n:=by omega
   subst hi2
   go_wp2
   go_end0
   exact⟨rfl,dk,hds,S1.out,X1.out,P1.out⟩
set_option maxHeartbeats 4000000 in
set_option maxRecDepth 1000000 in
theorem rotateN (L:StN P) (enc:α->Value) (fv:Value) (blk off cap a m b sz:Nat) (d0 d:Array α) (w0 w:World)
  (R:Row1 enc w0 blk off d0) (h0:d0.size=sz) (hs:d.size=sz) (S:SW enc w0 blk off d w) (ham:a < m) (hmb:m < b) (hb:b<=sz) (hsz:sz < 4611686018427387904) :
  Calls P 196 #[.slice (some ⟨blk,off,none⟩) sz cap,.int .i64 a,.int .i64 m,.int .i64 b,fv] w fun e w'=>e = .returned (.tuple #[])/\∃ d',d'.size=sz/\SW enc w0 blk off d' w'/\(∀ x,d'[x]! = rotF d a m b x)/\PermIn a b d d':=by
 have HSR:Hid (∀ (x y n:Nat) (dk:Array α) (W:World),dk.size=sz->SW enc w0 blk off dk W->x+n<=y->y+n<=sz->Calls P 210 #[.slice (some ⟨blk,off,none⟩) sz cap,.int .i64 x,.int .i64 y,.int .i64 n,fv] W fun e w'=>e = .returned (.tuple #[])/\∃ d',d'.size=sz/\SW enc w0 blk off d' w'/\(∀ z,d'[z]! = swF dk x y n z)/\∀ A B,A<=x->y+n<=B->B<=sz->PermIn A B dk d'):=Lib.hid fun x y n dk W h1 h2 h3 h4=>swapRangeN L enc fv blk off cap x y n sz d0 dk w0 W R h0 h1 h2 h3 h4 hsz
 have mixed:=L.mixed;have late:=L.late;have unsure:=L.unsure
 have t0:=L.t0;have a0:=L.a0;have z0:=L.z0;have v0:=L.v0;have t3:=L.t3;have a3:=L.a3;have z3:=L.z3;have v3:=L.v3;have t4:=L.t4;have a4:=L.a4;have z4:=L.z4;have v4:=L.v4;have t22:=L.t22;have a22:=L.a22;have z22:=L.z22;have v22:=L.v22;have t35:=L.t35;have a35:=L.a35;have z35:=L.z35;have v35:=L.v35;have a25:=L.a25;have z25:=L.z25;have v25:=L.v25
 have u0:=run_underlying L.t0;have u3:=run_underlying L.t3;have u4:=run_underlying L.t4;have u22:=run_underlying L.t22;have u35:=run_underlying L.t35
 have hcl0:=R.hO.cells
 simp only[Value.cells] at hcl0
 have hst:=R.hO.store P
 have eS:∀ args w,(callFunc 210 args).run P w = .ok (.enter 210 args) w:=enters_of L.fSwap (by kernel_rfl) rfl
 have FG:=L.fRot
 have S0:Aside (SW enc w0 blk off d w):=S
 clear S R
 have rA:IntKind.i64.wrap ((m:Int) - (a:Int))=((m - a:Nat):Int):=by rw[IntKind.wrap_i64];omega
 have rB:IntKind.i64.wrap ((b:Int) - (m:Int))=((b - m:Nat):Int):=by rw[IntKind.wrap_i64];omega
 go_enter FG,Tryz.ntmps196
 go_wp2
 go_loopg [10,11] b (fun kx s10 s11 wr=>∃ (i j:Nat) (dk:Array α),s10 = .int .i64 i/\s11 = .int .i64 j/\0 < i/\0 < j/\i+a<=m/\m+j<=b/\i+j<=kx/\dk.size=sz/\Aside (SW enc w0 blk off dk wr)/\Aside (∀ x,rotF dk (m - i) m (m+j) x=rotF d a m b x)/\Aside (PermIn a b d dk))
 case atStart=>exact⟨m - a,b - m,d,by go_num,by go_num,by omega,by omega,by omega,by omega,by omega,hs,S0,(fun x=>by rw[show m - (m - a)=a by omega,show m+(b - m)=b by omega]:_),(permIn_refl d a b:_)⟩
 case round =>
  clear S0 rA rB
  obtain⟨i,j,dk,rfl,rfl,hi,hj,him,hjb,hkx,hds,S1,X1,P1⟩:=hrel
  have rm:IntKind.i64.wrap ((m:Int) - (i:Int))=((m - i:Nat):Int):=by rw[IntKind.wrap_i64];omega
  by_cases hij:i=j
  ·subst hij
   have hC:=Lib.hid (HSR.out (m - i) m i dk wr hds S1.out (by omega) (by omega))
   go_wp2_with (first | (go_at_call 210;refine hC.out.mono ?_;rintro e w9 ⟨rfl,d',q1,q2,q3,q4⟩))
   go_end0
   refine⟨rfl,d',q1,q2,fun x=>?_,permIn_trans _ _ _ _ _ P1.out (q4 a b (by omega) (by omega) hb)⟩
   rw[<- X1.out]
   exact rot_eq (by omega) q3 x
  ·by_cases hgt:j < i
   ·have hC:=Lib.hid (HSR.out (m - i) m j dk wr hds S1.out (by omega) (by omega))
    have hne:¬ (i:Int)=(j:Int):=by omega
    have hgz:(j:Int) < (i:Int):=by omega
    have rij:IntKind.i64.wrap ((i:Int) - (j:Int))=((i - j:Nat):Int):=by rw[IntKind.wrap_i64];omega
    go_wp2_with (first | (go_at_call 210;refine hC.out.mono ?_;rintro e w9 ⟨rfl,d',q1,q2,q3,q4⟩;have Q:Aside (SW enc w0 blk off d' w9/\(∀ z,d'[z]! = swF dk (m - i) m j z)/\∀ A B,A<=m - i->m+j<=B->B<=sz->PermIn A B dk d'):=⟨q2,q3,q4⟩;clear q2 q3 q4))
    go_roundg (i - j+j)
    case measure=>omega
    case rel=>exact⟨i - j,j,d',by go_num,by go_num,by omega,hj,by omega,hjb,by omega,q1,Q.out.1,fun x=>(rot_gt hj hgt (by omega) Q.out.2.1 x).trans (X1.out x),permIn_trans _ _ _ _ _ P1.out (Q.out.2.2 a b (by omega) (by omega) hb)⟩
   ·have hC:=Lib.hid (HSR.out (m - i) (m+j - i) i dk wr hds S1.out (by omega) (by omega))
    have hne:¬ (i:Int)=(j:Int):=by omega
    have hgz:¬ (j:Int) < (i:Int):=by omega
    have rij:IntKind.i64.wrap ((j:Int) - (i:Int))=((j - i:Nat):Int):=by rw[IntKind.wrap_i64];omega
    have rmj:IntKind.i64.wrap ((m:Int)+(j:Int))=(m:Int)+(j:Int):=by rw[IntKind.wrap_i64];omega
    have rmi:IntKind.i64.wrap ((m:Int)+(j:Int) - (i:Int))=((m+j - i:Nat):Int):=by rw[IntKind.wrap_i64];omega
    go_wp2_with (first | (go_at_call 210;refine hC.out.mono ?_;rintro e w9 ⟨rfl,d',q1,q2,q3,q4⟩;have Q:Aside (SW enc w0 blk off d' w9/\(∀ z,d'[z]! = swF dk (m - i) (m+j - i) i z)/\∀ A B,A<=m - i->m+j - i+i<=B->B<=sz->PermIn A B dk d'):=⟨q2,q3,q4⟩;clear q2 q3 q4))
    go_roundg (i+(j - i))
    case measure=>omega
    case rel=>exact⟨i,j - i,d',by go_num,by go_num,hi,by omega,him,by omega,by omega,q1,Q.out.1,fun x=>(rot_lt hi (by omega) (by omega) Q.out.2.1 x).trans (X1.out x),permIn_trans _ _ _ _ _ P1.out (Q.out.2.2 a b (by omega) (by omega) hb)⟩
end
end Go.Proofs.YtgplnekpgdhcpaaGreat
