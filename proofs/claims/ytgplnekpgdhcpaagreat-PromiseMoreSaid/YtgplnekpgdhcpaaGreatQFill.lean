/- slices.SortStableFunc at int: slices.symMergeCmpFunc. (Printed by gen/sorts.py.) slices.SortStableFunc at int: its contract. (Printed by gen/sorts.py.) Lots, wants, uses, lines as values: plain Lean. Lists of api.Lot as they stand in memory; storemankit's equality of them: its walk. (Printed by gen/kinds.py.) What lots serve what wants: plain Lean. -/
import Derived.Test.YtgplnekpgdhcpaaGreatQSmNB
import Derived.Test.YtgplnekpgdhcpaaGreatQSmNC
import Derived.Test.YtgplnekpgdhcpaaGreatJShelf
import Derived.Test.YtgplnekpgdhcpaaGreatTxA
import Derived.Test.YtgplnekpgdhcpaaGreatQBridge
import Derived.Test.YtgplnekpgdhcpaaGreatQEnds
import Derived.Laws.StructEq
namespace Go.Proofs.YtgplnekpgdhcpaaGreat
open Go.Proofs Go.Shelf Go.RowKit Go.Lib Go.Sort
section
variable {P:Program} {α:Type} [Inhabited α]
theorem symMergeN (L:StN P) (enc:α->Value) (cf:α->α->Int) (T:α->α->Bool) (hT:SWO T) (g:Nat) (cb:Array Value) (blk off cap sz:Nat) (d0:Array α) (w0:World)
  (eg:∀ args w,(callFunc g args).run P w = .ok (.enter g args) w) (hcmp:CmpLays1 P g cb enc cf blk off d0.size w0) (R:Row1 enc w0 blk off d0) (h0:d0.size=sz) (hsz:sz < 4611686018427387904) :
  ∀ (N a m b:Nat) (d:Array α) (w:World),b<=N+a->d.size=sz->SW enc w0 blk off d w->a < m->m < b->b<=sz->SM (ltOf cf) T a m b d ->
  Calls P 180 #[.slice (some ⟨blk,off,none⟩) sz cap,.int .i64 a,.int .i64 m,.int .i64 b,.func (.func g) #[] cb] w fun e w'=>e = .returned (.tuple #[])/\∃ d',d'.size=sz/\SW enc w0 blk off d' w'/\PermIn a b d d'/\SortedIn T a b d'
 | 0,a,m,b,d,w,hN,hs,S,ham,hmb,hb,hSM=>by omega
 | N+1,a,m,b,d,w,hN,hs,S,ham,hmb,hb,hSM=>by
  by_cases h1:m=a+1
  ·exact symMergeNA L enc cf T hT g cb blk off cap sz d0 w0 eg hcmp R h0 hsz a m b d w hs S ham hmb hb hSM h1
  ·by_cases h2:b=m+1
   ·exact symMergeNB L enc cf T hT g cb blk off cap sz d0 w0 eg hcmp R h0 hsz a m b d w hs S ham hmb hb hSM (by omega) h2
   ·exact symMergeNC L enc cf T hT g cb blk off cap sz d0 w0 eg hcmp R h0 hsz a m b d w hs S ham hmb hb hSM (by omega) (by omega) N hN (symMergeN L enc cf T hT g cb blk off cap sz d0 w0 eg hcmp R h0 hsz N)
end
end Go.Proofs.YtgplnekpgdhcpaaGreat
namespace Go.Proofs.YtgplnekpgdhcpaaGreat
open Go.Proofs Go.Shelf Go.RowKit Go.Lib Go.Sort
theorem stN_laid:StN Tryz.prog where
 mixed:=by kernel_rfl
 late:=by kernel_rfl
 unsure:=by kernel_rfl
 fSwap:=Tryz.func210
 fRot:=Tryz.func196
 fSym:=Tryz.func180
 t0:=Tryz.underlying0
 a0:=Tryz.isAgg0
 z0:=Tryz.sizeOf0
 v0:=Tryz.zeroValue0
 t3:=Tryz.underlying3
 a3:=Tryz.isAgg3
 z3:=Tryz.sizeOf3
 v3:=Tryz.zeroValue3
 t4:=Tryz.underlying4
 a4:=Tryz.isAgg4
 z4:=Tryz.sizeOf4
 v4:=Tryz.zeroValue4
 t22:=Tryz.underlying119
 a22:=Tryz.isAgg119
 z22:=Tryz.sizeOf119
 v22:=Tryz.zeroValue119
 a25:=Tryz.isAgg45
 z25:=Tryz.sizeOf45
 v25:=Tryz.zeroValue45
 t35:=Tryz.underlying148
 a35:=Tryz.isAgg148
 z35:=Tryz.sizeOf148
 v35:=Tryz.zeroValue148
section
variable {α:Type} [Inhabited α]
theorem insN_w (enc:α->Value) (cf:α->α->Int) (T:α->α->Bool) (hT:SWO T) (g:Nat) (cb:Array Value) (blk off cap sz:Nat) (d0:Array α) (w0:World)
  (eg:∀ args w,(callFunc g args).run Tryz.prog w = .ok (.enter g args) w) (hcmp:CmpLays1 Tryz.prog g cb enc cf blk off d0.size w0) (R:Row1 enc w0 blk off d0) (h0:d0.size=sz) (hsz:sz < 4611686018427387904)
  (a b:Nat) (d:Array α) (w:World) (hs:d.size=sz) (S:SW enc w0 blk off d w) (hab:a<=b) (hb:b<=sz) (hc:Compat (ltOf cf) T a b d) :
  Calls Tryz.prog 179 #[.slice (some ⟨blk,off,none⟩) sz cap,.int .i64 a,.int .i64 b,.func (.func g) #[] cb] w fun e w'=>e = .returned (.tuple #[])/\∃ d',d'.size=sz/\SW enc w0 blk off d' w'/\PermIn a b d d'/\SortedIn T a b d':=by
 have HH:=Any.insertionSortCmpFunc_s Tryz.laysSlF20_f179 enc cf g cb blk off cap a b d0 d w0 w eg hcmp R (by omega) S hab (by omega) (by omega)
 rw[hs] at HH
 refine HH.mono ?_
 rintro e w' ⟨rfl,hw⟩
 have hB:=ins_block hT hab (by rw[hs];exact hb) hc
 exact⟨rfl,_,hB.1.1.trans hs,hw,hB.1,hB.2⟩
set_option maxHeartbeats 4000000 in
set_option maxRecDepth 1000000 in
theorem stableN (enc:α->Value) (cf:α->α->Int) (T:α->α->Bool) (hT:SWO T) (g:Nat) (cb:Array Value) (blk off cap sz:Nat) (d0:Array α) (w0:World)
  (eg:∀ args w,(callFunc g args).run Tryz.prog w = .ok (.enter g args) w) (hcmp:CmpLays1 Tryz.prog g cb enc cf blk off d0.size w0) (R:Row1 enc w0 blk off d0) (h0:d0.size=sz) (hsz:sz < 1152921504606846976) (S:SW enc w0 blk off d0 w0) (hc:Compat (ltOf cf) T 0 d0.size d0) :
  Calls Tryz.prog 157 #[.slice (some ⟨blk,off,none⟩) sz cap,.int .i64 sz,.func (.func g) #[] cb] w0 fun e w'=>e = .returned (.tuple #[])/\∃ d',d'.size=sz/\SW enc w0 blk off d' w'/\PermIn 0 sz d0 d'/\SortedIn T 0 sz d':=by
 have HI:Hid (∀ (a b:Nat) (d:Array α) (w:World),d.size=sz->SW enc w0 blk off d w->a<=b->b<=sz->Compat (ltOf cf) T a b d->Calls Tryz.prog 179 #[.slice (some ⟨blk,off,none⟩) sz cap,.int .i64 a,.int .i64 b,.func (.func g) #[] cb] w fun e w'=>e = .returned (.tuple #[])/\∃ d',d'.size=sz/\SW enc w0 blk off d' w'/\PermIn a b d d'/\SortedIn T a b d'):=Lib.hid (insN_w enc cf T hT g cb blk off cap sz d0 w0 eg hcmp R h0 (by omega))
 have HM:Hid (∀ (a m b:Nat) (d:Array α) (w:World),d.size=sz->SW enc w0 blk off d w->a < m->m < b->b<=sz->SM (ltOf cf) T a m b d->Calls Tryz.prog 180 #[.slice (some ⟨blk,off,none⟩) sz cap,.int .i64 a,.int .i64 m,.int .i64 b,.func (.func g) #[] cb] w fun e w'=>e = .returned (.tuple #[])/\∃ d',d'.size=sz/\SW enc w0 blk off d' w'/\PermIn a b d d'/\SortedIn T a b d'):=Lib.hid fun a m b d w=>symMergeN stN_laid enc cf T hT g cb blk off cap sz d0 w0 eg hcmp R h0 (by omega) b a m b d w (by omega)
 have HC:Hid (Compat (ltOf cf) T 0 d0.size d0):=Lib.hid hc
 have S0:Hid (SW enc w0 blk off d0 w0):=Lib.hid S
 have H0:Hid (d0.size=sz):=Lib.hid h0
 clear hcmp R hc S h0 hT eg
 go_enter Tryz.func157,Tryz.ntmps157
 go_wp2_with (fail)
 go_loopg [7,8] sz (fun kx s7 s8 wr=>∃ (p A:Nat) (dk:Array α),s7 = .int .i64 A/\s8 = .int .i64 ((A:Int)+20)/\A<=sz/\sz - A<=kx/\Hid (SW enc w0 blk off dk wr)/\Hid (A=p * 20)/\Hid (First T d0 dk 20 p))
 case atStart=>exact⟨0,0,d0,rfl,by go_num,Nat.zero_le _,by omega,S0,Lib.hid (by omega),Lib.hid (First.start T d0 20)⟩
 case round =>
  clear S0
  obtain⟨p,A,dk,rfl,rfl,hA,hkx,S1,HA,F1⟩:=hrel
  by_cases hlt:A+20<=sz
  ·have hC:=Lib.hid (HI.out A (A+20) dk wr (F1.out.size.trans H0.out) S1.out (by omega) hlt (F1.out.compat HC.out (by rw[HA.out];exact Nat.le_refl _) (by rw[H0.out];exact hlt)))
   go_wp2_with (first | (go_at_call 179;refine hC.out.mono ?_;rintro e9 w9 ⟨rfl,d',t1,t2,t3,t4⟩;have Q:=Lib.hid (And.intro t1 (And.intro t2 (And.intro t3 t4)));clear t1 t2 t3 t4))
   go_roundg (sz - (A+20))
   case measure=>omega
   case rel=>exact⟨p+1,A+20,d',by go_num,by go_num,hlt,Nat.le_refl _,Lib.hid Q.out.2.1,Lib.hid (by have:=HA.out;omega),Lib.hid (F1.out.step (by rw[<- HA.out,H0.out];exact hlt) (by rw[<- HA.out];exact Q.out.2.2.1) (by rw[<- HA.out];exact Q.out.2.2.2))⟩
  ·have hC:=Lib.hid (HI.out A sz dk wr (F1.out.size.trans H0.out) S1.out hA (Nat.le_refl _) (F1.out.compat HC.out (by rw[HA.out];exact Nat.le_refl _) (by rw[H0.out];exact Nat.le_refl _)))
   go_wp2_with (first | (go_at_call 179;refine hC.out.mono ?_;rintro e9 w9 ⟨rfl,d',t1,t2,t3,t4⟩;have Q:=Lib.hid (And.intro t1 (And.intro t2 (And.intro t3 t4)));clear t1 t2 t3 t4))
   have AL:Hid (All T d0 d' 20):=Lib.hid (F1.out.all (by rw[<- HA.out,H0.out];exact hA) (by rw[<- HA.out,H0.out];omega) (by rw[<- HA.out,H0.out];exact Q.out.2.2.1) (by rw[<- HA.out,H0.out];exact Q.out.2.2.2))
   have S2:Hid (SW enc w0 blk off d' w9):=Lib.hid Q.out.2.1
   clear Q hC F1 HA S1 hlt hkx hA
   go_loopg [6] (2 * sz+20) (fun kx s6 wr=>∃ (bs:Nat) (dk:Array α),s6 = .int .i64 bs/\0 < bs/\bs<=2 * sz+20/\2 * sz+20 - bs<=kx/\Hid (SW enc w0 blk off dk wr)/\Hid (All T d0 dk bs))
   case atStart=>exact⟨20,d',rfl,by omega,by omega,by omega,S2,AL⟩
   case round =>
    clear S2 AL
    obtain⟨bs,dk,rfl,hb0,hbs,hkx,S3,A3⟩:=hrel
    by_cases hlt:bs < sz
    ·have rw2:IntKind.i64.wrap (2 * (bs:Int))=((2 * bs:Nat):Int):=by rw[IntKind.wrap_i64];omega
     go_wp2_with (fail)
     go_loopg [7,8] sz (fun kx s7 s8 wr=>∃ (p A:Nat) (dk:Array α),s7 = .int .i64 A/\s8 = .int .i64 ((A+2 * bs:Nat):Int)/\A<=sz/\sz - A<=kx/\Hid (SW enc w0 blk off dk wr)/\Hid (A=p * (2 * bs))/\Hid (Pairs T d0 dk bs p))
     case atStart=>exact⟨0,0,dk,rfl,by go_num,Nat.zero_le _,by omega,S3,Lib.hid (by omega),Lib.hid A3.out.pairs⟩
     case round =>
      clear S3 A3
      obtain⟨p,A,dk,rfl,rfl,hA,hkx2,S1,HA,F1⟩:=hrel
      have rA:IntKind.i64.wrap ((A:Int)+(bs:Int))=((A+bs:Nat):Int):=by rw[IntKind.wrap_i64];omega
      by_cases hle:A+2 * bs<=sz
      ·have hsm:Hid (SM (ltOf cf) T A (A+bs) (A+2 * bs) dk):=Lib.hid (by
        have g1:=F1.out.first hb0 (by rw[<- HA.out,H0.out];omega)
        have g2:=F1.out.last hb0 (by rw[<- HA.out,H0.out];omega)
        rw[<- HA.out] at g1 g2
        rw[H0.out,show min (A+2 * bs) sz=A+2 * bs by omega] at g2
        exact g1.sm g2 (fun i j h1 h2 h3=>HC.out i j (Nat.zero_le _) h2 (by rw[H0.out];omega)) (by rw[F1.out.size,H0.out];exact hle) (by rw[H0.out];exact hle))
       have hC:=Lib.hid (HM.out A (A+bs) (A+2 * bs) dk wr (F1.out.size.trans H0.out) S1.out (by omega) (by omega) hle hsm.out)
       obtain⟨ab,hab⟩:∃ ab,ab=A+bs:=⟨_,rfl⟩
       obtain⟨a2,ha2⟩:∃ a2,a2=A+2 * bs:=⟨_,rfl⟩
       obtain⟨b2,hb2⟩:∃ b2,b2=2 * bs:=⟨_,rfl⟩
       obtain⟨a4,ha4⟩:∃ a4,a4=a2+b2:=⟨_,rfl⟩
       clear rA rw2
       have rA:IntKind.i64.wrap ((A:Int)+(bs:Int))=(ab:Int):=by rw[IntKind.wrap_i64];omega
       have rw2:IntKind.i64.wrap (2 * (bs:Int))=(b2:Int):=by rw[IntKind.wrap_i64];omega
       have rB:IntKind.i64.wrap ((a2:Int)+(b2:Int))=(a4:Int):=by rw[IntKind.wrap_i64];omega
       have hlez:(a2:Int)<=(sz:Int):=by omega
       rw[<- ha2,<- hab] at hC
       rw[<- ha2]
       have HAB:=Lib.hid hab
       have HA2:=Lib.hid ha2
       have HA4:=Lib.hid ha4
       have HB2:=Lib.hid hb2
       clear hab ha2 ha4 hb2
       go_wp2_with (first | (go_at_call 180;refine hC.out.mono ?_;rintro e9 w9 ⟨rfl,d',t1,t2,t3,t4⟩;have Q:=Lib.hid (And.intro t1 (And.intro t2 (And.intro t3 t4)));clear t1 t2 t3 t4))
       go_roundg (sz - a2)
       case measure=>have:=HA2.out;omega
       case rel=>exact⟨p+1,a2,d',by go_num,by rw[HA4.out,HB2.out],by have:=HA2.out;omega,Nat.le_refl _,Lib.hid Q.out.2.1,Lib.hid (by rw[HA2.out,HA.out,Nat.add_mul,Nat.one_mul]),Lib.hid (F1.out.step hb0 (by rw[<- HA.out,H0.out];exact hle) (by rw[<- HA.out,<- HA2.out];exact Q.out.2.2.1) (by rw[<- HA.out,<- HA2.out];exact Q.out.2.2.2))⟩
      ·have hlez:¬ ((A+2 * bs:Nat):Int)<=(sz:Int):=by omega
       obtain⟨a2,ha2⟩:∃ a2,a2=A+2 * bs:=⟨_,rfl⟩
       rw[<- ha2] at hlez ⊢
       have HA2:=Lib.hid ha2
       clear ha2
       have rC:IntKind.i64.wrap ((bs:Int) * 2)=((2 * bs:Nat):Int):=by rw[IntKind.wrap_i64];omega
       by_cases hm:A+bs < sz
       ·have hsm:Hid (SM (ltOf cf) T A (A+bs) sz dk):=Lib.hid (by
         have g1:=F1.out.first hb0 (by rw[<- HA.out,H0.out];omega)
         have g2:=F1.out.last hb0 (by rw[<- HA.out,H0.out];omega)
         rw[<- HA.out] at g1 g2
         rw[H0.out,show min (A+2 * bs) sz=sz by omega] at g2
         exact g1.sm g2 (fun i j h1 h2 h3=>HC.out i j (Nat.zero_le _) h2 (by rw[H0.out];omega)) (by rw[F1.out.size,H0.out];exact Nat.le_refl _) (by rw[H0.out];exact Nat.le_refl _))
        have hC:=Lib.hid (HM.out A (A+bs) sz dk wr (F1.out.size.trans H0.out) S1.out (by omega) hm (Nat.le_refl _) hsm.out)
        have hmz:((A+bs:Nat):Int) < (sz:Int):=by omega
        obtain⟨ab,hab⟩:∃ ab,ab=A+bs:=⟨_,rfl⟩
        rw[<- hab] at hC rA hmz
        clear hab
        go_wp2_with (first | (go_at_call 180;refine hC.out.mono ?_;rintro e9 w9 ⟨rfl,d',t1,t2,t3,t4⟩;have Q:=Lib.hid (And.intro t1 (And.intro t2 (And.intro t3 t4)));clear t1 t2 t3 t4))
        go_roundg (2 * sz+20 - 2 * bs)
        case measure=>omega
        case rel=>exact⟨2 * bs,d',rfl,by omega,by omega,Nat.le_refl _,Lib.hid Q.out.2.1,Lib.hid (F1.out.end2 hb0 (by rw[<- HA.out,H0.out];exact hm) (by rw[<- HA.out,H0.out];omega) (by rw[<- HA.out,H0.out];exact Q.out.2.2.1) (by rw[<- HA.out,H0.out];exact Q.out.2.2.2))⟩
       ·have hmz:¬ ((A+bs:Nat):Int) < (sz:Int):=by omega
        obtain⟨ab,hab⟩:∃ ab,ab=A+bs:=⟨_,rfl⟩
        rw[<- hab] at rA hmz
        clear hab
        go_wp2_with (fail)
        go_roundg (2 * sz+20 - 2 * bs)
        case measure=>omega
        case rel=>exact⟨2 * bs,dk,rfl,by omega,by omega,Nat.le_refl _,S1,Lib.hid (F1.out.end1 hb0 (by rw[<- HA.out,H0.out];exact hA) (by rw[<- HA.out,H0.out];omega))⟩
    ·go_wp2_with (fail)
     go_end0
     have E:=A3.out.end_ (by rw[H0.out];omega)
     rw[H0.out] at E
     exact⟨rfl,dk,A3.out.size.trans H0.out,S3.out,E.1,E.2⟩
theorem sortStableN (enc:α->Value) (cf:α->α->Int) (T:α->α->Bool) (hT:SWO T) (g:Nat) (cb:Array Value) (blk off cap sz:Nat) (d0:Array α) (w0:World)
  (eg:∀ args w,(callFunc g args).run Tryz.prog w = .ok (.enter g args) w) (hcmp:CmpLays1 Tryz.prog g cb enc cf blk off d0.size w0) (R:Row1 enc w0 blk off d0) (h0:d0.size=sz) (hsz:sz < 1152921504606846976) (S:SW enc w0 blk off d0 w0) (hc:Compat (ltOf cf) T 0 d0.size d0) :
  Calls Tryz.prog 123 #[.slice (some ⟨blk,off,none⟩) sz cap,.func (.func g) #[] cb] w0 fun e w'=>e = .returned (.tuple #[])/\∃ d',d'.size=sz/\SW enc w0 blk off d' w'/\PermIn 0 sz d0 d'/\SortedIn T 0 sz d':=by
 have HS:=Lib.hid (stableN enc cf T hT g cb blk off cap sz d0 w0 eg hcmp R h0 hsz S hc)
 clear hcmp R hc S h0 hT eg
 go_enter Tryz.func123,Tryz.ntmps123
 go_wp2_with (first | (go_at_call 157;refine HS.out.mono ?_;rintro e9 w9 ⟨rfl,t1⟩))
 go_end0
 exact⟨rfl,t1⟩
end
end Go.Proofs.YtgplnekpgdhcpaaGreat
namespace Go.Proofs.YtgplnekpgdhcpaaGreat
open Go.RowKit
structure LotV where
 id:Int
 item:List UInt8
 fr:Int
 un:Int
 qty:Int
 arr:Bool
deriving DecidableEq
instance:Inhabited LotV:=⟨⟨0,[],0,0,0,false⟩⟩
structure WantV where
 item:List UInt8
 day:Int
 qty:Int
deriving DecidableEq
instance:Inhabited WantV:=⟨⟨[],0,0⟩⟩
structure UseV where
 want:Int
 lot:Int
 qty:Int
deriving DecidableEq
instance:Inhabited UseV:=⟨⟨0,0,0⟩⟩
structure LineV where
 id:Int
 item:List UInt8
 qty:Int
 asked:Int
 rank:Int
 st:Int
 day:Int
 code:List UInt8
deriving DecidableEq
instance:Inhabited LineV:=⟨⟨0,[],0,0,0,0,0,[]⟩⟩
end Go.Proofs.YtgplnekpgdhcpaaGreat
namespace Go.Proofs.YtgplnekpgdhcpaaGreat
open Go.RowKit
def encLot (x:LotV):List Value:=[.int .i64 x.id,encStr x.item,.int .i64 x.fr,.int .i64 x.un,.int .i64 x.qty,.bool x.arr]
def okLot (x:LotV):Prop:=(-9223372036854775808<=x.id/\x.id<=9223372036854775807)/\x.item.length<=9223372036854775807/\(-9223372036854775808<=x.fr/\x.fr<=9223372036854775807)/\(-9223372036854775808<=x.un/\x.un<=9223372036854775807)/\(-9223372036854775808<=x.qty/\x.qty<=9223372036854775807)
set_option maxRecDepth 100000 in
theorem lotE_under:Tryz.prog.underlying 23=some (.slice 50):=Tryz.underlying23
theorem lotE_info:(Tryz.prog.info? 50).map (fun i=>(i.zero,i.size,i.bytes))=some (some (.agg #[.int .i64 0,.string ⟨#[]⟩,.int .i64 0,.int .i64 0,.int .i64 0,.bool false]),6,56):=by kernel_rfl
def lotE:El LotV where
 e:=50
 t:=23
 k:=6
 bytes:=56
 z:=.agg #[.int .i64 0,.string ⟨#[]⟩,.int .i64 0,.int .i64 0,.int .i64 0,.bool false]
 enc:=encLot
 ok:=okLot
 len:=fun _=>rfl
 one:=fun x u hu=>by
  unfold encLot at hu
  simp only[List.mem_cons,List.not_mem_nil,or_false] at hu
  rcases hu with rfl | rfl | rfl | rfl | rfl | rfl <;> rfl
 kpos:=by decide
 under:=lotE_under
 info:=lotE_info
 zc:=rfl
 small:=by decide
theorem lotE_at {B:Nat} {w:World} {a:Option Addr} {n c:Nat} {X:List LotV} (h:lotE.In B w a n c X) (hc:0 < c):∃ b o,a=some ⟨b,o,none⟩/\b < B/\∀ i,i < n->w.cell? ⟨b,o+i * 6,none⟩=some (.int .i64 (X.getD i default).id)/\w.cell? ⟨b,o+i * 6+1,none⟩=some (encStr (X.getD i default).item)/\w.cell? ⟨b,o+i * 6+2,none⟩=some (.int .i64 (X.getD i default).fr)/\w.cell? ⟨b,o+i * 6+3,none⟩=some (.int .i64 (X.getD i default).un)/\w.cell? ⟨b,o+i * 6+4,none⟩=some (.int .i64 (X.getD i default).qty)/\w.cell? ⟨b,o+i * 6+5,none⟩=some (.bool (X.getD i default).arr):=by
 obtain⟨b,o,e,hb,hcell⟩:=h.at_ hc
 exact⟨b,o,e,hb,fun i hi=>⟨hcell i hi 0 (by decide),hcell i hi 1 (by decide),hcell i hi 2 (by decide),hcell i hi 3 (by decide),hcell i hi 4 (by decide),hcell i hi 5 (by decide)⟩⟩
theorem lotE_lit (W:World) (x:LotV) (t:TypeId):∀ j u,(lotE.cells [x])[j]? = some u->(W.alloc (.cells #[.int .i64 x.id,encStr x.item,.int .i64 x.fr,.int .i64 x.un,.int .i64 x.qty,.bool x.arr] t)).cell? ((⟨W.heap.size,0,none⟩:Addr).add j)=some u:=El.one_lit (E:=lotE) W x _ t rfl
end Go.Proofs.YtgplnekpgdhcpaaGreat
namespace Go.Proofs.YtgplnekpgdhcpaaGreat
open Go.RowKit
def hasW (fr un day:Int):Bool:=decide (0<=fr) && decide (fr<=un) && decide (un<=4001) && decide (fr<=day) && decide (day < un)
def lotOk (l:LotV):Bool:=decide (1<=l.id) && okCode l.item && decide (0<=l.fr) && decide (l.fr < l.un) && decide (l.un<=4001) && decide (1<=l.qty) && decide (l.qty<=1073741824)
def wantOk (w:WantV):Bool:=okCode w.item && decide (0<=w.day) && decide (w.day<=4000) && decide (1<=w.qty) && decide (w.qty<=1125899906842624)
def idsOk (L:List LotV):Bool:=decide ((L.map (·.id)).Nodup)
def mayB (L:List LotV) (W:List WantV):Bool:=decide (L.length<=300) && decide (W.length<=20000) && L.all lotOk && idsOk L && W.all wantOk
def leL (a b:LotV):Bool:=decide (a.un < b.un) || (decide (a.un=b.un) && decide (a.id<=b.id))
theorem leL_trans (a b c:LotV) (h:leL a b=true) (h2:leL b c=true):leL a c=true:=by
 unfold leL at *
 simp only[Bool.or_eq_true,Bool.and_eq_true,decide_eq_true_eq] at *
 omega
theorem leL_total (a b:LotV):(leL a b || leL b a)=true:=by
 unfold leL
 simp only[Bool.or_eq_true,Bool.and_eq_true,decide_eq_true_eq]
 omega
def srt (L:List LotV):List LotV:=L.mergeSort leL
theorem srt_sorted (L:List LotV):(srt L).Pairwise fun a b=>leL a b=true:=List.pairwise_mergeSort leL_trans leL_total L
theorem srt_perm (L:List LotV):(srt L).Perm L:=List.mergeSort_perm L leL
theorem srt_only {L S:List LotV} (hi:(L.map (·.id)).Nodup) (hp:S.Perm L) (hs:S.Pairwise fun a b=>leL a b=true):S=srt L:=by
 refine List.Perm.eq_of_pairwise (le:=fun a b=>leL a b=true) (fun a b ha hb h1 h2=>?_) hs (srt_sorted L) (hp.trans (srt_perm L).symm)
 have hid:a.id=b.id:=by
  unfold leL at h1 h2
  simp only[Bool.or_eq_true,Bool.and_eq_true,decide_eq_true_eq] at h1 h2
  omega
 have ha':a∈L:=hp.mem_iff.1 ha
 have hb':b∈L:=(srt_perm L).mem_iff.1 hb
 obtain⟨i,hi1,rfl⟩:=List.getElem_of_mem ha'
 obtain⟨j,hj1,rfl⟩:=List.getElem_of_mem hb'
 have:=(List.getElem?_inj (i:=i) (j:=j) (by simpa using hi1) hi).1 (by simp[hi1,hj1,hid])
 subst this
 rfl
def upd (f:Int->Int) (i v:Int):Int->Int:=fun j=>if j=i then v else f j
theorem upd_same (f:Int->Int) (i v:Int):upd f i v i=v:=by unfold upd;rw[if_pos rfl]
theorem upd_other (f:Int->Int) {i j:Int} (v:Int) (h:j≠i):upd f i v j=f j:=by unfold upd;rw[if_neg h]
def pass (day:Int) (at_:Int):List LotV->(Int->Int)->Int->List UseV×(Int->Int)×Int
 | [],f,need=>([],f,need)
 | l :: C,f,need =>
  if min need (f l.id)=0∨hasW l.fr l.un day=false then pass day at_ C f need
  else (⟨at_,l.id,min need (f l.id)⟩ :: (pass day at_ C (upd f l.id (f l.id - min need (f l.id))) (need - min need (f l.id))).1,(pass day at_ C (upd f l.id (f l.id - min need (f l.id))) (need - min need (f l.id))).2)
theorem pass_cons (day at_:Int) (l:LotV) (C:List LotV) (f:Int->Int) (need:Int):pass day at_ (l :: C) f need=if min need (f l.id)=0∨hasW l.fr l.un day=false then pass day at_ C f need
  else (⟨at_,l.id,min need (f l.id)⟩ :: (pass day at_ C (upd f l.id (f l.id - min need (f l.id))) (need - min need (f l.id))).1,(pass day at_ C (upd f l.id (f l.id - min need (f l.id))) (need - min need (f l.id))).2):=rfl
theorem pass_skip {day at_:Int} {A B:List LotV} {f:Int->Int} {need:Int} (hn:0<=need) (h:∀ a∈A,f a.id=0∨hasW a.fr a.un day=false):pass day at_ (A ++ B) f need=pass day at_ B f need:=by
 induction A with
 | nil=>rfl
 | cons a A ih =>
  rw[List.cons_append,pass_cons,if_pos ?_]
  ·exact ih fun x hx=>h x (List.mem_cons_of_mem _ hx)
  ·rcases h a List.mem_cons_self with h | h
   ·exact .inl (by rw[h];omega)
   ·exact .inr h
theorem pass_step {day at_:Int} {A B:List LotV} {k:LotV} {f:Int->Int} {need:Int} (hn:0 < need) (h:∀ a∈A,f a.id=0∨hasW a.fr a.un day=false) (hk:0 < f k.id) (hh:hasW k.fr k.un day=true) :
  pass day at_ (A ++ k :: B) f need=(⟨at_,k.id,min need (f k.id)⟩ :: (pass day at_ (A ++ k :: B) (upd f k.id (f k.id - min need (f k.id))) (need - min need (f k.id))).1,(pass day at_ (A ++ k :: B) (upd f k.id (f k.id - min need (f k.id))) (need - min need (f k.id))).2):=by
 have hA:∀ a∈A,upd f k.id (f k.id - min need (f k.id)) a.id=0∨hasW a.fr a.un day=false:=fun a ha=>by
  rcases h a ha with h1 | h1
  ·exact .inl (by rw[upd_other _ _ (fun e=>by rw[e] at h1;omega)];exact h1)
  ·exact .inr h1
 rw[pass_skip (by omega) h,pass_skip (by omega) hA]
 have e1:pass day at_ (k :: B) (upd f k.id (f k.id - min need (f k.id))) (need - min need (f k.id))=pass day at_ B (upd f k.id (f k.id - min need (f k.id))) (need - min need (f k.id)):=by
  rw[pass_cons,if_pos (.inl (by rw[upd_same];omega))]
 rw[e1,pass_cons,if_neg (fun e=>by
  rcases e with e | e
  ·omega
  ·rw[hh] at e;cases e)]
theorem pass_left (day at_:Int):∀ (A:List LotV) (f:Int->Int) (need:Int),0<=need->(∀ a∈A,0<=f a.id)->(∀ j,0<=f j->0<=(pass day at_ A f need).2.1 j)/\0<=(pass day at_ A f need).2.2/\(pass day at_ A f need).2.2<=need
 | [],f,need,hn,_=>⟨fun j h=>h,hn,Int.le_refl _⟩
 | l :: C,f,need,hn,h=>by
  have hl:=h l List.mem_cons_self
  rw[pass_cons]
  split
  ·exact pass_left day at_ C f need hn fun x hx=>h x (List.mem_cons_of_mem _ hx)
  ·have hu:∀ j,0<=f j->0<=upd f l.id (f l.id - min need (f l.id)) j:=fun j hj=>by
    unfold upd
    split
    ·omega
    ·exact hj
   obtain⟨h1,h2,h3⟩:=pass_left day at_ C (upd f l.id (f l.id - min need (f l.id))) (need - min need (f l.id)) (by omega) fun x hx=>hu _ (h x (List.mem_cons_of_mem _ hx))
   exact⟨fun j hj=>h1 j (hu j hj),h2,Int.le_trans h3 (by omega)⟩
def leD (W:List WantV) (a b:Nat):Bool:=decide ((W.getD a default).day < (W.getD b default).day) || (decide ((W.getD a default).day=(W.getD b default).day) && decide (a<=b))
theorem leD_trans (W:List WantV) (a b c:Nat) (h:leD W a b=true) (h2:leD W b c=true):leD W a c=true:=by
 unfold leD at *
 simp only[Bool.or_eq_true,Bool.and_eq_true,decide_eq_true_eq] at *
 omega
theorem leD_total (W:List WantV) (a b:Nat):(leD W a b || leD W b a)=true:=by
 unfold leD
 simp only[Bool.or_eq_true,Bool.and_eq_true,decide_eq_true_eq]
 omega
theorem leD_anti {W:List WantV} {a b:Nat} (h:leD W a b=true) (h2:leD W b a=true):a=b:=by
 unfold leD at *
 simp only[Bool.or_eq_true,Bool.and_eq_true,decide_eq_true_eq] at *
 omega
def dayO (W:List WantV):List Nat:=(List.range W.length).mergeSort (leD W)
theorem dayO_sorted (W:List WantV):(dayO W).Pairwise fun a b=>leD W a b=true:=List.pairwise_mergeSort (leD_trans W) (leD_total W) _
theorem dayO_perm (W:List WantV):(dayO W).Perm (List.range W.length):=List.mergeSort_perm _ _
theorem dayO_len (W:List WantV):(dayO W).length=W.length:=by rw[(dayO_perm W).length_eq,List.length_range]
theorem dayO_mem {W:List WantV} {i:Nat}:i∈dayO W↔i < W.length:=by rw[(dayO_perm W).mem_iff,List.mem_range]
theorem dayO_only {W:List WantV} {S:List Nat} (hp:S.Perm (List.range W.length)) (hs:S.Pairwise fun a b=>leD W a b=true):S=dayO W :=
 List.Perm.eq_of_pairwise (le:=fun a b=>leD W a b=true) (fun _ _ _ _ h1 h2=>leD_anti h1 h2) hs (dayO_sorted W) (hp.trans (dayO_perm W).symm)
def fillF (S:List LotV) (W:List WantV):List Nat->(Int->Int)->List UseV->Option (List UseV×(Int->Int))
 | [],f,out=>some (out,f)
 | i :: os,f,out =>
  if 0 < (pass (W.getD i default).day i (S.filter fun l=>decide (l.item=(W.getD i default).item)) f (W.getD i default).qty).2.2 then none
  else fillF S W os (pass (W.getD i default).day i (S.filter fun l=>decide (l.item=(W.getD i default).item)) f (W.getD i default).qty).2.1 (out ++ (pass (W.getD i default).day i (S.filter fun l=>decide (l.item=(W.getD i default).item)) f (W.getD i default).qty).1)
def left0 (L:List LotV):Int->Int:=fun i=>((L.find? fun l=>decide (l.id=i)).map (·.qty)).getD 0
def fillX (L:List LotV) (W:List WantV):Option (List UseV×(Int->Int)):=if mayB L W=true then fillF (srt L) W (dayO W) (left0 L) [] else none
end Go.Proofs.YtgplnekpgdhcpaaGreat
