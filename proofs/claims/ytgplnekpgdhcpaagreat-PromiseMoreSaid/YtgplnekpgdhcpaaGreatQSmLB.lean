/- slices.SortStableFunc at api.Lot: slices.swapRangeCmpFunc, slices.rotateCmpFunc: walks. (Printed by gen/sorts.py.) slices.SortStableFunc at api.Lot: slices.symMergeCmpFunc, one element on the left. (Printed by gen/sorts.py.) slices.SortStableFunc at api.Lot: slices.symMergeCmpFunc, one element on the right. (Printed by gen/sorts.py.) -/
import Derived.Shelf.SlSortCmp.KitK
import Derived.Shelf.SlSortCmp.Kit1
import Derived.Sort.WalkB2
import Derived.Sort.WalkB12
import Derived.Deep.LoopGhost
import Derived.Deep.DeepCutAuto
import Derived.Lib.Hide
import Derived.Test.YtgplnekpgdhcpaaGreatQMerge
import Derived.Test.YtgplnekpgdhcpaaGreatProg
namespace Go.Proofs.YtgplnekpgdhcpaaGreat
open Go.Proofs Go.Shelf Go.RowKit Go.Lib Go.Sort
structure StL (P:Program) (k:Nat):Prop where
 mixed:P.follows .mixedOrders=true
 late:P.follows .lateStores=true
 unsure:P.follows .lateStoresUnsure=true
 fSwap:P.funcs[209]? = some Tryz.f209
 fRot:P.funcs[195]? = some Tryz.f195
 fSym:P.funcs[178]? = some Tryz.f178
 t0:P.underlying 0=some (TypeDesc.tuple #[])
 a0:∀ w,(isAgg 0).run P w = .ok false w
 z0:∀ w,(Go.sizeOf 0).run P w = .ok 1 w
 v0:∀ w,(zeroValue 0).run P w = .ok (Value.tuple #[]) w
 t3:P.underlying 3=some (TypeDesc.int IntKind.i64)
 a3:∀ w,(isAgg 3).run P w = .ok false w
 z3:∀ w,(Go.sizeOf 3).run P w = .ok 1 w
 v3:∀ w,(zeroValue 3).run P w = .ok (Value.int IntKind.i64 0) w
 t4:P.underlying 4=some (TypeDesc.bool)
 a4:∀ w,(isAgg 4).run P w = .ok false w
 z4:∀ w,(Go.sizeOf 4).run P w = .ok 1 w
 v4:∀ w,(zeroValue 4).run P w = .ok (Value.bool false) w
 t22:P.underlying 23=some (TypeDesc.slice 50)
 a22:∀ w,(isAgg 23).run P w = .ok false w
 z22:∀ w,(Go.sizeOf 23).run P w = .ok 1 w
 v22:∀ w,(zeroValue 23).run P w = .ok (Value.slice none 0 0) w
 a25:∀ w,(isAgg 150).run P w = .ok false w
 z25:∀ w,(Go.sizeOf 150).run P w = .ok 1 w
 v25:∀ w,(zeroValue 150).run P w = .ok (Value.nilFunc) w
 t35:P.underlying 148=some (TypeDesc.int IntKind.u64)
 a35:∀ w,(isAgg 148).run P w = .ok false w
 z35:∀ w,(Go.sizeOf 148).run P w = .ok 1 w
 v35:∀ w,(zeroValue 148).run P w = .ok (Value.int IntKind.u64 0) w
 aE:∀ w,(isAgg 50).run P w = .ok true w
 zE:∀ w,(Go.sizeOf 50).run P w = .ok k w
section
variable {P:Program} {α:Type} [Inhabited α]
set_option maxHeartbeats 4000000 in
set_option maxRecDepth 1000000 in
theorem swapRangeL (k:Nat) (L:StL P k) (enc:α->List Value) (fv:Value) (blk off cap a b n sz:Nat) (d0 d:Array α) (w0 w:World)
  (R:RowK enc k w0 blk off d0) (h0:d0.size=sz) (hs:d.size=sz) (S:SWK enc k w0 blk off d w) (hab:a+n<=b) (hb:b+n<=sz) (hsz:sz < 4611686018427387904) :
  Calls P 209 #[.slice (some ⟨blk,off,none⟩) sz cap,.int .i64 a,.int .i64 b,.int .i64 n,fv] w fun e w'=>e = .returned (.tuple #[])/\∃ d',d'.size=sz/\SWK enc k w0 blk off d' w'/\(∀ x,d'[x]! = swF d a b n x)/\∀ A B,A<=a->b+n<=B->B<=sz->PermIn A B d d':=by
 have mixed:=L.mixed;have late:=L.late;have unsure:=L.unsure
 have t0:=L.t0;have a0:=L.a0;have z0:=L.z0;have v0:=L.v0;have t3:=L.t3;have a3:=L.a3;have z3:=L.z3;have v3:=L.v3;have t4:=L.t4;have a4:=L.a4;have z4:=L.z4;have v4:=L.v4;have t22:=L.t22;have a22:=L.a22;have z22:=L.z22;have v22:=L.v22;have t35:=L.t35;have a35:=L.a35;have z35:=L.z35;have v35:=L.v35;have a25:=L.a25;have z25:=L.z25;have v25:=L.v25
 have u0:=run_underlying L.t0;have u3:=run_underlying L.t3;have u4:=run_underlying L.t4;have u22:=run_underlying L.t22;have u35:=run_underlying L.t35
 have aE:=L.aE;have zE:=L.zE
 have FG:=L.fSwap
 have S0:Aside (SWK enc k w0 blk off d w):=S
 have HS:Aside (d.size=sz):=hs
 clear S
 go_enter FG,Tryz.ntmps209
 go_wp2
 go_loopg [10] n (fun kx s10 wr=>∃ (i:Nat) (dk:Array α),s10 = .int .i64 i/\i<=n/\n - i<=kx/\dk.size=sz/\Aside (SWK enc k w0 blk off dk wr)/\Aside (∀ x,dk[x]! = swF d a b i x)/\Aside (∀ A B,A<=a->b+n<=B->B<=sz->PermIn A B d dk))
 case atStart=>exact⟨0,d,rfl,Nat.zero_le _,by omega,hs,S0,(fun x=>(swF_zero d a b x).symm:_),(fun A B _ _ _=>permIn_refl d A B:_)⟩
 case round =>
  clear S0
  obtain⟨i,dk,rfl,hi,hkx,hds,S1,X1,P1⟩:=hrel
  by_cases hlt:i < n
  ·have hltz:(i:Int) < (n:Int):=by omega
   go_wp2_with fail
   have ea44:((a:Int)+(i:Int)).toNat=a+i:=by omega
   have pa44:(0:Int)<=(a:Int)+(i:Int):=by omega
   have ba44:(a:Int)+(i:Int) < (sz:Int):=by omega
   have ra44:IntKind.i64.wrap ((a:Int)+(i:Int))=(a:Int)+(i:Int):=by rw[IntKind.wrap_i64];omega
   have ec44:((b:Int)+(i:Int)).toNat=b+i:=by omega
   have pc44:(0:Int)<=(b:Int)+(i:Int):=by omega
   have bc44:(b:Int)+(i:Int) < (sz:Int):=by omega
   have rc44:IntKind.i64.wrap ((b:Int)+(i:Int))=(b:Int)+(i:Int):=by rw[IntKind.wrap_i64];omega
   have S2:Aside (SWK enc k w0 blk off (swp dk (a+i) (b+i)) ((wr.drew.setCells blk (off+(a+i) * k) (enc dk[b+i]!)).setCells blk (off+(b+i) * k) (enc dk[a+i]!))):=S1.out.swapped R (a+i) (b+i) (by omega) (by omega)
   have l44a:=S1.out.ld1 R (by omega) P (a+i) (by omega)
   have l44b:=S1.out.ld1 R (by omega) P (b+i) (by omega)
   have s44a:=S1.out.st1 R (by omega) P (a+i) (by omega) dk[b+i]!
   have s44b:=S1.out.st2 R (by omega) P (a+i) (b+i) (by omega) (by omega) dk[b+i]! dk[a+i]!
   have n44a:(enc dk[a+i]!).length=k:=R.hk _
   have n44b:(enc dk[b+i]!).length=k:=R.hk _
   generalize enc dk[a+i]! = cI44 at S2 l44a s44b n44a
   generalize enc dk[b+i]! = cJ44 at S2 l44b s44a s44b n44b
   clear S1
   go_wp2_with fail
   go_big_region_o
   clear l44a l44b s44a s44b
   generalize (wr.drew.setCells blk (off+(a+i) * k) cJ44).setCells blk (off+(b+i) * k) cI44=w2 at S2 ⊢
   go_wp2
   go_roundg (n - (i+1))
   case measure=>omega
   case rel=>exact⟨i+1,swp dk (a+i) (b+i),by go_num,by omega,Nat.le_refl _,by rw[size_swp];exact hds,S2,swF_step (by rw[hds,HS.out]) hab (by rw[HS.out];exact hb) hlt X1.out,fun A B h1 h2 h3=>swap_in (P1.out A B h1 h2 h3) (by omega) (by omega) (by omega) (by omega) (by rw[HS.out];exact h3)⟩
  ·have hi2:i=n:=by omega
   subst hi2
   go_wp2
   go_end0
   exact⟨rfl,dk,hds,S1.out,X1.out,P1.out⟩
set_option maxHeartbeats 4000000 in
set_option maxRecDepth 1000000 in
theorem rotateL (k:Nat) (L:StL P k) (enc:α->List Value) (fv:Value) (blk off cap a m b sz:Nat) (d0 d:Array α) (w0 w:World)
  (R:RowK enc k w0 blk off d0) (h0:d0.size=sz) (hs:d.size=sz) (S:SWK enc k w0 blk off d w) (ham:a < m) (hmb:m < b) (hb:b<=sz) (hsz:sz < 4611686018427387904) :
  Calls P 195 #[.slice (some ⟨blk,off,none⟩) sz cap,.int .i64 a,.int .i64 m,.int .i64 b,fv] w fun e w'=>e = .returned (.tuple #[])/\∃ d',d'.size=sz/\SWK enc k w0 blk off d' w'/\(∀ x,d'[x]! = rotF d a m b x)/\PermIn a b d d':=by
 have HSR:Hid (∀ (x y n:Nat) (dk:Array α) (W:World),dk.size=sz->SWK enc k w0 blk off dk W->x+n<=y->y+n<=sz->Calls P 209 #[.slice (some ⟨blk,off,none⟩) sz cap,.int .i64 x,.int .i64 y,.int .i64 n,fv] W fun e w'=>e = .returned (.tuple #[])/\∃ d',d'.size=sz/\SWK enc k w0 blk off d' w'/\(∀ z,d'[z]! = swF dk x y n z)/\∀ A B,A<=x->y+n<=B->B<=sz->PermIn A B dk d'):=Lib.hid fun x y n dk W h1 h2 h3 h4=>swapRangeL k L enc fv blk off cap x y n sz d0 dk w0 W R h0 h1 h2 h3 h4 hsz
 have mixed:=L.mixed;have late:=L.late;have unsure:=L.unsure
 have t0:=L.t0;have a0:=L.a0;have z0:=L.z0;have v0:=L.v0;have t3:=L.t3;have a3:=L.a3;have z3:=L.z3;have v3:=L.v3;have t4:=L.t4;have a4:=L.a4;have z4:=L.z4;have v4:=L.v4;have t22:=L.t22;have a22:=L.a22;have z22:=L.z22;have v22:=L.v22;have t35:=L.t35;have a35:=L.a35;have z35:=L.z35;have v35:=L.v35;have a25:=L.a25;have z25:=L.z25;have v25:=L.v25
 have u0:=run_underlying L.t0;have u3:=run_underlying L.t3;have u4:=run_underlying L.t4;have u22:=run_underlying L.t22;have u35:=run_underlying L.t35
 have aE:=L.aE;have zE:=L.zE
 have eS:∀ args w,(callFunc 209 args).run P w = .ok (.enter 209 args) w:=enters_of L.fSwap (by kernel_rfl) rfl
 have FG:=L.fRot
 have S0:Aside (SWK enc k w0 blk off d w):=S
 clear S R
 have rA:IntKind.i64.wrap ((m:Int) - (a:Int))=((m - a:Nat):Int):=by rw[IntKind.wrap_i64];omega
 have rB:IntKind.i64.wrap ((b:Int) - (m:Int))=((b - m:Nat):Int):=by rw[IntKind.wrap_i64];omega
 go_enter FG,Tryz.ntmps195
 go_wp2
 go_loopg [10,11] b (fun kx s10 s11 wr=>∃ (i j:Nat) (dk:Array α),s10 = .int .i64 i/\s11 = .int .i64 j/\0 < i/\0 < j/\i+a<=m/\m+j<=b/\i+j<=kx/\dk.size=sz/\Aside (SWK enc k w0 blk off dk wr)/\Aside (∀ x,rotF dk (m - i) m (m+j) x=rotF d a m b x)/\Aside (PermIn a b d dk))
 case atStart=>exact⟨m - a,b - m,d,by go_num,by go_num,by omega,by omega,by omega,by omega,by omega,hs,S0,(fun x=>by rw[show m - (m - a)=a by omega,show m+(b - m)=b by omega]:_),(permIn_refl d a b:_)⟩
 case round =>
  clear S0 rA rB
  obtain⟨i,j,dk,rfl,rfl,hi,hj,him,hjb,hkx,hds,S1,X1,P1⟩:=hrel
  have rm:IntKind.i64.wrap ((m:Int) - (i:Int))=((m - i:Nat):Int):=by rw[IntKind.wrap_i64];omega
  by_cases hij:i=j
  ·subst hij
   have hC:=Lib.hid (HSR.out (m - i) m i dk wr hds S1.out (by omega) (by omega))
   go_wp2_with (first | (go_at_call 209;refine hC.out.mono ?_;rintro e w9 ⟨rfl,d',q1,q2,q3,q4⟩))
   go_end0
   refine⟨rfl,d',q1,q2,fun x=>?_,permIn_trans _ _ _ _ _ P1.out (q4 a b (by omega) (by omega) hb)⟩
   rw[<- X1.out]
   exact rot_eq (by omega) q3 x
  ·by_cases hgt:j < i
   ·have hC:=Lib.hid (HSR.out (m - i) m j dk wr hds S1.out (by omega) (by omega))
    have hne:¬ (i:Int)=(j:Int):=by omega
    have hgz:(j:Int) < (i:Int):=by omega
    have rij:IntKind.i64.wrap ((i:Int) - (j:Int))=((i - j:Nat):Int):=by rw[IntKind.wrap_i64];omega
    go_wp2_with (first | (go_at_call 209;refine hC.out.mono ?_;rintro e w9 ⟨rfl,d',q1,q2,q3,q4⟩;have Q:Aside (SWK enc k w0 blk off d' w9/\(∀ z,d'[z]! = swF dk (m - i) m j z)/\∀ A B,A<=m - i->m+j<=B->B<=sz->PermIn A B dk d'):=⟨q2,q3,q4⟩;clear q2 q3 q4))
    go_roundg (i - j+j)
    case measure=>omega
    case rel=>exact⟨i - j,j,d',by go_num,by go_num,by omega,hj,by omega,hjb,by omega,q1,Q.out.1,fun x=>(rot_gt hj hgt (by omega) Q.out.2.1 x).trans (X1.out x),permIn_trans _ _ _ _ _ P1.out (Q.out.2.2 a b (by omega) (by omega) hb)⟩
   ·have hC:=Lib.hid (HSR.out (m - i) (m+j - i) i dk wr hds S1.out (by omega) (by omega))
    have hne:¬ (i:Int)=(j:Int):=by omega
    have hgz:¬ (j:Int) < (i:Int):=by omega
    have rij:IntKind.i64.wrap ((j:Int) - (i:Int))=((j - i:Nat):Int):=by rw[IntKind.wrap_i64];omega
    have rmj:IntKind.i64.wrap ((m:Int)+(j:Int))=(m:Int)+(j:Int):=by rw[IntKind.wrap_i64];omega
    have rmi:IntKind.i64.wrap ((m:Int)+(j:Int) - (i:Int))=((m+j - i:Nat):Int):=by rw[IntKind.wrap_i64];omega
    go_wp2_with (first | (go_at_call 209;refine hC.out.mono ?_;rintro e w9 ⟨rfl,d',q1,q2,q3,q4⟩;have Q:Aside (SWK enc k w0 blk off d' w9/\(∀ z,d'[z]! = swF dk (m - i) (m+j - i) i z)/\∀ A B,A<=m - i->m+j - i+i<=B->B<=sz->PermIn A B dk d'):=⟨q2,q3,q4⟩;clear q2 q3 q4))
    go_roundg (i+(j - i))
    case measure=>omega
    case rel=>exact⟨i,j - i,d',by go_num,by go_num,hi,by omega,him,by omega,by omega,q1,Q.out.1,fun x=>(rot_lt hi (by omega) (by omega) Q.out.2.1 x).trans (X1.out x),permIn_trans _ _ _ _ _ P1.out (Q.out.2.2 a b (by omega) (by omega) hb)⟩
end
end Go.Proofs.YtgplnekpgdhcpaaGreat
namespace Go.Proofs.YtgplnekpgdhcpaaGreat
open Go.Proofs Go.Shelf Go.RowKit Go.Lib Go.Sort
section
variable {P:Program} {α:Type} [Inhabited α]
set_option maxHeartbeats 8000000 in
set_option maxRecDepth 1000000 in
theorem symMergeLA (k:Nat) (L:StL P k) (enc:α->List Value) (cf:α->α->Int) (T:α->α->Bool) (hT:SWO T) (g:Nat) (cb:Array Value) (blk off cap sz:Nat) (d0:Array α) (w0:World)
  (eg:∀ args w,(callFunc g args).run P w = .ok (.enter g args) w) (hcmp:CmpLays P g cb enc k cf blk off d0.size w0) (R:RowK enc k w0 blk off d0) (h0:d0.size=sz) (hsz:sz < 4611686018427387904)
  (a m b:Nat) (d:Array α) (w:World) (hs:d.size=sz) (S:SWK enc k w0 blk off d w) (ham:a < m) (hmb:m < b) (hb:b<=sz) (hSM:SM (ltOf cf) T a m b d) (h1:m=a+1) :
  Calls P 178 #[.slice (some ⟨blk,off,none⟩) sz cap,.int .i64 a,.int .i64 m,.int .i64 b,.func (.func g) #[] cb] w fun e w'=>e = .returned (.tuple #[])/\∃ d',d'.size=sz/\SWK enc k w0 blk off d' w'/\PermIn a b d d'/\SortedIn T a b d':=by
 have mixed:=L.mixed;have late:=L.late;have unsure:=L.unsure
 have t0:=L.t0;have a0:=L.a0;have z0:=L.z0;have v0:=L.v0;have t3:=L.t3;have a3:=L.a3;have z3:=L.z3;have v3:=L.v3;have t4:=L.t4;have a4:=L.a4;have z4:=L.z4;have v4:=L.v4;have t22:=L.t22;have a22:=L.a22;have z22:=L.z22;have v22:=L.v22;have t35:=L.t35;have a35:=L.a35;have z35:=L.z35;have v35:=L.v35;have a25:=L.a25;have z25:=L.z25;have v25:=L.v25
 have u0:=run_underlying L.t0;have u3:=run_underlying L.t3;have u4:=run_underlying L.t4;have u22:=run_underlying L.t22;have u35:=run_underlying L.t35
 have aE:=L.aE;have zE:=L.zE
 have FG:=L.fSym
 have HC:Aside _:=hcmp
 have S0:Aside (SWK enc k w0 blk off d w):=S
 have M:Aside _:=hSM
 have HT:Aside _:=hT
 have HS:Aside (d.size=sz):=hs
 have hd0:d.size<=sz:=Nat.le_of_eq hs
 have hd1:sz<=d.size:=Nat.le_of_eq hs.symm
 have hd2:d0.size<=sz:=Nat.le_of_eq h0
 have hd3:sz<=d0.size:=Nat.le_of_eq h0.symm
 clear S hSM hcmp hT hs h0
 have CR:Aside (∀ i j,a<=i->i < m->m<=j->j < b->ltOf cf d[j]! d[i]! = T d[j]! d[i]!):=M.out.cross
 have rA:IntKind.i64.wrap ((m:Int) - (a:Int))=(m:Int) - (a:Int):=by rw[IntKind.wrap_i64];omega
 have rB:IntKind.i64.wrap ((b:Int) - (m:Int))=(b:Int) - (m:Int):=by rw[IntKind.wrap_i64];omega
 go_enter FG,Tryz.ntmps178
 have e1:(m:Int) - (a:Int)=1:=by omega
 have e1b:((m:Int) - (a:Int) == 1)=true:=by simp[e1]
 have H1:Aside (m=a+1):=h1
 have h1a:m<=a+1:=by omega
 have h1b:a+1<=m:=by omega
 clear h1
 go_wp2
 go_loopg [10,11] (b - m) (fun kx s10 s11 wr=>∃ i j:Nat,s10 = .int .i64 i/\s11 = .int .i64 j/\m<=i/\i<=j/\j<=b/\j - i<=kx/\Aside (SWK enc k w0 blk off d wr)/\Aside ((∀ x,m<=x->x < i->T d[x]! d[a]! = true)/\(∀ x,j<=x->x < b->T d[x]! d[a]! = false)))
 case atStart=>exact⟨m,b,rfl,rfl,Nat.le_refl _,by omega,Nat.le_refl _,Nat.le_refl _,S0,(⟨fun x h1 h2=>by omega,fun x h1 h2=>by omega⟩:(∀ x,m<=x->x < m->T d[x]! d[a]! = true)/\(∀ x,b<=x->x < b->T d[x]! d[a]! = false))⟩
 case round =>
  clear S0 e1 e1b rA rB
  obtain⟨i,j,rfl,rfl,hmi,hij,hjb,hkx,S1,I⟩:=hrel
  by_cases hlt:i < j
  ·have hltz:(i:Int) < (j:Int):=by omega
   cases hlv:ltOf cf d[(i+j) / 2]! d[a]! with
   | true =>
    have hh:Aside (T d[(i+j) / 2]! d[a]! = true):=(CR.out a ((i+j) / 2) (by omega) (by omega) (by omega) (by omega)).symm.trans hlv
    have ea61:(((i:Int)+(j:Int)) / 2).toNat=(i+j) / 2:=by omega
    have ec61:((a:Int)).toNat=a:=by omega
    have pa61:(0:Int)<=((i:Int)+(j:Int)) / 2:=by omega
    have ba61:((i:Int)+(j:Int)) / 2 < (sz:Int):=by omega
    have ra61:IntKind.i64.wrap (((i:Int)+(j:Int)) / 2)=((i:Int)+(j:Int)) / 2:=by rw[IntKind.wrap_i64];omega
    have pc61:(0:Int)<=(a:Int):=by omega
    have bc61:(a:Int) < (sz:Int):=by omega
    have rc61:IntKind.i64.wrap ((a:Int))=(a:Int):=by rw[IntKind.wrap_i64];omega
    obtain⟨x61,hx61⟩:∃ x,x=d[(i+j) / 2]!:=⟨_,rfl⟩
    obtain⟨y61,hy61⟩:∃ x,x=d[a]!:=⟨_,rfl⟩
    have l61a:=S1.out.ld R (by omega) P ((i+j) / 2) (by omega)
    have l61b:=S1.out.ld R (by omega) P (a) (by omega)
    rw[<- hx61] at l61a
    rw[<- hy61] at l61b
    have hc61:=S1.out.cmp HC.out (by omega) x61 y61
    have hv61:cf x61 y61 < 0:=by rw[hx61,hy61];exact of_decide_eq_true hlv
    have hd61:decide (cf x61 y61 < 0)=true:=decide_eq_true hv61
    clear hx61 hy61 hlv
    go_wp2_with fail
    go_quiet_grown (first | (go_at_fn g;refine Calls.grown_of (hc61 _ _)))
    have S2:Aside (SWK enc k w0 blk off d (grow (wr.drewN nq) osq)):=S1.out.grown nq osq
    clear l61a l61b hc61
    generalize grow (wr.drewN nq) osq=w2 at S2 ⊢
    clear nq osq ea61 ec61
    go_wp2
    go_roundg (j - ((i+j) / 2+1))
    case measure=>omega
    case rel =>
     have I2:Aside ((∀ x,m<=x->x < (i+j) / 2+1->T d[x]! d[a]! = true)/\(∀ x,j<=x->x < b->T d[x]! d[a]! = false)):=⟨fun x h2 h3=>le_lt HT.out (M.out.le_right HT.out h2 (show x<=(i+j) / 2 by omega) (by omega)) hh.out,I.out.2⟩
     exact⟨(i+j) / 2+1,j,by rw[show ((i:Int)+(j:Int)) / 2+1=(((i+j) / 2+1:Nat):Int) by omega],rfl,by omega,by omega,hjb,Nat.le_refl _,S2,I2⟩
   | false =>
    have hh:Aside (T d[(i+j) / 2]! d[a]! = false):=(CR.out a ((i+j) / 2) (by omega) (by omega) (by omega) (by omega)).symm.trans hlv
    have ea61:(((i:Int)+(j:Int)) / 2).toNat=(i+j) / 2:=by omega
    have ec61:((a:Int)).toNat=a:=by omega
    have pa61:(0:Int)<=((i:Int)+(j:Int)) / 2:=by omega
    have ba61:((i:Int)+(j:Int)) / 2 < (sz:Int):=by omega
    have ra61:IntKind.i64.wrap (((i:Int)+(j:Int)) / 2)=((i:Int)+(j:Int)) / 2:=by rw[IntKind.wrap_i64];omega
    have pc61:(0:Int)<=(a:Int):=by omega
    have bc61:(a:Int) < (sz:Int):=by omega
    have rc61:IntKind.i64.wrap ((a:Int))=(a:Int):=by rw[IntKind.wrap_i64];omega
    obtain⟨x61,hx61⟩:∃ x,x=d[(i+j) / 2]!:=⟨_,rfl⟩
    obtain⟨y61,hy61⟩:∃ x,x=d[a]!:=⟨_,rfl⟩
    have l61a:=S1.out.ld R (by omega) P ((i+j) / 2) (by omega)
    have l61b:=S1.out.ld R (by omega) P (a) (by omega)
    rw[<- hx61] at l61a
    rw[<- hy61] at l61b
    have hc61:=S1.out.cmp HC.out (by omega) x61 y61
    have hv61:¬ cf x61 y61 < 0:=by rw[hx61,hy61];exact of_decide_eq_false hlv
    have hd61:decide (cf x61 y61 < 0)=false:=decide_eq_false hv61
    clear hx61 hy61 hlv
    go_wp2_with fail
    go_quiet_grown (first | (go_at_fn g;refine Calls.grown_of (hc61 _ _)))
    have S2:Aside (SWK enc k w0 blk off d (grow (wr.drewN nq) osq)):=S1.out.grown nq osq
    clear l61a l61b hc61
    generalize grow (wr.drewN nq) osq=w2 at S2 ⊢
    clear nq osq ea61 ec61
    go_wp2
    go_roundg ((i+j) / 2 - i)
    case measure=>omega
    case rel =>
     have I2:Aside ((∀ x,m<=x->x < i->T d[x]! d[a]! = true)/\(∀ x,(i+j) / 2<=x->x < b->T d[x]! d[a]! = false)):=⟨I.out.1,fun x h2 h3=>HT.out.ntrans _ _ _ (M.out.le_right HT.out (show m<=(i+j) / 2 by omega) h2 h3) hh.out⟩
     exact⟨i,(i+j) / 2,rfl,by rw[show ((i:Int)+(j:Int)) / 2=(((i+j) / 2:Nat):Int) by omega],hmi,by omega,by omega,Nat.le_refl _,S2,I2⟩
  ·have hji:j=i:=by omega
   subst hji
   have hltz:¬ (j:Int) < (j:Int):=by omega
   have rC:IntKind.i64.wrap ((j:Int) - 1)=(j:Int) - 1:=by rw[IntKind.wrap_i64];omega
   go_wp2
   go_loopg [13] (j - 1) (fun kx s13 wr=>∃ (kk:Nat) (dk:Array α),s13 = .int .i64 kk/\a<=kk/\kk+1<=j/\j - 1 - kk<=kx/\dk.size=sz/\Aside (SWK enc k w0 blk off dk wr)/\Aside (∀ x,dk[x]! = rotF d a (a+1) (kk+1) x)/\Aside (PermIn a b d dk))
   case atStart=>exact⟨a,d,rfl,Nat.le_refl _,by omega,by omega,HS.out,S1,(rot_up0 d a:_),(permIn_refl d a b:_)⟩
   case round =>
    clear S1
    obtain⟨kk,dk,rfl,hak,hkj,hkx2,hds,S1,X1,P1⟩:=hrel
    by_cases hk:kk+1 < j
    ·have hkz:(kk:Int) < (j:Int) - 1:=by omega
     go_wp2_with fail
     have ea51:((kk:Int)).toNat=kk:=by omega
     have pa51:(0:Int)<=(kk:Int):=by omega
     have ba51:(kk:Int) < (sz:Int):=by omega
     have ra51:IntKind.i64.wrap ((kk:Int))=(kk:Int):=by rw[IntKind.wrap_i64];omega
     have ec51:((kk:Int)+1).toNat=kk+1:=by omega
     have pc51:(0:Int)<=(kk:Int)+1:=by omega
     have bc51:(kk:Int)+1 < (sz:Int):=by omega
     have rc51:IntKind.i64.wrap ((kk:Int)+1)=(kk:Int)+1:=by rw[IntKind.wrap_i64];omega
     have S2:Aside (SWK enc k w0 blk off (swp dk (kk) (kk+1)) ((wr.drew.setCells blk (off+(kk) * k) (enc dk[kk+1]!)).setCells blk (off+(kk+1) * k) (enc dk[kk]!))):=S1.out.swapped R (kk) (kk+1) (by omega) (by omega)
     have l51a:=S1.out.ld1 R (by omega) P (kk) (by omega)
     have l51b:=S1.out.ld1 R (by omega) P (kk+1) (by omega)
     have s51a:=S1.out.st1 R (by omega) P (kk) (by omega) dk[kk+1]!
     have s51b:=S1.out.st2 R (by omega) P (kk) (kk+1) (by omega) (by omega) dk[kk+1]! dk[kk]!
     have n51a:(enc dk[kk]!).length=k:=R.hk _
     have n51b:(enc dk[kk+1]!).length=k:=R.hk _
     generalize enc dk[kk]! = cI51 at S2 l51a s51b n51a
     generalize enc dk[kk+1]! = cJ51 at S2 l51b s51a s51b n51b
     clear S1
     go_wp2_with fail
     go_big_region_o
     clear l51a l51b s51a s51b
     generalize (wr.drew.setCells blk (off+(kk) * k) cJ51).setCells blk (off+(kk+1) * k) cI51=w2 at S2 ⊢
     go_wp2
     go_roundg (j - 1 - (kk+1))
     case measure=>omega
     case rel=>exact⟨kk+1,swp dk kk (kk+1),by go_num,by omega,by omega,Nat.le_refl _,by rw[size_swp];exact hds,S2,rot_up (by rw[hds,HS.out]) hak (by omega) X1.out,swap_in P1.out (by omega) (by omega) (by omega) (by omega) (by omega)⟩
    ·have hkz:¬ (kk:Int) < (j:Int) - 1:=by omega
     have hkj2:kk+1=j:=by omega
     go_wp2
     first | go_end0 | ((try simp only[Exit.inBlock,Exit.then]);refine bodyPost_ret (results_none rfl _ _ _) rfl ?_)
     refine⟨rfl,dk,hds,S1.out,P1.out,sm_one HT.out (i:=j) (by have:=M.out;rw[H1.out] at this;exact this) (by omega) hjb (fun x h2 h3=>I.out.1 x (by omega) h3) I.out.2 (fun x=>by rw[X1.out x,hkj2])⟩
end
end Go.Proofs.YtgplnekpgdhcpaaGreat
namespace Go.Proofs.YtgplnekpgdhcpaaGreat
open Go.Proofs Go.Shelf Go.RowKit Go.Lib Go.Sort
section
variable {P:Program} {α:Type} [Inhabited α]
set_option maxHeartbeats 8000000 in
set_option maxRecDepth 1000000 in
theorem symMergeLB (k:Nat) (L:StL P k) (enc:α->List Value) (cf:α->α->Int) (T:α->α->Bool) (hT:SWO T) (g:Nat) (cb:Array Value) (blk off cap sz:Nat) (d0:Array α) (w0:World)
  (eg:∀ args w,(callFunc g args).run P w = .ok (.enter g args) w) (hcmp:CmpLays P g cb enc k cf blk off d0.size w0) (R:RowK enc k w0 blk off d0) (h0:d0.size=sz) (hsz:sz < 4611686018427387904)
  (a m b:Nat) (d:Array α) (w:World) (hs:d.size=sz) (S:SWK enc k w0 blk off d w) (_ham:a < m) (hmb:m < b) (hb:b<=sz) (hSM:SM (ltOf cf) T a m b d) (h1c:a+2<=m) (h2:b=m+1) :
  Calls P 178 #[.slice (some ⟨blk,off,none⟩) sz cap,.int .i64 a,.int .i64 m,.int .i64 b,.func (.func g) #[] cb] w fun e w'=>e = .returned (.tuple #[])/\∃ d',d'.size=sz/\SWK enc k w0 blk off d' w'/\PermIn a b d d'/\SortedIn T a b d':=by
 have mixed:=L.mixed;have late:=L.late;have unsure:=L.unsure
 have t0:=L.t0;have a0:=L.a0;have z0:=L.z0;have v0:=L.v0;have t3:=L.t3;have a3:=L.a3;have z3:=L.z3;have v3:=L.v3;have t4:=L.t4;have a4:=L.a4;have z4:=L.z4;have v4:=L.v4;have t22:=L.t22;have a22:=L.a22;have z22:=L.z22;have v22:=L.v22;have t35:=L.t35;have a35:=L.a35;have z35:=L.z35;have v35:=L.v35;have a25:=L.a25;have z25:=L.z25;have v25:=L.v25
 have u0:=run_underlying L.t0;have u3:=run_underlying L.t3;have u4:=run_underlying L.t4;have u22:=run_underlying L.t22;have u35:=run_underlying L.t35
 have aE:=L.aE;have zE:=L.zE
 have FG:=L.fSym
 have HC:Aside _:=hcmp
 have S0:Aside (SWK enc k w0 blk off d w):=S
 have M:Aside _:=hSM
 have HT:Aside _:=hT
 have HS:Aside (d.size=sz):=hs
 have hd0:d.size<=sz:=Nat.le_of_eq hs
 have hd1:sz<=d.size:=Nat.le_of_eq hs.symm
 have hd2:d0.size<=sz:=Nat.le_of_eq h0
 have hd3:sz<=d0.size:=Nat.le_of_eq h0.symm
 clear S hSM hcmp hT hs h0
 have CR:Aside (∀ i j,a<=i->i < m->m<=j->j < b->ltOf cf d[j]! d[i]! = T d[j]! d[i]!):=M.out.cross
 have rA:IntKind.i64.wrap ((m:Int) - (a:Int))=(m:Int) - (a:Int):=by rw[IntKind.wrap_i64];omega
 have rB:IntKind.i64.wrap ((b:Int) - (m:Int))=(b:Int) - (m:Int):=by rw[IntKind.wrap_i64];omega
 go_enter FG,Tryz.ntmps178
 have e1:¬ (m:Int) - (a:Int)=1:=by omega
 have e1b:((m:Int) - (a:Int) == 1)=false:=by simp[e1]
 have e2:(b:Int) - (m:Int)=1:=by omega
 have e2b:((b:Int) - (m:Int) == 1)=true:=by simp[e2]
 have H2:Aside (b=m+1):=h2
 have h2a:b<=m+1:=by omega
 have h2b:m+1<=b:=by omega
 clear h2
 go_wp2
 go_loopg [14,15] (m - a) (fun kx s10 s11 wr=>∃ i j:Nat,s10 = .int .i64 i/\s11 = .int .i64 j/\a<=i/\i<=j/\j<=m/\j - i<=kx/\Aside (SWK enc k w0 blk off d wr)/\Aside ((∀ x,a<=x->x < i->T d[m]! d[x]! = false)/\(∀ x,j<=x->x < m->T d[m]! d[x]! = true)))
 case atStart=>exact⟨a,m,rfl,rfl,Nat.le_refl _,by omega,Nat.le_refl _,Nat.le_refl _,S0,(⟨fun x h1 h2=>by omega,fun x h1 h2=>by omega⟩:(∀ x,a<=x->x < a->T d[m]! d[x]! = false)/\(∀ x,m<=x->x < m->T d[m]! d[x]! = true))⟩
 case round =>
  clear S0 e1 e1b e2 e2b rA rB
  obtain⟨i,j,rfl,rfl,hai,hij,hjm,hkx,S1,I⟩:=hrel
  by_cases hlt:i < j
  ·have hltz:(i:Int) < (j:Int):=by omega
   cases hlv:ltOf cf d[m]! d[(i+j) / 2]! with
   | true =>
    have hh:Aside (T d[m]! d[(i+j) / 2]! = true):=(CR.out ((i+j) / 2) m (by omega) (by omega) (by omega) (by omega)).symm.trans hlv
    have ea62:((m:Int)).toNat=m:=by omega
    have ec62:(((i:Int)+(j:Int)) / 2).toNat=(i+j) / 2:=by omega
    have pa62:(0:Int)<=(m:Int):=by omega
    have ba62:(m:Int) < (sz:Int):=by omega
    have ra62:IntKind.i64.wrap ((m:Int))=(m:Int):=by rw[IntKind.wrap_i64];omega
    have pc62:(0:Int)<=((i:Int)+(j:Int)) / 2:=by omega
    have bc62:((i:Int)+(j:Int)) / 2 < (sz:Int):=by omega
    have rc62:IntKind.i64.wrap (((i:Int)+(j:Int)) / 2)=((i:Int)+(j:Int)) / 2:=by rw[IntKind.wrap_i64];omega
    obtain⟨x62,hx62⟩:∃ x,x=d[m]!:=⟨_,rfl⟩
    obtain⟨y62,hy62⟩:∃ x,x=d[(i+j) / 2]!:=⟨_,rfl⟩
    have l62a:=S1.out.ld R (by omega) P (m) (by omega)
    have l62b:=S1.out.ld R (by omega) P ((i+j) / 2) (by omega)
    rw[<- hx62] at l62a
    rw[<- hy62] at l62b
    have hc62:=S1.out.cmp HC.out (by omega) x62 y62
    have hv62:cf x62 y62 < 0:=by rw[hx62,hy62];exact of_decide_eq_true hlv
    have hd62:decide (cf x62 y62 < 0)=true:=decide_eq_true hv62
    clear hx62 hy62 hlv
    go_wp2_with fail
    go_quiet_grown (first | (go_at_fn g;refine Calls.grown_of (hc62 _ _)))
    have S2:Aside (SWK enc k w0 blk off d (grow (wr.drewN nq) osq)):=S1.out.grown nq osq
    clear l62a l62b hc62
    generalize grow (wr.drewN nq) osq=w2 at S2 ⊢
    clear nq osq ea62 ec62
    go_wp2
    go_roundg ((i+j) / 2 - i)
    case measure=>omega
    case rel =>
     have I2:Aside ((∀ x,a<=x->x < i->T d[m]! d[x]! = false)/\(∀ x,(i+j) / 2<=x->x < m->T d[m]! d[x]! = true)):=⟨I.out.1,fun x h2 h3=>lt_le HT.out hh.out (M.out.le_left HT.out (show a<=(i+j) / 2 by omega) h2 h3)⟩
     exact⟨i,(i+j) / 2,rfl,by rw[show ((i:Int)+(j:Int)) / 2=(((i+j) / 2:Nat):Int) by omega],hai,by omega,by omega,Nat.le_refl _,S2,I2⟩
   | false =>
    have hh:Aside (T d[m]! d[(i+j) / 2]! = false):=(CR.out ((i+j) / 2) m (by omega) (by omega) (by omega) (by omega)).symm.trans hlv
    have ea62:((m:Int)).toNat=m:=by omega
    have ec62:(((i:Int)+(j:Int)) / 2).toNat=(i+j) / 2:=by omega
    have pa62:(0:Int)<=(m:Int):=by omega
    have ba62:(m:Int) < (sz:Int):=by omega
    have ra62:IntKind.i64.wrap ((m:Int))=(m:Int):=by rw[IntKind.wrap_i64];omega
    have pc62:(0:Int)<=((i:Int)+(j:Int)) / 2:=by omega
    have bc62:((i:Int)+(j:Int)) / 2 < (sz:Int):=by omega
    have rc62:IntKind.i64.wrap (((i:Int)+(j:Int)) / 2)=((i:Int)+(j:Int)) / 2:=by rw[IntKind.wrap_i64];omega
    obtain⟨x62,hx62⟩:∃ x,x=d[m]!:=⟨_,rfl⟩
    obtain⟨y62,hy62⟩:∃ x,x=d[(i+j) / 2]!:=⟨_,rfl⟩
    have l62a:=S1.out.ld R (by omega) P (m) (by omega)
    have l62b:=S1.out.ld R (by omega) P ((i+j) / 2) (by omega)
    rw[<- hx62] at l62a
    rw[<- hy62] at l62b
    have hc62:=S1.out.cmp HC.out (by omega) x62 y62
    have hv62:¬ cf x62 y62 < 0:=by rw[hx62,hy62];exact of_decide_eq_false hlv
    have hd62:decide (cf x62 y62 < 0)=false:=decide_eq_false hv62
    clear hx62 hy62 hlv
    go_wp2_with fail
    go_quiet_grown (first | (go_at_fn g;refine Calls.grown_of (hc62 _ _)))
    have S2:Aside (SWK enc k w0 blk off d (grow (wr.drewN nq) osq)):=S1.out.grown nq osq
    clear l62a l62b hc62
    generalize grow (wr.drewN nq) osq=w2 at S2 ⊢
    clear nq osq ea62 ec62
    go_wp2
    go_roundg (j - ((i+j) / 2+1))
    case measure=>omega
    case rel =>
     have I2:Aside ((∀ x,a<=x->x < (i+j) / 2+1->T d[m]! d[x]! = false)/\(∀ x,j<=x->x < m->T d[m]! d[x]! = true)):=⟨fun x h2 h3=>HT.out.ntrans _ _ _ hh.out (M.out.le_left HT.out h2 (show x<=(i+j) / 2 by omega) (by omega)),I.out.2⟩
     exact⟨(i+j) / 2+1,j,by rw[show ((i:Int)+(j:Int)) / 2+1=(((i+j) / 2+1:Nat):Int) by omega],rfl,by omega,by omega,hjm,Nat.le_refl _,S2,I2⟩
  ·have hji:j=i:=by omega
   subst hji
   have hltz:¬ (j:Int) < (j:Int):=by omega
   go_wp2
   go_loopg [17] (m - j) (fun kx s17 wr=>∃ (kk:Nat) (dk:Array α),s17 = .int .i64 kk/\j<=kk/\kk<=m/\kk - j<=kx/\dk.size=sz/\Aside (SWK enc k w0 blk off dk wr)/\Aside (∀ x,dk[x]! = rotF d kk m (m+1) x)/\Aside (PermIn a b d dk))
   case atStart=>exact⟨m,d,rfl,hjm,Nat.le_refl _,Nat.le_refl _,HS.out,S1,(rot_down0 d m:_),(permIn_refl d a b:_)⟩
   case round =>
    clear S1
    obtain⟨kk,dk,rfl,hjk,hkm,hkx2,hds,S1,X1,P1⟩:=hrel
    by_cases hk:j < kk
    ·obtain⟨kp,rfl⟩:∃ kp,kk=kp+1:=⟨kk - 1,by omega⟩
     have hkz:(j:Int) < (kp:Int)+1:=by omega
     have rk:IntKind.i64.wrap (kp:Int)=(kp:Int):=by rw[IntKind.wrap_i64];omega
     go_wp2_with fail
     have ea52:((kp:Int)+1).toNat=kp+1:=by omega
     have pa52:(0:Int)<=(kp:Int)+1:=by omega
     have ba52:(kp:Int)+1 < (sz:Int):=by omega
     have ra52:IntKind.i64.wrap ((kp:Int)+1)=(kp:Int)+1:=by rw[IntKind.wrap_i64];omega
     have ec52:((kp:Int)).toNat=kp:=by omega
     have pc52:(0:Int)<=(kp:Int):=by omega
     have bc52:(kp:Int) < (sz:Int):=by omega
     have rc52:IntKind.i64.wrap ((kp:Int))=(kp:Int):=by rw[IntKind.wrap_i64];omega
     have S2:Aside (SWK enc k w0 blk off (swp dk (kp+1) (kp)) ((wr.drew.setCells blk (off+(kp+1) * k) (enc dk[kp]!)).setCells blk (off+(kp) * k) (enc dk[kp+1]!))):=S1.out.swapped R (kp+1) (kp) (by omega) (by omega)
     have l52a:=S1.out.ld1 R (by omega) P (kp+1) (by omega)
     have l52b:=S1.out.ld1 R (by omega) P (kp) (by omega)
     have s52a:=S1.out.st1 R (by omega) P (kp+1) (by omega) dk[kp]!
     have s52b:=S1.out.st2 R (by omega) P (kp+1) (kp) (by omega) (by omega) dk[kp]! dk[kp+1]!
     have n52a:(enc dk[kp+1]!).length=k:=R.hk _
     have n52b:(enc dk[kp]!).length=k:=R.hk _
     generalize enc dk[kp+1]! = cI52 at S2 l52a s52b n52a
     generalize enc dk[kp]! = cJ52 at S2 l52b s52a s52b n52b
     clear S1
     go_wp2_with fail
     go_big_region_o
     clear l52a l52b s52a s52b
     generalize (wr.drew.setCells blk (off+(kp+1) * k) cJ52).setCells blk (off+(kp) * k) cI52=w2 at S2 ⊢
     go_wp2
     go_roundg (kp - j)
     case measure=>omega
     case rel=>exact⟨kp,swp dk (kp+1) kp,by go_num,by omega,by omega,Nat.le_refl _,by rw[size_swp];exact hds,S2,(rot_down (by rw[hds,HS.out]) (by omega) hkm (by omega) X1.out:∀ x,(swp dk (kp+1) (kp+1 - 1))[x]! = rotF d (kp+1 - 1) m (m+1) x),swap_in P1.out (by omega) (by omega) (by omega) (by omega) (by omega)⟩
    ·have hkz:¬ (j:Int) < (kk:Int):=by omega
     have hkj2:kk=j:=by omega
     go_wp2
     first | go_end0 | ((try simp only[Exit.inBlock,Exit.then]);refine bodyPost_ret (results_none rfl _ _ _) rfl ?_)
     refine⟨rfl,dk,hds,S1.out,P1.out,?_⟩
     rw[H2.out]
     exact sm_last HT.out (i:=j) (by have:=M.out;rw[H2.out] at this;exact this) hai hjm I.out.1 I.out.2 (fun x=>by rw[X1.out x,hkj2])
end
end Go.Proofs.YtgplnekpgdhcpaaGreat
