/- slices.SortStableFunc at int: slices.symMergeCmpFunc, one element on the left. (Printed by gen/sorts.py.) slices.SortStableFunc at int: slices.symMergeCmpFunc, one element on the right. (Printed by gen/sorts.py.) -/
import Derived.Test.YtgplnekpgdhcpaaGreatQStN
namespace Go.Proofs.YtgplnekpgdhcpaaGreat
open Go.Proofs Go.Shelf Go.RowKit Go.Lib Go.Sort
section
variable {P:Program} {α:Type} [Inhabited α]
set_option maxHeartbeats 8000000 in
set_option maxRecDepth 1000000 in
theorem symMergeNA (L:StN P) (enc:α->Value) (cf:α->α->Int) (T:α->α->Bool) (hT:SWO T) (g:Nat) (cb:Array Value) (blk off cap sz:Nat) (d0:Array α) (w0:World)
  (eg:∀ args w,(callFunc g args).run P w = .ok (.enter g args) w) (hcmp:CmpLays1 P g cb enc cf blk off d0.size w0) (R:Row1 enc w0 blk off d0) (h0:d0.size=sz) (hsz:sz < 4611686018427387904)
  (a m b:Nat) (d:Array α) (w:World) (hs:d.size=sz) (S:SW enc w0 blk off d w) (ham:a < m) (hmb:m < b) (hb:b<=sz) (hSM:SM (ltOf cf) T a m b d) (h1:m=a+1) :
  Calls P 180 #[.slice (some ⟨blk,off,none⟩) sz cap,.int .i64 a,.int .i64 m,.int .i64 b,.func (.func g) #[] cb] w fun e w'=>e = .returned (.tuple #[])/\∃ d',d'.size=sz/\SW enc w0 blk off d' w'/\PermIn a b d d'/\SortedIn T a b d':=by
 have mixed:=L.mixed;have late:=L.late;have unsure:=L.unsure
 have t0:=L.t0;have a0:=L.a0;have z0:=L.z0;have v0:=L.v0;have t3:=L.t3;have a3:=L.a3;have z3:=L.z3;have v3:=L.v3;have t4:=L.t4;have a4:=L.a4;have z4:=L.z4;have v4:=L.v4;have t22:=L.t22;have a22:=L.a22;have z22:=L.z22;have v22:=L.v22;have t35:=L.t35;have a35:=L.a35;have z35:=L.z35;have v35:=L.v35;have a25:=L.a25;have z25:=L.z25;have v25:=L.v25
 have u0:=run_underlying L.t0;have u3:=run_underlying L.t3;have u4:=run_underlying L.t4;have u22:=run_underlying L.t22;have u35:=run_underlying L.t35
 have hcl0:=R.hO.cells
 simp only[Value.cells] at hcl0
 have hst:=R.hO.store P
 have FG:=L.fSym
 have HC:Aside _:=hcmp
 have S0:Aside (SW enc w0 blk off d w):=S
 have M:Aside _:=hSM
 have HT:Aside _:=hT
 have HS:Aside (d.size=sz):=hs
 have hd0:d.size<=sz:=Nat.le_of_eq hs
 have hd1:sz<=d.size:=Nat.le_of_eq hs.symm
 have hd2:d0.size<=sz:=Nat.le_of_eq h0
 have hd3:sz<=d0.size:=Nat.le_of_eq h0.symm
 clear S hSM hcmp hT hs h0
 have CR:Aside (∀ i j,a<=i->i < m->m<=j->j < b->ltOf cf d[j]! d[i]! = T d[j]! d[i]!):=M.out.cross
 have rA:IntKind.i64.wrap ((m:Int) - (a:Int))=(m:Int) - (a:Int):=by rw[IntKind.wrap_i64];omega
 have rB:IntKind.i64.wrap ((b:Int) - (m:Int))=(b:Int) - (m:Int):=by rw[IntKind.wrap_i64];omega
 go_enter FG,Tryz.ntmps180
 have e1:(m:Int) - (a:Int)=1:=by omega
 have e1b:((m:Int) - (a:Int) == 1)=true:=by simp[e1]
 have H1:Aside (m=a+1):=h1
 have h1a:m<=a+1:=by omega
 have h1b:a+1<=m:=by omega
 clear h1
 go_wp2
 go_loopg [10,11] (b - m) (fun kx s10 s11 wr=>∃ i j:Nat,s10 = .int .i64 i/\s11 = .int .i64 j/\m<=i/\i<=j/\j<=b/\j - i<=kx/\Aside (SW enc w0 blk off d wr)/\Aside ((∀ x,m<=x->x < i->T d[x]! d[a]! = true)/\(∀ x,j<=x->x < b->T d[x]! d[a]! = false)))
 case atStart=>exact⟨m,b,rfl,rfl,Nat.le_refl _,by omega,Nat.le_refl _,Nat.le_refl _,S0,(⟨fun x h1 h2=>by omega,fun x h1 h2=>by omega⟩:(∀ x,m<=x->x < m->T d[x]! d[a]! = true)/\(∀ x,b<=x->x < b->T d[x]! d[a]! = false))⟩
 case round =>
  clear S0 e1 e1b rA rB
  obtain⟨i,j,rfl,rfl,hmi,hij,hjb,hkx,S1,I⟩:=hrel
  by_cases hlt:i < j
  ·have hltz:(i:Int) < (j:Int):=by omega
   cases hlv:ltOf cf d[(i+j) / 2]! d[a]! with
   | true =>
    have hh:Aside (T d[(i+j) / 2]! d[a]! = true):=(CR.out a ((i+j) / 2) (by omega) (by omega) (by omega) (by omega)).symm.trans hlv
    obtain⟨iN61,hiN61⟩:∃ zz,zz=(i+j) / 2:=⟨_,rfl⟩
    obtain⟨jN61,hjN61⟩:∃ zz,zz=a:=⟨_,rfl⟩
    have ea61:(((i:Int)+(j:Int)) / 2).toNat=iN61:=by omega
    have ec61:((a:Int)).toNat=jN61:=by omega
    have pa61:(0:Int)<=((i:Int)+(j:Int)) / 2:=by omega
    have ba61:((i:Int)+(j:Int)) / 2 < (sz:Int):=by omega
    have ra61:IntKind.i64.wrap (((i:Int)+(j:Int)) / 2)=((i:Int)+(j:Int)) / 2:=by rw[IntKind.wrap_i64];omega
    have pc61:(0:Int)<=(a:Int):=by omega
    have bc61:(a:Int) < (sz:Int):=by omega
    have rc61:IntKind.i64.wrap ((a:Int))=(a:Int):=by rw[IntKind.wrap_i64];omega
    obtain⟨x61,hx61⟩:∃ x,x=d[(i+j) / 2]!:=⟨_,rfl⟩
    obtain⟨y61,hy61⟩:∃ x,x=d[a]!:=⟨_,rfl⟩
    have l61a:=S1.out.cl R (by omega) ((i+j) / 2) (by omega)
    have l61b:=S1.out.cl R (by omega) (a) (by omega)
    rw[<- hx61,<- hiN61] at l61a
    rw[<- hy61,<- hjN61] at l61b
    have hc61:=S1.out.cmp HC.out (by omega) x61 y61
    have hv61:cf x61 y61 < 0:=by rw[hx61,hy61];exact of_decide_eq_true hlv
    have hd61:decide (cf x61 y61 < 0)=true:=decide_eq_true hv61
    clear hx61 hy61 hiN61 hjN61 hlv
    go_wp2_with fail
    go_quiet_grown (first | (go_at_fn g;refine Calls.grown_of (hc61 _ _)))
    have S2:Aside (SW enc w0 blk off d (grow (wr.drewN nq) osq)):=S1.out.grown nq osq
    clear l61a l61b hc61
    generalize grow (wr.drewN nq) osq=w2 at S2 ⊢
    clear nq osq ea61 ec61
    go_wp2
    go_roundg (j - ((i+j) / 2+1))
    case measure=>omega
    case rel =>
     have I2:Aside ((∀ x,m<=x->x < (i+j) / 2+1->T d[x]! d[a]! = true)/\(∀ x,j<=x->x < b->T d[x]! d[a]! = false)):=⟨fun x h2 h3=>le_lt HT.out (M.out.le_right HT.out h2 (show x<=(i+j) / 2 by omega) (by omega)) hh.out,I.out.2⟩
     exact⟨(i+j) / 2+1,j,by rw[show ((i:Int)+(j:Int)) / 2+1=(((i+j) / 2+1:Nat):Int) by omega],rfl,by omega,by omega,hjb,Nat.le_refl _,S2,I2⟩
   | false =>
    have hh:Aside (T d[(i+j) / 2]! d[a]! = false):=(CR.out a ((i+j) / 2) (by omega) (by omega) (by omega) (by omega)).symm.trans hlv
    obtain⟨iN61,hiN61⟩:∃ zz,zz=(i+j) / 2:=⟨_,rfl⟩
    obtain⟨jN61,hjN61⟩:∃ zz,zz=a:=⟨_,rfl⟩
    have ea61:(((i:Int)+(j:Int)) / 2).toNat=iN61:=by omega
    have ec61:((a:Int)).toNat=jN61:=by omega
    have pa61:(0:Int)<=((i:Int)+(j:Int)) / 2:=by omega
    have ba61:((i:Int)+(j:Int)) / 2 < (sz:Int):=by omega
    have ra61:IntKind.i64.wrap (((i:Int)+(j:Int)) / 2)=((i:Int)+(j:Int)) / 2:=by rw[IntKind.wrap_i64];omega
    have pc61:(0:Int)<=(a:Int):=by omega
    have bc61:(a:Int) < (sz:Int):=by omega
    have rc61:IntKind.i64.wrap ((a:Int))=(a:Int):=by rw[IntKind.wrap_i64];omega
    obtain⟨x61,hx61⟩:∃ x,x=d[(i+j) / 2]!:=⟨_,rfl⟩
    obtain⟨y61,hy61⟩:∃ x,x=d[a]!:=⟨_,rfl⟩
    have l61a:=S1.out.cl R (by omega) ((i+j) / 2) (by omega)
    have l61b:=S1.out.cl R (by omega) (a) (by omega)
    rw[<- hx61,<- hiN61] at l61a
    rw[<- hy61,<- hjN61] at l61b
    have hc61:=S1.out.cmp HC.out (by omega) x61 y61
    have hv61:¬ cf x61 y61 < 0:=by rw[hx61,hy61];exact of_decide_eq_false hlv
    have hd61:decide (cf x61 y61 < 0)=false:=decide_eq_false hv61
    clear hx61 hy61 hiN61 hjN61 hlv
    go_wp2_with fail
    go_quiet_grown (first | (go_at_fn g;refine Calls.grown_of (hc61 _ _)))
    have S2:Aside (SW enc w0 blk off d (grow (wr.drewN nq) osq)):=S1.out.grown nq osq
    clear l61a l61b hc61
    generalize grow (wr.drewN nq) osq=w2 at S2 ⊢
    clear nq osq ea61 ec61
    go_wp2
    go_roundg ((i+j) / 2 - i)
    case measure=>omega
    case rel =>
     have I2:Aside ((∀ x,m<=x->x < i->T d[x]! d[a]! = true)/\(∀ x,(i+j) / 2<=x->x < b->T d[x]! d[a]! = false)):=⟨I.out.1,fun x h2 h3=>HT.out.ntrans _ _ _ (M.out.le_right HT.out (show m<=(i+j) / 2 by omega) h2 h3) hh.out⟩
     exact⟨i,(i+j) / 2,rfl,by rw[show ((i:Int)+(j:Int)) / 2=(((i+j) / 2:Nat):Int) by omega],hmi,by omega,by omega,Nat.le_refl _,S2,I2⟩
  ·have hji:j=i:=by omega
   subst hji
   have hltz:¬ (j:Int) < (j:Int):=by omega
   have rC:IntKind.i64.wrap ((j:Int) - 1)=(j:Int) - 1:=by rw[IntKind.wrap_i64];omega
   go_wp2
   go_loopg [13] (j - 1) (fun kx s13 wr=>∃ (kk:Nat) (dk:Array α),s13 = .int .i64 kk/\a<=kk/\kk+1<=j/\j - 1 - kk<=kx/\dk.size=sz/\Aside (SW enc w0 blk off dk wr)/\Aside (∀ x,dk[x]! = rotF d a (a+1) (kk+1) x)/\Aside (PermIn a b d dk))
   case atStart=>exact⟨a,d,rfl,Nat.le_refl _,by omega,by omega,HS.out,S1,(rot_up0 d a:_),(permIn_refl d a b:_)⟩
   case round =>
    clear S1
    obtain⟨kk,dk,rfl,hak,hkj,hkx2,hds,S1,X1,P1⟩:=hrel
    by_cases hk:kk+1 < j
    ·have hkz:(kk:Int) < (j:Int) - 1:=by omega
     go_wp2_with fail
     obtain⟨iN51,hiN51⟩:∃ zz,zz=kk:=⟨_,rfl⟩
     obtain⟨jN51,hjN51⟩:∃ zz,zz=kk+1:=⟨_,rfl⟩
     have ea51:((kk:Int)).toNat=iN51:=by omega
     have pa51:(0:Int)<=(kk:Int):=by omega
     have ba51:(kk:Int) < (sz:Int):=by omega
     have ra51:IntKind.i64.wrap ((kk:Int))=(kk:Int):=by rw[IntKind.wrap_i64];omega
     have ec51:((kk:Int)+1).toNat=jN51:=by omega
     have pc51:(0:Int)<=(kk:Int)+1:=by omega
     have bc51:(kk:Int)+1 < (sz:Int):=by omega
     have rc51:IntKind.i64.wrap ((kk:Int)+1)=(kk:Int)+1:=by rw[IntKind.wrap_i64];omega
     obtain⟨x51,hx51⟩:∃ x,x=dk[kk]!:=⟨_,rfl⟩
     obtain⟨y51,hy51⟩:∃ x,x=dk[kk+1]!:=⟨_,rfl⟩
     have S2:Aside (SW enc w0 blk off (swp dk (kk) (kk+1)) ((wr.setCell ⟨blk,off+iN51,none⟩ (enc y51)).setCell ⟨blk,off+jN51,none⟩ (enc x51)).drew):=by rw[hiN51,hjN51,hx51,hy51];exact S1.out.swapped R (kk) (kk+1) (by omega) (by omega)
     have c51a:=S1.out.c1 R (by omega) (kk) (by omega)
     have c51b:=S1.out.c1 R (by omega) (kk+1) (by omega)
     have f51a:=S1.out.f1 R (by omega) (kk) (by omega)
     have f51b:=S1.out.f1 R (by omega) (kk+1) (by omega)
     obtain⟨u51,c51c⟩:=S1.out.c2 R (by omega) (kk) (kk+1) (by omega) (by omega) (enc y51)
     rw[<- hjN51,<- hiN51] at c51c
     rw[<- hx51,<- hiN51] at c51a
     rw[<- hy51,<- hjN51] at c51b
     rw[<- hiN51] at f51a
     rw[<- hjN51] at f51b
     clear S1 hx51 hy51 hiN51 hjN51
     go_wp2_with fail
     go_big_region_o
     clear c51a c51b c51c f51a f51b
     generalize ((wr.setCell ⟨blk,off+iN51,none⟩ (enc y51)).setCell ⟨blk,off+jN51,none⟩ (enc x51)).drew=w2 at S2 ⊢
     clear ea51 ec51
     go_wp2
     go_roundg (j - 1 - (kk+1))
     case measure=>omega
     case rel=>exact⟨kk+1,swp dk kk (kk+1),by go_num,by omega,by omega,Nat.le_refl _,by rw[size_swp];exact hds,S2,rot_up (by rw[hds,HS.out]) hak (by omega) X1.out,swap_in P1.out (by omega) (by omega) (by omega) (by omega) (by omega)⟩
    ·have hkz:¬ (kk:Int) < (j:Int) - 1:=by omega
     have hkj2:kk+1=j:=by omega
     go_wp2
     first | go_end0 | ((try simp only[Exit.inBlock,Exit.then]);refine bodyPost_ret (results_none rfl _ _ _) rfl ?_)
     refine⟨rfl,dk,hds,S1.out,P1.out,sm_one HT.out (i:=j) (by have:=M.out;rw[H1.out] at this;exact this) (by omega) hjb (fun x h2 h3=>I.out.1 x (by omega) h3) I.out.2 (fun x=>by rw[X1.out x,hkj2])⟩
end
end Go.Proofs.YtgplnekpgdhcpaaGreat
namespace Go.Proofs.YtgplnekpgdhcpaaGreat
open Go.Proofs Go.Shelf Go.RowKit Go.Lib Go.Sort
section
variable {P:Program} {α:Type} [Inhabited α]
set_option maxHeartbeats 8000000 in
set_option maxRecDepth 1000000 in
theorem symMergeNB (L:StN P) (enc:α->Value) (cf:α->α->Int) (T:α->α->Bool) (hT:SWO T) (g:Nat) (cb:Array Value) (blk off cap sz:Nat) (d0:Array α) (w0:World)
  (eg:∀ args w,(callFunc g args).run P w = .ok (.enter g args) w) (hcmp:CmpLays1 P g cb enc cf blk off d0.size w0) (R:Row1 enc w0 blk off d0) (h0:d0.size=sz) (hsz:sz < 4611686018427387904)
  (a m b:Nat) (d:Array α) (w:World) (hs:d.size=sz) (S:SW enc w0 blk off d w) (_ham:a < m) (hmb:m < b) (hb:b<=sz) (hSM:SM (ltOf cf) T a m b d) (h1c:a+2<=m) (h2:b=m+1) :
  Calls P 180 #[.slice (some ⟨blk,off,none⟩) sz cap,.int .i64 a,.int .i64 m,.int .i64 b,.func (.func g) #[] cb] w fun e w'=>e = .returned (.tuple #[])/\∃ d',d'.size=sz/\SW enc w0 blk off d' w'/\PermIn a b d d'/\SortedIn T a b d':=by
 have mixed:=L.mixed;have late:=L.late;have unsure:=L.unsure
 have t0:=L.t0;have a0:=L.a0;have z0:=L.z0;have v0:=L.v0;have t3:=L.t3;have a3:=L.a3;have z3:=L.z3;have v3:=L.v3;have t4:=L.t4;have a4:=L.a4;have z4:=L.z4;have v4:=L.v4;have t22:=L.t22;have a22:=L.a22;have z22:=L.z22;have v22:=L.v22;have t35:=L.t35;have a35:=L.a35;have z35:=L.z35;have v35:=L.v35;have a25:=L.a25;have z25:=L.z25;have v25:=L.v25
 have u0:=run_underlying L.t0;have u3:=run_underlying L.t3;have u4:=run_underlying L.t4;have u22:=run_underlying L.t22;have u35:=run_underlying L.t35
 have hcl0:=R.hO.cells
 simp only[Value.cells] at hcl0
 have hst:=R.hO.store P
 have FG:=L.fSym
 have HC:Aside _:=hcmp
 have S0:Aside (SW enc w0 blk off d w):=S
 have M:Aside _:=hSM
 have HT:Aside _:=hT
 have HS:Aside (d.size=sz):=hs
 have hd0:d.size<=sz:=Nat.le_of_eq hs
 have hd1:sz<=d.size:=Nat.le_of_eq hs.symm
 have hd2:d0.size<=sz:=Nat.le_of_eq h0
 have hd3:sz<=d0.size:=Nat.le_of_eq h0.symm
 clear S hSM hcmp hT hs h0
 have CR:Aside (∀ i j,a<=i->i < m->m<=j->j < b->ltOf cf d[j]! d[i]! = T d[j]! d[i]!):=M.out.cross
 have rA:IntKind.i64.wrap ((m:Int) - (a:Int))=(m:Int) - (a:Int):=by rw[IntKind.wrap_i64];omega
 have rB:IntKind.i64.wrap ((b:Int) - (m:Int))=(b:Int) - (m:Int):=by rw[IntKind.wrap_i64];omega
 go_enter FG,Tryz.ntmps180
 have e1:¬ (m:Int) - (a:Int)=1:=by omega
 have e1b:((m:Int) - (a:Int) == 1)=false:=by simp[e1]
 have e2:(b:Int) - (m:Int)=1:=by omega
 have e2b:((b:Int) - (m:Int) == 1)=true:=by simp[e2]
 have H2:Aside (b=m+1):=h2
 have h2a:b<=m+1:=by omega
 have h2b:m+1<=b:=by omega
 clear h2
 go_wp2
 go_loopg [14,15] (m - a) (fun kx s10 s11 wr=>∃ i j:Nat,s10 = .int .i64 i/\s11 = .int .i64 j/\a<=i/\i<=j/\j<=m/\j - i<=kx/\Aside (SW enc w0 blk off d wr)/\Aside ((∀ x,a<=x->x < i->T d[m]! d[x]! = false)/\(∀ x,j<=x->x < m->T d[m]! d[x]! = true)))
 case atStart=>exact⟨a,m,rfl,rfl,Nat.le_refl _,by omega,Nat.le_refl _,Nat.le_refl _,S0,(⟨fun x h1 h2=>by omega,fun x h1 h2=>by omega⟩:(∀ x,a<=x->x < a->T d[m]! d[x]! = false)/\(∀ x,m<=x->x < m->T d[m]! d[x]! = true))⟩
 case round =>
  clear S0 e1 e1b e2 e2b rA rB
  obtain⟨i,j,rfl,rfl,hai,hij,hjm,hkx,S1,I⟩:=hrel
  by_cases hlt:i < j
  ·have hltz:(i:Int) < (j:Int):=by omega
   cases hlv:ltOf cf d[m]! d[(i+j) / 2]! with
   | true =>
    have hh:Aside (T d[m]! d[(i+j) / 2]! = true):=(CR.out ((i+j) / 2) m (by omega) (by omega) (by omega) (by omega)).symm.trans hlv
    obtain⟨iN62,hiN62⟩:∃ zz,zz=m:=⟨_,rfl⟩
    obtain⟨jN62,hjN62⟩:∃ zz,zz=(i+j) / 2:=⟨_,rfl⟩
    have ea62:((m:Int)).toNat=iN62:=by omega
    have ec62:(((i:Int)+(j:Int)) / 2).toNat=jN62:=by omega
    have pa62:(0:Int)<=(m:Int):=by omega
    have ba62:(m:Int) < (sz:Int):=by omega
    have ra62:IntKind.i64.wrap ((m:Int))=(m:Int):=by rw[IntKind.wrap_i64];omega
    have pc62:(0:Int)<=((i:Int)+(j:Int)) / 2:=by omega
    have bc62:((i:Int)+(j:Int)) / 2 < (sz:Int):=by omega
    have rc62:IntKind.i64.wrap (((i:Int)+(j:Int)) / 2)=((i:Int)+(j:Int)) / 2:=by rw[IntKind.wrap_i64];omega
    obtain⟨x62,hx62⟩:∃ x,x=d[m]!:=⟨_,rfl⟩
    obtain⟨y62,hy62⟩:∃ x,x=d[(i+j) / 2]!:=⟨_,rfl⟩
    have l62a:=S1.out.cl R (by omega) (m) (by omega)
    have l62b:=S1.out.cl R (by omega) ((i+j) / 2) (by omega)
    rw[<- hx62,<- hiN62] at l62a
    rw[<- hy62,<- hjN62] at l62b
    have hc62:=S1.out.cmp HC.out (by omega) x62 y62
    have hv62:cf x62 y62 < 0:=by rw[hx62,hy62];exact of_decide_eq_true hlv
    have hd62:decide (cf x62 y62 < 0)=true:=decide_eq_true hv62
    clear hx62 hy62 hiN62 hjN62 hlv
    go_wp2_with fail
    go_quiet_grown (first | (go_at_fn g;refine Calls.grown_of (hc62 _ _)))
    have S2:Aside (SW enc w0 blk off d (grow (wr.drewN nq) osq)):=S1.out.grown nq osq
    clear l62a l62b hc62
    generalize grow (wr.drewN nq) osq=w2 at S2 ⊢
    clear nq osq ea62 ec62
    go_wp2
    go_roundg ((i+j) / 2 - i)
    case measure=>omega
    case rel =>
     have I2:Aside ((∀ x,a<=x->x < i->T d[m]! d[x]! = false)/\(∀ x,(i+j) / 2<=x->x < m->T d[m]! d[x]! = true)):=⟨I.out.1,fun x h2 h3=>lt_le HT.out hh.out (M.out.le_left HT.out (show a<=(i+j) / 2 by omega) h2 h3)⟩
     exact⟨i,(i+j) / 2,rfl,by rw[show ((i:Int)+(j:Int)) / 2=(((i+j) / 2:Nat):Int) by omega],hai,by omega,by omega,Nat.le_refl _,S2,I2⟩
   | false =>
    have hh:Aside (T d[m]! d[(i+j) / 2]! = false):=(CR.out ((i+j) / 2) m (by omega) (by omega) (by omega) (by omega)).symm.trans hlv
    obtain⟨iN62,hiN62⟩:∃ zz,zz=m:=⟨_,rfl⟩
    obtain⟨jN62,hjN62⟩:∃ zz,zz=(i+j) / 2:=⟨_,rfl⟩
    have ea62:((m:Int)).toNat=iN62:=by omega
    have ec62:(((i:Int)+(j:Int)) / 2).toNat=jN62:=by omega
    have pa62:(0:Int)<=(m:Int):=by omega
    have ba62:(m:Int) < (sz:Int):=by omega
    have ra62:IntKind.i64.wrap ((m:Int))=(m:Int):=by rw[IntKind.wrap_i64];omega
    have pc62:(0:Int)<=((i:Int)+(j:Int)) / 2:=by omega
    have bc62:((i:Int)+(j:Int)) / 2 < (sz:Int):=by omega
    have rc62:IntKind.i64.wrap (((i:Int)+(j:Int)) / 2)=((i:Int)+(j:Int)) / 2:=by rw[IntKind.wrap_i64];omega
    obtain⟨x62,hx62⟩:∃ x,x=d[m]!:=⟨_,rfl⟩
    obtain⟨y62,hy62⟩:∃ x,x=d[(i+j) / 2]!:=⟨_,rfl⟩
    have l62a:=S1.out.cl R (by omega) (m) (by omega)
    have l62b:=S1.out.cl R (by omega) ((i+j) / 2) (by omega)
    rw[<- hx62,<- hiN62] at l62a
    rw[<- hy62,<- hjN62] at l62b
    have hc62:=S1.out.cmp HC.out (by omega) x62 y62
    have hv62:¬ cf x62 y62 < 0:=by rw[hx62,hy62];exact of_decide_eq_false hlv
    have hd62:decide (cf x62 y62 < 0)=false:=decide_eq_false hv62
    clear hx62 hy62 hiN62 hjN62 hlv
    go_wp2_with fail
    go_quiet_grown (first | (go_at_fn g;refine Calls.grown_of (hc62 _ _)))
    have S2:Aside (SW enc w0 blk off d (grow (wr.drewN nq) osq)):=S1.out.grown nq osq
    clear l62a l62b hc62
    generalize grow (wr.drewN nq) osq=w2 at S2 ⊢
    clear nq osq ea62 ec62
    go_wp2
    go_roundg (j - ((i+j) / 2+1))
    case measure=>omega
    case rel =>
     have I2:Aside ((∀ x,a<=x->x < (i+j) / 2+1->T d[m]! d[x]! = false)/\(∀ x,j<=x->x < m->T d[m]! d[x]! = true)):=⟨fun x h2 h3=>HT.out.ntrans _ _ _ hh.out (M.out.le_left HT.out h2 (show x<=(i+j) / 2 by omega) (by omega)),I.out.2⟩
     exact⟨(i+j) / 2+1,j,by rw[show ((i:Int)+(j:Int)) / 2+1=(((i+j) / 2+1:Nat):Int) by omega],rfl,by omega,by omega,hjm,Nat.le_refl _,S2,I2⟩
  ·have hji:j=i:=by omega
   subst hji
   have hltz:¬ (j:Int) < (j:Int):=by omega
   go_wp2
   go_loopg [17] (m - j) (fun kx s17 wr=>∃ (kk:Nat) (dk:Array α),s17 = .int .i64 kk/\j<=kk/\kk<=m/\kk - j<=kx/\dk.size=sz/\Aside (SW enc w0 blk off dk wr)/\Aside (∀ x,dk[x]! = rotF d kk m (m+1) x)/\Aside (PermIn a b d dk))
   case atStart=>exact⟨m,d,rfl,hjm,Nat.le_refl _,Nat.le_refl _,HS.out,S1,(rot_down0 d m:_),(permIn_refl d a b:_)⟩
   case round =>
    clear S1
    obtain⟨kk,dk,rfl,hjk,hkm,hkx2,hds,S1,X1,P1⟩:=hrel
    by_cases hk:j < kk
    ·obtain⟨kp,rfl⟩:∃ kp,kk=kp+1:=⟨kk - 1,by omega⟩
     have hkz:(j:Int) < (kp:Int)+1:=by omega
     have rk:IntKind.i64.wrap (kp:Int)=(kp:Int):=by rw[IntKind.wrap_i64];omega
     go_wp2_with fail
     obtain⟨iN52,hiN52⟩:∃ zz,zz=kp+1:=⟨_,rfl⟩
     obtain⟨jN52,hjN52⟩:∃ zz,zz=kp:=⟨_,rfl⟩
     have ea52:((kp:Int)+1).toNat=iN52:=by omega
     have pa52:(0:Int)<=(kp:Int)+1:=by omega
     have ba52:(kp:Int)+1 < (sz:Int):=by omega
     have ra52:IntKind.i64.wrap ((kp:Int)+1)=(kp:Int)+1:=by rw[IntKind.wrap_i64];omega
     have ec52:((kp:Int)).toNat=jN52:=by omega
     have pc52:(0:Int)<=(kp:Int):=by omega
     have bc52:(kp:Int) < (sz:Int):=by omega
     have rc52:IntKind.i64.wrap ((kp:Int))=(kp:Int):=by rw[IntKind.wrap_i64];omega
     obtain⟨x52,hx52⟩:∃ x,x=dk[kp+1]!:=⟨_,rfl⟩
     obtain⟨y52,hy52⟩:∃ x,x=dk[kp]!:=⟨_,rfl⟩
     have S2:Aside (SW enc w0 blk off (swp dk (kp+1) (kp)) ((wr.setCell ⟨blk,off+iN52,none⟩ (enc y52)).setCell ⟨blk,off+jN52,none⟩ (enc x52)).drew):=by rw[hiN52,hjN52,hx52,hy52];exact S1.out.swapped R (kp+1) (kp) (by omega) (by omega)
     have c52a:=S1.out.c1 R (by omega) (kp+1) (by omega)
     have c52b:=S1.out.c1 R (by omega) (kp) (by omega)
     have f52a:=S1.out.f1 R (by omega) (kp+1) (by omega)
     have f52b:=S1.out.f1 R (by omega) (kp) (by omega)
     obtain⟨u52,c52c⟩:=S1.out.c2 R (by omega) (kp+1) (kp) (by omega) (by omega) (enc y52)
     rw[<- hiN52,<- hjN52] at c52c
     rw[<- hx52,<- hiN52] at c52a
     rw[<- hy52,<- hjN52] at c52b
     rw[<- hiN52] at f52a
     rw[<- hjN52] at f52b
     clear S1 hx52 hy52 hiN52 hjN52
     go_wp2_with fail
     go_big_region_o
     clear c52a c52b c52c f52a f52b
     generalize ((wr.setCell ⟨blk,off+iN52,none⟩ (enc y52)).setCell ⟨blk,off+jN52,none⟩ (enc x52)).drew=w2 at S2 ⊢
     clear ea52 ec52
     go_wp2
     go_roundg (kp - j)
     case measure=>omega
     case rel=>exact⟨kp,swp dk (kp+1) kp,by go_num,by omega,by omega,Nat.le_refl _,by rw[size_swp];exact hds,S2,(rot_down (by rw[hds,HS.out]) (by omega) hkm (by omega) X1.out:∀ x,(swp dk (kp+1) (kp+1 - 1))[x]! = rotF d (kp+1 - 1) m (m+1) x),swap_in P1.out (by omega) (by omega) (by omega) (by omega) (by omega)⟩
    ·have hkz:¬ (j:Int) < (kk:Int):=by omega
     have hkj2:kk=j:=by omega
     go_wp2
     first | go_end0 | ((try simp only[Exit.inBlock,Exit.then]);refine bodyPost_ret (results_none rfl _ _ _) rfl ?_)
     refine⟨rfl,dk,hds,S1.out,P1.out,?_⟩
     rw[H2.out]
     exact sm_last HT.out (i:=j) (by have:=M.out;rw[H2.out] at this;exact this) hai hjm I.out.1 I.out.2 (fun x=>by rw[X1.out x,hkj2])
end
end Go.Proofs.YtgplnekpgdhcpaaGreat
