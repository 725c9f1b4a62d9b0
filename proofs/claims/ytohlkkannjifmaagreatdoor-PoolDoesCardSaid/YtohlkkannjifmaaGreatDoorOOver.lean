import Derived.Test.YtohlkkannjifmaaGreatDoorLent
import Derived.Test.YtohlkkannjifmaaGreatDoorLentT
import Derived.Laws.StructEq
namespace Go.Proofs.YtohlkkannjifmaaGreatDoor
section
set_option maxHeartbeats 4000000
set_option maxRecDepth 100000
open Go.RowKit
variable {P Q X:List (Int×Int)} {B c k n:Nat} {a:Option Addr} {w:World}
theorem markN_bd (k i:Nat) (hk:k<=1000000) (hi:i<=1000000000):markN k i<=2000000000000:=by unfold markN;omega
theorem wrap_in' {x:Int} (h:-9223372036854775808<=x) (h':x<=9223372036854775807):IntKind.i64.wrap x=x:=IntWalk.i64_in _ (by omega)
theorem dirtyE_at (h:dirtyE.In B w a n c X) (hc:0<c):∃ b o,a=some ⟨b,o,none⟩/\b<B/\∀ i,i<n->w.cell? ⟨b,o+i*2,none⟩=some (.int .i64 (X.getD i default).1)/\w.cell? ⟨b,o+i*2+1,none⟩=some (.int .i64 (X.getD i default).2):=by
 obtain⟨b,o,e,hb,hcell⟩:=h.at_ hc;exact⟨b,o,e,hb,fun i hi=>⟨hcell i hi 0 (by decide),hcell i hi 1 (by decide)⟩⟩
theorem dirtyE_lit (W:World) (x:(Int×Int)) (t:TypeId):∀ j u,(dirtyE.cells [x])[j]? = some u->(W.alloc (.cells #[.int .i64 x.1,.int .i64 x.2] t)).cell? ((⟨W.heap.size,0,none⟩:Addr).add j)=some u:=Ek.one_lit (E:=dirtyE) W x _ t rfl
theorem eqDirty_b (x_1:Int) (x_2:Int) (y_1:Int) (y_2:Int):decide ((⟨x_1,x_2⟩:(Int×Int))=⟨y_1,y_2⟩)=(decide (x_1=y_1) && decide (x_2=y_2)):=by
 rw[Bool.eq_iff_iff];simp[Prod.mk.injEq]
theorem eqDirty (x_1:Int) (x_2:Int) (y_1:Int) (y_2:Int) (w:World):(Op.equalIn 10000 80 (.agg #[.int .i64 x_1,.int .i64 x_2]) (.agg #[.int .i64 y_1,.int .i64 y_2])).run Tryz.prog w=.ok (decide ((⟨x_1,x_2⟩:(Int×Int))=⟨y_1,y_2⟩)) w:=by
 have u0:=Tryz.underlying3;have a0:=Tryz.isAgg3;have z0:=Tryz.sizeOf3;have u1:=Tryz.underlying2;have a1:=Tryz.isAgg2;have z1:=Tryz.sizeOf2;have hS:Tryz.prog.underlying 80=some (.struct (Tryz.prog.fieldsOf 80)):=by kernel_rfl
 have hp:Tryz.prog.stoodInHeld 80=false:=by kernel_rfl
 rw[eqDirty_b,show (10000:Nat)=9999+1 from rfl,run_equalIn_agg w 9999 80 _ _ hS hp];simp only[Program.fieldsOf,Tryz.underlying80];go_simp
 all_goals (try by_cases h_1:x_1=y_1)
 all_goals (try by_cases h_2:x_2=y_2)
 all_goals simp_all
theorem takeDirty_succ (hk:k<P.length) (hk2:k<Q.length) (h:P.take k=Q.take k) (he:P.getD k default=Q.getD k default):P.take (k+1)=Q.take (k+1):=by
 rw[List.take_succ_eq_append_getElem hk,List.take_succ_eq_append_getElem hk2,h];simp only[List.getD,List.getElem?_eq_getElem hk,List.getElem?_eq_getElem hk2,Option.getD_some] at he;rw[he]
theorem SameDirties_any (B B':Nat) (a b:Option Addr) (n m c d:Nat) (P Q:List (Int×Int)) (w:World) (hp:dirtyE.In B w a n c P) (hq:dirtyE.In B' w b m d Q) :
  Calls Tryz.prog 218 #[.slice a n c,.slice b m d] w fun e w'=>e=.returned (.bool (decide (P=Q)))/\∃ q,w'=w.drewN q:=by
 have hle:=hp.le;have hmx:=hp.mx;have hle2:=hq.le;have hmx2:=hq.mx;have Hln:=φ hp.len;have Hln2:=φ hq.len;by_cases hnm:n=m
 ·subst hnm;go_enter Tryz.func218,Tryz.ntmps218;go_wp2_with (fail);go_loopw [5] (fun i wr=>∃ j:Nat,j<=n/\i=.int .i64 j/\Hid (P.take j=Q.take j)/\∃ q,wr=w.drewN q) (fun i _=>n-(intOf i).toNat)
  case atStart=>exact⟨0,Nat.zero_le _,rfl,φ rfl,0,rfl⟩
  case round =>
   obtain⟨j,hj,rfl,ht,q,rfl⟩:=hrel;by_cases hlt:j<n
   ·obtain⟨b1,o1,rfl,-,hc1⟩:=dirtyE_at hp (by omega);obtain⟨b2,o2,rfl,-,hc2⟩:=dirtyE_at hq (by omega);obtain⟨g0,g1⟩:=hc1 j hlt;obtain⟨k0,k1⟩:=hc2 j hlt;clear hc1 hc2;have Hsucc:=φ (fun he=>takeDirty_succ (by rw[<- Hln.out];exact hlt) (by rw[<- Hln2.out];exact hlt) ht.out he);have Hno:=φ (show P.getD j default≠Q.getD j default->decide (P=Q)=false from fun hne=>decide_eq_false fun e=>hne (by rw[e]));generalize P.getD j default=p at g0 g1 Hsucc Hno;generalize Q.getD j default=p' at k0 k1 Hsucc Hno;obtain⟨x_1,x_2⟩:=p;obtain⟨y_1,y_2⟩:=p';simp only at g0 g1 k0 k1;have heq0:=eqDirty x_1 x_2 y_1 y_2
    cases he:decide ((⟨x_1,x_2⟩:(Int×Int))=⟨y_1,y_2⟩) with
    | true =>
     have Hs:=φ (Hsucc.out (of_decide_eq_true he));have heq:∀ w,(Op.equalIn 10000 80 (.agg #[.int .i64 x_1,.int .i64 x_2]) (.agg #[.int .i64 y_1,.int .i64 y_2])).run Tryz.prog w=.ok true w:=fun w=>by rw[heq0,he]
     clear he Hno heq0;go_wp2_with (fail);go_quiet (fail);go_wp2_with (fail);go_roundw
     case rel=>exact⟨j+1,by omega,by go_num,Hs,_,rfl⟩
     case measure=>simp[intOf];omega
    | false =>
     have Hn:=φ (Hno.out (of_decide_eq_false he));have heq:∀ w,(Op.equalIn 10000 80 (.agg #[.int .i64 x_1,.int .i64 x_2]) (.agg #[.int .i64 y_1,.int .i64 y_2])).run Tryz.prog w=.ok false w:=fun w=>by rw[heq0,he]
     clear he Hsucc heq0;go_wp2_with (fail);go_quiet (fail);go_wp2_with (fail);go_ret;rw[Hn.out];exact⟨rfl,_,World.drewN_drewN _ _ _⟩
   ·have hge:n<=j:=(by omega);go_wp2_with (fail);go_ret;have:P=Q:=by
     have:=ht.out
     rwa [List.take_of_length_le (by rw[<- Hln.out];exact hge),List.take_of_length_le (by rw[<- Hln2.out];exact hge)] at this
    rw[decide_eq_true this];exact⟨rfl,_,rfl⟩
 ·have hne:decide (P=Q)=false:=decide_eq_false fun e=>hnm (by rw[Hln.out,Hln2.out,e])
  rw[hne];go_enter Tryz.func218,Tryz.ntmps218;go_wp2_with (fail);go_ret;exact⟨rfl,0,rfl⟩
def mkDirty (k i:Nat):(Int×Int):=⟨(markN k i:Int),0⟩
theorem markDirty_any (k i:Nat) (w:World) (hk:k<=1000000) (hi:i<=1000000000) :
  Calls Tryz.prog 161 #[.int .i64 k,.int .i64 i] w fun e w'=>e=.returned (.agg #[.int .i64 (markN k i:Nat),.int .i64 0])/\Below w.heap.size w w':=by
 have HM:=φ (fun W=>mark_any k i W hk hi);have hm:=markN_bd k i hk hi;generalize markN k i=m at HM hm;have hw:=wrap_in' (x:=(m:Int)) (by omega) (by omega);have HB:=φ (fun c:Array Value=>(Below.refl w.heap.size w).alloc (Nat.le_refl _) (.cells c 80));have HB2:=φ (fun (c:Array Value) (v:Value)=>((Below.refl w.heap.size w).alloc (Nat.le_refl _) (.cells c 80)).setCell (p:=⟨w.heap.size,0,none⟩) (Nat.le_refl _) v);go_enter Tryz.func161,Tryz.ntmps161;go_wp2_with (go_at_call 139;refine (HM.out _).mono ?_;rintro e w' ⟨rfl,rfl⟩);go_returns;exact⟨rfl,by first|exact HB.out _|exact HB2.out _ _⟩
def lentDirty:List (Int×Int):=(List.range 12).map fun i=>mkDirty 1 i
theorem lentDirty_len:lentDirty.length=12:=by simp[lentDirty]
theorem lentDirty_at (j:Nat) (h:j<12):lentDirty[j]'(by rw[lentDirty_len];exact h)=mkDirty 1 j:=by simp[lentDirty]
theorem lentDirty_take (j:Nat) (h:j<12):lentDirty.take (j+1)=lentDirty.take j++[mkDirty 1 j]:=by
 rw[List.take_succ_eq_append_getElem (by rw[lentDirty_len];exact h),lentDirty_at j h]
theorem LentDirties_any (N:Nat) (a:Option Addr) (n c:Nat) (L:List (Int×Int)) (w:World) (hr:dirtyE.In N w a n c L) (hN:N<=w.heap.size) (hs:n<=100000) :
  Calls Tryz.prog 187 #[.slice a n c] w fun e w'=>(∃ g c',e=.returned (.slice (some ⟨g,0,none⟩) n c')/\(n+12<=c'/\c'<=9223372036854775807)/\dirtyE.Own w.heap.size w' (.slice (some ⟨g,0,none⟩) (n+12) c') (L++lentDirty))/\Below w.heap.size w w':=by
 obtain⟨i0,hi,hz0,hz1,hz2⟩:=dirtyE.info';have hln:=hr.len;have hle:=hr.le;have hmx:=hr.mx;have Hln:=φ hln;have Hr:=φ hr;have Hi:=φ hi;have Hz0:=φ hz0;have Hz1:=φ hz1;have hb0:i0.bytes*(n+12)<=281474976710656:=by rw[hz2];show 16*(n+12)<=_;omega
 have Hb0:=φ hb0;clear hi hz0 hz1 hz2 hr hln hb0;go_enter Tryz.func187,Tryz.ntmps187;go_wp2_with (first
  | (refine wpList_make_own _ rfl _ _ 30 rfl w.heap.size 80 i0 _ 2 Tryz.underlying30 Hi.out Hz0.out Hz1.out .i64 .i64 _ (n+12) rfl rfl (by omega) Hb0.out (by simp only[maxLen];omega) (Nat.le_refl _) ?_;intro w1 hown1 hg1;have O1:Hid (dirtyE.Own w.heap.size w1 (.slice (some ⟨w.heap.size,0,none⟩) 0 (n+12)) []):=φ hown1;have B1:Hid (Below w.heap.size w w1):=φ ((Below.refl _ w).grown hg1 (Nat.le_refl _) (fun r e=>by cases e));clear hown1 hg1)
  | (at_builtin;refine Ek.wpList_append2 dirtyE rfl _ _ rfl w.heap.size w.heap.size 0 (n+12) [] L rfl O1.out _ _ _ rfl Hln.out (Hr.out.below (B1.out.mono hN)).src B1.out.size (by have:=Hln.out;simp;omega) ?_;intro g2 c2 w2 hc2 hown2 hg2))
 rw[List.nil_append,Nat.zero_add] at hown2;have O2:=φ hown2;have B2:Hid (Below w.heap.size w w2):=φ (B1.out.grown hg2 B1.out.size (fun r e=>by cases e;exact Nat.le_refl _));clear hown2 hg2
 try rw[Nat.zero_add] at hc2
 try rw[Nat.zero_add]
 go_wp2_with (fail);go_loopw [3,4] (fun v i wr=>∃ (j g c':Nat),j<=12/\i=.int .i64 j/\v=.slice (some ⟨g,0,none⟩) (n+j) c'/\Hid (n+j<=c'/\c'<=9223372036854775807)/\Hid (dirtyE.Own w.heap.size wr (.slice (some ⟨g,0,none⟩) (n+j) c') (L++lentDirty.take j))/\Hid (Below w.heap.size w wr)) (fun _ i _=>12-(intOf i).toNat)
 case atStart=>exact⟨0,g2,c2,by omega,rfl,rfl,φ hc2,by simpa using O2,B2⟩
 case round =>
  obtain⟨j,g,c',hj,rfl,rfl,hcc,Ho,Hb⟩:=hrel;by_cases hlt:j<12
  ·have HM:=φ (fun W=>markDirty_any 1 j W (by omega) (by omega));have hsz:=Hb.out.size;have htk:=lentDirty_take j hlt;unfold mkDirty at htk;obtain⟨m,hm⟩:∃ m,m=markN 1 j:=⟨_,rfl⟩
   rw[<- hm] at HM htk;have Htk:=φ htk;clear hm htk;go_wp2_with (first|(go_at_call 161;refine (HM.out _).mono ?_;rintro e wm ⟨rfl,hbm⟩;have O3:=φ ((Ho.out.below hbm).below ((Below.refl _ wm).alloc (Nat.le_refl _) (.cells #[.int .i64 (m:Int),.int .i64 0] 80)));have Bm:=φ (Hb.out.trans (hbm.mono hsz));clear hbm)|(at_builtin;refine Ek.wpList_append2 dirtyE rfl _ _ rfl w.heap.size g (n+j) c' (L++lentDirty.take j) [⟨(m:Int),0⟩] rfl O3.out _ 1 _ rfl rfl (fun _=>⟨_,rfl,dirtyE_lit _ ⟨(m:Int),0⟩ _⟩) (by have:=Bm.out.size;simp;omega) (by have:=Hln.out;simp;omega) ?_;intro g4 c4 w4 hc4 hown4 hg4));have O4:=φ (show dirtyE.Own w.heap.size w4 (.slice (some ⟨g4,0,none⟩) (n+(j+1)) c4) (L++lentDirty.take (j+1)) from by rw[Htk.out,<- List.append_assoc];exact hown4);have B4:Hid (Below w.heap.size w w4):=φ ((Bm.out.alloc Bm.out.size _).grown hg4 (by have:=Bm.out.size;simp;omega) (fun r e=>by cases e;exact (Ho.out.ge _ rfl).1));have C4:=φ hc4;clear hown4 hg4 hc4;go_roundw
   case rel=>exact⟨j+1,g4,c4,by omega,by go_num,by go_num,C4,O4,B4⟩
   case measure=>simp[intOf];omega
  ·have hge:j=12:=by omega
   subst hge;obtain⟨q1,q2⟩:=hcc.out;have q4:(n:Int)<=(c':Int):=by omega
   go_wp2_with (fail);go_ret;refine⟨⟨g,c',rfl,⟨q1,q2⟩,?_⟩,Hb.out⟩;have h:=Ho.out;rw[List.take_of_length_le (Nat.le_of_eq lentDirty_len)] at h;exact h
theorem allDirty_at (L:List (Int×Int)) (n j:Nat) (hn:n=L.length) (hj:j<n):(L++lentDirty).getD j default=L.getD j default:=by
 rw[List.getD_eq_getElem?_getD,List.getElem?_append_left (by omega),List.getD_eq_getElem?_getD]
theorem allDirty_behind (L:List (Int×Int)) (n d:Nat) (hn:n=L.length) (hd:d<12):(L++lentDirty).getD (n+d) default=mkDirty 1 d:=by
 rw[List.getD_eq_getElem?_getD,List.getElem?_append_right (by omega),show n+d-L.length=d by omega,List.getElem?_eq_getElem (by rw[lentDirty_len];exact hd),Option.getD_some,lentDirty_at d hd]
theorem eqDirty_self (x_1:Int) (x_2:Int) (w:World):(Op.equalIn 10000 80 (.agg #[.int .i64 x_1,.int .i64 x_2]) (.agg #[.int .i64 x_1,.int .i64 x_2])).run Tryz.prog w=.ok true w:=by
 rw[eqDirty];simp
theorem KeptDirties_any (B N:Nat) (g:Nat) (c':Nat) (a:Option Addr) (n c:Nat) (L:List (Int×Int)) (w:World) (ho:dirtyE.In B w (some ⟨g,0,none⟩) (n+12) c' (L++lentDirty)) (hr:dirtyE.In N w a n c L) (hB:B<=w.heap.size) (hN:N<=w.heap.size) :
  Calls Tryz.prog 190 #[.slice (some ⟨g,0,none⟩) n c',.slice a n c] w fun e w'=>e=.returned (.bool true)/\Below w.heap.size w w':=by
 have h1:=ho.le;have h2:=ho.mx;have h3:=hr.le;have h4:=hr.mx;have hln:=hr.len;have Hln:=φ hln;have Ho:=φ ho;have Hr:=φ hr;clear ho hr hln;have q1:(n:Int)+12<=(c':Int):=by omega
 have q2:=wrap_in' (x:=(n:Int)+12) (by omega) (by omega);go_enter Tryz.func190,Tryz.ntmps190;go_wp2_with (fail);go_loopw [6] (fun i wr=>∃ (j:Nat),j<=n+12/\i=.int .i64 j/\Hid (Below w.heap.size w wr)) (fun i _=>n+12-(intOf i).toNat)
 case atStart=>exact⟨0,by omega,rfl,φ (Below.refl _ _)⟩
 case round =>
  obtain⟨j,hj,rfl,Hb⟩:=hrel;have hsz:=Hb.out.size;by_cases hlt:j<n
  ·obtain⟨b,o,e1,hbB,hc1⟩:=dirtyE_at (Ho.out.below (Hb.out.mono hB)) (by omega)
   cases e1
   obtain⟨b2,o2,rfl,hbN,hc2⟩:=dirtyE_at (Hr.out.below (Hb.out.mono hN)) (by omega);obtain⟨k0,k1⟩:=hc1 j (by omega);obtain⟨g0,g1⟩:=hc2 j hlt;rw[allDirty_at L n j Hln.out hlt] at k0 k1;rw[Nat.zero_add] at k0 k1;generalize L.getD j default=p at k0 k1 g0 g1;obtain⟨x_1,x_2⟩:=p;simp only at k0 k1 g0 g1;clear hc1 hc2;have f0:∀ y:BelowW wr,y.v.cell? ⟨g,j*2,none⟩=some (.int .i64 x_1):=fun y=>(y.h.cell (by show g<_;omega)).trans k0
   have f1:∀ y:BelowW wr,y.v.cell? ⟨g,j*2+1,none⟩=some (.int .i64 x_2):=fun y=>(y.h.cell (by show g<_;omega)).trans k1
   have l0:∀ y:BelowW wr,y.v.cell? ⟨b2,o2+j*2,none⟩=some (.int .i64 x_1):=fun y=>(y.h.cell (by show b2<_;omega)).trans g0
   have l1:∀ y:BelowW wr,y.v.cell? ⟨b2,o2+j*2+1,none⟩=some (.int .i64 x_2):=fun y=>(y.h.cell (by show b2<_;omega)).trans g1
   have heq:=eqDirty_self x_1 x_2;have hd:decide ((j:Int)<(n:Int))=true:=decide_eq_true (by omega);have hd2:decide ((n:Int)<=(j:Int))=false:=decide_eq_false (by omega);have hd3:decide (n<=j)=false:=decide_eq_false (by omega);have hd4:decide (j<n)=true:=decide_eq_true (by omega);clear k0 k1 g0 g1;go_wp2_with (fail);refine wp_region_below wr (by kernel_rfl) (by kernel_rfl) (Below.refl _ _) ?_
   repeat (go_big_quiet_step (fail))
   refine wpQuiet_nil ?_;intro _ hw';obtain⟨y,hw''⟩:=hw';subst hw'';clear f0 f1 l0 l1;go_wp2_with (fail);go_roundw
   case rel=>exact⟨j+1,by omega,by go_num,φ (Hb.out.trans (y.h.mono hsz))⟩
   case measure=>simp[intOf];omega
  ·by_cases hlt2:j<n+12
   ·obtain⟨d,rfl⟩:∃ d,j=n+d:=⟨j-n,by omega⟩
    obtain⟨b,o,e1,hbB,hc1⟩:=dirtyE_at (Ho.out.below (Hb.out.mono hB)) (by omega)
    cases e1
    obtain⟨k0,k1⟩:=hc1 (n+d) (by omega);rw[allDirty_behind L n d Hln.out (by omega)] at k0 k1;rw[Nat.zero_add] at k0 k1;have hmk:∀ W:World,Calls Tryz.prog 161 #[.int .i64 1,.int .i64 (d:Int)] W fun e w'=>e=.returned (.agg #[.int .i64 (markN 1 d:Nat),.int .i64 0])/\Below W.heap.size W w':=fun W=>markDirty_any 1 d W (by omega) (by omega)
    unfold mkDirty at k0 k1;simp only at k0 k1;generalize ((markN 1 d:Nat):Int)=m at k0 hmk;have f0:∀ y:BelowW wr,y.v.cell? ⟨g,(n+d)*2,none⟩=some (.int .i64 m):=fun y=>(y.h.cell (by show g<_;omega)).trans k0
    have f1:∀ y:BelowW wr,y.v.cell? ⟨g,(n+d)*2+1,none⟩=some (.int .i64 0):=fun y=>(y.h.cell (by show g<_;omega)).trans k1
    clear hc1 k0 k1;have heq:∀ w:World,(Op.equalIn 10000 80 (.agg #[.int .i64 m,.int .i64 0]) (.agg #[.int .i64 m,.int .i64 0])).run Tryz.prog w=.ok true w:=fun w=>eqDirty_self m 0 w
    have i1:decide ((n:Int)+(d:Int)<(n:Int))=false:=decide_eq_false (by omega);have i2:decide ((n:Int)<=(n:Int)+(d:Int))=true:=decide_eq_true (by omega);have i3:IntKind.i64.wrap ((n:Int)+(d:Int)-(n:Int))=(d:Int):=by
     rw[show (n:Int)+(d:Int)-(n:Int)=(d:Int) by omega];exact wrap_in' (by omega) (by omega)
    have i5:(n:Int)+(d:Int)<(n:Int)+12:=(by omega);have i6:(0:Int)<=(n:Int)+(d:Int):=(by omega);have c5:=φ hlt2;clear hlt hj hlt2;go_wp2_with (fail);refine wp_region_below wr (by kernel_rfl) (by kernel_rfl) (Below.refl _ _) ?_
    repeat (go_big_quiet_step ((go_at_call 161;exact below_call (hmk _))))
    refine wpQuiet_nil ?_;intro _ hw';obtain⟨y,hw''⟩:=hw';subst hw'';clear f0 f1;go_wp2_with (fail);have c6:=c5.out;go_roundw
    case rel=>exact⟨n+d+1,by omega,by go_num,φ (Hb.out.trans (y.h.mono hsz))⟩
    case measure=>simp[intOf];omega
   ·go_wp2_with (fail);go_ret;exact⟨rfl,Hb.out⟩
theorem openE_at (h:openE.In B w a n c X) (hc:0<c):∃ b o,a=some ⟨b,o,none⟩/\b<B/\∀ i,i<n->w.cell? ⟨b,o+i*2,none⟩=some (.int .i64 (X.getD i default).1)/\w.cell? ⟨b,o+i*2+1,none⟩=some (.int .i64 (X.getD i default).2):=by
 obtain⟨b,o,e,hb,hcell⟩:=h.at_ hc;exact⟨b,o,e,hb,fun i hi=>⟨hcell i hi 0 (by decide),hcell i hi 1 (by decide)⟩⟩
theorem openE_lit (W:World) (x:(Int×Int)) (t:TypeId):∀ j u,(openE.cells [x])[j]? = some u->(W.alloc (.cells #[.int .i64 x.1,.int .i64 x.2] t)).cell? ((⟨W.heap.size,0,none⟩:Addr).add j)=some u:=Ek.one_lit (E:=openE) W x _ t rfl
theorem eqOpen_b (x_1:Int) (x_2:Int) (y_1:Int) (y_2:Int):decide ((⟨x_1,x_2⟩:(Int×Int))=⟨y_1,y_2⟩)=(decide (x_1=y_1) && decide (x_2=y_2)):=by
 rw[Bool.eq_iff_iff];simp[Prod.mk.injEq]
theorem eqOpen (x_1:Int) (x_2:Int) (y_1:Int) (y_2:Int) (w:World):(Op.equalIn 10000 200 (.agg #[.int .i64 x_1,.int .i64 x_2]) (.agg #[.int .i64 y_1,.int .i64 y_2])).run Tryz.prog w=.ok (decide ((⟨x_1,x_2⟩:(Int×Int))=⟨y_1,y_2⟩)) w:=by
 have u0:=Tryz.underlying3;have a0:=Tryz.isAgg3;have z0:=Tryz.sizeOf3;have u1:=Tryz.underlying2;have a1:=Tryz.isAgg2;have z1:=Tryz.sizeOf2;have hS:Tryz.prog.underlying 200=some (.struct (Tryz.prog.fieldsOf 200)):=by kernel_rfl
 have hp:Tryz.prog.stoodInHeld 200=false:=by kernel_rfl
 rw[eqOpen_b,show (10000:Nat)=9999+1 from rfl,run_equalIn_agg w 9999 200 _ _ hS hp];simp only[Program.fieldsOf,Tryz.underlying200];go_simp
 all_goals (try by_cases h_1:x_1=y_1)
 all_goals (try by_cases h_2:x_2=y_2)
 all_goals simp_all
theorem takeOpen_succ (hk:k<P.length) (hk2:k<Q.length) (h:P.take k=Q.take k) (he:P.getD k default=Q.getD k default):P.take (k+1)=Q.take (k+1):=by
 rw[List.take_succ_eq_append_getElem hk,List.take_succ_eq_append_getElem hk2,h];simp only[List.getD,List.getElem?_eq_getElem hk,List.getElem?_eq_getElem hk2,Option.getD_some] at he;rw[he]
theorem SameOpens_any (B B':Nat) (a b:Option Addr) (n m c d:Nat) (P Q:List (Int×Int)) (w:World) (hp:openE.In B w a n c P) (hq:openE.In B' w b m d Q) :
  Calls Tryz.prog 219 #[.slice a n c,.slice b m d] w fun e w'=>e=.returned (.bool (decide (P=Q)))/\∃ q,w'=w.drewN q:=by
 have hle:=hp.le;have hmx:=hp.mx;have hle2:=hq.le;have hmx2:=hq.mx;have Hln:=φ hp.len;have Hln2:=φ hq.len;by_cases hnm:n=m
 ·subst hnm;go_enter Tryz.func219,Tryz.ntmps219;go_wp2_with (fail);go_loopw [5] (fun i wr=>∃ j:Nat,j<=n/\i=.int .i64 j/\Hid (P.take j=Q.take j)/\∃ q,wr=w.drewN q) (fun i _=>n-(intOf i).toNat)
  case atStart=>exact⟨0,Nat.zero_le _,rfl,φ rfl,0,rfl⟩
  case round =>
   obtain⟨j,hj,rfl,ht,q,rfl⟩:=hrel;by_cases hlt:j<n
   ·obtain⟨b1,o1,rfl,-,hc1⟩:=openE_at hp (by omega);obtain⟨b2,o2,rfl,-,hc2⟩:=openE_at hq (by omega);obtain⟨g0,g1⟩:=hc1 j hlt;obtain⟨k0,k1⟩:=hc2 j hlt;clear hc1 hc2;have Hsucc:=φ (fun he=>takeOpen_succ (by rw[<- Hln.out];exact hlt) (by rw[<- Hln2.out];exact hlt) ht.out he);have Hno:=φ (show P.getD j default≠Q.getD j default->decide (P=Q)=false from fun hne=>decide_eq_false fun e=>hne (by rw[e]));generalize P.getD j default=p at g0 g1 Hsucc Hno;generalize Q.getD j default=p' at k0 k1 Hsucc Hno;obtain⟨x_1,x_2⟩:=p;obtain⟨y_1,y_2⟩:=p';simp only at g0 g1 k0 k1;have heq0:=eqOpen x_1 x_2 y_1 y_2
    cases he:decide ((⟨x_1,x_2⟩:(Int×Int))=⟨y_1,y_2⟩) with
    | true =>
     have Hs:=φ (Hsucc.out (of_decide_eq_true he));have heq:∀ w,(Op.equalIn 10000 200 (.agg #[.int .i64 x_1,.int .i64 x_2]) (.agg #[.int .i64 y_1,.int .i64 y_2])).run Tryz.prog w=.ok true w:=fun w=>by rw[heq0,he]
     clear he Hno heq0;go_wp2_with (fail);go_quiet (fail);go_wp2_with (fail);go_roundw
     case rel=>exact⟨j+1,by omega,by go_num,Hs,_,rfl⟩
     case measure=>simp[intOf];omega
    | false =>
     have Hn:=φ (Hno.out (of_decide_eq_false he));have heq:∀ w,(Op.equalIn 10000 200 (.agg #[.int .i64 x_1,.int .i64 x_2]) (.agg #[.int .i64 y_1,.int .i64 y_2])).run Tryz.prog w=.ok false w:=fun w=>by rw[heq0,he]
     clear he Hsucc heq0;go_wp2_with (fail);go_quiet (fail);go_wp2_with (fail);go_ret;rw[Hn.out];exact⟨rfl,_,World.drewN_drewN _ _ _⟩
   ·have hge:n<=j:=(by omega);go_wp2_with (fail);go_ret;have:P=Q:=by
     have:=ht.out
     rwa [List.take_of_length_le (by rw[<- Hln.out];exact hge),List.take_of_length_le (by rw[<- Hln2.out];exact hge)] at this
    rw[decide_eq_true this];exact⟨rfl,_,rfl⟩
 ·have hne:decide (P=Q)=false:=decide_eq_false fun e=>hnm (by rw[Hln.out,Hln2.out,e])
  rw[hne];go_enter Tryz.func219,Tryz.ntmps219;go_wp2_with (fail);go_ret;exact⟨rfl,0,rfl⟩
def mkOpen (k i:Nat):(Int×Int):=⟨(markN k i:Int),0⟩
theorem markOpen_any (k i:Nat) (w:World) (hk:k<=1000000) (hi:i<=1000000000) :
  Calls Tryz.prog 162 #[.int .i64 k,.int .i64 i] w fun e w'=>e=.returned (.agg #[.int .i64 (markN k i:Nat),.int .i64 0])/\Below w.heap.size w w':=by
 have HM:=φ (fun W=>mark_any k i W hk hi);have hm:=markN_bd k i hk hi;generalize markN k i=m at HM hm;have hw:=wrap_in' (x:=(m:Int)) (by omega) (by omega);have HB:=φ (fun c:Array Value=>(Below.refl w.heap.size w).alloc (Nat.le_refl _) (.cells c 200));have HB2:=φ (fun (c:Array Value) (v:Value)=>((Below.refl w.heap.size w).alloc (Nat.le_refl _) (.cells c 200)).setCell (p:=⟨w.heap.size,0,none⟩) (Nat.le_refl _) v);go_enter Tryz.func162,Tryz.ntmps162;go_wp2_with (go_at_call 139;refine (HM.out _).mono ?_;rintro e w' ⟨rfl,rfl⟩);go_returns;exact⟨rfl,by first|exact HB.out _|exact HB2.out _ _⟩
def lentOpen:List (Int×Int):=(List.range 12).map fun i=>mkOpen 1 i
theorem lentOpen_len:lentOpen.length=12:=by simp[lentOpen]
theorem lentOpen_at (j:Nat) (h:j<12):lentOpen[j]'(by rw[lentOpen_len];exact h)=mkOpen 1 j:=by simp[lentOpen]
theorem lentOpen_take (j:Nat) (h:j<12):lentOpen.take (j+1)=lentOpen.take j++[mkOpen 1 j]:=by
 rw[List.take_succ_eq_append_getElem (by rw[lentOpen_len];exact h),lentOpen_at j h]
theorem LentOpens_any (N:Nat) (a:Option Addr) (n c:Nat) (L:List (Int×Int)) (w:World) (hr:openE.In N w a n c L) (hN:N<=w.heap.size) (hs:n<=100000) :
  Calls Tryz.prog 188 #[.slice a n c] w fun e w'=>(∃ g c',e=.returned (.slice (some ⟨g,0,none⟩) n c')/\(n+12<=c'/\c'<=9223372036854775807)/\openE.Own w.heap.size w' (.slice (some ⟨g,0,none⟩) (n+12) c') (L++lentOpen))/\Below w.heap.size w w':=by
 obtain⟨i0,hi,hz0,hz1,hz2⟩:=openE.info';have hln:=hr.len;have hle:=hr.le;have hmx:=hr.mx;have Hln:=φ hln;have Hr:=φ hr;have Hi:=φ hi;have Hz0:=φ hz0;have Hz1:=φ hz1;have hb0:i0.bytes*(n+12)<=281474976710656:=by rw[hz2];show 16*(n+12)<=_;omega
 have Hb0:=φ hb0;clear hi hz0 hz1 hz2 hr hln hb0;go_enter Tryz.func188,Tryz.ntmps188;go_wp2_with (first
  | (refine wpList_make_own _ rfl _ _ 31 rfl w.heap.size 200 i0 _ 2 Tryz.underlying31 Hi.out Hz0.out Hz1.out .i64 .i64 _ (n+12) rfl rfl (by omega) Hb0.out (by simp only[maxLen];omega) (Nat.le_refl _) ?_;intro w1 hown1 hg1;have O1:Hid (openE.Own w.heap.size w1 (.slice (some ⟨w.heap.size,0,none⟩) 0 (n+12)) []):=φ hown1;have B1:Hid (Below w.heap.size w w1):=φ ((Below.refl _ w).grown hg1 (Nat.le_refl _) (fun r e=>by cases e));clear hown1 hg1)
  | (at_builtin;refine Ek.wpList_append2 openE rfl _ _ rfl w.heap.size w.heap.size 0 (n+12) [] L rfl O1.out _ _ _ rfl Hln.out (Hr.out.below (B1.out.mono hN)).src B1.out.size (by have:=Hln.out;simp;omega) ?_;intro g2 c2 w2 hc2 hown2 hg2))
 rw[List.nil_append,Nat.zero_add] at hown2;have O2:=φ hown2;have B2:Hid (Below w.heap.size w w2):=φ (B1.out.grown hg2 B1.out.size (fun r e=>by cases e;exact Nat.le_refl _));clear hown2 hg2
 try rw[Nat.zero_add] at hc2
 try rw[Nat.zero_add]
 go_wp2_with (fail);go_loopw [3,4] (fun v i wr=>∃ (j g c':Nat),j<=12/\i=.int .i64 j/\v=.slice (some ⟨g,0,none⟩) (n+j) c'/\Hid (n+j<=c'/\c'<=9223372036854775807)/\Hid (openE.Own w.heap.size wr (.slice (some ⟨g,0,none⟩) (n+j) c') (L++lentOpen.take j))/\Hid (Below w.heap.size w wr)) (fun _ i _=>12-(intOf i).toNat)
 case atStart=>exact⟨0,g2,c2,by omega,rfl,rfl,φ hc2,by simpa using O2,B2⟩
 case round =>
  obtain⟨j,g,c',hj,rfl,rfl,hcc,Ho,Hb⟩:=hrel;by_cases hlt:j<12
  ·have HM:=φ (fun W=>markOpen_any 1 j W (by omega) (by omega));have hsz:=Hb.out.size;have htk:=lentOpen_take j hlt;unfold mkOpen at htk;obtain⟨m,hm⟩:∃ m,m=markN 1 j:=⟨_,rfl⟩
   rw[<- hm] at HM htk;have Htk:=φ htk;clear hm htk;go_wp2_with (first|(go_at_call 162;refine (HM.out _).mono ?_;rintro e wm ⟨rfl,hbm⟩;have O3:=φ ((Ho.out.below hbm).below ((Below.refl _ wm).alloc (Nat.le_refl _) (.cells #[.int .i64 (m:Int),.int .i64 0] 200)));have Bm:=φ (Hb.out.trans (hbm.mono hsz));clear hbm)|(at_builtin;refine Ek.wpList_append2 openE rfl _ _ rfl w.heap.size g (n+j) c' (L++lentOpen.take j) [⟨(m:Int),0⟩] rfl O3.out _ 1 _ rfl rfl (fun _=>⟨_,rfl,openE_lit _ ⟨(m:Int),0⟩ _⟩) (by have:=Bm.out.size;simp;omega) (by have:=Hln.out;simp;omega) ?_;intro g4 c4 w4 hc4 hown4 hg4));have O4:=φ (show openE.Own w.heap.size w4 (.slice (some ⟨g4,0,none⟩) (n+(j+1)) c4) (L++lentOpen.take (j+1)) from by rw[Htk.out,<- List.append_assoc];exact hown4);have B4:Hid (Below w.heap.size w w4):=φ ((Bm.out.alloc Bm.out.size _).grown hg4 (by have:=Bm.out.size;simp;omega) (fun r e=>by cases e;exact (Ho.out.ge _ rfl).1));have C4:=φ hc4;clear hown4 hg4 hc4;go_roundw
   case rel=>exact⟨j+1,g4,c4,by omega,by go_num,by go_num,C4,O4,B4⟩
   case measure=>simp[intOf];omega
  ·have hge:j=12:=by omega
   subst hge;obtain⟨q1,q2⟩:=hcc.out;have q4:(n:Int)<=(c':Int):=by omega
   go_wp2_with (fail);go_ret;refine⟨⟨g,c',rfl,⟨q1,q2⟩,?_⟩,Hb.out⟩;have h:=Ho.out;rw[List.take_of_length_le (Nat.le_of_eq lentOpen_len)] at h;exact h
theorem allOpen_at (L:List (Int×Int)) (n j:Nat) (hn:n=L.length) (hj:j<n):(L++lentOpen).getD j default=L.getD j default:=by
 rw[List.getD_eq_getElem?_getD,List.getElem?_append_left (by omega),List.getD_eq_getElem?_getD]
theorem allOpen_behind (L:List (Int×Int)) (n d:Nat) (hn:n=L.length) (hd:d<12):(L++lentOpen).getD (n+d) default=mkOpen 1 d:=by
 rw[List.getD_eq_getElem?_getD,List.getElem?_append_right (by omega),show n+d-L.length=d by omega,List.getElem?_eq_getElem (by rw[lentOpen_len];exact hd),Option.getD_some,lentOpen_at d hd]
theorem eqOpen_self (x_1:Int) (x_2:Int) (w:World):(Op.equalIn 10000 200 (.agg #[.int .i64 x_1,.int .i64 x_2]) (.agg #[.int .i64 x_1,.int .i64 x_2])).run Tryz.prog w=.ok true w:=by
 rw[eqOpen];simp
theorem KeptOpens_any (B N:Nat) (g:Nat) (c':Nat) (a:Option Addr) (n c:Nat) (L:List (Int×Int)) (w:World) (ho:openE.In B w (some ⟨g,0,none⟩) (n+12) c' (L++lentOpen)) (hr:openE.In N w a n c L) (hB:B<=w.heap.size) (hN:N<=w.heap.size) :
  Calls Tryz.prog 191 #[.slice (some ⟨g,0,none⟩) n c',.slice a n c] w fun e w'=>e=.returned (.bool true)/\Below w.heap.size w w':=by
 have h1:=ho.le;have h2:=ho.mx;have h3:=hr.le;have h4:=hr.mx;have hln:=hr.len;have Hln:=φ hln;have Ho:=φ ho;have Hr:=φ hr;clear ho hr hln;have q1:(n:Int)+12<=(c':Int):=by omega
 have q2:=wrap_in' (x:=(n:Int)+12) (by omega) (by omega);go_enter Tryz.func191,Tryz.ntmps191;go_wp2_with (fail);go_loopw [6] (fun i wr=>∃ (j:Nat),j<=n+12/\i=.int .i64 j/\Hid (Below w.heap.size w wr)) (fun i _=>n+12-(intOf i).toNat)
 case atStart=>exact⟨0,by omega,rfl,φ (Below.refl _ _)⟩
 case round =>
  obtain⟨j,hj,rfl,Hb⟩:=hrel;have hsz:=Hb.out.size;by_cases hlt:j<n
  ·obtain⟨b,o,e1,hbB,hc1⟩:=openE_at (Ho.out.below (Hb.out.mono hB)) (by omega)
   cases e1
   obtain⟨b2,o2,rfl,hbN,hc2⟩:=openE_at (Hr.out.below (Hb.out.mono hN)) (by omega);obtain⟨k0,k1⟩:=hc1 j (by omega);obtain⟨g0,g1⟩:=hc2 j hlt;rw[allOpen_at L n j Hln.out hlt] at k0 k1;rw[Nat.zero_add] at k0 k1;generalize L.getD j default=p at k0 k1 g0 g1;obtain⟨x_1,x_2⟩:=p;simp only at k0 k1 g0 g1;clear hc1 hc2;have f0:∀ y:BelowW wr,y.v.cell? ⟨g,j*2,none⟩=some (.int .i64 x_1):=fun y=>(y.h.cell (by show g<_;omega)).trans k0
   have f1:∀ y:BelowW wr,y.v.cell? ⟨g,j*2+1,none⟩=some (.int .i64 x_2):=fun y=>(y.h.cell (by show g<_;omega)).trans k1
   have l0:∀ y:BelowW wr,y.v.cell? ⟨b2,o2+j*2,none⟩=some (.int .i64 x_1):=fun y=>(y.h.cell (by show b2<_;omega)).trans g0
   have l1:∀ y:BelowW wr,y.v.cell? ⟨b2,o2+j*2+1,none⟩=some (.int .i64 x_2):=fun y=>(y.h.cell (by show b2<_;omega)).trans g1
   have heq:=eqOpen_self x_1 x_2;have hd:decide ((j:Int)<(n:Int))=true:=decide_eq_true (by omega);have hd2:decide ((n:Int)<=(j:Int))=false:=decide_eq_false (by omega);have hd3:decide (n<=j)=false:=decide_eq_false (by omega);have hd4:decide (j<n)=true:=decide_eq_true (by omega);clear k0 k1 g0 g1;go_wp2_with (fail);refine wp_region_below wr (by kernel_rfl) (by kernel_rfl) (Below.refl _ _) ?_
   repeat (go_big_quiet_step (fail))
   refine wpQuiet_nil ?_;intro _ hw';obtain⟨y,hw''⟩:=hw';subst hw'';clear f0 f1 l0 l1;go_wp2_with (fail);go_roundw
   case rel=>exact⟨j+1,by omega,by go_num,φ (Hb.out.trans (y.h.mono hsz))⟩
   case measure=>simp[intOf];omega
  ·by_cases hlt2:j<n+12
   ·obtain⟨d,rfl⟩:∃ d,j=n+d:=⟨j-n,by omega⟩
    obtain⟨b,o,e1,hbB,hc1⟩:=openE_at (Ho.out.below (Hb.out.mono hB)) (by omega)
    cases e1
    obtain⟨k0,k1⟩:=hc1 (n+d) (by omega);rw[allOpen_behind L n d Hln.out (by omega)] at k0 k1;rw[Nat.zero_add] at k0 k1;have hmk:∀ W:World,Calls Tryz.prog 162 #[.int .i64 1,.int .i64 (d:Int)] W fun e w'=>e=.returned (.agg #[.int .i64 (markN 1 d:Nat),.int .i64 0])/\Below W.heap.size W w':=fun W=>markOpen_any 1 d W (by omega) (by omega)
    unfold mkOpen at k0 k1;simp only at k0 k1;generalize ((markN 1 d:Nat):Int)=m at k0 hmk;have f0:∀ y:BelowW wr,y.v.cell? ⟨g,(n+d)*2,none⟩=some (.int .i64 m):=fun y=>(y.h.cell (by show g<_;omega)).trans k0
    have f1:∀ y:BelowW wr,y.v.cell? ⟨g,(n+d)*2+1,none⟩=some (.int .i64 0):=fun y=>(y.h.cell (by show g<_;omega)).trans k1
    clear hc1 k0 k1;have heq:∀ w:World,(Op.equalIn 10000 200 (.agg #[.int .i64 m,.int .i64 0]) (.agg #[.int .i64 m,.int .i64 0])).run Tryz.prog w=.ok true w:=fun w=>eqOpen_self m 0 w
    have i1:decide ((n:Int)+(d:Int)<(n:Int))=false:=decide_eq_false (by omega);have i2:decide ((n:Int)<=(n:Int)+(d:Int))=true:=decide_eq_true (by omega);have i3:IntKind.i64.wrap ((n:Int)+(d:Int)-(n:Int))=(d:Int):=by
     rw[show (n:Int)+(d:Int)-(n:Int)=(d:Int) by omega];exact wrap_in' (by omega) (by omega)
    have i5:(n:Int)+(d:Int)<(n:Int)+12:=(by omega);have i6:(0:Int)<=(n:Int)+(d:Int):=(by omega);have c5:=φ hlt2;clear hlt hj hlt2;go_wp2_with (fail);refine wp_region_below wr (by kernel_rfl) (by kernel_rfl) (Below.refl _ _) ?_
    repeat (go_big_quiet_step ((go_at_call 162;exact below_call (hmk _))))
    refine wpQuiet_nil ?_;intro _ hw';obtain⟨y,hw''⟩:=hw';subst hw'';clear f0 f1;go_wp2_with (fail);have c6:=c5.out;go_roundw
    case rel=>exact⟨n+d+1,by omega,by go_num,φ (Hb.out.trans (y.h.mono hsz))⟩
    case measure=>simp[intOf];omega
   ·go_wp2_with (fail);go_ret;exact⟨rfl,Hb.out⟩
end
section
set_option maxHeartbeats 2000000
set_option maxRecDepth 100000
open Go.RowKit
variable {g m:Nat} {w:World}
def Blk (w:World) (g m:Nat):Prop:=∃ cur t,w.heap[g]? = some (.cells cur t (0,0))/\m<=cur.size
theorem Blk.at_ (h:Blk w g m) {i:Nat} (hi:i<m):(∃ u,w.cell? ⟨g,i,none⟩=some u)/\w.frozen? ⟨g,i,none⟩=false:=by
 obtain⟨cur,t,hh,hs⟩:=h;refine⟨⟨cur[i]'(by omega),?_⟩,by simp[World.frozen?,hh]⟩;simp[World.cell?,hh,Array.getElem?_eq_getElem (show i<cur.size by omega)]
theorem Blk.set (h:Blk w g m) (i:Nat) (v:Value):Blk (w.setCell ⟨g,i,none⟩ v) g m:=by
 obtain⟨cur,t,hh,hs⟩:=h;exact⟨_,t,set_at hh i v,by simpa using hs⟩
theorem Blk.below {w':World} (h:Blk w g m) (hb:Below w.heap.size w w'):Blk w' g m:=by
 obtain⟨cur,t,hh,hs⟩:=h;exact⟨cur,t,(hb.block g (ξ hh)).trans hh,hs⟩
theorem Ek.Own.blk {α:Type} {E:Ek α} {base:Nat} {n c:Nat} {X:List α} (h:E.Own base w (.slice (some ⟨g,0,none⟩) n c) X):Blk w g (n*E.k)/\n<=c/\c<=9223372036854775807/\base<=g:=by
 obtain⟨-,⟨h2,-⟩|⟨g',cap,cur,hv,hg,hh,hle,hcap,hsz,htk⟩⟩:=h
 ·cases h2
 ·injection hv with e1 e2 e3
  injection e1 with e1
  injection e1 with e1
  subst e1;subst e2;subst e3;exact⟨⟨cur,_,hh,by rw[hsz];exact Nat.mul_le_mul_right _ hle⟩,hle,hcap,hg⟩
theorem OverDirties_any (base g n c:Nat) (X:List (Int×Int)) (w:World) (ho:dirtyE.Own base w (.slice (some ⟨g,0,none⟩) (n+12) c) X) (hn:n<=100000) :
  Calls Tryz.prog 193 #[.slice (some ⟨g,0,none⟩) n c] w fun e w'=>e=.returned (.tuple #[])/\Trn (fun b=>b=g) w w':=by
 obtain⟨hB,hle,hmx,hg⟩:=ho.blk;have HB:=φ hB;have HG:=φ hg;clear ho hB hg;have q1:(n:Int)+12<=(c:Int):=by omega
 have q2:IntKind.i64.wrap ((n:Int)+12)=(n:Int)+12:=IntWalk.i64_in _ (by omega);go_enter Tryz.func193,Tryz.ntmps193;go_wp2_with (fail);go_loopw [3] (fun i wr=>∃ (j:Nat),j<=n+12/\i=.int .i64 j/\Hid (Blk wr g ((n+12)*2))/\Hid (Trn (fun b=>b=g) w wr)) (fun i _=>n+12-(intOf i).toNat)
 case atStart=>exact⟨0,by omega,rfl,HB,φ (Trn.refl _ _)⟩
 case round =>
  obtain⟨j,hj,rfl,HO,Hb⟩:=hrel;by_cases hlt:j<n+12
  ·have HM:Hid (∀ W,Calls Tryz.prog 161 #[.int .i64 2,.int .i64 (j:Int)] W fun e w'=>e=.returned (.agg #[.int .i64 (markN 2 j:Nat),.int .i64 0])/\Below W.heap.size W w'):=φ (fun W=>markDirty_any 2 j W (by omega) (by omega));obtain⟨mb,hmb⟩:∃ mb,mb=((markN 2 j:Nat):Int):=⟨_,rfl⟩
   rw[<- hmb] at HM;clear hmb;have HJ:=φ hlt;go_wp2_with (go_at_call 161;refine (HM.out _).mono ?_;rintro e wm ⟨rfl,hbm⟩;have hO:=HO.out.below hbm;obtain⟨⟨u0,c0⟩,f0⟩:=hO.at_ (i:=j*2) (by have:=HJ.out;omega);obtain⟨⟨u1,c1⟩,f1⟩:=hO.at_ (i:=j*2+1) (by have:=HJ.out;omega);have HO1:=φ ((hO.set (j*2) (.int .i64 mb)).set (j*2+1) (.int .i64 0));have HB1:Hid (Trn (fun b=>b=g) w ((wm.setCell ⟨g,j*2,none⟩ (.int .i64 mb)).setCell ⟨g,j*2+1,none⟩ (.int .i64 0))):=φ (((Hb.out.below hbm Hb.out.size).set g (j*2) _ (.inl rfl)).set g (j*2+1) _ (.inl rfl));clear hO hbm);go_roundw
   case rel=>exact⟨j+1,by omega,by go_num,HO1,HB1⟩
   case measure=>simp[intOf];omega
  ·go_wp2_with (fail);go_end0;exact⟨rfl,Hb.out⟩
theorem OverOpens_any (base g n c:Nat) (X:List (Int×Int)) (w:World) (ho:openE.Own base w (.slice (some ⟨g,0,none⟩) (n+12) c) X) (hn:n<=100000) :
  Calls Tryz.prog 194 #[.slice (some ⟨g,0,none⟩) n c] w fun e w'=>e=.returned (.tuple #[])/\Trn (fun b=>b=g) w w':=by
 obtain⟨hB,hle,hmx,hg⟩:=ho.blk;have HB:=φ hB;have HG:=φ hg;clear ho hB hg;have q1:(n:Int)+12<=(c:Int):=by omega
 have q2:IntKind.i64.wrap ((n:Int)+12)=(n:Int)+12:=IntWalk.i64_in _ (by omega);go_enter Tryz.func194,Tryz.ntmps194;go_wp2_with (fail);go_loopw [3] (fun i wr=>∃ (j:Nat),j<=n+12/\i=.int .i64 j/\Hid (Blk wr g ((n+12)*2))/\Hid (Trn (fun b=>b=g) w wr)) (fun i _=>n+12-(intOf i).toNat)
 case atStart=>exact⟨0,by omega,rfl,HB,φ (Trn.refl _ _)⟩
 case round =>
  obtain⟨j,hj,rfl,HO,Hb⟩:=hrel;by_cases hlt:j<n+12
  ·have HM:Hid (∀ W,Calls Tryz.prog 162 #[.int .i64 2,.int .i64 (j:Int)] W fun e w'=>e=.returned (.agg #[.int .i64 (markN 2 j:Nat),.int .i64 0])/\Below W.heap.size W w'):=φ (fun W=>markOpen_any 2 j W (by omega) (by omega));obtain⟨mb,hmb⟩:∃ mb,mb=((markN 2 j:Nat):Int):=⟨_,rfl⟩
   rw[<- hmb] at HM;clear hmb;have HJ:=φ hlt;go_wp2_with (go_at_call 162;refine (HM.out _).mono ?_;rintro e wm ⟨rfl,hbm⟩;have hO:=HO.out.below hbm;obtain⟨⟨u0,c0⟩,f0⟩:=hO.at_ (i:=j*2) (by have:=HJ.out;omega);obtain⟨⟨u1,c1⟩,f1⟩:=hO.at_ (i:=j*2+1) (by have:=HJ.out;omega);have HO1:=φ ((hO.set (j*2) (.int .i64 mb)).set (j*2+1) (.int .i64 0));have HB1:Hid (Trn (fun b=>b=g) w ((wm.setCell ⟨g,j*2,none⟩ (.int .i64 mb)).setCell ⟨g,j*2+1,none⟩ (.int .i64 0))):=φ (((Hb.out.below hbm Hb.out.size).set g (j*2) _ (.inl rfl)).set g (j*2+1) _ (.inl rfl));clear hO hbm);go_roundw
   case rel=>exact⟨j+1,by omega,by go_num,HO1,HB1⟩
   case measure=>simp[intOf];omega
  ·go_wp2_with (fail);go_end0;exact⟨rfl,Hb.out⟩
end
end Go.Proofs.YtohlkkannjifmaaGreatDoor
