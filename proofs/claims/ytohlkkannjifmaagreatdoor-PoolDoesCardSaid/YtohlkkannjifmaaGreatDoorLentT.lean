import Derived.Test.YtohlkkannjifmaaGreatDoorLent
import Derived.Test.YtohlkkannjifmaaGreatDoorRefB
import Derived.Test.YtohlkkannjifmaaGreatDoorOCopy
namespace Go.Proofs.YtohlkkannjifmaaGreatDoor
section
set_option maxHeartbeats 1000000
set_option maxRecDepth 100000
open Go.RowKit Go.Shelf
variable {l:List UInt8} {base:Nat} {W:World}
def lentT:List UInt8:=(List.range 12).map fun i=>mkB 1 i
theorem lentT_take (j:Nat) (h:j<12):lentT.take (j+1)=lentT.take j++[mkB 1 j]:=by
 have hl:lentT.length=12:=by simp[lentT]
 rw[List.take_succ_eq_append_getElem (by omega)]
 congr 2
 simp[lentT]
theorem OB.form {v:Value} (h:OB base W v l) (hv:v≠.slice none 0 0):∃ g c,v=.slice (some ⟨g,0,none⟩) l.length c:=by
 obtain⟨e,⟨h1,-⟩|⟨g,cap,cur,h1,-⟩⟩:=h
 ·exact absurd h1 hv
 ·exact⟨g,cap,h1⟩
theorem OB.cap {a:Option Addr} {n c:Nat} (h:OB base W (.slice a n c) l):n=l.length/\n<=c/\c<=9223372036854775807:=by
 obtain⟨e,⟨h1,h2⟩|⟨g,cap,cur,h1,-,-,h3,h4,-⟩⟩:=h
 ·cases h1;exact⟨h2.symm,Nat.le_refl _,by omega⟩
 ·cases h1;exact⟨rfl,h3,by simpa [maxLen] using h4⟩
theorem LentBytes_any (N:Nat) (a:Option Addr) (n c:Nat) (L:List UInt8) (w:World) (hr:RB N w a n c L) (hN:N<=w.heap.size) (hs:n<=100000) :
  Calls Tryz.prog 225 #[.slice a n c] w fun e w'=>(∃ g c',e=.returned (.slice (some ⟨g,0,none⟩) n c')/\OB w.heap.size w' (.slice (some ⟨g,0,none⟩) (n+12) c') (L++lentT))/\Below w.heap.size w w':=by
 obtain⟨i0,hi,hz0,hz1,hz2⟩:=info_parts Tryz.infoU8;have hln:=hr.len;have Hln:=φ hln;have Hr:=φ hr;have Hi:=φ hi;have Hz0:=φ hz0;have Hz1:=φ hz1;have Hz2:=φ hz2;have hb0:i0.bytes*(n+12)<=281474976710656:=by rw[hz2];omega
 have Hb0:=φ hb0;clear hi hz0 hz1 hz2 hr hln hb0;go_enter Tryz.func225,Tryz.ntmps225;go_wp2_with (first
  | (refine wpList_make_own _ rfl _ _ 27 rfl w.heap.size 5 i0 (.int .u8 0) 1 Tryz.underlying27 Hi.out Hz0.out Hz1.out .i64 .i64 _ (n+12) rfl rfl (by omega) Hb0.out (by simp only[maxLen];omega) (Nat.le_refl _) ?_;intro w1 hown1 hg1;have O1:Hid (OB w.heap.size w1 (.slice (some ⟨w.heap.size,0,none⟩) 0 (n+12)) []):=φ hown1;have B1:Hid (Below w.heap.size w w1):=φ ((Below.refl _ w).grown hg1 (Nat.le_refl _) (fun r e=>by cases e));clear hown1 hg1)
  | (at_builtin;refine wpList_append_bytes rfl _ _ rfl w.heap.size N _ [] rfl O1.out _ _ _ L rfl (Hr.out.below (B1.out.mono hN)) (by simp[<- Hln.out];omega) B1.out.size ?_;intro v2 w2 hown2 hg2 hn2))
 have hv2:v2≠.slice none 0 0:=fun e=>by have:=(hn2.1 e).1;cases this
 rw[List.nil_append] at hown2;obtain⟨g2,c2,rfl⟩:=hown2.form hv2;rw[<- Hln.out] at hown2 ⊢;have O2:=φ hown2;have B2:Hid (Below w.heap.size w w2):=φ (B1.out.grown hg2 B1.out.size (fun r e=>by cases e;exact Nat.le_refl _));clear hown2 hg2 hn2 hv2;go_wp2_with (fail);go_loopw [3,4] (fun v i wr=>∃ (j g c':Nat),j<=12/\i=.int .i64 j/\v=.slice (some ⟨g,0,none⟩) (n+j) c'/\Hid (OB w.heap.size wr (.slice (some ⟨g,0,none⟩) (n+j) c') (L++lentT.take j))/\Hid (Below w.heap.size w wr)) (fun _ i _=>12-(intOf i).toNat)
 case atStart=>exact⟨0,g2,c2,by omega,rfl,rfl,by simpa using O2,B2⟩
 case round =>
  obtain⟨j,g,c',hj,rfl,rfl,Ho,Hb⟩:=hrel;by_cases hlt:j<12
  ·have HM:=φ (markByte_any 1 j wr (by omega) (by omega));have hsz:=Hb.out.size;go_wp2_with (fail);refine HM.out.mono ?_;rintro e w' ⟨rfl,rfl⟩;have hl1:=lit_rb wr [mkB 1 j] (0,0) (by simp);have Hl1:=φ hl1;have O3:=φ (Ho.out.below ((Below.refl _ wr).alloc (Nat.le_refl _) (.cells #[.int .u8 ((mkB 1 j).toNat:Int)] 5)));clear hl1;go_wp2_with (at_builtin;refine wpList_append_bytes rfl _ _ rfl w.heap.size _ _ (L++lentT.take j) rfl O3.out _ _ _ [mkB 1 j] rfl Hl1.out (by have:=Hln.out;simp;omega) (by simp;omega) ?_;intro v4 w4 hown4 hg4 hn4);have hv4:v4≠.slice none 0 0:=fun e=>by have:=(hn4.1 e).1;cases this
   obtain⟨g4,c4,rfl⟩:=hown4.form hv4;have hlen:(L++lentT.take j++[mkB 1 j]).length=n+(j+1):=by
    have:=Ho.out.cap.1;rw[List.length_append,<- this];simp;omega
   rw[hlen] at hown4;rw[List.append_assoc,<- lentT_take j hlt] at hown4;have O4:=φ hown4;have B4:Hid (Below w.heap.size w w4):=φ ((Hb.out.alloc hsz _).grown hg4 (by simp;omega) (fun r e=>(Ho.out.own r e).1));clear hown4 hg4 hn4 hv4;go_roundw
   case rel=>exact⟨j+1,g4,c4,by omega,by go_num,by rw[hlen],O4,B4⟩
   case measure=>simp[intOf];omega
  ·have hge:j=12:=by omega
   subst hge;obtain⟨q1,q2,q3⟩:=Ho.out.cap;have q4:(n:Int)<=(c':Int):=by omega
   clear q1;go_wp2_with (fail);go_ret;refine⟨⟨g,c',rfl,?_⟩,Hb.out⟩;have h:=Ho.out;rw[List.take_of_length_le (by simp[lentT])] at h;exact h
end
section
set_option maxHeartbeats 4000000
set_option maxRecDepth 100000
open Go.RowKit Go.Shelf
variable {l:List UInt8} {base c g j n:Nat} {w:World}
theorem KeptBytes_any (B M g c:Nat) (la:Option Addr) (n lc:Nat) (l:List UInt8) (w:World) (ho:RB B w (some ⟨g,0,none⟩) (n+12) c (l++lentT)) (hl:RB M w la n lc l) (hB:B<=w.heap.size) (hM:M<=w.heap.size) (hs:n<=100000) :
  Calls Tryz.prog 226 #[.slice (some ⟨g,0,none⟩) n c,.slice la n lc] w fun e w'=>e=.returned (.bool true)/\Below w.heap.size w w':=by
 have h1:=ho.le;have h2:=ho.mx;have h3:=hl.le;have h4:=hl.mx;have hln:=hl.len;have Hln:=φ hln;have Ho:=φ ho;have Hl:=φ hl;have q4:(n:Int)+12<=(c:Int):=by omega
 clear ho hl hln;go_enter Tryz.func226,Tryz.ntmps226;go_wp2_with (fail);go_loopw [6] (fun i wr=>∃ j:Nat,j<=n+12/\i=.int .i64 j/\Hid (Below w.heap.size w wr)) (fun i _=>n+12-(intOf i).toNat)
 case atStart=>exact⟨0,Nat.zero_le _,rfl,φ (Below.refl _ _)⟩
 case round =>
  obtain⟨j,hj,rfl,hb⟩:=hrel;by_cases hlt:j<n+12
  ·obtain⟨b1,o1,e1,hg1,hc1⟩:=Ho.out.at_ (by omega)
   cases e1
   have c1:=hc1 j hlt;rw[Nat.zero_add] at c1;clear hc1;have hsw:=hb.out.size;have k1:(0:Int)<=(j:Int):=by omega
   have k2:(j:Int)<(n:Int)+12:=by omega
   by_cases hjn:j<n
   ·obtain⟨b2,o2,rfl,hg2,hc2⟩:=Hl.out.at_ (by omega);have c2:=hc2 j hjn;have hbt:bt (l++lentT) j=bt l j:=bt_left (by rw[<- Hln.out];exact hjn);rw[hbt] at c1;have f1:∀ x:BelowW wr,x.v.cell? ⟨g,j,none⟩=some (.int .u8 (bt l j)):=fun x=>(x.h.cell (by show g<wr.heap.size;omega)).trans ((hb.out.cell (by show g<w.heap.size;omega)).trans c1)
    have f2:∀ x:BelowW wr,x.v.cell? ⟨b2,o2+j,none⟩=some (.int .u8 (bt l j)):=fun x=>(x.h.cell (by show b2<wr.heap.size;omega)).trans ((hb.out.cell (by show b2<w.heap.size;omega)).trans c2)
    have i1:decide (j<n)=true:=decide_eq_true hjn;have i2:decide (n<=j)=false:=decide_eq_false (by omega);have i3:(bt l j == bt l j)=true:=(by simp);have i4:¬ (n:Int)<=(j:Int):=(by omega);have i5:(j:Int)<(n:Int):=(by omega);clear hc2 hbt c1 c2;go_wp2_with (fail);refine wp_region_below wr (by kernel_rfl) (by kernel_rfl) (Below.refl _ _) ?_
    repeat (go_big_quiet_step (fail))
    refine wpQuiet_nil ?_;intro _ hw';obtain⟨x,hw''⟩:=hw';subst hw'';clear f1 f2;go_wp2_with (fail);go_roundw
    case rel=>exact⟨j+1,by omega,by go_num,φ (hb.out.trans (x.h.mono hsw))⟩
    case measure=>simp[intOf];omega
   ·obtain⟨m,hm⟩:∃ m,m=j-n:=⟨_,rfl⟩
    have hbt:bt (l++lentT) j=((mkB 1 m).toNat:Int):=by
     rw[bt_right' (i:=m) (by rw[<- Hln.out];omega)];unfold bt lentT;rw[List.getD_eq_getElem?_getD,List.getElem?_map,List.getElem?_range (by omega)];rfl
    rw[hbt] at c1;have f1:∀ x:BelowW wr,x.v.cell? ⟨g,j,none⟩=some (.int .u8 ((mkB 1 m).toNat:Int)):=fun x=>(x.h.cell (by show g<wr.heap.size;omega)).trans ((hb.out.cell (by show g<w.heap.size;omega)).trans c1)
    have hmk:∀ W:World,Calls Tryz.prog 141 #[.int .i64 1,.int .i64 m] W fun e w'=>e=.returned (.int .u8 ((mkB 1 m).toNat:Int))/\W=w':=fun W=>markByte_any 1 m W (by omega) (by omega)
    generalize ((mkB 1 m).toNat:Int)=mb at f1 hmk;have i1:decide (j<n)=false:=decide_eq_false hjn;have i2:decide (n<=j)=true:=decide_eq_true (by omega);have i3:(mb == mb)=true:=(by simp);have i4:(j:Int)-(n:Int)=(m:Int):=(by omega);have i5:IntKind.i64.wrap ((j:Int)-(n:Int))=(m:Int):=(by rw[i4];exact IntWalk.i64_in _ (by omega));have i6:IntKind.i64.wrap (m:Int)=(m:Int):=IntWalk.i64_in _ (by omega);clear hbt hm c1;go_wp2_with (fail);refine wp_region_below wr (by kernel_rfl) (by kernel_rfl) (Below.refl _ _) ?_
    repeat (go_big_quiet_step ((go_at_call 141;exact below_call_same (hmk _))))
    refine wpQuiet_nil ?_;intro _ hw';obtain⟨x,hw''⟩:=hw';subst hw'';clear f1 i4 i5 i6;go_wp2_with (fail);go_roundw
    case rel=>exact⟨j+1,by omega,by go_num,φ (hb.out.trans (x.h.mono hsw))⟩
    case measure=>simp[intOf];omega
  ·go_wp2_with (fail);go_ret;exact⟨rfl,hb.out⟩
theorem rowB_set {m:Nat} {e:TypeId} {xs:List Value} (h:w.ownsRow base e 1 (.slice (some ⟨g,0,none⟩) n c) m xs) {k:Nat} (hk:k<m) (v:Value):(w.setCell ⟨g,k,none⟩ v).ownsRow base e 1 (.slice (some ⟨g,0,none⟩) n c) m (xs.set k v):=by
 obtain⟨e1,⟨h3,-⟩|⟨g',cap,cur,hv,hg,hh,hle,hcap,hsz,htk⟩⟩:=h
 ·cases h3
 ·cases hv
  have e2:=heap_setCell_same w g k cur e v hh;refine⟨by rw[List.length_set];exact e1,.inr ⟨g,_,_,rfl,hg,e2,hle,hcap,by simp[hsz],?_⟩⟩;rw[<- htk];simp only[Array.toList_setIfInBounds];rw[List.take_set]
theorem OB.setB (h:OB base w (.slice (some ⟨g,0,none⟩) n c) l) (hj:j<l.length) (b:UInt8):OB base (w.setCell ⟨g,j,none⟩ (.int .u8 (b.toNat:Int))) (.slice (some ⟨g,0,none⟩) n c) (l.set j b):=by
 have h2:=rowB_set h hj (bv b);unfold OB;rw[List.length_set,List.map_set];exact h2
theorem OB.atB (h:OB base w (.slice (some ⟨g,0,none⟩) n c) l) (hj:j<l.length):(∃ u,w.cell? ⟨g,j,none⟩=some u)/\w.frozen? ⟨g,j,none⟩=false:=by
 obtain⟨e1,⟨h3,-⟩|⟨g',cap,cur,hv,hg,hh,hle,hcap,hsz,htk⟩⟩:=h
 ·cases h3
 ·cases hv
  refine⟨⟨cur[j]'(by rw[hsz];omega),?_⟩,by simp[World.frozen?,hh]⟩;rw[cell_of_row w g j _ _ _ hh];exact Array.getElem?_eq_getElem _
theorem OverBytes_any (base g n c:Nat) (P:List UInt8) (w:World) (ho:OB base w (.slice (some ⟨g,0,none⟩) (n+12) c) P) (hn:n<=100000) :
  Calls Tryz.prog 227 #[.slice (some ⟨g,0,none⟩) n c] w fun e w'=>e=.returned (.tuple #[])/\w.grownBy w' (some g):=by
 obtain⟨hl,hle,hmx⟩:=ho.cap;have Ho:=φ ho;have Hl:=φ hl;clear ho hl;have q1:(n:Int)+12<=(c:Int):=by omega
 have q2:IntKind.i64.wrap ((n:Int)+12)=(n:Int)+12:=IntWalk.i64_in _ (by omega);go_enter Tryz.func227,Tryz.ntmps227;go_wp2_with (fail);go_loopw [3] (fun i wr=>∃ (j:Nat) (Q:List UInt8),j<=n+12/\i=.int .i64 j/\Hid (Q.length=n+12)/\Hid (OB base wr (.slice (some ⟨g,0,none⟩) (n+12) c) Q)/\Hid (w.grownBy wr (some g))) (fun i _=>n+12-(intOf i).toNat)
 case atStart=>exact⟨0,P,by omega,rfl,φ Hl.out.symm,Ho,φ ⟨rfl,rfl,rfl,Nat.le_refl _,fun _ _ _=>rfl⟩⟩
 case round =>
  obtain⟨j,Q,hj,rfl,HQ,HO,HG⟩:=hrel;by_cases hlt:j<n+12
  ·have hmk:∀ W:World,Calls Tryz.prog 141 #[.int .i64 2,.int .i64 j] W fun e w'=>e=.returned (.int .u8 ((mkB 2 j).toNat:Int))/\W=w':=fun W=>markByte_any 2 j W (by omega) (by omega)
   obtain⟨⟨u0,c1⟩,f1⟩:=HO.out.atB (j:=j) (by have:=HQ.out;omega);have HO2:=φ (HO.out.setB (j:=j) (by have:=HQ.out;omega) (mkB 2 j));obtain⟨mb,hmb⟩:∃ mb,mb=((mkB 2 j).toNat:Int):=⟨_,rfl⟩
   rw[<- hmb] at hmk HO2;clear hmb;go_wp2_with (go_at_call 141;refine (hmk _).mono ?_;rintro e wm ⟨rfl,rfl⟩);go_roundw
   case rel=>exact⟨j+1,Q.set j (mkB 2 j),by omega,by go_num,φ (by rw[List.length_set];exact HQ.out),HO2,φ ⟨HG.out.os,HG.out.tape,HG.out.output,Nat.le_trans HG.out.size (by simp[World.setCell]),fun k hk hne=>(Below.heap_setCell _ _ _ _ (fun e=>hne (by rw[e]))).trans (HG.out.block k hk hne)⟩⟩
   case measure=>simp[intOf];omega
  ·go_wp2_with (fail);go_end0;exact⟨rfl,HG.out⟩
end
section
set_option maxHeartbeats 4000000
set_option maxRecDepth 100000
open Go.RowKit Go.Shelf
variable {l:List UInt8} {base d n z:Nat} {v0 v1 v2:Value} {W w:World}
structure LentAt (base:Nat) (w:World) (g0 g1 g2 kn on nn d0 d1 d2:Nat) (K O N:List UInt8):Prop where
 o0:OB base w (.slice (some ⟨g0,0,none⟩) (kn+12) d0) (K++lentT)
 o1:OB base w (.slice (some ⟨g1,0,none⟩) (on+12) d1) (O++lentT)
 o2:OB base w (.slice (some ⟨g2,0,none⟩) (nn+12) d2) (N++lentT)
 n01:g0<g1
 n12:g1<g2
def LentTR (w:World) (kn on nn:Nat) (K O N:List UInt8) (e:Ending) (w':World):Prop :=
 (∃ g0 g1 g2 d0 d1 d2,e=.returned (.agg #[.slice (some ⟨g0,0,none⟩) kn d0,.slice (some ⟨g1,0,none⟩) on d1,.slice (some ⟨g2,0,none⟩) nn d2])/\LentAt w.heap.size w' g0 g1 g2 kn on nn d0 d1 d2 K O N)/\Below w.heap.size w w'
theorem T3.set0 (h:T3 W z v0 v1 v2) (u:Value):T3 (W.setCell ⟨z,0,none⟩ u) z u v1 v2:=by
 unfold T3 at h ⊢;simp[World.setCell,Array.getElem?_modify,h]
theorem T3.setAll {u0 u1 u2:Value} (h:T3 W z u0 u1 u2):T3 (((W.setCell ⟨z,0,none⟩ v0).setCell ⟨z,1,none⟩ v1).setCell ⟨z,2,none⟩ v2) z v0 v1 v2:=by
 unfold T3 at h ⊢;simp[World.setCell,Array.getElem?_modify,h]
theorem T3.other (h:T3 W z v0 v1 v2) {j o:Nat} (hj:j≠z) (u:Value):T3 (W.setCell ⟨j,o,none⟩ u) z v0 v1 v2:=by
 unfold T3 at h ⊢;rw[<- h];exact Below.heap_setCell W ⟨j,o,none⟩ u z (fun e=>hj e.symm)
theorem LentTurn_any (B:Nat) (ka oa na:Option Addr) (kn kc on oc nn nc:Nat) (K O N:List UInt8) (w:World) (hk:RB B w ka kn kc K) (ho:RB B w oa on oc O) (hn:RB B w na nn nc N) (hB:B<=w.heap.size) (sk:kn<=100000) (so:on<=100000) (sn:nn<=100000) :
  Calls Tryz.prog 186 #[.agg #[.slice ka kn kc,.slice oa on oc,.slice na nn nc]] w (LentTR w kn on nn K O N):=by
 have HK:=φ hk;have HO:=φ ho;have HN:=φ hn;clear hk ho hn;have t0:=T3.new w (.slice ka kn kc) (.slice oa on oc) (.slice na nn nc);have hb0:Below w.heap.size w (w.alloc (.cells #[.slice ka kn kc,.slice oa on oc,.slice na nn nc] 29)):=(Below.refl _ w).alloc (Nat.le_refl _) _;have t1:=t0.below ((Below.refl _ (w.alloc (.cells #[.slice ka kn kc,.slice oa on oc,.slice na nn nc] 29))).alloc (Nat.le_refl _) (.cells #[.slice none 0 0,.slice none 0 0,.slice none 0 0] 29)) t0.lt;have s1:=T3.new (w.alloc (.cells #[.slice ka kn kc,.slice oa on oc,.slice na nn nc] 29)) (.slice none 0 0) (.slice none 0 0) (.slice none 0 0);have hb1:=hb0.alloc hb0.size (.cells #[.slice none 0 0,.slice none 0 0,.slice none 0 0] 29);have hsz:(w.alloc (.cells #[.slice ka kn kc,.slice oa on oc,.slice na nn nc] 29)).heap.size=w.heap.size+1:=World.size_alloc _ _;have hsz2:((w.alloc (.cells #[.slice ka kn kc,.slice oa on oc,.slice na nn nc] 29)).alloc (.cells #[.slice none 0 0,.slice none 0 0,.slice none 0 0] 29)).heap.size=w.heap.size+1+1:=by rw[World.size_alloc,hsz]
 rw[hsz] at s1;obtain⟨z,hz⟩:∃ z,z=w.heap.size:=⟨_,rfl⟩
 obtain⟨w1,hw1⟩:∃ w1,w1=(w.alloc (.cells #[.slice ka kn kc,.slice oa on oc,.slice na nn nc] 29)).alloc (.cells #[.slice none 0 0,.slice none 0 0,.slice none 0 0] 29):=⟨_,rfl⟩
 rw[<- hw1] at t1 s1 hb1 hsz2;rw[<- hz] at t1 s1 hsz2;have Hw1:=φ hw1;have Hz:=φ hz;have T1:=φ t1;have S1:=φ s1;have B1:=φ hb1;have Hs1:=φ hsz2;clear t0 t1 s1 hb0 hb1 hsz hsz2 hw1 hz;go_enter Tryz.func186,Tryz.ntmps186;go_upto_region 1 with (fail);rw[<- Hw1.out,<- Hz.out];obtain⟨c0,c1,c2⟩:=T1.out.cells;go_wp2_with (fail);go_at_call 225;refine (LentBytes_any B ka kn kc K w1 (HK.out.below (B1.out.mono hB)) (Nat.le_trans hB B1.out.size) sk).mono ?_;rintro e w2 ⟨⟨g0,d0,rfl,o0⟩,hb2⟩;have hg0:=OB.own o0 g0 rfl;have hs1:z+2<=w1.heap.size:=by have:=Hs1.out;omega
 have T2:=φ (T1.out.below hb2 T1.out.lt);have S2:=φ (S1.out.below hb2 S1.out.lt);have B2:=φ (B1.out.trans (hb2.mono B1.out.size));have hz:w.heap.size<=z:=by have:=Hz.out;omega
 obtain⟨w3,hw3⟩:∃ q,q=w2.setCell ⟨z,0,none⟩ (.slice (some ⟨g0,0,none⟩) kn d0):=⟨_,rfl⟩
 have T3':=φ (T2.out.set0 (.slice (some ⟨g0,0,none⟩) kn d0));have S3:=φ (S2.out.other (j:=z) (o:=0) (by omega) (.slice (some ⟨g0,0,none⟩) kn d0));have B3:=φ (B2.out.setCell (p:=⟨z,0,none⟩) (by show w.heap.size<=z;omega) (.slice (some ⟨g0,0,none⟩) kn d0));have O3:=φ (o0.set_ne (y:=z) (j:=0) (fun e=>by have e2:g0=z:=Option.some.inj e;omega) (.slice (some ⟨g0,0,none⟩) kn d0));rw[<- hw3] at T3' S3 B3 O3;have Hw3:=φ hw3;have hsz3:w2.heap.size<=w3.heap.size:=by rw[hw3];simp[World.setCell]
 have hgl0:g0<w3.heap.size:=by omega
 clear c0 c1 c2 hw3 o0;obtain⟨c0,c1,c2⟩:=T2.out.cells;obtain⟨f0,f1,f2⟩:=T2.out.frozen;go_wp2_with (fail);rw[<- Hw3.out];go_at_call 225;refine (LentBytes_any B oa on oc O w3 (HO.out.below (B3.out.mono hB)) (Nat.le_trans hB B3.out.size) so).mono ?_;rintro e w4 ⟨⟨g1,d1,rfl,o1⟩,hb4⟩;have hg1:=OB.own o1 g1 rfl;have T4:=φ (T3'.out.below hb4 T3'.out.lt);have S4:=φ (S3.out.below hb4 S3.out.lt);have B4:=φ (B3.out.trans (hb4.mono B3.out.size));have O4:=O3.out.below hb4;obtain⟨w5,hw5⟩:∃ q,q=w4.setCell ⟨z,1,none⟩ (.slice (some ⟨g1,0,none⟩) on d1):=⟨_,rfl⟩
 have T5:=φ (T4.out.set1 (.slice (some ⟨g1,0,none⟩) on d1));have S5:=φ (S4.out.other (j:=z) (o:=1) (by omega) (.slice (some ⟨g1,0,none⟩) on d1));have B5:=φ (B4.out.setCell (p:=⟨z,1,none⟩) (by show w.heap.size<=z;omega) (.slice (some ⟨g1,0,none⟩) on d1));have O5:=φ (O4.set_ne (y:=z) (j:=1) (fun e=>by have e2:g0=z:=Option.some.inj e;omega) (.slice (some ⟨g1,0,none⟩) on d1));have P5:=φ (o1.set_ne (y:=z) (j:=1) (fun e=>by have e2:g1=z:=Option.some.inj e;omega) (.slice (some ⟨g1,0,none⟩) on d1));rw[<- hw5] at T5 S5 B5 O5 P5;have Hw5:=φ hw5;have hsz5:w4.heap.size<=w5.heap.size:=by rw[hw5];simp[World.setCell]
 clear c0 c1 c2 f0 f1 f2 hw5 o1 O4;obtain⟨c0,c1,c2⟩:=T4.out.cells;obtain⟨f0,f1,f2⟩:=T4.out.frozen;go_wp2_with (fail);rw[<- Hw5.out];go_at_call 225;refine (LentBytes_any B na nn nc N w5 (HN.out.below (B5.out.mono hB)) (Nat.le_trans hB B5.out.size) sn).mono ?_;rintro e w6 ⟨⟨g2,d2,rfl,o2⟩,hb6⟩;have hg2:=OB.own o2 g2 rfl;have T6:=φ (T5.out.below hb6 T5.out.lt);have S6:=φ (S5.out.below hb6 S5.out.lt);have B6:=φ (B5.out.trans (hb6.mono B5.out.size));have O6:=φ (O5.out.below hb6);have P6:=φ (P5.out.below hb6);have R6:=φ o2;clear c0 c1 c2 f0 f1 f2 o2;obtain⟨c0,c1,c2⟩:=T6.out.cells;obtain⟨f0,f1,f2⟩:=T6.out.frozen;obtain⟨n0,n1,n2⟩:=S6.out.cells;obtain⟨m0,m1,m2⟩:=S6.out.frozen;go_wp2_with (fail);have R7:=(S6.out.other (j:=z) (o:=2) (by omega) (.slice (some ⟨g2,0,none⟩) nn d2)).setAll (v0:=.slice (some ⟨g0,0,none⟩) kn d0) (v1:=.slice (some ⟨g1,0,none⟩) on d1) (v2:=.slice (some ⟨g2,0,none⟩) nn d2);obtain⟨k0,k1,k2⟩:=R7.cells;have no0:∀ y,y<z+2->(Value.slice (some ⟨g0,0,none⟩) (kn+12) d0).ownBlock≠some y:=fun y hy e=>by have e2:g0=y:=Option.some.inj e;omega
 have no1:∀ y,y<z+2->(Value.slice (some ⟨g1,0,none⟩) (on+12) d1).ownBlock≠some y:=fun y hy e=>by have e2:g1=y:=Option.some.inj e;omega
 have no2:∀ y,y<z+2->(Value.slice (some ⟨g2,0,none⟩) (nn+12) d2).ownBlock≠some y:=fun y hy e=>by have e2:g2=y:=Option.some.inj e;omega
 refine bodyPost_ret (v:=.agg #[.slice (some ⟨g0,0,none⟩) kn d0,.slice (some ⟨g1,0,none⟩) on d1,.slice (some ⟨g2,0,none⟩) nn d2]) (by simp[results,Tryz.f186,go_sem,k0,k1,k2]) rfl ⟨⟨g0,g1,g2,d0,d1,d2,rfl,⟨?_,?_,?_,by omega,by omega⟩⟩,?_⟩
 ·exact ((((O6.out.set_ne (no0 z (by omega)) _).set_ne (no0 (z+1) (by omega)) _).set_ne (no0 (z+1) (by omega)) _).set_ne (no0 (z+1) (by omega)) _).mono B1.out.size
 ·exact ((((P6.out.set_ne (no1 z (by omega)) _).set_ne (no1 (z+1) (by omega)) _).set_ne (no1 (z+1) (by omega)) _).set_ne (no1 (z+1) (by omega)) _).mono B3.out.size
 ·exact ((((R6.out.set_ne (no2 z (by omega)) _).set_ne (no2 (z+1) (by omega)) _).set_ne (no2 (z+1) (by omega)) _).set_ne (no2 (z+1) (by omega)) _).mono B5.out.size
 ·exact (((B6.out.setCell (p:=⟨z,2,none⟩) (by show w.heap.size<=z;omega) _).setCell (p:=⟨z+1,0,none⟩) (by show w.heap.size<=z+1;omega) _).setCell (p:=⟨z+1,1,none⟩) (by show w.heap.size<=z+1;omega) _).setCell (p:=⟨z+1,2,none⟩) (by show w.heap.size<=z+1;omega) _
theorem two_boxed (w:World) (u0 u1 u2 v0 v1 v2:Value):∃ w2,w2=(w.alloc (.cells #[u0,u1,u2] 29)).alloc (.cells #[v0,v1,v2] 29)/\T3 w2 w.heap.size u0 u1 u2/\T3 w2 (w.heap.size+1) v0 v1 v2/\Below w.heap.size w w2/\w2.heap.size=w.heap.size+1+1:=by
 have t0:=T3.new w u0 u1 u2;have hsz:(w.alloc (.cells #[u0,u1,u2] 29)).heap.size=w.heap.size+1:=World.size_alloc _ _;have s1:=T3.new (w.alloc (.cells #[u0,u1,u2] 29)) v0 v1 v2;rw[hsz] at s1;exact⟨_,rfl,t0.below ((Below.refl _ _).alloc (Nat.le_refl _) _) t0.lt,s1,((Below.refl _ w).alloc (Nat.le_refl _) _).alloc (by rw[hsz];omega) _,by rw[World.size_alloc,hsz]⟩
theorem SameTurn_any (B:Nat) (ka oa na ka' oa' na':Option Addr) (kn kc on oc nn nc kc' oc' nc':Nat) (K O N:List UInt8) (w:World) (hk:RB B w ka kn kc K) (ho:RB B w oa on oc O) (hn:RB B w na nn nc N) (hk':RB B w ka' kn kc' K) (ho':RB B w oa' on oc' O) (hn':RB B w na' nn nc' N) (hB:B<=w.heap.size) :
  Calls Tryz.prog 159 #[.agg #[.slice ka kn kc,.slice oa on oc,.slice na nn nc],.agg #[.slice ka' kn kc',.slice oa' on oc',.slice na' nn nc']] w fun e w'=>e=.returned (.bool true)/\Below w.heap.size w w':=by
 obtain⟨w2,hw2,t,s,hb,-⟩:=two_boxed w (.slice ka kn kc) (.slice oa on oc) (.slice na nn nc) (.slice ka' kn kc') (.slice oa' on oc') (.slice na' nn nc');have hb':=hb.mono hB;have HS:∀ (a b:Option Addr) (n c m d:Nat) (l:List UInt8),RB B w a n c l->RB B w b m d l->Hid (∀ W,Below w2.heap.size w2 W->Calls Tryz.prog 14 #[.slice a n c,.slice b m d] W fun e w'=>e=.returned (.bool true)/\Below W.heap.size W w'):=fun a b n c m d l h1 h2=>φ fun W hW=>by
  have hWb:=hb'.trans (hW.mono (Nat.le_trans hB hb.size));have h:=SameBytes_any B a b n c m d l l W (h1.below hWb) (h2.below hWb);rw[eqB_self] at h;exact h.mono fun e w' ⟨he,q,hq⟩=>⟨he,hq ▸ δ (Below.refl _ _) q⟩
 have H0:=HS _ _ _ _ _ _ _ hk hk';have H1:=HS _ _ _ _ _ _ _ ho ho';have H2:=HS _ _ _ _ _ _ _ hn hn';have Hw2:=φ hw2;have HT:=φ t;have HSs:=φ s;have Hb:=φ hb;obtain⟨z,hz⟩:∃ z,z=w.heap.size:=⟨_,rfl⟩
 rw[<- hz] at HT HSs;have Hz:=φ hz;clear hw2 t s hb hb' HS hk ho hn hk' ho' hn' hz;go_enter Tryz.func159,Tryz.ntmps159;go_upto_region 1 with (fail);rw[<- Hw2.out,<- Hz.out];obtain⟨c0,c1,c2⟩:=HT.out.cells;obtain⟨s0,s1,s2⟩:=HSs.out.cells;go_wp2_with (fail);go_at_call 14;refine (H0.out _ (Below.refl _ _)).mono ?_;rintro e w3 ⟨rfl,hb3⟩;have B3:=φ hb3;obtain⟨-,d1,d2⟩:=(HT.out.below hb3 HT.out.lt).cells;obtain⟨-,t1,t2⟩:=(HSs.out.below hb3 HSs.out.lt).cells;clear c0 c1 c2 s0 s1 s2 hb3;go_wp2_with (fail);go_at_call 14;refine (H1.out _ B3.out).mono ?_;rintro e w4 ⟨rfl,hb4⟩;have B4:=φ (B3.out.trans (hb4.mono B3.out.size));obtain⟨-,-,c2⟩:=(HT.out.below B4.out HT.out.lt).cells;obtain⟨-,-,s2⟩:=(HSs.out.below B4.out HSs.out.lt).cells;clear d1 d2 t1 t2 hb4;go_wp2_with (fail);go_at_call 14;refine (H2.out _ B4.out).mono ?_;rintro e w5 ⟨rfl,hb5⟩;have B5:=φ (B4.out.trans (hb5.mono B4.out.size));clear c2 s2 hb5;go_wp2_with (fail);go_ret;exact⟨rfl,Hb.out.trans (B5.out.mono Hb.out.size)⟩
theorem LentAt.below {w':World} {g0 g1 g2 kn on nn d0 d1 d2:Nat} {K O N:List UInt8} (h:LentAt base w g0 g1 g2 kn on nn d0 d1 d2 K O N) (hb:Below w.heap.size w w'):LentAt base w' g0 g1 g2 kn on nn d0 d1 d2 K O N :=
 ⟨h.o0.below hb,h.o1.below hb,h.o2.below hb,h.n01,h.n12⟩
theorem OB.rb12 {g:Nat} (h:OB base w (.slice (some ⟨g,0,none⟩) (n+12) d) (l++lentT)) (hn:n<=100000):RB w.heap.size w (some ⟨g,0,none⟩) (n+12) d (l++lentT):=by
 have hc:=h.cap;obtain⟨a',c',e,r⟩:=h.rb (by rw[<- hc.1];omega);injection e with e1 e2 e3
 rw[e1,e2,e3];exact r
theorem RB.of12 {B:Nat} {a:Option Addr} (h:RB B w a (n+12) d (l++lentT)) (hl:n=l.length):RB B w a n d l:=by
 have h2:=h.take n (by omega);rw[hl,List.take_left] at h2;rw[hl];exact h2
theorem KeptTurn_any (B base:Nat) (g0 g1 g2 d0 d1 d2:Nat) (ka oa na:Option Addr) (kn kc on oc nn nc:Nat) (K O N:List UInt8) (w:World) (hl:LentAt base w g0 g1 g2 kn on nn d0 d1 d2 K O N) (hk:RB B w ka kn kc K) (ho:RB B w oa on oc O) (hn:RB B w na nn nc N) (hB:B<=w.heap.size) (sk:kn<=100000) (so:on<=100000) (sn:nn<=100000) :
  Calls Tryz.prog 189 #[.agg #[.slice (some ⟨g0,0,none⟩) kn d0,.slice (some ⟨g1,0,none⟩) on d1,.slice (some ⟨g2,0,none⟩) nn d2],.agg #[.slice ka kn kc,.slice oa on oc,.slice na nn nc]] w fun e w'=>e=.returned (.bool true)/\Below w.heap.size w w':=by
 obtain⟨w2,hw2,t,s,hb,-⟩:=two_boxed w (.slice (some ⟨g0,0,none⟩) kn d0) (.slice (some ⟨g1,0,none⟩) on d1) (.slice (some ⟨g2,0,none⟩) nn d2) (.slice ka kn kc) (.slice oa on oc) (.slice na nn nc);have r0:=hl.o0.rb12 sk;have r1:=hl.o1.rb12 so;have r2:=hl.o2.rb12 sn;have HS:Hid (∀ W,Below w.heap.size w W->Calls Tryz.prog 159 #[.agg #[.slice (some ⟨g0,0,none⟩) kn d0,.slice (some ⟨g1,0,none⟩) on d1,.slice (some ⟨g2,0,none⟩) nn d2],.agg #[.slice ka kn kc,.slice oa on oc,.slice na nn nc]] W fun e w'=>e=.returned (.bool true)/\Below W.heap.size W w'):=φ fun W hW =>
  SameTurn_any w.heap.size _ _ _ _ _ _ _ _ _ _ _ _ _ _ _ K O N W ((r0.of12 hk.len).below hW) ((r1.of12 ho.len).below hW) ((r2.of12 hn.len).below hW) ((hk.mono hB).below hW) ((ho.mono hB).below hW) ((hn.mono hB).below hW) hW.size
 have HKp:∀ (g d:Nat) (a:Option Addr) (n c:Nat) (l:List UInt8),RB w.heap.size w (some ⟨g,0,none⟩) (n+12) d (l++lentT)->RB B w a n c l->n<=100000->Hid (∀ W,Below w.heap.size w W->Calls Tryz.prog 226 #[.slice (some ⟨g,0,none⟩) n d,.slice a n c] W fun e w'=>e=.returned (.bool true)/\Below W.heap.size W w'):=fun g d a n c l h1 h2 h3=>φ fun W hW =>
  KeptBytes_any w.heap.size B g d a n c l W (h1.below hW) (h2.below (hW.mono hB)) hW.size (Nat.le_trans hB hW.size) h3
 have H0:=HKp _ _ _ _ _ _ r0 hk sk;have H1:=HKp _ _ _ _ _ _ r1 ho so;have H2:=HKp _ _ _ _ _ _ r2 hn sn;have Hw2:=φ hw2;have HT:=φ t;have HSs:=φ s;have Hb:=φ hb;obtain⟨z,hz⟩:∃ z,z=w.heap.size:=⟨_,rfl⟩
 rw[<- hz] at HT HSs;have Hz:=φ hz;clear hw2 t s hb HKp hk ho hn hl r0 r1 r2 hz;go_enter Tryz.func189,Tryz.ntmps189;go_upto_region 1 with (fail);rw[<- Hw2.out,<- Hz.out];obtain⟨c0,c1,c2⟩:=HT.out.cells;obtain⟨s0,s1,s2⟩:=HSs.out.cells;go_wp2_with (fail);go_at_call 159;refine (HS.out _ Hb.out).mono ?_;rintro e w3 ⟨rfl,hb3⟩;have B3:=φ hb3;have A3:=φ (Hb.out.trans (hb3.mono Hb.out.size));obtain⟨d0',d1',d2'⟩:=(HT.out.below hb3 HT.out.lt).cells;obtain⟨t0,t1,t2⟩:=(HSs.out.below hb3 HSs.out.lt).cells;clear c0 c1 c2 s0 s1 s2 hb3;go_wp2_with (fail);go_at_call 226;refine (H0.out _ A3.out).mono ?_;rintro e w4 ⟨rfl,hb4⟩;have B4:=φ (B3.out.trans (hb4.mono B3.out.size));have A4:=φ (A3.out.trans (hb4.mono A3.out.size));obtain⟨c0,c1,c2⟩:=(HT.out.below B4.out HT.out.lt).cells;obtain⟨s0,s1,s2⟩:=(HSs.out.below B4.out HSs.out.lt).cells;clear d0' d1' d2' t0 t1 t2 hb4;go_wp2_with (fail);go_at_call 226;refine (H1.out _ A4.out).mono ?_;rintro e w5 ⟨rfl,hb5⟩;have B5:=φ (B4.out.trans (hb5.mono B4.out.size));have A5:=φ (A4.out.trans (hb5.mono A4.out.size));obtain⟨d0',d1',d2'⟩:=(HT.out.below B5.out HT.out.lt).cells;obtain⟨t0,t1,t2⟩:=(HSs.out.below B5.out HSs.out.lt).cells;clear c0 c1 c2 s0 s1 s2 hb5;go_wp2_with (fail);go_at_call 226;refine (H2.out _ A5.out).mono ?_;rintro e w6 ⟨rfl,hb6⟩;have A6:=φ (A5.out.trans (hb6.mono A5.out.size));clear d0' d1' d2' t0 t1 t2 hb6;go_wp2_with (fail);go_ret;exact⟨rfl,A6.out⟩
end
end Go.Proofs.YtohlkkannjifmaaGreatDoor
