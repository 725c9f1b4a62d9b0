/-  -/
import Derived.Test.YtgplnekpgdhcpaaGreatQMeet
import Derived.Test.YtgplnekpgdhcpaaGreatQBridge
import Derived.Test.YtgplnekpgdhcpaaGreatQFill
import Derived.Test.YtgplnekpgdhcpaaGreatKFind
import Derived.Test.YtgplnekpgdhcpaaGreatQWant
namespace Go.Proofs.YtgplnekpgdhcpaaGreat
section
open Go.RowKit
theorem allI_at (L:List It) (n j:Nat) (hn:n=L.length) (hj:j<n):(L++lentI).getD j default=L.getD j default:=by
 rw[List.getD_eq_getElem?_getD,List.getElem?_append_left (by omega),List.getD_eq_getElem?_getD]
theorem allI_behind (L:List It) (n d:Nat) (hn:n=L.length) (hd:d<12):(L++lentI).getD (n+d) default=mkIt d:=by
 rw[List.getD_eq_getElem?_getD,List.getElem?_append_right (by omega),show n+d-L.length=d by omega,List.getElem?_eq_getElem (by rw[lentI_len];exact hd),Option.getD_some,lentI_at d hd]
theorem OIt.cells {base:Nat} {w:World} {g n c:Nat} {Y:List It} (h:OIt base w (.slice (some ⟨g,0,none⟩) n c) Y):n=Y.length/\n<=c/\c<=9223372036854775807/\g<w.heap.size/\∀ i,i<n->w.cell? ⟨g,i*4,none⟩=some (encStr (Y.getD i default).code)/\w.cell? ⟨g,i*4+1,none⟩=some (.int .i64 (Y.getD i default).life)/\w.cell? ⟨g,i*4+2,none⟩=some (.slice (Y.getD i default).pa (Y.getD i default).ps.length (Y.getD i default).pc)/\w.cell? ⟨g,i*4+3,none⟩=some (.slice (Y.getD i default).oa (Y.getD i default).os.length (Y.getD i default).oc):=by
 obtain⟨h1,⟨h2,-⟩|⟨g',cap,cur,hv,hg,hh,hle,hcap,hsz,htk⟩⟩:=h
 ·cases h2
 ·cases hv
  refine⟨rfl,hle,by simpa [maxLen] using hcap,(Array.getElem?_eq_some_iff.1 hh).1,fun i hi=>?_⟩;have hat:=cellsI_at Y i hi;rw[<- htk] at hat;simp only[World.cell?,hh,Option.isSome_none,Bool.false_eq_true,if_false];rw[List.getElem?_take,if_pos (by omega),List.getElem?_take,if_pos (by omega),List.getElem?_take,if_pos (by omega),List.getElem?_take,if_pos (by omega)] at hat;simpa using hat
theorem mkIt_ok (d B:Nat) (w:World) (hd:d<12):ItOk B w (mkIt d):=by
 have:=markN_bd 1 d (by omega) (by omega);refine⟨Nat.zero_le _,by unfold mkIt;simp only;omega,by unfold mkIt;simp only;omega,⟨rfl,Nat.le_refl _,Nat.zero_le _,fun p hp=>(by cases hp),fun h=>absurd h (Nat.lt_irrefl _)⟩,⟨rfl,Nat.le_refl _,Nat.zero_le _,fun p hp=>(by cases hp),fun h=>absurd h (Nat.lt_irrefl _)⟩⟩
set_option maxHeartbeats 4000000 in
set_option maxRecDepth 100000 in
theorem KeptItems_any (base N:Nat) (g:Nat) (a:Option Addr) (n c:Nat) (X Y:List It) (w:World) (ho:OIt base w (.slice (some ⟨g,0,none⟩) (n+12) (n+12)) (Y++lentI)) (hY:Y.length=n) (hL:∀ i,i<n->LI base w (X.getD i default) (Y.getD i default)) (hr:RI N w a n c X) (hN:N<=w.heap.size) (hs:n<=100000) :
  Calls Tryz.prog 45 #[.slice (some ⟨g,0,none⟩) n (n+12),.slice a n c] w fun e w'=>e=.returned (.bool true)/\Below w.heap.size w w':=by
 obtain⟨-,-,-,hgw,hcells⟩:=ho.cells;have h3:=hr.le;have h4:=hr.mx;have hln:=hr.len;have Hln:=Lib.hid hln;have HC:=Lib.hid hcells;have HL:=Lib.hid hL;have Hr:=Lib.hid hr;have HY:=Lib.hid hY.symm;clear ho hr hln hcells hL hY;have q1:(n:Int)+12<=((n+12:Nat):Int):=by omega
 have q2:=wrap_in (x:=(n:Int)+12) (by omega) (by omega);go_enter Tryz.func45,Tryz.ntmps45;go_wp2_with (fail);go_loopw [6] (fun i wr=>∃ (j:Nat),j<=n+12/\i=.int .i64 j/\Hid (Below w.heap.size w wr)) (fun i _=>n+12-(intOf i).toNat)
 case atStart=>exact⟨0,by omega,rfl,Lib.hid (Below.refl _ _)⟩
 case round =>
  obtain⟨j,hj,rfl,Hb⟩:=hrel;have hsz:=Hb.out.size;by_cases hlt:j<n
  ·have hrj:=Hr.out.below (Hb.out.mono hN);obtain⟨b2,o2,rfl,hbN,hc2⟩:=hrj.at_ (by omega);obtain⟨k1,k2,k3,k4⟩:=HC.out j (by omega);obtain⟨k5,k6,k7,k8⟩:=hc2 j hlt;rw[allI_at Y n j HY.out hlt] at k1 k2 k3 k4;have hxm:X.getD j default∈X:=by
    rw[List.getD_eq_getElem?_getD,List.getElem?_eq_getElem (by rw[<- Hln.out];exact hlt)];exact List.getElem_mem _
   have hxo:=hrj.ok _ hxm;have hli:=(HL.out j hlt).keep Hb.out;generalize X.getD j default=x at k5 k6 k7 k8 hxo hli;generalize Y.getD j default=y at k1 k2 k3 k4 hli;have hmk:∀ z:BelowW wr,Calls Tryz.prog 77 #[y.val,x.val] z.v fun e w'=>e=.returned (.bool true)/\Below z.v.heap.size z.v w':=fun z=>KeptItem_any base N x y z.v (hxo.below (z.h.mono (Nat.le_trans hN hsz))) (hli.keep z.h) (Nat.le_trans (Nat.le_trans hN hsz) z.h.size)
   unfold It.val encStr at hmk;unfold encStr at k1 k5;have hbw:∀ (i:Nat) (v:Value),w.cell? ⟨g,i,none⟩=some v->∀ z:BelowW wr,z.v.cell? ⟨g,i,none⟩=some v:=fun i v h z=>(z.h.cell (by show g<_;omega)).trans ((Hb.out.cell (by show g<_;omega)).trans h)
   have hbx:∀ (i:Nat) (v:Value),wr.cell? ⟨b2,i,none⟩=some v->∀ z:BelowW wr,z.v.cell? ⟨b2,i,none⟩=some v:=fun i v h z=>(z.h.cell (by show b2<_;omega)).trans h
   have f1:=hbw _ _ k1;have f2:=hbw _ _ k2;have f3:=hbw _ _ k3;have f4:=hbw _ _ k4;have f5:=hbx _ _ k5;have f6:=hbx _ _ k6;have f7:=hbx _ _ k7;have f8:=hbx _ _ k8;have HMK:=Lib.hid hmk;have hd:decide ((j:Int)<(n:Int))=true:=decide_eq_true (by omega);have hd2:decide ((n:Int)<=(j:Int))=false:=decide_eq_false (by omega);have hd3:decide (n<=j)=false:=decide_eq_false (by omega);have hd4:decide (j<n)=true:=decide_eq_true (by omega);clear k1 k2 k3 k4 k5 k6 k7 k8 hbw hbx hmk hxo hli hxm hc2 hrj;go_wp2_with (fail);refine wp_region_below wr (by kernel_rfl) (by kernel_rfl) (Below.refl _ _) ?_
   repeat (go_big_quiet_step ((go_at_call 77;exact below_call (HMK.out _))))
   refine wpQuiet_nil ?_;intro _ hw';obtain⟨y,hw''⟩:=hw';subst hw'';clear f1 f2 f3 f4 f5 f6 f7 f8;go_wp2_with (fail);go_roundw
   case rel=>exact⟨j+1,by omega,by go_num,Lib.hid (Hb.out.trans (y.h.mono hsz))⟩
   case measure=>simp[intOf];omega
  ·by_cases hlt2:j<n+12
   ·obtain⟨d,rfl⟩:∃ d,j=n+d:=⟨j-n,by omega⟩
    obtain⟨k1,k2,k3,k4⟩:=HC.out (n+d) (by omega);rw[allI_behind Y n d HY.out (by omega)] at k1 k2 k3 k4;have hmk:∀ W:World,Calls Tryz.prog 64 #[.int .i64 1,.int .i64 (d:Int)] W fun e w'=>e=.returned (.agg #[.string ⟨#[]⟩,.int .i64 (markN 1 d:Nat),.slice none 0 0,.slice none 0 0])/\Below W.heap.size W w':=fun W=>markItem_any d W (by omega)
    have hsm:∀ W:World,Calls Tryz.prog 78 #[.agg #[.string ⟨#[]⟩,.int .i64 (markN 1 d:Nat),.slice none 0 0,.slice none 0 0],.agg #[.string ⟨#[]⟩,.int .i64 (markN 1 d:Nat),.slice none 0 0,.slice none 0 0]] W fun e w'=>e=.returned (.bool true)/\Below W.heap.size W w':=fun W=>SameItem_like 0 (mkIt d) (mkIt d) W (mkIt_ok d 0 W (by omega)) (mkIt_ok d 0 W (by omega)) (Nat.zero_le _) ⟨rfl,rfl,rfl,rfl⟩
    unfold mkIt at k1 k2 k3 k4;unfold encStr at k1;simp only[List.length_nil] at k1 k2 k3 k4;generalize ((markN 1 d:Nat):Int)=m at k2 hmk hsm;have hbw:∀ (i:Nat) (v:Value),w.cell? ⟨g,i,none⟩=some v->∀ z:BelowW wr,z.v.cell? ⟨g,i,none⟩=some v:=fun i v h z=>(z.h.cell (by show g<_;omega)).trans ((Hb.out.cell (by show g<_;omega)).trans h)
    have f1:=hbw _ _ k1;have f2:=hbw _ _ k2;have f3:=hbw _ _ k3;have f4:=hbw _ _ k4;have HMK:=Lib.hid hmk;have HSM:=Lib.hid hsm;clear k1 k2 k3 k4 hbw hmk hsm;have i1:decide ((n:Int)+(d:Int)<(n:Int))=false:=decide_eq_false (by omega);have i2:decide ((n:Int)<=(n:Int)+(d:Int))=true:=decide_eq_true (by omega);have i3:IntKind.i64.wrap ((n:Int)+(d:Int)-(n:Int))=(d:Int):=by
     rw[show (n:Int)+(d:Int)-(n:Int)=(d:Int) by omega];exact wrap_in (by omega) (by omega)
    have i5:(n:Int)+(d:Int)<(n:Int)+12:=(by omega);have i6:(0:Int)<=(n:Int)+(d:Int):=(by omega);have c5:=Lib.hid hlt2;clear hlt hj hlt2;go_wp2_with (fail);refine wp_region_below wr (by kernel_rfl) (by kernel_rfl) (Below.refl _ _) ?_
    repeat (go_big_quiet_step (first|(go_at_call 64;exact below_call (HMK.out _))|(go_at_call 78;exact below_call (HSM.out _))))
    refine wpQuiet_nil ?_;intro _ hw';obtain⟨y,hw''⟩:=hw';subst hw'';clear f1 f2 f3 f4;go_wp2_with (fail);have c6:=c5.out;go_roundw
    case rel=>exact⟨n+d+1,by omega,by go_num,Lib.hid (Hb.out.trans (y.h.mono hsz))⟩
    case measure=>simp[intOf];omega
   ·go_wp2_with (fail);go_ret;exact⟨rfl,Hb.out⟩
end
section
open Go.RowKit
def mkLot (k i:Nat):LotV:=⟨(markN k i:Int),[],0,0,0,false⟩
theorem markLot_any (k i:Nat) (w:World) (hk:k<=1000000) (hi:i<=1000000000) :
  Calls Tryz.prog 65 #[.int .i64 k,.int .i64 i] w fun e w'=>e=.returned (.agg #[.int .i64 (markN k i:Nat),.string ⟨#[]⟩,.int .i64 0,.int .i64 0,.int .i64 0,.bool false])/\Below w.heap.size w w':=by
 have HM:=Lib.hid (fun W=>mark_any k i W hk hi);have hm:=markN_bd k i hk hi;generalize markN k i=m at HM hm;have hw:=wrap_in (x:=(m:Int)) (by omega) (by omega);have HB:=Lib.hid (fun c:Array Value=>(Below.refl w.heap.size w).alloc (Nat.le_refl _) (.cells c 50));have HB2:=Lib.hid (fun (c:Array Value) (v:Value)=>((Below.refl w.heap.size w).alloc (Nat.le_refl _) (.cells c 50)).setCell (p:=⟨w.heap.size,0,none⟩) (Nat.le_refl _) v);go_enter Tryz.func65,Tryz.ntmps65;go_wp2_with (go_at_call 96;refine (HM.out _).mono ?_;rintro e w' ⟨rfl,rfl⟩);go_returns;exact⟨rfl,by first|exact HB.out _|exact HB2.out _ _⟩
def lentLot:List LotV:=(List.range 12).map fun i=>mkLot 1 i
theorem lentLot_len:lentLot.length=12:=by simp[lentLot]
theorem lentLot_at (j:Nat) (h:j<12):lentLot[j]'(by rw[lentLot_len];exact h)=mkLot 1 j:=by simp[lentLot]
theorem lentLot_take (j:Nat) (h:j<12):lentLot.take (j+1)=lentLot.take j++[mkLot 1 j]:=by
 rw[List.take_succ_eq_append_getElem (by rw[lentLot_len];exact h),lentLot_at j h]
set_option maxHeartbeats 2000000 in
set_option maxRecDepth 100000 in
theorem LentLots_any (N:Nat) (a:Option Addr) (n c:Nat) (L:List LotV) (w:World) (hr:lotE.In N w a n c L) (hN:N<=w.heap.size) (hs:n<=100000) :
  Calls Tryz.prog 32 #[.slice a n c] w fun e w'=>(∃ g c',e=.returned (.slice (some ⟨g,0,none⟩) n c')/\(n+12<=c'/\c'<=9223372036854775807)/\lotE.Own w.heap.size w' (.slice (some ⟨g,0,none⟩) (n+12) c') (L++lentLot))/\Below w.heap.size w w':=by
 obtain⟨i0,hi,hz0,hz1,hz2⟩:=lotE.info';have hln:=hr.len;have hle:=hr.le;have hmx:=hr.mx;have Hln:=Lib.hid hln;have Hr:=Lib.hid hr;have Hi:=Lib.hid hi;have Hz0:=Lib.hid hz0;have Hz1:=Lib.hid hz1;have hb0:i0.bytes*(n+12)<=281474976710656:=by rw[hz2];show 56*(n+12)<=_;omega
 have Hb0:=Lib.hid hb0;clear hi hz0 hz1 hz2 hr hln hb0;go_enter Tryz.func32,Tryz.ntmps32;go_wp2_with (first
  | (refine wpList_make_own _ rfl _ _ 23 rfl w.heap.size 50 i0 _ 6 Tryz.underlying23 Hi.out Hz0.out Hz1.out .i64 .i64 _ (n+12) rfl rfl (by omega) Hb0.out (by simp only[maxLen];omega) (Nat.le_refl _) ?_;intro w1 hown1 hg1;have O1:Hid (lotE.Own w.heap.size w1 (.slice (some ⟨w.heap.size,0,none⟩) 0 (n+12)) []):=Lib.hid hown1;have B1:Hid (Below w.heap.size w w1):=Lib.hid ((Below.refl _ w).grown hg1 (Nat.le_refl _) (fun r e=>by cases e));clear hown1 hg1)
  | (at_builtin;refine El.wpList_append2 lotE rfl _ _ rfl w.heap.size w.heap.size 0 (n+12) [] L rfl O1.out _ _ _ rfl Hln.out (Hr.out.below (B1.out.mono hN)).src B1.out.size (by have:=Hln.out;simp;omega) ?_;intro g2 c2 w2 hc2 hown2 hg2))
 rw[List.nil_append,Nat.zero_add] at hown2;have O2:=Lib.hid hown2;have B2:Hid (Below w.heap.size w w2):=Lib.hid (B1.out.grown hg2 B1.out.size (fun r e=>by cases e;exact Nat.le_refl _));clear hown2 hg2
 try rw[Nat.zero_add] at hc2
 try rw[Nat.zero_add]
 go_wp2_with (fail);go_loopw [3,4] (fun v i wr=>∃ (j g c':Nat),j<=12/\i=.int .i64 j/\v=.slice (some ⟨g,0,none⟩) (n+j) c'/\Hid (n+j<=c'/\c'<=9223372036854775807)/\Hid (lotE.Own w.heap.size wr (.slice (some ⟨g,0,none⟩) (n+j) c') (L++lentLot.take j))/\Hid (Below w.heap.size w wr)) (fun _ i _=>12-(intOf i).toNat)
 case atStart=>exact⟨0,g2,c2,by omega,rfl,rfl,Lib.hid hc2,by simpa using O2,B2⟩
 case round =>
  obtain⟨j,g,c',hj,rfl,rfl,hcc,Ho,Hb⟩:=hrel;by_cases hlt:j<12
  ·have HM:=Lib.hid (fun W=>markLot_any 1 j W (by omega) (by omega));have hsz:=Hb.out.size;have htk:=lentLot_take j hlt;unfold mkLot at htk;obtain⟨m,hm⟩:∃ m,m=markN 1 j:=⟨_,rfl⟩
   rw[<- hm] at HM htk;have Htk:=Lib.hid htk;clear hm htk;go_wp2_with (first|(go_at_call 65;refine (HM.out _).mono ?_;rintro e wm ⟨rfl,hbm⟩;have O3:=Lib.hid ((Ho.out.below hbm).below ((Below.refl _ wm).alloc (Nat.le_refl _) (.cells #[.int .i64 (m:Int),.string ⟨#[]⟩,.int .i64 0,.int .i64 0,.int .i64 0,.bool false] 50)));have Bm:=Lib.hid (Hb.out.trans (hbm.mono hsz));clear hbm)|(at_builtin;refine El.wpList_append2 lotE rfl _ _ rfl w.heap.size g (n+j) c' (L++lentLot.take j) [⟨(m:Int),[],0,0,0,false⟩] rfl O3.out _ 1 _ rfl rfl (fun _=>⟨_,rfl,lotE_lit _ ⟨(m:Int),[],0,0,0,false⟩ _⟩) (by have:=Bm.out.size;simp;omega) (by have:=Hln.out;simp;omega) ?_;intro g4 c4 w4 hc4 hown4 hg4));have O4:=Lib.hid (show lotE.Own w.heap.size w4 (.slice (some ⟨g4,0,none⟩) (n+(j+1)) c4) (L++lentLot.take (j+1)) from by rw[Htk.out,<- List.append_assoc];exact hown4);have B4:Hid (Below w.heap.size w w4):=Lib.hid ((Bm.out.alloc Bm.out.size _).grown hg4 (by have:=Bm.out.size;simp;omega) (fun r e=>by cases e;exact (Ho.out.ge _ rfl).1));have C4:=Lib.hid hc4;clear hown4 hg4 hc4;go_roundw
   case rel=>exact⟨j+1,g4,c4,by omega,by go_num,by go_num,C4,O4,B4⟩
   case measure=>simp[intOf];omega
  ·have hge:j=12:=by omega
   subst hge;obtain⟨q1,q2⟩:=hcc.out;have q4:(n:Int)<=(c':Int):=by omega
   go_wp2_with (fail);go_ret;refine⟨⟨g,c',rfl,⟨q1,q2⟩,?_⟩,Hb.out⟩;have h:=Ho.out;rw[List.take_of_length_le (Nat.le_of_eq lentLot_len)] at h;exact h
theorem allLot_at (L:List LotV) (n j:Nat) (hn:n=L.length) (hj:j<n):(L++lentLot).getD j default=L.getD j default:=by
 rw[List.getD_eq_getElem?_getD,List.getElem?_append_left (by omega),List.getD_eq_getElem?_getD]
theorem allLot_behind (L:List LotV) (n d:Nat) (hn:n=L.length) (hd:d<12):(L++lentLot).getD (n+d) default=mkLot 1 d:=by
 rw[List.getD_eq_getElem?_getD,List.getElem?_append_right (by omega),show n+d-L.length=d by omega,List.getElem?_eq_getElem (by rw[lentLot_len];exact hd),Option.getD_some,lentLot_at d hd]
theorem eqLot_self (x_id:Int) (x_item:List UInt8) (x_fr:Int) (x_un:Int) (x_qty:Int) (x_arr:Bool) (w:World):(Op.equalIn 10000 50 (.agg #[.int .i64 x_id,encStr x_item,.int .i64 x_fr,.int .i64 x_un,.int .i64 x_qty,.bool x_arr]) (.agg #[.int .i64 x_id,encStr x_item,.int .i64 x_fr,.int .i64 x_un,.int .i64 x_qty,.bool x_arr])).run Tryz.prog w=.ok true w:=by
 rw[eqLot];simp
set_option maxHeartbeats 4000000 in
set_option maxRecDepth 100000 in
theorem KeptLots_any (B N:Nat) (g:Nat) (c':Nat) (a:Option Addr) (n c:Nat) (L:List LotV) (w:World) (ho:lotE.In B w (some ⟨g,0,none⟩) (n+12) c' (L++lentLot)) (hr:lotE.In N w a n c L) (hB:B<=w.heap.size) (hN:N<=w.heap.size) :
  Calls Tryz.prog 46 #[.slice (some ⟨g,0,none⟩) n c',.slice a n c] w fun e w'=>e=.returned (.bool true)/\Below w.heap.size w w':=by
 have h1:=ho.le;have h2:=ho.mx;have h3:=hr.le;have h4:=hr.mx;have hln:=hr.len;have Hln:=Lib.hid hln;have Ho:=Lib.hid ho;have Hr:=Lib.hid hr;clear ho hr hln;have q1:(n:Int)+12<=(c':Int):=by omega
 have q2:=wrap_in (x:=(n:Int)+12) (by omega) (by omega);go_enter Tryz.func46,Tryz.ntmps46;go_wp2_with (fail);go_loopw [6] (fun i wr=>∃ (j:Nat),j<=n+12/\i=.int .i64 j/\Hid (Below w.heap.size w wr)) (fun i _=>n+12-(intOf i).toNat)
 case atStart=>exact⟨0,by omega,rfl,Lib.hid (Below.refl _ _)⟩
 case round =>
  obtain⟨j,hj,rfl,Hb⟩:=hrel;have hsz:=Hb.out.size;by_cases hlt:j<n
  ·obtain⟨b,o,e1,hbB,hc1⟩:=lotE_at (Ho.out.below (Hb.out.mono hB)) (by omega)
   cases e1
   obtain⟨b2,o2,rfl,hbN,hc2⟩:=lotE_at (Hr.out.below (Hb.out.mono hN)) (by omega);obtain⟨k0,k1,k2,k3,k4,k5⟩:=hc1 j (by omega);obtain⟨g0,g1,g2,g3,g4,g5⟩:=hc2 j hlt;rw[allLot_at L n j Hln.out hlt] at k0 k1 k2 k3 k4 k5;rw[Nat.zero_add] at k0 k1 k2 k3 k4 k5;generalize L.getD j default=p at k0 k1 k2 k3 k4 k5 g0 g1 g2 g3 g4 g5;obtain⟨x_id,x_item,x_fr,x_un,x_qty,x_arr⟩:=p;simp only at k0 k1 k2 k3 k4 k5 g0 g1 g2 g3 g4 g5;clear hc1 hc2;have f0:∀ y:BelowW wr,y.v.cell? ⟨g,j*6,none⟩=some (.int .i64 x_id):=fun y=>(y.h.cell (by show g<_;omega)).trans k0
   have f1:∀ y:BelowW wr,y.v.cell? ⟨g,j*6+1,none⟩=some (encStr x_item):=fun y=>(y.h.cell (by show g<_;omega)).trans k1
   have f2:∀ y:BelowW wr,y.v.cell? ⟨g,j*6+2,none⟩=some (.int .i64 x_fr):=fun y=>(y.h.cell (by show g<_;omega)).trans k2
   have f3:∀ y:BelowW wr,y.v.cell? ⟨g,j*6+3,none⟩=some (.int .i64 x_un):=fun y=>(y.h.cell (by show g<_;omega)).trans k3
   have f4:∀ y:BelowW wr,y.v.cell? ⟨g,j*6+4,none⟩=some (.int .i64 x_qty):=fun y=>(y.h.cell (by show g<_;omega)).trans k4
   have f5:∀ y:BelowW wr,y.v.cell? ⟨g,j*6+5,none⟩=some (.bool x_arr):=fun y=>(y.h.cell (by show g<_;omega)).trans k5
   have l0:∀ y:BelowW wr,y.v.cell? ⟨b2,o2+j*6,none⟩=some (.int .i64 x_id):=fun y=>(y.h.cell (by show b2<_;omega)).trans g0
   have l1:∀ y:BelowW wr,y.v.cell? ⟨b2,o2+j*6+1,none⟩=some (encStr x_item):=fun y=>(y.h.cell (by show b2<_;omega)).trans g1
   have l2:∀ y:BelowW wr,y.v.cell? ⟨b2,o2+j*6+2,none⟩=some (.int .i64 x_fr):=fun y=>(y.h.cell (by show b2<_;omega)).trans g2
   have l3:∀ y:BelowW wr,y.v.cell? ⟨b2,o2+j*6+3,none⟩=some (.int .i64 x_un):=fun y=>(y.h.cell (by show b2<_;omega)).trans g3
   have l4:∀ y:BelowW wr,y.v.cell? ⟨b2,o2+j*6+4,none⟩=some (.int .i64 x_qty):=fun y=>(y.h.cell (by show b2<_;omega)).trans g4
   have l5:∀ y:BelowW wr,y.v.cell? ⟨b2,o2+j*6+5,none⟩=some (.bool x_arr):=fun y=>(y.h.cell (by show b2<_;omega)).trans g5
   have heq:=eqLot_self x_id x_item x_fr x_un x_qty x_arr;have hd:decide ((j:Int)<(n:Int))=true:=decide_eq_true (by omega);have hd2:decide ((n:Int)<=(j:Int))=false:=decide_eq_false (by omega);have hd3:decide (n<=j)=false:=decide_eq_false (by omega);have hd4:decide (j<n)=true:=decide_eq_true (by omega);clear k0 k1 k2 k3 k4 k5 g0 g1 g2 g3 g4 g5;go_wp2_with (fail);refine wp_region_below wr (by kernel_rfl) (by kernel_rfl) (Below.refl _ _) ?_
   repeat (go_big_quiet_step (fail))
   refine wpQuiet_nil ?_;intro _ hw';obtain⟨y,hw''⟩:=hw';subst hw'';clear f0 f1 f2 f3 f4 f5 l0 l1 l2 l3 l4 l5;go_wp2_with (fail);go_roundw
   case rel=>exact⟨j+1,by omega,by go_num,Lib.hid (Hb.out.trans (y.h.mono hsz))⟩
   case measure=>simp[intOf];omega
  ·by_cases hlt2:j<n+12
   ·obtain⟨d,rfl⟩:∃ d,j=n+d:=⟨j-n,by omega⟩
    obtain⟨b,o,e1,hbB,hc1⟩:=lotE_at (Ho.out.below (Hb.out.mono hB)) (by omega)
    cases e1
    obtain⟨k0,k1,k2,k3,k4,k5⟩:=hc1 (n+d) (by omega);rw[allLot_behind L n d Hln.out (by omega)] at k0 k1 k2 k3 k4 k5;rw[Nat.zero_add] at k0 k1 k2 k3 k4 k5;have hmk:∀ W:World,Calls Tryz.prog 65 #[.int .i64 1,.int .i64 (d:Int)] W fun e w'=>e=.returned (.agg #[.int .i64 (markN 1 d:Nat),.string ⟨#[]⟩,.int .i64 0,.int .i64 0,.int .i64 0,.bool false])/\Below W.heap.size W w':=fun W=>markLot_any 1 d W (by omega) (by omega)
    unfold mkLot at k0 k1 k2 k3 k4 k5;simp only at k0 k1 k2 k3 k4 k5;generalize ((markN 1 d:Nat):Int)=m at k0 hmk;have f0:∀ y:BelowW wr,y.v.cell? ⟨g,(n+d)*6,none⟩=some (.int .i64 m):=fun y=>(y.h.cell (by show g<_;omega)).trans k0
    have f1:∀ y:BelowW wr,y.v.cell? ⟨g,(n+d)*6+1,none⟩=some (.string ⟨#[]⟩):=fun y=>(y.h.cell (by show g<_;omega)).trans k1
    have f2:∀ y:BelowW wr,y.v.cell? ⟨g,(n+d)*6+2,none⟩=some (.int .i64 0):=fun y=>(y.h.cell (by show g<_;omega)).trans k2
    have f3:∀ y:BelowW wr,y.v.cell? ⟨g,(n+d)*6+3,none⟩=some (.int .i64 0):=fun y=>(y.h.cell (by show g<_;omega)).trans k3
    have f4:∀ y:BelowW wr,y.v.cell? ⟨g,(n+d)*6+4,none⟩=some (.int .i64 0):=fun y=>(y.h.cell (by show g<_;omega)).trans k4
    have f5:∀ y:BelowW wr,y.v.cell? ⟨g,(n+d)*6+5,none⟩=some (.bool false):=fun y=>(y.h.cell (by show g<_;omega)).trans k5
    clear hc1 k0 k1 k2 k3 k4 k5;have heq:∀ w:World,(Op.equalIn 10000 50 (.agg #[.int .i64 m,.string ⟨#[]⟩,.int .i64 0,.int .i64 0,.int .i64 0,.bool false]) (.agg #[.int .i64 m,.string ⟨#[]⟩,.int .i64 0,.int .i64 0,.int .i64 0,.bool false])).run Tryz.prog w=.ok true w:=fun w=>eqLot_self m [] 0 0 0 false w
    have i1:decide ((n:Int)+(d:Int)<(n:Int))=false:=decide_eq_false (by omega);have i2:decide ((n:Int)<=(n:Int)+(d:Int))=true:=decide_eq_true (by omega);have i3:IntKind.i64.wrap ((n:Int)+(d:Int)-(n:Int))=(d:Int):=by
     rw[show (n:Int)+(d:Int)-(n:Int)=(d:Int) by omega];exact wrap_in (by omega) (by omega)
    have i5:(n:Int)+(d:Int)<(n:Int)+12:=(by omega);have i6:(0:Int)<=(n:Int)+(d:Int):=(by omega);have c5:=Lib.hid hlt2;clear hlt hj hlt2;go_wp2_with (fail);refine wp_region_below wr (by kernel_rfl) (by kernel_rfl) (Below.refl _ _) ?_
    repeat (go_big_quiet_step ((go_at_call 65;exact below_call (hmk _))))
    refine wpQuiet_nil ?_;intro _ hw';obtain⟨y,hw''⟩:=hw';subst hw'';clear f0 f1 f2 f3 f4 f5;go_wp2_with (fail);have c6:=c5.out;go_roundw
    case rel=>exact⟨n+d+1,by omega,by go_num,Lib.hid (Hb.out.trans (y.h.mono hsz))⟩
    case measure=>simp[intOf];omega
   ·go_wp2_with (fail);go_ret;exact⟨rfl,Hb.out⟩
end
section
open Go.RowKit
def mkLine (k i:Nat):LineV:=⟨(markN k i:Int),[],0,0,0,0,0,[]⟩
theorem markLine_any (k i:Nat) (w:World) (hk:k<=1000000) (hi:i<=1000000000) :
  Calls Tryz.prog 66 #[.int .i64 k,.int .i64 i] w fun e w'=>e=.returned (.agg #[.int .i64 (markN k i:Nat),.string ⟨#[]⟩,.int .i64 0,.int .i64 0,.int .i64 0,.int .u8 0,.int .i64 0,.string ⟨#[]⟩])/\Below w.heap.size w w':=by
 have HM:=Lib.hid (fun W=>mark_any k i W hk hi);have hm:=markN_bd k i hk hi;generalize markN k i=m at HM hm;have hw:=wrap_in (x:=(m:Int)) (by omega) (by omega);have HB:=Lib.hid (fun c:Array Value=>(Below.refl w.heap.size w).alloc (Nat.le_refl _) (.cells c 29));have HB2:=Lib.hid (fun (c:Array Value) (v:Value)=>((Below.refl w.heap.size w).alloc (Nat.le_refl _) (.cells c 29)).setCell (p:=⟨w.heap.size,0,none⟩) (Nat.le_refl _) v);go_enter Tryz.func66,Tryz.ntmps66;go_wp2_with (go_at_call 96;refine (HM.out _).mono ?_;rintro e w' ⟨rfl,rfl⟩);go_returns;exact⟨rfl,by first|exact HB.out _|exact HB2.out _ _⟩
def lentLine:List LineV:=(List.range 12).map fun i=>mkLine 1 i
theorem lentLine_len:lentLine.length=12:=by simp[lentLine]
theorem lentLine_at (j:Nat) (h:j<12):lentLine[j]'(by rw[lentLine_len];exact h)=mkLine 1 j:=by simp[lentLine]
theorem lentLine_take (j:Nat) (h:j<12):lentLine.take (j+1)=lentLine.take j++[mkLine 1 j]:=by
 rw[List.take_succ_eq_append_getElem (by rw[lentLine_len];exact h),lentLine_at j h]
set_option maxHeartbeats 2000000 in
set_option maxRecDepth 100000 in
theorem LentLines_any (N:Nat) (a:Option Addr) (n c:Nat) (L:List LineV) (w:World) (hr:lineE.In N w a n c L) (hN:N<=w.heap.size) (hs:n<=100000) :
  Calls Tryz.prog 33 #[.slice a n c] w fun e w'=>(∃ g c',e=.returned (.slice (some ⟨g,0,none⟩) n c')/\(n+12<=c'/\c'<=9223372036854775807)/\lineE.Own w.heap.size w' (.slice (some ⟨g,0,none⟩) (n+12) c') (L++lentLine))/\Below w.heap.size w w':=by
 obtain⟨i0,hi,hz0,hz1,hz2⟩:=lineE.info';have hln:=hr.len;have hle:=hr.le;have hmx:=hr.mx;have Hln:=Lib.hid hln;have Hr:=Lib.hid hr;have Hi:=Lib.hid hi;have Hz0:=Lib.hid hz0;have Hz1:=Lib.hid hz1;have hb0:i0.bytes*(n+12)<=281474976710656:=by rw[hz2];show 80*(n+12)<=_;omega
 have Hb0:=Lib.hid hb0;clear hi hz0 hz1 hz2 hr hln hb0;go_enter Tryz.func33,Tryz.ntmps33;go_wp2_with (first
  | (refine wpList_make_own _ rfl _ _ 24 rfl w.heap.size 29 i0 _ 8 Tryz.underlying24 Hi.out Hz0.out Hz1.out .i64 .i64 _ (n+12) rfl rfl (by omega) Hb0.out (by simp only[maxLen];omega) (Nat.le_refl _) ?_;intro w1 hown1 hg1;have O1:Hid (lineE.Own w.heap.size w1 (.slice (some ⟨w.heap.size,0,none⟩) 0 (n+12)) []):=Lib.hid hown1;have B1:Hid (Below w.heap.size w w1):=Lib.hid ((Below.refl _ w).grown hg1 (Nat.le_refl _) (fun r e=>by cases e));clear hown1 hg1)
  | (at_builtin;refine El.wpList_append2 lineE rfl _ _ rfl w.heap.size w.heap.size 0 (n+12) [] L rfl O1.out _ _ _ rfl Hln.out (Hr.out.below (B1.out.mono hN)).src B1.out.size (by have:=Hln.out;simp;omega) ?_;intro g2 c2 w2 hc2 hown2 hg2))
 rw[List.nil_append,Nat.zero_add] at hown2;have O2:=Lib.hid hown2;have B2:Hid (Below w.heap.size w w2):=Lib.hid (B1.out.grown hg2 B1.out.size (fun r e=>by cases e;exact Nat.le_refl _));clear hown2 hg2
 try rw[Nat.zero_add] at hc2
 try rw[Nat.zero_add]
 go_wp2_with (fail);go_loopw [3,4] (fun v i wr=>∃ (j g c':Nat),j<=12/\i=.int .i64 j/\v=.slice (some ⟨g,0,none⟩) (n+j) c'/\Hid (n+j<=c'/\c'<=9223372036854775807)/\Hid (lineE.Own w.heap.size wr (.slice (some ⟨g,0,none⟩) (n+j) c') (L++lentLine.take j))/\Hid (Below w.heap.size w wr)) (fun _ i _=>12-(intOf i).toNat)
 case atStart=>exact⟨0,g2,c2,by omega,rfl,rfl,Lib.hid hc2,by simpa using O2,B2⟩
 case round =>
  obtain⟨j,g,c',hj,rfl,rfl,hcc,Ho,Hb⟩:=hrel;by_cases hlt:j<12
  ·have HM:=Lib.hid (fun W=>markLine_any 1 j W (by omega) (by omega));have hsz:=Hb.out.size;have htk:=lentLine_take j hlt;unfold mkLine at htk;obtain⟨m,hm⟩:∃ m,m=markN 1 j:=⟨_,rfl⟩
   rw[<- hm] at HM htk;have Htk:=Lib.hid htk;clear hm htk;go_wp2_with (first|(go_at_call 66;refine (HM.out _).mono ?_;rintro e wm ⟨rfl,hbm⟩;have O3:=Lib.hid ((Ho.out.below hbm).below ((Below.refl _ wm).alloc (Nat.le_refl _) (.cells #[.int .i64 (m:Int),.string ⟨#[]⟩,.int .i64 0,.int .i64 0,.int .i64 0,.int .u8 0,.int .i64 0,.string ⟨#[]⟩] 29)));have Bm:=Lib.hid (Hb.out.trans (hbm.mono hsz));clear hbm)|(at_builtin;refine El.wpList_append2 lineE rfl _ _ rfl w.heap.size g (n+j) c' (L++lentLine.take j) [⟨(m:Int),[],0,0,0,0,0,[]⟩] rfl O3.out _ 1 _ rfl rfl (fun _=>⟨_,rfl,lineE_lit _ ⟨(m:Int),[],0,0,0,0,0,[]⟩ _⟩) (by have:=Bm.out.size;simp;omega) (by have:=Hln.out;simp;omega) ?_;intro g4 c4 w4 hc4 hown4 hg4));have O4:=Lib.hid (show lineE.Own w.heap.size w4 (.slice (some ⟨g4,0,none⟩) (n+(j+1)) c4) (L++lentLine.take (j+1)) from by rw[Htk.out,<- List.append_assoc];exact hown4);have B4:Hid (Below w.heap.size w w4):=Lib.hid ((Bm.out.alloc Bm.out.size _).grown hg4 (by have:=Bm.out.size;simp;omega) (fun r e=>by cases e;exact (Ho.out.ge _ rfl).1));have C4:=Lib.hid hc4;clear hown4 hg4 hc4;go_roundw
   case rel=>exact⟨j+1,g4,c4,by omega,by go_num,by go_num,C4,O4,B4⟩
   case measure=>simp[intOf];omega
  ·have hge:j=12:=by omega
   subst hge;obtain⟨q1,q2⟩:=hcc.out;have q4:(n:Int)<=(c':Int):=by omega
   go_wp2_with (fail);go_ret;refine⟨⟨g,c',rfl,⟨q1,q2⟩,?_⟩,Hb.out⟩;have h:=Ho.out;rw[List.take_of_length_le (Nat.le_of_eq lentLine_len)] at h;exact h
theorem allLine_at (L:List LineV) (n j:Nat) (hn:n=L.length) (hj:j<n):(L++lentLine).getD j default=L.getD j default:=by
 rw[List.getD_eq_getElem?_getD,List.getElem?_append_left (by omega),List.getD_eq_getElem?_getD]
theorem allLine_behind (L:List LineV) (n d:Nat) (hn:n=L.length) (hd:d<12):(L++lentLine).getD (n+d) default=mkLine 1 d:=by
 rw[List.getD_eq_getElem?_getD,List.getElem?_append_right (by omega),show n+d-L.length=d by omega,List.getElem?_eq_getElem (by rw[lentLine_len];exact hd),Option.getD_some,lentLine_at d hd]
theorem eqLine_self (x_id:Int) (x_item:List UInt8) (x_qty:Int) (x_asked:Int) (x_rank:Int) (x_st:Int) (x_day:Int) (x_code:List UInt8) (w:World):(Op.equalIn 10000 29 (.agg #[.int .i64 x_id,encStr x_item,.int .i64 x_qty,.int .i64 x_asked,.int .i64 x_rank,.int .u8 x_st,.int .i64 x_day,encStr x_code]) (.agg #[.int .i64 x_id,encStr x_item,.int .i64 x_qty,.int .i64 x_asked,.int .i64 x_rank,.int .u8 x_st,.int .i64 x_day,encStr x_code])).run Tryz.prog w=.ok true w:=by
 rw[eqLine];simp
set_option maxHeartbeats 4000000 in
set_option maxRecDepth 100000 in
theorem KeptLines_any (B N:Nat) (g:Nat) (c':Nat) (a:Option Addr) (n c:Nat) (L:List LineV) (w:World) (ho:lineE.In B w (some ⟨g,0,none⟩) (n+12) c' (L++lentLine)) (hr:lineE.In N w a n c L) (hB:B<=w.heap.size) (hN:N<=w.heap.size) :
  Calls Tryz.prog 47 #[.slice (some ⟨g,0,none⟩) n c',.slice a n c] w fun e w'=>e=.returned (.bool true)/\Below w.heap.size w w':=by
 have h1:=ho.le;have h2:=ho.mx;have h3:=hr.le;have h4:=hr.mx;have hln:=hr.len;have Hln:=Lib.hid hln;have Ho:=Lib.hid ho;have Hr:=Lib.hid hr;clear ho hr hln;have q1:(n:Int)+12<=(c':Int):=by omega
 have q2:=wrap_in (x:=(n:Int)+12) (by omega) (by omega);go_enter Tryz.func47,Tryz.ntmps47;go_wp2_with (fail);go_loopw [6] (fun i wr=>∃ (j:Nat),j<=n+12/\i=.int .i64 j/\Hid (Below w.heap.size w wr)) (fun i _=>n+12-(intOf i).toNat)
 case atStart=>exact⟨0,by omega,rfl,Lib.hid (Below.refl _ _)⟩
 case round =>
  obtain⟨j,hj,rfl,Hb⟩:=hrel;have hsz:=Hb.out.size;by_cases hlt:j<n
  ·obtain⟨b,o,e1,hbB,hc1⟩:=lineE_at (Ho.out.below (Hb.out.mono hB)) (by omega)
   cases e1
   obtain⟨b2,o2,rfl,hbN,hc2⟩:=lineE_at (Hr.out.below (Hb.out.mono hN)) (by omega);obtain⟨k0,k1,k2,k3,k4,k5,k6,k7⟩:=hc1 j (by omega);obtain⟨g0,g1,g2,g3,g4,g5,g6,g7⟩:=hc2 j hlt;rw[allLine_at L n j Hln.out hlt] at k0 k1 k2 k3 k4 k5 k6 k7;rw[Nat.zero_add] at k0 k1 k2 k3 k4 k5 k6 k7;generalize L.getD j default=p at k0 k1 k2 k3 k4 k5 k6 k7 g0 g1 g2 g3 g4 g5 g6 g7;obtain⟨x_id,x_item,x_qty,x_asked,x_rank,x_st,x_day,x_code⟩:=p;simp only at k0 k1 k2 k3 k4 k5 k6 k7 g0 g1 g2 g3 g4 g5 g6 g7;clear hc1 hc2;have f0:∀ y:BelowW wr,y.v.cell? ⟨g,j*8,none⟩=some (.int .i64 x_id):=fun y=>(y.h.cell (by show g<_;omega)).trans k0
   have f1:∀ y:BelowW wr,y.v.cell? ⟨g,j*8+1,none⟩=some (encStr x_item):=fun y=>(y.h.cell (by show g<_;omega)).trans k1
   have f2:∀ y:BelowW wr,y.v.cell? ⟨g,j*8+2,none⟩=some (.int .i64 x_qty):=fun y=>(y.h.cell (by show g<_;omega)).trans k2
   have f3:∀ y:BelowW wr,y.v.cell? ⟨g,j*8+3,none⟩=some (.int .i64 x_asked):=fun y=>(y.h.cell (by show g<_;omega)).trans k3
   have f4:∀ y:BelowW wr,y.v.cell? ⟨g,j*8+4,none⟩=some (.int .i64 x_rank):=fun y=>(y.h.cell (by show g<_;omega)).trans k4
   have f5:∀ y:BelowW wr,y.v.cell? ⟨g,j*8+5,none⟩=some (.int .u8 x_st):=fun y=>(y.h.cell (by show g<_;omega)).trans k5
   have f6:∀ y:BelowW wr,y.v.cell? ⟨g,j*8+6,none⟩=some (.int .i64 x_day):=fun y=>(y.h.cell (by show g<_;omega)).trans k6
   have f7:∀ y:BelowW wr,y.v.cell? ⟨g,j*8+7,none⟩=some (encStr x_code):=fun y=>(y.h.cell (by show g<_;omega)).trans k7
   have l0:∀ y:BelowW wr,y.v.cell? ⟨b2,o2+j*8,none⟩=some (.int .i64 x_id):=fun y=>(y.h.cell (by show b2<_;omega)).trans g0
   have l1:∀ y:BelowW wr,y.v.cell? ⟨b2,o2+j*8+1,none⟩=some (encStr x_item):=fun y=>(y.h.cell (by show b2<_;omega)).trans g1
   have l2:∀ y:BelowW wr,y.v.cell? ⟨b2,o2+j*8+2,none⟩=some (.int .i64 x_qty):=fun y=>(y.h.cell (by show b2<_;omega)).trans g2
   have l3:∀ y:BelowW wr,y.v.cell? ⟨b2,o2+j*8+3,none⟩=some (.int .i64 x_asked):=fun y=>(y.h.cell (by show b2<_;omega)).trans g3
   have l4:∀ y:BelowW wr,y.v.cell? ⟨b2,o2+j*8+4,none⟩=some (.int .i64 x_rank):=fun y=>(y.h.cell (by show b2<_;omega)).trans g4
   have l5:∀ y:BelowW wr,y.v.cell? ⟨b2,o2+j*8+5,none⟩=some (.int .u8 x_st):=fun y=>(y.h.cell (by show b2<_;omega)).trans g5
   have l6:∀ y:BelowW wr,y.v.cell? ⟨b2,o2+j*8+6,none⟩=some (.int .i64 x_day):=fun y=>(y.h.cell (by show b2<_;omega)).trans g6
   have l7:∀ y:BelowW wr,y.v.cell? ⟨b2,o2+j*8+7,none⟩=some (encStr x_code):=fun y=>(y.h.cell (by show b2<_;omega)).trans g7
   have heq:=eqLine_self x_id x_item x_qty x_asked x_rank x_st x_day x_code;have hd:decide ((j:Int)<(n:Int))=true:=decide_eq_true (by omega);have hd2:decide ((n:Int)<=(j:Int))=false:=decide_eq_false (by omega);have hd3:decide (n<=j)=false:=decide_eq_false (by omega);have hd4:decide (j<n)=true:=decide_eq_true (by omega);clear k0 k1 k2 k3 k4 k5 k6 k7 g0 g1 g2 g3 g4 g5 g6 g7;go_wp2_with (fail);refine wp_region_below wr (by kernel_rfl) (by kernel_rfl) (Below.refl _ _) ?_
   repeat (go_big_quiet_step (fail))
   refine wpQuiet_nil ?_;intro _ hw';obtain⟨y,hw''⟩:=hw';subst hw'';clear f0 f1 f2 f3 f4 f5 f6 f7 l0 l1 l2 l3 l4 l5 l6 l7;go_wp2_with (fail);go_roundw
   case rel=>exact⟨j+1,by omega,by go_num,Lib.hid (Hb.out.trans (y.h.mono hsz))⟩
   case measure=>simp[intOf];omega
  ·by_cases hlt2:j<n+12
   ·obtain⟨d,rfl⟩:∃ d,j=n+d:=⟨j-n,by omega⟩
    obtain⟨b,o,e1,hbB,hc1⟩:=lineE_at (Ho.out.below (Hb.out.mono hB)) (by omega)
    cases e1
    obtain⟨k0,k1,k2,k3,k4,k5,k6,k7⟩:=hc1 (n+d) (by omega);rw[allLine_behind L n d Hln.out (by omega)] at k0 k1 k2 k3 k4 k5 k6 k7;rw[Nat.zero_add] at k0 k1 k2 k3 k4 k5 k6 k7;have hmk:∀ W:World,Calls Tryz.prog 66 #[.int .i64 1,.int .i64 (d:Int)] W fun e w'=>e=.returned (.agg #[.int .i64 (markN 1 d:Nat),.string ⟨#[]⟩,.int .i64 0,.int .i64 0,.int .i64 0,.int .u8 0,.int .i64 0,.string ⟨#[]⟩])/\Below W.heap.size W w':=fun W=>markLine_any 1 d W (by omega) (by omega)
    unfold mkLine at k0 k1 k2 k3 k4 k5 k6 k7;simp only at k0 k1 k2 k3 k4 k5 k6 k7;generalize ((markN 1 d:Nat):Int)=m at k0 hmk;have f0:∀ y:BelowW wr,y.v.cell? ⟨g,(n+d)*8,none⟩=some (.int .i64 m):=fun y=>(y.h.cell (by show g<_;omega)).trans k0
    have f1:∀ y:BelowW wr,y.v.cell? ⟨g,(n+d)*8+1,none⟩=some (.string ⟨#[]⟩):=fun y=>(y.h.cell (by show g<_;omega)).trans k1
    have f2:∀ y:BelowW wr,y.v.cell? ⟨g,(n+d)*8+2,none⟩=some (.int .i64 0):=fun y=>(y.h.cell (by show g<_;omega)).trans k2
    have f3:∀ y:BelowW wr,y.v.cell? ⟨g,(n+d)*8+3,none⟩=some (.int .i64 0):=fun y=>(y.h.cell (by show g<_;omega)).trans k3
    have f4:∀ y:BelowW wr,y.v.cell? ⟨g,(n+d)*8+4,none⟩=some (.int .i64 0):=fun y=>(y.h.cell (by show g<_;omega)).trans k4
    have f5:∀ y:BelowW wr,y.v.cell? ⟨g,(n+d)*8+5,none⟩=some (.int .u8 0):=fun y=>(y.h.cell (by show g<_;omega)).trans k5
    have f6:∀ y:BelowW wr,y.v.cell? ⟨g,(n+d)*8+6,none⟩=some (.int .i64 0):=fun y=>(y.h.cell (by show g<_;omega)).trans k6
    have f7:∀ y:BelowW wr,y.v.cell? ⟨g,(n+d)*8+7,none⟩=some (.string ⟨#[]⟩):=fun y=>(y.h.cell (by show g<_;omega)).trans k7
    clear hc1 k0 k1 k2 k3 k4 k5 k6 k7;have heq:∀ w:World,(Op.equalIn 10000 29 (.agg #[.int .i64 m,.string ⟨#[]⟩,.int .i64 0,.int .i64 0,.int .i64 0,.int .u8 0,.int .i64 0,.string ⟨#[]⟩]) (.agg #[.int .i64 m,.string ⟨#[]⟩,.int .i64 0,.int .i64 0,.int .i64 0,.int .u8 0,.int .i64 0,.string ⟨#[]⟩])).run Tryz.prog w=.ok true w:=fun w=>eqLine_self m [] 0 0 0 0 0 [] w
    have i1:decide ((n:Int)+(d:Int)<(n:Int))=false:=decide_eq_false (by omega);have i2:decide ((n:Int)<=(n:Int)+(d:Int))=true:=decide_eq_true (by omega);have i3:IntKind.i64.wrap ((n:Int)+(d:Int)-(n:Int))=(d:Int):=by
     rw[show (n:Int)+(d:Int)-(n:Int)=(d:Int) by omega];exact wrap_in (by omega) (by omega)
    have i5:(n:Int)+(d:Int)<(n:Int)+12:=(by omega);have i6:(0:Int)<=(n:Int)+(d:Int):=(by omega);have c5:=Lib.hid hlt2;clear hlt hj hlt2;go_wp2_with (fail);refine wp_region_below wr (by kernel_rfl) (by kernel_rfl) (Below.refl _ _) ?_
    repeat (go_big_quiet_step ((go_at_call 66;exact below_call (hmk _))))
    refine wpQuiet_nil ?_;intro _ hw';obtain⟨y,hw''⟩:=hw';subst hw'';clear f0 f1 f2 f3 f4 f5 f6 f7;go_wp2_with (fail);have c6:=c5.out;go_roundw
    case rel=>exact⟨n+d+1,by omega,by go_num,Lib.hid (Hb.out.trans (y.h.mono hsz))⟩
    case measure=>simp[intOf];omega
   ·go_wp2_with (fail);go_ret;exact⟨rfl,Hb.out⟩
end
end Go.Proofs.YtgplnekpgdhcpaaGreat
