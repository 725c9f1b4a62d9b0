/-  -/
import Derived.Laws.OwnMore
import Derived.Test.YtgplnekpgdhcpaaGreatKMark
import Derived.Test.YtgplnekpgdhcpaaGreatQBridge
import Derived.Test.YtgplnekpgdhcpaaGreatQIdxWant
namespace Go.Proofs.YtgplnekpgdhcpaaGreat
section
open Go.RowKit
def OT (base:Nat) (w:World) (v:Value) (L:List (List UInt8)):Prop:=w.ownsRow base 9 1 v L.length (L.map encStr)
theorem Tryz.infoStr:(Tryz.prog.info? 9).map (fun i=>(i.zero,i.size,i.bytes))=some (some (.string ByteArray.empty),1,16):=by kernel_rfl
theorem OT.mono {B B':Nat} {w:World} {v:Value} {L:List (List UInt8)} (h:OT B w v L) (hb:B'<=B):OT B' w v L:=by
 obtain⟨h1,h2|⟨g,cap,cur,hv,hg,r⟩⟩:=h
 ·exact⟨h1,.inl h2⟩
 ·exact⟨h1,.inr ⟨g,cap,cur,hv,Nat.le_trans hb hg,r⟩⟩
theorem OT.keep {base:Nat} {W W':World} {v:Value} {L:List (List UInt8)} (h:OT base W v L) (hk:∀ b,v.ownBlock=some b->W'.heap[b]? = W.heap[b]?):OT base W' v L:=by
 obtain⟨e1,h3|⟨g,cap,cur,hv,hg,hh,r⟩⟩:=h
 ·exact⟨e1,.inl h3⟩
 ·exact⟨e1,.inr ⟨g,cap,cur,hv,hg,(hk g (by rw[hv];rfl)).trans hh,r⟩⟩
theorem OT.ge {base:Nat} {W:World} {v:Value} {L:List (List UInt8)} (h:OT base W v L):∀ b,v.ownBlock=some b->base<=b/\b<W.heap.size:=by
 intro b hb;obtain⟨e1,⟨rfl,-⟩|⟨g,cap,cur,rfl,hg,hh,r⟩⟩:=h
 ·cases hb
 ·cases hb
  exact⟨hg,(Array.getElem?_eq_some_iff.1 hh).1⟩
theorem OT.below {base:Nat} {W W':World} {v:Value} {L:List (List UInt8)} (h:OT base W v L) (hb:Below W.heap.size W W'):OT base W' v L :=
 h.keep fun b e=>hb.block b (h.ge b e).2
theorem OT.rt {base:Nat} {w:World} {g n c:Nat} {L:List (List UInt8)} (h:OT base w (.slice (some ⟨g,0,none⟩) n c) L) (hf:∀ x∈L,x.length<=9223372036854775807) (m:Nat) (hm:m<=n):RT w.heap.size w (some ⟨g,0,none⟩) m c (L.take m)/\base<=g:=by
 obtain⟨h1,⟨h2,-⟩|⟨g',cap,cur,hv,hg,hh,hle,hcap,hsz,htk⟩⟩:=h
 ·cases h2
 ·cases hv
  refine⟨⟨by rw[List.length_take];omega,by omega,by simpa [maxLen] using hcap,fun x hx=>hf x (List.mem_of_mem_take hx),fun _=>⟨g,0,rfl,(Array.getElem?_eq_some_iff.1 hh).1,fun i hi=>?_⟩⟩,hg⟩;have e:=congrArg (fun l:List Value=>l[i]?) htk;simp only[List.getElem?_take,List.getElem?_map] at e;rw[if_pos (by omega),List.getElem?_eq_getElem (l:=L) (by omega)] at e;simp only[World.cell?,hh,Nat.zero_add,Option.isSome_none,Bool.false_eq_true,if_false];rw[List.getD_eq_getElem?_getD,List.getElem?_take,if_pos hi,List.getElem?_eq_getElem (by omega)];simpa [lv] using e
theorem RT.src {B:Nat} {w:World} {a:Option Addr} {n c:Nat} {L:List (List UInt8)} (h:RT B w a n c L):0<L.length->∃ ad,a=some ad/\∀ j u,(L.map encStr)[j]? = some u->w.cell? (ad.add j)=some u:=by
 intro h0;have hc:0<c:=by have:=h.le;have:=h.len;omega
 obtain⟨b,o,rfl,-,hcell⟩:=h.at_ hc;refine⟨_,rfl,fun j u hu=>?_⟩;have e:(⟨b,o,none⟩:Addr).add j=⟨b,o+j,none⟩:=by unfold Addr.add;split<;>simp_all
 rw[e];rw[List.getElem?_map] at hu;rcases Nat.lt_or_ge j L.length with hj|hj
 ·rw[List.getElem?_eq_getElem hj] at hu
  cases hu
  have:=hcell j (by have:=h.len;omega);rw[List.getD_eq_getElem?_getD,List.getElem?_eq_getElem hj] at this;exact this
 ·rw[List.getElem?_eq_none hj] at hu;cases hu
def lentX:List (List UInt8):=(List.range 12).map mkTx
theorem lentX_len:lentX.length=12:=by simp[lentX]
theorem lentX_at (j:Nat) (h:j<12):lentX[j]'(by rw[lentX_len];exact h)=mkTx j:=by simp[lentX]
theorem lentX_take (j:Nat) (h:j<12):lentX.take (j+1)=lentX.take j++[mkTx j]:=by
 rw[List.take_succ_eq_append_getElem (by rw[lentX_len];exact h),lentX_at j h]
theorem wpList_append_textsF {w:World} {ops:Array Oper} {rest:List Oper} {o:Oper} {a:Act} {K:Exit->Act->World->Prop} (hgd:o.guard=none) (s x:Operand)
  (ho:o.op=.call { callee:=.builtin .append,args:=#[s,x],argTypes:=#[43,43] }) (base g0 n0 c0:Nat) (P R:List (List UInt8)) (hs:a.eval s=.slice (some ⟨g0,0,none⟩) n0 c0) (h:OT base w (.slice (some ⟨g0,0,none⟩) n0 c0) P) (sa:Option Addr) (m c:Nat)
  (hx:a.eval x=.slice sa m c) (hm:m=R.length) (hsrc:0<R.length->∃ ad,sa=some ad/\∀ j u,(R.map encStr)[j]? = some u->w.cell? (ad.add j)=some u) (hroom:n0+m<=c0)
  (hK:∀ w',OT base w' (.slice (some ⟨g0,0,none⟩) (n0+m) c0) (P++R)->w.grownBy w' (some g0)->wpList Tryz.prog ops K rest (a.put o.dst (.slice (some ⟨g0,0,none⟩) (n0+m) c0)) w'):wpList Tryz.prog ops K (o::rest) a w:=by
 subst hm;obtain⟨i0,hi,hz0,hz1,hz2⟩:=info_parts Tryz.infoStr;have hn0:n0=P.length:=by
  obtain⟨e,⟨h1,-⟩|⟨g,cap,cur,h1,-⟩⟩:=h
  ·cases h1
  ·cases h1;simp
 subst hn0;have hrun:∃ w',(Builtin.append_ #[43,43] o.type #[.slice (some ⟨g0,0,none⟩) P.length c0,.slice sa R.length c]).run Tryz.prog w=.ok (.slice (some ⟨g0,0,none⟩) (P.length+R.length) c0) w'/\OT base w' (.slice (some ⟨g0,0,none⟩) (P.length+R.length) c0) (P++R)/\w.grownBy w' (some g0):=by
  by_cases h0:R.length=0
  ·obtain rfl:R=[]:=List.eq_nil_of_length_eq_zero h0;exact⟨w,run_append_nothing (P:=Tryz.prog) w 43 o.type 9 i0 Tryz.underlying43 hi (some ⟨g0,0,none⟩) sa P.length c0 c (by omega),by simpa using h,⟨rfl,rfl,rfl,Nat.le_refl _,fun _ _ _=>rfl⟩⟩
  ·obtain⟨ad,rfl,hcell⟩:=hsrc (by omega);obtain⟨w',hr,hown,hg⟩:=run_append_fits (P:=Tryz.prog) w base 43 o.type 9 i0 1 Tryz.underlying43 hi hz1 g0 P.length c0 (P.map encStr) (by simpa [OT] using h) ad R.length c (R.map encStr) (by simp) hcell (by intro u hu;obtain⟨z,-,rfl⟩:=List.mem_map.1 hu;rfl) hroom;refine⟨w',hr,?_,hg⟩;unfold OT;rw[List.length_append,List.map_append];exact hown
 obtain⟨w',hr,ho2,hg⟩:=hrun;refine wpList_plain hgd fun K' hK'=>?_
 unfold Oper.wp execOp;simp only[ho,resolve,invoke,builtin,Sem.run_bind,Sem.run_pure,Result.andThen_ok,List.map_toArray,List.map_cons,List.map_nil,hs,hx,hr];exact hK' _ _ (hK w' ho2 hg)
theorem one_text (W:World) (x:List UInt8) (t:TypeId):∀ j u,([x].map encStr)[j]? = some u->(W.alloc (.cells #[encStr x] t)).cell? ((⟨W.heap.size,0,none⟩:Addr).add j)=some u:=by
 intro j u hu;have e:(⟨W.heap.size,0,none⟩:Addr).add j=⟨W.heap.size,0+j,none⟩:=by unfold Addr.add;split<;>simp_all
 rw[e];simp only[World.cell?,(Go.MapKept.heap_alloc W _).1];simpa using hu
set_option maxHeartbeats 2000000 in
set_option maxRecDepth 100000 in
theorem LentTexts_any (N:Nat) (a:Option Addr) (n c:Nat) (L:List (List UInt8)) (w:World) (hr:RT N w a n c L) (hN:N<=w.heap.size) (hs:n*16<=140737488355328) :
  Calls Tryz.prog 95 #[.slice a n c] w fun e w'=>(∃ g c',e=.returned (.slice (some ⟨g,0,none⟩) n c')/\(n+12<=c'/\c'<=9223372036854775807)/\OT w.heap.size w' (.slice (some ⟨g,0,none⟩) (n+12) c') (L++lentX))/\Below w.heap.size w w':=by
 obtain⟨i0,hi,hz0,hz1,hz2⟩:=info_parts Tryz.infoStr;have hln:=hr.len;have hle:=hr.le;have hmx:=hr.mx;have Hln:=Lib.hid hln;have Hr:=Lib.hid hr;have Hi:=Lib.hid hi;have Hz0:=Lib.hid hz0;have Hz1:=Lib.hid hz1;have Hz2:=Lib.hid hz2;have hb0:i0.bytes*(n+12)<=281474976710656:=by rw[hz2];omega
 have Hb0:=Lib.hid hb0;clear hi hz0 hz1 hz2 hr hln hb0;go_enter Tryz.func95,Tryz.ntmps95;go_wp2_with (first
  | (refine wpList_make_own _ rfl _ _ 43 rfl w.heap.size 9 i0 _ 1 Tryz.underlying43 Hi.out Hz0.out Hz1.out .i64 .i64 _ (n+12) rfl rfl (by omega) Hb0.out (by simp only[maxLen];omega) (Nat.le_refl _) ?_;intro w1 hown1 hg1;have O1:Hid (OT w.heap.size w1 (.slice (some ⟨w.heap.size,0,none⟩) 0 (n+12)) []):=Lib.hid hown1;have B1:Hid (Below w.heap.size w w1):=Lib.hid ((Below.refl _ w).grown hg1 (Nat.le_refl _) (fun r e=>by cases e));clear hown1 hg1)
  | (at_builtin;refine wpList_append_textsF rfl _ _ rfl w.heap.size w.heap.size 0 (n+12) [] L rfl O1.out _ _ _ rfl Hln.out (Hr.out.below (B1.out.mono hN)).src (by omega) ?_;intro w2 hown2 hg2))
 rw[List.nil_append,Nat.zero_add] at hown2;have O2:=Lib.hid hown2;have B2:Hid (Below w.heap.size w w2):=Lib.hid (B1.out.grown hg2 B1.out.size (fun r e=>by cases e;exact Nat.le_refl _));clear hown2 hg2
 try rw[Nat.zero_add]
 go_wp2_with (fail);go_loopw [3,4] (fun v i wr=>∃ (j:Nat),j<=12/\i=.int .i64 j/\v=.slice (some ⟨w.heap.size,0,none⟩) (n+j) (n+12)/\Hid (OT w.heap.size wr (.slice (some ⟨w.heap.size,0,none⟩) (n+j) (n+12)) (L++lentX.take j))/\Hid (Below w.heap.size w wr)) (fun _ i _=>12-(intOf i).toNat)
 case atStart=>exact⟨0,by omega,rfl,rfl,by simpa using O2,B2⟩
 case round =>
  obtain⟨j,hj,rfl,rfl,Ho,Hb⟩:=hrel;by_cases hlt:j<12
  ·have hmk:=fun W=>markText_any j W hlt
   have hsz:=Hb.out.size;have htk:=lentX_take j hlt;obtain⟨m,hm⟩:∃ m,m=mkTx j:=⟨_,rfl⟩
   rw[<- hm] at hmk htk;unfold encStr at hmk;have HM:=Lib.hid hmk;have Htk:=Lib.hid htk;clear hm htk hmk;go_wp2_with (first|(go_at_call 130;refine (HM.out _).mono ?_;rintro e wm ⟨rfl,hbm⟩;have O3:=Lib.hid ((Ho.out.below hbm).below ((Below.refl _ wm).alloc (Nat.le_refl _) (.cells #[.string ⟨m.toArray⟩] 9)));have Bm:=Lib.hid (Hb.out.trans (hbm.mono hsz));clear hbm)|(at_builtin;refine wpList_append_textsF rfl _ _ rfl w.heap.size w.heap.size (n+j) (n+12) (L++lentX.take j) [m] rfl O3.out _ 1 _ rfl rfl (fun _=>⟨_,rfl,one_text _ m _⟩) (by omega) ?_;intro w4 hown4 hg4));have O4:=Lib.hid (show OT w.heap.size w4 (.slice (some ⟨w.heap.size,0,none⟩) (n+(j+1)) (n+12)) (L++lentX.take (j+1)) from by rw[Htk.out,<- List.append_assoc];exact hown4);have B4:Hid (Below w.heap.size w w4):=Lib.hid ((Bm.out.alloc Bm.out.size _).grown hg4 (by have:=Bm.out.size;simp;omega) (fun r e=>by cases e;exact Nat.le_refl _));clear hown4 hg4;go_roundw
   case rel=>exact⟨j+1,by omega,by go_num,by go_num,O4,B4⟩
   case measure=>simp[intOf];omega
  ·have hge:j=12:=by omega
   subst hge;go_wp2_with (fail);go_ret;refine⟨⟨w.heap.size,n+12,rfl,⟨Nat.le_refl _,by omega⟩,?_⟩,Hb.out⟩;have h:=Ho.out;rw[List.take_of_length_le (Nat.le_of_eq lentX_len)] at h;exact h
end
section
open Go.RowKit
theorem allX_at (L:List (List UInt8)) (n j:Nat) (hn:n=L.length) (hj:j<n):(L++lentX).getD j []=L.getD j []:=by
 rw[List.getD_eq_getElem?_getD,List.getElem?_append_left (by omega),List.getD_eq_getElem?_getD]
theorem allX_behind (L:List (List UInt8)) (n d:Nat) (hn:n=L.length) (hd:d<12):(L++lentX).getD (n+d) []=mkTx d:=by
 rw[List.getD_eq_getElem?_getD,List.getElem?_append_right (by omega),show n+d-L.length=d by omega,List.getElem?_eq_getElem (by rw[lentX_len];exact hd),Option.getD_some,lentX_at d hd]
set_option maxHeartbeats 4000000 in
set_option maxRecDepth 100000 in
theorem KeptTexts_any (B N:Nat) (g:Nat) (c':Nat) (a:Option Addr) (n c:Nat) (L:List (List UInt8)) (w:World) (ho:RT B w (some ⟨g,0,none⟩) (n+12) c' (L++lentX)) (hr:RT N w a n c L) (hB:B<=w.heap.size) (hN:N<=w.heap.size) :
  Calls Tryz.prog 108 #[.slice (some ⟨g,0,none⟩) n c',.slice a n c] w fun e w'=>e=.returned (.bool true)/\Below w.heap.size w w':=by
 have h1:=ho.le;have h2:=ho.mx;have h3:=hr.le;have h4:=hr.mx;have hln:=hr.len;have Hln:=Lib.hid hln;have Ho:=Lib.hid ho;have Hr:=Lib.hid hr;clear ho hr hln;have q1:(n:Int)+12<=(c':Int):=by omega
 have q2:=wrap_in (x:=(n:Int)+12) (by omega) (by omega);go_enter Tryz.func108,Tryz.ntmps108;go_wp2_with (fail);go_loopw [6] (fun i wr=>∃ (j:Nat),j<=n+12/\i=.int .i64 j/\Hid (Below w.heap.size w wr)) (fun i _=>n+12-(intOf i).toNat)
 case atStart=>exact⟨0,by omega,rfl,Lib.hid (Below.refl _ _)⟩
 case round =>
  obtain⟨j,hj,rfl,Hb⟩:=hrel;have hsz:=Hb.out.size;by_cases hlt:j<n
  ·obtain⟨b,o,e1,hbB,hc1⟩:=(Ho.out.below (Hb.out.mono hB)).at_ (by omega)
   cases e1
   obtain⟨b2,o2,rfl,hbN,hc2⟩:=(Hr.out.below (Hb.out.mono hN)).at_ (by omega);have k1:=hc1 j (by omega);have k3:=hc2 j hlt;rw[allX_at L n j Hln.out hlt,Nat.zero_add] at k1;generalize L.getD j []=x at k1 k3;unfold encStr at k1 k3;clear hc1 hc2;have f1:∀ y:BelowW wr,y.v.cell? ⟨g,j,none⟩=some (.string ⟨x.toArray⟩):=fun y=>(y.h.cell (by show g<_;omega)).trans k1
   have f3:∀ y:BelowW wr,y.v.cell? ⟨b2,o2+j,none⟩=some (.string ⟨x.toArray⟩):=fun y=>(y.h.cell (by show b2<_;omega)).trans k3
   have hd:decide ((j:Int)<(n:Int))=true:=decide_eq_true (by omega);have hd2:decide ((n:Int)<=(j:Int))=false:=decide_eq_false (by omega);have hd3:decide (n<=j)=false:=decide_eq_false (by omega);have hd4:decide (j<n)=true:=decide_eq_true (by omega);clear k1 k3;go_wp2_with (fail);refine wp_region_below wr (by kernel_rfl) (by kernel_rfl) (Below.refl _ _) ?_
   repeat (go_big_quiet_step (fail))
   refine wpQuiet_nil ?_;intro _ hw';obtain⟨y,hw''⟩:=hw';subst hw'';clear f1 f3;go_wp2_with (fail);go_roundw
   case rel=>exact⟨j+1,by omega,by go_num,Lib.hid (Hb.out.trans (y.h.mono hsz))⟩
   case measure=>simp[intOf];omega
  ·by_cases hlt2:j<n+12
   ·obtain⟨d,rfl⟩:∃ d,j=n+d:=⟨j-n,by omega⟩
    obtain⟨b,o,e1,hbB,hc1⟩:=(Ho.out.below (Hb.out.mono hB)).at_ (by omega)
    cases e1
    have k1:=hc1 (n+d) (by omega);rw[allX_behind L n d Hln.out (by omega),Nat.zero_add] at k1;have hmk:∀ W:World,Calls Tryz.prog 130 #[.int .i64 1,.int .i64 (d:Int)] W fun e w'=>e=.returned (encStr (mkTx d))/\Below W.heap.size W w':=fun W=>markText_any d W (by omega)
    generalize mkTx d=m at k1 hmk;unfold encStr at k1 hmk;have f1:∀ y:BelowW wr,y.v.cell? ⟨g,n+d,none⟩=some (.string ⟨m.toArray⟩):=fun y=>(y.h.cell (by show g<_;omega)).trans k1
    clear hc1 k1;have i1:decide ((n:Int)+(d:Int)<(n:Int))=false:=decide_eq_false (by omega);have i2:decide ((n:Int)<=(n:Int)+(d:Int))=true:=decide_eq_true (by omega);have i3:IntKind.i64.wrap ((n:Int)+(d:Int)-(n:Int))=(d:Int):=by
     rw[show (n:Int)+(d:Int)-(n:Int)=(d:Int) by omega];exact wrap_in (by omega) (by omega)
    have i5:(n:Int)+(d:Int)<(n:Int)+12:=(by omega);have i6:(0:Int)<=(n:Int)+(d:Int):=(by omega);have c5:=Lib.hid hlt2;clear hlt hj hlt2;go_wp2_with (fail);refine wp_region_below wr (by kernel_rfl) (by kernel_rfl) (Below.refl _ _) ?_
    repeat (go_big_quiet_step ((go_at_call 130;exact below_call (hmk _))))
    refine wpQuiet_nil ?_;intro _ hw';obtain⟨y,hw''⟩:=hw';subst hw'';clear f1;go_wp2_with (fail);have c6:=c5.out;go_roundw
    case rel=>exact⟨n+d+1,by omega,by go_num,Lib.hid (Hb.out.trans (y.h.mono hsz))⟩
    case measure=>simp[intOf];omega
   ·go_wp2_with (fail);go_ret;exact⟨rfl,Hb.out⟩
end
section
open Go.RowKit
theorem allP_at (L:List Pt) (n j:Nat) (hn:n=L.length) (hj:j<n):(L++lentP).getD j default=L.getD j default:=by
 rw[List.getD_eq_getElem?_getD,List.getElem?_append_left (by omega),List.getD_eq_getElem?_getD]
theorem allP_behind (L:List Pt) (n d:Nat) (hn:n=L.length) (hd:d<12):(L++lentP).getD (n+d) default=mkPt 1 d:=by
 rw[List.getD_eq_getElem?_getD,List.getElem?_append_right (by omega),show n+d-L.length=d by omega,List.getElem?_eq_getElem (by rw[lentP_len];exact hd),Option.getD_some,lentP_at d hd]
theorem eqPart_self (x:List UInt8) (u:Int) (w:World):(Op.equalIn 10000 74 (.agg #[encStr x,.int .i64 u]) (.agg #[encStr x,.int .i64 u])).run Tryz.prog w=.ok true w:=by
 rw[eqPart,eqP_iff.2 rfl]
set_option maxHeartbeats 4000000 in
set_option maxRecDepth 100000 in
theorem KeptParts_any (B N:Nat) (g:Nat) (c':Nat) (a:Option Addr) (n c:Nat) (L:List Pt) (w:World) (ho:RP B w (some ⟨g,0,none⟩) (n+12) c' (L++lentP)) (hr:RP N w a n c L) (hB:B<=w.heap.size) (hN:N<=w.heap.size) :
  Calls Tryz.prog 107 #[.slice (some ⟨g,0,none⟩) n c',.slice a n c] w fun e w'=>e=.returned (.bool true)/\Below w.heap.size w w':=by
 have h1:=ho.le;have h2:=ho.mx;have h3:=hr.le;have h4:=hr.mx;have hln:=hr.len;have Hln:=Lib.hid hln;have Ho:=Lib.hid ho;have Hr:=Lib.hid hr;clear ho hr hln;have q1:(n:Int)+12<=(c':Int):=by omega
 have q2:=wrap_in (x:=(n:Int)+12) (by omega) (by omega);go_enter Tryz.func107,Tryz.ntmps107;go_wp2_with (fail);go_loopw [6] (fun i wr=>∃ (j:Nat),j<=n+12/\i=.int .i64 j/\Hid (Below w.heap.size w wr)) (fun i _=>n+12-(intOf i).toNat)
 case atStart=>exact⟨0,by omega,rfl,Lib.hid (Below.refl _ _)⟩
 case round =>
  obtain⟨j,hj,rfl,Hb⟩:=hrel;have hsz:=Hb.out.size;by_cases hlt:j<n
  ·obtain⟨b,o,e1,hbB,hc1⟩:=(Ho.out.below (Hb.out.mono hB)).at_ (by omega)
   cases e1
   obtain⟨b2,o2,rfl,hbN,hc2⟩:=(Hr.out.below (Hb.out.mono hN)).at_ (by omega);obtain⟨k1,k2⟩:=hc1 j (by omega);obtain⟨k3,k4⟩:=hc2 j hlt;rw[allP_at L n j Hln.out hlt] at k1 k2;rw[Nat.zero_add] at k1 k2;generalize L.getD j default=p at k1 k2 k3 k4;obtain⟨x,u⟩:=p;simp only at k1 k2 k3 k4;clear hc1 hc2;have f1:∀ y:BelowW wr,y.v.cell? ⟨g,j*2,none⟩=some (encStr x):=fun y=>(y.h.cell (by show g<_;omega)).trans k1
   have f2:∀ y:BelowW wr,y.v.cell? ⟨g,j*2+1,none⟩=some (.int .i64 u):=fun y=>(y.h.cell (by show g<_;omega)).trans k2
   have f3:∀ y:BelowW wr,y.v.cell? ⟨b2,o2+j*2,none⟩=some (encStr x):=fun y=>(y.h.cell (by show b2<_;omega)).trans k3
   have f4:∀ y:BelowW wr,y.v.cell? ⟨b2,o2+j*2+1,none⟩=some (.int .i64 u):=fun y=>(y.h.cell (by show b2<_;omega)).trans k4
   have heq:=eqPart_self x u;have hd:decide ((j:Int)<(n:Int))=true:=decide_eq_true (by omega);have hd2:decide ((n:Int)<=(j:Int))=false:=decide_eq_false (by omega);have hd3:decide (n<=j)=false:=decide_eq_false (by omega);have hd4:decide (j<n)=true:=decide_eq_true (by omega);clear k1 k2 k3 k4;go_wp2_with (fail);refine wp_region_below wr (by kernel_rfl) (by kernel_rfl) (Below.refl _ _) ?_
   repeat (go_big_quiet_step (fail))
   refine wpQuiet_nil ?_;intro _ hw';obtain⟨y,hw''⟩:=hw';subst hw'';clear f1 f2 f3 f4;go_wp2_with (fail);go_roundw
   case rel=>exact⟨j+1,by omega,by go_num,Lib.hid (Hb.out.trans (y.h.mono hsz))⟩
   case measure=>simp[intOf];omega
  ·by_cases hlt2:j<n+12
   ·obtain⟨d,rfl⟩:∃ d,j=n+d:=⟨j-n,by omega⟩
    obtain⟨b,o,e1,hbB,hc1⟩:=(Ho.out.below (Hb.out.mono hB)).at_ (by omega)
    cases e1
    obtain⟨k1,k2⟩:=hc1 (n+d) (by omega);rw[allP_behind L n d Hln.out (by omega)] at k1 k2;rw[Nat.zero_add] at k1 k2;have hmk:∀ W:World,Calls Tryz.prog 129 #[.int .i64 1,.int .i64 (d:Int)] W fun e w'=>e=.returned (.agg #[.string ⟨#[]⟩,.int .i64 (markN 1 d:Nat)])/\Below W.heap.size W w':=fun W=>markPart_any 1 d W (by omega) (by omega)
    unfold mkPt at k1 k2;simp only at k1 k2;generalize ((markN 1 d:Nat):Int)=m at k1 k2 hmk;have f1:∀ y:BelowW wr,y.v.cell? ⟨g,(n+d)*2,none⟩=some (.string ⟨#[]⟩):=fun y=>(y.h.cell (by show g<_;omega)).trans k1
    have f2:∀ y:BelowW wr,y.v.cell? ⟨g,(n+d)*2+1,none⟩=some (.int .i64 m):=fun y=>(y.h.cell (by show g<_;omega)).trans k2
    clear hc1 k1 k2;have heq:∀ w:World,(Op.equalIn 10000 74 (.agg #[.string ⟨#[]⟩,.int .i64 m]) (.agg #[.string ⟨#[]⟩,.int .i64 m])).run Tryz.prog w=.ok true w:=fun w=>eqPart_self [] m w
    have i1:decide ((n:Int)+(d:Int)<(n:Int))=false:=decide_eq_false (by omega);have i2:decide ((n:Int)<=(n:Int)+(d:Int))=true:=decide_eq_true (by omega);have i3:IntKind.i64.wrap ((n:Int)+(d:Int)-(n:Int))=(d:Int):=by
     rw[show (n:Int)+(d:Int)-(n:Int)=(d:Int) by omega];exact wrap_in (by omega) (by omega)
    have i5:(n:Int)+(d:Int)<(n:Int)+12:=(by omega);have i6:(0:Int)<=(n:Int)+(d:Int):=(by omega);have c5:=Lib.hid hlt2;clear hlt hj hlt2;go_wp2_with (fail);refine wp_region_below wr (by kernel_rfl) (by kernel_rfl) (Below.refl _ _) ?_
    repeat (go_big_quiet_step ((go_at_call 129;exact below_call (hmk _))))
    refine wpQuiet_nil ?_;intro _ hw';obtain⟨y,hw''⟩:=hw';subst hw'';clear f1 f2;go_wp2_with (fail);have c6:=c5.out;go_roundw
    case rel=>exact⟨n+d+1,by omega,by go_num,Lib.hid (Hb.out.trans (y.h.mono hsz))⟩
    case measure=>simp[intOf];omega
   ·go_wp2_with (fail);go_ret;exact⟨rfl,Hb.out⟩
end
section
open Go.RowKit
def met (P:List Pt) (i:Nat):List UInt8->Value:=fun s=>.int .i64 (if s∈(P.take i).map (·.1) then 1 else 0)
theorem mem_take {P:List Pt} {i:Nat} (hi:i<=P.length) (s:List UInt8):s∈(P.take i).map (·.1)↔∃ k,k<i/\(P.getD k default).1=s:=by
 rw[List.mem_map];constructor
 ·rintro⟨p,hp,rfl⟩;obtain⟨k,hk,rfl⟩:=List.getElem_of_mem hp;rw[List.length_take] at hk;refine⟨k,by omega,?_⟩;rw[List.getD_eq_getElem?_getD,List.getElem?_eq_getElem (by omega),List.getElem_take];rfl
 ·rintro⟨k,hk,rfl⟩;refine⟨P.getD k default,?_,rfl⟩;rw[List.getD_eq_getElem?_getD,List.getElem?_eq_getElem (by omega)];exact List.mem_take_iff_getElem.2 ⟨k,by omega,rfl⟩
theorem met_zero (P:List Pt):met P 0=fun _=>.int .i64 0:=by
 funext s;simp[met]
theorem met_next {P:List Pt} {i:Nat} (hi:i<P.length) (hno:∀ k,k<i->(P.getD k default).1≠(P.getD i default).1):setO (met P i) (P.getD i default).1 (.int .i64 1)=met P (i+1):=by
 funext s;unfold met;by_cases e:s=(P.getD i default).1
 ·subst e;rw[setO_same,if_pos ((mem_take (by omega) _).2 ⟨i,by omega,rfl⟩)]
 ·rw[setO_other _ e]
  congr 1
  have:s∈(P.take i).map (·.1)↔s∈(P.take (i+1)).map (·.1):=by
   rw[mem_take (by omega),mem_take (by omega)];constructor
   ·rintro⟨k,hk,h⟩;exact⟨k,by omega,h⟩
   ·rintro⟨k,hk,h⟩;by_cases hki:k=i
    ·subst hki;exact absurd h.symm e
    ·exact⟨k,by omega,h⟩
  simp only[this]
theorem met_new {P:List Pt} {i:Nat} (hi:i<=P.length) {s:List UInt8} (hno:∀ k,k<i->(P.getD k default).1≠s):met P i s=.int .i64 0:=by
 unfold met;rw[if_neg (fun h=>by obtain⟨k,hk,e⟩:=(mem_take hi s).1 h;exact hno k hk e)]
theorem met_old {P:List Pt} {i:Nat} (hi:i<=P.length) {s:List UInt8} {k:Nat} (hk:k<i) (e:(P.getD k default).1=s):met P i s=.int .i64 1:=by
 unfold met;rw[if_pos ((mem_take hi s).2 ⟨k,hk,e⟩)]
theorem pair_cells (w:World) (u v:Value):(w.alloc (.cells #[u,v] 74)).heap[w.heap.size]? = some (.cells #[u,v] 74):=heap_alloc_new _ _
theorem pair_at {W:World} {g:Nat} {u v:Value} (h:W.heap[g]? = some (.cells #[u,v] 74)):W.cell? ⟨g,0,none⟩=some u/\W.cell? ⟨g,1,none⟩=some v:=by
 exact⟨by unfold World.cell?;rw[h];rfl,by unfold World.cell?;rw[h];rfl⟩
set_option maxHeartbeats 4000000 in
set_option maxRecDepth 100000 in
theorem right_any (B:Nat) (x:It) (w:World) (hx:ItOk B w x) (hB:B<=w.heap.size):Calls Tryz.prog 115 #[x.val] w fun e w'=>e=.returned (.bool (okShape x.life x.ps))/\Below w.heap.size w w':=by
 obtain⟨c1,c2⟩:=box_cells w x;have hb1:Below w.heap.size w (w.alloc (.cells #[encStr x.code,.int .i64 x.life,.slice x.pa x.ps.length x.pc,.slice x.oa x.os.length x.oc] 87)):=(Below.refl _ w).alloc (Nat.le_refl _) _;have hrp:=(hx.rp.below (hb1.mono hB)).mono hB;unfold It.val;obtain⟨cd,hcd⟩:∃ v,v=encStr x.code:=⟨_,rfl⟩
 rw[<- hcd] at c1 c2 hb1 hrp ⊢;obtain⟨W1,hW1⟩:∃ W,W=w.alloc (.cells #[cd,.int .i64 x.life,.slice x.pa x.ps.length x.pc,.slice x.oa x.os.length x.oc] 87):=⟨_,rfl⟩
 have hs1:W1.heap.size=w.heap.size+1:=by rw[hW1,World.size_alloc]
 rw[<- hW1] at c1 c2 hb1 hrp;have hle:=hrp.le;have hmx:=hrp.mx;have hlo:=hx.lo;have hhi:=hx.hi;obtain⟨gb,hgb⟩:∃ g,g=w.heap.size:=⟨_,rfl⟩
 rw[<- hgb] at c1 c2 hrp hb1 hs1;have HP:=Lib.hid hrp;have B1:=Lib.hid hb1;have C1:=Lib.hid c1;have C2:=Lib.hid c2;clear hx hrp hb1 hcd;have hmk:=@run_makeMap Tryz.prog;go_enter Tryz.func115,Tryz.ntmps115;go_upto_region 1 with (fail);rw[<- hW1,<- hgb];have HG:=Lib.hid hgb;clear hW1 hgb;obtain⟨np,hnp⟩:∃ m,m=x.ps.length:=⟨_,rfl⟩
 obtain⟨lf,hlf⟩:∃ m,m=x.life:=⟨_,rfl⟩
 rw[<- hnp] at c2 hle C2;rw[<- hlf] at c1 hlo hhi C1;have HNP:=Lib.hid hnp;have HLF:=Lib.hid hlf;clear hnp hlf;by_cases h0:np=0
 ·have e0:((np:Int) == 0)=true:=by simp;omega
  have ho:=Lib.hid (show okShape x.life x.ps=decide (1<=lf/\lf<=2000) by unfold okShape;rw[if_pos (by rw[<- HNP.out];exact h0),HLF.out]);clear h0;by_cases h1:0<lf
  ·have e1:decide (0<lf)=true:=by simp;omega
   by_cases h2:lf<=2000
   ·have e2:decide (lf<=2000)=true:=(by simp;omega);have hf:=Lib.hid (show decide (1<=lf/\lf<=2000)=true by simp;omega);clear h1 h2;go_wp2_with (fail);go_ret;exact⟨by rw[ho.out,hf.out];rfl,HG.out ▸ B1.out⟩
   ·have e2:decide (lf<=2000)=false:=(by simp;omega);have hf:=Lib.hid (show decide (1<=lf/\lf<=2000)=false by simp;omega);clear h1 h2;go_wp2_with (fail);go_ret;exact⟨by rw[ho.out,hf.out];rfl,HG.out ▸ B1.out⟩
  ·have e1:decide (0<lf)=false:=by simp;omega
   have hf:=Lib.hid (show decide (1<=lf/\lf<=2000)=false by simp;omega);clear h1;go_wp2_with (fail);go_ret;exact⟨by rw[ho.out,hf.out];rfl,HG.out ▸ B1.out⟩
 ·have e0:((np:Int) == 0)=false:=by simp;omega
  have HNZ:=Lib.hid (show x.ps.length≠0 by rw[<- HNP.out];exact h0);clear h0;obtain⟨b,o,hpa,hbB,-⟩:=HP.out.part (i:=0) (by have:=HNZ.out;omega);rw[hpa] at c2 C2;have HPA:=Lib.hid hpa;clear hpa;have hM0:=Lib.hid (MF.made W1 (.int .i64 0));have hB0:Hid (Below (gb+1) W1 (W1.alloc (.map #[] 0))):=Lib.hid ((Below.refl _ W1).alloc (by rw[hs1];exact Nat.le_refl _) _);rw[met_zero x.ps |>.symm] at hM0;rw[hs1] at hM0;go_upto_region 4 with (fail);go_wp2_with (fail);go_loopw [22] (fun s22 wr=>∃ i:Nat,s22=.int .i64 i/\i<=np/\Hid (MF wr (gb+1) i (.int .i64 0) (met x.ps i))/\Hid (Below (gb+1) W1 wr)/\Hid (∀ j,j<i->okPart x.ps j=true)) (fun s22 _=>np-(intOf s22).toNat)
  case atStart=>exact⟨0,rfl,by omega,hM0,hB0,Lib.hid (fun j hj=>absurd hj (Nat.not_lt_zero _))⟩
  case round =>
   obtain⟨i,rfl,hi,HM,HB,hok⟩:=hrel;have c1':wr.cell? ⟨gb,1,none⟩=some (.int .i64 lf):=(HB.out.cell (show gb<gb+1 by omega)).trans C1.out;have c2':wr.cell? ⟨gb,2,none⟩=some (.slice (some ⟨b,o,none⟩) np x.pc):=(HB.out.cell (show gb<gb+1 by omega)).trans C2.out;clear c1 c2;by_cases hin:i<np
   ·have t1:decide ((i:Int)<(np:Int))=true:=(by simp;omega);have i0:(0:Int)<=(i:Int):=(by omega);have i1:(i:Int)<(np:Int):=(by omega);have f1:IntKind.i64.wrap ((i:Int)+1)=((i+1:Nat):Int):=(by rw[wrap_in (by omega) (by omega)];omega);have hin':i<x.ps.length:=(by rw[<- HNP.out];exact hin);obtain⟨b',o',hpa',-,p0,p1⟩:=(HP.out.below (HB.out.mono (Nat.le_succ _))).part hin';have HIN:=Lib.hid hin';clear hin';rw[HPA.out] at hpa'
    cases hpa'
    obtain⟨pi,hpi⟩:∃ p,p=x.ps.getD i default:=⟨_,rfl⟩
    have hfn:=HP.out.fine.at_ HIN.out;rw[<- hpi] at p0 p1 hfn;unfold encStr at p0;have HPI:=Lib.hid hpi;clear hpi;obtain⟨nm,qt⟩:=pi;simp only at p0 p1 hfn;obtain⟨hnl,hq0,hq9⟩:=hfn;have HNL:=Lib.hid hnl;clear hnl
    -- the pair's own block
    have hz:=zeroInt;have hpc:=pair_cells wr (.string ⟨nm.toArray⟩) (.int .i64 qt);have hal:Below wr.heap.size wr (wr.alloc (.cells #[.string ⟨nm.toArray⟩,.int .i64 qt] 74)):=(Below.refl _ wr).alloc (Nat.le_refl _) _;have hM2:MF (wr.alloc (.cells #[.string ⟨nm.toArray⟩,.int .i64 qt] 74)) (gb+1) i (.int .i64 0) (met x.ps i):=HM.out.below hal HM.out.lt;have hB2:Below (gb+1) W1 (wr.alloc (.cells #[.string ⟨nm.toArray⟩,.int .i64 qt] 74)):=HB.out.alloc (by have:=HB.out.size;omega) _;have hlk:=hM2.look Tryz.underlying113 (hz _) nm HNL.out;have hgw:gb+1<wr.heap.size:=HM.out.lt;obtain⟨q0,q1⟩:=pair_at hpc;have HM2:=Lib.hid hM2;have HB2:=Lib.hid hB2;have HPC:=Lib.hid hpc;clear hz hal hM2 hB2 hpc;by_cases htw:∃ k,k<i/\(x.ps.getD k default).1=nm
    ·obtain⟨k,hk,hkn⟩:=htw;rw[met_old (by have:=HIN.out;omega) hk hkn] at hlk;have ho:=Lib.hid (okShape_no (life:=x.life) HIN.out (okPart_twice hk (by rw[<- HPI.out];exact hkn)));clear hkn;go_wp2_with (at_mapUpdate;refine wpList_put_mf rfl _ _ _ 113 rfl Tryz.underlying113 HM2.out (by omega) nm (.int .i64 2) rfl rfl rfl HNL.out (by simp) ?_;intro w2 hM3 hg2;have hlk2:=hM3.look Tryz.underlying113 (zeroInt _) nm HNL.out;rw[setO_same] at hlk2;obtain⟨q2,q3⟩:=pair_at ((hg2.block wr.heap.size (by rw[World.size_alloc];omega) (fun e=>by have:=Option.some.inj e;omega)).trans HPC.out);have HB3:=Lib.hid (HB2.out.grown hg2 (by rw[World.size_alloc];omega) (fun k e=>by have:=Option.some.inj e;omega));clear hM3 hg2)
     all_goals go_ret
     all_goals exact⟨by rw[ho.out];rfl,HG.out ▸ B1.out.trans (HB3.out.mono (Nat.le_succ _))⟩
    ·have hno:∀ k,k<i->(x.ps.getD k default).1≠nm:=fun k hk e=>htw ⟨k,hk,e⟩
     rw[met_new (by have:=HIN.out;omega) hno] at hlk;have HNO:=Lib.hid hno;clear htw hno;by_cases hq:1<=qt/\qt<=1073741824
     ·obtain⟨hq1,hq2⟩:=hq;have e3:decide (qt<1)=false:=(by simp;omega);have e4:decide ((1073741824:Int)<qt)=false:=(by simp;omega);have ho:=Lib.hid (okPart_yes (P:=x.ps) (i:=i) (by rw[<- HPI.out];exact hq1) (by rw[<- HPI.out];exact hq2) (fun m hm=>by rw[<- HPI.out];exact HNO.out m hm));clear hq1 hq2;go_wp2_with (at_mapUpdate;refine wpList_put_mf rfl _ _ _ 113 rfl Tryz.underlying113 HM2.out (by omega) nm (.int .i64 1) rfl rfl rfl HNL.out (by simp) ?_;intro w2 hM3 hg2;have hlk2:=hM3.look Tryz.underlying113 (zeroInt _) nm HNL.out;rw[setO_same] at hlk2;obtain⟨q2,q3⟩:=pair_at ((hg2.block wr.heap.size (by rw[World.size_alloc];omega) (fun e=>by have:=Option.some.inj e;omega)).trans HPC.out);have HB3:=Lib.hid (HB2.out.grown hg2 (by rw[World.size_alloc];omega) (fun k e=>by have:=Option.some.inj e;omega));have HM3:=Lib.hid hM3;clear hM3 hg2);go_roundw
      case rel=>exact⟨i+1,rfl,by omega,Lib.hid (by
       have h:=HM3.out;have hm:=met_next HIN.out (by rw[<- HPI.out];exact HNO.out);rw[<- HPI.out] at hm;simp only at hm;rw[hm] at h;exact h),HB3,Lib.hid (fun j hj=>if e:j<i then hok.out j e else by rw[show j=i by omega];exact ho.out)⟩
      case measure=>simp only[intOf];omega
     ·have ho:=Lib.hid (okShape_no (life:=x.life) HIN.out (okPart_qty (by rw[<- HPI.out];exact hq)));by_cases hq1:1<=qt
      ·have e3:decide (qt<1)=false:=(by simp;omega);have e4:decide ((1073741824:Int)<qt)=true:=(by simp;omega);clear hq hq1;go_wp2_with (at_mapUpdate;refine wpList_put_mf rfl _ _ _ 113 rfl Tryz.underlying113 HM2.out (by omega) nm (.int .i64 1) rfl rfl rfl HNL.out (by simp) ?_;intro w2 hM3 hg2;have hlk2:=hM3.look Tryz.underlying113 (zeroInt _) nm HNL.out;rw[setO_same] at hlk2;obtain⟨q2,q3⟩:=pair_at ((hg2.block wr.heap.size (by rw[World.size_alloc];omega) (fun e=>by have:=Option.some.inj e;omega)).trans HPC.out);have HB3:=Lib.hid (HB2.out.grown hg2 (by rw[World.size_alloc];omega) (fun k e=>by have:=Option.some.inj e;omega));clear hM3 hg2);go_ret;exact⟨by rw[ho.out];rfl,HG.out ▸ B1.out.trans (HB3.out.mono (Nat.le_succ _))⟩
      ·have e3:decide (qt<1)=true:=(by simp;omega);clear hq hq1;go_wp2_with (at_mapUpdate;refine wpList_put_mf rfl _ _ _ 113 rfl Tryz.underlying113 HM2.out (by omega) nm (.int .i64 1) rfl rfl rfl HNL.out (by simp) ?_;intro w2 hM3 hg2;have hlk2:=hM3.look Tryz.underlying113 (zeroInt _) nm HNL.out;rw[setO_same] at hlk2;obtain⟨q2,q3⟩:=pair_at ((hg2.block wr.heap.size (by rw[World.size_alloc];omega) (fun e=>by have:=Option.some.inj e;omega)).trans HPC.out);have HB3:=Lib.hid (HB2.out.grown hg2 (by rw[World.size_alloc];omega) (fun k e=>by have:=Option.some.inj e;omega));clear hM3 hg2);go_ret;exact⟨by rw[ho.out];rfl,HG.out ▸ B1.out.trans (HB3.out.mono (Nat.le_succ _))⟩
   ·have t1:decide ((i:Int)<(np:Int))=false:=(by simp;omega);have hall:=Lib.hid (okShape_yes (life:=x.life) HNZ.out (fun j hj=>hok.out j (by have:=HNP.out;omega)));have hfin:Below w.heap.size w wr:=HG.out ▸ B1.out.trans (HB.out.mono (Nat.le_succ _));have HFIN:=Lib.hid hfin;clear hfin;by_cases h1:lf=0
    ·have e1:(lf == 0)=true:=(by simp;omega);have H1:=Lib.hid h1;clear h1;by_cases h2:np<=8
     ·have e2:decide ((np:Int)<=8)=true:=(by simp;omega);have H2:=Lib.hid h2;clear h2;go_wp2_with (fail);go_ret;exact⟨by rw[hall.out,decide_eq_true (by rw[<- HLF.out,<- HNP.out];exact⟨H1.out,H2.out⟩)];rfl,HFIN.out⟩
     ·have e2:decide ((np:Int)<=8)=false:=(by simp;omega);have H2:=Lib.hid h2;clear h2;go_wp2_with (fail);go_ret;exact⟨by rw[hall.out,decide_eq_false (by rw[<- HLF.out,<- HNP.out];exact fun h=>H2.out h.2)];rfl,HFIN.out⟩
    ·have e1:(lf == 0)=false:=(by simp;omega);have H1:=Lib.hid h1;clear h1;go_wp2_with (fail);go_ret;exact⟨by rw[hall.out,decide_eq_false (by rw[<- HLF.out];exact fun h=>H1.out h.1)];rfl,HFIN.out⟩
end
section
open Go.RowKit
def bookF (X:List It):List UInt8->Value:=X.foldl (fun f x=>setO f x.code x.val) (fun _=>zItem)
theorem book_next {X:List It} {i:Nat} (hi:i<X.length):bookF (X.take (i+1))=setO (bookF (X.take i)) (X.getD i default).code (X.getD i default).val:=by
 unfold bookF;rw[List.take_succ_eq_append_getElem hi,List.foldl_append,List.getD_eq_getElem?_getD,List.getElem?_eq_getElem hi];rfl
theorem val_ne {x:It} (h:x.code≠[]):x.val≠zItem:=fun e=>by
 unfold It.val zItem encStr at e;simp at e;exact h (by simpa using e.1)
theorem four_at {W:World} {g:Nat} {u v p q:Value} {t:TypeId} (h:W.heap[g]? = some (.cells #[u,v,p,q] t)):W.cell? ⟨g,0,none⟩=some u/\W.cell? ⟨g,1,none⟩=some v/\W.cell? ⟨g,2,none⟩=some p/\W.cell? ⟨g,3,none⟩=some q:=by
 refine⟨?_,?_,?_,?_⟩<;>(unfold World.cell?;rw[h];rfl)
set_option maxHeartbeats 4000000 in
set_option maxRecDepth 100000 in
theorem book_any (B:Nat) (a:Option Addr) (n cp:Nat) (X:List It) (w:World) (hr:RI B w a n cp X) (hB:B<=w.heap.size) (hne:∀ x∈X,x.code≠[]):Calls Tryz.prog 116 #[.slice a n cp] w fun e w'=>(∃ mb,e=.returned (.map (some mb))/\MF w' mb n zItem (bookF X)/\w.heap.size<=mb)/\Below w.heap.size w w':=by
 have hle:=hr.le;have hmx:=hr.mx;have HR:=Lib.hid (hr.mono hB);have HNA:=Lib.hid hne;clear hne;have hmk:=@run_makeMap Tryz.prog;have hM0:=Lib.hid (MF.made w zItem);have hB0:Hid (Below w.heap.size w (w.alloc (.map #[] 0))):=Lib.hid ((Below.refl _ w).alloc (Nat.le_refl _) _);obtain⟨gb,hgb⟩:∃ g,g=w.heap.size:=⟨_,rfl⟩
 clear hr;rw[<- hgb] at hM0 hB0 HR;have HG:=Lib.hid hgb;go_enter Tryz.func116,Tryz.ntmps116;go_upto_region 2 with (fail);rw[<- hgb];clear hgb;go_wp2_with (fail);go_loopw [9] (fun s9 wr=>∃ i:Nat,s9=.int .i64 i/\i<=n/\Hid (MF wr gb i zItem (bookF (X.take i)))/\Hid (Below gb w wr)) (fun s9 _=>n-(intOf s9).toNat)
 case atStart=>exact⟨0,rfl,by omega,hM0,hB0⟩
 case round =>
  obtain⟨i,rfl,hi,HM,HB⟩:=hrel;by_cases hin:i<n
  ·have t1:decide ((i:Int)<(n:Int))=true:=by simp;omega
   have i0:(0:Int)<=(i:Int):=by omega
   have i1:(i:Int)<(n:Int):=by omega
   have f1:IntKind.i64.wrap ((i:Int)+1)=((i+1:Nat):Int):=by rw[wrap_in (by omega) (by omega)];omega
   obtain⟨b,o,rfl,hbB,hok1,c0,c1,c2,c3⟩:=(HR.out.below HB.out).item hin;have HOK:=Lib.hid hok1;have hnv:=val_ne (HNA.out _ (getD_mem (by have:=HR.out.len;omega:i<X.length)));have HNX:=Lib.hid (book_next (X:=X) (i:=i) (by have:=HR.out.len;omega));clear hok1;obtain⟨x,hx⟩:∃ x,x=X.getD i default:=⟨_,rfl⟩
   rw[<- hx] at c0 c1 c2 c3 HNX HOK hnv;have HNE:=Lib.hid hnv;clear hnv;clear hx;have hpc:(wr.alloc (.cells #[encStr x.code,.int .i64 x.life,.slice x.pa x.ps.length x.pc,.slice x.oa x.os.length x.oc] 87)).heap[wr.heap.size]? = _:=heap_alloc_new wr _;have hal:Below wr.heap.size wr (wr.alloc (.cells #[encStr x.code,.int .i64 x.life,.slice x.pa x.ps.length x.pc,.slice x.oa x.os.length x.oc] 87)):=(Below.refl _ wr).alloc (Nat.le_refl _) _;have hM2:=HM.out.below hal HM.out.lt;have hB2:=HB.out.trans (hal.mono (by have:=HM.out.lt;omega));obtain⟨q0,q1,q2,q3⟩:=four_at hpc;unfold encStr at c0 q0 q1 q2 q3 hM2 hB2;have HM2:=Lib.hid hM2;have HB2:=Lib.hid hB2;have hgw:=HM.out.lt;clear hpc hal hM2 hB2;go_wp2_with (at_mapUpdate;refine wpList_put_mf rfl _ _ _ 112 rfl Tryz.underlying112 HM2.out (by omega) x.code x.val rfl rfl rfl HOK.out.code HNE.out ?_;intro w2 hM3 hg2;have HM3:=Lib.hid hM3;have HB3:=Lib.hid (HB2.out.grown hg2 (by rw[World.size_alloc];omega) (fun k e=>by have:=Option.some.inj e;omega));clear hM3 hg2);go_roundw
   case rel=>exact⟨i+1,rfl,by omega,Lib.hid (by rw[HNX.out];exact HM3.out),HB3⟩
   case measure=>simp only[intOf];omega
  ·have t1:decide ((i:Int)<(n:Int))=false:=by simp;omega
   have ht:X.take i=X:=List.take_of_length_le (by have:=HR.out.len;omega);have hin2:i=n:=by omega
   have HM9:Hid (MF wr gb n zItem (bookF X)):=Lib.hid (by have h:=HM.out;rw[ht,hin2] at h;exact h);clear ht hin2;go_wp2_with (fail);go_ret;exact⟨⟨gb,rfl,HM9.out,HG.out ▸ Nat.le_refl _⟩,HG.out ▸ HB.out⟩
end
section
open Go.RowKit
theorem field_code (w:World) (a b p q:Value):(Instr.field 87 (.agg #[a,b,p,q]) 0).run Tryz.prog w=.ok a w:=by
 first
 | kernel_rfl
 | rfl
theorem field_parts (w:World) (a b p q:Value):(Instr.field 87 (.agg #[a,b,p,q]) 2).run Tryz.prog w=.ok p w:=by
 first
 | kernel_rfl
 | rfl
end
end Go.Proofs.YtgplnekpgdhcpaaGreat
