/- least.ends: its walk. least.ends' closure, as a loop over an iterator wants to be told of it. least.had: its walk. least.spans: its walk. -/
import Derived.Test.YtgplnekpgdhcpaaGreatQInt
import Derived.Test.YtgplnekpgdhcpaaGreatQFill
import Derived.Lib.OwnBridge
import Derived.Test.YtgplnekpgdhcpaaGreatQEnds
import Derived.Test.YtgplnekpgdhcpaaGreatJPure
import Derived.Test.YtgplnekpgdhcpaaGreatKRight
import Derived.Test.YtgplnekpgdhcpaaGreatQMeet
import Derived.ArgAppend
namespace Go.Proofs.YtgplnekpgdhcpaaGreat
open Go.RowKit Go.Sort
theorem flatEnds_if (lo hi:Int) (X:List Int) {L:List LotV} {j:Nat} (hj:j < L.length):(X ++ (L.take (j+1)).flatMap (endsOf lo hi))=(X ++ (L.take j).flatMap (endsOf lo hi)) ++ (if meetB (L.getD j default).fr (L.getD j default).un lo (hi+1)=true then [max (L.getD j default).fr lo,min (L.getD j default).un (hi+1)] else []):=by
 rw[flatEnds_succ lo hi hj,endsOf_eq,List.append_assoc]
set_option maxRecDepth 100000 in
set_option maxHeartbeats 2000000 in
/-- What least.ends leaves behind: all ends, not yet in order. -/
theorem endsF_any (B:Nat) (a:Option Addr) (n c:Nat) (L:List LotV) (lo hi:Int) (w:World) (hl:lotE.In B w a n c L) (hB:B<=w.heap.size) (hn:n<=100000000) (h0:0<=lo) (h1:lo<=hi) (h2:hi<=4000) :
  Calls Tryz.prog 138 #[.int .i64 lo,.int .i64 hi,.slice a n c] w fun e w'=>∃ g c',e = .returned (.func (.func 166) #[] #[.pointer (some ⟨w.heap.size+1,0,none⟩)]) /\
   (∃ D,D=Lib.compact ((([lo,hi+1] ++ L.flatMap (endsOf lo hi)).mergeSort fun x y=>decide (x<=y)))/\w'.cell? ⟨w.heap.size+1,0,none⟩=some (.slice (some ⟨g,0,none⟩) D.length c')/\(D.length<=c'/\c'<=9223372036854775807)/\(∀ i,i < D.length->w'.cell? ⟨g,i,none⟩=some (.int .i64 (D.getD i 0))))/\w.heap.size<=g/\g < w'.heap.size/\w.heap.size+1 < w'.heap.size/\Below w.heap.size w w':=by
 have hle:=hl.le
 have hmx:=hl.mx
 have Hln:=Lib.hid hl.len
 have HE:=Lib.hid (fun j (hj:j < n)=>flatEnds_if lo hi [lo,hi+1] (L:=L) (j:=j) (by have:=Hln.out;omega))
 have HM:=Lib.hid (fun f1 u1 W=>meet_any f1 u1 lo (hi+1) (winB_yes h0 (by omega) (by omega)) W)
 have f0:IntKind.i64.wrap (hi+1)=hi+1:=by rw[wrap_in (by omega) (by omega)]
 have HST:=Lib.hid (EI.start w lo (hi+1))
 have Hhl:=Lib.hid hl
 clear hl h0 h1 h2
 obtain⟨h1,hh1⟩:∃ h1,h1=hi+1:=⟨_,rfl⟩
 rw[<- hh1] at HE HM HST
 rw[<- hh1]
 have f1:IntKind.i64.wrap (hi+1)=h1:=f0.trans hh1.symm
 clear f0 hh1
 go_enter Tryz.func138,Tryz.ntmps138
 go_wp2_with (fail)
 go_loopw [18] (fun s18 wr=>∃ (j g m c':Nat),s18 = .int .i64 j/\j<=n/\Hid (EI w wr g m c' ([lo,h1] ++ (L.take j).flatMap (endsOf lo hi)))) (fun s18 _=>n - (intOf s18).toNat)
 case atStart=>exact⟨0,_,_,_,rfl,Nat.zero_le _,by simpa using HST⟩
 case round =>
  obtain⟨j,g,m,c',rfl,hj,I⟩:=hrel
  obtain⟨q0,q1,q2,q3,q4⟩:=I.out.cells
  have Hm:=Lib.hid q2
  by_cases hlt:j < n
  ·obtain⟨b,o,rfl,hbB,hcs⟩:=lotE_at Hhl.out (by omega)
   obtain⟨r0,r1,r2,r3,r4,r5⟩:=hcs j hlt
   have hbl:b < w.heap.size:=by omega
   have z0:=(I.out.below.cell (p:=⟨b,o+j * 6,none⟩) hbl).trans r0
   have z1:=(I.out.below.cell (p:=⟨b,o+j * 6+1,none⟩) hbl).trans r1
   have z2:=(I.out.below.cell (p:=⟨b,o+j * 6+2,none⟩) hbl).trans r2
   have z3:=(I.out.below.cell (p:=⟨b,o+j * 6+3,none⟩) hbl).trans r3
   have z4:=(I.out.below.cell (p:=⟨b,o+j * 6+4,none⟩) hbl).trans r4
   have z5:=(I.out.below.cell (p:=⟨b,o+j * 6+5,none⟩) hbl).trans r5
   have HEj:=Lib.hid (HE.out j hlt)
   clear r0 r1 r2 r3 r4 r5 hcs q2 HST
   unfold encStr at z1
   have HMj:=Lib.hid (HM.out (L.getD j default).fr (L.getD j default).un)
   have Hlen:=Lib.hid (flatEnds_len lo hi (L.take j))
   obtain⟨X,hX⟩:∃ X,X=[lo,h1] ++ (L.take j).flatMap (endsOf lo hi):=⟨_,rfl⟩
   have HXl:Hid (X.length<=2+2 * n):=Lib.hid (by have:=Hlen.out;rw[List.length_take] at this;rw[hX];simp only[List.length_append,List.length_cons,List.length_nil];omega)
   rw[<- hX] at HEj I Hm
   clear hX Hlen HM
   generalize (L.getD j default).id=xid at *
   generalize (L.getD j default).item=xitem at *
   generalize (L.getD j default).fr=xfr at *
   generalize (L.getD j default).un=xun at *
   generalize (L.getD j default).qty=xqty at *
   generalize (L.getD j default).arr=xarr at *
   have f2:IntKind.i64.wrap ((j:Int)+1)=((j+1:Nat):Int):=by rw[wrap_in (by omega) (by omega)];omega
   generalize meetB xfr xun lo h1=bm at *
   generalize max xfr lo=mx at *
   generalize min xun h1=mn at *
   cases bm with
   | false =>
    simp only[Bool.false_eq_true,if_false,List.append_nil] at HEj HMj
    go_wp2_with (go_at_call 163;refine (HMj.out _).mono ?_;rintro e w3 ⟨rfl,hb3⟩;have B3:=Lib.hid (((Below.refl _ wr).alloc (Nat.le_refl _) (.cells #[.int .i64 xid,.string ⟨xitem.toArray⟩,.int .i64 xfr,.int .i64 xun,.int .i64 xqty,.bool xarr] 50)).trans (hb3.mono (by simp))))
    go_roundw
    case rel=>exact⟨j+1,g,m,c',by go_num,by omega,Lib.hid (by rw[HEj.out];exact (I.out.keep B3.out).keep ((Below.refl _ w3).alloc (Nat.le_refl _) _))⟩
    case measure=>simp[intOf];omega
   | true =>
    simp only[if_true] at HEj HMj
    go_wp2_with (first | (go_at_call 163;refine (HMj.out _).mono ?_;rintro e w3 ⟨rfl,hb3⟩;have B3:=Lib.hid (((Below.refl _ wr).alloc (Nat.le_refl _) (.cells #[.int .i64 xid,.string ⟨xitem.toArray⟩,.int .i64 xfr,.int .i64 xun,.int .i64 xqty,.bool xarr] 50)).trans (hb3.mono (by simp)));have J5:=Lib.hid (((I.out.keep B3.out).keep ((Below.refl _ w3).alloc (Nat.le_refl _) (.cells #[.int .i64 mx,.int .i64 mn] 48))).keep ((Below.refl _ _).alloc (Nat.le_refl _) (.cells #[.int .i64 mx,.int .i64 mn] 3)));obtain⟨k0,-⟩:=((I.out.keep B3.out).keep ((Below.refl _ w3).alloc (Nat.le_refl _) (.cells #[.int .i64 mx,.int .i64 mn] 48))).cells;have L5:=Lib.hid (lit_cells intE (w3.alloc (.cells #[.int .i64 mx,.int .i64 mn] 48)) [mx,mn] #[.int .i64 mx,.int .i64 mn] 3 rfl);rw[World.size_alloc] at L5;clear hb3) | (at_builtin;refine wpList_appendY intE rfl _ _ rfl w.heap.size _ X [mx,mn] (m+2) 2 (by rw[Hm.out]) rfl rfl J5.out.own _ _ rfl L5.out (by decide) J5.out.below.size (by have:=HXl.out;simp only[List.length_cons,List.length_nil];omega) ?_;intro g6 c6 w6 hc6 ho6 hg6 hr6;obtain⟨y0,y1,y2⟩:=J5.out.grow hg6 ho6 hr6;have Y2:=Lib.hid y2;clear y2))
    go_roundw
    case rel=>exact⟨j+1,g6,m+2,c6,by go_num,by omega,Lib.hid (by rw[HEj.out];exact Y2.out)⟩
    case measure=>simp[intOf];omega
  ·obtain rfl:j=n:=by omega
   have I2:Hid (EI w wr g m c' ([lo,h1] ++ L.flatMap (endsOf lo hi))):=Lib.hid (by
    have:=I.out
    rwa [List.take_of_length_le (by have:=Hln.out;omega)] at this)
   have hXl:([lo,h1] ++ L.flatMap (endsOf lo hi)).length<=2+2 * j:=by
    have h3:=flatEnds_len lo hi L
    have:=Hln.out
    simp only[List.length_append,List.length_cons,List.length_nil]
    omega
   have hm2:=I2.out.cells.2.2.1
   clear I Hm q2 HE HM HST
   have hX0:[lo,h1] ++ L.flatMap (endsOf lo hi)=lo :: h1 :: L.flatMap (endsOf lo hi):=rfl
   have HX0:=Lib.hid hX0
   clear hX0
   generalize [lo,h1] ++ L.flatMap (endsOf lo hi)=X at *
   obtain⟨S,hS⟩:∃ S,S=X.mergeSort fun x y=>decide (x<=y):=⟨_,rfl⟩
   have hSl:S.length=m:=by rw[hS,List.length_mergeSort,hm2]
   have hrow:=intE_row I2.out.own
   obtain⟨g',cap',hv,-,hgl,-,-,-,hH⟩:=Go.Lib.holds_of_ownsRow hrow (by simp)
   injection hv with v1 v2 v3
   injection v1 with v1
   injection v1 with v1
   subst v1
   have hXS:=Tryz.slices_Sort_int g 0 c' X wr hH hgl (by omega)
   rw[<- hS,<- hm2] at hXS
   have HXS:=Lib.hid hXS
   obtain⟨D,hD⟩:∃ D,D=Lib.compact S:=⟨_,rfl⟩
   have hDl:D.length<=m:=by rw[hD,<- hSl];exact compact_length_leI S
   have HC:=Lib.hid (fun (W:World) (hW:EI w W g m c' S)=>by
    have:=Tryz.slices_Compact_int_cells g 0 m c' S W (by omega) (by omega) (by omega) hW.at_.1 hW.at_.2
    rw[List.take_of_length_le (by omega),<- hD] at this
    exact this)
   have HD:Hid (D=Lib.compact ((lo :: h1 :: L.flatMap (endsOf lo hi)).mergeSort fun x y=>decide (x<=y))):=Lib.hid (by rw[hD,hS,HX0.out])
   have HSA:=Lib.hid hSl
   clear hXS hH hrow hS hD v2 v3 hSl hgl hm2
   go_wp2_with (first | (go_at_call 164;refine HXS.out.mono ?_;rintro e w5 ⟨rfl,nn,os,hw5⟩;have S5:=Lib.hid (I2.out.sorted (d:=S.toArray) ⟨nn,os,hw5⟩ (by have:=HSA.out;simp;omega));clear hw5;obtain⟨u0,u1,-,-,-⟩:=S5.out.cells) | (go_at_call 165;refine (HC.out _ S5.out).mono ?_;rintro e w6 ⟨rfl,q,hw6⟩;obtain⟨x0,x1,x2⟩:=S5.out.compacted q hDl hw6 (.slice (some ⟨g,0,none⟩) D.length c');clear hw6;have X2:=Lib.hid x2;clear x2))
   go_ret
   obtain⟨x2,x3,x4,x5,x6,x7⟩:=X2.out
   exact⟨g,c',rfl,⟨D,HD.out,x3,⟨by omega,by omega⟩,x2⟩,x5,x6,x7,x4⟩
end Go.Proofs.YtgplnekpgdhcpaaGreat
namespace Go.Proofs.YtgplnekpgdhcpaaGreat
open Go.RowKit Go.Sort
theorem ends_seq (n M:Nat) (hn:1<=n) (Bs b c:Nat) (L:List Int) (P:Int×Int->Prop) (hP:∀ x∈pairsI L,P x) (S:Nat->Prop) (hSb:S b) (hSB:S Bs) (hL:1<=L.length/\L.length<=1000000) (hc:L.length<=c/\c<=9223372036854775807) (w:World) (hb:b < w.heap.size) (hBl:Bs < w.heap.size)
  (hBs:w.cell? ⟨Bs,0,none⟩=some (.slice (some ⟨b,0,none⟩) L.length c)) (hcell:∀ i,i < L.length->w.cell? ⟨b,i,none⟩=some (.int .i64 (L.getD i 0))) (Kp:World->World->Prop) (hKp:∀ A B,Kp A B->KpE S A B) :
  SeqO Fence.wide n Tryz.prog 166 #[.pointer (some ⟨Bs,0,none⟩)] (fun x:ElE P=>#[.int .i64 x.1.1,.int .i64 x.1.2]) Kp (fun xs=>xs.map (·.1)=pairsI L) (fun pre=>pre.map (·.1) <+: pairsI L) (pairsI L).length M w:=by
 intro l J Jx W hW hJ hJx hY h0
 have h:=ends1_in n hn l Bs b c L P hP S hSb hSB hL hc J Jx (fun pre V q hj=>hJ pre V (V.drewN q) none hj ⟨rfl,rfl,rfl,Nat.le_refl _,fun _ _ _=>rfl⟩ (fun r e=>by cases e))
  (fun pre x V hj hlen=>(hY pre x V hj hlen).mono (fun e V' hh=>by
   rcases hh with ⟨h1,h2,h3⟩ | h1
   ·exact .inl ⟨h1,h2,hKp _ _ h3⟩
   ·exact .inr ⟨h1.1,h1.2.1⟩)) W ((hW.cell (p:=⟨Bs,0,none⟩) hBl).trans hBs) (fun i hi=>(hW.cell (p:=⟨b,i,none⟩) hb).trans (hcell i hi)) h0
 refine CallsIn.mono (by simpa using h) ?_
 rintro e V ⟨h1,⟨ys,h2,h3⟩ | ⟨pre,h2,h3⟩⟩
 ·exact⟨h1,.inl ⟨ys,h2,h3⟩⟩
 ·exact⟨h1,.inr ⟨pre,h2,h3⟩⟩
end Go.Proofs.YtgplnekpgdhcpaaGreat
namespace Go.Proofs.YtgplnekpgdhcpaaGreat
open Go.RowKit Go.Sort
theorem clipWant_any (a:Option Addr) (n c:Nat) (w:World) (hnc:n<=c) (_hmx:c<=9223372036854775807):Calls Tryz.prog 167 #[.slice a n c] w fun e w'=>e = .returned (.slice a n n)/\w'=w:=by
 go_enter Tryz.func167,Tryz.ntmps167
 go_wp2_with (fail)
 go_ret
 exact⟨rfl,rfl⟩
def Cl {α:Type} [Inhabited α] (E:El α) (B base:Nat) (w:World) (v:Value) (X:List α):Prop:=E.Own base w v X∨∃ a,v = .slice a X.length X.length/\E.In B w a X.length X.length X
theorem Cl.below {α:Type} [Inhabited α] {E:El α} {B base:Nat} {w w':World} {v:Value} {X:List α} (h:Cl E B base w v X) (hB:B<=w.heap.size) (hb:Below w.heap.size w w'):Cl E B base w' v X:=by
 rcases h with h | ⟨a,e,h⟩
 ·exact .inl (h.below hb)
 ·exact .inr ⟨a,e,h.below (hb.mono hB)⟩
theorem Cl.in_ {α:Type} [Inhabited α] {E:El α} {B base:Nat} {w:World} {v:Value} {X:List α} (h:Cl E B base w v X) (hB:B<=w.heap.size) (hf:∀ x∈X,E.ok x):∃ a c,v = .slice a X.length c/\E.In w.heap.size w a X.length c X:=by
 rcases h with h | ⟨a,e,h⟩
 ·exact h.in_ hf
 ·exact⟨a,_,e,h.mono hB⟩
theorem Cl.run_append {α:Type} [Inhabited α] {E:El α} {B base:Nat} {w:World} {v:Value} {X Y:List α} (h:Cl E B base w v X) (ty:TypeId) (ad:Addr) (c:Nat) (hsrc:∀ j u,(E.cells Y)[j]? = some u->w.cell? (ad.add j)=some u) (hY:0 < Y.length) (hbase:base<=w.heap.size) (hl:X.length+Y.length<=1000000000) :
  ∃ v' w',(Builtin.append_ #[E.t,E.t] ty #[v,.slice (some ad) Y.length c]).run Tryz.prog w = .ok v' w'/\E.Own base w' v' (X ++ Y)/\Below base w w':=by
 rcases h with h | ⟨a,e,h⟩
 ·obtain⟨g,cap,w',hr,h1,h2,h3,h4⟩:=El.run_append h ty (some ad) c ⟨ad,rfl,hsrc⟩ hY hbase hl
  exact⟨_,w',hr,by simpa using h1,(Below.refl _ w).grown h3 hbase (fun k e=>(h.ge k e).1)⟩
 ·subst e
  by_cases hn:a=none/\X.length=0
  ·obtain⟨rfl,h0⟩:=hn
   obtain rfl:X=[]:=List.eq_nil_of_length_eq_zero h0
   obtain⟨g,cap,w',hr,h1,h2,h3,h4⟩:=El.run_append (El.Own.nil E base w) ty (some ad) c ⟨ad,rfl,hsrc⟩ hY hbase hl
   exact⟨_,w',hr,by simpa using h1,(Below.refl _ w).grown h3 hbase (fun k e=>by cases e)⟩
  ·obtain⟨i0,hi,hz0,hz1,hz2⟩:=E.info'
   have hsm:=E.small
   obtain⟨b,rfl,hb⟩:∃ b,a=some b/\∀ j u,(E.cells X)[j]? = some u->w.cell? (b.add j)=some u:=by
    by_cases h0:0 < X.length
    ·exact h.src h0
    ·have h0':X.length=0:=by omega
     obtain rfl:X=[]:=List.eq_nil_of_length_eq_zero h0'
     cases a with
     | none=>exact absurd ⟨rfl,rfl⟩ hn
     | some b=>exact⟨b,rfl,fun j u hu=>by simp[El.cells] at hu⟩
   obtain⟨v',w',hr,h1,h2⟩:=run_append_arg_grows (P:=Tryz.prog) (w:=w) E.t ty E.e i0 E.z E.k E.bytes E.under hi hz0 hz1 hz2 E.zc E.kpos b X.length X.length (E.cells X) (E.cells_len X) hb ad Y.length c (E.cells Y) (E.cells_len Y) hsrc (by omega) (by unfold maxLen;omega)
    (calc (X.length+Y.length) * E.bytes<=1000000000 * 100:=Nat.mul_le_mul hl hsm
     _<=140737488355328:=by decide)
   refine⟨v',w',hr,?_,(Below.refl _ w).grown h2 hbase (fun k e=>by cases e)⟩
   have:E.Own w.heap.size w' v' (X ++ Y):=by
    unfold El.Own
    rw[List.length_append,E.cells_append]
    exact h1
   exact this.mono hbase
theorem wpList_appendCl {α:Type} [Inhabited α] {w:World} {ops:Array Oper} {rest:List Oper} {o:Oper} {a:Act} {K:Exit->Act->World->Prop} (E:El α) (hgd:o.guard=none) (s x:Operand)
  (ho:o.op = .call { callee:=.builtin .append,args:=#[s,x],argTypes:=#[E.t,E.t] }) (B base:Nat) (v:Value) (X Y:List α) (k:Nat) (hY:k=Y.length) (hs:a.eval s=v) (h:Cl E B base w v X) (ad:Addr) (c:Nat)
  (hx:a.eval x = .slice (some ad) k c) (hsrc:∀ j u,(E.cells Y)[j]? = some u->w.cell? (ad.add j)=some u) (hY0:0 < k) (hbase:base<=w.heap.size) (hl:X.length+Y.length<=1000000000)
  (hK:∀ v' w',E.Own base w' v' (X ++ Y)->Below base w w'->wpList Tryz.prog ops K rest (a.put o.dst v') w'):wpList Tryz.prog ops K (o :: rest) a w:=by
 subst hY
 obtain⟨v',w',hr,h1,h3⟩:=Cl.run_append h o.type ad c hsrc hY0 hbase hl
 refine wpList_plain hgd fun K' hK'=>?_
 unfold Oper.wp execOp
 simp only[ho,resolve,invoke,builtin,Sem.run_bind,Sem.run_pure,Result.andThen_ok,List.map_toArray,List.map_cons,List.map_nil,hs,hx,hr]
 exact hK' _ _ (hK v' w' h1 h3)
theorem ptE_at {B:Nat} {w:World} {a:Option Addr} {n c:Nat} {X:List Pt} (h:ptE.In B w a n c X) (hc:0 < c):∃ b o,a=some ⟨b,o,none⟩/\b < B/\∀ i,i < n->w.cell? ⟨b,o+i * 2,none⟩=some (.string ⟨(X.getD i default).1.toArray⟩)/\w.cell? ⟨b,o+i * 2+1,none⟩=some (.int .i64 (X.getD i default).2):=by
 obtain⟨b,o,e,hb,hcell⟩:=h.at_ hc
 exact⟨b,o,e,hb,fun i hi=>⟨hcell i hi 0 (by decide),hcell i hi 1 (by decide)⟩⟩
theorem moreW_succ (d:Int) {P:List Pt} {j:Nat} (hj:j < P.length):moreW d (P.take (j+1))=moreW d (P.take j) ++ [⟨(P.getD j default).1,d,(P.getD j default).2⟩]:=by
 unfold moreW
 rw[List.take_succ_eq_append_getElem hj,List.map_append,List.getD_eq_getElem?_getD,List.getElem?_eq_getElem hj]
 rfl
theorem moreW_len (d:Int) (P:List Pt):(moreW d P).length=P.length:=by unfold moreW;simp
set_option maxRecDepth 100000 in
set_option maxHeartbeats 2000000 in
theorem had_any (B:Nat) (a a2 a3:Option Addr) (n c n2 c2 n3 c3:Nat) (L:List LotV) (W:List WantV) (P:List Pt) (d:Int) (w:World) (hl:lotE.In B w a n c L) (hw:wantE.In B w a2 n2 c2 W) (hp:ptE.In B w a3 n3 c3 P) (hB:B<=w.heap.size) (hn:n<=100000000) (hn2:n2<=100000000) (hn3:n3<=100000000) (hd:0<=d/\d<=4001) :
  Calls Tryz.prog 139 #[.slice a n c,.slice a2 n2 c2,.slice a3 n3 c3,.int .i64 d] w fun e w'=>e = .returned (.bool (hadB L W P d))/\Below w.heap.size w w':=by
 have hle:=hp.le
 have hmx:=hp.mx
 have Hl:=Lib.hid hl
 have Hp:=Lib.hid hp
 have Hwl:=Lib.hid hw.len
 have Hpl:=Lib.hid hp.len
 have Hwf:=Lib.hid hw.fine
 have hw1:wantE.In B w a2 n2 n2 W:=⟨hw.len,Nat.le_refl _,Nat.le_trans hw.le hw.mx,hw.fine,fun h=>hw.at_ (Nat.lt_of_lt_of_le h hw.le)⟩
 have HC:=Lib.hid (clipWant_any a2 n2 c2 w hw.le hw.mx)
 have H0:Hid (Cl wantE B w.heap.size w (.slice a2 n2 n2) W):=Lib.hid (.inr ⟨a2,by rw[<- hw.len],by rw[<- hw.len];exact hw1⟩)
 have HF:=Lib.hid (fun j (hj:j < n3)=>moreW_succ d (P:=P) (j:=j) (by have:=Hpl.out;omega))
 unfold hadB
 clear hl hw hp hw1
 go_enter Tryz.func139,Tryz.ntmps139
 go_wp2_with (go_at_call 167;refine HC.out.mono ?_;rintro e w1 ⟨rfl,hw1⟩;replace hw1:=hw1.symm;subst hw1)
 go_loopw [9,16] (fun s9 s16 wr=>∃ (j:Nat),s16 = .int .i64 j/\j<=n3/\Hid (Cl wantE B w.heap.size wr s9 (W ++ moreW d (P.take j)))/\Hid (Below w.heap.size w wr)) (fun _ s16 _=>n3 - (intOf s16).toNat)
 case atStart=>exact⟨0,rfl,Nat.zero_le _,by simpa [moreW] using H0,Lib.hid (Below.refl _ _)⟩
 case round =>
  obtain⟨j,rfl,hj,C,Bl⟩:=hrel
  by_cases hlt:j < n3
  ·obtain⟨b,o,rfl,hbB,hcs⟩:=ptE_at Hp.out (by omega)
   obtain⟨r0,r1⟩:=hcs j hlt
   have hbl:b < w.heap.size:=by omega
   have z0:=(Bl.out.cell (p:=⟨b,o+j * 2,none⟩) hbl).trans r0
   have z1:=(Bl.out.cell (p:=⟨b,o+j * 2+1,none⟩) hbl).trans r1
   have HFj:=Lib.hid (HF.out j hlt)
   have HXl:Hid ((W ++ moreW d (P.take j)).length<=200000000):=Lib.hid (by
    have:=Hwl.out
    rw[List.length_append,moreW_len,List.length_take]
    omega)
   clear r0 r1 hcs HF
   generalize (P.getD j default).1=xc at *
   generalize (P.getD j default).2=xn at *
   have f2:IntKind.i64.wrap ((j:Int)+1)=((j+1:Nat):Int):=by rw[wrap_in (by omega) (by omega)];omega
   have bA:Below wr.heap.size wr ((wr.alloc (.cells #[.string ⟨xc.toArray⟩,.int .i64 xn] 74)).alloc (.cells #[.string ⟨xc.toArray⟩,.int .i64 d,.int .i64 xn] 71)):=((Below.refl _ wr).alloc (Nat.le_refl _) _).alloc (by simp) _
   have CA:=Lib.hid (C.out.below (by have:=Bl.out.size;omega) bA)
   have BA:=Lib.hid (Bl.out.trans (bA.mono Bl.out.size))
   have LA:=Lib.hid (lit_cells wantE (wr.alloc (.cells #[.string ⟨xc.toArray⟩,.int .i64 xn] 74)) [⟨xc,d,xn⟩] #[.string ⟨xc.toArray⟩,.int .i64 d,.int .i64 xn] 71 rfl)
   rw[World.size_alloc] at LA
   clear bA C
   go_wp2_with (at_builtin;refine wpList_appendCl wantE rfl _ _ rfl B w.heap.size _ _ [⟨xc,d,xn⟩] 1 rfl rfl CA.out _ _ rfl LA.out (by decide) BA.out.size (by have:=HXl.out;simp only[List.length_cons,List.length_nil];omega) ?_;intro v6 w6 ho6 hb6;have O6:=Lib.hid ho6;have B6:=Lib.hid (BA.out.trans hb6);clear ho6 hb6)
   go_roundw
   case rel=>exact⟨j+1,by go_num,by omega,Lib.hid (by rw[HFj.out,<- List.append_assoc];exact .inl O6.out),B6⟩
   case measure=>simp[intOf];omega
  ·obtain rfl:j=n3:=by omega
   have C2:=C.out
   rw[List.take_of_length_le (by have:=Hpl.out;omega)] at C2
   obtain⟨a',c',hv,hin⟩:=C2.in_ (by have:=Bl.out.size;omega) (fun x hx=>by
    rcases List.mem_append.1 hx with hx | hx
    ·exact Hwf.out x hx
    ·unfold moreW at hx
     obtain⟨p,hp,rfl⟩:=List.mem_map.1 hx
     obtain⟨k1,k2,k3⟩:=Hp.out.fine p hp
     exact⟨k1,⟨by show _<=d;omega,by show d<=_;omega⟩,k2,k3⟩)
   clear C2 C
   subst hv
   have HFit:=Lib.hid (fits_any wr.heap.size a a' n c _ c' L (W ++ moreW d P) wr (((Hl.out.below (Bl.out.mono hB)).mono (by have:=Bl.out.size;omega))) hin (Nat.le_refl _) hn)
   clear hin HF
   generalize (W ++ moreW d P).length=m2 at HFit ⊢
   obtain⟨Z,hZ⟩:∃ Z,Z=W ++ moreW d P:=⟨_,rfl⟩
   rw[<- hZ] at HFit
   have HZ:=Lib.hid hZ
   clear hZ
   go_wp2_with (go_at_call 22;refine HFit.out.mono ?_;rintro e w7 ⟨rfl,hb7⟩;have B7:=Lib.hid (Bl.out.trans (hb7.mono Bl.out.size));clear hb7)
   go_ret
   exact⟨by rw[HZ.out];rfl,B7.out⟩
end Go.Proofs.YtgplnekpgdhcpaaGreat
namespace Go.Proofs.YtgplnekpgdhcpaaGreat
open Go.RowKit Go.Sort
structure SpB (w:World) (s:Nat) (la wa pa:Option Addr) (n c n2 c2 n3 c3:Nat) (lo hi:Int):Prop where
 lots:w.heap[s]? = some (.cells #[.slice la n c] 23)
 wants:w.heap[s+1]? = some (.cells #[.slice wa n2 c2] 35)
 more:w.heap[s+2]? = some (.cells #[.slice pa n3 c3] 64)
 fr:w.heap[s+3]? = some (.cells #[.int .i64 lo] 3)
 un:w.heap[s+4]? = some (.cells #[.int .i64 hi] 3)
theorem SpB.cells {w:World} {s:Nat} {la wa pa:Option Addr} {n c n2 c2 n3 c3:Nat} {lo hi:Int} (h:SpB w s la wa pa n c n2 c2 n3 c3 lo hi):w.cell? ⟨s,0,none⟩=some (.slice la n c)/\w.cell? ⟨s+1,0,none⟩=some (.slice wa n2 c2)/\w.cell? ⟨s+2,0,none⟩=some (.slice pa n3 c3)/\w.cell? ⟨s+3,0,none⟩=some (.int .i64 lo)/\w.cell? ⟨s+4,0,none⟩=some (.int .i64 hi):=by
 obtain⟨h0,h1,h2,h3,h4⟩:=h
 refine⟨?_,?_,?_,?_,?_⟩ <;> unfold World.cell?
 ·rw[h0];rfl
 ·rw[h1];rfl
 ·rw[h2];rfl
 ·rw[h3];rfl
 ·rw[h4];rfl
theorem five_allocs (w:World) (a b c d e:Obj):((((w.alloc a).alloc b).alloc c).alloc d).alloc e=((((w.alloc a).alloc b).alloc c).alloc d).alloc e /\
  (((((w.alloc a).alloc b).alloc c).alloc d).alloc e).heap[w.heap.size]? = some a/\(((((w.alloc a).alloc b).alloc c).alloc d).alloc e).heap[w.heap.size+1]? = some b/\(((((w.alloc a).alloc b).alloc c).alloc d).alloc e).heap[w.heap.size+2]? = some c/\(((((w.alloc a).alloc b).alloc c).alloc d).alloc e).heap[w.heap.size+3]? = some d/\(((((w.alloc a).alloc b).alloc c).alloc d).alloc e).heap[w.heap.size+4]? = some e /\
  Below w.heap.size w (((((w.alloc a).alloc b).alloc c).alloc d).alloc e)/\(((((w.alloc a).alloc b).alloc c).alloc d).alloc e).heap.size=w.heap.size+5:=by
 obtain⟨A,hA⟩:∃ A,A=w.alloc a:=⟨_,rfl⟩
 obtain⟨B,hB⟩:∃ B,B=A.alloc b:=⟨_,rfl⟩
 obtain⟨C,hC⟩:∃ C,C=B.alloc c:=⟨_,rfl⟩
 obtain⟨D,hD⟩:∃ D,D=C.alloc d:=⟨_,rfl⟩
 obtain⟨E,hE⟩:∃ E,E=D.alloc e:=⟨_,rfl⟩
 have sA:A.heap.size=w.heap.size+1:=by rw[hA,World.size_alloc]
 have sB:B.heap.size=w.heap.size+2:=by rw[hB,World.size_alloc,sA]
 have sC:C.heap.size=w.heap.size+3:=by rw[hC,World.size_alloc,sB]
 have sD:D.heap.size=w.heap.size+4:=by rw[hD,World.size_alloc,sC]
 have sE:E.heap.size=w.heap.size+5:=by rw[hE,World.size_alloc,sD]
 have bA:Below w.heap.size w A:=by rw[hA];exact (Below.refl _ w).alloc (Nat.le_refl _) _
 have bB:Below A.heap.size A B:=by rw[hB];exact (Below.refl _ A).alloc (Nat.le_refl _) _
 have bC:Below B.heap.size B C:=by rw[hC];exact (Below.refl _ B).alloc (Nat.le_refl _) _
 have bD:Below C.heap.size C D:=by rw[hD];exact (Below.refl _ C).alloc (Nat.le_refl _) _
 have bE:Below D.heap.size D E:=by rw[hE];exact (Below.refl _ D).alloc (Nat.le_refl _) _
 have eA:A.heap[w.heap.size]? = some a:=by rw[hA];exact heap_alloc_new w a
 have eB:B.heap[w.heap.size+1]? = some b:=by rw[hB,<- sA];exact heap_alloc_new A b
 have eC:C.heap[w.heap.size+2]? = some c:=by rw[hC,<- sB];exact heap_alloc_new B c
 have eD:D.heap[w.heap.size+3]? = some d:=by rw[hD,<- sC];exact heap_alloc_new C d
 have eE:E.heap[w.heap.size+4]? = some e:=by rw[hE,<- sD];exact heap_alloc_new D e
 rw[<- hA,<- hB,<- hC,<- hD,<- hE]
 refine⟨rfl,?_,?_,?_,?_,eE,?_,sE⟩
 ·rw[bE.block _ (by omega),bD.block _ (by omega),bC.block _ (by omega),bB.block _ (by omega)];exact eA
 ·rw[bE.block _ (by omega),bD.block _ (by omega),bC.block _ (by omega)];exact eB
 ·rw[bE.block _ (by omega),bD.block _ (by omega)];exact eC
 ·rw[bE.block _ (by omega)];exact eD
 ·exact bA.trans ((bB.mono (by omega)).trans ((bC.mono (by omega)).trans ((bD.mono (by omega)).trans (bE.mono (by omega)))))
theorem spans_any (la wa pa:Option Addr) (n c n2 c2 n3 c3:Nat) (lo hi:Int) (w:World) :
  Calls Tryz.prog 101 #[.slice la n c,.slice wa n2 c2,.slice pa n3 c3,.int .i64 lo,.int .i64 hi] w fun e w'=>e = .returned (.func (.func 137) #[] #[.pointer (some ⟨w.heap.size+3,0,none⟩),.pointer (some ⟨w.heap.size+4,0,none⟩),.pointer (some ⟨w.heap.size,0,none⟩),.pointer (some ⟨w.heap.size+1,0,none⟩),.pointer (some ⟨w.heap.size+2,0,none⟩)]) /\
   SpB w' w.heap.size la wa pa n c n2 c2 n3 c3 lo hi/\Below w.heap.size w w'/\w'.heap.size=w.heap.size+5:=by
 have HA:=Lib.hid (five_allocs w (.cells #[.slice la n c] 23) (.cells #[.slice wa n2 c2] 35) (.cells #[.slice pa n3 c3] 64) (.cells #[.int .i64 lo] 3) (.cells #[.int .i64 hi] 3)).2
 go_enter Tryz.func101,Tryz.ntmps101
 go_wp2_with (fail)
 go_ret
 obtain⟨h0,h1,h2,h3,h4,h5,h6⟩:=HA.out
 exact⟨rfl,⟨h0,h1,h2,h3,h4⟩,h5,h6⟩
end Go.Proofs.YtgplnekpgdhcpaaGreat
