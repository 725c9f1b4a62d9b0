/- slices.Clone at lots, at lines: walks. (Printed by gen/clones.py.) lot.Sort: its walk. Lists of api.Want as they stand in memory; storemankit's equality of them: its walk. (Printed by gen/kinds.py.) flow.days: its walk. What is taken of lots, and what is left: plain Lean. -/
import Derived.Test.YtgplnekpgdhcpaaGreatQFill
import Derived.Test.YtgplnekpgdhcpaaGreatQLine
import Derived.Lib.SliceRun
import Derived.Lib.Walk
import Derived.Test.YtgplnekpgdhcpaaGreatQStN
import Derived.Test.YtgplnekpgdhcpaaGreatQBridge
import Derived.Test.YtgplnekpgdhcpaaGreatQEnds
import Derived.Laws.StructEq
import Derived.Laws.OwnMore
namespace Go.Proofs.YtgplnekpgdhcpaaGreat
open Go.RowKit
set_option maxHeartbeats 1000000 in
set_option maxRecDepth 100000 in
theorem cloneLot_any (B:Nat) (a:Option Addr) (n c:Nat) (X:List LotV) (w:World) (h:lotE.In B w a n c X) (hB:B<=w.heap.size) (hn:n<=100000000) :
  Calls Tryz.prog 120 #[.slice a n c] w fun e w'=>(∃ a' c',e = .returned (.slice a' n c')/\(a'.isNone=a.isNone)/\lotE.Own w.heap.size w' (.slice a' n c') X)/\Below w.heap.size w w':=by
 have hln:=h.len
 have Hln:=Lib.hid hln
 have H:=Lib.hid h
 have hq:=fun (w:World) (a:Option Addr) (n c n' c':Nat)=>Lib.run_eql_slice_nil (P:=Tryz.prog) w 23 50 a n c n' c' Tryz.underlying23
 cases a with
 | none =>
  have hc0:c=0:=by
   rcases Nat.eq_zero_or_pos c with h0 | h0
   ·exact h0
   ·obtain⟨b,o,e,-⟩:=h.at_ h0;cases e
  have hn0:n=0:=by have:=h.le;omega
  have hX:X=[]:=List.eq_nil_of_length_eq_zero (by omega)
  subst hc0
  subst hn0
  have HX:=Lib.hid hX
  clear h hln hX
  go_enter Tryz.func120,Tryz.ntmps120
  go_wp2
  go_ret
  refine⟨⟨none,0,rfl,rfl,?_⟩,Below.refl _ _⟩
  rw[HX.out]
  exact El.Own.nil _ _ _
 | some ad =>
  clear h hln
  have hb0:=Lib.hid ((Below.refl w.heap.size w).alloc (Nat.le_refl _) (.cells #[] 50))
  have ho0:Hid (lotE.Own w.heap.size (w.alloc (.cells #[] 50)) (.slice (some ⟨w.heap.size,0,none⟩) 0 0) []):=Lib.hid (World.ownsRow_lit (e:=50) (size:=lotE.k) w #[] 0 (Nat.le_refl _) (Nat.zero_le _) (by simp))
  go_enter Tryz.func120,Tryz.ntmps120
  go_wp2_with (at_builtin;refine El.wpList_append2 lotE rfl _ _ rfl w.heap.size w.heap.size 0 0 [] X rfl ho0.out _ n _ rfl Hln.out (H.out.below (hb0.out.mono hB)).src hb0.out.size (by have:=Hln.out;simp;omega) ?_;intro g2 c2 w2 hc2 hown2 hg2)
  rw[List.nil_append,Nat.zero_add] at hown2
  have B2:Hid (Below w.heap.size w w2):=Lib.hid (hb0.out.grown hg2 hb0.out.size (fun r e=>by cases e;exact Nat.le_refl _))
  have O2:=Lib.hid hown2
  clear hown2 hg2
  go_wp2
  go_ret
  exact⟨⟨some ⟨g2,0,none⟩,c2,by first | rfl | simp,rfl,O2.out⟩,B2.out⟩
set_option maxHeartbeats 1000000 in
set_option maxRecDepth 100000 in
theorem cloneLine_any (B:Nat) (a:Option Addr) (n c:Nat) (X:List LineV) (w:World) (h:lineE.In B w a n c X) (hB:B<=w.heap.size) (hn:n<=100000000) :
  Calls Tryz.prog 36 #[.slice a n c] w fun e w'=>(∃ a' c',e = .returned (.slice a' n c')/\(a'.isNone=a.isNone)/\lineE.Own w.heap.size w' (.slice a' n c') X)/\Below w.heap.size w w':=by
 have hln:=h.len
 have Hln:=Lib.hid hln
 have H:=Lib.hid h
 have hq:=fun (w:World) (a:Option Addr) (n c n' c':Nat)=>Lib.run_eql_slice_nil (P:=Tryz.prog) w 24 29 a n c n' c' Tryz.underlying24
 cases a with
 | none =>
  have hc0:c=0:=by
   rcases Nat.eq_zero_or_pos c with h0 | h0
   ·exact h0
   ·obtain⟨b,o,e,-⟩:=h.at_ h0;cases e
  have hn0:n=0:=by have:=h.le;omega
  have hX:X=[]:=List.eq_nil_of_length_eq_zero (by omega)
  subst hc0
  subst hn0
  have HX:=Lib.hid hX
  clear h hln hX
  go_enter Tryz.func36,Tryz.ntmps36
  go_wp2
  go_ret
  refine⟨⟨none,0,rfl,rfl,?_⟩,Below.refl _ _⟩
  rw[HX.out]
  exact El.Own.nil _ _ _
 | some ad =>
  clear h hln
  have hb0:=Lib.hid ((Below.refl w.heap.size w).alloc (Nat.le_refl _) (.cells #[] 29))
  have ho0:Hid (lineE.Own w.heap.size (w.alloc (.cells #[] 29)) (.slice (some ⟨w.heap.size,0,none⟩) 0 0) []):=Lib.hid (World.ownsRow_lit (e:=29) (size:=lineE.k) w #[] 0 (Nat.le_refl _) (Nat.zero_le _) (by simp))
  go_enter Tryz.func36,Tryz.ntmps36
  go_wp2_with (at_builtin;refine El.wpList_append2 lineE rfl _ _ rfl w.heap.size w.heap.size 0 0 [] X rfl ho0.out _ n _ rfl Hln.out (H.out.below (hb0.out.mono hB)).src hb0.out.size (by have:=Hln.out;simp;omega) ?_;intro g2 c2 w2 hc2 hown2 hg2)
  rw[List.nil_append,Nat.zero_add] at hown2
  have B2:Hid (Below w.heap.size w w2):=Lib.hid (hb0.out.grown hg2 hb0.out.size (fun r e=>by cases e;exact Nat.le_refl _))
  have O2:=Lib.hid hown2
  clear hown2 hg2
  go_wp2
  go_ret
  exact⟨⟨some ⟨g2,0,none⟩,c2,by first | rfl | simp,rfl,O2.out⟩,B2.out⟩
end Go.Proofs.YtgplnekpgdhcpaaGreat
namespace Go.Proofs.YtgplnekpgdhcpaaGreat
open Go.RowKit Go.Sort Go.Lib Go.Shelf
theorem permIn_list {α:Type} [Inhabited α] {d d':Array α} (h:PermIn 0 d.size d d'):d'.toList.Perm d.toList:=by
 have:=h.2.2
 rw[show d.extract 0 d.size=d by simp,<- h.1,show d'.extract 0 d'.size=d' by simp] at this
 exact this
theorem sortedIn_list {α:Type} [Inhabited α] {T:α->α->Bool} {d:Array α} {n:Nat} (hn:d.size=n) (h:SortedIn T 0 n d):d.toList.Pairwise fun x y=>T y x=false:=by
 rw[List.pairwise_iff_getElem]
 intro i j hi hj hij
 rw[Array.length_toList] at hi hj
 have:=h i j (Nat.zero_le _) hij (by omega)
 rw[getElem!_pos d j hj,getElem!_pos d i hi] at this
 simpa using this
set_option maxRecDepth 100000 in
/-- slices.SortStableFunc of nothing. -/
theorem sortStableL_none (p:Option Addr) (cap:Nat) (fv:Value) (w:World):Calls Tryz.prog 121 #[.slice p 0 cap,fv] w fun e w'=>e = .returned (.tuple #[])/\w'=w:=by
 have HI:=Lib.hid (AnyF.insertionSortCmpFunc_none Tryz.insL p cap fv w)
 have HS:Hid (Calls Tryz.prog 156 #[.slice p 0 cap,.int .i64 0,fv] w fun e w'=>e = .returned (.tuple #[])/\w'=w):=by
  refine Lib.hid ?_
  go_enter Tryz.func156,Tryz.ntmps156
  go_wp2_with (fail)
  go_loopw [7,8] (fun s7 s8 wr=>s7 = .int .i64 0/\s8 = .int .i64 20/\w=wr) (fun _ _ _=>0)
  case atStart=>exact⟨rfl,rfl,rfl⟩
  case round =>
   obtain⟨rfl,rfl,rfl⟩:=hrel
   go_wp2_with (go_at_call 177;refine HI.out.mono ?_;rintro e w9 ⟨rfl,rfl⟩)
   go_loopw [6] (fun s6 wr=>s6 = .int .i64 20/\w9=wr) (fun _ _=>0)
   case atStart=>exact⟨rfl,rfl⟩
   case round =>
    obtain⟨rfl,rfl⟩:=hrel
    go_wp2_with (fail)
    go_end0
    exact⟨rfl,rfl⟩
 go_enter Tryz.func121,Tryz.ntmps121
 go_wp2_with (go_at_call 156;refine HS.out.mono ?_;rintro e w9 ⟨rfl,rfl⟩)
 go_end0
 exact⟨rfl,rfl⟩
set_option maxRecDepth 100000 in
theorem sortLots (base g n c:Nat) (X:List LotV) (w:World) (h:lotE.Own base w (.slice (some ⟨g,0,none⟩) n c) X) (hn:n<=100000000) :
  Calls Tryz.prog 121 #[.slice (some ⟨g,0,none⟩) n c,.func (.func 122) #[] #[]] w fun e w'=>e = .returned (.tuple #[])/\∃ Y:List LotV,lotE.Own base w' (.slice (some ⟨g,0,none⟩) n c) Y/\Y.Perm X/\(Y.Pairwise fun a b=>leL a b=true)/\OnlyB g w w':=by
 have hx:=(h.cell).1
 have hlt:=(h.ge g rfl).2
 have hH:=own_holds h
 have R:RowK encLot 6 w g 0 X.toArray:=⟨lotE.len,lotE.one,hH,hlt⟩
 refine (sortStableL encLot cmpL (ltOf cmpL) swoL 122 #[] g 0 c n X.toArray w (enters_of Tryz.func122 (by kernel_rfl) rfl) (fun m os dk _ x y=>?_) R (by simp[hx]) (by omega) (SWK.start hH) (fun i j _ _ _=>rfl)).mono ?_
 ·have:=lotCompare_any x y (sortWorldK encLot 6 w g 0 m dk os)
  simpa [LotV.val,encLot] using this
 ·rintro e w' ⟨rfl,d',h1,h2,h3,h4⟩
  obtain⟨q1,q2⟩:=own_sorted h h2 (by omega)
  have hsz:X.toArray.size=n:=by simp[hx]
  refine⟨rfl,d'.toList,q1,?_,?_,q2⟩
  ·have:=permIn_list (d:=X.toArray) (d':=d') (by rw[hsz];exact h3)
   simpa using this
  ·refine (sortedIn_list h1 h4).imp fun {x y} hxy=>?_
   rw[ltL_iff] at hxy
   simpa using hxy
set_option maxHeartbeats 1000000 in
set_option maxRecDepth 100000 in
theorem lotSort_any (B:Nat) (a:Option Addr) (n c:Nat) (X:List LotV) (w:World) (h:lotE.In B w a n c X) (hB:B<=w.heap.size) (hn:n<=100000000) :
  Calls Tryz.prog 88 #[.slice a n c] w fun e w'=>(∃ a' c' Y,e = .returned (.slice a' n c')/\lotE.Own w.heap.size w' (.slice a' n c') Y/\Y.Perm X/\(Y.Pairwise fun a b=>leL a b=true))/\Below w.heap.size w w':=by
 have HC:=Lib.hid (cloneLot_any B a n c X w h hB hn)
 have hln:=h.len
 by_cases h0:n=0
 ·subst h0
  have hX:X=[]:=List.eq_nil_of_length_eq_zero hln.symm
  have HX:=Lib.hid hX
  have HS:=Lib.hid sortStableL_none
  clear h hln hX
  go_enter Tryz.func88,Tryz.ntmps88
  go_wp2_with (first | (go_at_call 120;refine HC.out.mono ?_;rintro e w8 ⟨⟨a',c',rfl,-,hown⟩,hb⟩;have O8:=Lib.hid hown;have B8:=Lib.hid hb;clear hown hb) | (go_at_call 121;refine (HS.out _ _ _ _).mono ?_;rintro e w9 ⟨rfl,rfl⟩))
  go_ret
  exact⟨⟨a',c',X,rfl,O8.out,List.Perm.refl _,by rw[HX.out];exact List.Pairwise.nil⟩,B8.out⟩
 ·have HS:=Lib.hid sortLots
  have hln2:=Lib.hid hln
  clear h hln
  go_enter Tryz.func88,Tryz.ntmps88
  go_wp2_with (first | (go_at_call 120;refine HC.out.mono ?_;rintro e w8 ⟨⟨a',c',rfl,-,hown⟩,hb⟩;obtain⟨g,rfl⟩:∃ g,a'=some ⟨g,0,none⟩:=(by obtain⟨a2,c2,e2,-,-,hg⟩:=hown.form;obtain⟨g,hg⟩:=hg (by have:=hln2.out;omega);injection e2 with e3;exact⟨g,e3.trans hg⟩);have O8:=Lib.hid hown;have B8:=Lib.hid hb;clear hown hb) | (go_at_call 121;refine (HS.out _ _ _ _ _ _ O8.out hn).mono ?_;rintro e w9 ⟨rfl,Y,hY,hp,hs,ho⟩;have O9:=Lib.hid hY;have P9:=Lib.hid hp;have S9:=Lib.hid hs;have W9:=Lib.hid ho;clear hY hp hs ho))
  go_ret
  refine⟨⟨_,c',Y,rfl,O9.out,P9.out,S9.out⟩,?_⟩
  have hg:=(O8.out.ge g rfl).1
  exact below_only B8.out W9.out (Nat.le_refl _) hg
end Go.Proofs.YtgplnekpgdhcpaaGreat
namespace Go.Proofs.YtgplnekpgdhcpaaGreat
open Go.RowKit
def encWant (x:WantV):List Value:=[encStr x.item,.int .i64 x.day,.int .i64 x.qty]
def okWant (x:WantV):Prop:=x.item.length<=9223372036854775807/\(-9223372036854775808<=x.day/\x.day<=9223372036854775807)/\(-9223372036854775808<=x.qty/\x.qty<=9223372036854775807)
set_option maxRecDepth 100000 in
theorem wantE_under:Tryz.prog.underlying 35=some (.slice 71):=Tryz.underlying35
theorem wantE_info:(Tryz.prog.info? 71).map (fun i=>(i.zero,i.size,i.bytes))=some (some (.agg #[.string ⟨#[]⟩,.int .i64 0,.int .i64 0]),3,32):=by kernel_rfl
def wantE:El WantV where
 e:=71
 t:=35
 k:=3
 bytes:=32
 z:=.agg #[.string ⟨#[]⟩,.int .i64 0,.int .i64 0]
 enc:=encWant
 ok:=okWant
 len:=fun _=>rfl
 one:=fun x u hu=>by
  unfold encWant at hu
  simp only[List.mem_cons,List.not_mem_nil,or_false] at hu
  rcases hu with rfl | rfl | rfl <;> rfl
 kpos:=by decide
 under:=wantE_under
 info:=wantE_info
 zc:=rfl
 small:=by decide
theorem wantE_at {B:Nat} {w:World} {a:Option Addr} {n c:Nat} {X:List WantV} (h:wantE.In B w a n c X) (hc:0 < c):∃ b o,a=some ⟨b,o,none⟩/\b < B/\∀ i,i < n->w.cell? ⟨b,o+i * 3,none⟩=some (encStr (X.getD i default).item)/\w.cell? ⟨b,o+i * 3+1,none⟩=some (.int .i64 (X.getD i default).day)/\w.cell? ⟨b,o+i * 3+2,none⟩=some (.int .i64 (X.getD i default).qty):=by
 obtain⟨b,o,e,hb,hcell⟩:=h.at_ hc
 exact⟨b,o,e,hb,fun i hi=>⟨hcell i hi 0 (by decide),hcell i hi 1 (by decide),hcell i hi 2 (by decide)⟩⟩
theorem wantE_lit (W:World) (x:WantV) (t:TypeId):∀ j u,(wantE.cells [x])[j]? = some u->(W.alloc (.cells #[encStr x.item,.int .i64 x.day,.int .i64 x.qty] t)).cell? ((⟨W.heap.size,0,none⟩:Addr).add j)=some u:=El.one_lit (E:=wantE) W x _ t rfl
end Go.Proofs.YtgplnekpgdhcpaaGreat
namespace Go.Proofs.YtgplnekpgdhcpaaGreat
open Go.RowKit Go.Sort Go.Lib Go.Shelf
set_option maxRecDepth 100000 in
/-- slices.SortStableFunc of no ints. -/
theorem sortStableN_none (p:Option Addr) (cap:Nat) (fv:Value) (w:World):Calls Tryz.prog 123 #[.slice p 0 cap,fv] w fun e w'=>e = .returned (.tuple #[])/\w'=w:=by
 have HI:=Lib.hid (AnyF.insertionSortCmpFunc_none Tryz.laysSlF020_f179 p cap fv w)
 have HS:Hid (Calls Tryz.prog 157 #[.slice p 0 cap,.int .i64 0,fv] w fun e w'=>e = .returned (.tuple #[])/\w'=w):=by
  refine Lib.hid ?_
  go_enter Tryz.func157,Tryz.ntmps157
  go_wp2_with (fail)
  go_loopw [7,8] (fun s7 s8 wr=>s7 = .int .i64 0/\s8 = .int .i64 20/\w=wr) (fun _ _ _=>0)
  case atStart=>exact⟨rfl,rfl,rfl⟩
  case round =>
   obtain⟨rfl,rfl,rfl⟩:=hrel
   go_wp2_with (go_at_call 179;refine HI.out.mono ?_;rintro e w9 ⟨rfl,rfl⟩)
   go_loopw [6] (fun s6 wr=>s6 = .int .i64 20/\w9=wr) (fun _ _=>0)
   case atStart=>exact⟨rfl,rfl⟩
   case round =>
    obtain⟨rfl,rfl⟩:=hrel
    go_wp2_with (fail)
    go_end0
    exact⟨rfl,rfl⟩
 go_enter Tryz.func123,Tryz.ntmps123
 go_wp2_with (go_at_call 157;refine HS.out.mono ?_;rintro e w9 ⟨rfl,rfl⟩)
 go_end0
 exact⟨rfl,rfl⟩
theorem dayCmp_any (V:World) (bx b o n c i j:Nat) (di dj:Int) (hi:i < n) (hj:j < n) (hs:V.cell? ⟨bx,0,none⟩=some (.slice (some ⟨b,o,none⟩) n c)) (h1:V.cell? ⟨b,o+i * 3+1,none⟩=some (.int .i64 di)) (h2:V.cell? ⟨b,o+j * 3+1,none⟩=some (.int .i64 dj)) (b1:0<=di) (b2:di<=4000) (b3:0<=dj) (b4:dj<=4000) :
  Calls Tryz.prog 124 #[.int .i64 i,.int .i64 j,.pointer (some ⟨bx,0,none⟩)] V fun e w'=>e = .returned (.int .i64 (di - dj))/\∃ q,w'=V.drewN q:=by
 have hw:IntKind.i64.wrap (di - dj)=di - dj:=wrap_in (by omega) (by omega)
 go_enter Tryz.func124,Tryz.ntmps124
 go_wp2_with (fail)
 go_quiet (fail)
 go_wp2_with (fail)
 go_ret
 exact⟨rfl,_,rfl⟩
def ltPD (W:List WantV) (N:Nat) (x y:Fin N):Bool:=decide ((W.getD x.1 default).day < (W.getD y.1 default).day∨((W.getD x.1 default).day=(W.getD y.1 default).day/\x.1 < y.1))
theorem swoPD (W:List WantV) (N:Nat):SWO (ltPD W N) where
 irrefl x:=by unfold ltPD;exact decide_eq_false (by omega)
 trans x y z h1 h2:=by
  unfold ltPD at *
  have h1:=of_decide_eq_true h1
  have h2:=of_decide_eq_true h2
  exact decide_eq_true (by omega)
 ntrans x y z h1 h2:=by
  unfold ltPD at *
  have h1:=of_decide_eq_false h1
  have h2:=of_decide_eq_false h2
  exact decide_eq_false (by omega)
def dayC (W:List WantV) (N:Nat) (x y:Fin N):Int:=(W.getD x.1 default).day - (W.getD y.1 default).day
def encFin (N:Nat) (x:Fin N):Value:=.int .i64 (x.1:Nat)
theorem ltPD_leD {W:List WantV} {N:Nat} {x y:Fin N} (h:ltPD W N y x=false):leD W x.1 y.1=true:=by
 unfold ltPD at h
 have h:=of_decide_eq_false h
 unfold leD
 simp only[Bool.or_eq_true,Bool.and_eq_true,decide_eq_true_eq]
 omega
theorem cell_sortWorld {α:Type} [Inhabited α] (enc:α->Value) (w:World) (blk off m:Nat) (dk:Array α) (os:Array Obj) {b o:Nat} (hb:b≠blk) (hl:b < w.heap.size):(sortWorld enc w blk off m dk os).cell? ⟨b,o,none⟩=w.cell? ⟨b,o,none⟩:=by
 have h:(sortWorld enc w blk off m dk os).heap[b]? = w.heap[b]?:=by
  unfold sortWorld
  rw[grow_old _ _ (by simpa [putRow,mapBlock,Go.Sort.ahead] using hl)]
  simp[putRow,mapBlock,Go.Sort.ahead,Array.getElem?_modify,Ne.symm hb]
 unfold World.cell?
 simp only[h]
set_option maxRecDepth 100000 in
/-- The places sorted. -/
theorem sortPlaces (base g bx B c2:Nat) (a2:Option Addr) (N c:Nat) (W:List WantV) (w:World) (hN:N+1<=20000)
  (h:w.ownsRow base 3 1 (.slice (some ⟨g,0,none⟩) (N+1) c) (N+1) ((List.finRange (N+1)).map (encFin (N+1)))) (hw:wantE.In B w a2 (N+1) c2 W) (hd:∀ x∈W,0<=x.day/\x.day<=4000) (hbx:w.cell? ⟨bx,0,none⟩=some (.slice a2 (N+1) c2)) (hbl:bx < w.heap.size) (hb1:bx≠g) (hBg:B<=g) :
  Calls Tryz.prog 123 #[.slice (some ⟨g,0,none⟩) (N+1) c,.func (.func 124) #[] #[.pointer (some ⟨bx,0,none⟩)]] w fun e w'=>e = .returned (.tuple #[])/\w'.ownsRow base 3 1 (.slice (some ⟨g,0,none⟩) (N+1) c) (N+1) ((dayO W).map fun i=>.int .i64 (i:Nat))/\OnlyB g w w':=by
 have hlt:=(Tx.rows_ge h g rfl).2
 have hWl:=hw.len
 obtain⟨g',cap,e0,-,-,-,-,-,hH⟩:=holds_of_ownsRow h (by simp)
 injection e0 with e1 e2 e3
 injection e1 with e1
 injection e1 with e1
 subst e1
 subst e3
 have hsz:(List.finRange (N+1)).toArray.size=N+1:=by simp
 have hat:∀ i (hi:i < N+1),(List.finRange (N+1)).toArray[i]! = ⟨i,hi⟩:=fun i hi=>by
  rw[getElem!_pos _ i (by simpa using hi)]
  simp
 have R:Row1 (encFin (N+1)) w g 0 (List.finRange (N+1)).toArray:=⟨fun _=>rfl,hH,hlt⟩
 obtain⟨b,o,ha2,hbB,hcell⟩:=wantE_at hw (by have:=hw.le;omega)
 subst ha2
 have hday:∀ i,i < N+1->0<=(W.getD i default).day/\(W.getD i default).day<=4000:=fun i hi=>by
  rw[List.getD_eq_getElem?_getD,List.getElem?_eq_getElem (by omega)]
  exact hd _ (List.getElem_mem _)
 refine (sortStableN (encFin (N+1)) (dayC W (N+1)) (ltPD W (N+1)) (swoPD W (N+1)) 124 #[.pointer (some ⟨bx,0,none⟩)] g 0 c (N+1) (List.finRange (N+1)).toArray w (enters_of Tryz.func124 (by kernel_rfl) rfl) (fun m os dk _ x y=>?_) R hsz (by omega) (SW.start hH) (fun i j _ hij hj=>?_)).mono ?_
 ·have hv:=hday x.1 x.2
  have hv2:=hday y.1 y.2
  have:=dayCmp_any (sortWorld (encFin (N+1)) w g 0 m dk os) bx b o (N+1) c2 x.1 y.1 (W.getD x.1 default).day (W.getD y.1 default).day x.2 y.2
   (by rw[cell_sortWorld _ _ _ _ _ _ _ hb1 hbl];exact hbx) (by rw[cell_sortWorld _ _ _ _ _ _ _ (by omega) (by omega)];exact (hcell x.1 x.2).2.1) (by rw[cell_sortWorld _ _ _ _ _ _ _ (by omega) (by omega)];exact (hcell y.1 y.2).2.1) hv.1 hv.2 hv2.1 hv2.2
  refine Calls.mono (by simpa [encFin] using this) ?_
  rintro e w' ⟨rfl,q,rfl⟩
  exact⟨rfl,q,#[],by rw[grow_empty]⟩
 ·rw[hsz] at hj
  rw[hat i (by omega),hat j hj]
  unfold ltOf dayC ltPD
  congr 1
  apply propext
  simp only
  omega
 ·rintro e w' ⟨rfl,d',h1,h2,h3,h4⟩
  obtain⟨q1,q2⟩:=own_sorted1 h h2 h1
  refine⟨rfl,?_,q2⟩
  have hp:=permIn_list (d:=(List.finRange (N+1)).toArray) (d':=d') (by rw[hsz];exact h3)
  have hs:=sortedIn_list h1 h4
  have e:d'.toList.map (fun x:Fin (N+1)=>x.1)=dayO W:=by
   refine dayO_only ?_ ?_
   ·have:=hp.map (fun x:Fin (N+1)=>x.1)
    rw[show ((List.finRange (N+1)).toArray.toList.map fun x:Fin (N+1)=>x.1)=List.range W.length by rw[<- hWl];exact List.ext_getElem (by simp) (fun i h1 h2=>by simp)] at this
    exact this
   ·rw[List.pairwise_map]
    exact hs.imp fun {x y} hxy=>ltPD_leD hxy
  have e2:d'.toList.map (encFin (N+1))=(dayO W).map fun i=>Value.int .i64 (i:Nat):=by
   rw[<- e,List.map_map]
   rfl
  rw[<- e2]
  exact q1
theorem row_next {n j:Nat} (hj:j < n):(((List.range j).map fun i=>Value.int .i64 (i:Nat)) ++ List.replicate (n - j) (Value.int .i64 0)).set j (Value.int .i64 (j:Nat))=((List.range (j+1)).map fun i=>Value.int .i64 (i:Nat)) ++ List.replicate (n - (j+1)) (Value.int .i64 0):=by
 rw[List.set_append_right _ _ (by simp),List.range_succ,List.map_append,List.append_assoc]
 congr 1
 rw[List.length_map,List.length_range,Nat.sub_self,show n - j=(n - (j+1))+1 by omega,List.replicate_succ]
 rfl
theorem intInfo:(Tryz.prog.info? 3).map (fun i=>(i.zero,i.size,i.bytes))=some (some (.int .i64 0),1,8):=by kernel_rfl
set_option maxHeartbeats 2000000 in
set_option maxRecDepth 100000 in
theorem days_any (B:Nat) (a2:Option Addr) (n2 c2:Nat) (W:List WantV) (w:World) (hw:wantE.In B w a2 n2 c2 W) (hB:B<=w.heap.size) (hn:n2<=20000) (hd:∀ x∈W,0<=x.day/\x.day<=4000) :
  Calls Tryz.prog 89 #[.slice a2 n2 c2] w fun e w'=>(∃ g,e = .returned (.slice (some ⟨g,0,none⟩) n2 n2)/\w'.ownsRow w.heap.size 3 1 (.slice (some ⟨g,0,none⟩) n2 n2) n2 ((dayO W).map fun i=>.int .i64 (i:Nat)))/\Below w.heap.size w w':=by
 obtain⟨i0,hi,hz0,hz1,hz2⟩:=info_parts intInfo
 have hle:=hw.le;have hmx:=hw.mx
 have Hln:=Lib.hid hw.len
 have HW:=Lib.hid hw
 have HD:=Lib.hid hd
 obtain⟨W1,hW1⟩:∃ V,V=w.alloc (.cells #[.slice a2 n2 c2] 35):=⟨_,rfl⟩
 have hs1:W1.heap.size=w.heap.size+1:=by rw[hW1,World.size_alloc]
 have hb1:Below w.heap.size w W1:=by rw[hW1];exact (Below.refl _ w).alloc (Nat.le_refl _) _
 have hbx:W1.cell? ⟨w.heap.size,0,none⟩=some (.slice a2 n2 c2):=by rw[hW1];simp
 obtain⟨W2,hrun,hown,hgrow⟩:=run_make_full (P:=Tryz.prog) (w:=W1) W1.heap.size 119 3 i0 (.int .i64 0) 1 Tryz.underlying119 hi hz0 hz1 .i64 .i64 n2 (by rw[hz2];omega) (by simp only[maxLen];omega) (Nat.le_refl _)
 rw[show (Value.int .i64 0).cells = #[.int .i64 0] from rfl,Nat.mul_one,toList_madeCells_one] at hown
 obtain⟨gb,hgb⟩:∃ g,g=W1.heap.size:=⟨_,rfl⟩
 rw[<- hgb] at hown hrun
 have B2:Hid (Below W1.heap.size W1 W2):=Lib.hid ((Below.refl _ W1).grown hgrow (Nat.le_refl _) (fun r e=>by cases e))
 have O2:=Lib.hid hown
 have HB1:=Lib.hid hb1
 have HW1:=Lib.hid hW1
 have HS1:=Lib.hid hs1
 have HBX:=Lib.hid hbx
 have HGB:=Lib.hid hgb
 clear hi hz0 hz1 hz2 hw hd hown hgrow hb1 hs1
 go_enter Tryz.func89,Tryz.ntmps89
 go_upto_region 1 with (fail)
 rw[<- HW1.out]
 clear hW1
 clear hgb
 go_wp2_with (fail)
 clear hrun hbx
 go_loopw [10] (fun s10 wr=>∃ j:Nat,s10 = .int .i64 j/\j<=n2/\Hid (wr.ownsRow gb 3 1 (.slice (some ⟨gb,0,none⟩) n2 n2) n2 (((List.range j).map fun i=>Value.int .i64 (i:Nat)) ++ List.replicate (n2 - j) (Value.int .i64 0)))/\Hid (Below W1.heap.size W1 wr)) (fun s10 _=>n2 - (intOf s10).toNat)
 case atStart=>exact⟨0,by go_num,Nat.zero_le _,by simpa using O2,B2⟩
 case round =>
  clear O2 B2
  obtain⟨j,rfl,hj,HO,HB⟩:=hrel
  by_cases hlt:j < n2
  ·have hc:=HO.out.cellAt j (by omega)
   have hf:=HO.out.frozenAt j
   obtain⟨u,hu⟩:∃ u,(((List.range j).map fun i=>Value.int .i64 (i:Nat)) ++ List.replicate (n2 - j) (Value.int .i64 0))[j]? = some u:=⟨_,List.getElem?_eq_getElem (by simp;omega)⟩
   rw[hu] at hc
   clear hu
   have HN:=Lib.hid (HO.out.stored j (.int .i64 (j:Nat)))
   have hrn:=Lib.hid (row_next hlt)
   go_wp2_with (fail)
   go_roundw
   case rel=>exact⟨j+1,by go_num,by omega,Lib.hid (by rw[<- hrn.out];exact HN.out.1),Lib.hid (HB.out.grown HN.out.2 HB.out.size (fun k e=>by cases e;rw[HGB.out];exact Nat.le_refl _))⟩
   case measure=>simp[intOf];omega
  ·have hge:j=n2:=by omega
   subst hge
   by_cases h0:j=0
   ·subst h0
    have HNo:=Lib.hid (sortStableN_none (some ⟨gb,0,none⟩) 0 (.func (.func 124) #[] #[.pointer (some ⟨w.heap.size,0,none⟩)]) wr)
    go_wp2_with (go_at_call 123;refine HNo.out.mono ?_;rintro e w9 ⟨rfl,rfl⟩)
    go_ret
    refine⟨⟨gb,rfl,?_⟩,HB1.out.trans (HB.out.mono (by rw[HS1.out];exact Nat.le_succ _))⟩
    have hW0:W=[]:=List.eq_nil_of_length_eq_zero Hln.out.symm
    have e:(dayO W).map (fun i=>Value.int .i64 (i:Nat))=[]:=by
     apply List.eq_nil_of_length_eq_zero
     rw[List.length_map,dayO_len,hW0]
     rfl
    rw[e]
    have:=HO.out
    simp only[List.range_zero,List.map_nil,List.nil_append,Nat.sub_self,List.replicate_zero] at this
    exact Tx.rows_mono this (by rw[HGB.out,HS1.out];exact Nat.le_succ _)
   ·obtain⟨N,rfl⟩:∃ N,j=N+1:=⟨j - 1,by omega⟩
    have e0:((List.range (N+1)).map fun i=>Value.int .i64 (i:Nat)) ++ List.replicate (N+1 - (N+1)) (Value.int .i64 0)=(List.finRange (N+1)).map (encFin (N+1)):=by
     rw[Nat.sub_self,List.replicate_zero,List.append_nil]
     exact List.ext_getElem (by simp) (fun i h1 h2=>by simp[encFin])
    have HO2:=HO.out
    rw[e0] at HO2
    have HS:=Lib.hid (sortPlaces gb gb w.heap.size B c2 a2 N (N+1) W wr hn HO2 (HW.out.below ((HB1.out.mono hB).trans (HB.out.mono (by rw[HS1.out];omega)))) HD.out (by rw[HB.out.cell (p:=⟨w.heap.size,0,none⟩) (by show w.heap.size < _;rw[HS1.out];omega)];exact HBX.out) (by have:=HB.out.size;rw[HS1.out] at this;omega) (by rw[HGB.out,HS1.out];omega) (by rw[HGB.out,HS1.out];omega))
    clear HO2 e0
    go_wp2_with (go_at_call 123;refine HS.out.mono ?_;rintro e w9 ⟨rfl,hr9,ho9⟩)
    go_ret
    exact⟨⟨gb,rfl,Tx.rows_mono hr9 (by rw[HGB.out,HS1.out];exact Nat.le_succ _)⟩,below_only (HB1.out.trans (HB.out.mono (by rw[HS1.out];exact Nat.le_succ _))) ho9 (Nat.le_refl _) (by rw[HGB.out,HS1.out];exact Nat.le_succ _)⟩
end Go.Proofs.YtgplnekpgdhcpaaGreat
namespace Go.Proofs.YtgplnekpgdhcpaaGreat
open Go.RowKit
theorem left0_of {L:List LotV} (hid:(L.map (·.id)).Nodup) {l:LotV} (hl:l∈L):left0 L l.id=l.qty:=by
 unfold left0
 induction L with
 | nil=>cases hl
 | cons x L ih =>
  rw[List.map_cons,List.nodup_cons] at hid
  rw[List.find?_cons]
  rcases List.mem_cons.1 hl with rfl | hl
  ·simp
  ·have:x.id≠l.id:=fun e=>hid.1 (by rw[e];exact List.mem_map_of_mem hl)
   simp only[this,decide_false]
   exact ih hid.2 hl
theorem mayB_iff {L:List LotV} {W:List WantV}:mayB L W=true↔L.length<=300/\W.length<=20000/\(∀ l∈L,lotOk l=true)/\(L.map (·.id)).Nodup/\(∀ w∈W,wantOk w=true):=by
 unfold mayB idsOk
 simp only[Bool.and_eq_true,decide_eq_true_eq,List.all_eq_true,and_assoc]
theorem lotOk_iff {l:LotV}:lotOk l=true↔1<=l.id/\okCode l.item=true/\0<=l.fr/\l.fr < l.un/\l.un<=4001/\1<=l.qty/\l.qty<=1073741824:=by
 unfold lotOk
 simp only[Bool.and_eq_true,decide_eq_true_eq,and_assoc]
theorem wantOk_iff {w:WantV}:wantOk w=true↔okCode w.item=true/\0<=w.day/\w.day<=4000/\1<=w.qty/\w.qty<=1125899906842624:=by
 unfold wantOk
 simp only[Bool.and_eq_true,decide_eq_true_eq,and_assoc]
end Go.Proofs.YtgplnekpgdhcpaaGreat
