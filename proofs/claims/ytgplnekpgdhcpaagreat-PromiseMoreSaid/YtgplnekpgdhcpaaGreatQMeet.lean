/- Items by their codes. A field of an item that is a value. Marked items; lists of items in memory of the call's own. Items, parts, texts as kinds of elements. A cell of one's own row is stored. window.Meet: its walk. -/
import Derived.Test.YtgplnekpgdhcpaaGreatKRight
import Derived.Test.YtgplnekpgdhcpaaGreatTxA
import Derived.Laws.OwnMore
import Derived.Test.YtgplnekpgdhcpaaGreatQEnds
import Derived.Laws.StructEq
import Derived.Test.YtgplnekpgdhcpaaGreatQBridge
import Derived.Test.YtgplnekpgdhcpaaGreatKMap
namespace Go.Proofs.YtgplnekpgdhcpaaGreat
open Go.RowKit
def bookF (X:List It):List UInt8->Value:=X.foldl (fun f x=>setO f x.code x.val) (fun _=>zItem)
theorem book_next {X:List It} {i:Nat} (hi:i < X.length):bookF (X.take (i+1))=setO (bookF (X.take i)) (X.getD i default).code (X.getD i default).val:=by
 unfold bookF
 rw[List.take_succ_eq_append_getElem hi,List.foldl_append,List.getD_eq_getElem?_getD,List.getElem?_eq_getElem hi]
 rfl
theorem val_ne {x:It} (h:x.code≠[]):x.val≠zItem:=fun e=>by
 unfold It.val zItem encStr at e
 simp at e
 exact h (by simpa using e.1)
theorem four_at {W:World} {g:Nat} {u v p q:Value} {t:TypeId} (h:W.heap[g]? = some (.cells #[u,v,p,q] t)):W.cell? ⟨g,0,none⟩=some u/\W.cell? ⟨g,1,none⟩=some v/\W.cell? ⟨g,2,none⟩=some p/\W.cell? ⟨g,3,none⟩=some q:=by
 refine⟨?_,?_,?_,?_⟩ <;> (unfold World.cell?;rw[h];rfl)
set_option maxHeartbeats 4000000 in
set_option maxRecDepth 100000 in
theorem book_any (B:Nat) (a:Option Addr) (n cp:Nat) (X:List It) (w:World) (hr:RI B w a n cp X) (hB:B<=w.heap.size) (hne:∀ x∈X,x.code≠[]):Calls Tryz.prog 116 #[.slice a n cp] w fun e w'=>(∃ mb,e = .returned (.map (some mb))/\MF w' mb n zItem (bookF X)/\w.heap.size<=mb)/\Below w.heap.size w w':=by
 have hle:=hr.le
 have hmx:=hr.mx
 have HR:=Lib.hid (hr.mono hB)
 have HNA:=Lib.hid hne
 clear hne
 have hmk:=@run_makeMap Tryz.prog
 have hM0:=Lib.hid (MF.made w zItem)
 have hB0:Hid (Below w.heap.size w (w.alloc (.map #[] 0))):=Lib.hid ((Below.refl _ w).alloc (Nat.le_refl _) _)
 obtain⟨gb,hgb⟩:∃ g,g=w.heap.size:=⟨_,rfl⟩
 clear hr
 rw[<- hgb] at hM0 hB0 HR
 have HG:=Lib.hid hgb
 go_enter Tryz.func116,Tryz.ntmps116
 go_upto_region 2 with (fail)
 rw[<- hgb]
 clear hgb
 go_wp2_with (fail)
 go_loopw [9] (fun s9 wr=>∃ i:Nat,s9 = .int .i64 i/\i<=n/\Hid (MF wr gb i zItem (bookF (X.take i)))/\Hid (Below gb w wr)) (fun s9 _=>n - (intOf s9).toNat)
 case atStart=>exact⟨0,rfl,by omega,hM0,hB0⟩
 case round =>
  obtain⟨i,rfl,hi,HM,HB⟩:=hrel
  by_cases hin:i < n
  ·have t1:decide ((i:Int) < (n:Int))=true:=by simp;omega
   have i0:(0:Int)<=(i:Int):=by omega
   have i1:(i:Int) < (n:Int):=by omega
   have f1:IntKind.i64.wrap ((i:Int)+1)=((i+1:Nat):Int):=by rw[wrap_in (by omega) (by omega)];omega
   obtain⟨b,o,rfl,hbB,hok1,c0,c1,c2,c3⟩:=(HR.out.below HB.out).item hin
   have HOK:=Lib.hid hok1
   have hnv:=val_ne (HNA.out _ (getD_mem (by have:=HR.out.len;omega:i < X.length)))
   have HNX:=Lib.hid (book_next (X:=X) (i:=i) (by have:=HR.out.len;omega))
   clear hok1
   obtain⟨x,hx⟩:∃ x,x=X.getD i default:=⟨_,rfl⟩
   rw[<- hx] at c0 c1 c2 c3 HNX HOK hnv
   have HNE:=Lib.hid hnv
   clear hnv
   clear hx
   have hpc:(wr.alloc (.cells #[encStr x.code,.int .i64 x.life,.slice x.pa x.ps.length x.pc,.slice x.oa x.os.length x.oc] 87)).heap[wr.heap.size]? = _:=heap_alloc_new wr _
   have hal:Below wr.heap.size wr (wr.alloc (.cells #[encStr x.code,.int .i64 x.life,.slice x.pa x.ps.length x.pc,.slice x.oa x.os.length x.oc] 87)):=(Below.refl _ wr).alloc (Nat.le_refl _) _
   have hM2:=HM.out.below hal HM.out.lt
   have hB2:=HB.out.trans (hal.mono (by have:=HM.out.lt;omega))
   obtain⟨q0,q1,q2,q3⟩:=four_at hpc
   unfold encStr at c0 q0 q1 q2 q3 hM2 hB2
   have HM2:=Lib.hid hM2
   have HB2:=Lib.hid hB2
   have hgw:=HM.out.lt
   clear hpc hal hM2 hB2
   go_wp2_with (at_mapUpdate;refine wpList_put_mf rfl _ _ _ 112 rfl Tryz.underlying112 HM2.out (by omega) x.code x.val rfl rfl rfl HOK.out.code HNE.out ?_;intro w2 hM3 hg2;have HM3:=Lib.hid hM3;have HB3:=Lib.hid (HB2.out.grown hg2 (by rw[World.size_alloc];omega) (fun k e=>by have:=Option.some.inj e;omega));clear hM3 hg2)
   go_roundw
   case rel=>exact⟨i+1,rfl,by omega,Lib.hid (by rw[HNX.out];exact HM3.out),HB3⟩
   case measure=>simp only[intOf];omega
  ·have t1:decide ((i:Int) < (n:Int))=false:=by simp;omega
   have ht:X.take i=X:=List.take_of_length_le (by have:=HR.out.len;omega)
   have hin2:i=n:=by omega
   have HM9:Hid (MF wr gb n zItem (bookF X)):=Lib.hid (by have h:=HM.out;rw[ht,hin2] at h;exact h)
   clear ht hin2
   go_wp2_with (fail)
   go_ret
   exact⟨⟨gb,rfl,HM9.out,HG.out ▸ Nat.le_refl _⟩,HG.out ▸ HB.out⟩
end Go.Proofs.YtgplnekpgdhcpaaGreat
namespace Go.Proofs.YtgplnekpgdhcpaaGreat
open Go.RowKit
theorem field_code (w:World) (a b p q:Value):(Instr.field 87 (.agg #[a,b,p,q]) 0).run Tryz.prog w = .ok a w:=by
 first
 | kernel_rfl
 | rfl
theorem field_parts (w:World) (a b p q:Value):(Instr.field 87 (.agg #[a,b,p,q]) 2).run Tryz.prog w = .ok p w:=by
 first
 | kernel_rfl
 | rfl
end Go.Proofs.YtgplnekpgdhcpaaGreat
namespace Go.Proofs.YtgplnekpgdhcpaaGreat
open Go.RowKit
def encI (y:It):List Value:=[encStr y.code,.int .i64 y.life,.slice y.pa y.ps.length y.pc,.slice y.oa y.os.length y.oc]
theorem Tryz.infoItem:(Tryz.prog.info? 87).map (fun i=>(i.zero,i.size,i.bytes))=some (some (.agg #[.string ByteArray.empty,.int .i64 0,.slice none 0 0,.slice none 0 0]),4,72):=by kernel_rfl
end Go.Proofs.YtgplnekpgdhcpaaGreat
namespace Go.Proofs.YtgplnekpgdhcpaaGreat
open Go.RowKit
set_option maxRecDepth 100000 in
theorem itE_under:Tryz.prog.underlying 22=some (.slice 87):=Tryz.underlying22
def itE:El It where
 e:=87
 t:=22
 k:=4
 bytes:=72
 z:=.agg #[.string ByteArray.empty,.int .i64 0,.slice none 0 0,.slice none 0 0]
 enc:=encI
 ok:=fun x=>x.code.length<=9223372036854775807/\-9223372036854775808<=x.life/\x.life<=9223372036854775807
 len:=fun _=>rfl
 one:=fun x u hu=>by
  unfold encI at hu
  simp only[List.mem_cons,List.not_mem_nil,or_false] at hu
  rcases hu with rfl | rfl | rfl | rfl <;> rfl
 kpos:=by decide
 under:=itE_under
 info:=Tryz.infoItem
 zc:=rfl
 small:=by decide
set_option maxRecDepth 100000 in
theorem ptE_under:Tryz.prog.underlying 64=some (.slice 74):=Tryz.underlying64
theorem ptE_info:(Tryz.prog.info? 74).map (fun i=>(i.zero,i.size,i.bytes))=some (some (.agg #[.string ByteArray.empty,.int .i64 0]),2,24):=by kernel_rfl
def ptE:El Pt where
 e:=74
 t:=64
 k:=2
 bytes:=24
 z:=.agg #[.string ByteArray.empty,.int .i64 0]
 enc:=encP
 ok:=fun x=>x.1.length<=9223372036854775807/\-9223372036854775808<=x.2/\x.2<=9223372036854775807
 len:=fun _=>rfl
 one:=fun x u hu=>by
  unfold encP at hu
  simp only[List.mem_cons,List.not_mem_nil,or_false] at hu
  rcases hu with rfl | rfl <;> rfl
 kpos:=by decide
 under:=ptE_under
 info:=ptE_info
 zc:=rfl
 small:=by decide
set_option maxRecDepth 100000 in
theorem txE_under:Tryz.prog.underlying 43=some (.slice 9):=Tryz.underlying43
theorem txE_info:(Tryz.prog.info? 9).map (fun i=>(i.zero,i.size,i.bytes))=some (some (.string ByteArray.empty),1,16):=by kernel_rfl
def txE:El (List UInt8) where
 e:=9
 t:=43
 k:=1
 bytes:=16
 z:=.string ByteArray.empty
 enc:=fun t=>[encStr t]
 ok:=fun t=>t.length<=9223372036854775807
 len:=fun _=>rfl
 one:=fun x u hu=>by
  simp only[List.mem_cons,List.not_mem_nil,or_false] at hu
  subst hu
  rfl
 kpos:=by decide
 under:=txE_under
 info:=txE_info
 zc:=rfl
 small:=by decide
theorem RI.el {B:Nat} {w:World} {a:Option Addr} {n c:Nat} {X:List It} (h:RI B w a n c X):itE.In B w a n c X:=by
 refine⟨h.len,h.le,h.mx,fun x hx=>⟨(h.ok x hx).code,(h.ok x hx).lo,(h.ok x hx).hi⟩,fun hc=>?_⟩
 obtain⟨b,o,e,hB,hcell⟩:=h.at_ hc
 refine⟨b,o,e,hB,fun i hi j hj=>?_⟩
 obtain⟨k0,k1,k2,k3⟩:=hcell i hi
 have hj4:j < 4:=hj
 match j,hj4 with
 | 0,_=>exact k0
 | 1,_=>exact k1
 | 2,_=>exact k2
 | 3,_=>exact k3
theorem RP.el {B:Nat} {w:World} {a:Option Addr} {n c:Nat} {P:List Pt} (h:RP B w a n c P):ptE.In B w a n c P:=by
 refine⟨h.len,h.le,h.mx,fun x hx=>h.fine x hx,fun hc=>?_⟩
 obtain⟨b,o,e,hB,hcell⟩:=h.at_ hc
 refine⟨b,o,e,hB,fun i hi j hj=>?_⟩
 obtain⟨k0,k1⟩:=hcell i hi
 have hj4:j < 2:=hj
 match j,hj4 with
 | 0,_=>exact k0
 | 1,_=>exact k1
theorem RT.el {B:Nat} {w:World} {a:Option Addr} {n c:Nat} {T:List (List UInt8)} (h:RT B w a n c T):txE.In B w a n c T:=by
 refine⟨h.len,h.le,h.mx,fun x hx=>h.fine x hx,fun hc=>?_⟩
 obtain⟨b,o,e,hB,hcell⟩:=h.at_ hc
 refine⟨b,o,e,hB,fun i hi j hj=>?_⟩
 have hj4:j < 1:=hj
 match j,hj4 with
 | 0,_ =>
  show w.cell? ⟨b,o+i * 1+0,none⟩=_
  rw[Nat.mul_one]
  exact hcell i hi
theorem txE_rt {B:Nat} {w:World} {a:Option Addr} {n c:Nat} {T:List (List UInt8)} (h:txE.In B w a n c T):RT B w a n c T:=by
 refine⟨h.len,h.le,h.mx,fun x hx=>h.fine x hx,fun hc=>?_⟩
 obtain⟨b,o,e,hB,hcell⟩:=h.at_ hc
 refine⟨b,o,e,hB,fun i hi=>?_⟩
 have:=hcell i hi 0 (by decide)
 rw[show txE.k=1 from rfl,Nat.mul_one] at this
 exact this
end Go.Proofs.YtgplnekpgdhcpaaGreat
namespace Go.Proofs.YtgplnekpgdhcpaaGreat
open Go.RowKit Go.Sort Go.Lib Tx
section
variable {α:Type} [Inhabited α] {E:El α}
theorem cells_set (Y:List α) (i j:Nat) (y:α) (v:Value) (hi:i < Y.length) (hj:j < E.k) (hy:E.enc y=(E.enc (Y.getD i default)).set j v):E.cells (Y.set i y)=(E.cells Y).set (i * E.k+j) v:=by
 have hk:=E.kpos
 apply List.ext_getElem?
 intro t
 by_cases ht:t < Y.length * E.k
 ·have hti:t / E.k < Y.length:=Nat.div_lt_of_lt_mul (by rw[Nat.mul_comm];exact ht)
  have hm:t % E.k < E.k:=Nat.mod_lt _ hk
  have h1:=E.cells_at (Y.set i y) (t / E.k) (t % E.k) (by simpa using hti) hm
  have h2:=E.cells_at Y (t / E.k) (t % E.k) hti hm
  rw[Nat.div_add_mod' t E.k] at h1 h2
  rw[h1,List.getElem?_set]
  have hl:(E.cells Y).length=Y.length * E.k:=E.cells_len Y
  by_cases e:i * E.k+j=t
  ·have e1:t / E.k=i:=by rw[<- e,Nat.mul_comm,Nat.mul_add_div hk,Nat.div_eq_of_lt hj,Nat.add_zero]
   have e2:t % E.k=j:=by rw[<- e,Nat.mul_comm,Nat.mul_add_mod,Nat.mod_eq_of_lt hj]
   rw[if_pos e,if_pos (by rw[hl,e];exact ht),e1,e2]
   have e3:(Y.set i y).getD i default=y:=by simp[List.getD_eq_getElem?_getD,hi]
   rw[e3,hy,List.getElem?_set_self (by rw[E.len];exact hj)]
  ·rw[if_neg e,h2]
   by_cases e1:t / E.k=i
   ·rw[e1]
    have e3:(Y.set i y).getD i default=y:=by simp[List.getD_eq_getElem?_getD,hi]
    have e4:t % E.k≠j:=fun h=>e (by rw[<- e1,<- h,Nat.div_add_mod' t E.k])
    rw[e3,hy,List.getElem?_set_ne (Ne.symm e4)]
   ·have e3:(Y.set i y).getD (t / E.k) default=Y.getD (t / E.k) default:=by
     rw[List.getD_eq_getElem?_getD,List.getD_eq_getElem?_getD,List.getElem?_set_ne (Ne.symm e1)]
    rw[e3]
 ·rw[List.getElem?_eq_none (by rw[E.cells_len];simp;omega),List.getElem?_eq_none (by rw[List.length_set,E.cells_len];omega)]
theorem own_setCell {base g n c:Nat} {w:World} {Y:List α} (h:E.Own base w (.slice (some ⟨g,0,none⟩) n c) Y) (i j:Nat) (y:α) (v:Value) (hi:i < n) (hj:j < E.k) (hy:E.enc y=(E.enc (Y.getD i default)).set j v):E.Own base (w.setCell ⟨g,i * E.k+j,none⟩ v) (.slice (some ⟨g,0,none⟩) n c) (Y.set i y):=by
 obtain⟨hx,⟨h2,-⟩ | ⟨g',cap,cur,hv,hg,hh,hle,hmx,hsz,htk⟩⟩:=id h
 ·cases h2
 ·obtain⟨hn,-⟩:=h.cell
  subst hn
  injection hv with e1 e2 e3
  injection e1 with e1
  injection e1 with e1
  subst e1;subst e3
  have hlt:g < w.heap.size:=(Array.getElem?_eq_some_iff.1 hh).1
  refine⟨by rw[E.cells_len],.inr ⟨g,c,cur.setIfInBounds (i * E.k+j) v,by rw[List.length_set],hg,?_,by rw[List.length_set];exact hle,hmx,by simpa using hsz,?_⟩⟩
  ·rw[setCell_eq]
   simp[mapBlock,Array.getElem?_modify,hh,onCells]
  ·rw[List.length_set,cells_set Y i j y v hi hj hy,<- htk,Array.toList_setIfInBounds,List.take_set]
end
end Go.Proofs.YtgplnekpgdhcpaaGreat
namespace Go.Proofs.YtgplnekpgdhcpaaGreat
open Go.RowKit
theorem results_cell_tmp1 {P:Program} {fn:Func} {p u:Tmp} {ty:TypeId} (h:fn.results = #[.cell p ty,.tmp u]) (tmps:Array Value) (w:World) (g:Nat) (t:TypeId) (cs:Array Value) (fr:Nat×Nat) (d:TypeDesc) (hp:tmps.getD p undef = .pointer (some ⟨g,0,none⟩)) (hg:w.heap[g]? = some (.cells cs t fr))
  (hu:P.underlying ty=some d) (hd:(match d with | .struct _ | .array _ _=>true | _=>false)=true) (hi:(P.info? ty).map (·.size)=some cs.size):(results fn tmps).run P w = .ok (.tuple #[.agg cs,tmps.getD u undef]) w:=by
 have hp':tmps[p]?.getD undef = .pointer (some ⟨g,0,none⟩):=by simpa using hp
 simp[results,h,hp',asAddr,run_loadVar_row w g t ty cs fr d hg hu hd hi]
theorem within_any (a b:Int) (w:World):Calls Tryz.prog 191 #[.int .i64 a,.int .i64 b] w fun e w'=>e = .returned (.tuple #[.agg #[.int .i64 (if a < b then a else 0),.int .i64 (if a < b then b else 0)],.bool (decide (a < b))])/\Below w.heap.size w w':=by
 by_cases h:a < b
 ·have hd:decide (b<=a)=false:=decide_eq_false (by omega)
  rw[if_pos h,if_pos h,decide_eq_true h]
  clear h
  go_enter Tryz.func191,Tryz.ntmps191
  go_wp2_with (fail)
  refine bodyPost_ret (results_cell_tmp1 (P:=Tryz.prog) (fn:=Tryz.f191) (p:=4) (u:=5) (ty:=48) rfl _ _ w.heap.size 48 _ (0,0) _ rfl (heap_alloc_new _ _) Tryz.underlying48 rfl (by kernel_rfl)) rfl ?_
  exact⟨rfl,(Below.refl _ w).alloc (Nat.le_refl _) _⟩
 ·have hd:decide (b<=a)=true:=decide_eq_true (by omega)
  rw[if_neg h,if_neg h,decide_eq_false h]
  clear h
  go_enter Tryz.func191,Tryz.ntmps191
  go_wp2_with (fail)
  refine bodyPost_ret (results_cell_tmp1 (P:=Tryz.prog) (fn:=Tryz.f191) (p:=4) (u:=5) (ty:=48) rfl _ _ w.heap.size 48 _ (0,0) _ rfl (heap_alloc_new _ _) Tryz.underlying48 rfl (by kernel_rfl)) rfl ?_
  exact⟨rfl,(Below.refl _ w).alloc (Nat.le_refl _) _⟩
def meetB (f1 u1 f2 u2:Int):Bool:=winB f1 u1 && decide (max f1 f2 < min u1 u2)
theorem win_two {W:World} {r:Nat} (h:W.heap[r]? = some (.cells #[.int .i64 0,.int .i64 0] 48)) (x y:Int):((W.setCell ⟨r,0,none⟩ (.int .i64 x)).setCell ⟨r,1,none⟩ (.int .i64 y)).heap[r]? = some (.cells #[.int .i64 x,.int .i64 y] 48):=by
 rw[heap_setCell_same _ r 1 _ _ _ (heap_setCell_same W r 0 _ _ _ h)]
 rfl
set_option maxHeartbeats 1000000 in
theorem meet_any (f1 u1 f2 u2:Int) (h2:winB f2 u2=true) (w:World):Calls Tryz.prog 163 #[.agg #[.int .i64 f1,.int .i64 u1],.agg #[.int .i64 f2,.int .i64 u2]] w fun e w'=>e = .returned (.tuple #[.agg #[.int .i64 (if meetB f1 u1 f2 u2=true then max f1 f2 else 0),.int .i64 (if meetB f1 u1 f2 u2=true then min u1 u2 else 0)],.bool (meetB f1 u1 f2 u2)])/\Below w.heap.size w w':=by
 have HR1:=Lib.hid (fun W=>winRight_any f1 u1 W)
 have HR2:=Lib.hid (fun W=>winRight_any f2 u2 W)
 have HW:=Lib.hid (fun W=>within_any (max f1 f2) (min u1 u2) W)
 obtain⟨W0,hW0⟩:∃ V,V=((w.alloc (.cells #[.int .i64 f1,.int .i64 u1] 48)).alloc (.cells #[.int .i64 f2,.int .i64 u2] 48)).alloc (.cells #[.int .i64 0,.int .i64 0] 48):=⟨_,rfl⟩
 have b1:Below w.heap.size w (w.alloc (.cells #[.int .i64 f1,.int .i64 u1] 48)):=(Below.refl _ w).alloc (Nat.le_refl _) _
 have e1:=heap_alloc_new w (.cells #[.int .i64 f1,.int .i64 u1] 48)
 obtain⟨A1,hA1⟩:∃ V,V=w.alloc (.cells #[.int .i64 f1,.int .i64 u1] 48):=⟨_,rfl⟩
 have z1:A1.heap.size=w.heap.size+1:=by rw[hA1,World.size_alloc]
 rw[<- hA1] at e1 hW0 b1
 have b2:Below A1.heap.size A1 (A1.alloc (.cells #[.int .i64 f2,.int .i64 u2] 48)):=(Below.refl _ _).alloc (Nat.le_refl _) _
 have e2:=heap_alloc_new A1 (.cells #[.int .i64 f2,.int .i64 u2] 48)
 obtain⟨A2,hA2⟩:∃ V,V=A1.alloc (.cells #[.int .i64 f2,.int .i64 u2] 48):=⟨_,rfl⟩
 have z2:A2.heap.size=w.heap.size+2:=by rw[hA2,World.size_alloc,z1]
 rw[<- hA2] at e2 hW0 b2
 have b3:Below A2.heap.size A2 W0:=by rw[hW0];exact (Below.refl _ _).alloc (Nat.le_refl _) _
 have e3:W0.heap[A2.heap.size]? = some (.cells #[.int .i64 0,.int .i64 0] 48):=by rw[hW0];exact heap_alloc_new A2 _
 have z3:W0.heap.size=w.heap.size+3:=by rw[hW0,World.size_alloc,z2]
 have HB:Hid (Below w.heap.size w W0):=Lib.hid (b1.trans ((b2.mono (by omega)).trans (b3.mono (by omega))))
 rw[z1] at e2
 rw[z2] at e3
 have HP:Hid (∀ V,Below W0.heap.size W0 V->V.cell? ⟨w.heap.size,0,none⟩=some (.int .i64 f1)/\V.cell? ⟨w.heap.size,1,none⟩=some (.int .i64 u1)/\V.cell? ⟨w.heap.size+1,0,none⟩=some (.int .i64 f2)/\V.cell? ⟨w.heap.size+1,1,none⟩=some (.int .i64 u2)/\V.heap[w.heap.size+1+1]? = some (.cells #[.int .i64 0,.int .i64 0] 48)):=Lib.hid fun V hb=>by
  have k1:V.heap[w.heap.size]? = some (.cells #[.int .i64 f1,.int .i64 u1] 48):=(hb.block _ (by omega)).trans ((b3.block _ (by omega)).trans ((b2.block _ (by omega)).trans e1))
  have k2:V.heap[w.heap.size+1]? = some (.cells #[.int .i64 f2,.int .i64 u2] 48):=(hb.block _ (by omega)).trans ((b3.block _ (by omega)).trans e2)
  have k3:V.heap[w.heap.size+2]? = some (.cells #[.int .i64 0,.int .i64 0] 48):=(hb.block _ (by omega)).trans e3
  refine⟨?_,?_,?_,?_,k3⟩ <;> (unfold World.cell?;first | (rw[k1];rfl) | (rw[k2];rfl))
 have HW0:Hid (W0=((w.alloc (.cells #[.int .i64 f1,.int .i64 u1] 48)).alloc (.cells #[.int .i64 f2,.int .i64 u2] 48)).alloc (.cells #[.int .i64 0,.int .i64 0] 48)):=Lib.hid (by rw[hW0,hA2,hA1])
 have HZ:Hid (w.heap.size<=W0.heap.size):=Lib.hid HB.out.size
 obtain⟨p1,p2,p3,p4,-⟩:=HP.out W0 (Below.refl _ _)
 clear hW0 hA1 hA2 b1 b2 b3 e1 e2 e3 z1 z2 z3
 unfold meetB
 rw[h2] at HR2
 clear h2
 cases hb:winB f1 u1 with
 | false =>
  rw[hb] at HR1
  clear hb HR2 HW
  simp only[Bool.false_and,Bool.false_eq_true,if_false]
  go_enter Tryz.func163,Tryz.ntmps163
  go_upto_region 1 with (fail)
  rw[<- HW0.out]
  go_wp2_with (go_at_call 113;refine (HR1.out _).mono ?_;rintro e w1 ⟨rfl,hb1⟩;have B1:=Lib.hid hb1;obtain⟨-,-,-,-,k5⟩:=HP.out w1 hb1;have K5:=Lib.hid k5;have c0:w1.cell? ⟨w.heap.size+1+1,0,none⟩=some (.int .i64 0):=(by unfold World.cell?;rw[k5];rfl);have c1:w1.cell? ⟨w.heap.size+1+1,1,none⟩=some (.int .i64 0):=(by unfold World.cell?;rw[k5];rfl);have d0:w1.frozen? ⟨w.heap.size+1+1,0,none⟩=false:=(by unfold World.frozen?;rw[k5];simp);have d1:w1.frozen? ⟨w.heap.size+1+1,1,none⟩=false:=(by unfold World.frozen?;rw[k5];simp);clear hb1 k5)
  refine bodyPost_ret (results_cell_tmp1 (P:=Tryz.prog) (fn:=Tryz.f163) (p:=4) (u:=5) (ty:=48) rfl _ _ (w.heap.size+1+1) 48 _ (0,0) _ rfl (win_two K5.out _ _) Tryz.underlying48 rfl (by kernel_rfl)) rfl ?_
  exact⟨rfl,((HB.out.trans (B1.out.mono HZ.out)).setCell (p:=⟨w.heap.size+1+1,0,none⟩) (by show _<=w.heap.size+1+1;omega) _).setCell (p:=⟨w.heap.size+1+1,1,none⟩) (by show _<=w.heap.size+1+1;omega) _⟩
 | true =>
  rw[hb] at HR1
  clear hb
  by_cases hm:max f1 f2 < min u1 u2
  ·rw[decide_eq_true hm] at HW ⊢
   rw[if_pos hm,if_pos hm] at HW
   simp only[Bool.true_and,if_true]
   clear hm
   go_enter Tryz.func163,Tryz.ntmps163
   go_upto_region 1 with (fail)
   rw[<- HW0.out]
   go_wp2_with (first | (go_at_call 113;refine (HR1.out _).mono ?_;rintro e w1 ⟨rfl,hb1⟩;clear HR1;have B1:=Lib.hid hb1;obtain⟨q1,q2,q3,q4,-⟩:=HP.out w1 hb1;clear hb1) | (go_at_call 113;refine (HR2.out _).mono ?_;rintro e w2 ⟨rfl,hb2⟩;clear HR2;have B2:=Lib.hid (B1.out.trans (hb2.mono B1.out.size));obtain⟨r1,r2,r3,r4,-⟩:=HP.out w2 B2.out;clear hb2) | (go_at_call 191;refine (HW.out _).mono ?_;rintro e w3 ⟨rfl,hb3⟩;have B3:=Lib.hid (B2.out.trans (hb3.mono B2.out.size));obtain⟨-,-,-,-,k5⟩:=HP.out w3 B3.out;have K5:=Lib.hid k5;have c0:w3.cell? ⟨w.heap.size+1+1,0,none⟩=some (.int .i64 0):=(by unfold World.cell?;rw[k5];rfl);have c1:w3.cell? ⟨w.heap.size+1+1,1,none⟩=some (.int .i64 0):=(by unfold World.cell?;rw[k5];rfl);have d0:w3.frozen? ⟨w.heap.size+1+1,0,none⟩=false:=(by unfold World.frozen?;rw[k5];simp);have d1:w3.frozen? ⟨w.heap.size+1+1,1,none⟩=false:=(by unfold World.frozen?;rw[k5];simp);clear hb3 k5))
   refine bodyPost_ret (results_cell_tmp1 (P:=Tryz.prog) (fn:=Tryz.f163) (p:=4) (u:=5) (ty:=48) rfl _ _ (w.heap.size+1+1) 48 _ (0,0) _ rfl (win_two K5.out _ _) Tryz.underlying48 rfl (by kernel_rfl)) rfl ?_
   exact⟨rfl,((HB.out.trans (B3.out.mono HZ.out)).setCell (p:=⟨w.heap.size+1+1,0,none⟩) (by show _<=w.heap.size+1+1;omega) _).setCell (p:=⟨w.heap.size+1+1,1,none⟩) (by show _<=w.heap.size+1+1;omega) _⟩
  ·rw[decide_eq_false hm] at HW ⊢
   rw[if_neg hm,if_neg hm] at HW
   simp only[Bool.true_and,Bool.false_eq_true,if_false]
   clear hm
   go_enter Tryz.func163,Tryz.ntmps163
   go_upto_region 1 with (fail)
   rw[<- HW0.out]
   go_wp2_with (first | (go_at_call 113;refine (HR1.out _).mono ?_;rintro e w1 ⟨rfl,hb1⟩;clear HR1;have B1:=Lib.hid hb1;obtain⟨q1,q2,q3,q4,-⟩:=HP.out w1 hb1;clear hb1) | (go_at_call 113;refine (HR2.out _).mono ?_;rintro e w2 ⟨rfl,hb2⟩;clear HR2;have B2:=Lib.hid (B1.out.trans (hb2.mono B1.out.size));obtain⟨r1,r2,r3,r4,-⟩:=HP.out w2 B2.out;clear hb2) | (go_at_call 191;refine (HW.out _).mono ?_;rintro e w3 ⟨rfl,hb3⟩;have B3:=Lib.hid (B2.out.trans (hb3.mono B2.out.size));obtain⟨-,-,-,-,k5⟩:=HP.out w3 B3.out;have K5:=Lib.hid k5;have c0:w3.cell? ⟨w.heap.size+1+1,0,none⟩=some (.int .i64 0):=(by unfold World.cell?;rw[k5];rfl);have c1:w3.cell? ⟨w.heap.size+1+1,1,none⟩=some (.int .i64 0):=(by unfold World.cell?;rw[k5];rfl);have d0:w3.frozen? ⟨w.heap.size+1+1,0,none⟩=false:=(by unfold World.frozen?;rw[k5];simp);have d1:w3.frozen? ⟨w.heap.size+1+1,1,none⟩=false:=(by unfold World.frozen?;rw[k5];simp);clear hb3 k5))
   refine bodyPost_ret (results_cell_tmp1 (P:=Tryz.prog) (fn:=Tryz.f163) (p:=4) (u:=5) (ty:=48) rfl _ _ (w.heap.size+1+1) 48 _ (0,0) _ rfl (win_two K5.out _ _) Tryz.underlying48 rfl (by kernel_rfl)) rfl ?_
   exact⟨rfl,((HB.out.trans (B3.out.mono HZ.out)).setCell (p:=⟨w.heap.size+1+1,0,none⟩) (by show _<=w.heap.size+1+1;omega) _).setCell (p:=⟨w.heap.size+1+1,1,none⟩) (by show _<=w.heap.size+1+1;omega) _⟩
end Go.Proofs.YtgplnekpgdhcpaaGreat
