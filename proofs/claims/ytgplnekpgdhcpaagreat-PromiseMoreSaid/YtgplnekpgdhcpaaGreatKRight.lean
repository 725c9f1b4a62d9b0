/- slices.DeleteFunc: what its row and its worlds are. slices.IndexFunc at api.Line: walks. (Printed by gen/idx.py.) flow.Fits: its walk; what the document's Fill ends with. pick.line: its walk. pick.Pick$2: what is left of the lots: its walk. Lists of texts that are lent. What an item may be, by the program. -/
import Derived.Test.YtgplnekpgdhcpaaGreatQBridge
import Derived.Test.YtgplnekpgdhcpaaGreatQFillW
import Derived.Lib.SlKept
import Derived.Shelf.SlSortCmp.KitK
import Derived.Test.YtgplnekpgdhcpaaGreatQLine
import Derived.Test.YtgplnekpgdhcpaaGreatQFillQ
import Derived.Shelf.SlLaysF0
import Derived.Test.YtgplnekpgdhcpaaGreatQFill
import Derived.Test.YtgplnekpgdhcpaaGreatQPick
import Derived.Laws.OwnMore
import Derived.Test.YtgplnekpgdhcpaaGreatQEnds
import Derived.Laws.StructEq
import Derived.Test.YtgplnekpgdhcpaaGreatTxA
import Derived.Laws.IdiomStrings
import Derived.Test.YtgplnekpgdhcpaaGreatKMap
namespace Go.Proofs.YtgplnekpgdhcpaaGreat
open Go.RowKit Go.Sort Go.Lib Go.Shelf
theorem setCells_append (b:Nat):∀ (vs us:List Value) (o:Nat) (w:World),w.setCells b o (vs ++ us)=(w.setCells b o vs).setCells b (o+vs.length) us
 | [],us,o,w=>rfl
 | v :: r,us,o,w=>by
  rw[List.cons_append,World.setCells,World.setCells,setCells_append b r us (o+1),List.length_cons,show o+1+r.length=o+(r.length+1) by omega]
section
variable {α:Type} [Inhabited α] {enc:α->List Value} {k:Nat}
theorem flatK_set (hk:∀ x,(enc x).length=k) (d:Array α) (i:Nat) (y:α) (hi:i < d.size):setMany (flatK enc k d) (i * k) (enc y)=flatK enc k (d.setIfInBounds i y):=by
 refine ext_get! (by simp) fun t ht=>?_
 have ht':t < d.size * k:=by simpa using ht
 have k0:0 < k:=by
  rcases Nat.eq_zero_or_pos k with h | h
  ·subst h;simp at ht'
  ·exact h
 have htk:t / k < d.size:=Nat.div_lt_of_lt_mul (by rw[Nat.mul_comm];exact ht')
 rw[get_setMany _ _ _ t (by simpa using ht'),get_flatK _ _ _ t ht',get_flatK _ _ _ t (by simpa using ht'),hk]
 by_cases a:t / k=i
 ·have m:t - i * k=t % k:=by rw[<- a,Nat.mod_eq_sub_div_mul]
  rw[if_pos ((blk_iff k i t k0).2 a),m,a]
  simp[getElem!_pos,hi]
 ·rw[if_neg (fun h=>a ((blk_iff k i t k0).1 h)),getElem!_pos d _ htk,getElem!_pos (d.setIfInBounds i y) _ (by simpa using htk),Array.getElem_setIfInBounds_ne htk (Ne.symm a)]
variable {w0 W:World} {blk off:Nat} {dk:Array α}
theorem SWK_set (hk:∀ x,(enc x).length=k) (hb:blk < w0.heap.size) (h:SWK enc k w0 blk off dk W) (i:Nat) (hi:i < dk.size) (y:α):SWK enc k w0 blk off (dk.setIfInBounds i y) (W.setCells blk (off+i * k) (enc y)):=by
 obtain⟨n,os,rfl⟩:=h
 refine⟨n,os,?_⟩
 have b:i * k+k<=dk.size * k:=by
  have:=Nat.mul_le_mul_right k (show i+1<=dk.size from hi);rwa [Nat.add_mul,Nat.one_mul] at this
 unfold sortWorldK
 rw[setCells_grow os blk _ _ _ (by rw[size_putRowK];exact hb)]
 unfold putRowK
 rw[setCells_putRow _ _ _ _ _ _ (by rw[hk,size_flatK];exact b),flatK_set hk dk i y hi]
theorem SWK_lay (hk:∀ x,(enc x).length=k) (hb:blk < w0.heap.size):∀ (ys:List α) (dk:Array α) (W:World) (i:Nat),i+ys.length<=dk.size->SWK enc k w0 blk off dk W->SWK enc k w0 blk off (lay dk i ys) (W.setCells blk (off+i * k) (ys.flatMap enc))
 | [],dk,W,i,_,h=>h
 | y :: r,dk,W,i,hi,h=>by
  have hl:i+(r.length+1)<=dk.size:=by simpa using hi
  rw[List.flatMap_cons,setCells_append,hk,lay,show off+i * k+k=off+(i+1) * k by rw[Nat.add_mul,Nat.one_mul];omega]
  exact SWK_lay hk hb r _ _ _ (by simp;omega) (SWK_set hk hb h i (by omega) y)
end
section
variable {α:Type} [Inhabited α] {E:El α}
theorem zeroCells_rep (x:α) (n:Nat):(Builtin.zeroCells (E.enc x).toArray n).toList=(List.replicate n x).flatMap E.enc:=by
 have hs:(E.enc x).toArray.size=E.k:=by simp[E.len]
 apply List.ext_getElem?
 intro t
 have hl:((List.replicate n x).flatMap E.enc).length=n * E.k:=by have:=E.cells_len (List.replicate n x);rw[List.length_replicate] at this;exact this
 by_cases ht:t < n * E.k
 ·have hk:=E.kpos
  have hi:t / E.k < n:=Nat.div_lt_of_lt_mul (by rw[Nat.mul_comm];exact ht)
  have hm:t % E.k < E.k:=Nat.mod_lt _ hk
  have hat:=E.cells_at (List.replicate n x) (t / E.k) (t % E.k) (by simpa using hi) hm
  rw[Nat.div_add_mod' t E.k] at hat
  have e2:(List.replicate n x).getD (t / E.k) default=x:=by simp[List.getD_eq_getElem?_getD,hi]
  rw[e2] at hat
  show _=(E.cells (List.replicate n x))[t]?
  rw[hat]
  have hl2:=E.len x
  unfold Builtin.zeroCells
  rw[hs]
  simp only[Array.getElem?_toList,Array.getElem?_map,Array.getElem?_range,ht,if_true,Option.map_some]
  rw[List.getElem?_eq_getElem (by omega),getElem!_pos _ _ (by simp;omega)]
  simp
 ·rw[List.getElem?_eq_none (by unfold Builtin.zeroCells;rw[hs];simp;omega),List.getElem?_eq_none (by rw[hl];omega)]
end
end Go.Proofs.YtgplnekpgdhcpaaGreat
namespace Go.Proofs.YtgplnekpgdhcpaaGreat
open Go.RowKit Go.Shelf
structure IxLine (P:Program):Prop where
 fI:P.funcs[61]? = some Tryz.f61
 t3:P.underlying 3=some (TypeDesc.int IntKind.i64)
 a3:∀ w,(isAgg 3).run P w = .ok false w
 z3:∀ w,(Go.sizeOf 3).run P w = .ok 1 w
 v3:∀ w,(zeroValue 3).run P w = .ok (Value.int IntKind.i64 0) w
 t4:P.underlying 4=some (TypeDesc.bool)
 a4:∀ w,(isAgg 4).run P w = .ok false w
 z4:∀ w,(Go.sizeOf 4).run P w = .ok 1 w
 v4:∀ w,(zeroValue 4).run P w = .ok (Value.bool false) w
 t22:P.underlying 24=some (TypeDesc.slice 29)
 a22:∀ w,(isAgg 24).run P w = .ok false w
 z22:∀ w,(Go.sizeOf 24).run P w = .ok 1 w
 v22:∀ w,(zeroValue 24).run P w = .ok (Value.slice none 0 0) w
 a25:∀ w,(isAgg 41).run P w = .ok false w
 z25:∀ w,(Go.sizeOf 41).run P w = .ok 1 w
 v25:∀ w,(zeroValue 41).run P w = .ok (Value.nilFunc) w
 aE:∀ w,(isAgg 29).run P w = .ok true w
 zE:∀ w,(Go.sizeOf 29).run P w = .ok 8 w
theorem ixLine_laid:IxLine Tryz.prog where
 fI:=Tryz.func61
 t3:=Tryz.underlying3
 a3:=Tryz.isAgg3
 z3:=Tryz.sizeOf3
 v3:=Tryz.zeroValue3
 t4:=Tryz.underlying4
 a4:=Tryz.isAgg4
 z4:=Tryz.sizeOf4
 v4:=Tryz.zeroValue4
 t22:=Tryz.underlying24
 a22:=Tryz.isAgg24
 z22:=Tryz.sizeOf24
 v22:=Tryz.zeroValue24
 a25:=Tryz.isAgg41
 z25:=Tryz.sizeOf41
 v25:=Tryz.zeroValue41
 aE:=Tryz.isAgg29
 zE:=Tryz.sizeOf29
section
variable {P:Program}
set_option maxHeartbeats 1000000 in
theorem indexLine_any (L:IxLine P) (p:LineV->Bool) (fn:Nat) (cb:Array Value) (eg:∀ args w,(callFunc fn args).run P w = .ok (.enter fn args) w) (B:Nat) (a:Option Addr) (n c:Nat) (X:List LineV) (w:World) (h:lineE.In B w a n c X) (hB:B<=w.heap.size)
  (hp:∀ (W:World) (x:LineV),Below w.heap.size w W->lineE.ok x->Calls P fn (#[.agg #[.int .i64 x.id,encStr x.item,.int .i64 x.qty,.int .i64 x.asked,.int .i64 x.rank,.int .u8 x.st,.int .i64 x.day,encStr x.code]] ++ cb) W fun e w'=>e = .returned (.bool (p x))/\Below W.heap.size W w') :
  Calls P 61 #[.slice a n c,.func (.func fn) #[] cb] w fun e w'=>e = .returned (.int .i64 (idxI p X))/\Below w.heap.size w w':=by
 generalize hr:idxI p X=r
 have HQ:=Lib.hid hr
 clear hr
 have hle:=h.le;have hmx:=h.mx
 have Hln:=Lib.hid h.len
 have H:=Lib.hid h
 have HP:=Lib.hid hp
 clear h hp
 have t3:=L.t3;have a3:=L.a3;have z3:=L.z3;have v3:=L.v3;have t4:=L.t4;have a4:=L.a4;have z4:=L.z4;have v4:=L.v4;have t22:=L.t22;have a22:=L.a22;have z22:=L.z22;have v22:=L.v22;have a25:=L.a25;have z25:=L.z25;have v25:=L.v25;have aE:=L.aE;have zE:=L.zE
 have u3:=run_underlying L.t3;have u4:=run_underlying L.t4;have u22:=run_underlying L.t22
 have FG:=L.fI
 go_enter FG,Tryz.ntmps61
 go_wp2_with (fail)
 go_loopw [8] (fun i wr=>∃ j:Nat,j<=n/\i = .int .i64 j/\Hid (∀ k,k < j->p (X.getD k default)=false)/\Hid (Below w.heap.size w wr)) (fun i _=>n - (intOf i).toNat)
 case atStart=>exact⟨0,Nat.zero_le _,rfl,Lib.hid (fun k hk=>absurd hk (Nat.not_lt_zero _)),Lib.hid (Below.refl _ _)⟩
 case round =>
  obtain⟨j,hj,rfl,hno,Hb⟩:=hrel
  by_cases hlt:j < n
  ·obtain⟨b,o,rfl,-,hc⟩:=lineE_at (H.out.below (Hb.out.mono hB)) (by omega)
   obtain⟨g0,g1,g2,g3,g4,g5,g6,g7⟩:=hc j hlt
   have hok:=H.out.ok_at hlt
   clear hc
   have HC:=Lib.hid (HP.out wr (X.getD j default) Hb.out hok)
   clear hok
   cases hpx:p (X.getD j default) with
   | true =>
    have hX:=Lib.hid (idxI_some (by rw[<- Hln.out];exact hlt) hno.out hpx)
    rw[hpx] at HC
    clear hpx
    generalize X.getD j default=x at g0 g1 g2 g3 g4 g5 g6 g7 HC
    obtain⟨x_id,x_item,x_qty,x_asked,x_rank,x_st,x_day,x_code⟩:=x
    simp only at g0 g1 g2 g3 g4 g5 g6 g7 HC
    go_wp2_with (go_at_fn fn;refine HC.out.mono ?_;rintro e w9 ⟨rfl,hb9⟩)
    go_ret
    exact⟨by rw[<- HQ.out,hX.out];rfl,Hb.out.trans (hb9.mono Hb.out.size)⟩
   | false =>
    have hX:=Lib.hid (hpx)
    rw[hpx] at HC
    clear hpx
    have Hno:=Lib.hid (idx_more hno.out hX.out)
    clear hX
    generalize X.getD j default=x at g0 g1 g2 g3 g4 g5 g6 g7 HC
    obtain⟨x_id,x_item,x_qty,x_asked,x_rank,x_st,x_day,x_code⟩:=x
    simp only at g0 g1 g2 g3 g4 g5 g6 g7 HC
    go_wp2_with (go_at_fn fn;refine HC.out.mono ?_;rintro e w9 ⟨rfl,hb9⟩;have B9:=Lib.hid (Hb.out.trans (hb9.mono Hb.out.size));clear hb9)
    go_roundw
    case rel=>exact⟨j+1,by omega,by go_num,Hno,B9⟩
    case measure=>simp[intOf];omega
  ·have hge:j=n:=by omega
   have hnn:=Lib.hid (idxI_none (by rw[<- Hln.out,<- hge];exact hno.out))
   go_wp2_with (fail)
   go_ret
   exact⟨by rw[<- HQ.out,hnn.out];rfl,Hb.out⟩
end
end Go.Proofs.YtgplnekpgdhcpaaGreat
namespace Go.Proofs.YtgplnekpgdhcpaaGreat
open Go.RowKit Go.Sort Go.Shelf
set_option maxHeartbeats 2000000 in
theorem fits_any (B:Nat) (a a2:Option Addr) (n c n2 c2:Nat) (L:List LotV) (W:List WantV) (w:World) (hl:lotE.In B w a n c L) (hw:wantE.In B w a2 n2 c2 W) (hB:B<=w.heap.size) (hn:n<=100000000) :
  Calls Tryz.prog 22 #[.slice a n c,.slice a2 n2 c2] w fun e w'=>e = .returned (.bool (fillX L W).isSome)/\Below w.heap.size w w':=by
 have HF:=Lib.hid (fill_any B a a2 n c n2 c2 L W w hl hw hB hn)
 have hle:=hl.le;have hmx:=hl.mx;have hle2:=hw.le;have hmx2:=hw.mx
 clear hl hw
 unfold FillPost at HF
 generalize fillX L W=R at HF ⊢
 cases R with
 | none =>
  simp only at HF
  go_enter Tryz.func22,Tryz.ntmps22
  go_wp2_with (go_at_call 53;refine HF.out.mono ?_;rintro e w9 ⟨hb9,rfl⟩)
  go_ret
  exact⟨rfl,hb9⟩
 | some p =>
  obtain⟨U,f⟩:=p
  simp only at HF
  go_enter Tryz.func22,Tryz.ntmps22
  go_wp2_with (go_at_call 53;refine HF.out.mono ?_;rintro e w9 ⟨hb9,v,mb,cnt,rfl,ho9,hm9,hc9⟩;obtain⟨va,vc,hv,-,-,-⟩:=ho9.form;subst hv)
  go_ret
  exact⟨rfl,hb9⟩
end Go.Proofs.YtgplnekpgdhcpaaGreat
namespace Go.Proofs.YtgplnekpgdhcpaaGreat
open Go.RowKit Go.Shelf
def stObj (now nl nx:Int) (v1 v2 v3:Value):Obj:=.cells #[.int .i64 now,.int .i64 nl,.int .i64 nx,v1,v2,v3] 26
theorem stObj_cells {w:World} {p:Nat} {now nl nx:Int} {v1 v2 v3:Value} (h:w.heap[p]? = some (stObj now nl nx v1 v2 v3)):w.cell? ⟨p,0,none⟩=some (.int .i64 now)/\w.cell? ⟨p,1,none⟩=some (.int .i64 nl)/\w.cell? ⟨p,2,none⟩=some (.int .i64 nx)/\w.cell? ⟨p,3,none⟩=some v1/\w.cell? ⟨p,4,none⟩=some v2/\w.cell? ⟨p,5,none⟩=some v3:=by
 unfold stObj at h
 refine⟨?_,?_,?_,?_,?_,?_⟩ <;> (unfold World.cell?;rw[h];rfl)
end Go.Proofs.YtgplnekpgdhcpaaGreat
namespace Go.Proofs.YtgplnekpgdhcpaaGreat
open Go.RowKit Go.Sort Go.Lib Go.Shelf
theorem st_frozen {w:World} {p:Nat} {now nl nx:Int} {v1 v2 v3:Value} (h:w.heap[p]? = some (stObj now nl nx v1 v2 v3)) (k:Nat):w.frozen? ⟨p,k,none⟩=false:=by
 unfold stObj at h
 unfold World.frozen?
 rw[h]
 simp
theorem setCell_block (w:World) (p k:Nat) (v:Value) {b:Nat} (hb:b≠p):(w.setCell ⟨p,k,none⟩ v).heap[b]? = w.heap[b]?:=by
 rw[setCell_eq]
 simp[mapBlock,Array.getElem?_modify,Ne.symm hb]
theorem below_set {B:Nat} {w w1:World} (h:Below B w w1) (p k:Nat) (v:Value) (hp:B<=p):Below B w (w1.setCell ⟨p,k,none⟩ v) :=
 ⟨h.os,h.tape,h.output,by rw[setCell_eq];simpa [mapBlock] using h.size,fun b hb=>by rw[setCell_block _ _ _ _ (by omega)];exact h.block b hb⟩
end Go.Proofs.YtgplnekpgdhcpaaGreat
namespace Go.Proofs.YtgplnekpgdhcpaaGreat
open Go.RowKit
def OT (base:Nat) (w:World) (v:Value) (L:List (List UInt8)):Prop:=w.ownsRow base 9 1 v L.length (L.map encStr)
end Go.Proofs.YtgplnekpgdhcpaaGreat
namespace Go.Proofs.YtgplnekpgdhcpaaGreat
open Go.RowKit
def met (P:List Pt) (i:Nat):List UInt8->Value:=fun s=>.int .i64 (if s∈(P.take i).map (·.1) then 1 else 0)
theorem mem_take {P:List Pt} {i:Nat} (hi:i<=P.length) (s:List UInt8):s∈(P.take i).map (·.1)↔∃ k,k < i/\(P.getD k default).1=s:=by
 rw[List.mem_map]
 constructor
 ·rintro⟨p,hp,rfl⟩
  obtain⟨k,hk,rfl⟩:=List.getElem_of_mem hp
  rw[List.length_take] at hk
  refine⟨k,by omega,?_⟩
  rw[List.getD_eq_getElem?_getD,List.getElem?_eq_getElem (by omega),List.getElem_take]
  rfl
 ·rintro⟨k,hk,rfl⟩
  refine⟨P.getD k default,?_,rfl⟩
  rw[List.getD_eq_getElem?_getD,List.getElem?_eq_getElem (by omega)]
  exact List.mem_take_iff_getElem.2 ⟨k,by omega,rfl⟩
theorem met_zero (P:List Pt):met P 0=fun _=>.int .i64 0:=by
 funext s
 simp[met]
theorem met_next {P:List Pt} {i:Nat} (hi:i < P.length) (hno:∀ k,k < i->(P.getD k default).1≠(P.getD i default).1):setO (met P i) (P.getD i default).1 (.int .i64 1)=met P (i+1):=by
 funext s
 unfold met
 by_cases e:s=(P.getD i default).1
 ·subst e
  rw[setO_same,if_pos ((mem_take (by omega) _).2 ⟨i,by omega,rfl⟩)]
 ·rw[setO_other _ e]
  congr 1
  have:s∈(P.take i).map (·.1)↔s∈(P.take (i+1)).map (·.1):=by
   rw[mem_take (by omega),mem_take (by omega)]
   constructor
   ·rintro⟨k,hk,h⟩;exact⟨k,by omega,h⟩
   ·rintro⟨k,hk,h⟩
    by_cases hki:k=i
    ·subst hki;exact absurd h.symm e
    ·exact⟨k,by omega,h⟩
  simp only[this]
theorem met_new {P:List Pt} {i:Nat} (hi:i<=P.length) {s:List UInt8} (hno:∀ k,k < i->(P.getD k default).1≠s):met P i s = .int .i64 0:=by
 unfold met
 rw[if_neg (fun h=>by obtain⟨k,hk,e⟩:=(mem_take hi s).1 h;exact hno k hk e)]
theorem met_old {P:List Pt} {i:Nat} (hi:i<=P.length) {s:List UInt8} {k:Nat} (hk:k < i) (e:(P.getD k default).1=s):met P i s = .int .i64 1:=by
 unfold met
 rw[if_pos ((mem_take hi s).2 ⟨k,hk,e⟩)]
theorem pair_cells (w:World) (u v:Value):(w.alloc (.cells #[u,v] 74)).heap[w.heap.size]? = some (.cells #[u,v] 74):=heap_alloc_new _ _
theorem pair_at {W:World} {g:Nat} {u v:Value} (h:W.heap[g]? = some (.cells #[u,v] 74)):W.cell? ⟨g,0,none⟩=some u/\W.cell? ⟨g,1,none⟩=some v:=by
 exact⟨by unfold World.cell?;rw[h];rfl,by unfold World.cell?;rw[h];rfl⟩
set_option maxHeartbeats 4000000 in
set_option maxRecDepth 100000 in
theorem right_any (B:Nat) (x:It) (w:World) (hx:ItOk B w x) (hB:B<=w.heap.size):Calls Tryz.prog 115 #[x.val] w fun e w'=>e = .returned (.bool (okShape x.life x.ps))/\Below w.heap.size w w':=by
 obtain⟨c1,c2⟩:=box_cells w x
 have hb1:Below w.heap.size w (w.alloc (.cells #[encStr x.code,.int .i64 x.life,.slice x.pa x.ps.length x.pc,.slice x.oa x.os.length x.oc] 87)):=(Below.refl _ w).alloc (Nat.le_refl _) _
 have hrp:=(hx.rp.below (hb1.mono hB)).mono hB
 unfold It.val
 obtain⟨cd,hcd⟩:∃ v,v=encStr x.code:=⟨_,rfl⟩
 rw[<- hcd] at c1 c2 hb1 hrp ⊢
 obtain⟨W1,hW1⟩:∃ W,W=w.alloc (.cells #[cd,.int .i64 x.life,.slice x.pa x.ps.length x.pc,.slice x.oa x.os.length x.oc] 87):=⟨_,rfl⟩
 have hs1:W1.heap.size=w.heap.size+1:=by rw[hW1,World.size_alloc]
 rw[<- hW1] at c1 c2 hb1 hrp
 have hle:=hrp.le
 have hmx:=hrp.mx
 have hlo:=hx.lo
 have hhi:=hx.hi
 obtain⟨gb,hgb⟩:∃ g,g=w.heap.size:=⟨_,rfl⟩
 rw[<- hgb] at c1 c2 hrp hb1 hs1
 have HP:=Lib.hid hrp
 have B1:=Lib.hid hb1
 have C1:=Lib.hid c1
 have C2:=Lib.hid c2
 clear hx hrp hb1 hcd
 have hmk:=@run_makeMap Tryz.prog
 go_enter Tryz.func115,Tryz.ntmps115
 go_upto_region 1 with (fail)
 rw[<- hW1,<- hgb]
 have HG:=Lib.hid hgb
 clear hW1 hgb
 obtain⟨np,hnp⟩:∃ m,m=x.ps.length:=⟨_,rfl⟩
 obtain⟨lf,hlf⟩:∃ m,m=x.life:=⟨_,rfl⟩
 rw[<- hnp] at c2 hle C2
 rw[<- hlf] at c1 hlo hhi C1
 have HNP:=Lib.hid hnp
 have HLF:=Lib.hid hlf
 clear hnp hlf
 by_cases h0:np=0
 ·have e0:((np:Int) == 0)=true:=by simp;omega
  have ho:=Lib.hid (show okShape x.life x.ps=decide (1<=lf/\lf<=2000) by unfold okShape;rw[if_pos (by rw[<- HNP.out];exact h0),HLF.out])
  clear h0
  by_cases h1:0 < lf
  ·have e1:decide (0 < lf)=true:=by simp;omega
   by_cases h2:lf<=2000
   ·have e2:decide (lf<=2000)=true:=by simp;omega
    have hf:=Lib.hid (show decide (1<=lf/\lf<=2000)=true by simp;omega)
    clear h1 h2
    go_wp2_with (fail)
    go_ret
    exact⟨by rw[ho.out,hf.out];rfl,HG.out ▸ B1.out⟩
   ·have e2:decide (lf<=2000)=false:=by simp;omega
    have hf:=Lib.hid (show decide (1<=lf/\lf<=2000)=false by simp;omega)
    clear h1 h2
    go_wp2_with (fail)
    go_ret
    exact⟨by rw[ho.out,hf.out];rfl,HG.out ▸ B1.out⟩
  ·have e1:decide (0 < lf)=false:=by simp;omega
   have hf:=Lib.hid (show decide (1<=lf/\lf<=2000)=false by simp;omega)
   clear h1
   go_wp2_with (fail)
   go_ret
   exact⟨by rw[ho.out,hf.out];rfl,HG.out ▸ B1.out⟩
 ·have e0:((np:Int) == 0)=false:=by simp;omega
  have HNZ:=Lib.hid (show x.ps.length≠0 by rw[<- HNP.out];exact h0)
  clear h0
  obtain⟨b,o,hpa,hbB,-⟩:=HP.out.part (i:=0) (by have:=HNZ.out;omega)
  rw[hpa] at c2 C2
  have HPA:=Lib.hid hpa
  clear hpa
  have hM0:=Lib.hid (MF.made W1 (.int .i64 0))
  have hB0:Hid (Below (gb+1) W1 (W1.alloc (.map #[] 0))):=Lib.hid ((Below.refl _ W1).alloc (by rw[hs1];exact Nat.le_refl _) _)
  rw[met_zero x.ps |>.symm] at hM0
  rw[hs1] at hM0
  go_upto_region 4 with (fail)
  go_wp2_with (fail)
  go_loopw [22] (fun s22 wr=>∃ i:Nat,s22 = .int .i64 i/\i<=np/\Hid (MF wr (gb+1) i (.int .i64 0) (met x.ps i))/\Hid (Below (gb+1) W1 wr)/\Hid (∀ j,j < i->okPart x.ps j=true)) (fun s22 _=>np - (intOf s22).toNat)
  case atStart=>exact⟨0,rfl,by omega,hM0,hB0,Lib.hid (fun j hj=>absurd hj (Nat.not_lt_zero _))⟩
  case round =>
   obtain⟨i,rfl,hi,HM,HB,hok⟩:=hrel
   have c1':wr.cell? ⟨gb,1,none⟩=some (.int .i64 lf):=(HB.out.cell (show gb < gb+1 by omega)).trans C1.out
   have c2':wr.cell? ⟨gb,2,none⟩=some (.slice (some ⟨b,o,none⟩) np x.pc):=(HB.out.cell (show gb < gb+1 by omega)).trans C2.out
   clear c1 c2
   by_cases hin:i < np
   ·have t1:decide ((i:Int) < (np:Int))=true:=by simp;omega
    have i0:(0:Int)<=(i:Int):=by omega
    have i1:(i:Int) < (np:Int):=by omega
    have f1:IntKind.i64.wrap ((i:Int)+1)=((i+1:Nat):Int):=by rw[wrap_in (by omega) (by omega)];omega
    have hin':i < x.ps.length:=by rw[<- HNP.out];exact hin
    obtain⟨b',o',hpa',-,p0,p1⟩:=(HP.out.below (HB.out.mono (Nat.le_succ _))).part hin'
    have HIN:=Lib.hid hin'
    clear hin'
    rw[HPA.out] at hpa'
    cases hpa'
    obtain⟨pi,hpi⟩:∃ p,p=x.ps.getD i default:=⟨_,rfl⟩
    have hfn:=HP.out.fine.at_ HIN.out
    rw[<- hpi] at p0 p1 hfn
    unfold encStr at p0
    have HPI:=Lib.hid hpi
    clear hpi
    obtain⟨nm,qt⟩:=pi
    simp only at p0 p1 hfn
    obtain⟨hnl,hq0,hq9⟩:=hfn
    have HNL:=Lib.hid hnl
    clear hnl
    -- the pair's own block
    have hz:=zeroInt
    have hpc:=pair_cells wr (.string ⟨nm.toArray⟩) (.int .i64 qt)
    have hal:Below wr.heap.size wr (wr.alloc (.cells #[.string ⟨nm.toArray⟩,.int .i64 qt] 74)):=(Below.refl _ wr).alloc (Nat.le_refl _) _
    have hM2:MF (wr.alloc (.cells #[.string ⟨nm.toArray⟩,.int .i64 qt] 74)) (gb+1) i (.int .i64 0) (met x.ps i):=HM.out.below hal HM.out.lt
    have hB2:Below (gb+1) W1 (wr.alloc (.cells #[.string ⟨nm.toArray⟩,.int .i64 qt] 74)):=HB.out.alloc (by have:=HB.out.size;omega) _
    have hlk:=hM2.look Tryz.underlying113 (hz _) nm HNL.out
    have hgw:gb+1 < wr.heap.size:=HM.out.lt
    obtain⟨q0,q1⟩:=pair_at hpc
    have HM2:=Lib.hid hM2
    have HB2:=Lib.hid hB2
    have HPC:=Lib.hid hpc
    clear hz hal hM2 hB2 hpc
    by_cases htw:∃ k,k < i/\(x.ps.getD k default).1=nm
    ·obtain⟨k,hk,hkn⟩:=htw
     rw[met_old (by have:=HIN.out;omega) hk hkn] at hlk
     have ho:=Lib.hid (okShape_no (life:=x.life) HIN.out (okPart_twice hk (by rw[<- HPI.out];exact hkn)))
     clear hkn
     go_wp2_with (at_mapUpdate;refine wpList_put_mf rfl _ _ _ 113 rfl Tryz.underlying113 HM2.out (by omega) nm (.int .i64 2) rfl rfl rfl HNL.out (by simp) ?_;intro w2 hM3 hg2;have hlk2:=hM3.look Tryz.underlying113 (zeroInt _) nm HNL.out;rw[setO_same] at hlk2;obtain⟨q2,q3⟩:=pair_at ((hg2.block wr.heap.size (by rw[World.size_alloc];omega) (fun e=>by have:=Option.some.inj e;omega)).trans HPC.out);have HB3:=Lib.hid (HB2.out.grown hg2 (by rw[World.size_alloc];omega) (fun k e=>by have:=Option.some.inj e;omega));clear hM3 hg2)
     all_goals go_ret
     all_goals exact⟨by rw[ho.out];rfl,HG.out ▸ B1.out.trans (HB3.out.mono (Nat.le_succ _))⟩
    ·have hno:∀ k,k < i->(x.ps.getD k default).1≠nm:=fun k hk e=>htw ⟨k,hk,e⟩
     rw[met_new (by have:=HIN.out;omega) hno] at hlk
     have HNO:=Lib.hid hno
     clear htw hno
     by_cases hq:1<=qt/\qt<=1073741824
     ·obtain⟨hq1,hq2⟩:=hq
      have e3:decide (qt < 1)=false:=by simp;omega
      have e4:decide ((1073741824:Int) < qt)=false:=by simp;omega
      have ho:=Lib.hid (okPart_yes (P:=x.ps) (i:=i) (by rw[<- HPI.out];exact hq1) (by rw[<- HPI.out];exact hq2) (fun m hm=>by rw[<- HPI.out];exact HNO.out m hm))
      clear hq1 hq2
      go_wp2_with (at_mapUpdate;refine wpList_put_mf rfl _ _ _ 113 rfl Tryz.underlying113 HM2.out (by omega) nm (.int .i64 1) rfl rfl rfl HNL.out (by simp) ?_;intro w2 hM3 hg2;have hlk2:=hM3.look Tryz.underlying113 (zeroInt _) nm HNL.out;rw[setO_same] at hlk2;obtain⟨q2,q3⟩:=pair_at ((hg2.block wr.heap.size (by rw[World.size_alloc];omega) (fun e=>by have:=Option.some.inj e;omega)).trans HPC.out);have HB3:=Lib.hid (HB2.out.grown hg2 (by rw[World.size_alloc];omega) (fun k e=>by have:=Option.some.inj e;omega));have HM3:=Lib.hid hM3;clear hM3 hg2)
      go_roundw
      case rel=>exact⟨i+1,rfl,by omega,Lib.hid (by
       have h:=HM3.out
       have hm:=met_next HIN.out (by rw[<- HPI.out];exact HNO.out)
       rw[<- HPI.out] at hm
       simp only at hm
       rw[hm] at h
       exact h),HB3,Lib.hid (fun j hj=>if e:j < i then hok.out j e else by rw[show j=i by omega];exact ho.out)⟩
      case measure=>simp only[intOf];omega
     ·have ho:=Lib.hid (okShape_no (life:=x.life) HIN.out (okPart_qty (by rw[<- HPI.out];exact hq)))
      by_cases hq1:1<=qt
      ·have e3:decide (qt < 1)=false:=by simp;omega
       have e4:decide ((1073741824:Int) < qt)=true:=by simp;omega
       clear hq hq1
       go_wp2_with (at_mapUpdate;refine wpList_put_mf rfl _ _ _ 113 rfl Tryz.underlying113 HM2.out (by omega) nm (.int .i64 1) rfl rfl rfl HNL.out (by simp) ?_;intro w2 hM3 hg2;have hlk2:=hM3.look Tryz.underlying113 (zeroInt _) nm HNL.out;rw[setO_same] at hlk2;obtain⟨q2,q3⟩:=pair_at ((hg2.block wr.heap.size (by rw[World.size_alloc];omega) (fun e=>by have:=Option.some.inj e;omega)).trans HPC.out);have HB3:=Lib.hid (HB2.out.grown hg2 (by rw[World.size_alloc];omega) (fun k e=>by have:=Option.some.inj e;omega));clear hM3 hg2)
       go_ret
       exact⟨by rw[ho.out];rfl,HG.out ▸ B1.out.trans (HB3.out.mono (Nat.le_succ _))⟩
      ·have e3:decide (qt < 1)=true:=by simp;omega
       clear hq hq1
       go_wp2_with (at_mapUpdate;refine wpList_put_mf rfl _ _ _ 113 rfl Tryz.underlying113 HM2.out (by omega) nm (.int .i64 1) rfl rfl rfl HNL.out (by simp) ?_;intro w2 hM3 hg2;have hlk2:=hM3.look Tryz.underlying113 (zeroInt _) nm HNL.out;rw[setO_same] at hlk2;obtain⟨q2,q3⟩:=pair_at ((hg2.block wr.heap.size (by rw[World.size_alloc];omega) (fun e=>by have:=Option.some.inj e;omega)).trans HPC.out);have HB3:=Lib.hid (HB2.out.grown hg2 (by rw[World.size_alloc];omega) (fun k e=>by have:=Option.some.inj e;omega));clear hM3 hg2)
       go_ret
       exact⟨by rw[ho.out];rfl,HG.out ▸ B1.out.trans (HB3.out.mono (Nat.le_succ _))⟩
   ·have t1:decide ((i:Int) < (np:Int))=false:=by simp;omega
    have hall:=Lib.hid (okShape_yes (life:=x.life) HNZ.out (fun j hj=>hok.out j (by have:=HNP.out;omega)))
    have hfin:Below w.heap.size w wr:=HG.out ▸ B1.out.trans (HB.out.mono (Nat.le_succ _))
    have HFIN:=Lib.hid hfin
    clear hfin
    by_cases h1:lf=0
    ·have e1:(lf == 0)=true:=by simp;omega
     have H1:=Lib.hid h1
     clear h1
     by_cases h2:np<=8
     ·have e2:decide ((np:Int)<=8)=true:=by simp;omega
      have H2:=Lib.hid h2
      clear h2
      go_wp2_with (fail)
      go_ret
      exact⟨by rw[hall.out,decide_eq_true (by rw[<- HLF.out,<- HNP.out];exact⟨H1.out,H2.out⟩)];rfl,HFIN.out⟩
     ·have e2:decide ((np:Int)<=8)=false:=by simp;omega
      have H2:=Lib.hid h2
      clear h2
      go_wp2_with (fail)
      go_ret
      exact⟨by rw[hall.out,decide_eq_false (by rw[<- HLF.out,<- HNP.out];exact fun h=>H2.out h.2)];rfl,HFIN.out⟩
    ·have e1:(lf == 0)=false:=by simp;omega
     have H1:=Lib.hid h1
     clear h1
     go_wp2_with (fail)
     go_ret
     exact⟨by rw[hall.out,decide_eq_false (by rw[<- HLF.out];exact fun h=>H1.out h.1)];rfl,HFIN.out⟩
end Go.Proofs.YtgplnekpgdhcpaaGreat
