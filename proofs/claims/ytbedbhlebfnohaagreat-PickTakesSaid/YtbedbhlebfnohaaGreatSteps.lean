/- twin.Items: its walk. pick.Pick$3: the line is shipped: its walk. Laws on slices of bytes: converted to a string, compared by bytealg.Compare. Steps of a region that draws its order, each by one law: a call of a function, an operation that runs to a value. -/
import Derived.Test.YtbedbhlebfnohaaGreatQItC
import Derived.Test.YtbedbhlebfnohaaGreatQOwnS
import Derived.Test.YtbedbhlebfnohaaGreatJBase
import Derived.Lib.Bytealg
import Derived.Lib.Bytes
import Derived.Shelf.Abstract
import Derived.Deep.RegionHeld3
import Derived.Deep.AppendLies
namespace Go.Proofs.YtbedbhlebfnohaaGreat
open Go.RowKit Go.Sort Go.Lib Go.Shelf

/-- An item's twin: the same, its parts and others in memory of its own. -/
structure TI (base : Nat) (w : World) (x y : It) : Prop where
  code : y.code = x.code
  life : y.life = x.life
  ps : y.ps = x.ps
  os : y.os = x.os
  op : ptE.Own base w y.pv y.ps
  oo : txE.Own base w y.ov y.os
theorem TI.keep {base : Nat} {w w' : World} {x y : It} (h : TI base w x y) (hk : ∀ b, base ≤ b → b < w.heap.size → w'.heap[b]? = w.heap[b]?) : TI base w' x y :=
  ⟨h.code, h.life, h.ps, h.os, h.op.keep fun b e => hk b (h.op.ge b e).1 (h.op.ge b e).2, h.oo.keep fun b e => hk b (h.oo.ge b e).1 (h.oo.ge b e).2⟩
theorem TI.mono {base base' : Nat} {w : World} {x y : It} (h : TI base w x y) (hb : base' ≤ base) : TI base' w x y := ⟨h.code, h.life, h.ps, h.os, h.op.mono hb, h.oo.mono hb⟩
structure TR (w : World) (g n c : Nat) (X Y : List It) (j : Nat) (wr : World) : Prop where
  own : itE.Own w.heap.size wr (.slice (some ⟨g, 0, none⟩) n c) Y
  done : ∀ i, i < j → TI (g + 1) wr (X.getD i default) (Y.getD i default)
  left : ∀ i, j ≤ i → Y.getD i default = X.getD i default
  below : Below w.heap.size w wr
  ap : ∀ i k, i < k → k < j → (∀ b b', (Y.getD i default).pv.ownBlock = some b → (Y.getD k default).pv.ownBlock = some b' → b < b') ∧ (∀ b b', (Y.getD i default).ov.ownBlock = some b → (Y.getD k default).ov.ownBlock = some b' → b < b')
theorem own_frozen {α : Type} [Inhabited α] {E : El α} {base g n c : Nat} {w : World} {Y : List α} (h : E.Own base w (.slice (some ⟨g, 0, none⟩) n c) Y) (t : Nat) : w.frozen? ⟨g, t, none⟩ = false := by
  obtain ⟨hx, -⟩ := h.cell
  subst hx
  exact World.ownsRow.frozenAt h t
theorem getD_set_ne {α : Type} [Inhabited α] (Y : List α) {i j : Nat} (y : α) (h : i ≠ j) : (Y.set j y).getD i default = Y.getD i default := by
  rw [List.getD_eq_getElem?_getD, List.getD_eq_getElem?_getD, List.getElem?_set_ne (Ne.symm h)]
theorem getD_set_eq {α : Type} [Inhabited α] (Y : List α) {j : Nat} (y : α) (h : j < Y.length) : (Y.set j y).getD j default = y := by
  simp [List.getD_eq_getElem?_getD, h]
theorem size_setCell (w : World) (p k : Nat) (v : Value) : (w.setCell ⟨p, k, none⟩ v).heap.size = w.heap.size := by
  rw [setCell_eq]; simp [mapBlock]
theorem TR.half {w wr w2 : World} {g n c j : Nat} {X Y : List It} {x : It} {pa2 : Option Addr} {pc2 : Nat} (T : TR w g n c X Y j wr) (hj : j < n) (hx : Y.getD j default = x) (hb2 : Below wr.heap.size wr w2) :
    itE.Own w.heap.size (w2.setCell ⟨g, j * 4 + 2, none⟩ (.slice pa2 x.ps.length pc2)) (.slice (some ⟨g, 0, none⟩) n c) (Y.set j { x with pa := pa2, pc := pc2 }) ∧ Below w.heap.size w (w2.setCell ⟨g, j * 4 + 2, none⟩ (.slice pa2 x.ps.length pc2)) := by
  obtain ⟨-, -, -, k4, k5, -⟩ := T.own.cell
  have O2 := T.own.keep (W' := w2) (fun b e => hb2.block b (T.own.ge b e).2)
  refine ⟨own_setCell O2 j 2 _ _ hj (by decide) (by rw [hx]; rfl), below_set (T.below.trans (hb2.mono T.below.size)) _ _ _ k4⟩
theorem TR.step {w wr w2 V w4 : World} {g n c j : Nat} {X Y : List It} {x : It} {pa2 oa2 : Option Addr} {pc2 oc2 : Nat} (T : TR w g n c X Y j wr) (hj : j < n) (hx : Y.getD j default = x) (hX : X.getD j default = x) (hb2 : Below wr.heap.size wr w2)
    (hop : ptE.Own wr.heap.size w2 (.slice pa2 x.ps.length pc2) x.ps) (hV : V = w2.setCell ⟨g, j * 4 + 2, none⟩ (.slice pa2 x.ps.length pc2)) (hb4 : Below V.heap.size V w4) (hoo : txE.Own V.heap.size w4 (.slice oa2 x.os.length oc2) x.os) :
    TR w g n c X ((Y.set j { x with pa := pa2, pc := pc2 }).set j { x with pa := pa2, pc := pc2, oa := oa2, oc := oc2 }) (j + 1) (w4.setCell ⟨g, j * 4 + 3, none⟩ (.slice oa2 x.os.length oc2)) := by
  obtain ⟨kn, -, -, k4, k5, -⟩ := T.own.cell
  obtain ⟨O3, B3⟩ := T.half (pa2 := pa2) (pc2 := pc2) hj hx hb2
  rw [← hV] at O3 B3
  have hVs : V.heap.size = w2.heap.size := by rw [hV, size_setCell]
  have h2s := hb2.size
  have h4s := hb4.size
  have hjY : j < Y.length := by omega
  have O4 := O3.keep (W' := w4) (fun b e => hb4.block b (O3.ge b e).2)
  have hk : ∀ b, g + 1 ≤ b → b < w2.heap.size → (w4.setCell ⟨g, j * 4 + 3, none⟩ (.slice oa2 x.os.length oc2)).heap[b]? = w2.heap[b]? := fun b hb hl => by
    rw [setCell_block _ _ _ _ (by omega), hb4.block b (by omega), hV, setCell_block _ _ _ _ (by omega)]
  refine ⟨own_setCell O4 j 3 _ _ hj (by decide) (by rw [getD_set_eq _ _ hjY]; rfl), fun i hi => ?_, fun i hi => ?_, below_set (B3.trans (hb4.mono B3.size)) _ _ _ k4, fun i k hik hk2 => ?_⟩
  · by_cases e : i = j
    · subst e
      rw [getD_set_eq _ _ (by rw [List.length_set]; exact hjY), hX]
      refine ⟨rfl, rfl, rfl, rfl, (hop.mono k5).keep fun b e => hk b ?_ (hop.ge b e).2, (hoo.mono (by omega)).keep fun b e => ?_⟩
      · have := (hop.ge b e).1; omega
      · have := (hoo.ge b e).1
        exact setCell_block _ _ _ _ (by omega)
    · rw [getD_set_ne _ _ e, getD_set_ne _ _ e]
      exact (T.done i (by omega)).keep fun b hb hl => (hk b hb (by omega)).trans (hb2.block b hl)
  · rw [getD_set_ne _ _ (by omega), getD_set_ne _ _ (by omega)]
    exact T.left i (by omega)
  · by_cases e : k = j
    · subst e
      rw [getD_set_eq _ _ (by rw [List.length_set]; exact hjY), getD_set_ne _ _ (by omega), getD_set_ne _ _ (by omega)]
      have TT := T.done i hik
      refine ⟨fun b b' h1 h2 => ?_, fun b b' h1 h2 => ?_⟩
      · have := (TT.op.ge b h1).2
        have := (hop.ge b' h2).1
        omega
      · have := (TT.oo.ge b h1).2
        have := (hoo.ge b' h2).1
        omega
    · rw [getD_set_ne _ _ e, getD_set_ne _ _ e, getD_set_ne _ _ (by omega), getD_set_ne _ _ (by omega)]
      exact T.ap i k hik (by omega)
set_option maxHeartbeats 4000000 in
set_option maxRecDepth 100000 in
theorem twinItems_some (B : Nat) (a : Option Addr) (n c : Nat) (X : List It) (w : World) (h : RI B w a n c X) (hB : B ≤ w.heap.size) (hn : n ≤ 100000000) (hs : ∀ x ∈ X, x.ps.length * 24 ≤ 140737488355328 ∧ x.os.length * 16 ≤ 140737488355328) (h0 : 0 < n) :
    Calls Tryz.prog 107 #[.slice a n c] w fun e w' => ∃ g c' Y, e = .returned (.slice (some ⟨g, 0, none⟩) n c') ∧ TR w g n c' X Y n w' := by
  have HC := Lib.hid (cloneItem_any B a n c X w h.el hB hn)
  have HX := Lib.hid h
  have hle := h.le; have hmx := h.mx
  have Hln := Lib.hid h.len
  have HS := Lib.hid hs
  clear h hs
  go_enter Tryz.func107, Tryz.ntmps107
  go_wp2_with (go_at_call 164; refine HC.out.mono ?_; rintro e w8 ⟨⟨a', c', rfl, -, hown⟩, hb⟩; obtain ⟨g, rfl⟩ : ∃ g, a' = some ⟨g, 0, none⟩ := (by obtain ⟨a2, c2, e2, -, -, hg⟩ := hown.form; obtain ⟨g, hg⟩ := hg (by have := Hln.out; omega); injection e2 with e3; exact ⟨g, e3.trans hg⟩); have T8 : Hid (TR w g n c' X X 0 w8) := Lib.hid ⟨hown, fun i hi => absurd hi (Nat.not_lt_zero _), fun i _ => rfl, hb, fun i k _ hk => absurd hk (Nat.not_lt_zero _)⟩; have hcc : n ≤ c' := hown.cell.2.1; clear hown hb)
  go_loopw [4, 9] (fun _ s9 wr => ∃ (j : Nat) (Y : List It), s9 = .int .i64 j ∧ j ≤ n ∧ Hid (TR w g n c' X Y j wr)) (fun _ s9 _ => n - (intOf s9).toNat)
  case atStart => exact ⟨0, X, rfl, Nat.zero_le _, T8⟩
  case round =>
    clear T8
    obtain ⟨j, Y, rfl, hj, T⟩ := hrel
    by_cases hlt : j < n
    · obtain ⟨-, -, -, k4, k5, hcell⟩ := T.out.own.cell
      have hcj := hcell j hlt
      have g2 : wr.cell? ⟨g, j * 4 + 2, none⟩ = some (.slice (Y.getD j default).pa (Y.getD j default).ps.length (Y.getD j default).pc) := hcj 2 (by decide)
      have g3 : wr.cell? ⟨g, j * 4 + 3, none⟩ = some (.slice (Y.getD j default).oa (Y.getD j default).os.length (Y.getD j default).oc) := hcj 3 (by decide)
      have hYj := T.out.left j (Nat.le_refl _)
      rw [hYj] at g2 g3
      have hmem : X.getD j default ∈ X := by rw [List.getD_eq_getElem?_getD, List.getElem?_eq_getElem (by rw [← Hln.out]; exact hlt)]; exact List.getElem_mem _
      have hok := HX.out.ok _ hmem
      have hsz := HS.out _ hmem
      have hBr : B ≤ wr.heap.size := Nat.le_trans hB T.out.below.size
      have CP := Lib.hid (clonePart_any B _ _ _ _ wr (hok.rp.below (T.out.below.mono hB)).el hBr hsz.1)
      have CT := Lib.hid (fun (V : World) (hb : Below B w V) (hv : B ≤ V.heap.size) => cloneText_any B _ _ _ _ V (hok.rt.below hb).el hv hsz.2)
      have HY := Lib.hid hYj
      clear hcell hcj hYj hok hsz hmem
      generalize hxj : X.getD j default = x at g2 g3 CP CT HY
      have HXJ := Lib.hid hxj
      clear hxj
      obtain ⟨code, life, pa, pc, ps, oa, oc, os⟩ := x
      simp only at g2 g3 CP CT
      have hgw : w.heap.size ≤ g := k4
      have hgr : g < wr.heap.size := k5
      go_upto_region 6 with (go_at_call 165; refine CP.out.mono ?_; rintro e w2 ⟨⟨pa2, pc2, rfl, -, hop⟩, hb2⟩; have OP2 := Lib.hid hop; have HB2 := Lib.hid hb2; have c2 := (hb2.cell (p := ⟨g, j * 4 + 2, none⟩) hgr).trans g2; have O2 := Lib.hid (T.out.own.keep (W' := w2) (fun b e => hb2.block b (T.out.own.ge b e).2)); have f2 := own_frozen O2.out (j * 4 + 2); clear hop hb2)
      have hH := Lib.hid (T.out.half (pa2 := pa2) (pc2 := pc2) hlt HY.out HB2.out)
      have HST := Lib.hid (fun (V w4 : World) (oa2 : Option Addr) (oc2 : Nat) (hV : V = _) (hb4 : Below V.heap.size V w4) (hoo : txE.Own V.heap.size w4 (.slice oa2 os.length oc2) os) => T.out.step (oa2 := oa2) (oc2 := oc2) hlt HY.out HXJ.out HB2.out OP2.out hV hb4 hoo)
      simp only at hH
      obtain ⟨V, hV⟩ : ∃ V, V = w2.setCell ⟨g, j * 4 + 2, none⟩ (.slice pa2 ps.length pc2) := ⟨_, rfl⟩
      rw [← hV] at hH
      rw [← hV]
      have HV := Lib.hid hV
      have hVs : V.heap.size = w2.heap.size := by rw [hV, size_setCell]
      have hgV : g < V.heap.size := by have := HB2.out.size; omega
      have g3' : V.cell? ⟨g, j * 4 + 3, none⟩ = some (.slice oa os.length oc) := by
        obtain ⟨-, -, -, -, -, hc⟩ := hH.out.1.cell
        have := hc j hlt 3 (by decide)
        have hjY : j < Y.length := by have := T.out.own.cell.1; omega
        rw [getD_set_eq _ _ hjY] at this
        exact this
      have f3' : V.frozen? ⟨g, j * 4 + 3, none⟩ = false := own_frozen hH.out.1 _
      have CT3 := Lib.hid (CT.out V (hH.out.2.mono hB) (Nat.le_trans hB hH.out.2.size))
      clear hV c2 f2 g2 g3 CP CT
      go_wp2_with (go_at_call 166; refine CT3.out.mono ?_; rintro e w4 ⟨⟨oa2, oc2, rfl, -, hoo⟩, hb4⟩; have R5 := Lib.hid (HST.out V w4 oa2 oc2 HV.out hb4 hoo); have c4 := (hb4.cell (p := ⟨g, j * 4 + 3, none⟩) hgV).trans g3'; have f4 := own_frozen (hH.out.1.keep (W' := w4) (fun b e => hb4.block b (hH.out.1.ge b e).2)) (j * 4 + 3); clear hoo hb4)
      go_roundw
      case rel => first | exact ⟨j + 1, _, by go_num, by omega, R5⟩ | (refine ⟨_, _, _, _, _, _, _, _, _, _, _, _, _, _, _, _, _, _, _, _, _, _, _, _, _, ?_, rfl⟩; exact ⟨j + 1, _, by go_num, by omega, R5⟩)
      case measure => simp [intOf]; omega
    · obtain rfl : j = n := by omega
      go_wp2_with (fail)
      go_ret
      exact ⟨g, c', Y, rfl, T.out⟩
/-- What twin.Items ends with. -/
structure TwP (w : World) (X : List It) (v : Value) (Y : List It) (w' : World) : Prop where
  own : itE.Own w.heap.size w' v Y
  len : Y.length = X.length
  each : ∀ i, i < X.length → TI w.heap.size w' (X.getD i default) (Y.getD i default)
  below : Below w.heap.size w w'
  ap : ∀ i k, i < k → k < X.length → (∀ b b', (Y.getD i default).pv.ownBlock = some b → (Y.getD k default).pv.ownBlock = some b' → b < b') ∧ (∀ b b', (Y.getD i default).ov.ownBlock = some b → (Y.getD k default).ov.ownBlock = some b' → b < b')
set_option maxHeartbeats 1000000 in
set_option maxRecDepth 100000 in
theorem twinItems_none (B : Nat) (a : Option Addr) (c : Nat) (w : World) (h : RI B w a 0 c []) (hB : B ≤ w.heap.size) :
    Calls Tryz.prog 107 #[.slice a 0 c] w fun e w' => ∃ v, e = .returned v ∧ TwP w [] v [] w' := by
  have HC := Lib.hid (cloneItem_any B a 0 c [] w h.el hB (Nat.zero_le _))
  have hle := h.le; have hmx := h.mx
  clear h
  go_enter Tryz.func107, Tryz.ntmps107
  go_wp2_with (go_at_call 164; refine HC.out.mono ?_; rintro e w8 ⟨⟨a', c', rfl, -, hown⟩, hb⟩; have T8 : Hid (TwP w [] (.slice a' 0 c') [] w8) := Lib.hid ⟨hown, rfl, fun i hi => absurd hi (Nat.not_lt_zero _), hb, fun i k _ hk => absurd hk (Nat.not_lt_zero _)⟩; clear hown hb)
  go_loopw [4, 9] (fun _ s9 wr => s9 = .int .i64 0 ∧ w8 = wr) (fun _ _ _ => 0)
  case atStart => exact ⟨rfl, rfl⟩
  case round =>
    obtain ⟨rfl, rfl⟩ := hrel
    go_wp2_with (fail)
    go_ret
    exact ⟨_, rfl, T8.out⟩
theorem twinItems_any (B : Nat) (a : Option Addr) (n c : Nat) (X : List It) (w : World) (h : RI B w a n c X) (hB : B ≤ w.heap.size) (hn : n ≤ 100000000) (hs : ∀ x ∈ X, x.ps.length * 24 ≤ 140737488355328 ∧ x.os.length * 16 ≤ 140737488355328) :
    Calls Tryz.prog 107 #[.slice a n c] w fun e w' => ∃ a' c' Y, e = .returned (.slice a' n c') ∧ TwP w X (.slice a' n c') Y w' := by
  by_cases h0 : 0 < n
  · refine (twinItems_some B a n c X w h hB hn hs h0).mono ?_
    rintro e w' ⟨g, c', Y, rfl, T⟩
    have hl := T.own.cell.1
    have hg := T.own.cell.2.2.2.1
    exact ⟨_, c', Y, rfl, ⟨T.own, by rw [← hl, h.len], fun i hi => (T.done i (by rw [h.len]; exact hi)).mono (by omega), T.below, fun i k hik hk => T.ap i k hik (by rw [h.len]; exact hk)⟩⟩
  · obtain rfl : n = 0 := by omega
    have hX : X = [] := List.eq_nil_of_length_eq_zero h.len.symm
    subst hX
    refine (twinItems_none B a c w h hB).mono ?_
    rintro e w' ⟨v, rfl, T⟩
    obtain ⟨a', c', e', -⟩ := T.own.form
    subst e'
    exact ⟨a', c', [], rfl, T⟩
end Go.Proofs.YtbedbhlebfnohaaGreat
namespace Go.Proofs.YtbedbhlebfnohaaGreat
open Go.RowKit Go.Sort Go.Lib Go.Shelf

set_option maxHeartbeats 4000000 in
set_option maxRecDepth 100000 in
theorem ship_any (p q g i n c : Nat) (now nl nx : Int) (v1 v2 v : Value) (w : World)
    (hp : w.heap[p]? = some (stObj now nl nx v1 v2 (.slice (some ⟨g, 0, none⟩) n c))) (hq : w.cell? ⟨q, 0, none⟩ = some (.int .i64 i)) (hi : i < n) (_hn : n ≤ 100000000) (hc : w.cell? ⟨g, i * 8 + 5, none⟩ = some v) (hf : w.frozen? ⟨g, i * 8 + 5, none⟩ = false) :
    Calls Tryz.prog 27 #[.pointer (some ⟨p, 0, none⟩), .pointer (some ⟨q, 0, none⟩)] w fun e w' => e = .returned (.tuple #[]) ∧ w' = (w.setCell ⟨g, i * 8 + 5, none⟩ (.int .u8 2)).drew := by
  obtain ⟨-, -, -, -, -, s5⟩ := stObj_cells hp
  clear hp
  have s5' : w.drew.cell? ⟨p, 5, none⟩ = some (.slice (some ⟨g, 0, none⟩) n c) := s5
  have hq' : w.drew.cell? ⟨q, 0, none⟩ = some (.int .i64 i) := hq
  have hc' : w.drew.cell? ⟨g, i * 8 + 5, none⟩ = some v := hc
  have hf' : w.drew.frozen? ⟨g, i * 8 + 5, none⟩ = false := hf
  have mixed : Tryz.prog.follows Departure.mixedOrders = true := by kernel_rfl
  have late : Tryz.prog.follows Departure.lateStores = true := by kernel_rfl
  have unsure : Tryz.prog.follows Departure.lateStoresUnsure = true := by kernel_rfl
  go_enter Tryz.func27, Tryz.ntmps27
  go_big_region_o
  first | go_end0 | ((try simp only [Exit.inBlock, Exit.then]); refine bodyPost_ret (results_none rfl _ _ _) rfl ?_)
  exact ⟨rfl, rfl⟩
end Go.Proofs.YtbedbhlebfnohaaGreat
namespace Go.Proofs.YtbedbhlebfnohaaGreat
open Go.RowKit

/-- A byte as a cell's value. -/
def bv (x : UInt8) : Value := .int .u8 (x.toNat : Int)
theorem bv_getD (l : List UInt8) (i : Nat) (h : i < l.length) : (l.map bv)[i]? = some (.int .u8 (bt l i)) := by
  simp [bv, bt, List.getElem?_eq_getElem h]

theorem RB.cells {B : Nat} {w : World} {b o n c : Nat} {l : List UInt8} (h : RB B w (some ⟨b, o, none⟩) n c l) :
    ∀ j v, (l.map bv)[j]? = some v → w.cell? ((⟨b, o, none⟩ : Addr).add j) = some v := by
  intro j v hj
  have hjl : j < l.length := by
    rcases Nat.lt_or_ge j l.length with h | h
    · exact h
    · simp [List.getElem?_eq_none (show (l.map bv).length ≤ j by simpa using h)] at hj
  rw [bv_getD l j hjl] at hj
  cases hj
  have hl := h.len; have hle := h.le
  obtain ⟨b', o', he, -, hc⟩ := h.at_ (by omega)
  cases he
  have hplain : (⟨b, o, none⟩ : Addr).add j = ⟨b, o + j, none⟩ := by unfold Addr.add; split <;> simp_all
  rw [hplain]; exact hc j (by omega)

theorem ofNums (l : List UInt8) : strOfNums (l.map fun x => (x.toNat : Int)) = ⟨l.toArray⟩ := by
  unfold strOfNums
  congr 1
  simp only [List.map_map]
  congr 1
  refine (List.map_congr_left fun x _ => ?_).trans (List.map_id l)
  simp

theorem run_conv {P : Program} {B : Nat} {w : World} {a : Option Addr} {n c : Nat} {l : List UInt8} (h : RB B w a n c l) (src e dst : TypeId)
    (hs : P.underlying src = some (.slice e)) (he : P.underlying e = some (.int .u8)) (hd : P.underlying dst = some .string) :
    (convert src dst (.slice a n c)).run P w = .ok (.string ⟨l.toArray⟩) w := by
  have hl := h.len
  by_cases h0 : n = 0
  · obtain rfl : l = [] := List.eq_nil_of_length_eq_zero (by omega)
    cases a with
    | none => rw [run_convert_bytes_nil w src e hs he n c dst hd]; rfl
    | some a =>
      subst h0
      have hl : (loadCells a 0).run P w = .ok (([] : List Int).map (Value.int .u8)).toArray w := by
        simpa using run_loadCells_list (P := P) w a [] (by simp)
      rw [run_convert_bytes_string w src dst e _ 0 c hs he hd, run_bytesToString w _ 0 c [] hl]
      rfl
  · have hle := h.le
    obtain ⟨b, o, rfl, hB, hc⟩ := h.at_ (by omega)
    rw [run_convert_bytes_arg w src e hs he b o n c (l.map fun x => (x.toNat : Int)) (by simp [hl]) (fun i hi => ?_) dst hd, ofNums]
    rw [hc i hi]
    have hi' : i < l.length := by omega
    simp [bt, List.getD, List.getElem?_eq_getElem hi']

theorem run_loadBytes {P : Program} (w : World) (b : Nat) : ∀ (l : List UInt8) (o : Nat) (acc : ByteArray), (∀ i, i < l.length → w.cell? ⟨b, o + i, none⟩ = some (.int .u8 (bt l i))) →
    (Extern.Bytes.loadBytes ⟨b, o, none⟩ l.length acc).run P w = .ok ⟨acc.data ++ l.toArray⟩ w
  | [], o, acc, _ => by simp [Extern.Bytes.loadBytes, Sem.run_pure]
  | x :: l, o, acc, h => by
    have h0 := h 0 (by simp)
    have hx : bt (x :: l) 0 = (x.toNat : Int) := rfl
    rw [hx] at h0
    have ih := run_loadBytes (P := P) w b l (o + 1) (acc.push (UInt8.ofNat (x.toNat : Int).toNat)) (fun i hi => by
      have := h (i + 1) (by simp; omega)
      rw [show o + 1 + i = o + (i + 1) by omega, this]; rfl)
    have hadd : (⟨b, o, none⟩ : Addr).add 1 = ⟨b, o + 1, none⟩ := rfl
    simp only [Nat.add_zero] at h0
    have hload : (load ⟨b, o, none⟩ : Sem Value).run P w = .ok (.int .u8 (x.toNat : Int)) w := by simp [load, Sem.run, h0]
    simp only [List.length_cons, Extern.Bytes.loadBytes, Sem.run_bind, hload, Result.andThen, hadd]
    refine Eq.trans ih ?_
    congr 1
    simp

theorem run_bytesOf {P : Program} {B : Nat} {w : World} {a : Option Addr} {n c : Nat} {l : List UInt8} (h : RB B w a n c l) :
    (Extern.Bytes.bytesOf (.slice a n c)).run P w = .ok ⟨l.toArray⟩ w := by
  have hl := h.len
  by_cases h0 : n = 0
  · obtain rfl : l = [] := List.eq_nil_of_length_eq_zero (by omega)
    subst h0
    cases a with
    | none => rfl
    | some a => rfl
  · have hle := h.le
    obtain ⟨b, o, rfl, hB, hc⟩ := h.at_ (by omega)
    subst hl
    have := run_loadBytes (P := P) w b l o .empty hc
    simpa [Extern.Bytes.bytesOf] using this

theorem run_compare {P : Program} {B C : Nat} {w : World} {a b : Option Addr} {n c m d : Nat} {l k : List UInt8} (hl : RB B w a n c l) (hk : RB C w b m d k) :
    (Extern.BytealgCompare.compare #[.slice a n c, .slice b m d]).run P w = .ok (.int .i64 (Lib.compareBytes l k)) w := by
  change Sem.run P (do pure (goInt (Extern.BytealgCompare.cmp (← Extern.Bytes.bytesOf (.slice a n c)) (← Extern.Bytes.bytesOf (.slice b m d))))) w = _
  simp only [Sem.run_bind, run_bytesOf hl, run_bytesOf hk, Sem.run_pure, Result.andThen]
  rw [Lib.cmp_eq]
  rfl
end Go.Proofs.YtbedbhlebfnohaaGreat
namespace Go.Proofs.YtbedbhlebfnohaaGreat
open Go.RowKit Go.Shelf

section
variable {P : Program} {ops : Array Oper} {Q : Exit → Act → World → Prop} {md : Region.Mode} {S : World → Prop} {fuel : Nat} {listed : Array Bool} {a : Act} {w : World} {i : Nat} {o : Oper} {rs : List Nat}

theorem step_val {w' : World} {v : Value} (ho : ops[i]? = some o) (hgd : o.guard = none) (hrun : (execOp a.eval o).run P w = .ok (.value v) w') (hS : S w')
    (h : wpAnyH P md ops Q S fuel (listed.setIfInBounds i true) (a.put o.dst v) w') (hs : AllReadyH P md ops Q S fuel listed a w rs) : AllReadyH P md ops Q S fuel listed a w (i :: rs) :=
  AllReadyH.cons ho (fun K hK => by
    have hw : Region.wanted o (yielded ops a.tmps) = true := by simp [Region.wanted, hgd]
    rw [if_pos hw]
    unfold Oper.wp
    rw [hrun]
    exact hK.out _ _ hS (fun _ => h)) hs
theorem step_fn {f : FuncId} {args : Array Value} (ho : ops[i]? = some o) (hgd : o.guard = none) (hrun : (execOp a.eval o).run P w = .ok (.enter f args) w)
    (h : Calls P f args w fun e w' => ∃ v, e = .returned v ∧ S w' ∧ wpAnyH P md ops Q S fuel (listed.setIfInBounds i true) (a.put o.dst v) w') (hs : AllReadyH P md ops Q S fuel listed a w rs) : AllReadyH P md ops Q S fuel listed a w (i :: rs) :=
  AllReadyH.cons ho (fun K hK => by
    have hw : Region.wanted o (yielded ops a.tmps) = true := by simp [Region.wanted, hgd]
    rw [if_pos hw]
    unfold Oper.wp
    rw [hrun]
    refine Calls.mono h ?_
    rintro e w' ⟨v, rfl, hS, h'⟩
    exact hK.out _ _ hS (fun _ => h')) hs
theorem step_skip {w' : World} (ho : ops[i]? = some o) (hgd : o.guard = none) (hrun : (execOp a.eval o).run P w = .ok .skip w') (hS : S w')
    (h : wpAnyH P md ops Q S fuel (listed.setIfInBounds i true) (a.put o.dst undef) w') (hs : AllReadyH P md ops Q S fuel listed a w rs) : AllReadyH P md ops Q S fuel listed a w (i :: rs) :=
  AllReadyH.cons ho (fun K hK => by
    have hw : Region.wanted o (yielded ops a.tmps) = true := by simp [Region.wanted, hgd]
    rw [if_pos hw]
    unfold Oper.wp
    rw [hrun]
    exact hK.out _ _ hS (fun _ => h)) hs
/-- Any other law at a step. -/
theorem step_law (ho : ops[i]? = some o) (hgd : o.guard = none)
    (h : ∀ K : Act → World → Prop, (∀ a w, S w → wpAnyH P md ops Q S fuel (listed.setIfInBounds i true) a w → K a w) → Oper.wp P o a w K Q) (hs : AllReadyH P md ops Q S fuel listed a w rs) : AllReadyH P md ops Q S fuel listed a w (i :: rs) :=
  AllReadyH.cons ho (fun K hK => by
    have hw : Region.wanted o (yielded ops a.tmps) = true := by simp [Region.wanted, hgd]
    rw [if_pos hw]
    exact h K (fun a w hS hh => hK.out a w hS (fun _ => hh))) hs
theorem run_fn {ev : Operand → Value} {f : FuncId} {x : Operand} {args : Array Operand} {T : Array TypeId} (ho : o.op = .call { callee := .value x, args := args, argTypes := T }) (hx : ev x = .func (.func f) #[] #[]) (he : Enters P f) (w : World) {vs : Array Value} (hv : args.map ev = vs) :
    (execOp ev o).run P w = .ok (.enter f vs) w := by
  subst hv
  simp [execOp, ho, resolve, Deferred.ofValue, hx, invoke, he _ w]
theorem run_fn1 {ev : Operand → Value} {f : FuncId} {x x0 : Operand} {T : Array TypeId} {v0 : Value} (ho : o.op = .call { callee := .value x, args := #[x0], argTypes := T }) (hx : ev x = .func (.func f) #[] #[]) (he : Enters P f) (w : World) (h0 : ev x0 = v0) :
    (execOp ev o).run P w = .ok (.enter f #[v0]) w := run_fn ho hx he w (by simp [h0])
theorem run_fn2 {ev : Operand → Value} {f : FuncId} {x x0 x1 : Operand} {T : Array TypeId} {v0 v1 : Value} (ho : o.op = .call { callee := .value x, args := #[x0, x1], argTypes := T }) (hx : ev x = .func (.func f) #[] #[]) (he : Enters P f) (w : World) (h0 : ev x0 = v0) (h1 : ev x1 = v1) :
    (execOp ev o).run P w = .ok (.enter f #[v0, v1]) w := run_fn ho hx he w (by simp [h0, h1])
theorem run_fn3 {ev : Operand → Value} {f : FuncId} {x x0 x1 x2 : Operand} {T : Array TypeId} {v0 v1 v2 : Value} (ho : o.op = .call { callee := .value x, args := #[x0, x1, x2], argTypes := T }) (hx : ev x = .func (.func f) #[] #[]) (he : Enters P f) (w : World) (h0 : ev x0 = v0) (h1 : ev x1 = v1) (h2 : ev x2 = v2) :
    (execOp ev o).run P w = .ok (.enter f #[v0, v1, v2]) w := run_fn ho hx he w (by simp [h0, h1, h2])
/-- A load of a slice. -/
theorem run_load1 {ev : Operand → Value} {t e : TypeId} {x : Operand} {y j : Nat} {v : Value} (ho : o.op = .load t x) (hx : ev x = .pointer (some ⟨y, j, none⟩)) (ht : P.underlying t = some (.slice e)) (hc : w.cell? ⟨y, j, none⟩ = some v) :
    (execOp ev o).run P w = .ok (.value v) w := by
  have h1 := run_isAgg_plain ht rfl w
  simp [execOp, ho, hx, Instr.loadAt, go_sem, h1, hc]
end
theorem run_store_rows {ev : Operand → Value} {o : Oper} {x u : Operand} {y j : Nat} {sa : Option Addr} {n c : Nat} {v0 : Value} {w : World} (ho : o.op = .store 205 x u) (hx : ev x = .pointer (some ⟨y, j, none⟩)) (hu : ev u = .slice sa n c) (hc : w.cell? ⟨y, j, none⟩ = some v0) (hf : w.frozen? ⟨y, j, none⟩ = false) :
    (execOp ev o).run Tryz.prog w = .ok .skip (w.setCell ⟨y, j, none⟩ (.slice sa n c)) := by
  simp [execOp, ho, hx, hu, go_sem, hc, hf]
theorem run_build_row {ev : Operand → Value} {o : Oper} {x0 x1 : Operand} {ka va : Option Addr} {kn kc vn vc : Nat} (ho : o.op = .build 207 #[(0, x0), (1, x1)]) (h0 : ev x0 = .slice ka kn kc) (h1 : ev x1 = .slice va vn vc) (w : World) :
    (execOp ev o).run Tryz.prog w = .ok (.value (.agg #[.slice ka kn kc, .slice va vn vc])) w := by
  simp [execOp, ho, h0, h1, go_sem]
theorem run_buildSlice_row {ev : Operand → Value} {o : Oper} {x : Operand} {k v : Value} (ho : o.op = .buildSlice 205 1 #[(0, x)]) (hx : ev x = .agg #[k, v]) (w : World) :
    (execOp ev o).run Tryz.prog w = .ok (.value (.slice (some ⟨w.heap.size, 0, none⟩) 1 1)) (w.alloc (.cells #[k, v] 207)) := by
  simp [execOp, ho, hx, go_sem]
end Go.Proofs.YtbedbhlebfnohaaGreat
