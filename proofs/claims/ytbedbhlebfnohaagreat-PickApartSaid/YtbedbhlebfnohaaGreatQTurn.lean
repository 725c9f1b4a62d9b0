/- pick.turned: its walk. -/
import Derived.Test.YtbedbhlebfnohaaGreatQTwSt
namespace Go.Proofs.YtbedbhlebfnohaaGreat
open Go.RowKit Go.Sort Go.Lib Go.Shelf

structure IOwn (B : Nat) (w : World) (v : Value) (X Y : List It) : Prop where
  own : itE.Own B w v Y
  len : Y.length = X.length
  each : ∀ i, i < X.length → TI B w (X.getD i default) (Y.getD i default)
  ap : ∀ i k, i < k → k < X.length → (∀ b b', (Y.getD i default).pv.ownBlock = some b → (Y.getD k default).pv.ownBlock = some b' → b < b') ∧ (∀ b b', (Y.getD i default).ov.ownBlock = some b → (Y.getD k default).ov.ownBlock = some b' → b < b')
theorem IOwn.keep {B : Nat} {w w' : World} {v : Value} {X Y : List It} (h : IOwn B w v X Y) (hk : ∀ b, B ≤ b → b < w.heap.size → w'.heap[b]? = w.heap[b]?) : IOwn B w' v X Y :=
  ⟨h.own.keep fun b e => hk b (h.own.ge b e).1 (h.own.ge b e).2, h.len, fun i hi => (h.each i hi).keep hk, h.ap⟩
theorem IOwn.below {B : Nat} {w w' : World} {v : Value} {X Y : List It} (h : IOwn B w v X Y) (hb : Below w.heap.size w w') : IOwn B w' v X Y := h.keep fun b _ hl => hb.block b hl
theorem IOwn.mono {B B' : Nat} {w : World} {v : Value} {X Y : List It} (h : IOwn B w v X Y) (hb : B' ≤ B) : IOwn B' w v X Y := ⟨h.own.mono hb, h.len, fun i hi => (h.each i hi).mono hb, h.ap⟩
structure StOwn (B : Nat) (w : World) (v1 v2 v3 : Value) (X Y : List It) (L : List LotV) (N : List LineV) : Prop where
  items : IOwn B w v1 X Y
  lots : lotE.Own B w v2 L
  lines : lineE.Own B w v3 N
def PkP (w : World) (now nl nx : Int) (X : List It) (L : List LotV) (N : List LineV) (e : Ending) (w' : World) : Prop :=
  Below w.heap.size w w' ∧ ∃ a1 c1 Y a2 c2 a3 c3, e = .returned (.agg #[.int .i64 now, .int .i64 nl, .int .i64 nx, .slice a1 X.length c1, .slice a2 L.length c2, .slice a3 N.length c3]) ∧ StOwn w.heap.size w' (.slice a1 X.length c1) (.slice a2 L.length c2) (.slice a3 N.length c3) X Y L N
def TuS (w : World) (now nl nx : Int) (X : List It) (L : List LotV) (N : List LineV) (wr : World) : Prop :=
  ∃ a1 c1 Y a2 c2 a3 c3 V1, wr.heap[w.heap.size]? = some (stObj now nl nx (.slice a1 X.length c1) (.slice a2 L.length c2) (.slice a3 N.length c3)) ∧ wr.heap[w.heap.size + 1]? = some (stObj 0 0 0 (.slice none 0 0) (.slice none 0 0) (.slice none 0 0)) ∧ IOwn (w.heap.size + 4) V1 (.slice a1 X.length c1) X Y ∧ (∀ b, w.heap.size + 4 ≤ b → b < V1.heap.size → wr.heap[b]? = V1.heap[b]?) ∧ (w.heap.size + 4 ≤ V1.heap.size ∧ V1.heap.size ≤ wr.heap.size) ∧
    lotE.Own (w.heap.size + 4) wr (.slice a2 L.length c2) L ∧ lineE.Own V1.heap.size wr (.slice a3 N.length c3) N ∧ Below w.heap.size w wr ∧ ∀ b b', (Value.slice a2 L.length c2).ownBlock = some b → (Value.slice a3 N.length c3).ownBlock = some b' → b ≠ b'
theorem shLine (x : LineV) : lineE.enc { x with st := 2 } = (lineE.enc x).set 5 (.int .u8 2) := rfl
theorem TuS.ship {w : World} {now nl nx : Int} {X : List It} {L : List LotV} {N : List LineV} {wr : World} (h : TuS w now nl nx X L N wr) {i : Nat} (hi : i < N.length) :
    ∃ a1 c1 a2 c2 g c3 v, wr.heap[w.heap.size]? = some (stObj now nl nx (.slice a1 X.length c1) (.slice a2 L.length c2) (.slice (some ⟨g, 0, none⟩) N.length c3)) ∧ wr.cell? ⟨g, i * 8 + 5, none⟩ = some v ∧ wr.frozen? ⟨g, i * 8 + 5, none⟩ = false ∧ TuS w now nl nx X L (N.set i { N.getD i default with st := 2 }) (wr.setCell ⟨g, i * 8 + 5, none⟩ (.int .u8 2)).drew := by
  obtain ⟨a1, c1, Y, a2, c2, a3, c3, V1, h1, h2, h3, h4, h5, h6, h7, h8, h9⟩ := h
  obtain ⟨a3', c3', e, -, -, hg⟩ := h7.form
  obtain ⟨g, rfl⟩ := hg (by omega)
  injection e with e1 e2 e3
  subst e1; subst e3
  obtain ⟨-, -, -, k4, k5, hcell⟩ := h7.cell
  have hs : (wr.setCell ⟨g, i * 8 + 5, none⟩ (.int .u8 2)).drew.heap.size = wr.heap.size := size_setCell _ _ _ _
  have hne : ∀ b, b ≠ g → (wr.setCell ⟨g, i * 8 + 5, none⟩ (.int .u8 2)).drew.heap[b]? = wr.heap[b]? := fun b hb => setCell_block _ _ _ _ hb
  have hO := own_setCell h7 i 5 { N.getD i default with st := 2 } (.int .u8 2) hi (by decide) (shLine _)
  have hl : (N.set i { N.getD i default with st := 2 }).length = N.length := by simp
  refine ⟨a1, c1, a2, c2, g, c3, _, h1, hcell i hi 5 (by decide), own_frozen h7 _, a1, c1, Y, a2, c2, some ⟨g, 0, none⟩, c3, V1, ?_, ?_, h3, fun b hb hb2 => ?_, by rw [hs]; exact h5, h6.keep fun b e => hne b (h9 b g e rfl), ?_, below_drew (below_set h8 _ _ _ (by omega)), ?_⟩
  · rw [hne _ (by omega), h1, hl]
  · rw [hne _ (by omega), h2]
  · rw [hne _ (by omega)]; exact h4 b hb hb2
  · rw [hl]; exact hO
  · rw [hl]; exact h9
theorem TuS.left {w : World} {now nl nx : Int} {X : List It} {L : List LotV} {N : List LineV} {wr w2 : World} {v : Value} {L' : List LotV} (h : TuS w now nl nx X L N wr) (ho : lotE.Own wr.heap.size w2 v L') (hb : Below wr.heap.size wr w2) : TuS w now nl nx X L' N (w2.setCell ⟨w.heap.size, 4, none⟩ v) := by
  obtain ⟨a1, c1, Y, a2, c2, a3, c3, V1, h1, h2, h3, h4, h5, h6, h7, h8, h9⟩ := h
  obtain ⟨a2', c2', rfl, -, -, -⟩ := ho.form
  have hs : ∀ v, (w2.setCell ⟨w.heap.size, 4, none⟩ v).heap.size = w2.heap.size := fun v => size_setCell _ _ _ _
  have hne : ∀ b v, b ≠ w.heap.size → (w2.setCell ⟨w.heap.size, 4, none⟩ v).heap[b]? = w2.heap[b]? := fun b v hb => setCell_block _ _ _ _ hb
  have hz := hb.size
  have hz8 := h8.size
  refine ⟨a1, c1, Y, a2', c2', a3, c3, V1, ?_, ?_, h3, fun b hb1 hb2 => ?_, by rw [hs]; omega, ?_, ?_, below_set (h8.trans (hb.mono h8.size)) _ _ _ (Nat.le_refl _), ?_⟩
  · have hp2 : w2.heap[w.heap.size]? = some (stObj now nl nx (.slice a1 X.length c1) (.slice a2 L.length c2) (.slice a3 N.length c3)) := (hb.block _ (by omega)).trans h1
    unfold stObj at *
    rw [setCell_eq]
    simp [mapBlock, Array.getElem?_modify, hp2, onCells]
  · rw [hne _ _ (by omega), hb.block _ (by omega), h2]
  · rw [hne _ _ (by omega), hb.block _ (by omega)]; exact h4 b hb1 hb2
  · exact (ho.keep fun b e => hne _ _ (by have := (ho.ge b e).1; omega)).mono (by omega)
  · exact (h7.keep fun b e => hb.block b (h7.ge b e).2).keep fun b e => hne _ _ (by have := (h7.ge b e).1; omega)
  · intro b b' e e'
    have := (ho.ge b e).1
    have := (h7.ge b' e').2
    omega
theorem st_frozen6 {W : World} {p : Nat} {now nl nx : Int} {v1 v2 v3 : Value} (h : W.heap[p]? = some (stObj now nl nx v1 v2 v3)) : W.frozen? ⟨p, 0, none⟩ = false ∧ W.frozen? ⟨p, 1, none⟩ = false ∧ W.frozen? ⟨p, 2, none⟩ = false ∧ W.frozen? ⟨p, 3, none⟩ = false ∧ W.frozen? ⟨p, 4, none⟩ = false ∧ W.frozen? ⟨p, 5, none⟩ = false := ⟨st_frozen h 0, st_frozen h 1, st_frozen h 2, st_frozen h 3, st_frozen h 4, st_frozen h 5⟩
def put6 (W : World) (q : Nat) (now nl nx : Int) (v1 v2 v3 : Value) : World := (((((W.setCell ⟨q, 0, none⟩ (.int .i64 now)).setCell ⟨q, 1, none⟩ (.int .i64 nl)).setCell ⟨q, 2, none⟩ (.int .i64 nx)).setCell ⟨q, 3, none⟩ v1).setCell ⟨q, 4, none⟩ v2).setCell ⟨q, 5, none⟩ v3
theorem put6_block (W : World) (q : Nat) (now nl nx : Int) (v1 v2 v3 : Value) {b : Nat} (hb : b ≠ q) : (put6 W q now nl nx v1 v2 v3).heap[b]? = W.heap[b]? := by
  unfold put6
  simp only [setCell_block _ _ _ _ hb]
theorem put6_size (W : World) (q : Nat) (now nl nx : Int) (v1 v2 v3 : Value) : (put6 W q now nl nx v1 v2 v3).heap.size = W.heap.size := by
  unfold put6
  simp only [size_setCell]
theorem put6_below {B : Nat} {w W : World} (h : Below B w W) (q : Nat) (now nl nx : Int) (v1 v2 v3 : Value) (hq : B ≤ q) : Below B w (put6 W q now nl nx v1 v2 v3) := below_set (below_set (below_set (below_set (below_set (below_set h _ _ _ hq) _ _ _ hq) _ _ _ hq) _ _ _ hq) _ _ _ hq) _ _ _ hq
theorem TuS.start {w W0 w' : World} {now nl nx : Int} {X : List It} {L : List LotV} {N : List LineV} {e : Ending} (hs0 : W0.heap.size = w.heap.size + 2) (hB : Below w.heap.size w W0) {u1 u2 u3 : Value} (hp : W0.heap[w.heap.size]? = some (stObj now nl nx u1 u2 u3)) (hq : W0.heap[w.heap.size + 1]? = some (stObj 0 0 0 (.slice none 0 0) (.slice none 0 0) (.slice none 0 0)))
    (h : StP W0 now nl nx X L N X.length L.length N.length e w') : ∃ a1 c1 a2 c2 a3 c3, e = .returned (.agg #[.int .i64 now, .int .i64 nl, .int .i64 nx, .slice a1 X.length c1, .slice a2 L.length c2, .slice a3 N.length c3]) ∧ w'.heap[w.heap.size]? = some (stObj now nl nx u1 u2 u3) ∧ TuS w now nl nx X L N (put6 w' w.heap.size now nl nx (.slice a1 X.length c1) (.slice a2 L.length c2) (.slice a3 N.length c3)) := by
  obtain ⟨a1, c1, Y, a2, c2, a3, c3, V0, V1, V2, V3, rfl, hV0, T1, T2, B2, T3, B3, hb, hk, hsz⟩ := h
  have hp' := (hb.block w.heap.size (by omega)).trans hp
  have z1 := T1.below.size
  have z2 := B2.size
  have z3 := B3.size
  refine ⟨a1, c1, a2, c2, a3, c3, rfl, hp', a1, c1, Y, a2, c2, a3, c3, V1, st_put hp' _ _ _ _ _ _, ?_, ⟨T1.own.mono (by omega), T1.len, fun i hi => (T1.each i hi).mono (by omega), T1.ap⟩, fun b hb1 hb2 => ?_, ?_, ?_, ?_, put6_below (hB.trans (hb.mono (by omega))) _ _ _ _ _ _ _ (Nat.le_refl _), ?_⟩
  · rw [put6_block _ _ _ _ _ _ _ _ (by omega), hb.block _ (by omega), hq]
  · rw [put6_block _ _ _ _ _ _ _ _ (by omega)]
    rw [hk b (by omega) (by omega), B3.block b (by omega), B2.block b (by omega)]
  · rw [put6_size]; omega
  · have hO : lotE.Own V1.heap.size w' (.slice a2 L.length c2) L := (T2.below B3).keep fun b e => hk b (by have := (T2.ge b e).1; omega) (by have := (T2.ge b e).1; omega)
    exact (hO.keep fun b e => put6_block _ _ _ _ _ _ _ _ (by have := (hO.ge b e).1; omega)).mono (by omega)
  · have hO : lineE.Own V2.heap.size w' (.slice a3 N.length c3) N := T3.keep fun b e => hk b (by have := (T3.ge b e).1; omega) (by have := (T3.ge b e).1; omega)
    exact (hO.keep fun b e => put6_block _ _ _ _ _ _ _ _ (by have := (hO.ge b e).1; omega)).mono (by omega)
  · intro b b' e1 e2
    have := (T2.ge b e1).2
    have := (T3.ge b' e2).1
    omega
theorem TuS.done {w wr w' : World} {now nl nx : Int} {X : List It} {L : List LotV} {N : List LineV} (h : TuS w now nl nx X L N wr) (hk : ∀ b, b ≠ w.heap.size + 1 → w'.heap[b]? = wr.heap[b]?) (hB : ∀ B w0, Below B w0 wr → B ≤ w.heap.size + 1 → Below B w0 w') : ∃ a1 c1 a2 c2 a3 c3, wr.heap[w.heap.size]? = some (stObj now nl nx (.slice a1 X.length c1) (.slice a2 L.length c2) (.slice a3 N.length c3)) ∧
    PkP w now nl nx X L N (.returned (.agg #[.int .i64 now, .int .i64 nl, .int .i64 nx, .slice a1 X.length c1, .slice a2 L.length c2, .slice a3 N.length c3])) w' := by
  obtain ⟨a1, c1, Y, a2, c2, a3, c3, V1, h1, h2, h3, h4, h5, h6, h7, h8, h9⟩ := h
  refine ⟨a1, c1, a2, c2, a3, c3, h1, hB _ _ h8 (by omega), a1, c1, Y, a2, c2, a3, c3, rfl, ((h3.keep fun b hb1 hb2 => ?_).mono (by omega)), (h6.keep fun b e => hk b (by have := (h6.ge b e).1; omega)).mono (by omega), (h7.keep fun b e => hk b (by have := (h7.ge b e).1; omega)).mono (by omega)⟩
  rw [hk b (by omega)]
  exact h4 b hb1 hb2
def pkF2 (q : Nat) : Value := .func (.func 26) #[] #[.pointer (some ⟨q, 0, none⟩)]
def pkF3 (q : Nat) : Value := .func (.func 27) #[] #[.pointer (some ⟨q, 0, none⟩)]
set_option maxHeartbeats 8000000 in
set_option maxRecDepth 100000 in
theorem turned_any (B : Nat) (now nl nx : Int) (a1 : Option Addr) (n1 c1 : Nat) (X : List It) (a2 : Option Addr) (n2 c2 : Nat) (L : List LotV) (a3 : Option Addr) (n3 c3 : Nat) (N : List LineV) (w : World) (h : StIn B w a1 n1 c1 X a2 n2 c2 L a3 n3 c3 N) (hB : B ≤ w.heap.size)
    (g q r mb cnt i : Nat) (tk : Int → Int) (hf0 : w.cell? ⟨g, 0, none⟩ = some (pkF2 q)) (hf1 : w.cell? ⟨g, 1, none⟩ = some (pkF3 r)) (hg : g < w.heap.size) (hq : w.cell? ⟨q, 0, none⟩ = some (.map (some mb))) (hql : q < w.heap.size) (hr : w.cell? ⟨r, 0, none⟩ = some (.int .i64 i)) (hrl : r < w.heap.size) (hi : i < N.length) (hm : MI w mb cnt (.int .i64 0) (leftV tk))
    (hov : ∀ x ∈ L, x.arr = true → -9223372036854775808 ≤ x.qty - tk x.id ∧ x.qty - tk x.id ≤ 9223372036854775807) :
    Calls Tryz.prog 25 #[.agg #[.int .i64 now, .int .i64 nl, .int .i64 nx, .slice a1 n1 c1, .slice a2 n2 c2, .slice a3 n3 c3], .slice (some ⟨g, 0, none⟩) 2 2] w fun e w' => PkP w now nl nx X (leftL tk L) (N.set i { N.getD i default with st := 2 }) e w' := by
  have e1 := h.items.len; have e2 := h.lots.len; have e3 := h.lines.len
  subst e1; subst e2; subst e3
  obtain ⟨L2, hL2⟩ : ∃ z, z = leftL tk L := ⟨_, rfl⟩
  obtain ⟨N2, hN2⟩ : ∃ z, z = N.set i { N.getD i default with st := 2 } := ⟨_, rfl⟩
  rw [← hL2, ← hN2]
  have HL2 := Lib.hid hL2
  have HN2 := Lib.hid hN2
  clear hL2 hN2
  obtain ⟨W0, hW0⟩ : ∃ V, V = (w.alloc (.cells #[.int .i64 now, .int .i64 nl, .int .i64 nx, .slice a1 X.length c1, .slice a2 L.length c2, .slice a3 N.length c3] 26)).alloc (.cells #[.int .i64 0, .int .i64 0, .int .i64 0, .slice none 0 0, .slice none 0 0, .slice none 0 0] 26) := ⟨_, rfl⟩
  have HB0 : Hid (Below w.heap.size w W0) := Lib.hid (by rw [hW0]; exact ((Below.refl _ w).alloc (Nat.le_refl _) _).alloc (by rw [World.size_alloc]; omega) _)
  have hs0 : Hid (W0.heap.size = w.heap.size + 2) := Lib.hid (by rw [hW0, World.size_alloc, World.size_alloc])
  have hp0 : W0.heap[w.heap.size]? = some (stObj now nl nx (.slice a1 X.length c1) (.slice a2 L.length c2) (.slice a3 N.length c3)) := by
    rw [hW0, ((Below.refl (w.heap.size + 1) (w.alloc _)).alloc (by rw [World.size_alloc]; omega) _).block w.heap.size (by omega)]
    exact heap_alloc_new _ _
  have hq0 : Hid (W0.heap[w.heap.size + 1]? = some (stObj 0 0 0 (.slice none 0 0) (.slice none 0 0) (.slice none 0 0))) := Lib.hid (by
    rw [hW0]
    have := heap_alloc_new (w.alloc (.cells #[.int .i64 now, .int .i64 nl, .int .i64 nx, .slice a1 X.length c1, .slice a2 L.length c2, .slice a3 N.length c3] 26)) (stObj 0 0 0 (.slice none 0 0) (.slice none 0 0) (.slice none 0 0))
    rw [World.size_alloc] at this
    exact this)
  obtain ⟨y0, y1, y2, y3, y4, y5⟩ := stObj_cells hp0
  have HT := Lib.hid (twinState_any B now nl nx a1 X.length c1 X a2 L.length c2 L a3 N.length c3 N W0 (h.below (HB0.out.mono hB)) (Nat.le_trans hB HB0.out.size))
  have HP0 := Lib.hid hp0
  have HLots := Lib.hid h.lots
  have HF0 := Lib.hid hf0
  have HF1 := Lib.hid hf1
  have HQ := Lib.hid hq
  have HR := Lib.hid hr
  have HM := Lib.hid hm
  have HOV := Lib.hid hov
  have HNL := Lib.hid (And.intro h.nL h.nN)
  have HI := Lib.hid hi
  have HW0 := Lib.hid hW0
  have hle1 := h.items.le; have hmx1 := h.items.mx; have hle2 := h.lots.le; have hmx2 := h.lots.mx; have hle3 := h.lines.le; have hmx3 := h.lines.mx
  clear hW0 h hp0 hf0 hf1 hq hr hm hov hi
  go_enter Tryz.func25, Tryz.ntmps25
  go_upto_region 1 with (fail)
  rw [← HW0.out]
  go_upto_region 2 with (go_at_call 55; refine HT.out.mono ?_; intro e w9 hS; obtain ⟨b1, d1, b2, d2, b3, d3, rfl, hp9, hTu⟩ := TuS.start hs0.out HB0.out HP0.out hq0.out hS; obtain ⟨f0, f1, f2, f3, f4, f5⟩ := st_frozen6 hp9; obtain ⟨z0, z1, z2, z3, z4, z5⟩ := stObj_cells hp9; have HT9 := Lib.hid hTu; clear hTu hS hp9)
  obtain ⟨W2, hW2⟩ : ∃ V, V = put6 w9 w.heap.size now nl nx (.slice b1 X.length d1) (.slice b2 L.length d2) (.slice b3 N.length d3) := ⟨_, rfl⟩
  rw [← hW2] at HT9
  unfold put6 at hW2
  rw [← hW2]
  clear hW2 f0 f1 f2 f3 f4 f5 z0 z1 z2 z3 z4 z5 y0 y1 y2 y3 y4 y5 HT HP0
  go_wp2_with (fail)
  go_loopw [11] (fun s11 wr => (s11 = .int .i64 0 ∧ Hid (TuS w now nl nx X L N wr)) ∨ (s11 = .int .i64 1 ∧ Hid (TuS w now nl nx X L2 N wr)) ∨ (s11 = .int .i64 2 ∧ Hid (TuS w now nl nx X L2 N2 wr))) (fun s11 _ => 2 - (intOf s11).toNat)
  case atStart => exact .inl ⟨rfl, HT9⟩
  case round =>
    clear HT9
    rcases hrel with ⟨rfl, T⟩ | ⟨rfl, T⟩ | ⟨rfl, T⟩
    · obtain ⟨b1, d1, Y, b2, d2, b3, d3, V1, h1, h2, h3, h4, h5, h6, h7, h8, h9⟩ := id T.out
      have f0 := (h8.cell (p := ⟨g, 0, none⟩) hg).trans HF0.out
      unfold pkF2 at f0
      obtain ⟨b2', d2', e2, hin⟩ := h6.in_ HLots.out.fine
      injection e2 with e3 e4 e5
      subst e3; subst e5
      have HX := Lib.hid (left_any wr.heap.size w.heap.size q mb cnt now nl nx _ _ b2 L.length d2 L tk wr h1 ((h8.cell (p := ⟨q, 0, none⟩) hql).trans HQ.out) (by have := h8.size; omega) (HM.out.below h8 HM.out.lt) hin (Nat.le_refl _) HNL.out.1 HOV.out)
      clear h1 h2 h3 h4 h5 h6 h7 h8 h9 hin
      go_wp2_with (go_at_call 26; refine HX.out.mono ?_; rintro e wA ⟨rfl, v, w2, ho, hb, rfl⟩; have T1 : Hid (TuS w now nl nx X L2 N _) := Lib.hid (by rw [HL2.out]; exact T.out.left ho hb); clear ho hb)
      go_roundw
      case rel => exact .inr (.inl ⟨by go_num, T1⟩)
      case measure => simp [intOf]
    · obtain ⟨b1, d1, b2, d2, g3, d3, v5, h1, hc, hf, hT⟩ := T.out.ship HI.out
      have h8 : Below w.heap.size w wr := by
        obtain ⟨-, -, -, -, -, -, -, -, -, -, -, -, -, -, -, h8, -⟩ := T.out
        exact h8
      have f1 := (h8.cell (p := ⟨g, 1, none⟩) hg).trans HF1.out
      unfold pkF3 at f1
      have HX := Lib.hid (ship_any w.heap.size r g3 i N.length d3 now nl nx _ _ v5 wr h1 ((h8.cell (p := ⟨r, 0, none⟩) hrl).trans HR.out) HI.out HNL.out.2 hc hf)
      have T2 : Hid (TuS w now nl nx X L2 N2 _) := Lib.hid (by rw [HN2.out]; exact hT)
      clear h1 h8 hc hf hT
      go_wp2_with (go_at_call 27; refine HX.out.mono ?_; rintro e wA ⟨rfl, rfl⟩)
      go_roundw
      case rel => exact .inr (.inr ⟨by go_num, T2⟩)
      case measure => simp [intOf]
    · have HD := Lib.hid (fun (w' : World) => T.out.done (w' := w'))
      obtain ⟨b1, d1, Y, b2, d2, b3, d3, V1, h1, h2, h3, h4, h5, h6, h7, h8, h9⟩ := id T.out
      obtain ⟨y0, y1, y2, y3, y4, y5⟩ := stObj_cells h1
      obtain ⟨f0, f1, f2, f3, f4, f5⟩ := st_frozen6 h2
      obtain ⟨z0, z1, z2, z3, z4, z5⟩ := stObj_cells h2
      have hput := st_put h2 now nl nx (.slice b1 X.length d1) (.slice b2 L2.length d2) (.slice b3 N2.length d3)
      have HH1 := Lib.hid h1
      clear h1 h2 h3 h4 h5 h6 h7 h8 h9
      go_wp2_with (fail)
      obtain ⟨W9, hW9⟩ : ∃ V, V = put6 wr (w.heap.size + 1) now nl nx (.slice b1 X.length d1) (.slice b2 L2.length d2) (.slice b3 N2.length d3) := ⟨_, rfl⟩
      have HW9 := Lib.hid hW9
      unfold put6 at hW9
      rw [← hW9] at hput ⊢
      clear hW9
      refine bodyPost_ret (results_cell_row (P := Tryz.prog) (fn := Tryz.f25) (p := 4) (ty := 26) rfl _ W9 (w.heap.size + 1) 26 _ (0, 0) _ rfl hput Tryz.underlying26 rfl (by kernel_rfl)) rfl ?_
      obtain ⟨b1', d1', b2', d2', b3', d3', k1, k2⟩ := HD.out W9 (fun b hb => by rw [HW9.out, put6_block _ _ _ _ _ _ _ _ hb]) (fun B w0 hb hB => by rw [HW9.out]; exact put6_below hb _ _ _ _ _ _ _ hB)
      have hee := k1.symm.trans HH1.out
      unfold stObj at hee
      simp only [Option.some.injEq, Obj.cells.injEq, Array.mk.injEq, List.cons.injEq, Value.slice.injEq, true_and, and_true] at hee
      obtain ⟨⟨rfl, rfl⟩, ⟨rfl, rfl⟩, rfl, rfl⟩ := hee
      exact k2
end Go.Proofs.YtbedbhlebfnohaaGreat
