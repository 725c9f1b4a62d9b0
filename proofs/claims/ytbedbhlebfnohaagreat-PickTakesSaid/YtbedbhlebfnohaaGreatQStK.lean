/- storemankit.SameItems, SameState, LentState, KeptState: walks. -/
import Derived.Test.YtbedbhlebfnohaaGreatKKeptIs
import Derived.Test.YtbedbhlebfnohaaGreatJRef
import Derived.Test.YtbedbhlebfnohaaGreatQLineK
namespace Go.Proofs.YtbedbhlebfnohaaGreat
open Go.RowKit Go.Sort Go.Lib Go.Shelf

theorem ri_belowW {B : Nat} {wr : World} {a : Option Addr} {n c : Nat} {X : List It} (h : RI B wr a n c X) (hB : B ≤ wr.heap.size) {i : Nat} (hi : i < n) : ∃ b o, a = some ⟨b, o, none⟩ ∧ (∀ y : BelowW wr, y.v.cell? ⟨b, o + i * 4, none⟩ = some (encStr (X.getD i default).code)) ∧ (∀ y : BelowW wr, y.v.cell? ⟨b, o + i * 4 + 1, none⟩ = some (.int .i64 (X.getD i default).life)) ∧
    (∀ y : BelowW wr, y.v.cell? ⟨b, o + i * 4 + 2, none⟩ = some (.slice (X.getD i default).pa (X.getD i default).ps.length (X.getD i default).pc)) ∧ (∀ y : BelowW wr, y.v.cell? ⟨b, o + i * 4 + 3, none⟩ = some (.slice (X.getD i default).oa (X.getD i default).os.length (X.getD i default).oc)) := by
  obtain ⟨b, o, e, hb, -, g0, g1, g2, g3⟩ := h.item hi
  have hlt : b < wr.heap.size := Nat.lt_of_lt_of_le hb hB
  exact ⟨b, o, e, fun y => (y.h.cell (by exact hlt)).trans g0, fun y => (y.h.cell (by exact hlt)).trans g1, fun y => (y.h.cell (by exact hlt)).trans g2, fun y => (y.h.cell (by exact hlt)).trans g3⟩
set_option maxHeartbeats 4000000 in
set_option maxRecDepth 100000 in
/-- Items that are alike, each at its place, are the same. -/
theorem SameItems_like (B : Nat) (a b : Option Addr) (n c d : Nat) (X Y : List It) (w : World) (hx : RI B w a n c X) (hy : RI B w b n d Y) (hB : B ≤ w.heap.size) (hl : ∀ i, i < n → LikeI (X.getD i default) (Y.getD i default)) :
    Calls Tryz.prog 30 #[.slice a n c, .slice b n d] w fun e w' => e = .returned (.bool true) ∧ Below w.heap.size w w' := by
  have hle := hx.le; have hmx := hx.mx; have hle2 := hy.le; have hmx2 := hy.mx
  have HX := Lib.hid hx
  have HY := Lib.hid hy
  have HL := Lib.hid hl
  clear hx hy hl
  go_enter Tryz.func30, Tryz.ntmps30
  go_wp2_with (fail)
  go_loopw [5] (fun s5 wr => ∃ j : Nat, s5 = .int .i64 j ∧ j ≤ n ∧ Hid (Below w.heap.size w wr)) (fun s5 _ => n - (intOf s5).toNat)
  case atStart => exact ⟨0, rfl, Nat.zero_le _, Lib.hid (Below.refl _ _)⟩
  case round =>
    obtain ⟨j, rfl, hj, Hb⟩ := hrel
    by_cases hlt : j < n
    · have hBr : B ≤ wr.heap.size := Nat.le_trans hB Hb.out.size
      obtain ⟨b1, o1, rfl, l0, l1, l2, l3⟩ := ri_belowW (HX.out.below (Hb.out.mono hB)) hBr hlt
      obtain ⟨b2, o2, rfl, k0, k1, k2, k3⟩ := ri_belowW (HY.out.below (Hb.out.mono hB)) hBr hlt
      have hxo : ItOk B wr (X.getD j default) := (HX.out.ok _ (getD_mem (by rw [← HX.out.len]; exact hlt))).below (Hb.out.mono hB)
      have hyo : ItOk B wr (Y.getD j default) := (HY.out.ok _ (getD_mem (by rw [← HY.out.len]; exact hlt))).below (Hb.out.mono hB)
      have HS := Lib.hid (fun (V : World) (hb : Below wr.heap.size wr V) => SameItem_like B _ _ V (hxo.below (hb.mono hBr)) (hyo.below (hb.mono hBr)) (Nat.le_trans hBr hb.size) (HL.out j hlt))
      clear hxo hyo
      generalize X.getD j default = x at l0 l1 l2 l3 HS
      generalize Y.getD j default = y at k0 k1 k2 k3 HS
      obtain ⟨xc, xl, xpa, xpc, xps, xoa, xoc, xos⟩ := x
      obtain ⟨yc, yl, ypa, ypc, yps, yoa, yoc, yos⟩ := y
      unfold It.val at HS
      simp only [encStr] at l0 l1 l2 l3 k0 k1 k2 k3 HS
      have hs : ∀ y : BelowW wr, Calls Tryz.prog 63 #[.agg #[.string ⟨xc.toArray⟩, .int .i64 xl, .slice xpa xps.length xpc, .slice xoa xos.length xoc], .agg #[.string ⟨yc.toArray⟩, .int .i64 yl, .slice ypa yps.length ypc, .slice yoa yos.length yoc]] y.v fun e w' => e = .returned (.bool true) ∧ Below y.v.heap.size y.v w' := fun y => HS.out y.v y.h
      go_wp2_with (fail)
      refine wp_region_below wr (by kernel_rfl) (by kernel_rfl) (Below.refl _ _) ?_
      repeat (go_big_quiet_step ((go_at_call 63; exact below_call (hs _))))
      refine wpQuiet_nil ?_
      intro _ hw'
      obtain ⟨y, hw''⟩ := hw'
      subst hw''
      clear l0 l1 l2 l3 k0 k1 k2 k3
      go_wp2_with (fail)
      go_roundw
      case rel => exact ⟨j + 1, by go_num, by omega, Lib.hid (Hb.out.trans (y.h.mono Hb.out.size))⟩
      case measure => simp [intOf]; omega
    · have hge : ¬ (j : Int) < (n : Int) := by omega
      go_wp2_with (fail)
      go_ret
      exact ⟨rfl, Hb.out⟩
/-- Two states in blocks of their own, side by side. -/
theorem two_st (w : World) (A C : Array Value) : ∃ W0, W0 = (w.alloc (.cells A 26)).alloc (.cells C 26) ∧ Below w.heap.size w W0 ∧ W0.heap.size = w.heap.size + 2 ∧ W0.heap[w.heap.size]? = some (.cells A 26) ∧ W0.heap[w.heap.size + 1]? = some (.cells C 26) := by
  refine ⟨_, rfl, ((Below.refl _ w).alloc (Nat.le_refl _) _).alloc (by rw [World.size_alloc]; omega) _, by rw [World.size_alloc, World.size_alloc], ?_, ?_⟩
  · rw [((Below.refl (w.heap.size + 1) (w.alloc _)).alloc (by rw [World.size_alloc]; omega) _).block w.heap.size (by omega)]
    exact heap_alloc_new _ _
  · have := heap_alloc_new (w.alloc (.cells A 26)) (.cells C 26)
    rw [World.size_alloc] at this
    exact this
set_option maxHeartbeats 4000000 in
set_option maxRecDepth 100000 in
theorem SameState_like (B : Nat) (now nl nx : Int) (a1 b1 a2 b2 a3 b3 : Option Addr) (n1 c1 d1 n2 c2 d2 n3 c3 d3 : Nat) (X Y : List It) (L : List LotV) (N : List LineV) (w : World) (hx : RI B w a1 n1 c1 X) (hy : RI B w b1 n1 d1 Y) (hl : ∀ i, i < n1 → LikeI (X.getD i default) (Y.getD i default)) (h2 : lotE.In B w a2 n2 c2 L) (k2 : lotE.In B w b2 n2 d2 L) (h3 : lineE.In B w a3 n3 c3 N) (k3 : lineE.In B w b3 n3 d3 N) (hB : B ≤ w.heap.size) :
    Calls Tryz.prog 10 #[.agg #[.int .i64 now, .int .i64 nl, .int .i64 nx, .slice a1 n1 c1, .slice a2 n2 c2, .slice a3 n3 c3], .agg #[.int .i64 now, .int .i64 nl, .int .i64 nx, .slice b1 n1 d1, .slice b2 n2 d2, .slice b3 n3 d3]] w fun e w' => e = .returned (.bool true) ∧ Below w.heap.size w w' := by
  obtain ⟨W0, hW0, hB0, hs00, hp0, hq0⟩ := two_st w #[.int .i64 now, .int .i64 nl, .int .i64 nx, .slice a1 n1 c1, .slice a2 n2 c2, .slice a3 n3 c3] #[.int .i64 now, .int .i64 nl, .int .i64 nx, .slice b1 n1 d1, .slice b2 n2 d2, .slice b3 n3 d3]
  have HI := Lib.hid (SameItems_like B a1 b1 n1 c1 d1 X Y W0 (hx.below (hB0.mono hB)) (hy.below (hB0.mono hB)) (Nat.le_trans hB hB0.size) hl)
  have HL2 := Lib.hid (fun (V : World) (hb : Below w.heap.size w V) => by
    have := SameLots_any B B a2 b2 n2 n2 c2 d2 L L V (h2.below (hb.mono hB)) (k2.below (hb.mono hB))
    rw [decide_eq_true rfl] at this
    exact this)
  have HL3 := Lib.hid (fun (V : World) (hb : Below w.heap.size w V) => by
    have := SameLines_any B B a3 b3 n3 n3 c3 d3 N N V (h3.below (hb.mono hB)) (k3.below (hb.mono hB))
    rw [decide_eq_true rfl] at this
    exact this)
  have HC := Lib.hid (fun (V : World) (hb : Below W0.heap.size W0 V) => And.intro (stObj_cells ((hb.block w.heap.size (by omega)).trans hp0)) (stObj_cells ((hb.block (w.heap.size + 1) (by omega)).trans hq0)))
  obtain ⟨⟨y0, y1, y2, y3, y4, y5⟩, z0, z1, z2, z3, z4, z5⟩ := HC.out W0 (Below.refl _ _)
  have HB0 := Lib.hid hB0
  have HW0 := Lib.hid hW0
  have hs1 : W0.heap.size ≤ w.heap.size + 2 ∧ w.heap.size + 2 ≤ W0.heap.size := by omega
  have e1 := hx.le; have e2 := hy.le; have e3 := h2.le; have e4 := k2.le; have e5 := h3.le; have e6 := k3.le
  clear hx hy hl h2 k2 h3 k3 hW0 hB0 hp0 hq0 hs00
  go_enter Tryz.func10, Tryz.ntmps10
  go_upto_region 1 with (fail)
  rw [← HW0.out]
  go_wp2_with (first | (go_at_call 30; refine HI.out.mono ?_; rintro e w1 ⟨rfl, hb1⟩; obtain ⟨⟨-, -, -, -, r4, r5⟩, -, -, -, -, t4, t5⟩ := HC.out w1 hb1; have B1 := Lib.hid hb1; clear hb1) | (go_at_call 31; refine (HL2.out _ (HB0.out.trans (B1.out.mono (by omega)))).mono ?_; rintro e w2 ⟨rfl, q2, rfl⟩; have hb2 := B1.out.trans (drewN_below w1 q2 _); obtain ⟨⟨-, -, -, -, -, u5⟩, -, -, -, -, -, v5⟩ := HC.out _ hb2; have B2 := Lib.hid hb2; clear hb2) | (go_at_call 32; refine (HL3.out _ (HB0.out.trans (B2.out.mono (by omega)))).mono ?_; rintro e w3 ⟨rfl, q3, rfl⟩))
  go_ret
  have hb3 := B1.out.trans (drewN_below w1 (q2 + q3) W0.heap.size)
  exact ⟨rfl, HB0.out.trans (hb3.mono (Nat.le_trans (Nat.le_add_right _ 2) hs1.2))⟩
/-- A state that is lent. -/
structure LentSt (B : Nat) (w : World) (g1 g2 d2 g3 d3 : Nat) (X Y : List It) (L : List LotV) (N : List LineV) : Prop where
  items : OIt B w (.slice (some ⟨g1, 0, none⟩) (X.length + 12) (X.length + 12)) (Y ++ lentI)
  len : Y.length = X.length
  each : ∀ i, i < X.length → LI B w (X.getD i default) (Y.getD i default)
  lots : lotE.Own B w (.slice (some ⟨g2, 0, none⟩) (L.length + 12) d2) (L ++ lentLot)
  lines : lineE.Own B w (.slice (some ⟨g3, 0, none⟩) (N.length + 12) d3) (N ++ lentLine)
theorem LentSt.keep {B : Nat} {w w' : World} {g1 g2 d2 g3 d3 : Nat} {X Y : List It} {L : List LotV} {N : List LineV} (h : LentSt B w g1 g2 d2 g3 d3 X Y L N) (hk : ∀ b, B ≤ b → b < w.heap.size → w'.heap[b]? = w.heap[b]?) : LentSt B w' g1 g2 d2 g3 d3 X Y L N :=
  ⟨h.items.keep fun b e => hk b (h.items.ge b e).1 (h.items.ge b e).2, h.len, fun i hi => (h.each i hi).keepG hk, h.lots.keep fun b e => hk b (h.lots.ge b e).1 (h.lots.ge b e).2, h.lines.keep fun b e => hk b (h.lines.ge b e).1 (h.lines.ge b e).2⟩
theorem LentSt.below {B : Nat} {w w' : World} {g1 g2 d2 g3 d3 : Nat} {X Y : List It} {L : List LotV} {N : List LineV} (h : LentSt B w g1 g2 d2 g3 d3 X Y L N) (hb : Below w.heap.size w w') : LentSt B w' g1 g2 d2 g3 d3 X Y L N := h.keep fun b _ hl => hb.block b hl
/-- Lent items are items in memory. -/
theorem lent_riQ {base N g n : Nat} {X Y : List It} {w w0 : World} (ho : OIt base w (.slice (some ⟨g, 0, none⟩) (n + 12) (n + 12)) (Y ++ lentI)) (hY : Y.length = n) (hX : X.length = n) (hL : ∀ i, i < n → LI base w (X.getD i default) (Y.getD i default)) (hx : ∀ x ∈ X, ItOk N w0 x) : RI w.heap.size w (some ⟨g, 0, none⟩) n (n + 12) Y := by
  obtain ⟨h1, h2, h3, h4, hc⟩ := ho.cells
  refine ⟨hY.symm, by omega, h3, fun y hy => ?_, fun _ => ⟨g, 0, rfl, h4, fun i hi => ?_⟩⟩
  · obtain ⟨i, hi, rfl⟩ := List.mem_iff_getElem.1 hy
    have := hL i (by omega)
    rw [List.getD_eq_getElem?_getD (l := Y), List.getElem?_eq_getElem hi] at this
    refine LI.ok this (hx _ ?_)
    rw [List.getD_eq_getElem?_getD, List.getElem?_eq_getElem (by omega)]
    exact List.getElem_mem _
  · have := hc i (by omega)
    rw [allI_at Y n i hY.symm hi] at this
    simpa using this
theorem LentSt.ri {B M : Nat} {w w0 : World} {g1 g2 d2 g3 d3 : Nat} {X Y : List It} {L : List LotV} {N : List LineV} (h : LentSt B w g1 g2 d2 g3 d3 X Y L N) (hx : ∀ x ∈ X, ItOk M w0 x) : RI w.heap.size w (some ⟨g1, 0, none⟩) X.length (X.length + 12) Y := lent_riQ h.items h.len rfl h.each hx
theorem mkLot_ok (i : Nat) (hi : i < 12) : okLot (mkLot 1 i) := by
  have := markN_bd 1 i (by omega) (by omega)
  unfold mkLot okLot
  simp
  omega
theorem mkLine_ok (i : Nat) (hi : i < 12) : okLine (mkLine 1 i) := by
  have := markN_bd 1 i (by omega) (by omega)
  unfold mkLine okLine
  simp
  omega
theorem LentSt.lotsIn {B : Nat} {w : World} {g1 g2 d2 g3 d3 : Nat} {X Y : List It} {L : List LotV} {N : List LineV} (h : LentSt B w g1 g2 d2 g3 d3 X Y L N) (hf : ∀ x ∈ L, okLot x) : lotE.In w.heap.size w (some ⟨g2, 0, none⟩) (L.length + 12) d2 (L ++ lentLot) := by
  obtain ⟨a, c, e, hin⟩ := h.lots.in_ (fun x hx => by
    rcases List.mem_append.1 hx with hx | hx
    · exact hf x hx
    · unfold lentLot at hx
      obtain ⟨i, hi, rfl⟩ := List.mem_map.1 hx
      exact mkLot_ok i (List.mem_range.1 hi))
  rw [List.length_append, lentLot_len] at e hin
  injection e with e1 e2 e3
  subst e1; subst e3
  exact hin
theorem LentSt.linesIn {B : Nat} {w : World} {g1 g2 d2 g3 d3 : Nat} {X Y : List It} {L : List LotV} {N : List LineV} (h : LentSt B w g1 g2 d2 g3 d3 X Y L N) (hf : ∀ x ∈ N, okLine x) : lineE.In w.heap.size w (some ⟨g3, 0, none⟩) (N.length + 12) d3 (N ++ lentLine) := by
  obtain ⟨a, c, e, hin⟩ := h.lines.in_ (fun x hx => by
    rcases List.mem_append.1 hx with hx | hx
    · exact hf x hx
    · unfold lentLine at hx
      obtain ⟨i, hi, rfl⟩ := List.mem_map.1 hx
      exact mkLine_ok i (List.mem_range.1 hi))
  rw [List.length_append, lentLine_len] at e hin
  injection e with e1 e2 e3
  subst e1; subst e3
  exact hin
theorem st_set3 {W : World} {q : Nat} {now nl nx : Int} {u1 u2 u3 : Value} (hq : W.heap[q]? = some (stObj now nl nx u1 u2 u3)) (v : Value) : (W.setCell ⟨q, 3, none⟩ v).heap[q]? = some (stObj now nl nx v u2 u3) := by
  unfold stObj at *
  simp [setCell_eq, mapBlock, Array.getElem?_modify, hq, onCells]
theorem st_set4 {W : World} {q : Nat} {now nl nx : Int} {u1 u2 u3 : Value} (hq : W.heap[q]? = some (stObj now nl nx u1 u2 u3)) (v : Value) : (W.setCell ⟨q, 4, none⟩ v).heap[q]? = some (stObj now nl nx u1 v u3) := by
  unfold stObj at *
  simp [setCell_eq, mapBlock, Array.getElem?_modify, hq, onCells]
theorem st_set5 {W : World} {q : Nat} {now nl nx : Int} {u1 u2 u3 : Value} (hq : W.heap[q]? = some (stObj now nl nx u1 u2 u3)) (v : Value) : (W.setCell ⟨q, 5, none⟩ v).heap[q]? = some (stObj now nl nx u1 u2 v) := by
  unfold stObj at *
  simp [setCell_eq, mapBlock, Array.getElem?_modify, hq, onCells]
set_option maxHeartbeats 4000000 in
set_option maxRecDepth 100000 in
theorem LentState_any (B : Nat) (now nl nx : Int) (a1 : Option Addr) (n1 c1 : Nat) (X : List It) (a2 : Option Addr) (n2 c2 : Nat) (L : List LotV) (a3 : Option Addr) (n3 c3 : Nat) (N : List LineV) (w : World) (h : StIn B w a1 n1 c1 X a2 n2 c2 L a3 n3 c3 N) (hB : B ≤ w.heap.size) (m1 : n1 ≤ 100000) (m2 : n2 ≤ 100000) (m3 : n3 ≤ 100000) :
    Calls Tryz.prog 7 #[.agg #[.int .i64 now, .int .i64 nl, .int .i64 nx, .slice a1 n1 c1, .slice a2 n2 c2, .slice a3 n3 c3]] w fun e w' => Below w.heap.size w w' ∧ ∃ g1 g2 d2 g3 d3 Y, e = .returned (.agg #[.int .i64 now, .int .i64 nl, .int .i64 nx, .slice (some ⟨g1, 0, none⟩) n1 (n1 + 12), .slice (some ⟨g2, 0, none⟩) n2 d2, .slice (some ⟨g3, 0, none⟩) n3 d3]) ∧ LentSt w.heap.size w' g1 g2 d2 g3 d3 X Y L N := by
  have e1 := h.items.len; have e2 := h.lots.len; have e3 := h.lines.len
  subst e1; subst e2; subst e3
  obtain ⟨W0, hW0, hB0, hs00, hp0, hq0⟩ := two_st w #[.int .i64 now, .int .i64 nl, .int .i64 nx, .slice a1 X.length c1, .slice a2 L.length c2, .slice a3 N.length c3] #[.int .i64 0, .int .i64 0, .int .i64 0, .slice none 0 0, .slice none 0 0, .slice none 0 0]
  have HI := Lib.hid (LentItems_any B a1 X.length c1 X W0 (h.items.below (hB0.mono hB)) (Nat.le_trans hB hB0.size) m1 h.sz)
  have HL := Lib.hid (fun (V : World) (hb : Below w.heap.size w V) => LentLots_any B a2 L.length c2 L V (h.lots.below (hb.mono hB)) (Nat.le_trans hB hb.size) m2)
  have HN := Lib.hid (fun (V : World) (hb : Below w.heap.size w V) => LentLines_any B a3 N.length c3 N V (h.lines.below (hb.mono hB)) (Nat.le_trans hB hb.size) m3)
  obtain ⟨y0, y1, y2, y3, y4, y5⟩ := stObj_cells hp0
  have HP0 : Hid (W0.heap[w.heap.size]? = some (stObj now nl nx (.slice a1 X.length c1) (.slice a2 L.length c2) (.slice a3 N.length c3))) := Lib.hid hp0
  have HQ0 : Hid (W0.heap[w.heap.size + 1]? = some (stObj 0 0 0 (.slice none 0 0) (.slice none 0 0) (.slice none 0 0))) := Lib.hid hq0
  have HB0 := Lib.hid hB0
  have HW0 := Lib.hid hW0
  have hs1 : W0.heap.size ≤ w.heap.size + 2 ∧ w.heap.size + 2 ≤ W0.heap.size := by omega
  have q1 := h.items.le; have q2 := h.lots.le; have q3 := h.lines.le
  clear hW0 hB0 hp0 hq0 h hs00
  go_enter Tryz.func7, Tryz.ntmps7
  go_upto_region 1 with (fail)
  rw [← HW0.out]
  go_upto_region 2 with (go_at_call 16; refine HI.out.mono ?_; rintro e w1 ⟨Y, rfl, hY, hO, hE, hb1⟩; have hp1 := (hb1.block w.heap.size (by omega)).trans HP0.out; have hq1 := (hb1.block (w.heap.size + 1) (by omega)).trans HQ0.out; have f3 := st_frozen hp1 3; have t3 := (stObj_cells hp1).2.2.2.1; have HO := Lib.hid hO; have HE := Lib.hid hE; have HY := Lib.hid hY; have B1 := Lib.hid hb1; have P1 := Lib.hid hp1; have Q1 := Lib.hid hq1; clear hb1 hp1 hq1 hO hE hY)
  obtain ⟨V1, hV1⟩ : ∃ V, V = w1.setCell ⟨w.heap.size, 3, none⟩ (.slice (some ⟨W0.heap.size, 0, none⟩) X.length (X.length + 12)) := ⟨_, rfl⟩
  rw [← hV1]
  have hP1 := st_set3 P1.out (.slice (some ⟨W0.heap.size, 0, none⟩) X.length (X.length + 12))
  rw [← hV1] at hP1
  have hn1 : ∀ b, b ≠ w.heap.size → V1.heap[b]? = w1.heap[b]? := fun b hb => by rw [hV1, setCell_block _ _ _ _ hb]
  have hz1 : V1.heap.size = w1.heap.size := by rw [hV1, size_setCell]
  have hV1b : Hid (Below w.heap.size w V1) := Lib.hid (by rw [hV1]; exact below_set (HB0.out.trans (B1.out.mono HB0.out.size)) _ _ _ (Nat.le_refl _))
  have hP1c := (stObj_cells hP1).2.2.2.2.1
  have HP1 := Lib.hid hP1
  have HN1 := Lib.hid hn1
  have HL1 := Lib.hid (HL.out V1 hV1b.out)
  have s1 := B1.out.size
  clear hV1 hP1 hn1 f3 t3 y0 y1 y2 y3 y4 y5
  go_upto_region 3 with (go_at_call 17; refine HL1.out.mono ?_; rintro e w2 ⟨⟨g2, d2, rfl, hd2, hO2⟩, hb2⟩; have hp2 := (hb2.block w.heap.size (by omega)).trans HP1.out; have f4 := st_frozen hp2 4; have t4 := (stObj_cells hp2).2.2.2.2.1; have HO2 := Lib.hid hO2; have B2 := Lib.hid hb2; have P2 := Lib.hid hp2; clear hb2 hp2 hO2)
  obtain ⟨V2, hV2⟩ : ∃ V, V = w2.setCell ⟨w.heap.size, 4, none⟩ (.slice (some ⟨g2, 0, none⟩) L.length d2) := ⟨_, rfl⟩
  rw [← hV2]
  have hP2 := st_set4 P2.out (.slice (some ⟨g2, 0, none⟩) L.length d2)
  rw [← hV2] at hP2
  have hn2 : ∀ b, b ≠ w.heap.size → V2.heap[b]? = w2.heap[b]? := fun b hb => by rw [hV2, setCell_block _ _ _ _ hb]
  have hz2 : V2.heap.size = w2.heap.size := by rw [hV2, size_setCell]
  have hV2b : Hid (Below w.heap.size w V2) := Lib.hid (by rw [hV2]; exact below_set (hV1b.out.trans (B2.out.mono hV1b.out.size)) _ _ _ (Nat.le_refl _))
  have hP2c := (stObj_cells hP2).2.2.2.2.2
  have HP2 := Lib.hid hP2
  have HN2 := Lib.hid hn2
  have HL2 := Lib.hid (HN.out V2 hV2b.out)
  have s2 := B2.out.size
  clear hV2 hP2 hn2 f4 t4 hP1c
  go_upto_region 4 with (go_at_call 18; refine HL2.out.mono ?_; rintro e w3 ⟨⟨g3, d3, rfl, hd3, hO3⟩, hb3⟩; have hp3 := (hb3.block w.heap.size (by omega)).trans HP2.out; have f5 := st_frozen hp3 5; have t5 := (stObj_cells hp3).2.2.2.2.2; have HO3 := Lib.hid hO3; have B3 := Lib.hid hb3; have P3 := Lib.hid hp3; clear hb3 hp3 hO3)
  obtain ⟨V3, hV3⟩ : ∃ V, V = w3.setCell ⟨w.heap.size, 5, none⟩ (.slice (some ⟨g3, 0, none⟩) N.length d3) := ⟨_, rfl⟩
  rw [← hV3]
  have hP3 := st_set5 P3.out (.slice (some ⟨g3, 0, none⟩) N.length d3)
  rw [← hV3] at hP3
  have hn3 : ∀ b, b ≠ w.heap.size → V3.heap[b]? = w3.heap[b]? := fun b hb => by rw [hV3, setCell_block _ _ _ _ hb]
  have hz3 : V3.heap.size = w3.heap.size := by rw [hV3, size_setCell]
  have hV3b : Hid (Below w.heap.size w V3) := Lib.hid (by rw [hV3]; exact below_set (hV2b.out.trans (B3.out.mono hV2b.out.size)) _ _ _ (Nat.le_refl _))
  have s3 := B3.out.size
  have hq3 : V3.heap[w.heap.size + 1]? = some (stObj 0 0 0 (.slice none 0 0) (.slice none 0 0) (.slice none 0 0)) := by
    rw [hn3 _ (by omega), B3.out.block _ (by omega), HN2.out _ (by omega), B2.out.block _ (by omega), HN1.out _ (by omega)]
    exact Q1.out
  have HST : Hid (∀ w', (∀ b, w.heap.size + 2 ≤ b → w'.heap[b]? = V3.heap[b]?) → LentSt w.heap.size w' W0.heap.size g2 d2 g3 d3 X Y L N) := Lib.hid fun w' hk => by
    have k1 : ∀ b, W0.heap.size ≤ b → b < w1.heap.size → w'.heap[b]? = w1.heap[b]? := fun b hb hl => by
      rw [hk b (by omega), hn3 _ (by omega), B3.out.block _ (by omega), HN2.out _ (by omega), B2.out.block _ (by omega), HN1.out _ (by omega)]
    have k2 : ∀ b, V1.heap.size ≤ b → b < w2.heap.size → w'.heap[b]? = w2.heap[b]? := fun b hb hl => by
      rw [hk b (by omega), hn3 _ (by omega), B3.out.block _ (by omega), HN2.out _ (by omega)]
    have k3 : ∀ b, V2.heap.size ≤ b → b < w3.heap.size → w'.heap[b]? = w3.heap[b]? := fun b hb hl => by
      rw [hk b (by omega), hn3 _ (by omega)]
    exact ⟨(HO.out.keep fun b e => k1 b (HO.out.ge b e).1 (HO.out.ge b e).2).mono (by omega), HY.out, fun i hi => (((HE.out i hi).keepG fun b hb hl => k1 b (by omega) hl).mono (by omega)), (HO2.out.keep fun b e => k2 b (HO2.out.ge b e).1 (HO2.out.ge b e).2).mono (by omega), (HO3.out.keep fun b e => k3 b (HO3.out.ge b e).1 (HO3.out.ge b e).2).mono (by omega)⟩
  obtain ⟨x0, x1, x2, x3, x4, x5⟩ := stObj_cells hP3
  obtain ⟨f0, f1, f2, f3, f4, f5'⟩ := st_frozen6 hq3
  obtain ⟨z0, z1, z2, z3, z4, z5⟩ := stObj_cells hq3
  have hput := st_put hq3 now nl nx (.slice (some ⟨W0.heap.size, 0, none⟩) X.length (X.length + 12)) (.slice (some ⟨g2, 0, none⟩) L.length d2) (.slice (some ⟨g3, 0, none⟩) N.length d3)
  clear hV3 hP3 hn3 f5 t5 hP2c hq3
  go_wp2_with (fail)
  obtain ⟨W9, hW9⟩ : ∃ V, V = put6 V3 (w.heap.size + 1) now nl nx (.slice (some ⟨W0.heap.size, 0, none⟩) X.length (X.length + 12)) (.slice (some ⟨g2, 0, none⟩) L.length d2) (.slice (some ⟨g3, 0, none⟩) N.length d3) := ⟨_, rfl⟩
  have HW9 := Lib.hid hW9
  unfold put6 at hW9
  rw [← hW9] at hput ⊢
  clear hW9
  refine bodyPost_ret (results_cell_row (P := Tryz.prog) (fn := Tryz.f7) (p := 2) (ty := 26) rfl _ W9 (w.heap.size + 1) 26 _ (0, 0) _ rfl hput Tryz.underlying26 rfl (by kernel_rfl)) rfl ?_
  rw [HW9.out]
  exact ⟨put6_below hV3b.out _ _ _ _ _ _ _ (by omega), _, _, _, _, _, Y, rfl, HST.out _ fun b hb => put6_block _ _ _ _ _ _ _ _ (by omega)⟩
set_option maxHeartbeats 4000000 in
set_option maxRecDepth 100000 in
theorem KeptState_any (B C : Nat) (now nl nx : Int) (a1 : Option Addr) (n1 c1 : Nat) (X : List It) (a2 : Option Addr) (n2 c2 : Nat) (L : List LotV) (a3 : Option Addr) (n3 c3 : Nat) (N : List LineV) (w : World) (h : StIn B w a1 n1 c1 X a2 n2 c2 L a3 n3 c3 N) (hB : B ≤ w.heap.size) (m1 : n1 ≤ 100000) (g1 g2 d2 g3 d3 : Nat) (Y : List It) (hs : LentSt C w g1 g2 d2 g3 d3 X Y L N) :
    Calls Tryz.prog 12 #[.agg #[.int .i64 now, .int .i64 nl, .int .i64 nx, .slice (some ⟨g1, 0, none⟩) n1 (n1 + 12), .slice (some ⟨g2, 0, none⟩) n2 d2, .slice (some ⟨g3, 0, none⟩) n3 d3], .agg #[.int .i64 now, .int .i64 nl, .int .i64 nx, .slice a1 n1 c1, .slice a2 n2 c2, .slice a3 n3 c3]] w fun e w' => e = .returned (.bool true) ∧ Below w.heap.size w w' := by
  have e1 := h.items.len; have e2 := h.lots.len; have e3 := h.lines.len
  subst e1; subst e2; subst e3
  obtain ⟨W0, hW0, hB0, hs00, hp0, hq0⟩ := two_st w #[.int .i64 now, .int .i64 nl, .int .i64 nx, .slice (some ⟨g1, 0, none⟩) X.length (X.length + 12), .slice (some ⟨g2, 0, none⟩) L.length d2, .slice (some ⟨g3, 0, none⟩) N.length d3] #[.int .i64 now, .int .i64 nl, .int .i64 nx, .slice a1 X.length c1, .slice a2 L.length c2, .slice a3 N.length c3]
  have hs' := hs.below hB0
  have h' := h.below (hB0.mono hB)
  have hBW : B ≤ W0.heap.size := Nat.le_trans hB hB0.size
  have hlt := hs'.lotsIn h.lots.fine
  have hln := hs'.linesIn h.lines.fine
  have ri1 := hs'.ri h'.items.ok
  have HS := Lib.hid (SameState_like W0.heap.size now nl nx (some ⟨g1, 0, none⟩) a1 (some ⟨g2, 0, none⟩) a2 (some ⟨g3, 0, none⟩) a3 X.length (X.length + 12) c1 L.length d2 c2 N.length d3 c3 Y X L N W0 ri1 (h'.items.mono hBW) (fun i hi => (hs'.each i hi).like) (by have := hlt.take L.length (by omega); rwa [List.take_left] at this) (h'.lots.mono hBW) (by have := hln.take N.length (by omega); rwa [List.take_left] at this) (h'.lines.mono hBW) (Nat.le_refl _))
  have HK1 := Lib.hid (fun (V : World) (hb : Below W0.heap.size W0 V) => KeptItems_any C B g1 a1 X.length c1 X Y V (hs'.below hb).items hs.len (hs'.below hb).each (h'.items.below (hb.mono hBW)) (Nat.le_trans hBW hb.size) m1)
  have HK2 := Lib.hid (fun (V : World) (hb : Below W0.heap.size W0 V) => KeptLots_any V.heap.size B g2 d2 a2 L.length c2 L V ((hs'.below hb).lotsIn h.lots.fine) (h'.lots.below (hb.mono hBW)) (Nat.le_refl _) (Nat.le_trans hBW hb.size))
  have HK3 := Lib.hid (fun (V : World) (hb : Below W0.heap.size W0 V) => KeptLines_any V.heap.size B g3 d3 a3 N.length c3 N V ((hs'.below hb).linesIn h.lines.fine) (h'.lines.below (hb.mono hBW)) (Nat.le_refl _) (Nat.le_trans hBW hb.size))
  have HC := Lib.hid (fun (V : World) (hb : Below W0.heap.size W0 V) => And.intro (stObj_cells ((hb.block w.heap.size (by omega)).trans hp0)) (stObj_cells ((hb.block (w.heap.size + 1) (by omega)).trans hq0)))
  obtain ⟨⟨y0, y1, y2, y3, y4, y5⟩, z0, z1, z2, z3, z4, z5⟩ := HC.out W0 (Below.refl _ _)
  have HB0 := Lib.hid hB0
  have HW0 := Lib.hid hW0
  have hs1 : W0.heap.size ≤ w.heap.size + 2 ∧ w.heap.size + 2 ≤ W0.heap.size := by omega
  clear h hs hs' h' hlt hln ri1 hW0 hB0 hp0 hq0 hs00
  go_enter Tryz.func12, Tryz.ntmps12
  go_upto_region 1 with (fail)
  rw [← HW0.out]
  go_wp2_with (first | (go_at_call 10; refine HS.out.mono ?_; rintro e w1 ⟨rfl, hb1⟩; obtain ⟨⟨-, -, -, p3, p4, p5⟩, -, -, -, r3, r4, r5⟩ := HC.out w1 hb1; have B1 := Lib.hid hb1; clear hb1) | (go_at_call 33; refine (HK1.out _ B1.out).mono ?_; rintro e w2 ⟨rfl, hb2⟩; have hb2' := B1.out.trans (hb2.mono B1.out.size); obtain ⟨⟨-, -, -, -, s4, s5⟩, -, -, -, -, t4, t5⟩ := HC.out w2 hb2'; have B2 := Lib.hid hb2'; clear hb2 hb2') | (go_at_call 34; refine (HK2.out _ B2.out).mono ?_; rintro e w3 ⟨rfl, hb3⟩; have hb3' := B2.out.trans (hb3.mono B2.out.size); obtain ⟨⟨-, -, -, -, -, u5⟩, -, -, -, -, -, v5⟩ := HC.out w3 hb3'; have B3 := Lib.hid hb3'; clear hb3 hb3') | (go_at_call 35; refine (HK3.out _ B3.out).mono ?_; rintro e w4 ⟨rfl, hb4⟩; have B4 := Lib.hid (B3.out.trans (hb4.mono B3.out.size)); clear hb4))
  go_ret
  exact ⟨rfl, HB0.out.trans (B4.out.mono (by omega))⟩
end Go.Proofs.YtbedbhlebfnohaaGreat
