/- Items that were lent are written over: storemankit.OverTexts, OverParts, OverItem, OverItems. -/
import Derived.Test.YthlmnoggeggpkaaGreatKRefDp
import Derived.Test.YthlmnoggeggpkaaGreatJApA
import Derived.Test.YthlmnoggeggpkaaGreatJBag
import Derived.Test.YthlmnoggeggpkaaGreatKKeptIs
namespace Go.Proofs.YthlmnoggeggpkaaGreat
open Go.RowKit

/-- Blocks from B to N may be written; each row stays a row, and items stay. -/
structure Ov (B N : Nat) (w w' : World) : Prop where
  out : Out B N w w'
  keep : ∀ (base size n : Nat) (e : TypeId) (v : Value) (X : List Value), w.ownsRow base e size v n X → ∃ X', w'.ownsRow base e size v n X'
  itm : ∀ (base n : Nat) (v : Value) (X : List Value), w.ownsRow base 43 4 v n X → w'.ownsRow base 43 4 v n X
theorem Ov.refl (B N : Nat) (w : World) : Ov B N w w := ⟨Out.refl _ _ _, fun _ _ _ _ _ X h => ⟨X, h⟩, fun _ _ _ _ h => h⟩
theorem Ov.trans {B N : Nat} {w a b : World} (h : Ov B N w a) (k : Ov B N a b) : Ov B N w b :=
  ⟨h.out.trans k.out, fun base size n e v X hx => by
    obtain ⟨X1, h1⟩ := h.keep base size n e v X hx
    exact k.keep base size n e v X1 h1, fun base n v X hx => k.itm base n v X (h.itm base n v X hx)⟩
theorem Ov.below {B N : Nat} {w a b : World} (h : Ov B N w a) (hb : Below a.heap.size a b) : Ov B N w b :=
  ⟨h.out.below hb, fun base size n e v X hx => by
    obtain ⟨X1, h1⟩ := h.keep base size n e v X hx
    exact ⟨X1, Tx.rows_below h1 hb⟩, fun base n v X hx => Tx.rows_below (h.itm base n v X hx) hb⟩
theorem row_any_set {a : World} {g k base size n : Nat} {e : TypeId} {v u : Value} {X : List Value} (h : a.ownsRow base e size v n X) : ∃ X', (a.setCell ⟨g, k, none⟩ u).ownsRow base e size v n X' := by
  obtain ⟨h1, ⟨rfl, h0⟩ | ⟨g', cap, cur, rfl, r⟩⟩ := id h
  · exact ⟨X, h1, .inl ⟨rfl, h0⟩⟩
  · by_cases hg : g' = g
    · subst hg
      exact ⟨_, Tx.row_set h k u⟩
    · exact ⟨X, Tx.row_keep h (Below.heap_setCell _ _ _ _ hg)⟩
theorem Ov.set {B N : Nat} {w a : World} (h : Ov B N w a) {g k : Nat} {u : Value} (hg : B ≤ g ∧ g < N) {base size n c m : Nat} {e : TypeId} {X : List Value} (hr : a.ownsRow base e size (.slice (some ⟨g, 0, none⟩) n c) m X) (he : e ≠ 43) : Ov B N w (a.setCell ⟨g, k, none⟩ u) := by
  refine ⟨h.out.grown (grown_one a g k u) (fun j e => by cases e; exact .inl hg), fun base size n e v X hx => ?_, fun base n v X hx => ?_⟩
  · obtain ⟨X1, h1⟩ := h.keep base size n e v X hx
    exact row_any_set h1
  · have h1 := h.itm base n v X hx
    refine Tx.rows_keep h1 fun b hb => Below.heap_setCell _ _ _ _ (fun e2 => ?_)
    have e2 : b = g := e2
    obtain ⟨c1, q1⟩ := Tx.row_is h1 hb
    obtain ⟨c2, q2⟩ := Tx.row_is hr (g := g) rfl
    rw [e2, q2] at q1
    injection q1 with q1
    injection q1 with _ q1 _
    exact he q1
set_option maxHeartbeats 2000000 in
set_option maxRecDepth 100000 in
theorem OverTexts_raw (B N base g n c : Nat) (X : List Value) (w : World) (ho : w.ownsRow base 9 1 (.slice (some ⟨g, 0, none⟩) (n + 12) c) (n + 12) X) (hg : B ≤ g ∧ g < N) (hn : n ≤ 100000) :
    Calls Tryz.prog 65 #[.slice (some ⟨g, 0, none⟩) n c] w fun e w' => e = .returned (.tuple #[]) ∧ Ov B N w w' := by
  obtain ⟨a', c', e, hle, hmx, -⟩ := Tx.rows_form ho
  injection e with e1 _ e3
  subst e1
  subst e3
  have Ho := Lib.hid ho
  have HG := Lib.hid hg
  clear ho hg
  have q1 : (n : Int) + 12 ≤ (c : Int) := by omega
  have q2 := wrap_in (x := (n : Int) + 12) (by omega) (by omega)
  go_enter Tryz.func65, Tryz.ntmps65
  go_wp2_with (fail)
  go_loopw [3] (fun i wr => ∃ (j : Nat), j ≤ n + 12 ∧ i = .int .i64 j ∧ Hid (Ov B N w wr)) (fun i _ => n + 12 - (intOf i).toNat)
  case atStart => exact ⟨0, by omega, rfl, Lib.hid (Ov.refl _ _ _)⟩
  case round =>
    obtain ⟨j, hj, rfl, HO⟩ := hrel
    by_cases hlt : j < n + 12
    · have hmk := fun W => markT_any 2 j W (by omega) (by omega)
      generalize (mkT 2 j).toArray = m at hmk
      have HFN := Lib.hid (fun (wm : World) (hbm : Below wr.heap.size wr wm) => by
        have h1 := HO.out.below hbm
        obtain ⟨X1, h2⟩ := h1.keep _ _ _ _ _ _ Ho.out
        exact (⟨⟨X1, h2⟩, Tx.rowc_at h2 (k := j) (by omega), h1.set (k := j) (u := .string ⟨m⟩) HG.out h2 (by decide)⟩ : (∃ X1, wm.ownsRow base 9 1 (.slice (some ⟨g, 0, none⟩) (n + 12) c) (n + 12) X1) ∧ _ ∧ _))
      go_wp2_with (go_at_call 94; refine (hmk _).mono ?_; rintro e wm ⟨rfl, hbm⟩; obtain ⟨-, ⟨⟨c1, c2⟩, f1⟩, z3⟩ := HFN.out wm hbm; have Z3 := Lib.hid z3; clear z3 hbm)
      go_roundw
      case rel => exact ⟨j + 1, by omega, by go_num, Z3⟩
      case measure => simp [intOf]; omega
    · go_wp2_with (fail)
      go_end0
      exact ⟨rfl, HO.out⟩
set_option maxHeartbeats 2000000 in
set_option maxRecDepth 100000 in
theorem OverParts_raw (B N base g n c : Nat) (X : List Value) (w : World) (ho : w.ownsRow base 45 2 (.slice (some ⟨g, 0, none⟩) (n + 12) c) (n + 12) X) (hg : B ≤ g ∧ g < N) (hn : n ≤ 100000) :
    Calls Tryz.prog 64 #[.slice (some ⟨g, 0, none⟩) n c] w fun e w' => e = .returned (.tuple #[]) ∧ Ov B N w w' := by
  obtain ⟨a', c', e, hle, hmx, -⟩ := Tx.rows_form ho
  injection e with e1 _ e3
  subst e1
  subst e3
  have Ho := Lib.hid ho
  have HG := Lib.hid hg
  clear ho hg
  have q1 : (n : Int) + 12 ≤ (c : Int) := by omega
  have q2 := wrap_in (x := (n : Int) + 12) (by omega) (by omega)
  go_enter Tryz.func64, Tryz.ntmps64
  go_wp2_with (fail)
  go_loopw [3] (fun i wr => ∃ (j : Nat), j ≤ n + 12 ∧ i = .int .i64 j ∧ Hid (Ov B N w wr)) (fun i _ => n + 12 - (intOf i).toNat)
  case atStart => exact ⟨0, by omega, rfl, Lib.hid (Ov.refl _ _ _)⟩
  case round =>
    obtain ⟨j, hj, rfl, HO⟩ := hrel
    by_cases hlt : j < n + 12
    · have hmk := fun W => markPart_any 2 j W (by omega) (by omega)
      generalize markN 2 j = m at hmk
      have HFN := Lib.hid (fun (wm : World) (hbm : Below wr.heap.size wr wm) => by
        have h1 := HO.out.below hbm
        obtain ⟨X1, h2⟩ := h1.keep _ _ _ _ _ _ Ho.out
        have h3 := h1.set (k := j * 2) (u := .string ⟨#[]⟩) HG.out h2 (by decide)
        obtain ⟨X2, h4⟩ := h3.keep _ _ _ _ _ _ Ho.out
        exact (⟨Tx.rowc_at h2 (k := j * 2) (by omega), Tx.rowc_at h2 (k := j * 2 + 1) (by omega), h3.set (k := j * 2 + 1) (u := .int .i64 (m : Int)) HG.out h4 (by decide)⟩ : _ ∧ _ ∧ _))
      go_wp2_with (go_at_call 93; refine (hmk _).mono ?_; rintro e wm ⟨rfl, hbm⟩; obtain ⟨⟨⟨c1, c2⟩, f1⟩, ⟨⟨c3, c4⟩, f2⟩, z3⟩ := HFN.out wm hbm; have Z3 := Lib.hid z3; clear z3 hbm)
      go_roundw
      case rel => exact ⟨j + 1, by omega, by go_num, Z3⟩
      case measure => simp [intOf]; omega
    · go_wp2_with (fail)
      go_end0
      exact ⟨rfl, HO.out⟩
/-- An item that was lent, whatever is written into its lists. -/
structure LO (B N base : Nat) (w : World) (y : It) : Prop where
  np : y.ps.length ≤ 100000
  no : y.os.length ≤ 100000
  op : ∃ g X, y.pa = some ⟨g, 0, none⟩ ∧ (B ≤ g ∧ g < N) ∧ w.ownsRow base 45 2 (.slice (some ⟨g, 0, none⟩) (y.ps.length + 12) y.pc) (y.ps.length + 12) X
  ot : ∃ g X, y.oa = some ⟨g, 0, none⟩ ∧ (B ≤ g ∧ g < N) ∧ w.ownsRow base 9 1 (.slice (some ⟨g, 0, none⟩) (y.os.length + 12) y.oc) (y.os.length + 12) X
theorem LO.ov {B N base : Nat} {w w' : World} {y : It} (h : LO B N base w y) (ho : Ov B N w w') : LO B N base w' y := by
  obtain ⟨g, X, e1, e2, e3⟩ := h.op
  obtain ⟨k, Z, f1, f2, f3⟩ := h.ot
  obtain ⟨X', e4⟩ := ho.keep _ _ _ _ _ _ e3
  obtain ⟨Z', f4⟩ := ho.keep _ _ _ _ _ _ f3
  exact ⟨h.np, h.no, ⟨g, X', e1, e2, e4⟩, ⟨k, Z', f1, f2, f4⟩⟩
theorem LI.lo {B base : Nat} {w : World} {x y : It} (h : LI base w x y) (hB : B ≤ base) (h1 : x.ps.length ≤ 100000) (h2 : x.os.length ≤ 100000) : LO B w.heap.size base w y := by
  obtain ⟨e1, e2, e3, e4⟩ := h.like
  obtain ⟨g, f1, f2, f3, f4⟩ := h.op
  obtain ⟨k, g1, g2, g3, g4⟩ := h.ot
  have l1 : (x.ps ++ lentP).length = x.ps.length + 12 := by rw [List.length_append, lentP_len]
  have l2 : (x.os ++ lentX).length = x.os.length + 12 := by rw [List.length_append, lentX_len]
  unfold OP at f4
  unfold OT at g4
  rw [l1] at f4
  rw [l2] at g4
  have r1 := Tx.rows_ge f4 g rfl
  have r2 := Tx.rows_ge g4 k rfl
  exact ⟨by rw [e3]; exact h1, by rw [e4]; exact h2, ⟨g, _, f1, ⟨by omega, r1.2⟩, by rw [e3]; exact f4⟩, ⟨k, _, g1, ⟨by omega, r2.2⟩, by rw [e4]; exact g4⟩⟩
set_option maxHeartbeats 2000000 in
set_option maxRecDepth 100000 in
theorem OverItem_any (B N base : Nat) (y : It) (w : World) (h : LO B N base w y) :
    Calls Tryz.prog 37 #[y.val] w fun e w' => e = .returned (.tuple #[]) ∧ Ov B N w w' := by
  obtain ⟨code, life, pa, pc, ps, oa, oc, os⟩ := y
  obtain ⟨hn1, hn2, ⟨g, X, rfl, hg, hop⟩, ⟨k, Z, rfl, hk, hot⟩⟩ := h
  simp only at hn1 hn2 hop hot
  obtain ⟨np, hnp⟩ : ∃ k, k = ps.length := ⟨_, rfl⟩
  obtain ⟨no, hno⟩ : ∃ k, k = os.length := ⟨_, rfl⟩
  rw [← hnp] at hn1 hop
  rw [← hno] at hn2 hot
  have HOP := Lib.hid hop
  have HOT := Lib.hid hot
  have HG := Lib.hid hg
  have HK := Lib.hid hk
  unfold It.val encStr
  simp only
  rw [← hnp, ← hno]
  clear hop hot hg hk hnp hno
  go_enter Tryz.func37, Tryz.ntmps37
  go_wp2_with (fail)
  obtain ⟨W1, hW1⟩ : ∃ W, W = w.alloc (.cells #[.string ⟨code.toArray⟩, .int .i64 life, .slice (some ⟨g, 0, none⟩) np pc, .slice (some ⟨k, 0, none⟩) no oc] 43) := ⟨_, rfl⟩
  rw [← hW1]
  have hb1 : Below w.heap.size w W1 := by rw [hW1]; exact (Below.refl _ w).alloc (Nat.le_refl _) _
  have hx1 : W1.ownsRow w.heap.size 43 4 (.slice (some ⟨w.heap.size, 0, none⟩) 1 1) 1 [.string ⟨code.toArray⟩, .int .i64 life, .slice (some ⟨g, 0, none⟩) np pc, .slice (some ⟨k, 0, none⟩) no oc] := by
    rw [hW1]
    exact ⟨rfl, .inr ⟨w.heap.size, 1, _, rfl, Nat.le_refl _, heap_alloc_new _ _, Nat.le_refl _, by simp [maxLen], rfl, rfl⟩⟩
  have hov1 : Ov B N w W1 := (Ov.refl B N w).below hb1
  have HX1 := Lib.hid hx1
  have HOV1 := Lib.hid hov1
  clear hW1 hb1 hx1 hov1
  obtain ⟨X1, ho1⟩ := HOV1.out.keep _ _ _ _ _ _ HOP.out
  have HC := Lib.hid (OverParts_raw B N base g np pc X1 W1 ho1 HG.out hn1)
  clear ho1
  go_at_call 64
  refine HC.out.mono ?_
  rintro e w2 ⟨rfl, hov2⟩
  have c3 := (hov2.itm _ _ _ _ HX1.out).cellAt 3 (by decide)
  have HOV2 := Lib.hid (HOV1.out.trans hov2)
  obtain ⟨Z1, hot1⟩ := HOV2.out.keep _ _ _ _ _ _ HOT.out
  have HD := Lib.hid (OverTexts_raw B N base k no oc Z1 w2 hot1 HK.out hn2)
  have c3 : w2.cell? ⟨w.heap.size, 3, none⟩ = some (.slice (some ⟨k, 0, none⟩) no oc) := c3
  clear hov2 HC hot1
  go_wp2_with (fail)
  go_at_call 65
  refine HD.out.mono ?_
  rintro e w3 ⟨rfl, hov3⟩
  have HOV3 := Lib.hid (HOV2.out.trans hov3)
  clear hov3 HD
  go_wp2_with (fail)
  go_end0
  exact ⟨rfl, HOV3.out⟩
/-- The mark of a place in a list of items. -/
theorem markItem_k (k i : Nat) (w : World) (hk : k ≤ 1000) (hi : i ≤ 1000000000) :
    Calls Tryz.prog 25 #[.int .i64 (k : Int), .int .i64 (i : Int)] w fun e w' => e = .returned (.agg #[.string ⟨#[]⟩, .int .i64 (markN k i : Nat), .slice none 0 0, .slice none 0 0]) ∧ Below w.heap.size w w' := by
  have HM := Lib.hid (fun W => mark_any k i W (by omega) hi)
  have hm := markN_bd k i (by omega) hi
  generalize markN k i = m at HM hm
  have hw := wrap_in (x := (m : Int)) (by omega) (by omega)
  have HB := Lib.hid (fun c : Array Value => (Below.refl w.heap.size w).alloc (Nat.le_refl _) (.cells c 43))
  have HB2 := Lib.hid (fun (c : Array Value) (v : Value) => ((Below.refl w.heap.size w).alloc (Nat.le_refl _) (.cells c 43)).setCell (p := ⟨w.heap.size, 1, none⟩) (Nat.le_refl _) v)
  go_enter Tryz.func25, Tryz.ntmps25
  go_wp2_with (go_at_call 48; refine (HM.out _).mono ?_; rintro e w' ⟨rfl, rfl⟩)
  go_returns
  exact ⟨rfl, by first | exact HB.out _ | exact HB2.out _ _⟩
set_option maxHeartbeats 4000000 in
set_option maxRecDepth 100000 in
theorem OverItems_any (B N base g n : Nat) (Y : List It) (w : World) (ho : OIt base w (.slice (some ⟨g, 0, none⟩) (n + 12) (n + 12)) (Y ++ lentI)) (hY : Y.length = n) (hg : B ≤ g ∧ g < N) (hn : n ≤ 100000) (hL : ∀ y ∈ Y, LO B N base w y) :
    Calls Tryz.prog 12 #[.slice (some ⟨g, 0, none⟩) n (n + 12)] w fun e w' => e = .returned (.tuple #[]) ∧ Out B N w w' := by
  have HO := Lib.hid ho
  have HG := Lib.hid hg
  have HL := Lib.hid hL
  have HYL := Lib.hid hY
  clear ho hg hL hY
  have q1 : (n : Int) ≤ (n : Int) + 12 := by omega
  have q2 := wrap_in (x := (n : Int) + 12) (by omega) (by omega)
  go_enter Tryz.func12, Tryz.ntmps12
  go_wp2_with (fail)
  go_loopw [2] (fun i wr => ∃ (j : Nat), j ≤ n ∧ i = .int .i64 j ∧ Hid (Ov B N w wr)) (fun i _ => n - (intOf i).toNat)
  case atStart => exact ⟨0, by omega, rfl, Lib.hid (Ov.refl _ _ _)⟩
  case round =>
    obtain ⟨j, hj, rfl, HV⟩ := hrel
    by_cases hlt : j < n
    · have t1 : decide ((j : Int) < (n : Int)) = true := by simp; omega
      have f1 : IntKind.i64.wrap ((j : Int) + 1) = ((j + 1 : Nat) : Int) := by rw [wrap_in (by omega) (by omega)]; omega
      have q3 : (0 : Int) ≤ (j : Int) := by omega
      have q4 : (j : Int) < (n : Int) := by omega
      have hrow : OIt base wr (.slice (some ⟨g, 0, none⟩) (n + 12) (n + 12)) (Y ++ lentI) := HV.out.itm _ _ _ _ HO.out
      have hlen : j < (Y ++ lentI).length := by rw [List.length_append, HYL.out]; omega
      obtain ⟨k1, k2, k3, k4⟩ := cellsI_at (Y ++ lentI) j hlen
      have e : ∀ m, (⟨g, 0, none⟩ : Addr).add m = ⟨g, 0 + m, none⟩ := fun m => by unfold Addr.add; split <;> simp_all
      have c1 := World.ownsRow.cells (g := g) hrow rfl _ _ k1
      have c2 := World.ownsRow.cells (g := g) hrow rfl _ _ k2
      have c3 := World.ownsRow.cells (g := g) hrow rfl _ _ k3
      have c4 := World.ownsRow.cells (g := g) hrow rfl _ _ k4
      rw [e, Nat.zero_add] at c1 c2 c3 c4
      have hyj : (Y ++ lentI).getD j default = Y.getD j default := by
        rw [List.getD_eq_getElem?_getD, List.getElem?_append_left (by rw [HYL.out]; exact hlt), List.getD_eq_getElem?_getD]
      rw [hyj] at c1 c2 c3 c4
      have hlo := (HL.out _ (getD_mem (X := Y) (by rw [HYL.out]; exact hlt))).ov HV.out
      obtain ⟨y, hy⟩ : ∃ y, y = Y.getD j default := ⟨_, rfl⟩
      rw [← hy] at c1 c2 c3 c4 hlo
      have hcall := OverItem_any B N base y wr hlo
      unfold It.val at hcall
      have HC := Lib.hid hcall
      clear hrow hlen k1 k2 k3 k4 e hyj hlo hy hcall
      go_wp2_with (fail)
      go_at_call 37
      refine HC.out.mono ?_
      rintro e w2 ⟨rfl, hov⟩
      have HV2 := Lib.hid (HV.out.trans hov)
      clear hov HC c1 c2 c3 c4
      go_wp2_with (fail)
      go_roundw
      case rel => exact ⟨j + 1, by omega, by go_num, HV2⟩
      case measure => simp [intOf]; omega
    · have t1 : decide ((j : Int) < (n : Int)) = false := by simp; omega
      have hrow : OIt base wr (.slice (some ⟨g, 0, none⟩) (n + 12) (n + 12)) (Y ++ lentI) := HV.out.itm _ _ _ _ HO.out
      have hlen : (Y ++ lentI).length = n + 12 := by rw [List.length_append, HYL.out]; rfl
      unfold OIt at hrow
      rw [hlen] at hrow
      have HR0 : Hid (Out B N w wr ∧ ∃ X, wr.ownsRow base 43 4 (.slice (some ⟨g, 0, none⟩) (n + 12) (n + 12)) (n + 12) X) := Lib.hid ⟨HV.out.out, _, hrow⟩
      clear hrow hlen HV
      go_wp2_with (fail)
      go_loopw [4] (fun i wr => ∃ (j : Nat), j ≤ n + 12 ∧ i = .int .i64 j ∧ Hid (Out B N w wr ∧ ∃ X, wr.ownsRow base 43 4 (.slice (some ⟨g, 0, none⟩) (n + 12) (n + 12)) (n + 12) X)) (fun i _ => n + 12 - (intOf i).toNat)
      case atStart => exact ⟨0, by omega, rfl, HR0⟩
      case round =>
        clear HR0
        obtain ⟨j, hj, rfl, HR0⟩ := hrel
        by_cases hlt : j < n + 12
        · have hmk := fun W => markItem_k 2 j W (by omega) (by omega)
          generalize markN 2 j = m at hmk
          have HFN := Lib.hid (fun (wm : World) (hbm : Below wr.heap.size wr wm) => by
            obtain ⟨h1, X1, h2⟩ := HR0.out
            have h3 := Tx.rows_below h2 hbm
            have h4 := Tx.row_set (Tx.row_set (Tx.row_set (Tx.row_set h3 (j * 4) (.string ⟨#[]⟩)) (j * 4 + 1) (.int .i64 (m : Int))) (j * 4 + 2) (.slice none 0 0)) (j * 4 + 3) (.slice none 0 0)
            have h5 := ((((h1.below hbm).grown (grown_one wm g (j * 4) (.string ⟨#[]⟩)) (fun q e => by cases e; exact .inl HG.out)).grown (grown_one _ g (j * 4 + 1) (.int .i64 (m : Int))) (fun q e => by cases e; exact .inl HG.out)).grown (grown_one _ g (j * 4 + 2) (.slice none 0 0)) (fun q e => by cases e; exact .inl HG.out)).grown (grown_one _ g (j * 4 + 3) (.slice none 0 0)) (fun q e => by cases e; exact .inl HG.out)
            exact (⟨Tx.rowc_at h3 (k := j * 4) (by omega), Tx.rowc_at h3 (k := j * 4 + 1) (by omega), Tx.rowc_at h3 (k := j * 4 + 2) (by omega), Tx.rowc_at h3 (k := j * 4 + 3) (by omega), h5, _, h4⟩ : _ ∧ _ ∧ _ ∧ _ ∧ Out B N w ((((wm.setCell ⟨g, j * 4, none⟩ (.string ⟨#[]⟩)).setCell ⟨g, j * 4 + 1, none⟩ (.int .i64 (m : Int))).setCell ⟨g, j * 4 + 2, none⟩ (.slice none 0 0)).setCell ⟨g, j * 4 + 3, none⟩ (.slice none 0 0)) ∧ ∃ X, ((((wm.setCell ⟨g, j * 4, none⟩ (.string ⟨#[]⟩)).setCell ⟨g, j * 4 + 1, none⟩ (.int .i64 (m : Int))).setCell ⟨g, j * 4 + 2, none⟩ (.slice none 0 0)).setCell ⟨g, j * 4 + 3, none⟩ (.slice none 0 0)).ownsRow base 43 4 (.slice (some ⟨g, 0, none⟩) (n + 12) (n + 12)) (n + 12) X))
          go_wp2_with (go_at_call 25; refine (hmk _).mono ?_; rintro e wm ⟨rfl, hbm⟩; obtain ⟨⟨⟨c1, c2⟩, x1⟩, ⟨⟨c3, c4⟩, x2⟩, ⟨⟨c5, c6⟩, x3⟩, ⟨⟨c7, c8⟩, x4⟩, z3⟩ := HFN.out wm hbm; have Z3 := Lib.hid z3; clear z3 hbm)
          go_roundw
          case rel => exact ⟨j + 1, by omega, by go_num, Z3⟩
          case measure => simp [intOf]; omega
        · go_wp2_with (fail)
          go_end0
          exact ⟨rfl, HR0.out.1⟩
end Go.Proofs.YthlmnoggeggpkaaGreat
