/- pick.Pick$2: what is left of the lots: its walk. A cell of one's own row is stored. -/
import Derived.Test.YtbedbhlebfnohaaGreatQDel
import Derived.Test.YtbedbhlebfnohaaGreatQItC
namespace Go.Proofs.YtbedbhlebfnohaaGreat
open Go.RowKit Go.Sort Go.Lib Go.Shelf

/-- A lot less what is taken of it. -/
def lessL (tk : Int → Int) (x : LotV) : LotV := if x.arr then ⟨x.id, x.item, x.fr, x.un, x.qty - tk x.id, x.arr⟩ else x
/-- What is left of the lots. -/
def leftL (tk : Int → Int) (X : List LotV) : List LotV := (X.map (lessL tk)).filter fun x => decide (0 < x.qty) || !x.arr
theorem leftL_succ (tk : Int → Int) {X : List LotV} {j : Nat} (h : j < X.length) : leftL tk (X.take (j + 1)) = leftL tk (X.take j) ++ if decide (0 < (lessL tk (X.getD j default)).qty) || !(lessL tk (X.getD j default)).arr then [lessL tk (X.getD j default)] else [] := by
  have e : X.getD j default = X[j] := by rw [List.getD_eq_getElem?_getD, List.getElem?_eq_getElem h]; rfl
  unfold leftL
  rw [List.take_succ_eq_append_getElem h, List.map_append, List.filter_append, e, List.map_cons, List.map_nil, List.filter_cons, List.filter_nil]
theorem leftL_len (tk : Int → Int) (X : List LotV) : (leftL tk X).length ≤ X.length := by
  unfold leftL
  exact Nat.le_trans (List.length_filter_le _ _) (by rw [List.length_map]; exact Nat.le_refl _)
theorem st_frozen {w : World} {p : Nat} {now nl nx : Int} {v1 v2 v3 : Value} (h : w.heap[p]? = some (stObj now nl nx v1 v2 v3)) (k : Nat) : w.frozen? ⟨p, k, none⟩ = false := by
  unfold stObj at h
  unfold World.frozen?
  rw [h]
  simp
theorem lot_frozen {w : World} {p : Nat} {id : Int} {item : List UInt8} {fr un qty : Int} {arr : Bool} (h : w.heap[p]? = some (lotObj id item fr un qty arr)) (k : Nat) : w.frozen? ⟨p, k, none⟩ = false := by
  unfold lotObj at h
  unfold World.frozen?
  rw [h]
  simp
theorem setCell_block (w : World) (p k : Nat) (v : Value) {b : Nat} (hb : b ≠ p) : (w.setCell ⟨p, k, none⟩ v).heap[b]? = w.heap[b]? := by
  rw [setCell_eq]
  simp [mapBlock, Array.getElem?_modify, Ne.symm hb]
theorem below_set {B : Nat} {w w1 : World} (h : Below B w w1) (p k : Nat) (v : Value) (hp : B ≤ p) : Below B w (w1.setCell ⟨p, k, none⟩ v) :=
  ⟨h.os, h.tape, h.output, by rw [setCell_eq]; simpa [mapBlock] using h.size, fun b hb => by rw [setCell_block _ _ _ _ (by omega)]; exact h.block b hb⟩
theorem lot_set {w : World} {p : Nat} {id : Int} {item : List UInt8} {fr un qty : Int} {arr : Bool} (h : w.heap[p]? = some (lotObj id item fr un qty arr)) (q' : Int) : (w.setCell ⟨p, 4, none⟩ (.int .i64 q')).heap[p]? = some (lotObj id item fr un q' arr) := by
  rw [setCell_eq]
  unfold lotObj at *
  simp [mapBlock, Array.getElem?_modify, h, onCells]
/-- The rounds' relation. -/
def LeftR (w : World) (tk : Int → Int) (X : List LotV) (j : Nat) (v : Value) (wr : World) : Prop := lotE.Own w.heap.size wr v (leftL tk (X.take j)) ∧ Below w.heap.size w wr
set_option maxHeartbeats 4000000 in
set_option maxRecDepth 100000 in
theorem left_any (B p q mb cnt : Nat) (now nl nx : Int) (v1 v3 : Value) (a : Option Addr) (n c : Nat) (X : List LotV) (tk : Int → Int) (w : World)
    (hp : w.heap[p]? = some (stObj now nl nx v1 (.slice a n c) v3)) (hq : w.cell? ⟨q, 0, none⟩ = some (.map (some mb))) (hql : q < w.heap.size) (hm : MI w mb cnt (.int .i64 0) (leftV tk)) (hX : lotE.In B w a n c X) (hB : B ≤ w.heap.size) (hn : n ≤ 100000000)
    (hov : ∀ x ∈ X, x.arr = true → -9223372036854775808 ≤ x.qty - tk x.id ∧ x.qty - tk x.id ≤ 9223372036854775807) :
    Calls Tryz.prog 26 #[.pointer (some ⟨p, 0, none⟩), .pointer (some ⟨q, 0, none⟩)] w fun e w' => e = .returned (.tuple #[]) ∧ ∃ v w2, lotE.Own w.heap.size w2 v (leftL tk X) ∧ Below w.heap.size w w2 ∧ w' = w2.setCell ⟨p, 4, none⟩ v := by
  have hpl : p < w.heap.size := (Array.getElem?_eq_some_iff.1 hp).1
  obtain ⟨-, -, -, -, s4, -⟩ := stObj_cells hp
  have hle := hX.le; have hmx := hX.mx
  have Hln := Lib.hid hX.len
  have HX := Lib.hid hX
  have HM := Lib.hid hm
  have HP := Lib.hid hp
  have HQ := Lib.hid hq
  have HOV := Lib.hid hov
  clear hp hq hm hX hov
  go_enter Tryz.func26, Tryz.ntmps26
  go_wp2_with (fail)
  go_loopw [3, 11] (fun s3 s11 wr => ∃ (j : Nat) (sa : Option Addr) (nn sc : Nat), s3 = .slice sa nn sc ∧ s11 = .int .i64 j ∧ j ≤ n ∧ Hid (LeftR w tk X j (.slice sa nn sc) wr)) (fun _ s11 _ => n - (intOf s11).toNat)
  case atStart => exact ⟨0, none, 0, 0, rfl, rfl, Nat.zero_le _, Lib.hid ⟨El.Own.nil _ _ _, Below.refl _ _⟩⟩
  case round =>
    obtain ⟨j, sa, nn, sc, rfl, rfl, hj, HR⟩ := hrel
    by_cases hlt : j < n
    · obtain ⟨b, o, rfl, hbB, hc⟩ := lotE_at (HX.out.below (HR.out.2.mono hB)) (by omega)
      obtain ⟨g0, g1, g2, g3, g4, g5⟩ := hc j hlt
      have hok := Lib.hid (HX.out.ok_at hlt)
      have Hov := Lib.hid (HOV.out (X.getD j default) (by rw [List.getD_eq_getElem?_getD, List.getElem?_eq_getElem (by rw [← Hln.out]; exact hlt)]; exact List.getElem_mem _))
      have Hsucc := Lib.hid (leftL_succ tk (X := X) (j := j) (by rw [← Hln.out]; exact hlt))
      clear hc
      generalize X.getD j default = x at g0 g1 g2 g3 g4 g5 hok Hov Hsucc
      obtain ⟨id, item, fr, un, qty, arr⟩ := x
      simp only at g0 g1 g2 g3 g4 g5
      unfold encStr at g1
      have HID := Lib.hid (show -9223372036854775808 ≤ id ∧ id ≤ 9223372036854775807 from hok.out.1)
      have hNN := Lib.hid (show nn = (leftL tk (X.take j)).length ∧ nn ≤ 100000000 from by
        have h1 : nn = (leftL tk (X.take j)).length := by obtain ⟨a9, c9, e9, -⟩ := HR.out.1.form; injection e9
        have h2 := leftL_len tk (X.take j)
        rw [List.length_take] at h2
        exact ⟨h1, by omega⟩)
      obtain ⟨W1, hW1⟩ : ∃ V, V = wr.alloc (.cells #[.int .i64 id, .string ⟨item.toArray⟩, .int .i64 fr, .int .i64 un, .int .i64 qty, .bool arr] 46) := ⟨_, rfl⟩
      obtain ⟨p1, hp1⟩ : ∃ p1, p1 = wr.heap.size := ⟨_, rfl⟩
      have hh1 : W1.heap[p1]? = some (lotObj id item fr un qty arr) := by rw [hW1, hp1]; exact heap_alloc_new _ _
      obtain ⟨y0, y1, y2, y3, y4, y5⟩ := lotObj_cells hh1
      have f4 := lot_frozen hh1 4
      have HH1 := Lib.hid hh1
      have bW1 : Hid (Below wr.heap.size wr W1) := Lib.hid (by rw [hW1]; exact below_alloc _ _)
      have HW1 := Lib.hid hW1
      have hs1 : p1 < W1.heap.size := (Array.getElem?_eq_some_iff.1 hh1).1
      have hps : Hid (p1 = wr.heap.size) := Lib.hid hp1
      have hwr := HR.out.2.size
      have hwp : w.heap.size ≤ p1 := by omega
      have c1 : W1.cell? ⟨q, 0, none⟩ = some (.map (some mb)) := (bW1.out.cell (p := ⟨q, 0, none⟩) (by show q < _; omega)).trans ((HR.out.2.cell (p := ⟨q, 0, none⟩) hql).trans HQ.out)
      have lk := (((HM.out.below HR.out.2 HM.out.lt).below bW1.out (by have := HM.out.lt; omega)) : MI W1 mb cnt (.int .i64 0) (leftV tk)).look Tryz.underlying67 (zeroI64 _) id HID.out.1 HID.out.2
      have ek : leftV tk id = .int .i64 (tk id) := rfl
      rw [ek] at lk
      clear hW1 hh1
      have hO1 := Lib.hid (HR.out.1.below bW1.out)
      have hB1 := Lib.hid (HR.out.2.trans (bW1.out.mono hwr))
      cases arr with
      | false =>
        have HS : Hid (leftL tk (X.take (j + 1)) = leftL tk (X.take j) ++ [⟨id, item, fr, un, qty, false⟩]) := Lib.hid (by rw [Hsucc.out]; simp [lessL])
        clear lk ek
        have hOA : Hid (lotE.Own w.heap.size (W1.alloc (.cells #[.int .i64 id, .string ⟨item.toArray⟩, .int .i64 fr, .int .i64 un, .int .i64 qty, .bool false] 46)) (.slice sa nn sc) (leftL tk (X.take j))) := Lib.hid (hO1.out.below (below_alloc _ _))
        have hBA : Hid (Below w.heap.size w (W1.alloc (.cells #[.int .i64 id, .string ⟨item.toArray⟩, .int .i64 fr, .int .i64 un, .int .i64 qty, .bool false] 46))) := Lib.hid (hB1.out.trans ((below_alloc _ _).mono (by have := hB1.out.size; omega)))
        by_cases hq0 : 0 < qty
        · go_upto_region 4 with (fail)
          rw [← HW1.out, ← hp1]
          clear hp1
          go_wp2_with (at_builtin; refine El.wpList_append1 lotE rfl _ _ rfl w.heap.size (.slice sa nn sc) (leftL tk (X.take j)) ⟨id, item, fr, un, qty, false⟩ (nn + 1) (by rw [hNN.out.1]) rfl hOA.out _ 1 rfl (lotE_lit _ ⟨id, item, fr, un, qty, false⟩ _) hBA.out.size (by have := hNN.out; omega) ?_; intro g9 c9 w9 hown9 hg9 hgg9; have R9 : Hid (LeftR w tk X (j + 1) (.slice (some ⟨g9, 0, none⟩) (nn + 1) c9) w9) := Lib.hid ⟨by rw [HS.out]; exact hown9, hBA.out.grown hg9 hBA.out.size (fun k e => (hOA.out.ge k e).1)⟩; clear hown9 hg9 hgg9)
          go_roundw
          case rel => exact ⟨j + 1, some ⟨g9, 0, none⟩, nn + 1, c9, rfl, by go_num, by omega, R9⟩
          case measure => simp [intOf]; omega
        · go_upto_region 4 with (fail)
          rw [← HW1.out, ← hp1]
          clear hp1
          go_wp2_with (at_builtin; refine El.wpList_append1 lotE rfl _ _ rfl w.heap.size (.slice sa nn sc) (leftL tk (X.take j)) ⟨id, item, fr, un, qty, false⟩ (nn + 1) (by rw [hNN.out.1]) rfl hOA.out _ 1 rfl (lotE_lit _ ⟨id, item, fr, un, qty, false⟩ _) hBA.out.size (by have := hNN.out; omega) ?_; intro g9 c9 w9 hown9 hg9 hgg9; have R9 : Hid (LeftR w tk X (j + 1) (.slice (some ⟨g9, 0, none⟩) (nn + 1) c9) w9) := Lib.hid ⟨by rw [HS.out]; exact hown9, hBA.out.grown hg9 hBA.out.size (fun k e => (hOA.out.ge k e).1)⟩; clear hown9 hg9 hgg9)
          go_roundw
          case rel => exact ⟨j + 1, some ⟨g9, 0, none⟩, nn + 1, c9, rfl, by go_num, by omega, R9⟩
          case measure => simp [intOf]; omega
      | true =>
        have hrg := Hov.out rfl
        simp only at hrg
        generalize htk : tk id = tq at hrg lk
        have HTK := Lib.hid htk
        clear ek htk
        have hO2 : Hid (lotE.Own w.heap.size (W1.setCell ⟨p1, 4, none⟩ (.int .i64 (qty - tq))) (.slice sa nn sc) (leftL tk (X.take j))) := Lib.hid (hO1.out.keep fun b e => setCell_block _ _ _ _ (by have := (HR.out.1.ge b e).2; have := hps.out; omega))
        have hB2 := Lib.hid (below_set hB1.out p1 4 (.int .i64 (qty - tq)) hwp)
        have hh2 : Hid ((W1.setCell ⟨p1, 4, none⟩ (.int .i64 (qty - tq))).heap[p1]? = some (lotObj id item fr un (qty - tq) true)) := Lib.hid (lot_set HH1.out _)
        obtain ⟨W2, hW2⟩ : ∃ V, V = W1.setCell ⟨p1, 4, none⟩ (.int .i64 (qty - tq)) := ⟨_, rfl⟩
        rw [← hW2] at hO2 hB2 hh2
        have HW2 := Lib.hid hW2
        clear hW2
        by_cases hq0 : 0 < qty - tq
        · have HS : Hid (leftL tk (X.take (j + 1)) = leftL tk (X.take j) ++ [⟨id, item, fr, un, qty - tq, true⟩]) := Lib.hid (by
            have e : lessL tk ⟨id, item, fr, un, qty, true⟩ = ⟨id, item, fr, un, qty - tq, true⟩ := by unfold lessL; rw [if_pos rfl, HTK.out]
            rw [Hsucc.out, e, if_pos (by simp only [decide_eq_true hq0, Bool.true_or])])
          have hOA : Hid (lotE.Own w.heap.size (W2.alloc (.cells #[.int .i64 id, .string ⟨item.toArray⟩, .int .i64 fr, .int .i64 un, .int .i64 (qty - tq), .bool true] 46)) (.slice sa nn sc) (leftL tk (X.take j))) := Lib.hid (hO2.out.below (below_alloc _ _))
          have hBA : Hid (Below w.heap.size w (W2.alloc (.cells #[.int .i64 id, .string ⟨item.toArray⟩, .int .i64 fr, .int .i64 un, .int .i64 (qty - tq), .bool true] 46))) := Lib.hid (hB2.out.trans ((below_alloc _ _).mono hB2.out.size))
          go_upto_region 4 with (fail)
          rw [← HW1.out, ← hp1]
          clear hp1
          go_upto_region 6 with (fail)
          rw [← HW2.out]
          clear y0 y1 y2 y3 y4 y5 f4 c1 lk
          obtain ⟨y0, y1, y2, y3, y4, y5⟩ := lotObj_cells hh2.out
          go_wp2_with (at_builtin; refine El.wpList_append1 lotE rfl _ _ rfl w.heap.size (.slice sa nn sc) (leftL tk (X.take j)) ⟨id, item, fr, un, (qty - tq), true⟩ (nn + 1) (by rw [hNN.out.1]) rfl hOA.out _ 1 rfl (lotE_lit _ ⟨id, item, fr, un, (qty - tq), true⟩ _) hBA.out.size (by have := hNN.out; omega) ?_; intro g9 c9 w9 hown9 hg9 hgg9; have R9 : Hid (LeftR w tk X (j + 1) (.slice (some ⟨g9, 0, none⟩) (nn + 1) c9) w9) := Lib.hid ⟨by rw [HS.out]; exact hown9, hBA.out.grown hg9 hBA.out.size (fun k e => (hOA.out.ge k e).1)⟩; clear hown9 hg9 hgg9)
          go_roundw
          case rel => exact ⟨j + 1, some ⟨g9, 0, none⟩, nn + 1, c9, rfl, by go_num, by omega, R9⟩
          case measure => simp [intOf]; omega
        · have HS : Hid (leftL tk (X.take (j + 1)) = leftL tk (X.take j)) := Lib.hid (by
            have e : lessL tk ⟨id, item, fr, un, qty, true⟩ = ⟨id, item, fr, un, qty - tq, true⟩ := by unfold lessL; rw [if_pos rfl, HTK.out]
            rw [Hsucc.out, e, if_neg (by simp only [decide_eq_false hq0]; decide), List.append_nil])
          go_upto_region 4 with (fail)
          rw [← HW1.out, ← hp1]
          clear hp1
          go_upto_region 6 with (fail)
          rw [← HW2.out]
          clear y0 y1 y2 y3 y4 y5 f4 c1 lk
          obtain ⟨y0, y1, y2, y3, y4, y5⟩ := lotObj_cells hh2.out
          go_wp2_with (fail)
          go_roundw
          case rel => exact ⟨j + 1, sa, nn, sc, rfl, by go_num, by omega, Lib.hid ⟨by rw [HS.out]; exact hO2.out, hB2.out⟩⟩
          case measure => simp [intOf]; omega
    · obtain rfl : j = n := by omega
      have hR := Lib.hid (show LeftR w tk X X.length (.slice sa nn sc) wr by rw [← Hln.out]; exact HR.out)
      have hpw : wr.heap[p]? = some (stObj now nl nx v1 (.slice a j c) v3) := (HR.out.2.block p hpl).trans HP.out
      obtain ⟨-, -, -, -, t4, -⟩ := stObj_cells hpw
      have f4 := st_frozen hpw 4
      have hO := Lib.hid (show lotE.Own w.heap.size wr (.slice sa nn sc) (leftL tk X) by have := hR.out.1; rwa [List.take_length] at this)
      go_wp2_with (fail)
      first | go_end0 | ((try simp only [Exit.inBlock, Exit.then]); refine bodyPost_ret (results_none rfl _ _ _) rfl ?_)
      exact ⟨rfl, _, wr, hO.out, HR.out.2, rfl⟩
end Go.Proofs.YtbedbhlebfnohaaGreat
namespace Go.Proofs.YtbedbhlebfnohaaGreat
open Go.RowKit Go.Sort Go.Lib Tx
section
variable {α : Type} [Inhabited α] {E : El α}
theorem cells_set (Y : List α) (i j : Nat) (y : α) (v : Value) (hi : i < Y.length) (hj : j < E.k) (hy : E.enc y = (E.enc (Y.getD i default)).set j v) : E.cells (Y.set i y) = (E.cells Y).set (i * E.k + j) v := by
  have hk := E.kpos
  apply List.ext_getElem?
  intro t
  by_cases ht : t < Y.length * E.k
  · have hti : t / E.k < Y.length := Nat.div_lt_of_lt_mul (by rw [Nat.mul_comm]; exact ht)
    have hm : t % E.k < E.k := Nat.mod_lt _ hk
    have h1 := E.cells_at (Y.set i y) (t / E.k) (t % E.k) (by simpa using hti) hm
    have h2 := E.cells_at Y (t / E.k) (t % E.k) hti hm
    rw [Nat.div_add_mod' t E.k] at h1 h2
    rw [h1, List.getElem?_set]
    have hl : (E.cells Y).length = Y.length * E.k := E.cells_len Y
    by_cases e : i * E.k + j = t
    · have e1 : t / E.k = i := by rw [← e, Nat.mul_comm, Nat.mul_add_div hk, Nat.div_eq_of_lt hj, Nat.add_zero]
      have e2 : t % E.k = j := by rw [← e, Nat.mul_comm, Nat.mul_add_mod, Nat.mod_eq_of_lt hj]
      rw [if_pos e, if_pos (by rw [hl, e]; exact ht), e1, e2]
      have e3 : (Y.set i y).getD i default = y := by simp [List.getD_eq_getElem?_getD, hi]
      rw [e3, hy, List.getElem?_set_self (by rw [E.len]; exact hj)]
    · rw [if_neg e, h2]
      by_cases e1 : t / E.k = i
      · rw [e1]
        have e3 : (Y.set i y).getD i default = y := by simp [List.getD_eq_getElem?_getD, hi]
        have e4 : t % E.k ≠ j := fun h => e (by rw [← e1, ← h, Nat.div_add_mod' t E.k])
        rw [e3, hy, List.getElem?_set_ne (Ne.symm e4)]
      · have e3 : (Y.set i y).getD (t / E.k) default = Y.getD (t / E.k) default := by
          rw [List.getD_eq_getElem?_getD, List.getD_eq_getElem?_getD, List.getElem?_set_ne (Ne.symm e1)]
        rw [e3]
  · rw [List.getElem?_eq_none (by rw [E.cells_len]; simp; omega), List.getElem?_eq_none (by rw [List.length_set, E.cells_len]; omega)]
theorem own_setCell {base g n c : Nat} {w : World} {Y : List α} (h : E.Own base w (.slice (some ⟨g, 0, none⟩) n c) Y) (i j : Nat) (y : α) (v : Value) (hi : i < n) (hj : j < E.k) (hy : E.enc y = (E.enc (Y.getD i default)).set j v) : E.Own base (w.setCell ⟨g, i * E.k + j, none⟩ v) (.slice (some ⟨g, 0, none⟩) n c) (Y.set i y) := by
  obtain ⟨hx, ⟨h2, -⟩ | ⟨g', cap, cur, hv, hg, hh, hle, hmx, hsz, htk⟩⟩ := id h
  · cases h2
  · obtain ⟨hn, -⟩ := h.cell
    subst hn
    injection hv with e1 e2 e3
    injection e1 with e1
    injection e1 with e1
    subst e1; subst e3
    have hlt : g < w.heap.size := (Array.getElem?_eq_some_iff.1 hh).1
    refine ⟨by rw [E.cells_len], .inr ⟨g, c, cur.setIfInBounds (i * E.k + j) v, by rw [List.length_set], hg, ?_, by rw [List.length_set]; exact hle, hmx, by simpa using hsz, ?_⟩⟩
    · rw [setCell_eq]
      simp [mapBlock, Array.getElem?_modify, hh, onCells]
    · rw [List.length_set, cells_set Y i j y v hi hj hy, ← htk, Array.toList_setIfInBounds, List.take_set]
end
end Go.Proofs.YtbedbhlebfnohaaGreat
