/- pick.Pick$2: what is left of the lots: its walk. A cell of one's own row is stored. twin.Items: its walk. pick.Pick$3: the line is shipped: its walk. Laws on slices of bytes: converted to a string, compared by bytealg.Compare. Steps of a region that draws its order, each by one law: a call of a function, an operation that runs to a value. -/
import Derived.Test.YtbedbhlebfnohaaGreatQDel
import Derived.Test.YtbedbhlebfnohaaGreatQItC
import Derived.Test.YtbedbhlebfnohaaGreatJBase
import Derived.Lib.Bytealg
import Derived.Lib.Bytes
import Derived.Shelf.Abstract
import Derived.Deep.RegionHeld3
import Derived.Deep.AppendLies
namespace Go.Proofs.YtbedbhlebfnohaaGreat
open Go.RowKit Go.Sort Go.Lib Go.Shelf

def lessL (tk : Int → Int) (x : LotV) : LotV := if x.arr then ⟨x.id, x.item, x.fr, x.un, x.qty - tk x.id, x.arr⟩ else x
def leftL (tk : Int → Int) (X : List LotV) : List LotV := (X.map (lessL tk)).filter fun x => decide (0 < x.qty) || !x.arr
theorem leftL_succ (tk : Int → Int) {X : List LotV} {j : Nat} (h : j < X.length) : leftL tk (X.take (j + 1)) = leftL tk (X.take j) ++ if decide (0 < (lessL tk (X.getD j default)).qty) || !(lessL tk (X.getD j default)).arr then [lessL tk (X.getD j default)] else [] := by
  have e : X.getD j default = X[j] := by rw [List.getD_eq_getElem?_getD, List.getElem?_eq_getElem h]; rfl
  unfold leftL
  rw [List.take_succ_eq_append_getElem h, List.map_append, List.filter_append, e, List.map_cons, List.map_nil, List.filter_cons, List.filter_nil]
theorem leftL_len (tk : Int → Int) (X : List LotV) : (leftL tk X).length ≤ X.length := by
  unfold leftL
  exact Nat.le_trans (List.length_filter_le _ _) (by rw [List.length_map]; exact Nat.le_refl _)
theorem st_frozen {w : World} {p : Nat} {now nl nx : Int} {v1 v2 v3 : Value} (h : w.heap[p]? = some (stObj now nl nx v1 v2 v3)) (k : Nat) : w.frozen? ⟨p, k, none⟩ = false := by
  unfold stObj at h
  unfold World.frozen?
  rw [h]
  simp
theorem lot_frozen {w : World} {p : Nat} {id : Int} {item : List UInt8} {fr un qty : Int} {arr : Bool} (h : w.heap[p]? = some (lotObj id item fr un qty arr)) (k : Nat) : w.frozen? ⟨p, k, none⟩ = false := by
  unfold lotObj at h
  unfold World.frozen?
  rw [h]
  simp
theorem setCell_block (w : World) (p k : Nat) (v : Value) {b : Nat} (hb : b ≠ p) : (w.setCell ⟨p, k, none⟩ v).heap[b]? = w.heap[b]? := by
  rw [setCell_eq]
  simp [mapBlock, Array.getElem?_modify, Ne.symm hb]
theorem below_set {B : Nat} {w w1 : World} (h : Below B w w1) (p k : Nat) (v : Value) (hp : B ≤ p) : Below B w (w1.setCell ⟨p, k, none⟩ v) :=
  ⟨h.os, h.tape, h.output, by rw [setCell_eq]; simpa [mapBlock] using h.size, fun b hb => by rw [setCell_block _ _ _ _ (by omega)]; exact h.block b hb⟩
theorem lot_set {w : World} {p : Nat} {id : Int} {item : List UInt8} {fr un qty : Int} {arr : Bool} (h : w.heap[p]? = some (lotObj id item fr un qty arr)) (q' : Int) : (w.setCell ⟨p, 4, none⟩ (.int .i64 q')).heap[p]? = some (lotObj id item fr un q' arr) := by
  rw [setCell_eq]
  unfold lotObj at *
  simp [mapBlock, Array.getElem?_modify, h, onCells]
def LeftR (w : World) (tk : Int → Int) (X : List LotV) (j : Nat) (v : Value) (wr : World) : Prop := lotE.Own w.heap.size wr v (leftL tk (X.take j)) ∧ Below w.heap.size w wr
set_option maxHeartbeats 4000000 in
set_option maxRecDepth 100000 in
theorem left_any (B p q mb cnt : Nat) (now nl nx : Int) (v1 v3 : Value) (a : Option Addr) (n c : Nat) (X : List LotV) (tk : Int → Int) (w : World)
    (hp : w.heap[p]? = some (stObj now nl nx v1 (.slice a n c) v3)) (hq : w.cell? ⟨q, 0, none⟩ = some (.map (some mb))) (hql : q < w.heap.size) (hm : MI w mb cnt (.int .i64 0) (leftV tk)) (hX : lotE.In B w a n c X) (hB : B ≤ w.heap.size) (hn : n ≤ 100000000)
    (hov : ∀ x ∈ X, x.arr = true → -9223372036854775808 ≤ x.qty - tk x.id ∧ x.qty - tk x.id ≤ 9223372036854775807) :
    Calls Tryz.prog 26 #[.pointer (some ⟨p, 0, none⟩), .pointer (some ⟨q, 0, none⟩)] w fun e w' => e = .returned (.tuple #[]) ∧ ∃ v w2, lotE.Own w.heap.size w2 v (leftL tk X) ∧ Below w.heap.size w w2 ∧ w' = w2.setCell ⟨p, 4, none⟩ v := by
  have hpl : p < w.heap.size := (Array.getElem?_eq_some_iff.1 hp).1
  obtain ⟨-, -, -, -, s4, -⟩ := stObj_cells hp
  have hle := hX.le; have hmx := hX.mx
  have Hln := Lib.hid hX.len
  have HX := Lib.hid hX
  have HM := Lib.hid hm
  have HP := Lib.hid hp
  have HQ := Lib.hid hq
  have HOV := Lib.hid hov
  clear hp hq hm hX hov
  go_enter Tryz.func26, Tryz.ntmps26
  go_wp2_with (fail)
  go_loopw [3, 11] (fun s3 s11 wr => ∃ (j : Nat) (sa : Option Addr) (nn sc : Nat), s3 = .slice sa nn sc ∧ s11 = .int .i64 j ∧ j ≤ n ∧ Hid (LeftR w tk X j (.slice sa nn sc) wr)) (fun _ s11 _ => n - (intOf s11).toNat)
  case atStart => exact ⟨0, none, 0, 0, rfl, rfl, Nat.zero_le _, Lib.hid ⟨El.Own.nil _ _ _, Below.refl _ _⟩⟩
  case round =>
    obtain ⟨j, sa, nn, sc, rfl, rfl, hj, HR⟩ := hrel
    by_cases hlt : j < n
    · obtain ⟨b, o, rfl, hbB, hc⟩ := lotE_at (HX.out.below (HR.out.2.mono hB)) (by omega)
      obtain ⟨g0, g1, g2, g3, g4, g5⟩ := hc j hlt
      have hok := Lib.hid (HX.out.ok_at hlt)
      have Hov := Lib.hid (HOV.out (X.getD j default) (by rw [List.getD_eq_getElem?_getD, List.getElem?_eq_getElem (by rw [← Hln.out]; exact hlt)]; exact List.getElem_mem _))
      have Hsucc := Lib.hid (leftL_succ tk (X := X) (j := j) (by rw [← Hln.out]; exact hlt))
      clear hc
      generalize X.getD j default = x at g0 g1 g2 g3 g4 g5 hok Hov Hsucc
      obtain ⟨id, item, fr, un, qty, arr⟩ := x
      simp only at g0 g1 g2 g3 g4 g5
      unfold encStr at g1
      have HID := Lib.hid (show -9223372036854775808 ≤ id ∧ id ≤ 9223372036854775807 from hok.out.1)
      have hNN := Lib.hid (show nn = (leftL tk (X.take j)).length ∧ nn ≤ 100000000 from by
        have h1 : nn = (leftL tk (X.take j)).length := by obtain ⟨a9, c9, e9, -⟩ := HR.out.1.form; injection e9
        have h2 := leftL_len tk (X.take j)
        rw [List.length_take] at h2
        exact ⟨h1, by omega⟩)
      obtain ⟨W1, hW1⟩ : ∃ V, V = wr.alloc (.cells #[.int .i64 id, .string ⟨item.toArray⟩, .int .i64 fr, .int .i64 un, .int .i64 qty, .bool arr] 46) := ⟨_, rfl⟩
      obtain ⟨p1, hp1⟩ : ∃ p1, p1 = wr.heap.size := ⟨_, rfl⟩
      have hh1 : W1.heap[p1]? = some (lotObj id item fr un qty arr) := by rw [hW1, hp1]; exact heap_alloc_new _ _
      obtain ⟨y0, y1, y2, y3, y4, y5⟩ := lotObj_cells hh1
      have f4 := lot_frozen hh1 4
      have HH1 := Lib.hid hh1
      have bW1 : Hid (Below wr.heap.size wr W1) := Lib.hid (by rw [hW1]; exact below_alloc _ _)
      have HW1 := Lib.hid hW1
      have hs1 : p1 < W1.heap.size := (Array.getElem?_eq_some_iff.1 hh1).1
      have hps : Hid (p1 = wr.heap.size) := Lib.hid hp1
      have hwr := HR.out.2.size
      have hwp : w.heap.size ≤ p1 := by omega
      have c1 : W1.cell? ⟨q, 0, none⟩ = some (.map (some mb)) := (bW1.out.cell (p := ⟨q, 0, none⟩) (by show q < _; omega)).trans ((HR.out.2.cell (p := ⟨q, 0, none⟩) hql).trans HQ.out)
      have lk := (((HM.out.below HR.out.2 HM.out.lt).below bW1.out (by have := HM.out.lt; omega)) : MI W1 mb cnt (.int .i64 0) (leftV tk)).look Tryz.underlying67 (zeroI64 _) id HID.out.1 HID.out.2
      have ek : leftV tk id = .int .i64 (tk id) := rfl
      rw [ek] at lk
      clear hW1 hh1
      have hO1 := Lib.hid (HR.out.1.below bW1.out)
      have hB1 := Lib.hid (HR.out.2.trans (bW1.out.mono hwr))
      cases arr with
      | false =>
        have HS : Hid (leftL tk (X.take (j + 1)) = leftL tk (X.take j) ++ [⟨id, item, fr, un, qty, false⟩]) := Lib.hid (by rw [Hsucc.out]; simp [lessL])
        clear lk ek
        have hOA : Hid (lotE.Own w.heap.size (W1.alloc (.cells #[.int .i64 id, .string ⟨item.toArray⟩, .int .i64 fr, .int .i64 un, .int .i64 qty, .bool false] 46)) (.slice sa nn sc) (leftL tk (X.take j))) := Lib.hid (hO1.out.below (below_alloc _ _))
        have hBA : Hid (Below w.heap.size w (W1.alloc (.cells #[.int .i64 id, .string ⟨item.toArray⟩, .int .i64 fr, .int .i64 un, .int .i64 qty, .bool false] 46))) := Lib.hid (hB1.out.trans ((below_alloc _ _).mono (by have := hB1.out.size; omega)))
        by_cases hq0 : 0 < qty
        · go_upto_region 4 with (fail)
          rw [← HW1.out, ← hp1]
          clear hp1
          go_wp2_with (at_builtin; refine El.wpList_append1 lotE rfl _ _ rfl w.heap.size (.slice sa nn sc) (leftL tk (X.take j)) ⟨id, item, fr, un, qty, false⟩ (nn + 1) (by rw [hNN.out.1]) rfl hOA.out _ 1 rfl (lotE_lit _ ⟨id, item, fr, un, qty, false⟩ _) hBA.out.size (by have := hNN.out; omega) ?_; intro g9 c9 w9 hown9 hg9 hgg9; have R9 : Hid (LeftR w tk X (j + 1) (.slice (some ⟨g9, 0, none⟩) (nn + 1) c9) w9) := Lib.hid ⟨by rw [HS.out]; exact hown9, hBA.out.grown hg9 hBA.out.size (fun k e => (hOA.out.ge k e).1)⟩; clear hown9 hg9 hgg9)
          go_roundw
          case rel => exact ⟨j + 1, some ⟨g9, 0, none⟩, nn + 1, c9, rfl, by go_num, by omega, R9⟩
          case measure => simp [intOf]; omega
        · go_upto_region 4 with (fail)
          rw [← HW1.out, ← hp1]
          clear hp1
          go_wp2_with (at_builtin; refine El.wpList_append1 lotE rfl _ _ rfl w.heap.size (.slice sa nn sc) (leftL tk (X.take j)) ⟨id, item, fr, un, qty, false⟩ (nn + 1) (by rw [hNN.out.1]) rfl hOA.out _ 1 rfl (lotE_lit _ ⟨id, item, fr, un, qty, false⟩ _) hBA.out.size (by have := hNN.out; omega) ?_; intro g9 c9 w9 hown9 hg9 hgg9; have R9 : Hid (LeftR w tk X (j + 1) (.slice (some ⟨g9, 0, none⟩) (nn + 1) c9) w9) := Lib.hid ⟨by rw [HS.out]; exact hown9, hBA.out.grown hg9 hBA.out.size (fun k e => (hOA.out.ge k e).1)⟩; clear hown9 hg9 hgg9)
          go_roundw
          case rel => exact ⟨j + 1, some ⟨g9, 0, none⟩, nn + 1, c9, rfl, by go_num, by omega, R9⟩
          case measure => simp [intOf]; omega
      | true =>
        have hrg := Hov.out rfl
        simp only at hrg
        generalize htk : tk id = tq at hrg lk
        have HTK := Lib.hid htk
        clear ek htk
        have hO2 : Hid (lotE.Own w.heap.size (W1.setCell ⟨p1, 4, none⟩ (.int .i64 (qty - tq))) (.slice sa nn sc) (leftL tk (X.take j))) := Lib.hid (hO1.out.keep fun b e => setCell_block _ _ _ _ (by have := (HR.out.1.ge b e).2; have := hps.out; omega))
        have hB2 := Lib.hid (below_set hB1.out p1 4 (.int .i64 (qty - tq)) hwp)
        have hh2 : Hid ((W1.setCell ⟨p1, 4, none⟩ (.int .i64 (qty - tq))).heap[p1]? = some (lotObj id item fr un (qty - tq) true)) := Lib.hid (lot_set HH1.out _)
        obtain ⟨W2, hW2⟩ : ∃ V, V = W1.setCell ⟨p1, 4, none⟩ (.int .i64 (qty - tq)) := ⟨_, rfl⟩
        rw [← hW2] at hO2 hB2 hh2
        have HW2 := Lib.hid hW2
        clear hW2
        by_cases hq0 : 0 < qty - tq
        · have HS : Hid (leftL tk (X.take (j + 1)) = leftL tk (X.take j) ++ [⟨id, item, fr, un, qty - tq, true⟩]) := Lib.hid (by
            have e : lessL tk ⟨id, item, fr, un, qty, true⟩ = ⟨id, item, fr, un, qty - tq, true⟩ := by unfold lessL; rw [if_pos rfl, HTK.out]
            rw [Hsucc.out, e, if_pos (by simp only [decide_eq_true hq0, Bool.true_or])])
          have hOA : Hid (lotE.Own w.heap.size (W2.alloc (.cells #[.int .i64 id, .string ⟨item.toArray⟩, .int .i64 fr, .int .i64 un, .int .i64 (qty - tq), .bool true] 46)) (.slice sa nn sc) (leftL tk (X.take j))) := Lib.hid (hO2.out.below (below_alloc _ _))
          have hBA : Hid (Below w.heap.size w (W2.alloc (.cells #[.int .i64 id, .string ⟨item.toArray⟩, .int .i64 fr, .int .i64 un, .int .i64 (qty - tq), .bool true] 46))) := Lib.hid (hB2.out.trans ((below_alloc _ _).mono hB2.out.size))
          go_upto_region 4 with (fail)
          rw [← HW1.out, ← hp1]
          clear hp1
          go_upto_region 6 with (fail)
          rw [← HW2.out]
          clear y0 y1 y2 y3 y4 y5 f4 c1 lk
          obtain ⟨y0, y1, y2, y3, y4, y5⟩ := lotObj_cells hh2.out
          go_wp2_with (at_builtin; refine El.wpList_append1 lotE rfl _ _ rfl w.heap.size (.slice sa nn sc) (leftL tk (X.take j)) ⟨id, item, fr, un, (qty - tq), true⟩ (nn + 1) (by rw [hNN.out.1]) rfl hOA.out _ 1 rfl (lotE_lit _ ⟨id, item, fr, un, (qty - tq), true⟩ _) hBA.out.size (by have := hNN.out; omega) ?_; intro g9 c9 w9 hown9 hg9 hgg9; have R9 : Hid (LeftR w tk X (j + 1) (.slice (some ⟨g9, 0, none⟩) (nn + 1) c9) w9) := Lib.hid ⟨by rw [HS.out]; exact hown9, hBA.out.grown hg9 hBA.out.size (fun k e => (hOA.out.ge k e).1)⟩; clear hown9 hg9 hgg9)
          go_roundw
          case rel => exact ⟨j + 1, some ⟨g9, 0, none⟩, nn + 1, c9, rfl, by go_num, by omega, R9⟩
          case measure => simp [intOf]; omega
        · have HS : Hid (leftL tk (X.take (j + 1)) = leftL tk (X.take j)) := Lib.hid (by
            have e : lessL tk ⟨id, item, fr, un, qty, true⟩ = ⟨id, item, fr, un, qty - tq, true⟩ := by unfold lessL; rw [if_pos rfl, HTK.out]
            rw [Hsucc.out, e, if_neg (by simp only [decide_eq_false hq0]; decide), List.append_nil])
          go_upto_region 4 with (fail)
          rw [← HW1.out, ← hp1]
          clear hp1
          go_upto_region 6 with (fail)
          rw [← HW2.out]
          clear y0 y1 y2 y3 y4 y5 f4 c1 lk
          obtain ⟨y0, y1, y2, y3, y4, y5⟩ := lotObj_cells hh2.out
          go_wp2_with (fail)
          go_roundw
          case rel => exact ⟨j + 1, sa, nn, sc, rfl, by go_num, by omega, Lib.hid ⟨by rw [HS.out]; exact hO2.out, hB2.out⟩⟩
          case measure => simp [intOf]; omega
    · obtain rfl : j = n := by omega
      have hR := Lib.hid (show LeftR w tk X X.length (.slice sa nn sc) wr by rw [← Hln.out]; exact HR.out)
      have hpw : wr.heap[p]? = some (stObj now nl nx v1 (.slice a j c) v3) := (HR.out.2.block p hpl).trans HP.out
      obtain ⟨-, -, -, -, t4, -⟩ := stObj_cells hpw
      have f4 := st_frozen hpw 4
      have hO := Lib.hid (show lotE.Own w.heap.size wr (.slice sa nn sc) (leftL tk X) by have := hR.out.1; rwa [List.take_length] at this)
      go_wp2_with (fail)
      first | go_end0 | ((try simp only [Exit.inBlock, Exit.then]); refine bodyPost_ret (results_none rfl _ _ _) rfl ?_)
      exact ⟨rfl, _, wr, hO.out, HR.out.2, rfl⟩
end Go.Proofs.YtbedbhlebfnohaaGreat
namespace Go.Proofs.YtbedbhlebfnohaaGreat
open Go.RowKit Go.Sort Go.Lib Tx
section
variable {α : Type} [Inhabited α] {E : El α}
theorem cells_set (Y : List α) (i j : Nat) (y : α) (v : Value) (hi : i < Y.length) (hj : j < E.k) (hy : E.enc y = (E.enc (Y.getD i default)).set j v) : E.cells (Y.set i y) = (E.cells Y).set (i * E.k + j) v := by
  have hk := E.kpos
  apply List.ext_getElem?
  intro t
  by_cases ht : t < Y.length * E.k
  · have hti : t / E.k < Y.length := Nat.div_lt_of_lt_mul (by rw [Nat.mul_comm]; exact ht)
    have hm : t % E.k < E.k := Nat.mod_lt _ hk
    have h1 := E.cells_at (Y.set i y) (t / E.k) (t % E.k) (by simpa using hti) hm
    have h2 := E.cells_at Y (t / E.k) (t % E.k) hti hm
    rw [Nat.div_add_mod' t E.k] at h1 h2
    rw [h1, List.getElem?_set]
    have hl : (E.cells Y).length = Y.length * E.k := E.cells_len Y
    by_cases e : i * E.k + j = t
    · have e1 : t / E.k = i := by rw [← e, Nat.mul_comm, Nat.mul_add_div hk, Nat.div_eq_of_lt hj, Nat.add_zero]
      have e2 : t % E.k = j := by rw [← e, Nat.mul_comm, Nat.mul_add_mod, Nat.mod_eq_of_lt hj]
      rw [if_pos e, if_pos (by rw [hl, e]; exact ht), e1, e2]
      have e3 : (Y.set i y).getD i default = y := by simp [List.getD_eq_getElem?_getD, hi]
      rw [e3, hy, List.getElem?_set_self (by rw [E.len]; exact hj)]
    · rw [if_neg e, h2]
      by_cases e1 : t / E.k = i
      · rw [e1]
        have e3 : (Y.set i y).getD i default = y := by simp [List.getD_eq_getElem?_getD, hi]
        have e4 : t % E.k ≠ j := fun h => e (by rw [← e1, ← h, Nat.div_add_mod' t E.k])
        rw [e3, hy, List.getElem?_set_ne (Ne.symm e4)]
      · have e3 : (Y.set i y).getD (t / E.k) default = Y.getD (t / E.k) default := by
          rw [List.getD_eq_getElem?_getD, List.getD_eq_getElem?_getD, List.getElem?_set_ne (Ne.symm e1)]
        rw [e3]
  · rw [List.getElem?_eq_none (by rw [E.cells_len]; simp; omega), List.getElem?_eq_none (by rw [List.length_set, E.cells_len]; omega)]
theorem own_setCell {base g n c : Nat} {w : World} {Y : List α} (h : E.Own base w (.slice (some ⟨g, 0, none⟩) n c) Y) (i j : Nat) (y : α) (v : Value) (hi : i < n) (hj : j < E.k) (hy : E.enc y = (E.enc (Y.getD i default)).set j v) : E.Own base (w.setCell ⟨g, i * E.k + j, none⟩ v) (.slice (some ⟨g, 0, none⟩) n c) (Y.set i y) := by
  obtain ⟨hx, ⟨h2, -⟩ | ⟨g', cap, cur, hv, hg, hh, hle, hmx, hsz, htk⟩⟩ := id h
  · cases h2
  · obtain ⟨hn, -⟩ := h.cell
    subst hn
    injection hv with e1 e2 e3
    injection e1 with e1
    injection e1 with e1
    subst e1; subst e3
    have hlt : g < w.heap.size := (Array.getElem?_eq_some_iff.1 hh).1
    refine ⟨by rw [E.cells_len], .inr ⟨g, c, cur.setIfInBounds (i * E.k + j) v, by rw [List.length_set], hg, ?_, by rw [List.length_set]; exact hle, hmx, by simpa using hsz, ?_⟩⟩
    · rw [setCell_eq]
      simp [mapBlock, Array.getElem?_modify, hh, onCells]
    · rw [List.length_set, cells_set Y i j y v hi hj hy, ← htk, Array.toList_setIfInBounds, List.take_set]
end
end Go.Proofs.YtbedbhlebfnohaaGreat
namespace Go.Proofs.YtbedbhlebfnohaaGreat
open Go.RowKit Go.Sort Go.Lib Go.Shelf

structure TI (base : Nat) (w : World) (x y : It) : Prop where
  code : y.code = x.code
  life : y.life = x.life
  ps : y.ps = x.ps
  os : y.os = x.os
  op : ptE.Own base w y.pv y.ps
  oo : txE.Own base w y.ov y.os
theorem TI.keep {base : Nat} {w w' : World} {x y : It} (h : TI base w x y) (hk : ∀ b, base ≤ b → b < w.heap.size → w'.heap[b]? = w.heap[b]?) : TI base w' x y :=
  ⟨h.code, h.life, h.ps, h.os, h.op.keep fun b e => hk b (h.op.ge b e).1 (h.op.ge b e).2, h.oo.keep fun b e => hk b (h.oo.ge b e).1 (h.oo.ge b e).2⟩
theorem TI.mono {base base' : Nat} {w : World} {x y : It} (h : TI base w x y) (hb : base' ≤ base) : TI base' w x y := ⟨h.code, h.life, h.ps, h.os, h.op.mono hb, h.oo.mono hb⟩
structure TR (w : World) (g n c : Nat) (X Y : List It) (j : Nat) (wr : World) : Prop where
  own : itE.Own w.heap.size wr (.slice (some ⟨g, 0, none⟩) n c) Y
  done : ∀ i, i < j → TI (g + 1) wr (X.getD i default) (Y.getD i default)
  left : ∀ i, j ≤ i → Y.getD i default = X.getD i default
  below : Below w.heap.size w wr
  ap : ∀ i k, i < k → k < j → (∀ b b', (Y.getD i default).pv.ownBlock = some b → (Y.getD k default).pv.ownBlock = some b' → b < b') ∧ (∀ b b', (Y.getD i default).ov.ownBlock = some b → (Y.getD k default).ov.ownBlock = some b' → b < b')
theorem own_frozen {α : Type} [Inhabited α] {E : El α} {base g n c : Nat} {w : World} {Y : List α} (h : E.Own base w (.slice (some ⟨g, 0, none⟩) n c) Y) (t : Nat) : w.frozen? ⟨g, t, none⟩ = false := by
  obtain ⟨hx, -⟩ := h.cell
  subst hx
  exact World.ownsRow.frozenAt h t
theorem getD_set_ne {α : Type} [Inhabited α] (Y : List α) {i j : Nat} (y : α) (h : i ≠ j) : (Y.set j y).getD i default = Y.getD i default := by
  rw [List.getD_eq_getElem?_getD, List.getD_eq_getElem?_getD, List.getElem?_set_ne (Ne.symm h)]
theorem getD_set_eq {α : Type} [Inhabited α] (Y : List α) {j : Nat} (y : α) (h : j < Y.length) : (Y.set j y).getD j default = y := by
  simp [List.getD_eq_getElem?_getD, h]
theorem size_setCell (w : World) (p k : Nat) (v : Value) : (w.setCell ⟨p, k, none⟩ v).heap.size = w.heap.size := by
  rw [setCell_eq]; simp [mapBlock]
theorem TR.half {w wr w2 : World} {g n c j : Nat} {X Y : List It} {x : It} {pa2 : Option Addr} {pc2 : Nat} (T : TR w g n c X Y j wr) (hj : j < n) (hx : Y.getD j default = x) (hb2 : Below wr.heap.size wr w2) :
    itE.Own w.heap.size (w2.setCell ⟨g, j * 4 + 2, none⟩ (.slice pa2 x.ps.length pc2)) (.slice (some ⟨g, 0, none⟩) n c) (Y.set j { x with pa := pa2, pc := pc2 }) ∧ Below w.heap.size w (w2.setCell ⟨g, j * 4 + 2, none⟩ (.slice pa2 x.ps.length pc2)) := by
  obtain ⟨-, -, -, k4, k5, -⟩ := T.own.cell
  have O2 := T.own.keep (W' := w2) (fun b e => hb2.block b (T.own.ge b e).2)
  refine ⟨own_setCell O2 j 2 _ _ hj (by decide) (by rw [hx]; rfl), below_set (T.below.trans (hb2.mono T.below.size)) _ _ _ k4⟩
theorem TR.step {w wr w2 V w4 : World} {g n c j : Nat} {X Y : List It} {x : It} {pa2 oa2 : Option Addr} {pc2 oc2 : Nat} (T : TR w g n c X Y j wr) (hj : j < n) (hx : Y.getD j default = x) (hX : X.getD j default = x) (hb2 : Below wr.heap.size wr w2)
    (hop : ptE.Own wr.heap.size w2 (.slice pa2 x.ps.length pc2) x.ps) (hV : V = w2.setCell ⟨g, j * 4 + 2, none⟩ (.slice pa2 x.ps.length pc2)) (hb4 : Below V.heap.size V w4) (hoo : txE.Own V.heap.size w4 (.slice oa2 x.os.length oc2) x.os) :
    TR w g n c X ((Y.set j { x with pa := pa2, pc := pc2 }).set j { x with pa := pa2, pc := pc2, oa := oa2, oc := oc2 }) (j + 1) (w4.setCell ⟨g, j * 4 + 3, none⟩ (.slice oa2 x.os.length oc2)) := by
  obtain ⟨kn, -, -, k4, k5, -⟩ := T.own.cell
  obtain ⟨O3, B3⟩ := T.half (pa2 := pa2) (pc2 := pc2) hj hx hb2
  rw [← hV] at O3 B3
  have hVs : V.heap.size = w2.heap.size := by rw [hV, size_setCell]
  have h2s := hb2.size
  have h4s := hb4.size
  have hjY : j < Y.length := by omega
  have O4 := O3.keep (W' := w4) (fun b e => hb4.block b (O3.ge b e).2)
  have hk : ∀ b, g + 1 ≤ b → b < w2.heap.size → (w4.setCell ⟨g, j * 4 + 3, none⟩ (.slice oa2 x.os.length oc2)).heap[b]? = w2.heap[b]? := fun b hb hl => by
    rw [setCell_block _ _ _ _ (by omega), hb4.block b (by omega), hV, setCell_block _ _ _ _ (by omega)]
  refine ⟨own_setCell O4 j 3 _ _ hj (by decide) (by rw [getD_set_eq _ _ hjY]; rfl), fun i hi => ?_, fun i hi => ?_, below_set (B3.trans (hb4.mono B3.size)) _ _ _ k4, fun i k hik hk2 => ?_⟩
  · by_cases e : i = j
    · subst e
      rw [getD_set_eq _ _ (by rw [List.length_set]; exact hjY), hX]
      refine ⟨rfl, rfl, rfl, rfl, (hop.mono k5).keep fun b e => hk b ?_ (hop.ge b e).2, (hoo.mono (by omega)).keep fun b e => ?_⟩
      · have := (hop.ge b e).1; omega
      · have := (hoo.ge b e).1
        exact setCell_block _ _ _ _ (by omega)
    · rw [getD_set_ne _ _ e, getD_set_ne _ _ e]
      exact (T.done i (by omega)).keep fun b hb hl => (hk b hb (by omega)).trans (hb2.block b hl)
  · rw [getD_set_ne _ _ (by omega), getD_set_ne _ _ (by omega)]
    exact T.left i (by omega)
  · by_cases e : k = j
    · subst e
      rw [getD_set_eq _ _ (by rw [List.length_set]; exact hjY), getD_set_ne _ _ (by omega), getD_set_ne _ _ (by omega)]
      have TT := T.done i hik
      refine ⟨fun b b' h1 h2 => ?_, fun b b' h1 h2 => ?_⟩
      · have := (TT.op.ge b h1).2
        have := (hop.ge b' h2).1
        omega
      · have := (TT.oo.ge b h1).2
        have := (hoo.ge b' h2).1
        omega
    · rw [getD_set_ne _ _ e, getD_set_ne _ _ e, getD_set_ne _ _ (by omega), getD_set_ne _ _ (by omega)]
      exact T.ap i k hik (by omega)
set_option maxHeartbeats 4000000 in
set_option maxRecDepth 100000 in
theorem twinItems_some (B : Nat) (a : Option Addr) (n c : Nat) (X : List It) (w : World) (h : RI B w a n c X) (hB : B ≤ w.heap.size) (hn : n ≤ 100000000) (hs : ∀ x ∈ X, x.ps.length * 24 ≤ 140737488355328 ∧ x.os.length * 16 ≤ 140737488355328) (h0 : 0 < n) :
    Calls Tryz.prog 107 #[.slice a n c] w fun e w' => ∃ g c' Y, e = .returned (.slice (some ⟨g, 0, none⟩) n c') ∧ TR w g n c' X Y n w' := by
  have HC := Lib.hid (cloneItem_any B a n c X w h.el hB hn)
  have HX := Lib.hid h
  have hle := h.le; have hmx := h.mx
  have Hln := Lib.hid h.len
  have HS := Lib.hid hs
  clear h hs
  go_enter Tryz.func107, Tryz.ntmps107
  go_wp2_with (go_at_call 164; refine HC.out.mono ?_; rintro e w8 ⟨⟨a', c', rfl, -, hown⟩, hb⟩; obtain ⟨g, rfl⟩ : ∃ g, a' = some ⟨g, 0, none⟩ := (by obtain ⟨a2, c2, e2, -, -, hg⟩ := hown.form; obtain ⟨g, hg⟩ := hg (by have := Hln.out; omega); injection e2 with e3; exact ⟨g, e3.trans hg⟩); have T8 : Hid (TR w g n c' X X 0 w8) := Lib.hid ⟨hown, fun i hi => absurd hi (Nat.not_lt_zero _), fun i _ => rfl, hb, fun i k _ hk => absurd hk (Nat.not_lt_zero _)⟩; have hcc : n ≤ c' := hown.cell.2.1; clear hown hb)
  go_loopw [4, 9] (fun _ s9 wr => ∃ (j : Nat) (Y : List It), s9 = .int .i64 j ∧ j ≤ n ∧ Hid (TR w g n c' X Y j wr)) (fun _ s9 _ => n - (intOf s9).toNat)
  case atStart => exact ⟨0, X, rfl, Nat.zero_le _, T8⟩
  case round =>
    clear T8
    obtain ⟨j, Y, rfl, hj, T⟩ := hrel
    by_cases hlt : j < n
    · obtain ⟨-, -, -, k4, k5, hcell⟩ := T.out.own.cell
      have hcj := hcell j hlt
      have g2 : wr.cell? ⟨g, j * 4 + 2, none⟩ = some (.slice (Y.getD j default).pa (Y.getD j default).ps.length (Y.getD j default).pc) := hcj 2 (by decide)
      have g3 : wr.cell? ⟨g, j * 4 + 3, none⟩ = some (.slice (Y.getD j default).oa (Y.getD j default).os.length (Y.getD j default).oc) := hcj 3 (by decide)
      have hYj := T.out.left j (Nat.le_refl _)
      rw [hYj] at g2 g3
      have hmem : X.getD j default ∈ X := by rw [List.getD_eq_getElem?_getD, List.getElem?_eq_getElem (by rw [← Hln.out]; exact hlt)]; exact List.getElem_mem _
      have hok := HX.out.ok _ hmem
      have hsz := HS.out _ hmem
      have hBr : B ≤ wr.heap.size := Nat.le_trans hB T.out.below.size
      have CP := Lib.hid (clonePart_any B _ _ _ _ wr (hok.rp.below (T.out.below.mono hB)).el hBr hsz.1)
      have CT := Lib.hid (fun (V : World) (hb : Below B w V) (hv : B ≤ V.heap.size) => cloneText_any B _ _ _ _ V (hok.rt.below hb).el hv hsz.2)
      have HY := Lib.hid hYj
      clear hcell hcj hYj hok hsz hmem
      generalize hxj : X.getD j default = x at g2 g3 CP CT HY
      have HXJ := Lib.hid hxj
      clear hxj
      obtain ⟨code, life, pa, pc, ps, oa, oc, os⟩ := x
      simp only at g2 g3 CP CT
      have hgw : w.heap.size ≤ g := k4
      have hgr : g < wr.heap.size := k5
      go_upto_region 6 with (go_at_call 165; refine CP.out.mono ?_; rintro e w2 ⟨⟨pa2, pc2, rfl, -, hop⟩, hb2⟩; have OP2 := Lib.hid hop; have HB2 := Lib.hid hb2; have c2 := (hb2.cell (p := ⟨g, j * 4 + 2, none⟩) hgr).trans g2; have O2 := Lib.hid (T.out.own.keep (W' := w2) (fun b e => hb2.block b (T.out.own.ge b e).2)); have f2 := own_frozen O2.out (j * 4 + 2); clear hop hb2)
      have hH := Lib.hid (T.out.half (pa2 := pa2) (pc2 := pc2) hlt HY.out HB2.out)
      have HST := Lib.hid (fun (V w4 : World) (oa2 : Option Addr) (oc2 : Nat) (hV : V = _) (hb4 : Below V.heap.size V w4) (hoo : txE.Own V.heap.size w4 (.slice oa2 os.length oc2) os) => T.out.step (oa2 := oa2) (oc2 := oc2) hlt HY.out HXJ.out HB2.out OP2.out hV hb4 hoo)
      simp only at hH
      obtain ⟨V, hV⟩ : ∃ V, V = w2.setCell ⟨g, j * 4 + 2, none⟩ (.slice pa2 ps.length pc2) := ⟨_, rfl⟩
      rw [← hV] at hH
      rw [← hV]
      have HV := Lib.hid hV
      have hVs : V.heap.size = w2.heap.size := by rw [hV, size_setCell]
      have hgV : g < V.heap.size := by have := HB2.out.size; omega
      have g3' : V.cell? ⟨g, j * 4 + 3, none⟩ = some (.slice oa os.length oc) := by
        obtain ⟨-, -, -, -, -, hc⟩ := hH.out.1.cell
        have := hc j hlt 3 (by decide)
        have hjY : j < Y.length := by have := T.out.own.cell.1; omega
        rw [getD_set_eq _ _ hjY] at this
        exact this
      have f3' : V.frozen? ⟨g, j * 4 + 3, none⟩ = false := own_frozen hH.out.1 _
      have CT3 := Lib.hid (CT.out V (hH.out.2.mono hB) (Nat.le_trans hB hH.out.2.size))
      clear hV c2 f2 g2 g3 CP CT
      go_wp2_with (go_at_call 166; refine CT3.out.mono ?_; rintro e w4 ⟨⟨oa2, oc2, rfl, -, hoo⟩, hb4⟩; have R5 := Lib.hid (HST.out V w4 oa2 oc2 HV.out hb4 hoo); have c4 := (hb4.cell (p := ⟨g, j * 4 + 3, none⟩) hgV).trans g3'; have f4 := own_frozen (hH.out.1.keep (W' := w4) (fun b e => hb4.block b (hH.out.1.ge b e).2)) (j * 4 + 3); clear hoo hb4)
      go_roundw
      case rel => first | exact ⟨j + 1, _, by go_num, by omega, R5⟩ | (refine ⟨_, _, _, _, _, _, _, _, _, _, _, _, _, _, _, _, _, _, _, _, _, _, _, _, _, ?_, rfl⟩; exact ⟨j + 1, _, by go_num, by omega, R5⟩)
      case measure => simp [intOf]; omega
    · obtain rfl : j = n := by omega
      go_wp2_with (fail)
      go_ret
      exact ⟨g, c', Y, rfl, T.out⟩
structure TwP (w : World) (X : List It) (v : Value) (Y : List It) (w' : World) : Prop where
  own : itE.Own w.heap.size w' v Y
  len : Y.length = X.length
  each : ∀ i, i < X.length → TI w.heap.size w' (X.getD i default) (Y.getD i default)
  below : Below w.heap.size w w'
  ap : ∀ i k, i < k → k < X.length → (∀ b b', (Y.getD i default).pv.ownBlock = some b → (Y.getD k default).pv.ownBlock = some b' → b < b') ∧ (∀ b b', (Y.getD i default).ov.ownBlock = some b → (Y.getD k default).ov.ownBlock = some b' → b < b')
set_option maxHeartbeats 1000000 in
set_option maxRecDepth 100000 in
theorem twinItems_none (B : Nat) (a : Option Addr) (c : Nat) (w : World) (h : RI B w a 0 c []) (hB : B ≤ w.heap.size) :
    Calls Tryz.prog 107 #[.slice a 0 c] w fun e w' => ∃ v, e = .returned v ∧ TwP w [] v [] w' := by
  have HC := Lib.hid (cloneItem_any B a 0 c [] w h.el hB (Nat.zero_le _))
  have hle := h.le; have hmx := h.mx
  clear h
  go_enter Tryz.func107, Tryz.ntmps107
  go_wp2_with (go_at_call 164; refine HC.out.mono ?_; rintro e w8 ⟨⟨a', c', rfl, -, hown⟩, hb⟩; have T8 : Hid (TwP w [] (.slice a' 0 c') [] w8) := Lib.hid ⟨hown, rfl, fun i hi => absurd hi (Nat.not_lt_zero _), hb, fun i k _ hk => absurd hk (Nat.not_lt_zero _)⟩; clear hown hb)
  go_loopw [4, 9] (fun _ s9 wr => s9 = .int .i64 0 ∧ w8 = wr) (fun _ _ _ => 0)
  case atStart => exact ⟨rfl, rfl⟩
  case round =>
    obtain ⟨rfl, rfl⟩ := hrel
    go_wp2_with (fail)
    go_ret
    exact ⟨_, rfl, T8.out⟩
theorem twinItems_any (B : Nat) (a : Option Addr) (n c : Nat) (X : List It) (w : World) (h : RI B w a n c X) (hB : B ≤ w.heap.size) (hn : n ≤ 100000000) (hs : ∀ x ∈ X, x.ps.length * 24 ≤ 140737488355328 ∧ x.os.length * 16 ≤ 140737488355328) :
    Calls Tryz.prog 107 #[.slice a n c] w fun e w' => ∃ a' c' Y, e = .returned (.slice a' n c') ∧ TwP w X (.slice a' n c') Y w' := by
  by_cases h0 : 0 < n
  · refine (twinItems_some B a n c X w h hB hn hs h0).mono ?_
    rintro e w' ⟨g, c', Y, rfl, T⟩
    have hl := T.own.cell.1
    have hg := T.own.cell.2.2.2.1
    exact ⟨_, c', Y, rfl, ⟨T.own, by rw [← hl, h.len], fun i hi => (T.done i (by rw [h.len]; exact hi)).mono (by omega), T.below, fun i k hik hk => T.ap i k hik (by rw [h.len]; exact hk)⟩⟩
  · obtain rfl : n = 0 := by omega
    have hX : X = [] := List.eq_nil_of_length_eq_zero h.len.symm
    subst hX
    refine (twinItems_none B a c w h hB).mono ?_
    rintro e w' ⟨v, rfl, T⟩
    obtain ⟨a', c', e', -⟩ := T.own.form
    subst e'
    exact ⟨a', c', [], rfl, T⟩
end Go.Proofs.YtbedbhlebfnohaaGreat
namespace Go.Proofs.YtbedbhlebfnohaaGreat
open Go.RowKit Go.Sort Go.Lib Go.Shelf

set_option maxHeartbeats 4000000 in
set_option maxRecDepth 100000 in
theorem ship_any (p q g i n c : Nat) (now nl nx : Int) (v1 v2 v : Value) (w : World)
    (hp : w.heap[p]? = some (stObj now nl nx v1 v2 (.slice (some ⟨g, 0, none⟩) n c))) (hq : w.cell? ⟨q, 0, none⟩ = some (.int .i64 i)) (hi : i < n) (_hn : n ≤ 100000000) (hc : w.cell? ⟨g, i * 8 + 5, none⟩ = some v) (hf : w.frozen? ⟨g, i * 8 + 5, none⟩ = false) :
    Calls Tryz.prog 27 #[.pointer (some ⟨p, 0, none⟩), .pointer (some ⟨q, 0, none⟩)] w fun e w' => e = .returned (.tuple #[]) ∧ w' = (w.setCell ⟨g, i * 8 + 5, none⟩ (.int .u8 2)).drew := by
  obtain ⟨-, -, -, -, -, s5⟩ := stObj_cells hp
  clear hp
  have s5' : w.drew.cell? ⟨p, 5, none⟩ = some (.slice (some ⟨g, 0, none⟩) n c) := s5
  have hq' : w.drew.cell? ⟨q, 0, none⟩ = some (.int .i64 i) := hq
  have hc' : w.drew.cell? ⟨g, i * 8 + 5, none⟩ = some v := hc
  have hf' : w.drew.frozen? ⟨g, i * 8 + 5, none⟩ = false := hf
  have mixed : Tryz.prog.follows Departure.mixedOrders = true := by kernel_rfl
  have late : Tryz.prog.follows Departure.lateStores = true := by kernel_rfl
  have unsure : Tryz.prog.follows Departure.lateStoresUnsure = true := by kernel_rfl
  go_enter Tryz.func27, Tryz.ntmps27
  go_big_region_o
  first | go_end0 | ((try simp only [Exit.inBlock, Exit.then]); refine bodyPost_ret (results_none rfl _ _ _) rfl ?_)
  exact ⟨rfl, rfl⟩
end Go.Proofs.YtbedbhlebfnohaaGreat
namespace Go.Proofs.YtbedbhlebfnohaaGreat
open Go.RowKit

def bv (x : UInt8) : Value := .int .u8 (x.toNat : Int)
end Go.Proofs.YtbedbhlebfnohaaGreat
namespace Go.Proofs.YtbedbhlebfnohaaGreat
open Go.RowKit Go.Shelf

section
variable {P : Program} {ops : Array Oper} {Q : Exit → Act → World → Prop} {md : Region.Mode} {S : World → Prop} {fuel : Nat} {listed : Array Bool} {a : Act} {w : World} {i : Nat} {o : Oper} {rs : List Nat}

theorem run_fn {ev : Operand → Value} {f : FuncId} {x : Operand} {args : Array Operand} {T : Array TypeId} (ho : o.op = .call { callee := .value x, args := args, argTypes := T }) (hx : ev x = .func (.func f) #[] #[]) (he : Enters P f) (w : World) {vs : Array Value} (hv : args.map ev = vs) :
    (execOp ev o).run P w = .ok (.enter f vs) w := by
  subst hv
  simp [execOp, ho, resolve, Deferred.ofValue, hx, invoke, he _ w]
theorem run_fn1 {ev : Operand → Value} {f : FuncId} {x x0 : Operand} {T : Array TypeId} {v0 : Value} (ho : o.op = .call { callee := .value x, args := #[x0], argTypes := T }) (hx : ev x = .func (.func f) #[] #[]) (he : Enters P f) (w : World) (h0 : ev x0 = v0) :
    (execOp ev o).run P w = .ok (.enter f #[v0]) w := run_fn ho hx he w (by simp [h0])
end
end Go.Proofs.YtbedbhlebfnohaaGreat
