/- Items, parts, texts as kinds of elements. slices.Clone at items, at parts, at texts: walks. (Printed by gen/clones2.py.) -/
import Derived.Test.YtbedbhlebfnohaaGreatJSame
import Derived.Test.YtbedbhlebfnohaaGreatBelowQ
import Derived.Test.YtbedbhlebfnohaaGreatKLentI
import Derived.Lib.SliceRun
import Derived.Lib.Walk
namespace Go.Proofs.YtbedbhlebfnohaaGreat
open Go.RowKit

set_option maxRecDepth 100000 in
theorem itE_under : Tryz.prog.underlying 22 = some (.slice 102) := Tryz.underlying22
def itE : El It where
  e := 102
  t := 22
  k := 4
  bytes := 72
  z := .agg #[.string ByteArray.empty, .int .i64 0, .slice none 0 0, .slice none 0 0]
  enc := encI
  ok := fun x => x.code.length ≤ 9223372036854775807 ∧ -9223372036854775808 ≤ x.life ∧ x.life ≤ 9223372036854775807
  len := fun _ => rfl
  one := fun x u hu => by
    unfold encI at hu
    simp only [List.mem_cons, List.not_mem_nil, or_false] at hu
    rcases hu with rfl | rfl | rfl | rfl <;> rfl
  kpos := by decide
  under := itE_under
  info := Tryz.infoItem
  zc := rfl
  small := by decide
set_option maxRecDepth 100000 in
theorem ptE_under : Tryz.prog.underlying 55 = some (.slice 60) := Tryz.underlying55
theorem ptE_info : (Tryz.prog.info? 60).map (fun i => (i.zero, i.size, i.bytes)) = some (some (.agg #[.string ByteArray.empty, .int .i64 0]), 2, 24) := by kernel_rfl
def ptE : El Pt where
  e := 60
  t := 55
  k := 2
  bytes := 24
  z := .agg #[.string ByteArray.empty, .int .i64 0]
  enc := encP
  ok := fun x => x.1.length ≤ 9223372036854775807 ∧ -9223372036854775808 ≤ x.2 ∧ x.2 ≤ 9223372036854775807
  len := fun _ => rfl
  one := fun x u hu => by
    unfold encP at hu
    simp only [List.mem_cons, List.not_mem_nil, or_false] at hu
    rcases hu with rfl | rfl <;> rfl
  kpos := by decide
  under := ptE_under
  info := ptE_info
  zc := rfl
  small := by decide
set_option maxRecDepth 100000 in
theorem txE_under : Tryz.prog.underlying 100 = some (.slice 9) := Tryz.underlying100
theorem txE_info : (Tryz.prog.info? 9).map (fun i => (i.zero, i.size, i.bytes)) = some (some (.string ByteArray.empty), 1, 16) := by kernel_rfl
def txE : El (List UInt8) where
  e := 9
  t := 100
  k := 1
  bytes := 16
  z := .string ByteArray.empty
  enc := fun t => [encStr t]
  ok := fun t => t.length ≤ 9223372036854775807
  len := fun _ => rfl
  one := fun x u hu => by
    simp only [List.mem_cons, List.not_mem_nil, or_false] at hu
    subst hu
    rfl
  kpos := by decide
  under := txE_under
  info := txE_info
  zc := rfl
  small := by decide
theorem RI.el {B : Nat} {w : World} {a : Option Addr} {n c : Nat} {X : List It} (h : RI B w a n c X) : itE.In B w a n c X := by
  refine ⟨h.len, h.le, h.mx, fun x hx => ⟨(h.ok x hx).code, (h.ok x hx).lo, (h.ok x hx).hi⟩, fun hc => ?_⟩
  obtain ⟨b, o, e, hB, hcell⟩ := h.at_ hc
  refine ⟨b, o, e, hB, fun i hi j hj => ?_⟩
  obtain ⟨k0, k1, k2, k3⟩ := hcell i hi
  have hj4 : j < 4 := hj
  match j, hj4 with
  | 0, _ => exact k0
  | 1, _ => exact k1
  | 2, _ => exact k2
  | 3, _ => exact k3
theorem RP.el {B : Nat} {w : World} {a : Option Addr} {n c : Nat} {P : List Pt} (h : RP B w a n c P) : ptE.In B w a n c P := by
  refine ⟨h.len, h.le, h.mx, fun x hx => h.fine x hx, fun hc => ?_⟩
  obtain ⟨b, o, e, hB, hcell⟩ := h.at_ hc
  refine ⟨b, o, e, hB, fun i hi j hj => ?_⟩
  obtain ⟨k0, k1⟩ := hcell i hi
  have hj4 : j < 2 := hj
  match j, hj4 with
  | 0, _ => exact k0
  | 1, _ => exact k1
theorem RT.el {B : Nat} {w : World} {a : Option Addr} {n c : Nat} {T : List (List UInt8)} (h : RT B w a n c T) : txE.In B w a n c T := by
  refine ⟨h.len, h.le, h.mx, fun x hx => h.fine x hx, fun hc => ?_⟩
  obtain ⟨b, o, e, hB, hcell⟩ := h.at_ hc
  refine ⟨b, o, e, hB, fun i hi j hj => ?_⟩
  have hj4 : j < 1 := hj
  match j, hj4 with
  | 0, _ =>
    show w.cell? ⟨b, o + i * 1 + 0, none⟩ = _
    rw [Nat.mul_one]
    exact hcell i hi
/-- Parts that are read as a kind's. -/
theorem ptE_rp {B : Nat} {w : World} {a : Option Addr} {n c : Nat} {P : List Pt} (h : ptE.In B w a n c P) : RP B w a n c P := by
  refine ⟨h.len, h.le, h.mx, fun x hx => h.fine x hx, fun hc => ?_⟩
  obtain ⟨b, o, e, hB, hcell⟩ := h.at_ hc
  exact ⟨b, o, e, hB, fun i hi => ⟨hcell i hi 0 (by decide), hcell i hi 1 (by decide)⟩⟩
theorem txE_rt {B : Nat} {w : World} {a : Option Addr} {n c : Nat} {T : List (List UInt8)} (h : txE.In B w a n c T) : RT B w a n c T := by
  refine ⟨h.len, h.le, h.mx, fun x hx => h.fine x hx, fun hc => ?_⟩
  obtain ⟨b, o, e, hB, hcell⟩ := h.at_ hc
  refine ⟨b, o, e, hB, fun i hi => ?_⟩
  have := hcell i hi 0 (by decide)
  rw [show txE.k = 1 from rfl, Nat.mul_one] at this
  exact this
end Go.Proofs.YtbedbhlebfnohaaGreat
namespace Go.Proofs.YtbedbhlebfnohaaGreat
open Go.RowKit

namespace El
/-- append of as many elements as a machine holds. -/
theorem run_appendB {α : Type} {E : El α} (hbp : 1 ≤ E.bytes) {w : World} {base : Nat} {v : Value} {X Y : List α} (h : E.Own base w v X) (ty : TypeId) (sa : Option Addr) (c : Nat) (hsrc : ∃ ad, sa = some ad ∧ ∀ j u, (E.cells Y)[j]? = some u → w.cell? (ad.add j) = some u) (hY : 0 < Y.length)
    (hbase : base ≤ w.heap.size) (hl : (X.length + Y.length) * E.bytes ≤ 140737488355328) :
    ∃ g cap w', (Builtin.append_ #[E.t, E.t] ty #[v, .slice sa Y.length c]).run Tryz.prog w = .ok (.slice (some ⟨g, 0, none⟩) (X.length + Y.length) cap) w' ∧ E.Own base w' (.slice (some ⟨g, 0, none⟩) (X.length + Y.length) cap) (X ++ Y) ∧ E.Own base w' v X ∧ w.grownBy w' v.ownBlock ∧ (v.ownBlock = some g ∨ g = w.heap.size) := by
  obtain ⟨i0, hi, hz0, hz1, hz2⟩ := E.info'
  have hcnt : X.length + Y.length ≤ 140737488355328 := Nat.le_trans (Nat.le_mul_of_pos_right _ hbp) hl
  obtain ⟨g, cap, w', hr, h1, h2, h3, h4⟩ := Tx.append_keepC (P := Tryz.prog) (m := Y.length) (cs := E.k) (Q := E.cells Y) E.t ty E.e i0 E.z E.under hi hz0 hz1 E.zc h sa c hsrc E.cells_one (E.cells_len Y) hY hbase (by rw [hz2]; exact hl) hcnt
  refine ⟨g, cap, w', hr, ?_, h2, h3, h4⟩
  unfold Own
  rw [List.length_append, E.cells_append]
  exact h1
theorem wpList_append2B {α : Type} [Inhabited α] {w : World} {ops : Array Oper} {rest : List Oper} {o : Oper} {a : Act} {K : Exit → Act → World → Prop} (E : El α) (hbp : 1 ≤ E.bytes) (hgd : o.guard = none) (s x : Operand)
    (ho : o.op = .call { callee := .builtin .append, args := #[s, x], argTypes := #[E.t, E.t] }) (base g0 n0 c0 : Nat) (X Y : List α) (hs : a.eval s = .slice (some ⟨g0, 0, none⟩) n0 c0) (h : E.Own base w (.slice (some ⟨g0, 0, none⟩) n0 c0) X) (sa : Option Addr) (m c : Nat)
    (hx : a.eval x = .slice sa m c) (hm : m = Y.length) (hsrc : 0 < Y.length → ∃ ad, sa = some ad ∧ ∀ j u, (E.cells Y)[j]? = some u → w.cell? (ad.add j) = some u) (hbase : base ≤ w.heap.size) (hl : (X.length + Y.length) * E.bytes ≤ 140737488355328)
    (hK : ∀ g' c' w', (n0 + m ≤ c' ∧ c' ≤ 9223372036854775807) → E.Own base w' (.slice (some ⟨g', 0, none⟩) (n0 + m) c') (X ++ Y) → w.grownBy w' (some g0) → wpList Tryz.prog ops K rest (a.put o.dst (.slice (some ⟨g', 0, none⟩) (n0 + m) c')) w') : wpList Tryz.prog ops K (o :: rest) a w := by
  subst hm
  obtain ⟨hn0, hle, hmx, -⟩ := h.cell
  subst hn0
  by_cases h0 : Y.length = 0
  · obtain rfl : Y = [] := List.eq_nil_of_length_eq_zero h0
    obtain ⟨i0, hi, -⟩ := E.info'
    have hr := run_append_nothing (P := Tryz.prog) w E.t o.type E.e i0 E.under hi (some ⟨g0, 0, none⟩) sa X.length c0 c hle
    refine wpList_plain hgd fun K' hK' => ?_
    unfold Oper.wp execOp
    simp only [List.length_nil] at hx
    simp only [ho, resolve, invoke, builtin, Sem.run_bind, Sem.run_pure, Result.andThen_ok, List.map_toArray, List.map_cons, List.map_nil, hs, hx, hr]
    exact hK' _ _ (hK g0 c0 w (by simpa using ⟨hle, hmx⟩) (by simpa using h) ⟨rfl, rfl, rfl, Nat.le_refl _, fun _ _ _ => rfl⟩)
  · obtain ⟨g, cap, w', hr, h1, h2, h3, h4⟩ := run_appendB hbp h o.type sa c (hsrc (by omega)) (by omega) hbase hl
    refine wpList_plain hgd fun K' hK' => ?_
    unfold Oper.wp execOp
    simp only [ho, resolve, invoke, builtin, Sem.run_bind, Sem.run_pure, Result.andThen_ok, List.map_toArray, List.map_cons, List.map_nil, hs, hx, hr]
    have hc := h1.cell
    exact hK' _ _ (hK g cap w' ⟨hc.2.1, hc.2.2.1⟩ h1 h3)
end El
set_option maxHeartbeats 1000000 in
set_option maxRecDepth 100000 in
theorem cloneItem_any (B : Nat) (a : Option Addr) (n c : Nat) (X : List It) (w : World) (h : itE.In B w a n c X) (hB : B ≤ w.heap.size) (hn : n ≤ 100000000) :
    Calls Tryz.prog 164 #[.slice a n c] w fun e w' => (∃ a' c', e = .returned (.slice a' n c') ∧ (a'.isNone = a.isNone) ∧ itE.Own w.heap.size w' (.slice a' n c') X) ∧ Below w.heap.size w w' := by
  have hln := h.len
  have Hln := Lib.hid hln
  have H := Lib.hid h
  have hq := fun (w : World) (a : Option Addr) (n c n' c' : Nat) => Lib.run_eql_slice_nil (P := Tryz.prog) w 22 102 a n c n' c' Tryz.underlying22
  cases a with
  | none =>
    have hc0 : c = 0 := by
      rcases Nat.eq_zero_or_pos c with h0 | h0
      · exact h0
      · obtain ⟨b, o, e, -⟩ := h.at_ h0; cases e
    have hn0 : n = 0 := by have := h.le; omega
    have hX : X = [] := List.eq_nil_of_length_eq_zero (by omega)
    subst hc0
    subst hn0
    have HX := Lib.hid hX
    clear h hln hX
    go_enter Tryz.func164, Tryz.ntmps164
    go_wp2
    go_ret
    refine ⟨⟨none, 0, rfl, rfl, ?_⟩, Below.refl _ _⟩
    rw [HX.out]
    exact El.Own.nil _ _ _
  | some ad =>
    clear h hln
    have hb0 := Lib.hid ((Below.refl w.heap.size w).alloc (Nat.le_refl _) (.cells #[] 102))
    have ho0 : Hid (itE.Own w.heap.size (w.alloc (.cells #[] 102)) (.slice (some ⟨w.heap.size, 0, none⟩) 0 0) []) := Lib.hid (World.ownsRow_lit (e := 102) (size := itE.k) w #[] 0 (Nat.le_refl _) (Nat.zero_le _) (by simp))
    go_enter Tryz.func164, Tryz.ntmps164
    go_wp2_with (at_builtin; refine El.wpList_append2 itE rfl _ _ rfl w.heap.size w.heap.size 0 0 [] X rfl ho0.out _ n _ rfl Hln.out (H.out.below (hb0.out.mono hB)).src hb0.out.size (by have := Hln.out; simp; omega) ?_; intro g2 c2 w2 hc2 hown2 hg2)
    rw [List.nil_append, Nat.zero_add] at hown2
    have B2 : Hid (Below w.heap.size w w2) := Lib.hid (hb0.out.grown hg2 hb0.out.size (fun r e => by cases e; exact Nat.le_refl _))
    have O2 := Lib.hid hown2
    clear hown2 hg2
    go_wp2
    go_ret
    exact ⟨⟨some ⟨g2, 0, none⟩, c2, by first | rfl | simp, rfl, O2.out⟩, B2.out⟩
set_option maxHeartbeats 1000000 in
set_option maxRecDepth 100000 in
theorem clonePart_any (B : Nat) (a : Option Addr) (n c : Nat) (X : List Pt) (w : World) (h : ptE.In B w a n c X) (hB : B ≤ w.heap.size) (hn : n * 24 ≤ 140737488355328) :
    Calls Tryz.prog 165 #[.slice a n c] w fun e w' => (∃ a' c', e = .returned (.slice a' n c') ∧ (a'.isNone = a.isNone) ∧ ptE.Own w.heap.size w' (.slice a' n c') X) ∧ Below w.heap.size w w' := by
  have hln := h.len
  have Hln := Lib.hid hln
  have H := Lib.hid h
  have hq := fun (w : World) (a : Option Addr) (n c n' c' : Nat) => Lib.run_eql_slice_nil (P := Tryz.prog) w 55 60 a n c n' c' Tryz.underlying55
  cases a with
  | none =>
    have hc0 : c = 0 := by
      rcases Nat.eq_zero_or_pos c with h0 | h0
      · exact h0
      · obtain ⟨b, o, e, -⟩ := h.at_ h0; cases e
    have hn0 : n = 0 := by have := h.le; omega
    have hX : X = [] := List.eq_nil_of_length_eq_zero (by omega)
    subst hc0
    subst hn0
    have HX := Lib.hid hX
    clear h hln hX
    go_enter Tryz.func165, Tryz.ntmps165
    go_wp2
    go_ret
    refine ⟨⟨none, 0, rfl, rfl, ?_⟩, Below.refl _ _⟩
    rw [HX.out]
    exact El.Own.nil _ _ _
  | some ad =>
    clear h hln
    have hb0 := Lib.hid ((Below.refl w.heap.size w).alloc (Nat.le_refl _) (.cells #[] 60))
    have ho0 : Hid (ptE.Own w.heap.size (w.alloc (.cells #[] 60)) (.slice (some ⟨w.heap.size, 0, none⟩) 0 0) []) := Lib.hid (World.ownsRow_lit (e := 60) (size := ptE.k) w #[] 0 (Nat.le_refl _) (Nat.zero_le _) (by simp))
    go_enter Tryz.func165, Tryz.ntmps165
    go_wp2_with (at_builtin; refine El.wpList_append2B ptE (by decide) rfl _ _ rfl w.heap.size w.heap.size 0 0 [] X rfl ho0.out _ n _ rfl Hln.out (H.out.below (hb0.out.mono hB)).src hb0.out.size (by have := Hln.out; show (0 + X.length) * 24 ≤ 140737488355328; omega) ?_; intro g2 c2 w2 hc2 hown2 hg2)
    rw [List.nil_append, Nat.zero_add] at hown2
    have B2 : Hid (Below w.heap.size w w2) := Lib.hid (hb0.out.grown hg2 hb0.out.size (fun r e => by cases e; exact Nat.le_refl _))
    have O2 := Lib.hid hown2
    clear hown2 hg2
    go_wp2
    go_ret
    exact ⟨⟨some ⟨g2, 0, none⟩, c2, by first | rfl | simp, rfl, O2.out⟩, B2.out⟩
set_option maxHeartbeats 1000000 in
set_option maxRecDepth 100000 in
theorem cloneText_any (B : Nat) (a : Option Addr) (n c : Nat) (X : List (List UInt8)) (w : World) (h : txE.In B w a n c X) (hB : B ≤ w.heap.size) (hn : n * 16 ≤ 140737488355328) :
    Calls Tryz.prog 166 #[.slice a n c] w fun e w' => (∃ a' c', e = .returned (.slice a' n c') ∧ (a'.isNone = a.isNone) ∧ txE.Own w.heap.size w' (.slice a' n c') X) ∧ Below w.heap.size w w' := by
  have hln := h.len
  have Hln := Lib.hid hln
  have H := Lib.hid h
  have hq := fun (w : World) (a : Option Addr) (n c n' c' : Nat) => Lib.run_eql_slice_nil (P := Tryz.prog) w 100 9 a n c n' c' Tryz.underlying100
  cases a with
  | none =>
    have hc0 : c = 0 := by
      rcases Nat.eq_zero_or_pos c with h0 | h0
      · exact h0
      · obtain ⟨b, o, e, -⟩ := h.at_ h0; cases e
    have hn0 : n = 0 := by have := h.le; omega
    have hX : X = [] := List.eq_nil_of_length_eq_zero (by omega)
    subst hc0
    subst hn0
    have HX := Lib.hid hX
    clear h hln hX
    go_enter Tryz.func166, Tryz.ntmps166
    go_wp2
    go_ret
    refine ⟨⟨none, 0, rfl, rfl, ?_⟩, Below.refl _ _⟩
    rw [HX.out]
    exact El.Own.nil _ _ _
  | some ad =>
    clear h hln
    have hb0 := Lib.hid ((Below.refl w.heap.size w).alloc (Nat.le_refl _) (.cells #[] 9))
    have ho0 : Hid (txE.Own w.heap.size (w.alloc (.cells #[] 9)) (.slice (some ⟨w.heap.size, 0, none⟩) 0 0) []) := Lib.hid (World.ownsRow_lit (e := 9) (size := txE.k) w #[] 0 (Nat.le_refl _) (Nat.zero_le _) (by simp))
    go_enter Tryz.func166, Tryz.ntmps166
    go_wp2_with (at_builtin; refine El.wpList_append2B txE (by decide) rfl _ _ rfl w.heap.size w.heap.size 0 0 [] X rfl ho0.out _ n _ rfl Hln.out (H.out.below (hb0.out.mono hB)).src hb0.out.size (by have := Hln.out; show (0 + X.length) * 16 ≤ 140737488355328; omega) ?_; intro g2 c2 w2 hc2 hown2 hg2)
    rw [List.nil_append, Nat.zero_add] at hown2
    have B2 : Hid (Below w.heap.size w w2) := Lib.hid (hb0.out.grown hg2 hb0.out.size (fun r e => by cases e; exact Nat.le_refl _))
    have O2 := Lib.hid hown2
    clear hown2 hg2
    go_wp2
    go_ret
    exact ⟨⟨some ⟨g2, 0, none⟩, c2, by first | rfl | simp, rfl, O2.out⟩, B2.out⟩
end Go.Proofs.YtbedbhlebfnohaaGreat
