/- The document's turn, in plain Lean: its loop over the rows puts the row where it belongs. -/
import Derived.Test.YtbinikbgbgggaaaGreatDoorParse
namespace Go.Proofs.YtbinikbgbgggaaaGreatDoor
open Go.RowKit Go.Shelf

def leB (a b : List UInt8) : Bool := decide (cb a b ≤ 0)
def tStep (k n : List UInt8) (s : List Rw × Bool) (r : Rw) : List Rw × Bool :=
  ((s.1 ++ (if (!s.2 && leB k r.1) = true then [(k, n)] else [])) ++ (if r.1 = k then [] else [r]), s.2 || leB k r.1)
def tFin (k n : List UInt8) (s : List Rw × Bool) : List Rw := if s.2 = true then s.1 else s.1 ++ [(k, n)]

theorem bef_nil {R : List Rw} {k : List UInt8} (h : ∀ x ∈ R, cb k x.1 ≤ 0) : bef R k = [] := by
  unfold bef
  rw [List.filter_eq_nil_iff]
  intro x hx
  have := h x hx
  have := cb_anti x.1 k
  simp; omega
theorem aft_all {R : List Rw} {k : List UInt8} (h : ∀ x ∈ R, cb k x.1 ≤ 0) : aft R k = R.filter fun r => decide (r.1 ≠ k) := by
  unfold aft
  apply List.filter_congr
  intro x hx
  have h1 := h x hx
  rw [Bool.eq_iff_iff]
  simp only [decide_eq_true_eq]
  constructor
  · intro h2 e; rw [e] at h2; exact cb_lt_irrefl _ h2
  · intro h2
    rcases Int.lt_or_eq_of_le h1 with h3 | h3
    · exact h3
    · exact absurd (cb_zero h3).symm h2
theorem fold_true (k n : List UInt8) : ∀ (R : List Rw) (acc : List Rw), R.foldl (tStep k n) (acc, true) = (acc ++ R.filter (fun r => decide (r.1 ≠ k)), true)
  | [], acc => by simp
  | r :: R, acc => by
    rw [List.foldl_cons]
    have : tStep k n (acc, true) r = (acc ++ (if r.1 = k then [] else [r]), true) := by simp [tStep]
    rw [this, fold_true k n R]
    by_cases h : r.1 = k
    · simp [h]
    · simp [h]
theorem fold_false (k n : List UInt8) : ∀ (R : List Rw) (acc : List Rw), Up R → tFin k n (R.foldl (tStep k n) (acc, false)) = acc ++ (bef R k ++ [(k, n)] ++ aft R k)
  | [], acc, _ => by simp [tFin, bef, aft]
  | r :: R, acc, hup => by
    unfold Up at hup
    rw [List.pairwise_cons] at hup
    rw [List.foldl_cons]
    by_cases hle : cb k r.1 ≤ 0
    · have hb : leB k r.1 = true := by unfold leB; simpa using hle
      have hall : ∀ x ∈ r :: R, cb k x.1 ≤ 0 := by
        intro x hx
        rcases List.mem_cons.1 hx with rfl | hx
        · exact hle
        · have h1 := hup.1 x hx
          rcases Int.lt_or_eq_of_le hle with h2 | h2
          · exact Int.le_of_lt (cb_trans h2 h1)
          · rw [cb_zero h2]; omega
      have : tStep k n (acc, false) r = ((acc ++ [(k, n)]) ++ (if r.1 = k then [] else [r]), true) := by simp [tStep, hb]
      rw [this, fold_true, bef_nil hall, aft_all hall]
      unfold tFin
      by_cases h : r.1 = k
      · simp [h]
      · simp [h]
    · have hb : leB k r.1 = false := by unfold leB; simpa using hle
      have hlt : cb r.1 k < 0 := by have := cb_anti r.1 k; omega
      have hne : r.1 ≠ k := by intro e; rw [e, cb_self] at hle; omega
      have : tStep k n (acc, false) r = (acc ++ [r], false) := by simp [tStep, hb, hne]
      rw [this, fold_false k n R _ hup.2]
      have h1 : bef (r :: R) k = r :: bef R k := by unfold bef; rw [List.filter_cons]; simp [hlt]
      have h2 : aft (r :: R) k = aft R k := by unfold aft; rw [List.filter_cons]; simp; omega
      rw [h1, h2]
      simp
/-- WHAT THE DOCUMENT's LOOP COMES TO. -/
theorem turn_rows {R : List Rw} (hup : Up R) (k n : List UInt8) : tFin k n (R.foldl (tStep k n) ([], decide (n = []))) = put R k n := by
  by_cases hn : n = []
  · rw [decide_eq_true hn, fold_true]
    unfold tFin put sel
    rw [if_pos rfl, if_pos hn, List.append_nil, List.nil_append]
    dsimp only
    clear hn
    induction R with
    | nil => rfl
    | cons r R ih =>
      unfold Up at hup
      rw [List.pairwise_cons] at hup
      by_cases hle : cb k r.1 ≤ 0
      · have hall : ∀ x ∈ r :: R, cb k x.1 ≤ 0 := by
          intro x hx
          rcases List.mem_cons.1 hx with rfl | hx
          · exact hle
          · have h1 := hup.1 x hx
            rcases Int.lt_or_eq_of_le hle with h2 | h2
            · exact Int.le_of_lt (cb_trans h2 h1)
            · rw [cb_zero h2]; omega
        rw [bef_nil hall, aft_all hall, List.nil_append]
      · have hlt : cb r.1 k < 0 := by have := cb_anti r.1 k; omega
        have hne : r.1 ≠ k := by intro e; rw [e, cb_self] at hle; omega
        have h1 : bef (r :: R) k = r :: bef R k := by unfold bef; rw [List.filter_cons]; simp [hlt]
        have h2 : aft (r :: R) k = aft R k := by unfold aft; rw [List.filter_cons]; simp; omega
        rw [h1, h2, List.filter_cons, if_pos (by simpa using hne), ih hup.2, List.cons_append]
  · rw [decide_eq_false hn, fold_false k n R [] hup]
    unfold put sel
    rw [if_neg hn, List.nil_append]
theorem fold_take (k n : List UInt8) (R : List Rw) (j : Nat) (r : Rw) (b : Bool) (h : R[j]? = some r) : (R.take (j + 1)).foldl (tStep k n) ([], b) = tStep k n ((R.take j).foldl (tStep k n) ([], b)) r := by
  obtain ⟨hlt, he⟩ := List.getElem?_eq_some_iff.1 h
  rw [List.take_succ_eq_append_getElem hlt, he, List.foldl_append]
  rfl
theorem be8_at (x : Nat) : be8 x = [UInt8.ofNat (x / 72057594037927936), UInt8.ofNat (x / 281474976710656), UInt8.ofNat (x / 1099511627776), UInt8.ofNat (x / 4294967296), UInt8.ofNat (x / 16777216), UInt8.ofNat (x / 65536), UInt8.ofNat (x / 256), UInt8.ofNat (x / 1)] := by
  have hr : List.range 8 = [0, 1, 2, 3, 4, 5, 6, 7] := rfl
  unfold be8
  rw [hr]
  simp only [List.map_cons, List.map_nil, Nat.reduceMul, Nat.reduceSub, Nat.reducePow]
theorem of_mod (x : UInt8) (m : Nat) (hm : m % 256 = x.toNat) : UInt8.ofNat m = x := by
  apply UInt8.toNat_inj.1
  rw [UInt8.toNat_ofNat', hm]
/-- An lsn's bytes are those of its number. -/
theorem be8_num : ∀ (l : List UInt8), l.length = 8 → be8 (numL l) = l := by
  intro l hl
  match l, hl with
  | [a, b, c, d, e, f, g, h], _ =>
    have ha := a.toNat_lt
    have hb := b.toNat_lt
    have hc := c.toNat_lt
    have hd := d.toNat_lt
    have he := e.toNat_lt
    have hf := f.toNat_lt
    have hg := g.toNat_lt
    have hh := h.toNat_lt
    have hn : numL [a, b, c, d, e, f, g, h] = ((((((((0 * 256 + a.toNat) * 256 + b.toNat) * 256 + c.toNat) * 256 + d.toNat) * 256 + e.toNat) * 256 + f.toNat) * 256 + g.toNat) * 256 + h.toNat) := rfl
    obtain ⟨x, hx⟩ : ∃ x, x = numL [a, b, c, d, e, f, g, h] := ⟨_, rfl⟩
    rw [← hx] at hn ⊢
    clear hx
    rw [be8_at, of_mod a _ (by omega), of_mod b _ (by omega), of_mod c _ (by omega), of_mod d _ (by omega), of_mod e _ (by omega), of_mod f _ (by omega), of_mod g _ (by omega), of_mod h _ (by omega)]
theorem numL_ge (l : List UInt8) (j : Nat) (h : j < l.length) (h0 : 127 < bt l 0) : 128 * 256 ^ j ≤ numL (l.take (j + 1)) := by
  induction j with
  | zero =>
    have := bt_bd l 0
    rw [numL_take l 0 h]; simp [numL]; omega
  | succ j ih =>
    have h1 := ih (by omega)
    rw [numL_take l (j + 1) h, Nat.pow_succ, ← Nat.mul_assoc]
    exact Nat.le_trans (Nat.mul_le_mul_right 256 h1) (Nat.le_add_right _ _)
theorem numL_lt8 (l : List UInt8) : ∀ j, j ≤ l.length → numL (l.take j) < 256 ^ j := by
  intro j
  induction j with
  | zero => intro _; simp [numL]
  | succ j ih =>
    intro h
    have h1 := ih (by omega)
    have h2 := bt_bd l j
    have h4 : (bt l j).toNat < 256 := by omega
    rw [numL_take l j (by omega), Nat.pow_succ]
    have h3 := Nat.mul_le_mul_right 256 (Nat.succ_le_of_lt h1)
    rw [Nat.succ_mul] at h3
    exact Nat.lt_of_lt_of_le (Nat.add_lt_add_left h4 _) h3
end Go.Proofs.YtbinikbgbgggaaaGreatDoor
