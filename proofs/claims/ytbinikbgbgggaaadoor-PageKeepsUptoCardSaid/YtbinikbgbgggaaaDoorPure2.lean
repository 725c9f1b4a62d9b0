/- Rows put, and put again. -/
import Derived.Test.YtbinikbgbgggaaaDoorPure
namespace Go.Proofs.YtbinikbgbgggaaaDoor
open Go.RowKit Go.Shelf

theorem bef_put (R : List Rw) (k n : List UInt8) : bef (put R k n) k = bef R k := by
  unfold put
  have h1 : bef (bef R k) k = bef R k := by unfold bef; rw [List.filter_filter]; simp
  have h2 : bef (sel k n) k = [] := by unfold bef sel; split <;> simp [cb_self]
  have h3 : bef (aft R k) k = [] := by
    unfold bef
    rw [List.filter_eq_nil_iff]
    intro x hx
    have := aft_gt x hx
    have := cb_anti x.1 k
    simp; omega
  have h : ∀ A B : List Rw, bef (A ++ B) k = bef A k ++ bef B k := fun A B => by unfold bef; rw [List.filter_append]
  rw [h, h, h1, h2, h3]; simp
theorem aft_put (R : List Rw) (k n : List UInt8) : aft (put R k n) k = aft R k := by
  unfold put
  have h1 : aft (aft R k) k = aft R k := by unfold aft; rw [List.filter_filter]; simp
  have h2 : aft (sel k n) k = [] := by unfold aft sel; split <;> simp [cb_self]
  have h3 : aft (bef R k) k = [] := by
    unfold aft
    rw [List.filter_eq_nil_iff]
    intro x hx
    have := bef_lt x hx
    have := cb_anti x.1 k
    simp; omega
  have h : ∀ A B : List Rw, aft (A ++ B) k = aft A k ++ aft B k := fun A B => by unfold aft; rw [List.filter_append]
  rw [h, h, h1, h2, h3]; simp
theorem put_put (R : List Rw) (k n m : List UInt8) : put (put R k n) k m = put R k m := by
  unfold put
  have h1 := bef_put R k n
  have h2 := aft_put R k n
  unfold put at h1 h2
  rw [h1, h2]
theorem got_put (R : List Rw) (k n : List UInt8) : got (put R k n) k = if n = [] then none else some n := by
  unfold got put
  rw [List.append_assoc, List.find?_append, List.find?_append]
  have h1 : (bef R k).find? (fun r => decide (r.1 = k)) = none := by
    rw [List.find?_eq_none]; intro x hx he
    have := bef_lt x hx
    simp only [decide_eq_true_eq] at he
    rw [he, cb_self] at this; omega
  have h2 : (aft R k).find? (fun r => decide (r.1 = k)) = none := by
    rw [List.find?_eq_none]; intro x hx he
    have := aft_gt x hx
    simp only [decide_eq_true_eq] at he
    rw [he, cb_self] at this; omega
  rw [h1, h2]
  unfold sel
  split <;> simp
theorem put_none {R : List Rw} (hup : Up R) {k : List UInt8} (h : got R k = none) : put R k [] = R := by
  rcases split_at hup k with ⟨-, hR⟩ | ⟨v, hg, -⟩
  · unfold put sel; rw [if_pos rfl, List.append_nil]; exact hR.symm
  · rw [h] at hg; cases hg
theorem put_some {R : List Rw} (hup : Up R) {k v : List UInt8} (h : got R k = some v) (hv : v ≠ []) : put R k v = R := by
  rcases split_at hup k with ⟨hg, -⟩ | ⟨v', hg, hR⟩
  · rw [h] at hg; cases hg
  · rw [h] at hg; cases hg
    unfold put sel; rw [if_neg hv, List.append_assoc]; exact hR.symm
theorem enc_put_none {R : List Rw} (hup : Up R) {k n : List UInt8} (h : got R k = none) (hn : n ≠ []) : (enc (put R k n)).length = (enc R).length + (2 + k.length + n.length) := by
  have h1 : (enc (put R k [])).length = (enc R).length := by rw [put_none hup h]
  have hs := sel_enc k n
  have hs0 := sel_enc k []
  rw [if_neg hn] at hs
  rw [if_pos rfl] at hs0
  unfold put at h1 ⊢
  simp only [enc_len_append] at h1 ⊢
  omega
end Go.Proofs.YtbinikbgbgggaaaDoor
