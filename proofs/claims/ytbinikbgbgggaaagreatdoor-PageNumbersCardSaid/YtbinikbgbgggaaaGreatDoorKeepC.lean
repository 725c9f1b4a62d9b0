/- CopyRow. The walk of the law's holds. -/
import Derived.Test.YtbinikbgbgggaaaGreatDoorKeepA
import Derived.Test.YtbinikbgbgggaaaGreatDoorLawC
import Derived.Test.YtbinikbgbgggaaaGreatDoorBelowQ
namespace Go.Proofs.YtbinikbgbgggaaaGreatDoor
open Go.RowKit Go.Shelf

theorem T2.frozen {W : World} {z : Nat} {v0 v1 : Value} (h : T2 W z v0 v1) : W.frozen? ⟨z, 0, none⟩ = false ∧ W.frozen? ⟨z, 1, none⟩ = false := by
  unfold T2 at h; simp [World.frozen?, h]
theorem T2.lt {W : World} {z : Nat} {v0 v1 : Value} (h : T2 W z v0 v1) : z < W.heap.size := (Array.getElem?_eq_some_iff.1 h).1
theorem T2.new (W : World) (v0 v1 : Value) : T2 (W.alloc (.cells #[v0, v1] 60)) W.heap.size v0 v1 := heap_alloc_new W _
theorem T2.alloc {W : World} {z : Nat} {v0 v1 : Value} (h : T2 W z v0 v1) (o : Obj) : T2 (W.alloc o) z v0 v1 := (Below.heap_alloc W o z h.lt).trans h
theorem T2.set0 {W : World} {z : Nat} {v0 v1 : Value} (h : T2 W z v0 v1) (u : Value) : T2 (W.setCell ⟨z, 0, none⟩ u) z u v1 := by
  unfold T2 at h ⊢
  simp [World.setCell, Array.getElem?_modify, h]
theorem T2.set1 {W : World} {z : Nat} {v0 v1 : Value} (h : T2 W z v0 v1) (u : Value) : T2 (W.setCell ⟨z, 1, none⟩ u) z v0 u := by
  unfold T2 at h ⊢
  simp [World.setCell, Array.getElem?_modify, h]
theorem T2.other {W : World} {z : Nat} {v0 v1 : Value} (h : T2 W z v0 v1) {j o : Nat} (hj : j ≠ z) (u : Value) : T2 (W.setCell ⟨j, o, none⟩ u) z v0 v1 := by
  unfold T2 at h ⊢
  rw [← h]; exact Below.heap_setCell W ⟨j, o, none⟩ u z (fun e => hj e.symm)
theorem OB.set {base : Nat} {W : World} {v : Value} {l : List UInt8} (h : OB base W v l) {y j : Nat} (hy : y < base) (u : Value) : OB base (W.setCell ⟨y, j, none⟩ u) v l := by
  obtain ⟨e, h3 | ⟨g, cap, cur, hv, hg, hh, r⟩⟩ := h
  · exact ⟨e, .inl h3⟩
  · exact ⟨e, .inr ⟨g, cap, cur, hv, hg, (Below.heap_setCell W ⟨y, j, none⟩ u g (fun e => by have e' : g = y := e; omega)).trans hh, r⟩⟩
theorem OB.below {base : Nat} {W W' : World} {v : Value} {l : List UInt8} (h : OB base W v l) (hb : Below W.heap.size W W') : OB base W' v l := by
  obtain ⟨e, h3 | ⟨g, cap, cur, hv, hg, hh, r⟩⟩ := h
  · exact ⟨e, .inl h3⟩
  · exact ⟨e, .inr ⟨g, cap, cur, hv, hg, (hb.block g (Array.getElem?_eq_some_iff.1 hh).1).trans hh, r⟩⟩

end Go.Proofs.YtbinikbgbgggaaaGreatDoor
namespace Go.Proofs.YtbinikbgbgggaaaGreatDoor
open Go.RowKit Go.Shelf

theorem rows_mk {h : List UInt8} {R : List Rw} (H : PageOf h R) : rowsL (mkP h R) = R := by
  have hb := behind_mk H
  obtain ⟨a, ha, -, hs⟩ := mkP_split H
  have := scan_rows R (mkP h R) a _ hs H.ok
  unfold rowsL
  rw [if_neg (by omega), mkP_cnt H]
  rw [ha] at this
  exact this
theorem less_cb : ∀ {a b : List UInt8}, cb a b < 0 → Op.bytesLess a b = true
  | [], [], h => by simp [cb, Lib.compareBytes] at h
  | [], _ :: _, _ => rfl
  | _ :: _, [], h => by simp [cb, Lib.compareBytes] at h
  | x :: a, y :: b, h => by
    unfold cb Lib.compareBytes at h
    unfold Op.bytesLess
    by_cases h1 : x < y
    · simp [h1]
    · rw [if_neg h1] at h
      by_cases h2 : y < x
      · rw [if_pos h2] at h; omega
      · rw [if_neg h2] at h
        have e : x = y := by
          have h1' := UInt8.not_lt.1 h1
          have h2' := UInt8.not_lt.1 h2
          exact UInt8.le_antisymm h2' h1'
        simp [e, less_cb h]

end Go.Proofs.YtbinikbgbgggaaaGreatDoor
