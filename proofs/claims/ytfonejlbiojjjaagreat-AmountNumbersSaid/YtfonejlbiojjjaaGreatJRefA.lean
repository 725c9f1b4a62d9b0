/- Plain Lean: where the document's Join lays a part. -/
import Derived.Test.YtfonejlbiojjjaaGreatJBase
namespace Go.Proofs.YtfonejlbiojjjaaGreat

theorem setAt_found : ∀ {S : List Pt} {x : List UInt8} {at_ : Nat} (n : Int), at_ < S.length → (∀ j, j < at_ → (S.getD j default).1 < x) → (S.getD at_ default).1 = x → setAt S x n = S.set at_ (x, n) ∧ sumAt S x = (S.getD at_ default).2
  | [], x, at_, n, h, _, _ => by simp at h
  | p :: S, x, 0, n, _, _, he => by
    have he' : p.1 = x := he
    have hlt : ¬ p.1 < x := fun h => by rw [he'] at h; exact List.lt_irrefl _ h
    unfold setAt sumAt
    rw [if_neg hlt, if_pos he', if_pos he']
    exact ⟨rfl, rfl⟩
  | p :: S, x, at_ + 1, n, h, hl, he => by
    have h0 : p.1 < x := hl 0 (by omega)
    have ih := setAt_found (S := S) (x := x) (at_ := at_) n (by simpa using h) (fun j hj => hl (j + 1) (by omega)) he
    have hne : ¬ p.1 = x := fun e => by rw [e] at h0; exact List.lt_irrefl _ h0
    unfold setAt sumAt
    rw [if_pos h0, if_neg hne, ih.1, ih.2]
    exact ⟨rfl, rfl⟩
theorem setAt_ins : ∀ {S : List Pt} {x : List UInt8} {at_ : Nat} (n : Int), Up S → at_ ≤ S.length → (∀ j, j < at_ → (S.getD j default).1 < x) → (at_ < S.length → x < (S.getD at_ default).1) → setAt S x n = S.take at_ ++ (x, n) :: S.drop at_ ∧ sumAt S x = 0
  | [], x, at_, n, _, h, _, _ => by
    obtain rfl : at_ = 0 := by simpa using h
    exact ⟨rfl, rfl⟩
  | p :: S, x, 0, n, hu, _, _, hg => by
    have h0 : x < p.1 := hg (by simp)
    have hlt : ¬ p.1 < x := fun h => lt_asymm' h h0
    have hne : ¬ p.1 = x := fun e => by rw [e] at h0; exact List.lt_irrefl _ h0
    have hno : x ∉ S.map (·.1) := fun hk => by
      obtain ⟨q, hq, e⟩ := List.mem_map.1 hk
      have h1 := (List.pairwise_cons.1 hu.1).1 q hq
      have e' : q.1 = x := e
      rw [e'] at h1
      exact lt_asymm' h1 h0
    unfold setAt sumAt
    rw [if_neg hlt, if_neg hne, if_neg hne, sumAt_none hno]
    exact ⟨rfl, rfl⟩
  | p :: S, x, at_ + 1, n, hu, h, hl, hg => by
    have h0 : p.1 < x := hl 0 (by omega)
    have ih := setAt_ins (S := S) (x := x) (at_ := at_) n hu.tail (by simpa using h) (fun j hj => hl (j + 1) (by omega)) (fun hh => hg (by simpa using hh))
    have hne : ¬ p.1 = x := fun e => by rw [e] at h0; exact List.lt_irrefl _ h0
    unfold setAt sumAt
    rw [if_pos h0, if_neg hne, ih.1, ih.2]
    exact ⟨rfl, rfl⟩
theorem ins_at (S : List Pt) (x : List UInt8) (at_ : Nat) (h : at_ ≤ S.length) : (S.take at_ ++ [(x, 0)] ++ S.drop at_).length = S.length + 1 ∧ (S.take at_ ++ [(x, 0)] ++ S.drop at_).getD at_ default = (x, 0) ∧ ∀ n : Int, (S.take at_ ++ [(x, 0)] ++ S.drop at_).set at_ (x, n) = S.take at_ ++ (x, n) :: S.drop at_ := by
  have hl : (S.take at_).length = at_ := by rw [List.length_take]; omega
  refine ⟨by simp; omega, ?_, fun n => ?_⟩
  · rw [List.append_assoc, List.getD_eq_getElem?_getD, List.getElem?_append_right (by omega), hl, Nat.sub_self]
    simp
  · rw [List.append_assoc, List.set_append_right _ _ (by omega), hl, Nat.sub_self]
    simp
end Go.Proofs.YtfonejlbiojjjaaGreat
