/- Acts that are alike but for some slots: a region that draws its order, node by node, whatever order has led there. -/
import Derived.Test.YtbinikbgbgggaaaDoorErase
namespace Go.Proofs.YtbinikbgbgggaaaDoor
open Go.RowKit Go.Shelf

/-- A is as a, but for the slots of l. -/
structure SameBut (a A : Act) (l : List Nat) : Prop where
  df : A.defers = a.defers
  sz : A.tmps.size = a.tmps.size
  at_ : ∀ t, t ∉ l → A.tmps[t]? = a.tmps[t]?
theorem SameBut.refl (a : Act) (l : List Nat) : SameBut a a l := ⟨rfl, rfl, fun _ _ => rfl⟩
theorem SameBut.put {a A : Act} {l : List Nat} (h : SameBut a A l) {t : Nat} (ht : t ∈ l) (v : Value) : SameBut a (A.put (some t) v) l :=
  ⟨h.df, by rw [size_put]; exact h.sz, fun u hu => by
    have : t ≠ u := fun e => hu (e ▸ ht)
    simp only [Act.put, Array.getElem?_setIfInBounds_ne this]
    exact h.at_ u hu⟩
theorem SameBut.eval {a A : Act} {l : List Nat} (h : SameBut a A l) {t : Nat} (ht : t ∉ l) : A.eval (.tmp t) = a.eval (.tmp t) := by
  simp only [Act.eval, Array.getD_eq_getD_getElem?, h.at_ t ht]
theorem fold_put (f : Nat → Value) : ∀ (l : List Nat) (a : Act), (l.foldl (fun x t => x.put (some t) (f t)) a).defers = a.defers ∧ (l.foldl (fun x t => x.put (some t) (f t)) a).tmps.size = a.tmps.size ∧
    ∀ t, (l.foldl (fun x t => x.put (some t) (f t)) a).tmps[t]? = if t ∈ l ∧ t < a.tmps.size then some (f t) else a.tmps[t]?
  | [], a => ⟨rfl, rfl, fun t => by simp⟩
  | u :: l, a => by
    obtain ⟨h1, h2, h3⟩ := fold_put f l (a.put (some u) (f u))
    rw [List.foldl_cons]
    refine ⟨h1, by rw [h2, size_put], fun t => ?_⟩
    rw [h3, size_put]
    by_cases ht : t ∈ l
    · by_cases hs : t < a.tmps.size
      · rw [if_pos ⟨ht, hs⟩, if_pos ⟨List.mem_cons_of_mem _ ht, hs⟩]
      · rw [if_neg (fun h => hs h.2), if_neg (fun h => hs h.2)]
        simp only [Act.put]
        rw [Array.getElem?_eq_none (by simpa using hs), Array.getElem?_eq_none (by simpa using hs)]
    · rw [if_neg (fun h => ht h.1)]
      simp only [Act.put]
      by_cases hu : u = t
      · subst hu
        by_cases hs : u < a.tmps.size
        · rw [if_pos ⟨List.mem_cons_self, hs⟩, Array.getElem?_setIfInBounds_self_of_lt hs]
        · rw [if_neg (fun h => hs h.2)]
          rw [Array.getElem?_eq_none (by simpa using hs), Array.getElem?_eq_none (by simpa using hs)]
      · rw [if_neg (fun h => by rcases List.mem_cons.1 h.1 with e | e; exact hu e.symm; exact ht e), Array.getElem?_setIfInBounds_ne hu]
theorem SameBut.eq {a A : Act} {l : List Nat} (h : SameBut a A l) : A = l.foldl (fun x t => x.put (some t) (A.eval (.tmp t))) a := by
  obtain ⟨h1, h2, h3⟩ := fold_put (fun t => A.eval (.tmp t)) l a
  have ht : A.tmps = (l.foldl (fun x t => x.put (some t) (A.eval (.tmp t))) a).tmps := by
    apply Array.ext_getElem?
    intro t
    rw [h3]
    by_cases hm : t ∈ l ∧ t < a.tmps.size
    · rw [if_pos hm]
      have hs : t < A.tmps.size := by rw [h.sz]; exact hm.2
      rw [Array.getElem?_eq_getElem hs]
      simp only [Act.eval, Array.getD_eq_getD_getElem?, Array.getElem?_eq_getElem hs, Option.getD_some]
    · rw [if_neg hm]
      by_cases hl : t ∈ l
      · have hs : ¬ t < a.tmps.size := fun h' => hm ⟨hl, h'⟩
        rw [Array.getElem?_eq_none (by rw [h.sz]; omega), Array.getElem?_eq_none (by omega)]
      · exact h.at_ t hl
  have hd : A.defers = (l.foldl (fun x t => x.put (some t) (A.eval (.tmp t))) a).defers := h.df.trans h1.symm
  generalize l.foldl (fun x t => x.put (some t) (A.eval (.tmp t))) a = B at ht hd
  cases A; cases B
  simp only at ht hd
  rw [ht, hd]
end Go.Proofs.YtbinikbgbgggaaaDoor
