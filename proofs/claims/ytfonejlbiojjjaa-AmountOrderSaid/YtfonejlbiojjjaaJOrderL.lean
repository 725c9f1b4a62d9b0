/- The plain law of AmountOrder. -/
import Derived.Test.YtfonejlbiojjjaaJAwake
namespace Go.Proofs.Ytfonejlbiojjjaa

theorem addA_spec (a b : Int) : (∃ n, addA a b = some n ∧ 0 ≤ a ∧ a ≤ 1125899906842624 ∧ 0 ≤ b ∧ b ≤ 1125899906842624 ∧ a + b ≤ 1125899906842624 ∧ n = a + b) ∨ (addA a b = none ∧ ¬ (0 ≤ a ∧ a ≤ 1125899906842624 ∧ 0 ≤ b ∧ b ≤ 1125899906842624 ∧ a + b ≤ 1125899906842624)) := by
  unfold addA
  by_cases h : 0 ≤ a ∧ a ≤ 1125899906842624 ∧ 0 ≤ b ∧ b ≤ 1125899906842624 ∧ a + b ≤ 1125899906842624
  · left
    have e1 := okA_iff.2 ⟨h.1, h.2.1⟩
    have e2 := okA_iff.2 ⟨h.2.2.1, h.2.2.2.1⟩
    have e3 : decide (a + b ≤ mostA) = true := decide_eq_true h.2.2.2.2
    rw [e1, e2, e3]
    exact ⟨_, rfl, h.1, h.2.1, h.2.2.1, h.2.2.2.1, h.2.2.2.2, rfl⟩
  · right
    refine ⟨?_, h⟩
    split
    · rename_i hc
      simp only [Bool.and_eq_true, decide_eq_true_eq] at hc
      have e1 := okA_iff.1 hc.1
      have e2 := okA_iff.1 hc.2.1
      exact absurd ⟨e1.1, e1.2, e2.1, e2.2, hc.2.2⟩ h
    · rfl
theorem timesA_spec (a b : Int) : (∃ n, timesA a b = some n ∧ 0 ≤ a ∧ a ≤ 1125899906842624 ∧ 0 ≤ b ∧ b ≤ 1125899906842624 ∧ a * b ≤ 1125899906842624 ∧ n = a * b) ∨ (timesA a b = none ∧ ¬ (0 ≤ a ∧ a ≤ 1125899906842624 ∧ 0 ≤ b ∧ b ≤ 1125899906842624 ∧ a * b ≤ 1125899906842624)) := by
  unfold timesA
  by_cases h : 0 ≤ a ∧ a ≤ 1125899906842624 ∧ 0 ≤ b ∧ b ≤ 1125899906842624 ∧ a * b ≤ 1125899906842624
  · left
    have e1 := okA_iff.2 ⟨h.1, h.2.1⟩
    have e2 := okA_iff.2 ⟨h.2.2.1, h.2.2.2.1⟩
    have e3 : decide (a * b ≤ mostA) = true := decide_eq_true h.2.2.2.2
    rw [e1, e2, e3]
    exact ⟨_, rfl, h.1, h.2.1, h.2.2.1, h.2.2.2.1, h.2.2.2.2, rfl⟩
  · right
    refine ⟨?_, h⟩
    split
    · rename_i hc
      simp only [Bool.and_eq_true, decide_eq_true_eq] at hc
      have e1 := okA_iff.1 hc.1
      have e2 := okA_iff.1 hc.2.1
      exact absurd ⟨e1.1, e1.2, e2.1, e2.2, hc.2.2⟩ h
    · rfl
theorem sum3_spec (a b c : Int) : (∃ n, sumL 0 [a, b, c] = some n ∧ 0 ≤ a ∧ a ≤ 1125899906842624 ∧ 0 ≤ b ∧ b ≤ 1125899906842624 ∧ 0 ≤ c ∧ c ≤ 1125899906842624 ∧ a + b + c ≤ 1125899906842624 ∧ n = a + b + c) ∨ (sumL 0 [a, b, c] = none ∧ ¬ (0 ≤ a ∧ a ≤ 1125899906842624 ∧ 0 ≤ b ∧ b ≤ 1125899906842624 ∧ 0 ≤ c ∧ c ≤ 1125899906842624 ∧ a + b + c ≤ 1125899906842624)) := by
  have hf : ∀ m : Int, okA m = false → ¬ (0 ≤ m ∧ m ≤ 1125899906842624) := fun m hm h => by rw [okA_iff.2 h] at hm; cases hm
  simp only [sumL, Int.zero_add]
  cases ha : okA a
  · right; exact ⟨by simp, fun h => hf a ha ⟨h.1, h.2.1⟩⟩
  · have ha' := okA_iff.1 ha
    rw [show decide (a ≤ mostA) = true from decide_eq_true ha'.2]
    cases hb : okA b
    · right; exact ⟨by simp, fun h => hf b hb ⟨h.2.2.1, h.2.2.2.1⟩⟩
    · have hb' := okA_iff.1 hb
      by_cases h1 : a + b ≤ 1125899906842624
      · rw [show decide (a + b ≤ mostA) = true from decide_eq_true h1]
        cases hc : okA c
        · right; exact ⟨by simp, fun h => hf c hc ⟨h.2.2.2.2.1, h.2.2.2.2.2.1⟩⟩
        · have hc' := okA_iff.1 hc
          by_cases h2 : a + b + c ≤ 1125899906842624
          · rw [show decide (a + b + c ≤ mostA) = true from decide_eq_true h2]
            left
            exact ⟨_, rfl, ha'.1, ha'.2, hb'.1, hb'.2, hc'.1, hc'.2, h2, rfl⟩
          · rw [show decide (a + b + c ≤ mostA) = false from decide_eq_false h2]
            right; exact ⟨by simp, fun h => by omega⟩
      · rw [show decide (a + b ≤ mostA) = false from decide_eq_false h1]
        right; exact ⟨by simp, fun h => by omega⟩
theorem addA_comm (a b : Int) : addA b a = addA a b := by
  rcases addA_spec a b with ⟨n, h1, h⟩ | ⟨h1, h⟩ <;> rcases addA_spec b a with ⟨m, h2, k⟩ | ⟨h2, k⟩
  · rw [h1, h2]; congr 1; omega
  · omega
  · omega
  · rw [h1, h2]
theorem timesA_comm (a b : Int) : timesA b a = timesA a b := by
  have e := Int.mul_comm a b
  rcases timesA_spec a b with ⟨n, h1, h⟩ | ⟨h1, h⟩ <;> rcases timesA_spec b a with ⟨m, h2, k⟩ | ⟨h2, k⟩
  · rw [h1, h2]; congr 1; omega
  · rw [e] at h; omega
  · rw [e] at h; omega
  · rw [h1, h2]
theorem sum3_comm (a b c : Int) : sumL 0 [c, a, b] = sumL 0 [a, b, c] := by
  rcases sum3_spec a b c with ⟨n, h1, h⟩ | ⟨h1, h⟩ <;> rcases sum3_spec c a b with ⟨m, h2, k⟩ | ⟨h2, k⟩
  · rw [h1, h2]; congr 1; omega
  · omega
  · omega
  · rw [h1, h2]
theorem ans_in {o : Option Int} (h : ∀ n, o = some n → 0 ≤ n ∧ n ≤ 1125899906842624) : 0 ≤ ansV o ∧ ansV o ≤ 1125899906842624 := by
  cases o with
  | none => exact ⟨Int.le_refl _, by decide⟩
  | some n => exact h n rfl
theorem addA_in (a b : Int) : 0 ≤ ansV (addA a b) ∧ ansV (addA a b) ≤ 1125899906842624 := ans_in fun n h => by
  rcases addA_spec a b with ⟨m, h1, k⟩ | ⟨h1, _⟩
  · rw [h1] at h; cases h; omega
  · rw [h1] at h; cases h
theorem timesA_in (a b : Int) : 0 ≤ ansV (timesA a b) ∧ ansV (timesA a b) ≤ 1125899906842624 := ans_in fun n h => by
  rcases timesA_spec a b with ⟨m, h1, k⟩ | ⟨h1, _⟩
  · rw [h1] at h; cases h
    obtain ⟨k1, k2, k3, k4, k5, rfl⟩ := k
    exact ⟨Int.mul_nonneg k1 k3, k5⟩
  · rw [h1] at h; cases h

/-- Sums do not hang on their grouping. -/
theorem order_sum (a b c : Int) {x y z v s : Int} {ok right left whole all : Bool} (hx : x = ansV (addA a b)) (hok : ok = (addA a b).isSome) (hy : y = ansV (addA b c)) (hr : right = (addA b c).isSome)
    (hz : z = ansV (addA x c)) (hl : left = (addA x c).isSome) (hv : v = ansV (addA a y)) (hw : whole = (addA a y).isSome) (hs : s = ansV (sumL 0 [a, b, c])) (ha : all = (sumL 0 [a, b, c]).isSome) :
    (ok = false ∧ right = false ∧ all = false) ∨ (ok = false ∧ right = true ∧ whole = false ∧ all = false) ∨ (ok = true ∧ left = false ∧ right = false ∧ all = false) ∨ (ok = true ∧ left = false ∧ right = true ∧ whole = false ∧ all = false) ∨
    (ok = true ∧ left = true ∧ right = true ∧ whole = true ∧ all = true ∧ z = s ∧ v = s) := by
  rcases addA_spec a b with ⟨n1, e1, k1⟩ | ⟨e1, k1⟩ <;> rw [e1] at hx hok <;> rcases addA_spec b c with ⟨n2, e2, k2⟩ | ⟨e2, k2⟩ <;> rw [e2] at hy hr <;> rcases sum3_spec a b c with ⟨n5, e5, k5⟩ | ⟨e5, k5⟩ <;> rw [e5] at hs ha <;>
    simp only [ansV, Option.isSome_some, Option.isSome_none] at hx hok hy hr hs ha <;>
    rcases addA_spec x c with ⟨n3, e3, k3⟩ | ⟨e3, k3⟩ <;> rw [e3] at hz hl <;> rcases addA_spec a y with ⟨n4, e4, k4⟩ | ⟨e4, k4⟩ <;> rw [e4] at hv hw <;>
    simp only [ansV, Option.isSome_some, Option.isSome_none] at hz hl hv hw <;> first | (exfalso; omega) | (subst hok; subst hr; subst ha; subst hl; subst hw; simp; done) | (subst hok; subst hr; subst ha; subst hl; subst hw; simp; omega)
/-- Products do not hang on it either. -/
theorem order_times (a b c : Int) {y p e d f : Int} {right fine second made sum : Bool} (hy : y = ansV (addA b c)) (hr : right = (addA b c).isSome) (hp : p = ansV (timesA a b)) (hf : fine = (timesA a b).isSome)
    (hd : d = ansV (timesA a y)) (hsum : sum = (timesA a y).isSome) (he : e = ansV (timesA a c)) (hsec : second = (timesA a c).isSome) (hff : f = ansV (addA p e)) (hm : made = (addA p e).isSome) :
    right = false ∨ (right = true ∧ fine = false) ∨ (right = true ∧ fine = true ∧ second = false) ∨ (right = true ∧ fine = true ∧ second = true ∧ made = false) ∨
    (right = true ∧ fine = true ∧ second = true ∧ made = true ∧ sum = true ∧ d = f) := by
  rcases addA_spec b c with ⟨n2, e2, k2⟩ | ⟨e2, k2⟩
  · rw [e2] at hy hr
    rcases timesA_spec a b with ⟨n1, e1, k1⟩ | ⟨e1, k1⟩
    · rw [e1] at hp hf
      rcases timesA_spec a c with ⟨n3, e3, k3⟩ | ⟨e3, k3⟩
      · rw [e3] at he hsec
        rcases addA_spec p e with ⟨n4, e4, k4⟩ | ⟨e4, k4⟩
        · rw [e4] at hff hm
          simp only [ansV, Option.isSome_some] at hy hr hp hf he hsec hff hm
          have hmul : a * y = a * b + a * c := by rw [hy, k2.2.2.2.2.2, Int.mul_add]
          rcases timesA_spec a y with ⟨n5, e5, k5⟩ | ⟨e5, k5⟩
          · rw [e5] at hd hsum
            simp only [ansV, Option.isSome_some] at hd hsum
            subst hr; subst hf; subst hsec; subst hm; subst hsum
            refine .inr (.inr (.inr (.inr ⟨rfl, rfl, rfl, rfl, rfl, ?_⟩)))
            omega
          · exfalso; omega
        · rw [e4] at hm
          simp only [Option.isSome_some, Option.isSome_none] at hr hf hsec hm
          exact .inr (.inr (.inr (.inl ⟨hr, hf, hsec, hm⟩)))
      · rw [e3] at hsec
        simp only [Option.isSome_some, Option.isSome_none] at hr hf hsec
        exact .inr (.inr (.inl ⟨hr, hf, hsec⟩))
    · rw [e1] at hf
      simp only [Option.isSome_some, Option.isSome_none] at hr hf
      exact .inr (.inl ⟨hr, hf⟩)
  · rw [e2] at hr
    exact .inl hr
/-- What a sum that there is says of its numbers. -/
theorem order_ok (a b c : Int) {s : Int} {all : Bool} (hs : s = ansV (sumL 0 [a, b, c])) (ha : all = (sumL 0 [a, b, c]).isSome) : all = false ∨ (all = true ∧ okA a = true ∧ okA b = true ∧ okA c = true ∧ okA s = true ∧ a ≤ s) := by
  rcases sum3_spec a b c with ⟨n, e, k⟩ | ⟨e, k⟩
  · rw [e] at hs ha
    simp only [ansV, Option.isSome_some] at hs ha
    exact .inr ⟨ha, okA_iff.2 ⟨k.1, k.2.1⟩, okA_iff.2 ⟨k.2.2.1, k.2.2.2.1⟩, okA_iff.2 ⟨k.2.2.2.2.1, k.2.2.2.2.2.1⟩, okA_iff.2 (by omega), by omega⟩
  · rw [e] at ha
    exact .inl ha
end Go.Proofs.Ytfonejlbiojjjaa
