/- The map of sums, as it reads, and the list that rises. -/
import Derived.Test.YthlmnoggeggpkaaGreatJPure
import Derived.Maps.Views
import Derived.Sort.KeysCollected
namespace Go.Proofs.YthlmnoggeggpkaaGreat
open Go.Maps

/-- The map reads as the sums of S. -/
def MapIs {H : Type} (D : DataW H) (S : List Pt) : Prop := IsMap D ∧ (∀ k, D.atKey (.string k) (.lit (.int .i64 0)) = .lit (.int .i64 (sumAt S k))) ∧ ∀ k, Maps.has D (.string k) = true ↔ k ∈ S.map (·.1)
theorem MapIs.start {H : Type} : MapIs (.map [] : DataW H) [] := ⟨isMap_empty, fun k => rfl, fun k => by simp [Maps.has]⟩
theorem MapIs.put {H : Type} {D : DataW H} {S : List Pt} (h : MapIs D S) (hu : Up S) (k : List UInt8) (n : Int) : MapIs (D.put (.string k) (.lit (.int .i64 n))) (setAt S k n) := by
  obtain ⟨h1, h2, h3⟩ := h
  have hk : WideAt.IsKeyLit (.string k) := by trivial
  refine ⟨h1.put _ _, fun k' => ?_, fun k' => ?_⟩
  · rw [sumAt_set k n k' hu]
    by_cases e : k' = k
    · subst e
      rw [if_pos rfl, atKey_put_same h1 hk]
    · rw [if_neg e, atKey_put_other (fun e2 => e (by cases e2; rfl)), h2]
  · rw [keys_set]
    by_cases e : k' = k
    · subst e
      simp [has_put_same h1 hk]
    · rw [has_put_other (fun e2 => e (by cases e2; rfl)), h3]
      simp [e]
/-- What was gathered so far. -/
def Got {H : Type} (D : DataW H) (S : List Pt) (left : Lit → Bool) (out : List Pt) : Prop := Collected D left (out.map (·.1)) ∧ ∀ p ∈ out, p.2 = sumAt S p.1
theorem Got.start {H : Type} (D : DataW H) (S : List Pt) : Got D S (Maps.has D) [] := ⟨Collected.start D, fun p hp => by cases hp⟩
theorem Got.step {H : Type} {D : DataW H} {S : List Pt} {left : Lit → Bool} {out : List Pt} (h : Got D S left out) (hD : MapIs D S) {x : List UInt8} {c : Int} (hl : left (.string x) = true) (hat : ∀ zd, D.atKey (.string x) zd = .lit (.int .i64 c)) :
    Got D S (fun z => left z && !z.sameKey (.string x)) (out ++ [(x, c)]) := by
  have e : c = sumAt S x := by
    have h1 := hat (.lit (.int .i64 0))
    rw [hD.2.1 x] at h1
    cases h1; rfl
  refine ⟨?_, fun p hp => ?_⟩
  · rw [List.map_append]
    exact h.1.step hl hat
  · rcases List.mem_append.1 hp with hp | hp
    · exact h.2 p hp
    · rw [List.mem_singleton.1 hp]; exact e
theorem Got.done {H : Type} {D : DataW H} {S : List Pt} {left : Lit → Bool} {out : List Pt} (h : Got D S left out) (hD : MapIs D S) (hu : Up S) (hl : ∀ kl, left kl = false) : out.Perm S := by
  refine hu.perm h.1.1 (fun k => ?_) h.2
  rw [h.1.2 k, hl, ← hD.2.2 k]
  simp
end Go.Proofs.YthlmnoggeggpkaaGreat
