/- Whether items are sound: plain Lean. -/
import Derived.Test.YthlmnoggeggpkaaKRounds
import Derived.Test.YthlmnoggeggpkaaJPure
namespace Go.Proofs.Ythlmnoggeggpkaa
open Go.RowKit

def okIt (X : List It) (i : Nat) : Bool := okCode (cd X i) && (decide (i = 0) || Op.bytesLess (cd X (i - 1)) (cd X i)) && okShape (X.getD i default).life (X.getD i default).ps
def allOk (X : List It) : Bool := decide (∀ i, i < X.length → okIt X i = true)
def found (X : List It) : Bool := decide (∀ i, i < X.length → ∀ k, k < (X.getD i default).ps.length → ((X.getD i default).ps.getD k default).1 ∈ codes X)
def tellX (X : List It) (c : List UInt8) : Nat := (hgt (kidsX X) X.length c).getD 0
def roundX (X : List It) : Bool := decide (∃ i, i < X.length ∧ tellX X (cd X i) = 0)
def tooDeep (X : List It) : Bool := decide (∃ i, i < X.length ∧ 8 < tellX X (cd X i))
/-- What Check answers. -/
def chkE (X : List It) : Int := if 60 < X.length then 3 else if allOk X = false then 4 else if found X = false then 150 else if roundX X = true then 152 else if tooDeep X = true then 3 else 0
theorem chk_long {X : List It} (h : 60 < X.length) : chkE X = 3 := by unfold chkE; rw [if_pos h]
theorem chk_bad {X : List It} (h : ¬ 60 < X.length) {i : Nat} (hi : i < X.length) (hb : okIt X i = false) : chkE X = 4 := by
  unfold chkE
  rw [if_neg h, if_pos]
  unfold allOk
  exact decide_eq_false fun k => by rw [k i hi] at hb; cases hb
theorem allOk_of {X : List It} (h : ∀ i, i < X.length → okIt X i = true) : allOk X = true := decide_eq_true h
theorem chk_part {X : List It} (h : ¬ 60 < X.length) (ha : allOk X = true) {i k : Nat} (hi : i < X.length) (hk : k < (X.getD i default).ps.length) (hb : ((X.getD i default).ps.getD k default).1 ∉ codes X) : chkE X = 150 := by
  unfold chkE
  rw [if_neg h, if_neg (by rw [ha]; decide), if_pos]
  unfold found
  exact decide_eq_false fun f => hb (f i hi k hk)
theorem found_of {X : List It} (h : ∀ i, i < X.length → ∀ k, k < (X.getD i default).ps.length → ((X.getD i default).ps.getD k default).1 ∈ codes X) : found X = true := decide_eq_true h
theorem chk_round {X : List It} (h : ¬ 60 < X.length) (ha : allOk X = true) (hf : found X = true) {i : Nat} (hi : i < X.length) (hb : tellX X (cd X i) = 0) : chkE X = 152 := by
  unfold chkE
  rw [if_neg h, if_neg (by rw [ha]; decide), if_neg (by rw [hf]; decide), if_pos]
  exact decide_eq_true ⟨i, hi, hb⟩
theorem chk_deep {X : List It} (h : ¬ 60 < X.length) (ha : allOk X = true) (hf : found X = true) (hr : ∀ i, i < X.length → tellX X (cd X i) ≠ 0) {i : Nat} (hi : i < X.length) (hb : 8 < tellX X (cd X i)) : chkE X = 3 := by
  unfold chkE
  rw [if_neg h, if_neg (by rw [ha]; decide), if_neg (by rw [hf]; decide), if_neg, if_pos]
  · exact decide_eq_true ⟨i, hi, hb⟩
  · unfold roundX
    rw [decide_eq_true_eq]
    rintro ⟨j, hj, e⟩
    exact hr j hj e
theorem chk_fine {X : List It} (h : ¬ 60 < X.length) (ha : allOk X = true) (hf : found X = true) (hr : ∀ i, i < X.length → tellX X (cd X i) ≠ 0) (hd : ∀ i, i < X.length → tellX X (cd X i) ≤ 8) : chkE X = 0 := by
  unfold chkE
  rw [if_neg h, if_neg (by rw [ha]; decide), if_neg (by rw [hf]; decide), if_neg, if_neg]
  · unfold tooDeep
    rw [decide_eq_true_eq]
    rintro ⟨j, hj, e⟩
    have := hd j hj
    omega
  · unfold roundX
    rw [decide_eq_true_eq]
    rintro ⟨j, hj, e⟩
    exact hr j hj e
theorem okIt_parts {X : List It} {i : Nat} (h : okIt X i = true) : okCode (cd X i) = true ∧ (i = 0 ∨ cd X (i - 1) < cd X i) ∧ okShape (X.getD i default).life (X.getD i default).ps = true := by
  unfold okIt at h
  rw [Bool.and_eq_true, Bool.and_eq_true, Bool.or_eq_true, decide_eq_true_eq, less_iff, decide_eq_true_eq] at h
  exact ⟨h.1.1, h.1.2, h.2⟩
theorem codes_up {X : List It} (h : ∀ i, i < X.length → okIt X i = true) : ∀ j i, i < j → j < X.length → cd X i < cd X j
  | 0, i, hi, _ => absurd hi (Nat.not_lt_zero _)
  | j + 1, i, hi, hj => by
    have h1 := ((okIt_parts (h (j + 1) hj)).2.1).resolve_left (by omega)
    rw [Nat.add_sub_cancel] at h1
    by_cases e : i = j
    · rw [e]; exact h1
    · exact List.lt_trans (codes_up h j i (by omega) (by omega)) h1
theorem codes_nodup {X : List It} (h : ∀ i, i < X.length → okIt X i = true) : (codes X).Nodup := by
  unfold codes
  rw [List.nodup_iff_pairwise_ne, List.pairwise_map, List.pairwise_iff_getElem]
  intro i j hi hj hij e
  have h1 := codes_up h j i hij hj
  have ei : ∀ k (hk : k < X.length), X[k].code = cd X k := fun k hk => by
    unfold cd
    rw [List.getD_eq_getElem?_getD, List.getElem?_eq_getElem hk]; rfl
  rw [← ei i hi, ← ei j hj, e] at h1
  exact List.lt_irrefl _ h1
theorem code_ne {X : List It} (h : ∀ i, i < X.length → okIt X i = true) : ∀ x ∈ X, x.code ≠ [] := fun x hx e => by
  obtain ⟨i, hi, rfl⟩ := List.getElem_of_mem hx
  have h1 := (okIt_parts (h i hi)).1
  have e2 : cd X i = [] := by
    unfold cd
    rw [List.getD_eq_getElem?_getD, List.getElem?_eq_getElem hi]
    exact e
  rw [e2] at h1
  cases h1
theorem found_kids {X : List It} (hd : (codes X).Nodup) (h : ∀ i, i < X.length → ∀ k, k < (X.getD i default).ps.length → ((X.getD i default).ps.getD k default).1 ∈ codes X) : ∀ c ∈ codes X, ∀ p ∈ kidsX X c, p ∈ codes X := fun c hc p hp => by
  obtain ⟨i, hi, -, rfl⟩ := there hc
  rw [kids_cd hd hi] at hp
  obtain ⟨q, hq, rfl⟩ := List.mem_map.1 hp
  obtain ⟨k, hk, rfl⟩ := List.getElem_of_mem hq
  have := h i hi k hk
  rw [List.getD_eq_getElem?_getD, List.getElem?_eq_getElem hk] at this
  exact this
theorem okIt_code {X : List It} {i : Nat} (h : okCode (cd X i) = false) : okIt X i = false := by unfold okIt; rw [h]; rfl
theorem okIt_less {X : List It} {i : Nat} (h0 : 0 < i) (h : Op.bytesLess (cd X (i - 1)) (cd X i) = false) : okIt X i = false := by
  unfold okIt
  rw [h, decide_eq_false (by omega)]; simp
theorem okIt_shape {X : List It} {i : Nat} (h : okShape (X.getD i default).life (X.getD i default).ps = false) : okIt X i = false := by unfold okIt; rw [h]; simp
theorem okIt_yes {X : List It} {i : Nat} (h1 : okCode (cd X i) = true) (h2 : i = 0 ∨ Op.bytesLess (cd X (i - 1)) (cd X i) = true) (h3 : okShape (X.getD i default).life (X.getD i default).ps = true) : okIt X i = true := by
  unfold okIt
  rw [h1, h3]
  rcases h2 with h | h
  · rw [decide_eq_true h]; rfl
  · rw [h]; simp
end Go.Proofs.Ythlmnoggeggpkaa
