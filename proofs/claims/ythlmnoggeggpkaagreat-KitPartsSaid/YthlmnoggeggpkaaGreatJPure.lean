/- Plain Lean: parts that are joined, as a list that rises by its keys. -/
import Derived.Sort.Statements
import Derived.Lib.Bytealg
import GoSem.Op.String
namespace Go.Proofs.YthlmnoggeggpkaaGreat

/-- A part: its item's bytes, its number. -/
abbrev Pt := List UInt8 × Int
/-- The greatest amount. -/
def mostA : Int := 1125899906842624
def okA (n : Int) : Bool := decide (0 ≤ n) && decide (n ≤ mostA)
def addA (a b : Int) : Option Int := if okA a && (okA b && decide (a + b ≤ mostA)) then some (a + b) else none
/-- Sum, from n on. -/
def sumL : Int → List Int → Option Int
  | n, [] => some n
  | n, m :: L => if okA m && decide (n + m ≤ mostA) then sumL (n + m) L else none
theorem okA_iff {n : Int} : okA n = true ↔ 0 ≤ n ∧ n ≤ 1125899906842624 := by unfold okA mostA; rw [Bool.and_eq_true, decide_eq_true_eq, decide_eq_true_eq]
theorem okA_no {n : Int} (h : okA n = false) : n < 0 ∨ 1125899906842624 < n := by
  by_cases h1 : 0 ≤ n ∧ n ≤ 1125899906842624
  · rw [okA_iff.2 h1] at h; cases h
  · omega
theorem sumL_two (a b : Int) : sumL 0 [a, b] = addA a b := by
  unfold sumL sumL sumL addA
  cases ha : okA a
  · simp
  · have := okA_iff.1 ha
    have h1 : decide ((0 : Int) + a ≤ mostA) = true := by simp [mostA]; omega
    rw [h1]
    simp
theorem addA_some {a b n : Int} (h : addA a b = some n) : okA a = true ∧ okA b = true ∧ okA n = true ∧ n = a + b := by
  unfold addA at h
  split at h
  · rename_i hc
    simp only [Bool.and_eq_true, decide_eq_true_eq] at hc
    cases h
    obtain ⟨h1, h2, h3⟩ := hc
    have e1 := okA_iff.1 h1
    have e2 := okA_iff.1 h2
    simp only [mostA] at h3
    exact ⟨h1, h2, okA_iff.2 (by omega), rfl⟩
  · cases h

def sumAt : List Pt → List UInt8 → Int
  | [], _ => 0
  | p :: S, k => if p.1 = k then p.2 else sumAt S k
def setAt : List Pt → List UInt8 → Int → List Pt
  | [], k, n => [(k, n)]
  | p :: S, k, n => if p.1 < k then p :: setAt S k n else if p.1 = k then (k, n) :: S else (k, n) :: p :: S
/-- The parts joined to a list that rises. -/
def joinL : List Pt → List Pt → Option (List Pt)
  | S, [] => some S
  | S, p :: L => match addA (sumAt S p.1) p.2 with | none => none | some n => joinL (setAt S p.1 n) L
/-- By rising keys, none twice; each number an amount. -/
def Up (S : List Pt) : Prop := S.Pairwise (fun p q => p.1 < q.1) ∧ ∀ p ∈ S, okA p.2 = true
theorem Up.nil : Up [] := ⟨List.Pairwise.nil, fun p hp => by cases hp⟩
theorem Up.tail {p : Pt} {S : List Pt} (h : Up (p :: S)) : Up S := ⟨(List.pairwise_cons.1 h.1).2, fun q hq => h.2 q (List.mem_cons_of_mem _ hq)⟩
theorem lt_asymm' {a b : List UInt8} (h : a < b) (h' : b < a) : False := List.lt_irrefl a (List.lt_trans h h')
theorem lt_or {a b : List UInt8} (h : ¬ a < b) : a = b ∨ b < a := by
  have h1 : b ≤ a := List.not_lt.1 h
  rcases Classical.em (b < a) with h2 | h2
  · exact .inr h2
  · exact .inl (List.le_antisymm (List.not_lt.1 h2) h1)

theorem mem_setAt : ∀ {S : List Pt} {k : List UInt8} {n : Int} {p : Pt}, p ∈ setAt S k n → p = (k, n) ∨ p ∈ S
  | [], k, n, p, h => by simp [setAt] at h; exact .inl h
  | q :: S, k, n, p, h => by
    unfold setAt at h
    split at h
    · rcases List.mem_cons.1 h with rfl | h
      · exact .inr (by simp)
      · rcases mem_setAt h with h | h
        · exact .inl h
        · exact .inr (List.mem_cons_of_mem _ h)
    · split at h
      · rcases List.mem_cons.1 h with rfl | h
        · exact .inl rfl
        · exact .inr (List.mem_cons_of_mem _ h)
      · rcases List.mem_cons.1 h with rfl | h
        · exact .inl rfl
        · exact .inr h
theorem Up.set : ∀ {S : List Pt} (k : List UInt8) {n : Int}, Up S → okA n = true → Up (setAt S k n)
  | [], k, n, _, hn => ⟨by simp [setAt], fun p hp => by simp [setAt] at hp; rw [hp]; exact hn⟩
  | q :: S, k, n, h, hn => by
    have ih := Up.set k h.tail hn
    obtain ⟨h1, h2⟩ := List.pairwise_cons.1 h.1
    refine ⟨?_, fun p hp => by rcases mem_setAt hp with rfl | hp; exact hn; exact h.2 p hp⟩
    unfold setAt
    split
    · rename_i hlt
      refine List.pairwise_cons.2 ⟨fun p hp => ?_, ih.1⟩
      rcases mem_setAt hp with rfl | hp
      · exact hlt
      · exact h1 p hp
    · rename_i hge
      split
      · rename_i he
        exact List.pairwise_cons.2 ⟨fun p hp => by rw [← he]; exact h1 p hp, h2⟩
      · rename_i hne
        have hk : k < q.1 := (lt_or hge).resolve_left hne
        refine List.pairwise_cons.2 ⟨fun p hp => ?_, h.1⟩
        rcases List.mem_cons.1 hp with rfl | hp
        · exact hk
        · exact List.lt_trans hk (h1 p hp)
theorem sumAt_none : ∀ {S : List Pt} {k : List UInt8}, k ∉ S.map (·.1) → sumAt S k = 0
  | [], _, _ => rfl
  | p :: S, k, h => by
    simp only [List.map_cons, List.mem_cons, not_or] at h
    unfold sumAt
    rw [if_neg (fun e => h.1 e.symm), sumAt_none h.2]
theorem sumAt_set : ∀ {S : List Pt} (k : List UInt8) (n : Int) (k' : List UInt8), Up S → sumAt (setAt S k n) k' = if k' = k then n else sumAt S k'
  | [], k, n, k', _ => by
    unfold setAt sumAt sumAt
    by_cases h : k' = k
    · rw [if_pos h.symm, if_pos h]
    · rw [if_neg (fun e => h e.symm), if_neg h]
  | q :: S, k, n, k', h => by
    unfold setAt
    split
    · rename_i hlt
      conv => lhs; unfold sumAt
      conv => rhs; unfold sumAt
      rw [sumAt_set k n k' h.tail]
      by_cases e : q.1 = k'
      · have : k' ≠ k := fun e2 => by rw [e, e2] at hlt; exact List.lt_irrefl _ hlt
        rw [if_pos e, if_neg this, if_pos e]
      · rw [if_neg e, if_neg e]
    · split
      · rename_i he
        unfold sumAt
        by_cases e : k' = k
        · rw [if_pos e.symm, if_pos e]
        · rw [if_neg (fun e2 => e e2.symm), if_neg e, if_neg (fun e2 => e (e2.symm.trans he))]
      · rename_i hne
        conv => lhs; unfold sumAt
        by_cases e : k' = k
        · rw [if_pos e.symm, if_pos e]
        · rw [if_neg (fun e2 => e e2.symm), if_neg e]
theorem keys_set : ∀ {S : List Pt} (k : List UInt8) (n : Int) (k' : List UInt8), k' ∈ (setAt S k n).map (·.1) ↔ k' = k ∨ k' ∈ S.map (·.1)
  | [], k, n, k' => by simp [setAt]
  | q :: S, k, n, k' => by
    have ih := keys_set (S := S) k n k'
    unfold setAt
    split
    · rw [List.map_cons, List.mem_cons, ih, List.map_cons, List.mem_cons]
      constructor
      · rintro (h | h | h)
        · exact .inr (.inl h)
        · exact .inl h
        · exact .inr (.inr h)
      · rintro (h | h | h)
        · exact .inr (.inl h)
        · exact .inl h
        · exact .inr (.inr h)
    · split
      · rename_i he
        rw [List.map_cons, List.mem_cons, List.map_cons, List.mem_cons, he]
        constructor
        · rintro (h | h)
          · exact .inl h
          · exact .inr (.inr h)
        · rintro (h | h | h)
          · exact .inl h
          · exact .inl h
          · exact .inr h
      · simp
theorem Up.sum_ok : ∀ {S : List Pt} (k : List UInt8), Up S → okA (sumAt S k) = true
  | [], _, _ => by show okA 0 = true; decide
  | p :: S, k, h => by
    unfold sumAt
    split
    · exact h.2 p (by simp)
    · exact Up.sum_ok k h.tail
theorem Up.sum_mem : ∀ {S : List Pt} {p : Pt}, Up S → p ∈ S → sumAt S p.1 = p.2
  | q :: S, p, h, hp => by
    unfold sumAt
    rcases List.mem_cons.1 hp with rfl | hp
    · rw [if_pos rfl]
    · have := (List.pairwise_cons.1 h.1).1 p hp
      rw [if_neg (fun e => by rw [e] at this; exact List.lt_irrefl _ this), Up.sum_mem h.tail hp]
theorem mem_of_key : ∀ {S : List Pt} {k : List UInt8}, k ∈ S.map (·.1) → (k, sumAt S k) ∈ S
  | p :: S, k, h => by
    unfold sumAt
    split
    · rename_i e
      rw [← e]; simp
    · rename_i e
      rcases List.mem_cons.1 h with h | h
      · exact (e h.symm).elim
      · exact List.mem_cons_of_mem _ (mem_of_key h)
theorem Up.nodup {S : List Pt} (h : Up S) : S.Nodup := h.1.imp (fun {a b} hlt e => by rw [e] at hlt; exact List.lt_irrefl _ hlt)
/-- What was gathered key by key, in whatever order, is S in some order. -/
theorem Up.perm {S out : List Pt} (h : Up S) (hnd : (out.map (·.1)).Nodup) (hm : ∀ k, k ∈ out.map (·.1) ↔ k ∈ S.map (·.1)) (hv : ∀ p ∈ out, p.2 = sumAt S p.1) : out.Perm S := by
  refine (List.perm_ext_iff_of_nodup ((List.pairwise_map.1 hnd).imp fun {a b} hne e => hne (by rw [e])) h.nodup).2 fun p => ?_
  constructor
  · intro hp
    have h1 := mem_of_key ((hm p.1).1 (List.mem_map.2 ⟨p, hp, rfl⟩))
    rw [← hv p hp] at h1
    exact h1
  · intro hp
    obtain ⟨q, hq, e⟩ := List.mem_map.1 ((hm p.1).2 (List.mem_map.2 ⟨p, hp, rfl⟩))
    have e2 := hv q hq
    have e' : q.1 = p.1 := e
    rw [e', h.sum_mem hp] at e2
    have : q = p := Prod.ext e' e2
    rw [← this]; exact hq
/-- And sorted it is S. -/
theorem Up.sorted {S l : List Pt} (h : Up S) (hp : l.Perm S) (hs : l.Pairwise (fun a b => ¬ b.1 < a.1)) : l = S := by
  refine List.Perm.eq_of_pairwise (le := fun a b => ¬ b.1 < a.1) (fun a b ha hb h1 h2 => ?_) hs (h.1.imp fun {a b} hlt hgt => lt_asymm' hlt hgt) hp
  have e : a.1 = b.1 := by
    rcases lt_or h2 with e | e
    · exact e
    · exact (h1 e).elim
  have e1 := h.sum_mem (hp.mem_iff.1 ha)
  have e2 := h.sum_mem hb
  rw [e] at e1
  exact Prod.ext e (e1.symm.trans e2)
theorem joinL_up : ∀ {L S R : List Pt}, Up S → joinL S L = some R → Up R
  | [], S, R, h, e => by cases e; exact h
  | p :: L, S, R, h, e => by
    unfold joinL at e
    split at e
    · cases e
    · rename_i n hn
      exact joinL_up (h.set p.1 (addA_some hn).2.2.1) e
theorem setAt_len : ∀ (S : List Pt) (k : List UInt8) (n : Int), (setAt S k n).length ≤ S.length + 1
  | [], _, _ => by simp [setAt]
  | p :: S, k, n => by
    have := setAt_len S k n
    unfold setAt
    split
    · simp; omega
    · split <;> simp
/-! Two strings held against one another. -/
theorem cmp_lt : ∀ (a b : List UInt8), (Lib.compareBytes a b < 0 ↔ a < b) ∧ (Lib.compareBytes a b > 0 ↔ b < a)
  | [], [] => by simp [Lib.compareBytes]
  | [], y :: b => by simp [Lib.compareBytes]
  | x :: a, [] => by simp [Lib.compareBytes]
  | x :: a, y :: b => by
    have ih := cmp_lt a b
    unfold Lib.compareBytes
    rw [List.cons_lt_cons_iff, List.cons_lt_cons_iff]
    by_cases h : x < y
    · have h2 : ¬ y < x := fun h2 => UInt8.lt_irrefl _ (UInt8.lt_trans h h2)
      have h3 : ¬ y = x := fun e => by subst e; exact UInt8.lt_irrefl _ h
      simp [h, h2, h3]
    · by_cases h2 : y < x
      · have h3 : ¬ x = y := fun e => by subst e; exact UInt8.lt_irrefl _ h2
        simp [h, h2, h3]
      · have h3 : x = y := UInt8.le_antisymm (UInt8.not_lt.1 h2) (UInt8.not_lt.1 h)
        subst h3
        simp [h, ih]
theorem less_iff : ∀ (a b : List UInt8), Op.bytesLess a b = decide (a < b)
  | a, [] => by cases a <;> simp [Op.bytesLess]
  | [], y :: b => by simp [Op.bytesLess]
  | x :: a, y :: b => by
    unfold Op.bytesLess
    rw [less_iff a b, Bool.eq_iff_iff]
    simp [List.cons_lt_cons_iff]
/-- The order that the sort is handed. -/
def cfP (x y : Pt) : Int := Lib.compareBytes x.1 y.1
theorem cfP_lt (x y : Pt) : decide (cfP x y < 0) = decide (x.1 < y.1) := by
  unfold cfP
  simp only [decide_eq_decide]
  exact (cmp_lt x.1 y.1).1
/-- What the sort leaves is S. -/
theorem Up.sorted_in [Inhabited Pt] {S : List Pt} (h : Up S) {lt : Pt → Pt → Bool} (hlt : ∀ x y, lt x y = decide (x.1 < y.1)) {d d' : Array Pt} (hp : Sort.PermIn 0 d.size d d') (hs : Sort.SortedIn lt 0 d.size d') (hd : d.toList.Perm S) : d'.toList = S := by
  obtain ⟨hsz, _, hperm⟩ := hp
  have e1 : d'.extract 0 d.size = d' := by rw [← hsz]; exact Array.extract_size
  rw [e1, Array.extract_size] at hperm
  refine h.sorted (hperm.trans hd) ?_
  rw [List.pairwise_iff_getElem]
  intro i j hi hj hij
  have hi' : i < d'.size := by simpa using hi
  have hj' : j < d'.size := by simpa using hj
  have := hs i j (Nat.zero_le _) hij (by omega)
  rw [getElem!_pos d' j hj', getElem!_pos d' i hi', hlt] at this
  simpa using this

/-! Products. -/
def timesO (a b : Int) : Bool := okA a && (okA b && decide (a * b ≤ mostA))
def timesV (a b : Int) : Int := if timesO a b = true then a * b else 0
def addO (a b : Int) : Bool := okA a && (okA b && decide (a + b ≤ mostA))
def addV (a b : Int) : Int := if addO a b = true then a + b else 0
theorem times_div {a b : Int} (hb : 0 < b) : (a > Int.tdiv 1125899906842624 b) ↔ ¬ (a * b ≤ 1125899906842624) := by
  rw [Int.tdiv_eq_ediv_of_nonneg (by omega)]
  have := Int.le_ediv_iff_mul_le (a := a) (b := 1125899906842624) hb
  omega
theorem times_nat {a b : Int} (ha : 0 ≤ a) (hb : 0 ≤ b) :
    ((a.toNat * b.toNat / 18446744073709551616 = 0 ∧ a.toNat * b.toNat % 18446744073709551616 ≤ 1125899906842624) ↔ a * b ≤ 1125899906842624) := by
  have e : ((a.toNat * b.toNat : Nat) : Int) = a * b := by rw [Int.natCast_mul, Int.toNat_of_nonneg ha, Int.toNat_of_nonneg hb]
  constructor
  · rintro ⟨h1, h2⟩
    omega
  · intro h
    omega
end Go.Proofs.YthlmnoggeggpkaaGreat
