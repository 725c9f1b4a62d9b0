/- What is in so many of an item in the end: its leaves, joined. Plain Lean. What KitEnd asks of what is in an item in the end: plain Lean. -/
import Derived.Test.YthlmnoggeggpkaaGreatKGreat
namespace Go.Proofs.YthlmnoggeggpkaaGreat
open Go.RowKit

/-- The kept items within so many of one, one by one. -/
def leaves (X : List It) : Nat → List UInt8 → Int → List Pt
  | 0, _, _ => []
  | k + 1, c, q => if (partsX X c).length = 0 then [(c, q)] else (partsX X c).flatMap fun p => leaves X k p.1 (q * p.2)
theorem leaves_leaf {X : List It} {k : Nat} {c : List UInt8} {q : Int} (h : (partsX X c).length = 0) : leaves X (k + 1) c q = [(c, q)] := by
  show (if _ then _ else _) = _
  rw [if_pos h]
theorem leaves_kit {X : List It} {k : Nat} {c : List UInt8} {q : Int} (h : (partsX X c).length ≠ 0) : leaves X (k + 1) c q = (partsX X c).flatMap fun p => leaves X k p.1 (q * p.2) := by
  show (if _ then _ else _) = _
  rw [if_neg h]
theorem Sound.parts {X : List It} (hs : Sound X) {c : List UInt8} (hc : c ∈ codes X) : ∀ p ∈ partsX X c, p.1 ∈ codes X ∧ 1 ≤ p.2 ∧ p.2 ≤ 1073741824 := fun p hp => by
  refine ⟨hs.kids c hc p.1 (by rw [kids_parts]; exact List.mem_map.2 ⟨p, hp, rfl⟩), ?_⟩
  obtain ⟨i, hi, -, rfl⟩ := there hc
  have hsh := (okIt_parts (hs.ok i hi)).2.2
  unfold partsX at hp
  rw [itF_cd hs.nd hi] at hp
  have hp : p ∈ (X.getD i default).ps := hp
  obtain ⟨k, hk, rfl⟩ := List.getElem_of_mem hp
  unfold okShape at hsh
  rw [if_neg (by omega), Bool.and_eq_true, decide_eq_true_eq, decide_eq_true_eq] at hsh
  have h1 := hsh.2 k hk
  unfold okPart at h1
  rw [Bool.and_eq_true, decide_eq_true_eq, decide_eq_true_eq, List.getD_eq_getElem?_getD, List.getElem?_eq_getElem hk] at h1
  exact h1.1
theorem hgt_parts {X : List It} {k : Nat} {c : List UInt8} {d : Nat} (h : hgt (kidsX X) (k + 1) c = some d) : ∀ p ∈ partsX X c, ∃ d', hgt (kidsX X) k p.1 = some d' := fun p hp => by
  rw [hgt_succ] at h
  obtain ⟨d', h1, -⟩ := (foldH_some h).2 p.1 (by rw [kids_parts]; exact List.mem_map.2 ⟨p, hp, rfl⟩)
  exact ⟨d', h1⟩
theorem leaves_ge {X : List It} (hs : Sound X) : ∀ (k : Nat) {c : List UInt8} {q : Int}, c ∈ codes X → 1 ≤ q → ∀ p ∈ leaves X k c q, q ≤ p.2 ∧ p.1 ∈ codes X ∧ (partsX X p.1).length = 0
  | 0, _, _, _, _, p, hp => by cases hp
  | k + 1, c, q, hc, hq, p, hp => by
    by_cases h0 : (partsX X c).length = 0
    · rw [leaves_leaf h0, List.mem_singleton] at hp
      subst hp
      exact ⟨Int.le_refl _, hc, h0⟩
    · rw [leaves_kit h0, List.mem_flatMap] at hp
      obtain ⟨r, hr, hp⟩ := hp
      obtain ⟨h1, h2, -⟩ := hs.parts hc r hr
      have hqr : q ≤ q * r.2 := by
        have := Int.mul_le_mul_of_nonneg_left h2 (show 0 ≤ q by omega)
        omega
      obtain ⟨h3, h4, h5⟩ := leaves_ge hs k h1 (show 1 ≤ q * r.2 by omega) p hp
      exact ⟨by omega, h4, h5⟩
theorem leaves_some {X : List It} : ∀ (k : Nat) {c : List UInt8} {q : Int} {d : Nat}, hgt (kidsX X) k c = some d → ∃ p, p ∈ leaves X k c q
  | 0, _, _, _, h => by cases h
  | k + 1, c, q, d, h => by
    by_cases h0 : (partsX X c).length = 0
    · exact ⟨(c, q), by rw [leaves_leaf h0]; simp⟩
    · rw [leaves_kit h0]
      obtain ⟨r, hr⟩ : ∃ r, r ∈ partsX X c := by
        cases hp : partsX X c with
        | nil => rw [hp] at h0; exact absurd rfl h0
        | cons r l => exact ⟨r, by simp⟩
      obtain ⟨d', hd'⟩ := hgt_parts h r hr
      obtain ⟨p, hp⟩ := leaves_some k (q := q * r.2) hd'
      exact ⟨p, List.mem_flatMap.2 ⟨r, hr, hp⟩⟩
theorem joinL_big {S L : List Pt} (hS : Up S) {p : Pt} (hp : p ∈ L) (hb : mostA < p.2) : joinL S L = none := by
  cases h : joinL S L with
  | none => rfl
  | some R =>
    have h1 := ((joinL_iff hS).1 (by rw [h]; rfl)).1 p hp
    have := okA_iff.1 h1
    unfold mostA at hb
    omega
theorem times_fine {a b : Int} (ha : 1 ≤ a) (hb : 1 ≤ b) (hb2 : b ≤ 1073741824) (ha2 : a ≤ mostA) : timesA a b = if a * b ≤ mostA then some (a * b) else none := by
  unfold timesA
  unfold mostA at ha2
  rw [okA_iff.2 (by omega), okA_iff.2 (by omega)]
  simp
theorem put_list {f : List Pt → List UInt8 → Int → Option (List Pt)} {g : Pt → List Pt} {q : Int} : ∀ {L : List Pt} {S : List Pt}, Up S → (∀ p ∈ L, ∀ S', Up S' → putStep f q (some S') p = joinL S' (g p)) → L.foldl (putStep f q) (some S) = joinL S (L.flatMap g)
  | [], S, _, _ => rfl
  | p :: L, S, hS, h => by
    rw [List.foldl_cons, List.flatMap_cons, joinL_append, h p (List.mem_cons_self ..) S hS]
    cases hj : joinL S (g p) with
    | none => exact put_none f q L
    | some S' => exact put_list (joinL_up hS hj) fun r hr => h r (List.mem_cons_of_mem _ hr)
/-- What is put is the leaves, joined. -/
theorem putL_leaves {X : List It} (hs : Sound X) : ∀ (k : Nat) {c : List UInt8} {q : Int} {d : Nat} {S : List Pt}, c ∈ codes X → hgt (kidsX X) k c = some d → 1 ≤ q → q ≤ mostA → Up S → putL X k S c q = joinL S (leaves X k c q)
  | 0, _, _, _, _, _, h, _, _, _ => by cases h
  | k + 1, c, q, d, S, hc, h, hq, hq2, hS => by
    by_cases h0 : (partsX X c).length = 0
    · rw [leaves_leaf h0]
      show (if _ then _ else _) = _
      rw [if_pos h0]
    · rw [leaves_kit h0]
      show (if _ then _ else _) = _
      rw [if_neg h0]
      refine put_list hS fun p hp S' hS' => ?_
      obtain ⟨h1, h2, h3⟩ := hs.parts hc p hp
      obtain ⟨d', hd'⟩ := hgt_parts h p hp
      have hge : 1 ≤ q * p.2 := by
        have := Int.mul_le_mul_of_nonneg_left h2 (show 0 ≤ q by omega)
        omega
      show (timesA q p.2).bind (fun n => putL X k S' p.1 n) = _
      rw [times_fine hq h2 h3 hq2]
      by_cases hle : q * p.2 ≤ mostA
      · rw [if_pos hle]
        exact putL_leaves hs k h1 hd' hge hle hS'
      · rw [if_neg hle]
        obtain ⟨r, hr⟩ := leaves_some (X := X) k (q := q * p.2) hd'
        have := (leaves_ge hs k h1 hge r hr).1
        exact (joinL_big hS' hr (by omega)).symm
theorem leaves_fuel {X : List It} : ∀ (k : Nat) {c : List UInt8} {q : Int} {d : Nat}, hgt (kidsX X) k c = some d → leaves X (k + 1) c q = leaves X k c q
  | 0, _, _, _, h => by cases h
  | k + 1, c, q, d, h => by
    by_cases h0 : (partsX X c).length = 0
    · rw [leaves_leaf h0, leaves_leaf h0]
    · rw [leaves_kit h0, leaves_kit h0]
      have key : ∀ L : List Pt, (∀ p ∈ L, ∃ d', hgt (kidsX X) k p.1 = some d') → L.flatMap (fun p => leaves X (k + 1) p.1 (q * p.2)) = L.flatMap (fun p => leaves X k p.1 (q * p.2)) := fun L => by
        induction L with
        | nil => intro _; rfl
        | cons p L ih =>
          intro hL
          obtain ⟨d', hd'⟩ := hL p (List.mem_cons_self ..)
          rw [List.flatMap_cons, List.flatMap_cons, leaves_fuel k hd', ih fun r hr => hL r (List.mem_cons_of_mem _ hr)]
      exact key _ (hgt_parts h)
def scaleP (a : Int) (p : Pt) : Pt := (p.1, a * p.2)
theorem leaves_scale {X : List It} : ∀ (k : Nat) (c : List UInt8) (a q : Int), leaves X k c (a * q) = (leaves X k c q).map (scaleP a)
  | 0, _, _, _ => rfl
  | k + 1, c, a, q => by
    by_cases h0 : (partsX X c).length = 0
    · rw [leaves_leaf h0, leaves_leaf h0]; rfl
    · rw [leaves_kit h0, leaves_kit h0, List.map_flatMap]
      congr 1
      funext p
      rw [Int.mul_assoc]
      exact leaves_scale k p.1 a (q * p.2)
theorem tot_scale (a : Int) (s : List UInt8) : ∀ L : List Pt, tot s (L.map (scaleP a)) = a * tot s L
  | [] => by show (0 : Int) = a * 0; omega
  | p :: L => by
    show (if p.1 = s then a * p.2 else 0) + tot s (L.map (scaleP a)) = a * ((if p.1 = s then p.2 else 0) + tot s L)
    rw [tot_scale a s L, Int.mul_add]
    split
    · rfl
    · omega
theorem keys_scale (a : Int) (L : List Pt) : (L.map (scaleP a)).map (·.1) = L.map (·.1) := by
  rw [List.map_map]; rfl
theorem way_head {α : Type} {kids : α → List α} {a b c : α} (h : b ∈ kids a) (w : Way kids b c) : Way kids a c := by
  induction w with
  | one hb => exact .more (.one h) hb
  | more _ hc ih => exact .more ih hc
theorem in_step {X : List It} {c p s : List UInt8} (h : p ∈ kidsX X c) (hi : inX X p s) : inX X c s := by
  rcases hi with rfl | hw
  · exact .inr (.one h)
  · exact .inr (way_head h hw)
/-- Each leaf is the item itself, or within it. -/
theorem leaves_in {X : List It} : ∀ (k : Nat) {c : List UInt8} {q : Int}, ∀ p ∈ leaves X k c q, inX X c p.1
  | 0, _, _, p, hp => by cases hp
  | k + 1, c, q, p, hp => by
    by_cases h0 : (partsX X c).length = 0
    · rw [leaves_leaf h0, List.mem_singleton] at hp
      subst hp
      exact .inl rfl
    · rw [leaves_kit h0, List.mem_flatMap] at hp
      obtain ⟨r, hr, hp⟩ := hp
      have hk : r.1 ∈ kidsX X c := by rw [kids_parts]; exact List.mem_map.2 ⟨r, hr, rfl⟩
      exact in_step hk (leaves_in k p hp)
end Go.Proofs.YthlmnoggeggpkaaGreat
namespace Go.Proofs.YthlmnoggeggpkaaGreat
open Go.RowKit

theorem tot_nn (s : List UInt8) : ∀ {L : List Pt}, (∀ p ∈ L, 0 ≤ p.2) → 0 ≤ tot s L
  | [], _ => Int.le_refl _
  | p :: L, h => by
    have h1 := tot_nn s fun r hr => h r (List.mem_cons_of_mem p hr)
    have h2 := h p (List.mem_cons_self ..)
    show 0 ≤ (if p.1 = s then p.2 else 0) + tot s L
    split <;> omega
theorem tot_le : ∀ {L : List Pt} {p : Pt}, (∀ p ∈ L, 0 ≤ p.2) → p ∈ L → p.2 ≤ tot p.1 L
  | r :: L, p, h, hp => by
    have hL : ∀ x ∈ L, 0 ≤ x.2 := fun x hx => h x (List.mem_cons_of_mem r hx)
    have h2 := h r (List.mem_cons_self ..)
    show p.2 ≤ (if r.1 = p.1 then r.2 else 0) + tot p.1 L
    rcases List.mem_cons.1 hp with rfl | hp
    · rw [if_pos rfl]
      have := tot_nn p.1 hL
      omega
    · have := tot_le hL hp
      split <;> omega
theorem tot_flat (s : List UInt8) (g : Pt → List Pt) : ∀ {L : List Pt} {p : Pt}, (∀ p ∈ L, ∀ r ∈ g p, 0 ≤ r.2) → p ∈ L → tot s (g p) ≤ tot s (L.flatMap g)
  | r :: L, p, h, hp => by
    have hL : ∀ x ∈ L, ∀ y ∈ g x, 0 ≤ y.2 := fun x hx => h x (List.mem_cons_of_mem r hx)
    rw [List.flatMap_cons, tot_append]
    rcases List.mem_cons.1 hp with rfl | hp
    · have := tot_nn s (L := L.flatMap g) fun y hy => by
        obtain ⟨x, hx, hy⟩ := List.mem_flatMap.1 hy
        exact hL x hx y hy
      omega
    · have := tot_flat s g hL hp
      have := tot_nn s (h r (List.mem_cons_self ..))
      omega
theorem tot_cong (s : List UInt8) {g g' : Pt → List Pt} : ∀ {L : List Pt}, (∀ p ∈ L, tot s (g p) = tot s (g' p)) → tot s (L.flatMap g) = tot s (L.flatMap g')
  | [], _ => rfl
  | p :: L, h => by
    rw [List.flatMap_cons, List.flatMap_cons, tot_append, tot_append, h p (List.mem_cons_self ..), tot_cong s fun r hr => h r (List.mem_cons_of_mem p hr)]
theorem end_leaves {X : List It} (hs : Sound X) {c : List UInt8} (hc : c ∈ codes X) {q : Int} (h1 : 1 ≤ q) (h2 : q ≤ mostA) : endL X c q = joinL [] (leaves X 8 c q) := putL_leaves hs 8 hc (hs.hgt8 hc) h1 h2 Up.nil
theorem leaves_times (X : List It) (c : List UInt8) (q : Int) : leaves X 8 c q = (leaves X 8 c 1).map (scaleP q) := by
  have := leaves_scale (X := X) 8 c q 1
  rwa [Int.mul_one] at this
theorem end_ok {X : List It} (hs : Sound X) {c : List UInt8} (hc : c ∈ codes X) {q : Int} (h1 : 1 ≤ q) (h2 : q ≤ mostA) : (endL X c q).isSome = true ↔ ∀ s, tot s (leaves X 8 c q) ≤ mostA := by
  rw [end_leaves hs hc h1 h2, joinL_iff Up.nil]
  have hz : ∀ s, sumAt [] s = 0 := fun _ => rfl
  have hge := leaves_ge hs 8 hc h1
  constructor
  · rintro ⟨-, h⟩ s
    have := h s
    rw [hz] at this
    omega
  · intro h
    refine ⟨fun p hp => ?_, fun s => by have := h s; rw [hz]; omega⟩
    have e1 := (hge p hp).1
    have e2 := tot_le (fun r hr => by have := (hge r hr).1; omega) hp
    have e3 := h p.1
    unfold mostA at e3
    exact okA_iff.2 (by omega)
theorem leaves_nn {X : List It} (hs : Sound X) {c : List UInt8} (hc : c ∈ codes X) {q : Int} (h1 : 1 ≤ q) : ∀ p ∈ leaves X 8 c q, 0 ≤ p.2 := fun p hp => by
  have := (leaves_ge hs 8 hc h1 p hp).1
  omega
/-- What one is too much for, so many are. -/
theorem end_less {X : List It} (hs : Sound X) {c : List UInt8} (hc : c ∈ codes X) {q : Int} (h1 : 1 ≤ q) (h2 : q ≤ mostA) (h : endL X c 1 = none) : endL X c q = none := by
  cases hq : endL X c q with
  | none => rfl
  | some T =>
    have h3 := (end_ok hs hc h1 h2).1 (by rw [hq]; rfl)
    have h4 : (endL X c 1).isSome = true := (end_ok hs hc (Int.le_refl 1) (by unfold mostA; omega)).2 fun s => by
      have h5 := h3 s
      rw [leaves_times, tot_scale] at h5
      have h6 := tot_nn s (leaves_nn hs hc (Int.le_refl 1))
      have h7 := Int.mul_le_mul_of_nonneg_right h1 h6
      omega
    rw [h] at h4
    cases h4
theorem end_up {X : List It} (hs : Sound X) {c : List UInt8} (hc : c ∈ codes X) {q : Int} (h1 : 1 ≤ q) (h2 : q ≤ mostA) {S : List Pt} (h : endL X c q = some S) : Up S ∧ (∀ s, sumAt S s = tot s (leaves X 8 c q)) ∧ ∀ s, s ∈ S.map (·.1) ↔ s ∈ (leaves X 8 c q).map (·.1) := by
  rw [end_leaves hs hc h1 h2] at h
  refine ⟨joinL_up Up.nil h, fun s => ?_, fun s => ?_⟩
  · rw [joinL_sum Up.nil h s]
    show 0 + _ = _
    omega
  · rw [joinL_keys h s]
    simp
/-- So many are as many times what one is. -/
theorem end_times {X : List It} (hs : Sound X) {c : List UInt8} (hc : c ∈ codes X) {q : Int} (h1 : 1 ≤ q) (h2 : q ≤ mostA) {S T : List Pt} (hS : endL X c 1 = some S) (hT : endL X c q = some T) : T = S.map (scaleP q) := by
  obtain ⟨u1, s1, k1⟩ := end_up hs hc (Int.le_refl 1) (by unfold mostA; omega) hS
  obtain ⟨u2, s2, k2⟩ := end_up hs hc h1 h2 hT
  have hb := (end_ok hs hc h1 h2).1 (by rw [hT]; rfl)
  have hup : Up (S.map (scaleP q)) := by
    refine ⟨?_, fun p hp => ?_⟩
    · rw [List.pairwise_map]
      exact u1.1
    · obtain ⟨r, hr, rfl⟩ := List.mem_map.1 hp
      have e1 := okA_iff.1 (u1.2 r hr)
      have e2 := u1.sum_mem hr
      have e3 := hb r.1
      rw [leaves_times, tot_scale, ← s1, e2] at e3
      have e4 := Int.mul_nonneg (show 0 ≤ q by omega) e1.1
      unfold mostA at e3
      exact okA_iff.2 ⟨e4, e3⟩
  refine Up.ext u2 hup (fun k => ?_) fun k => ?_
  · rw [k2, keys_scale, k1, leaves_times, keys_scale]
  · rw [s2, leaves_times, tot_scale, ← s1, ← hup.tot_eq, tot_scale, u1.tot_eq]
/-- What is in one in the end: kept items, each once or more, all within it. -/
theorem end_mem {X : List It} (hs : Sound X) {c : List UInt8} (hc : c ∈ codes X) {q : Int} (h1 : 1 ≤ q) (h2 : q ≤ mostA) {S : List Pt} (hS : endL X c q = some S) : ∀ p ∈ S, 1 ≤ p.2 ∧ p.1 ∈ codes X ∧ (partsX X p.1).length = 0 ∧ p.1 ∈ withinL X c := fun p hp => by
  obtain ⟨u1, s1, k1⟩ := end_up hs hc h1 h2 hS
  obtain ⟨r, hr, e⟩ := List.mem_map.1 ((k1 p.1).1 (List.mem_map.2 ⟨p, hp, rfl⟩))
  obtain ⟨g1, g2, g3⟩ := leaves_ge hs 8 hc h1 r hr
  have g4 := tot_le (leaves_nn hs hc h1) hr
  have g5 := leaves_in 8 r hr
  rw [e] at g2 g3 g4 g5
  rw [← s1, u1.sum_mem hp] at g4
  exact ⟨by omega, g2, g3, mem_within.2 ⟨g2, g5⟩⟩
theorem leaves_parts' {X : List It} {c : List UInt8} {k d : Nat} (h : hgt (kidsX X) (k + 1) c = some d) (h0 : (partsX X c).length ≠ 0) : leaves X (k + 1) c 1 = (partsX X c).flatMap fun p => leaves X (k + 1) p.1 p.2 := by
  rw [leaves_kit h0]
  have key : ∀ L : List Pt, (∀ p ∈ L, ∃ d', hgt (kidsX X) k p.1 = some d') → L.flatMap (fun p => leaves X k p.1 (1 * p.2)) = L.flatMap (fun p => leaves X (k + 1) p.1 p.2) := fun L => by
    induction L with
    | nil => intro _; rfl
    | cons p L ih =>
      intro hL
      obtain ⟨d', hd'⟩ := hL p (List.mem_cons_self ..)
      rw [List.flatMap_cons, List.flatMap_cons, ih fun r hr => hL r (List.mem_cons_of_mem _ hr), Int.one_mul, leaves_fuel k hd']
  exact key _ (hgt_parts h)
theorem leaves_parts {X : List It} (hs : Sound X) {c : List UInt8} (hc : c ∈ codes X) (h0 : (partsX X c).length ≠ 0) : leaves X 8 c 1 = (partsX X c).flatMap fun p => leaves X 8 p.1 p.2 := leaves_parts' (k := 7) (hs.hgt8 hc) h0
/-- What is in a part in the end. -/
def partT (X : List It) (p : Pt) : List Pt := (endL X p.1 p.2).getD []
theorem end_part {X : List It} (hs : Sound X) {c : List UInt8} (hc : c ∈ codes X) {S : List Pt} (hS : endL X c 1 = some S) {p : Pt} (hp : p ∈ partsX X c) : endL X p.1 p.2 = some (partT X p) := by
  obtain ⟨h1, h2, h3⟩ := hs.parts hc p hp
  have h4 : (endL X p.1 p.2).isSome = true := (end_ok hs h1 h2 (by unfold mostA; omega)).2 fun s => by
    have h5 := (end_ok hs hc (Int.le_refl 1) (by unfold mostA; omega)).1 (by rw [hS]; rfl) s
    rw [leaves_parts hs hc (by intro e; rw [List.length_eq_zero_iff.1 e] at hp; cases hp)] at h5
    have h6 := tot_flat s (fun p => leaves X 8 p.1 p.2) (L := partsX X c) (fun x hx => leaves_nn hs (hs.parts hc x hx).1 (hs.parts hc x hx).2.1) hp
    have h7 : tot s (leaves X 8 p.1 p.2) ≤ tot s (List.flatMap (fun p => leaves X 8 p.1 p.2) (partsX X c)) := h6
    omega
  unfold partT
  cases h : endL X p.1 p.2 with
  | none => rw [h] at h4; cases h4
  | some T => rfl
/-- And put together it is what is in the kit. -/
theorem end_join {X : List It} (hs : Sound X) {c : List UInt8} (hc : c ∈ codes X) (h0 : (partsX X c).length ≠ 0) {S : List Pt} (hS : endL X c 1 = some S) : joinL [] ((partsX X c).flatMap (partT X)) = some S := by
  have hS' := hS
  rw [end_leaves hs hc (Int.le_refl 1) (by unfold mostA; omega), leaves_parts hs hc h0] at hS'
  rw [← hS']
  have hup : ∀ p ∈ partsX X c, Up (partT X p) ∧ (∀ s, sumAt (partT X p) s = tot s (leaves X 8 p.1 p.2)) ∧ ∀ s, s ∈ (partT X p).map (·.1) ↔ s ∈ (leaves X 8 p.1 p.2).map (·.1) := fun p hp => by
    obtain ⟨h1, h2, h3⟩ := hs.parts hc p hp
    exact end_up hs h1 h2 (by unfold mostA; omega) (end_part hs hc hS hp)
  refine joinL_eq (fun k => ?_) (fun k => ?_) ⟨fun _ r hr => ?_, fun _ r hr => ?_⟩
  · exact tot_cong k fun p hp => by rw [(hup p hp).1.tot_eq, (hup p hp).2.1]
  · simp only [List.mem_map, List.mem_flatMap]
    constructor
    · rintro ⟨r, ⟨p, hp, hr⟩, e⟩
      obtain ⟨r', hr', e'⟩ := List.mem_map.1 (((hup p hp).2.2 k).1 (List.mem_map.2 ⟨r, hr, e⟩))
      exact ⟨r', ⟨p, hp, hr'⟩, e'⟩
    · rintro ⟨r, ⟨p, hp, hr⟩, e⟩
      obtain ⟨r', hr', e'⟩ := List.mem_map.1 (((hup p hp).2.2 k).2 (List.mem_map.2 ⟨r, hr, e⟩))
      exact ⟨r', ⟨p, hp, hr'⟩, e'⟩
  · have h9 : (joinL [] (List.flatMap (fun p => leaves X 8 p.1 p.2) (partsX X c))).isSome = true := by rw [hS']; rfl
    exact ((joinL_iff Up.nil).1 h9).1 r hr
  · obtain ⟨p, hp, hr⟩ := List.mem_flatMap.1 hr
    exact (hup p hp).1.2 r hr
theorem tell_kid {X : List It} (hs : Sound X) {c : List UInt8} (hc : c ∈ codes X) {p : List UInt8} (hp : p ∈ kidsX X c) : tellX X p < tellX X c := by
  obtain ⟨k', d', h1, h2⟩ := hgt_kid (hs.hgt8 hc) hp
  have h3 := hgt_one h1 (hs.hgt8 (hs.kids c hc p hp))
  omega
theorem tell_leaf {X : List It} (hs : Sound X) {c : List UInt8} (hc : c ∈ codes X) (h0 : (partsX X c).length = 0) : tellX X c = 1 := by
  have h1 := hs.hgt8 hc
  rw [hgt_succ, kids_parts, List.length_eq_zero_iff.1 h0] at h1
  exact (Option.some.inj h1).symm
theorem within_kid {X : List It} {c p s : List UInt8} (hp : p ∈ kidsX X c) (h : s ∈ withinL X p) : s ∈ withinL X c := by
  rw [mem_within] at h ⊢
  exact ⟨h.1, in_step hp h.2⟩
theorem within_leaf {X : List It} (hs : Sound X) {c : List UInt8} (hc : c ∈ codes X) (h0 : (partsX X c).length = 0) : (withinL X c).length = 1 := by
  have hk : kidsX X c = [] := by rw [kids_parts, List.length_eq_zero_iff.1 h0]; rfl
  have hw : ∀ s, ¬ Way (kidsX X) c s := fun s h => by
    induction h with
    | one hb => rw [hk] at hb; cases hb
    | more _ _ ih => exact ih
  have e : withinL X c = (codes X).filter (fun s => s == c) := by
    unfold withinL inX
    apply List.filter_congr
    intro s _
    rw [Bool.eq_iff_iff, @decide_eq_true_iff _ (Classical.propDecidable _), beq_iff_eq]
    exact ⟨fun h => h.resolve_right (hw s), .inl⟩
  rw [e, ← List.countP_eq_length_filter]
  exact (hs.nd.count (a := c)).trans (if_pos hc)
theorem life_leaf {X : List It} (hs : Sound X) {c : List UInt8} {x : It} (hx : itF X c = some x) (h0 : (partsX X c).length = 0) : 1 ≤ x.life := by
  have hm : c ∈ codes X := by
    obtain h := List.find?_some hx
    have h1 := List.mem_of_find?_eq_some hx
    rw [decide_eq_true_eq] at h
    rw [← h]
    exact List.mem_map.2 ⟨x, h1, rfl⟩
  obtain ⟨i, hi, -, rfl⟩ := there hm
  rw [itF_cd hs.nd hi] at hx
  obtain rfl := Option.some.inj hx
  have hsh := (okIt_parts (hs.ok i hi)).2.2
  unfold partsX at h0
  rw [itF_cd hs.nd hi] at h0
  unfold okShape at hsh
  rw [if_pos h0, decide_eq_true_eq] at hsh
  exact hsh.1
end Go.Proofs.YthlmnoggeggpkaaGreat
