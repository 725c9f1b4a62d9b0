/- What KitEnd asks of what is in an item in the end: plain Lean. The chapter's items. The walk of storemanlaw07.awake. Small lemmas on items and lists in memory. -/
import Derived.Test.YtbedbhlebfnohaaGreatKLeaf
import Derived.Test.YtbedbhlebfnohaaGreatTxA
namespace Go.Proofs.YtbedbhlebfnohaaGreat
open Go.RowKit

theorem tot_nn (s : List UInt8) : ∀ {L : List Pt}, (∀ p ∈ L, 0 ≤ p.2) → 0 ≤ tot s L
  | [], _ => Int.le_refl _
  | p :: L, h => by
    have h1 := tot_nn s fun r hr => h r (List.mem_cons_of_mem p hr)
    have h2 := h p (List.mem_cons_self ..)
    show 0 ≤ (if p.1 = s then p.2 else 0) + tot s L
    split <;> omega
theorem tot_le : ∀ {L : List Pt} {p : Pt}, (∀ p ∈ L, 0 ≤ p.2) → p ∈ L → p.2 ≤ tot p.1 L
  | r :: L, p, h, hp => by
    have hL : ∀ x ∈ L, 0 ≤ x.2 := fun x hx => h x (List.mem_cons_of_mem r hx)
    have h2 := h r (List.mem_cons_self ..)
    show p.2 ≤ (if r.1 = p.1 then r.2 else 0) + tot p.1 L
    rcases List.mem_cons.1 hp with rfl | hp
    · rw [if_pos rfl]
      have := tot_nn p.1 hL
      omega
    · have := tot_le hL hp
      split <;> omega
theorem tot_flat (s : List UInt8) (g : Pt → List Pt) : ∀ {L : List Pt} {p : Pt}, (∀ p ∈ L, ∀ r ∈ g p, 0 ≤ r.2) → p ∈ L → tot s (g p) ≤ tot s (L.flatMap g)
  | r :: L, p, h, hp => by
    have hL : ∀ x ∈ L, ∀ y ∈ g x, 0 ≤ y.2 := fun x hx => h x (List.mem_cons_of_mem r hx)
    rw [List.flatMap_cons, tot_append]
    rcases List.mem_cons.1 hp with rfl | hp
    · have := tot_nn s (L := L.flatMap g) fun y hy => by
        obtain ⟨x, hx, hy⟩ := List.mem_flatMap.1 hy
        exact hL x hx y hy
      omega
    · have := tot_flat s g hL hp
      have := tot_nn s (h r (List.mem_cons_self ..))
      omega
theorem tot_cong (s : List UInt8) {g g' : Pt → List Pt} : ∀ {L : List Pt}, (∀ p ∈ L, tot s (g p) = tot s (g' p)) → tot s (L.flatMap g) = tot s (L.flatMap g')
  | [], _ => rfl
  | p :: L, h => by
    rw [List.flatMap_cons, List.flatMap_cons, tot_append, tot_append, h p (List.mem_cons_self ..), tot_cong s fun r hr => h r (List.mem_cons_of_mem p hr)]
theorem end_leaves {X : List It} (hs : Sound X) {c : List UInt8} (hc : c ∈ codes X) {q : Int} (h1 : 1 ≤ q) (h2 : q ≤ mostA) : endL X c q = joinL [] (leaves X 8 c q) := putL_leaves hs 8 hc (hs.hgt8 hc) h1 h2 Up.nil
theorem leaves_times (X : List It) (c : List UInt8) (q : Int) : leaves X 8 c q = (leaves X 8 c 1).map (scaleP q) := by
  have := leaves_scale (X := X) 8 c q 1
  rwa [Int.mul_one] at this
theorem end_ok {X : List It} (hs : Sound X) {c : List UInt8} (hc : c ∈ codes X) {q : Int} (h1 : 1 ≤ q) (h2 : q ≤ mostA) : (endL X c q).isSome = true ↔ ∀ s, tot s (leaves X 8 c q) ≤ mostA := by
  rw [end_leaves hs hc h1 h2, joinL_iff Up.nil]
  have hz : ∀ s, sumAt [] s = 0 := fun _ => rfl
  have hge := leaves_ge hs 8 hc h1
  constructor
  · rintro ⟨-, h⟩ s
    have := h s
    rw [hz] at this
    omega
  · intro h
    refine ⟨fun p hp => ?_, fun s => by have := h s; rw [hz]; omega⟩
    have e1 := (hge p hp).1
    have e2 := tot_le (fun r hr => by have := (hge r hr).1; omega) hp
    have e3 := h p.1
    unfold mostA at e3
    exact okA_iff.2 (by omega)
theorem leaves_nn {X : List It} (hs : Sound X) {c : List UInt8} (hc : c ∈ codes X) {q : Int} (h1 : 1 ≤ q) : ∀ p ∈ leaves X 8 c q, 0 ≤ p.2 := fun p hp => by
  have := (leaves_ge hs 8 hc h1 p hp).1
  omega
/-- What one is too much for, so many are. -/
theorem end_less {X : List It} (hs : Sound X) {c : List UInt8} (hc : c ∈ codes X) {q : Int} (h1 : 1 ≤ q) (h2 : q ≤ mostA) (h : endL X c 1 = none) : endL X c q = none := by
  cases hq : endL X c q with
  | none => rfl
  | some T =>
    have h3 := (end_ok hs hc h1 h2).1 (by rw [hq]; rfl)
    have h4 : (endL X c 1).isSome = true := (end_ok hs hc (Int.le_refl 1) (by unfold mostA; omega)).2 fun s => by
      have h5 := h3 s
      rw [leaves_times, tot_scale] at h5
      have h6 := tot_nn s (leaves_nn hs hc (Int.le_refl 1))
      have h7 := Int.mul_le_mul_of_nonneg_right h1 h6
      omega
    rw [h] at h4
    cases h4
theorem end_up {X : List It} (hs : Sound X) {c : List UInt8} (hc : c ∈ codes X) {q : Int} (h1 : 1 ≤ q) (h2 : q ≤ mostA) {S : List Pt} (h : endL X c q = some S) : Up S ∧ (∀ s, sumAt S s = tot s (leaves X 8 c q)) ∧ ∀ s, s ∈ S.map (·.1) ↔ s ∈ (leaves X 8 c q).map (·.1) := by
  rw [end_leaves hs hc h1 h2] at h
  refine ⟨joinL_up Up.nil h, fun s => ?_, fun s => ?_⟩
  · rw [joinL_sum Up.nil h s]
    show 0 + _ = _
    omega
  · rw [joinL_keys h s]
    simp
/-- So many are as many times what one is. -/
theorem end_times {X : List It} (hs : Sound X) {c : List UInt8} (hc : c ∈ codes X) {q : Int} (h1 : 1 ≤ q) (h2 : q ≤ mostA) {S T : List Pt} (hS : endL X c 1 = some S) (hT : endL X c q = some T) : T = S.map (scaleP q) := by
  obtain ⟨u1, s1, k1⟩ := end_up hs hc (Int.le_refl 1) (by unfold mostA; omega) hS
  obtain ⟨u2, s2, k2⟩ := end_up hs hc h1 h2 hT
  have hb := (end_ok hs hc h1 h2).1 (by rw [hT]; rfl)
  have hup : Up (S.map (scaleP q)) := by
    refine ⟨?_, fun p hp => ?_⟩
    · rw [List.pairwise_map]
      exact u1.1
    · obtain ⟨r, hr, rfl⟩ := List.mem_map.1 hp
      have e1 := okA_iff.1 (u1.2 r hr)
      have e2 := u1.sum_mem hr
      have e3 := hb r.1
      rw [leaves_times, tot_scale, ← s1, e2] at e3
      have e4 := Int.mul_nonneg (show 0 ≤ q by omega) e1.1
      unfold mostA at e3
      exact okA_iff.2 ⟨e4, e3⟩
  refine Up.ext u2 hup (fun k => ?_) fun k => ?_
  · rw [k2, keys_scale, k1, leaves_times, keys_scale]
  · rw [s2, leaves_times, tot_scale, ← s1, ← hup.tot_eq, tot_scale, u1.tot_eq]
/-- What is in one in the end: kept items, each once or more, all within it. -/
theorem end_mem {X : List It} (hs : Sound X) {c : List UInt8} (hc : c ∈ codes X) {q : Int} (h1 : 1 ≤ q) (h2 : q ≤ mostA) {S : List Pt} (hS : endL X c q = some S) : ∀ p ∈ S, 1 ≤ p.2 ∧ p.1 ∈ codes X ∧ (partsX X p.1).length = 0 ∧ p.1 ∈ withinL X c := fun p hp => by
  obtain ⟨u1, s1, k1⟩ := end_up hs hc h1 h2 hS
  obtain ⟨r, hr, e⟩ := List.mem_map.1 ((k1 p.1).1 (List.mem_map.2 ⟨p, hp, rfl⟩))
  obtain ⟨g1, g2, g3⟩ := leaves_ge hs 8 hc h1 r hr
  have g4 := tot_le (leaves_nn hs hc h1) hr
  have g5 := leaves_in 8 r hr
  rw [e] at g2 g3 g4 g5
  rw [← s1, u1.sum_mem hp] at g4
  exact ⟨by omega, g2, g3, mem_within.2 ⟨g2, g5⟩⟩
theorem leaves_parts' {X : List It} {c : List UInt8} {k d : Nat} (h : hgt (kidsX X) (k + 1) c = some d) (h0 : (partsX X c).length ≠ 0) : leaves X (k + 1) c 1 = (partsX X c).flatMap fun p => leaves X (k + 1) p.1 p.2 := by
  rw [leaves_kit h0]
  have key : ∀ L : List Pt, (∀ p ∈ L, ∃ d', hgt (kidsX X) k p.1 = some d') → L.flatMap (fun p => leaves X k p.1 (1 * p.2)) = L.flatMap (fun p => leaves X (k + 1) p.1 p.2) := fun L => by
    induction L with
    | nil => intro _; rfl
    | cons p L ih =>
      intro hL
      obtain ⟨d', hd'⟩ := hL p (List.mem_cons_self ..)
      rw [List.flatMap_cons, List.flatMap_cons, ih fun r hr => hL r (List.mem_cons_of_mem _ hr), Int.one_mul, leaves_fuel k hd']
  exact key _ (hgt_parts h)
theorem leaves_parts {X : List It} (hs : Sound X) {c : List UInt8} (hc : c ∈ codes X) (h0 : (partsX X c).length ≠ 0) : leaves X 8 c 1 = (partsX X c).flatMap fun p => leaves X 8 p.1 p.2 := leaves_parts' (k := 7) (hs.hgt8 hc) h0
/-- What is in a part in the end. -/
def partT (X : List It) (p : Pt) : List Pt := (endL X p.1 p.2).getD []
theorem end_part {X : List It} (hs : Sound X) {c : List UInt8} (hc : c ∈ codes X) {S : List Pt} (hS : endL X c 1 = some S) {p : Pt} (hp : p ∈ partsX X c) : endL X p.1 p.2 = some (partT X p) := by
  obtain ⟨h1, h2, h3⟩ := hs.parts hc p hp
  have h4 : (endL X p.1 p.2).isSome = true := (end_ok hs h1 h2 (by unfold mostA; omega)).2 fun s => by
    have h5 := (end_ok hs hc (Int.le_refl 1) (by unfold mostA; omega)).1 (by rw [hS]; rfl) s
    rw [leaves_parts hs hc (by intro e; rw [List.length_eq_zero_iff.1 e] at hp; cases hp)] at h5
    have h6 := tot_flat s (fun p => leaves X 8 p.1 p.2) (L := partsX X c) (fun x hx => leaves_nn hs (hs.parts hc x hx).1 (hs.parts hc x hx).2.1) hp
    have h7 : tot s (leaves X 8 p.1 p.2) ≤ tot s (List.flatMap (fun p => leaves X 8 p.1 p.2) (partsX X c)) := h6
    omega
  unfold partT
  cases h : endL X p.1 p.2 with
  | none => rw [h] at h4; cases h4
  | some T => rfl
/-- And put together it is what is in the kit. -/
theorem end_join {X : List It} (hs : Sound X) {c : List UInt8} (hc : c ∈ codes X) (h0 : (partsX X c).length ≠ 0) {S : List Pt} (hS : endL X c 1 = some S) : joinL [] ((partsX X c).flatMap (partT X)) = some S := by
  have hS' := hS
  rw [end_leaves hs hc (Int.le_refl 1) (by unfold mostA; omega), leaves_parts hs hc h0] at hS'
  rw [← hS']
  have hup : ∀ p ∈ partsX X c, Up (partT X p) ∧ (∀ s, sumAt (partT X p) s = tot s (leaves X 8 p.1 p.2)) ∧ ∀ s, s ∈ (partT X p).map (·.1) ↔ s ∈ (leaves X 8 p.1 p.2).map (·.1) := fun p hp => by
    obtain ⟨h1, h2, h3⟩ := hs.parts hc p hp
    exact end_up hs h1 h2 (by unfold mostA; omega) (end_part hs hc hS hp)
  refine joinL_eq (fun k => ?_) (fun k => ?_) ⟨fun _ r hr => ?_, fun _ r hr => ?_⟩
  · exact tot_cong k fun p hp => by rw [(hup p hp).1.tot_eq, (hup p hp).2.1]
  · simp only [List.mem_map, List.mem_flatMap]
    constructor
    · rintro ⟨r, ⟨p, hp, hr⟩, e⟩
      obtain ⟨r', hr', e'⟩ := List.mem_map.1 (((hup p hp).2.2 k).1 (List.mem_map.2 ⟨r, hr, e⟩))
      exact ⟨r', ⟨p, hp, hr'⟩, e'⟩
    · rintro ⟨r, ⟨p, hp, hr⟩, e⟩
      obtain ⟨r', hr', e'⟩ := List.mem_map.1 (((hup p hp).2.2 k).2 (List.mem_map.2 ⟨r, hr, e⟩))
      exact ⟨r', ⟨p, hp, hr'⟩, e'⟩
  · have h9 : (joinL [] (List.flatMap (fun p => leaves X 8 p.1 p.2) (partsX X c))).isSome = true := by rw [hS']; rfl
    exact ((joinL_iff Up.nil).1 h9).1 r hr
  · obtain ⟨p, hp, hr⟩ := List.mem_flatMap.1 hr
    exact (hup p hp).1.2 r hr
theorem tell_kid {X : List It} (hs : Sound X) {c : List UInt8} (hc : c ∈ codes X) {p : List UInt8} (hp : p ∈ kidsX X c) : tellX X p < tellX X c := by
  obtain ⟨k', d', h1, h2⟩ := hgt_kid (hs.hgt8 hc) hp
  have h3 := hgt_one h1 (hs.hgt8 (hs.kids c hc p hp))
  omega
theorem tell_leaf {X : List It} (hs : Sound X) {c : List UInt8} (hc : c ∈ codes X) (h0 : (partsX X c).length = 0) : tellX X c = 1 := by
  have h1 := hs.hgt8 hc
  rw [hgt_succ, kids_parts, List.length_eq_zero_iff.1 h0] at h1
  exact (Option.some.inj h1).symm
theorem within_kid {X : List It} {c p s : List UInt8} (hp : p ∈ kidsX X c) (h : s ∈ withinL X p) : s ∈ withinL X c := by
  rw [mem_within] at h ⊢
  exact ⟨h.1, in_step hp h.2⟩
theorem within_leaf {X : List It} (hs : Sound X) {c : List UInt8} (hc : c ∈ codes X) (h0 : (partsX X c).length = 0) : (withinL X c).length = 1 := by
  have hk : kidsX X c = [] := by rw [kids_parts, List.length_eq_zero_iff.1 h0]; rfl
  have hw : ∀ s, ¬ Way (kidsX X) c s := fun s h => by
    induction h with
    | one hb => rw [hk] at hb; cases hb
    | more _ _ ih => exact ih
  have e : withinL X c = (codes X).filter (fun s => s == c) := by
    unfold withinL inX
    apply List.filter_congr
    intro s _
    rw [Bool.eq_iff_iff, @decide_eq_true_iff _ (Classical.propDecidable _), beq_iff_eq]
    exact ⟨fun h => h.resolve_right (hw s), .inl⟩
  rw [e, ← List.countP_eq_length_filter]
  exact (hs.nd.count (a := c)).trans (if_pos hc)
theorem life_leaf {X : List It} (hs : Sound X) {c : List UInt8} {x : It} (hx : itF X c = some x) (h0 : (partsX X c).length = 0) : 1 ≤ x.life := by
  have hm : c ∈ codes X := by
    obtain h := List.find?_some hx
    have h1 := List.mem_of_find?_eq_some hx
    rw [decide_eq_true_eq] at h
    rw [← h]
    exact List.mem_map.2 ⟨x, h1, rfl⟩
  obtain ⟨i, hi, -, rfl⟩ := there hm
  rw [itF_cd hs.nd hi] at hx
  obtain rfl := Option.some.inj hx
  have hsh := (okIt_parts (hs.ok i hi)).2.2
  unfold partsX at h0
  rw [itF_cd hs.nd hi] at h0
  unfold okShape at hsh
  rw [if_pos h0, decide_eq_true_eq] at hsh
  exact hsh.1
end Go.Proofs.YtbedbhlebfnohaaGreat
namespace Go.Proofs.YtbedbhlebfnohaaGreat
open Go.RowKit

/-- The chapter's items, with parts in blocks g and g + 1. -/
def fourX (g : Nat) : List It := [⟨[65], 5, none, 0, [], none, 0, []⟩, ⟨[66], 9, none, 0, [], none, 0, []⟩, ⟨[75], 0, some ⟨g, 0, none⟩, 2, [([65], 2), ([66], 1)], none, 0, []⟩, ⟨[76], 0, some ⟨g + 1, 0, none⟩, 2, [([75], 3), ([65], 1)], none, 0, []⟩]
def fourL : List It := [⟨[65], 5, none, 0, [], none, 0, []⟩, ⟨[66], 9, none, 0, [], none, 0, []⟩, ⟨[75], 0, none, 0, [([65], 2), ([66], 1)], none, 0, []⟩, ⟨[76], 0, none, 0, [([75], 3), ([65], 1)], none, 0, []⟩]
theorem four_strip (g : Nat) : (fourX g).map strip = fourL := rfl
theorem four_chk : chkE fourL = 0 := by kernel_rfl
theorem four_end : endL fourL [76] 2 = some [([65], 14), ([66], 6)] := by kernel_rfl
theorem four_deep : deepX fourL [76] = 3 := by kernel_rfl
theorem withinL_strip (X : List It) (c : List UInt8) : withinL (X.map strip) c = withinL X c := by
  unfold withinL inX
  rw [codes_strip, kidsX_strip]
theorem four_way (s : List UInt8) : Way (kidsX fourL) [75] s ↔ s = [65] ∨ s = [66] := by
  have k0 : kidsX fourL [75] = [[65], [66]] := by kernel_rfl
  have k1 : kidsX fourL [65] = [] := by kernel_rfl
  have k2 : kidsX fourL [66] = [] := by kernel_rfl
  constructor
  · intro h
    induction h with
    | one hc => rw [k0] at hc; simpa using hc
    | more _ hc ih =>
      rcases ih with rfl | rfl
      · rw [k1] at hc; cases hc
      · rw [k2] at hc; cases hc
  · rintro (rfl | rfl)
    · exact Way.one (by rw [k0]; simp)
    · exact Way.one (by rw [k0]; simp)
theorem four_within : withinL fourL [75] = [[65], [66], [75]] := by
  have e : withinL fourL [75] = (codes fourL).filter (fun s => decide (s = [75] ∨ s = [65] ∨ s = [66])) := by
    unfold withinL inX
    apply List.filter_congr
    intro s _
    rw [Bool.eq_iff_iff]
    constructor
    · intro h
      have h2 := @of_decide_eq_true _ (Classical.propDecidable _) h
      rw [four_way] at h2
      exact decide_eq_true h2
    · intro h
      refine @decide_eq_true _ (Classical.propDecidable _) ?_
      rw [four_way]
      exact of_decide_eq_true h
  rw [e]
  rfl
theorem bad_chk : chkE [⟨[65], 0, none, 0, [], none, 0, []⟩] = 4 := by kernel_rfl
theorem four_no : partsE fourL [90] 2 = 150 := by kernel_rfl
theorem four_yes : partsE fourL [76] 2 = 0 := by kernel_rfl
theorem partsE_strip (X : List It) (c : List UInt8) (q : Int) : partsE (X.map strip) c q = partsE X c q := by
  unfold partsE
  rw [chkE_strip, codes_strip, endL_strip]
theorem rp_none (B : Nat) (w : World) : RP B w none 0 0 [] := ⟨rfl, Nat.le_refl _, Nat.zero_le _, fun p hp => (by cases hp), fun h => absurd h (Nat.lt_irrefl _)⟩
theorem rt_none (B : Nat) (w : World) : RT B w none 0 0 [] := ⟨rfl, Nat.le_refl _, Nat.zero_le _, fun p hp => (by cases hp), fun h => absurd h (Nat.lt_irrefl _)⟩
theorem rp_two {B : Nat} {w : World} {g : Nat} {s t : List UInt8} {p q : Int} {ty : TypeId} (h : w.heap[g]? = some (.cells #[.string ⟨s.toArray⟩, .int .i64 p, .string ⟨t.toArray⟩, .int .i64 q] ty)) (hg : g < B) (hf : Fine [(s, p), (t, q)]) : RP B w (some ⟨g, 0, none⟩) 2 2 [(s, p), (t, q)] := by
  refine ⟨rfl, Nat.le_refl _, by omega, hf, fun _ => ⟨g, 0, rfl, hg, fun i hi => ?_⟩⟩
  rcases (show i = 0 ∨ i = 1 by omega) with rfl | rfl
  · constructor <;> (unfold World.cell?; rw [h]; rfl)
  · constructor <;> (unfold World.cell?; rw [h]; rfl)
end Go.Proofs.YtbedbhlebfnohaaGreat
namespace Go.Proofs.YtbedbhlebfnohaaGreat
open Go.RowKit

theorem chk_four (g : Nat) : chkE (fourX g) = 0 := by rw [← chkE_strip, four_strip, four_chk]
theorem rt_three {B : Nat} {w : World} {g : Nat} {s t u : List UInt8} {ty : TypeId} (h : w.heap[g]? = some (.cells #[.string ⟨s.toArray⟩, .string ⟨t.toArray⟩, .string ⟨u.toArray⟩] ty)) (hg : g < B) (hf : ∀ x ∈ [s, t, u], x.length ≤ 9223372036854775807) : RT B w (some ⟨g, 0, none⟩) 3 3 [s, t, u] := by
  refine ⟨rfl, Nat.le_refl _, by omega, hf, fun _ => ⟨g, 0, rfl, hg, fun i hi => ?_⟩⟩
  rcases (show i = 0 ∨ i = 1 ∨ i = 2 by omega) with rfl | rfl | rfl
  all_goals (unfold World.cell?; rw [h]; rfl)
theorem ri_bad {B : Nat} {w : World} {g : Nat} {ty : TypeId} (h : w.heap[g]? = some (.cells #[.string ⟨#[65]⟩, .int .i64 0, .slice none 0 0, .slice none 0 0] ty)) (hg : g < B) : RI B w (some ⟨g, 0, none⟩) 1 1 [⟨[65], 0, none, 0, [], none, 0, []⟩] := by
  refine ⟨rfl, Nat.le_refl _, by omega, fun x hx => ?_, fun _ => ⟨g, 0, rfl, hg, fun i hi => ?_⟩⟩
  · rw [List.mem_singleton] at hx
    subst hx
    exact ⟨by decide, by decide, by decide, rp_none _ _, rt_none _ _⟩
  · obtain rfl : i = 0 := by omega
    refine ⟨?_, ?_, ?_, ?_⟩ <;> (unfold World.cell?; rw [h]; rfl)
end Go.Proofs.YtbedbhlebfnohaaGreat
namespace Go.Proofs.YtbedbhlebfnohaaGreat
open Go.RowKit

/-- The law's own item, in block g. -/
structure XC (W : World) (g : Nat) (x : It) : Prop where
  at_ : W.heap[g]? = some (.cells #[encStr x.code, .int .i64 x.life, .slice x.pa x.ps.length x.pc, .slice x.oa x.os.length x.oc] 102)
theorem XC.lt {W : World} {g : Nat} {x : It} (h : XC W g x) : g < W.heap.size := (Array.getElem?_eq_some_iff.1 h.at_).1
theorem XC.below {W W' : World} {g : Nat} {x : It} {b : Nat} (h : XC W g x) (hb : Below b W W') (hg : g < b) : XC W' g x := ⟨(hb.block g hg).trans h.at_⟩
theorem XC.cells {W : World} {g : Nat} {x : It} (h : XC W g x) : W.cell? ⟨g, 0, none⟩ = some (encStr x.code) ∧ W.cell? ⟨g, 1, none⟩ = some (.int .i64 x.life) ∧ W.cell? ⟨g, 2, none⟩ = some (.slice x.pa x.ps.length x.pc) := by
  refine ⟨?_, ?_, ?_⟩ <;> (unfold World.cell?; rw [h.at_]; rfl)
theorem parts_ok {X : List It} {c : List UInt8} {q : Int} {S : List Pt} (h0 : chkE X = 0) (hc : c ∈ codes X) (h1 : 1 ≤ q) (h2 : q ≤ mostA) (hS : endL X c q = some S) : partsE X c q = 0 := by
  unfold partsE
  have h3 : okA q = true := by unfold mostA at h2; exact okA_iff.2 (by omega)
  rw [if_neg (by simp [h0]), if_neg (by simp [h1, h3]), if_neg (by simp [hc]), hS]
theorem fine_ps {X : List It} {S : List Pt} (hok : ∀ x ∈ X, x.code.length ≤ 9223372036854775807) (h : PS X S) : Fine S := fun p hp => by
  refine ⟨?_, ?_⟩
  · obtain ⟨y, hy, hye⟩ := List.mem_map.1 (h.sub p hp)
    rw [← hye]; exact hok y hy
  · have := okA_iff.1 (h.up.2 p hp)
    omega
/-- Own texts read. -/
theorem OT.all {base : Nat} {w : World} {v : Value} {L : List (List UInt8)} (h : w.ownsRow base 9 1 v L.length (L.map encStr)) (hf : ∀ t ∈ L, t.length ≤ 9223372036854775807) : ∃ a c, v = .slice a L.length c ∧ RT w.heap.size w a L.length c L := by
  obtain ⟨a, c, rfl, hle, hmx, ha⟩ := Tx.rows_form h
  obtain ⟨h1, ⟨h2, h3⟩ | ⟨g, cap, cur, hv, -⟩⟩ := id h
  · injection h2 with e1 e2 e3
    refine ⟨a, c, rfl, ⟨rfl, hle, hmx, hf, fun hc => by omega⟩⟩
  · injection hv with e1 e2 e3
    subst e1
    have := (OT.rt (show OT base w (.slice (some ⟨g, 0, none⟩) L.length c) L from h) hf L.length (Nat.le_refl _)).1
    rw [List.take_of_length_le (Nat.le_refl _)] at this
    exact ⟨_, c, rfl, this⟩
theorem rt_at {B : Nat} {w : World} {a : Option Addr} {n c : Nat} {T : List (List UInt8)} (h : RT B w a n c T) {i : Nat} (hi : i < n) : ∃ b o, a = some ⟨b, o, none⟩ ∧ w.cell? ⟨b, o + i, none⟩ = some (.string ⟨(T.getD i []).toArray⟩) ∧ T.getD i [] ∈ T := by
  obtain ⟨b, o, e, -, hc⟩ := h.at_ (by have := h.le; omega)
  refine ⟨b, o, e, hc i hi, ?_⟩
  have hl := h.len
  rw [List.getD_eq_getElem?_getD, List.getElem?_eq_getElem (by omega)]
  exact List.getElem_mem _
theorem code_le {X : List It} (h : ∀ x ∈ X, x.code.length ≤ 9223372036854775807) {c : List UInt8} (hc : c ∈ codes X) : c.length ≤ 9223372036854775807 := by
  obtain ⟨x, hx, rfl⟩ := List.mem_map.1 hc
  exact h x hx
end Go.Proofs.YtbedbhlebfnohaaGreat
