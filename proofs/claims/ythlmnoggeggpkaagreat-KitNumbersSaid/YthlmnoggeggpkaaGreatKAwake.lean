/- The chapter's items. The walk of storemanlaw07.awake. -/
import Derived.Test.YthlmnoggeggpkaaGreatKGreat
namespace Go.Proofs.YthlmnoggeggpkaaGreat
open Go.RowKit

/-- The chapter's items, with parts in blocks g and g + 1. -/
def fourX (g : Nat) : List It := [⟨[65], 5, none, 0, [], none, 0, []⟩, ⟨[66], 9, none, 0, [], none, 0, []⟩, ⟨[75], 0, some ⟨g, 0, none⟩, 2, [([65], 2), ([66], 1)], none, 0, []⟩, ⟨[76], 0, some ⟨g + 1, 0, none⟩, 2, [([75], 3), ([65], 1)], none, 0, []⟩]
def fourL : List It := [⟨[65], 5, none, 0, [], none, 0, []⟩, ⟨[66], 9, none, 0, [], none, 0, []⟩, ⟨[75], 0, none, 0, [([65], 2), ([66], 1)], none, 0, []⟩, ⟨[76], 0, none, 0, [([75], 3), ([65], 1)], none, 0, []⟩]
theorem four_strip (g : Nat) : (fourX g).map strip = fourL := rfl
theorem four_chk : chkE fourL = 0 := by kernel_rfl
theorem four_end : endL fourL [76] 2 = some [([65], 14), ([66], 6)] := by kernel_rfl
theorem four_deep : deepX fourL [76] = 3 := by kernel_rfl
theorem withinL_strip (X : List It) (c : List UInt8) : withinL (X.map strip) c = withinL X c := by
  unfold withinL inX
  rw [codes_strip, kidsX_strip]
theorem four_way (s : List UInt8) : Way (kidsX fourL) [75] s ↔ s = [65] ∨ s = [66] := by
  have k0 : kidsX fourL [75] = [[65], [66]] := by kernel_rfl
  have k1 : kidsX fourL [65] = [] := by kernel_rfl
  have k2 : kidsX fourL [66] = [] := by kernel_rfl
  constructor
  · intro h
    induction h with
    | one hc => rw [k0] at hc; simpa using hc
    | more _ hc ih =>
      rcases ih with rfl | rfl
      · rw [k1] at hc; cases hc
      · rw [k2] at hc; cases hc
  · rintro (rfl | rfl)
    · exact Way.one (by rw [k0]; simp)
    · exact Way.one (by rw [k0]; simp)
theorem four_within : withinL fourL [75] = [[65], [66], [75]] := by
  have e : withinL fourL [75] = (codes fourL).filter (fun s => decide (s = [75] ∨ s = [65] ∨ s = [66])) := by
    unfold withinL inX
    apply List.filter_congr
    intro s _
    rw [Bool.eq_iff_iff]
    constructor
    · intro h
      have h2 := @of_decide_eq_true _ (Classical.propDecidable _) h
      rw [four_way] at h2
      exact decide_eq_true h2
    · intro h
      refine @decide_eq_true _ (Classical.propDecidable _) ?_
      rw [four_way]
      exact of_decide_eq_true h
  rw [e]
  rfl
theorem bad_chk : chkE [⟨[65], 0, none, 0, [], none, 0, []⟩] = 4 := by kernel_rfl
theorem four_no : partsE fourL [90] 2 = 150 := by kernel_rfl
theorem four_yes : partsE fourL [76] 2 = 0 := by kernel_rfl
theorem partsE_strip (X : List It) (c : List UInt8) (q : Int) : partsE (X.map strip) c q = partsE X c q := by
  unfold partsE
  rw [chkE_strip, codes_strip, endL_strip]
theorem rp_none (B : Nat) (w : World) : RP B w none 0 0 [] := ⟨rfl, Nat.le_refl _, Nat.zero_le _, fun p hp => (by cases hp), fun h => absurd h (Nat.lt_irrefl _)⟩
theorem rt_none (B : Nat) (w : World) : RT B w none 0 0 [] := ⟨rfl, Nat.le_refl _, Nat.zero_le _, fun p hp => (by cases hp), fun h => absurd h (Nat.lt_irrefl _)⟩
theorem rp_two {B : Nat} {w : World} {g : Nat} {s t : List UInt8} {p q : Int} {ty : TypeId} (h : w.heap[g]? = some (.cells #[.string ⟨s.toArray⟩, .int .i64 p, .string ⟨t.toArray⟩, .int .i64 q] ty)) (hg : g < B) (hf : Fine [(s, p), (t, q)]) : RP B w (some ⟨g, 0, none⟩) 2 2 [(s, p), (t, q)] := by
  refine ⟨rfl, Nat.le_refl _, by omega, hf, fun _ => ⟨g, 0, rfl, hg, fun i hi => ?_⟩⟩
  rcases (show i = 0 ∨ i = 1 by omega) with rfl | rfl
  · constructor <;> (unfold World.cell?; rw [h]; rfl)
  · constructor <;> (unfold World.cell?; rw [h]; rfl)
set_option maxHeartbeats 4000000 in
set_option maxRecDepth 100000 in
theorem four_any (w : World) :
    Calls Tryz.prog 23 #[] w fun e w' => e = .returned (.slice (some ⟨w.heap.size + 1 + 1, 0, none⟩) 4 4) ∧ RI w'.heap.size w' (some ⟨w.heap.size + 1 + 1, 0, none⟩) 4 4 (fourX w.heap.size) ∧ Below w.heap.size w w' := by
  go_enter Tryz.func23, Tryz.ntmps23
  go_wp2_with (fail)
  go_ret
  refine ⟨rfl, ?_⟩
  obtain ⟨W1, h1⟩ : ∃ W, W = w.alloc (.cells #[.string ⟨#[65]⟩, .int .i64 2, .string ⟨#[66]⟩, .int .i64 1] 45) := ⟨_, rfl⟩
  have s1 : W1.heap.size = w.heap.size + 1 := by rw [h1, World.size_alloc]
  have a1 : W1.heap[w.heap.size]? = some (.cells #[.string ⟨#[65]⟩, .int .i64 2, .string ⟨#[66]⟩, .int .i64 1] 45) := by rw [h1]; exact heap_alloc_new _ _
  have b1 : Below w.heap.size w W1 := by rw [h1]; exact (Below.refl _ w).alloc (Nat.le_refl _) _
  rw [← h1]
  obtain ⟨W2, h2⟩ : ∃ W, W = W1.alloc (.cells #[.string ⟨#[75]⟩, .int .i64 3, .string ⟨#[65]⟩, .int .i64 1] 45) := ⟨_, rfl⟩
  have s2 : W2.heap.size = w.heap.size + 1 + 1 := by rw [h2, World.size_alloc, s1]
  have a2 : W2.heap[w.heap.size + 1]? = some (.cells #[.string ⟨#[75]⟩, .int .i64 3, .string ⟨#[65]⟩, .int .i64 1] 45) := by rw [h2, ← s1]; exact heap_alloc_new _ _
  have b2 : Below W1.heap.size W1 W2 := by rw [h2]; exact (Below.refl _ W1).alloc (Nat.le_refl _) _
  rw [← h2]
  obtain ⟨W3, h3⟩ : ∃ W, W = W2.alloc (.cells #[.string ⟨#[65]⟩, .int .i64 5, .slice none 0 0, .slice none 0 0, .string ⟨#[66]⟩, .int .i64 9, .slice none 0 0, .slice none 0 0, .string ⟨#[75]⟩, .int .i64 0, .slice (some ⟨w.heap.size, 0, none⟩) 2 2, .slice none 0 0, .string ⟨#[76]⟩, .int .i64 0, .slice (some ⟨w.heap.size + 1, 0, none⟩) 2 2, .slice none 0 0] 43) := ⟨_, rfl⟩
  have s3 : W3.heap.size = w.heap.size + 1 + 1 + 1 := by rw [h3, World.size_alloc, s2]
  have a3 : W3.heap[w.heap.size + 1 + 1]? = some (.cells #[.string ⟨#[65]⟩, .int .i64 5, .slice none 0 0, .slice none 0 0, .string ⟨#[66]⟩, .int .i64 9, .slice none 0 0, .slice none 0 0, .string ⟨#[75]⟩, .int .i64 0, .slice (some ⟨w.heap.size, 0, none⟩) 2 2, .slice none 0 0, .string ⟨#[76]⟩, .int .i64 0, .slice (some ⟨w.heap.size + 1, 0, none⟩) 2 2, .slice none 0 0] 43) := by rw [h3, ← s2]; exact heap_alloc_new _ _
  have b3 : Below W2.heap.size W2 W3 := by rw [h3]; exact (Below.refl _ W2).alloc (Nat.le_refl _) _
  rw [← h3]
  have c1 := (b3.block w.heap.size (by omega)).trans ((b2.block w.heap.size (by omega)).trans a1)
  have c2 := (b3.block (w.heap.size + 1) (by omega)).trans a2
  have f1 : Fine [([65], 2), ([66], 1)] := fun p hp => by
    simp at hp
    rcases hp with rfl | rfl <;> decide
  have f2 : Fine [([75], 3), ([65], 1)] := fun p hp => by
    simp at hp
    rcases hp with rfl | rfl <;> decide
  have g1 := rp_two (B := W3.heap.size) (s := [65]) (t := [66]) c1 (by omega) f1
  have g2 := rp_two (B := W3.heap.size) (s := [75]) (t := [65]) c2 (by omega) f2
  refine ⟨⟨rfl, Nat.le_refl _, by omega, fun x hx => ?_, fun _ => ⟨w.heap.size + 1 + 1, 0, rfl, by omega, fun i hi => ?_⟩⟩, b1.trans ((b2.mono (by omega)).trans (b3.mono (by omega)))⟩
  · unfold fourX at hx
    simp only [List.mem_cons, List.not_mem_nil, or_false] at hx
    rcases hx with rfl | rfl | rfl | rfl
    · exact ⟨by decide, by decide, by decide, rp_none _ _, rt_none _ _⟩
    · exact ⟨by decide, by decide, by decide, rp_none _ _, rt_none _ _⟩
    · exact ⟨(show (1 : Nat) ≤ 9223372036854775807 by decide), (show (-9223372036854775808 : Int) ≤ 0 by decide), (show (0 : Int) ≤ 9223372036854775807 by decide), g1, rt_none _ _⟩
    · exact ⟨(show (1 : Nat) ≤ 9223372036854775807 by decide), (show (-9223372036854775808 : Int) ≤ 0 by decide), (show (0 : Int) ≤ 9223372036854775807 by decide), g2, rt_none _ _⟩
  · rcases (show i = 0 ∨ i = 1 ∨ i = 2 ∨ i = 3 by omega) with rfl | rfl | rfl | rfl
    all_goals (refine ⟨?_, ?_, ?_, ?_⟩ <;> (unfold World.cell?; rw [a3]; rfl))
end Go.Proofs.YthlmnoggeggpkaaGreat
namespace Go.Proofs.YthlmnoggeggpkaaGreat
open Go.RowKit

theorem chk_four (g : Nat) : chkE (fourX g) = 0 := by rw [← chkE_strip, four_strip, four_chk]
theorem rt_three {B : Nat} {w : World} {g : Nat} {s t u : List UInt8} {ty : TypeId} (h : w.heap[g]? = some (.cells #[.string ⟨s.toArray⟩, .string ⟨t.toArray⟩, .string ⟨u.toArray⟩] ty)) (hg : g < B) (hf : ∀ x ∈ [s, t, u], x.length ≤ 9223372036854775807) : RT B w (some ⟨g, 0, none⟩) 3 3 [s, t, u] := by
  refine ⟨rfl, Nat.le_refl _, by omega, hf, fun _ => ⟨g, 0, rfl, hg, fun i hi => ?_⟩⟩
  rcases (show i = 0 ∨ i = 1 ∨ i = 2 by omega) with rfl | rfl | rfl
  all_goals (unfold World.cell?; rw [h]; rfl)
theorem ri_bad {B : Nat} {w : World} {g : Nat} {ty : TypeId} (h : w.heap[g]? = some (.cells #[.string ⟨#[65]⟩, .int .i64 0, .slice none 0 0, .slice none 0 0] ty)) (hg : g < B) : RI B w (some ⟨g, 0, none⟩) 1 1 [⟨[65], 0, none, 0, [], none, 0, []⟩] := by
  refine ⟨rfl, Nat.le_refl _, by omega, fun x hx => ?_, fun _ => ⟨g, 0, rfl, hg, fun i hi => ?_⟩⟩
  · rw [List.mem_singleton] at hx
    subst hx
    exact ⟨by decide, by decide, by decide, rp_none _ _, rt_none _ _⟩
  · obtain rfl : i = 0 := by omega
    refine ⟨?_, ?_, ?_, ?_⟩ <;> (unfold World.cell?; rw [h]; rfl)
set_option maxHeartbeats 4000000 in
set_option maxRecDepth 100000 in
theorem awake_any (w : World) :
    Calls Tryz.prog 6 #[] w fun e w' => e = .returned (.bool true) ∧ Below w.heap.size w w' := by
  go_enter Tryz.func6, Tryz.ntmps6
  go_wp2_with (fail)
  go_at_call 23
  refine (four_any _).mono ?_
  rintro e W1 ⟨rfl, hr1, hb1⟩
  go_wp2_with (fail)
  go_at_call 8
  have hp1 := Parts_any _ _ _ _ _ [76] 2 W1 hr1 (Nat.le_refl _) (by decide) (by decide) (by decide)
  rw [← partsE_strip, ← endL_strip, four_strip, four_yes, four_end] at hp1
  refine hp1.mono ?_
  rintro e W2 ⟨hb2, v, rfl, -, hv⟩
  obtain ⟨pa, pc, S, rfl, hS, -, hop⟩ := hv rfl
  obtain rfl := Option.some.inj hS
  have hB2 := hb1.trans (hb2.mono hb1.size)
  clear hS hp1 hr1
  go_wp2_with (fail)
  go_at_call 23
  refine (four_any _).mono ?_
  rintro e W3 ⟨rfl, hr3, hb3⟩
  go_wp2_with (fail)
  go_at_call 8
  have hp3 := Parts_any _ _ _ _ _ [90] 2 W3 hr3 (Nat.le_refl _) (by decide) (by decide) (by decide)
  rw [← partsE_strip, four_strip, four_no] at hp3
  refine hp3.mono ?_
  rintro e W4 ⟨hb4, v, rfl, hv, -⟩
  obtain rfl := hv (by decide)
  have hB3 := hB2.trans (hb3.mono hB2.size)
  have hB4 := hB3.trans (hb4.mono hB3.size)
  have hop4 := (hop.below hb3).below hb4
  clear hp3 hr3 hb3 hb4 hop hb1 hb2 hv hB2 hB3
  have hfp : Fine [([65], 14), ([66], 6)] := fun p hp => by
    simp at hp
    rcases hp with rfl | rfl <;> decide
  have hrp4 := hop4.rp2 hfp
  obtain ⟨W5, hW5⟩ : ∃ W, W = W4.alloc (.cells #[.string ⟨#[65]⟩, .int .i64 14, .string ⟨#[66]⟩, .int .i64 6] 45) := ⟨_, rfl⟩
  have hb5 : Below W4.heap.size W4 W5 := by rw [hW5]; exact (Below.refl _ W4).alloc (Nat.le_refl _) _
  have hs5 : W5.heap.size = W4.heap.size + 1 := by rw [hW5, World.size_alloc]
  have a5 : W5.heap[W4.heap.size]? = some (.cells #[.string ⟨#[65]⟩, .int .i64 14, .string ⟨#[66]⟩, .int .i64 6] 45) := by rw [hW5]; exact heap_alloc_new _ _
  have hsp := SameParts_any W5.heap.size pa (some ⟨W4.heap.size, 0, none⟩) 2 2 pc 2 _ _ W5 ((hrp4.below hb5).mono hb5.size) (rp_two (B := W5.heap.size) (s := [65]) (t := [66]) a5 (by omega) hfp)
  rw [decide_eq_true (rfl : ([([65], 14), ([66], 6)] : List Pt) = [([65], 14), ([66], 6)])] at hsp
  have hB5 := hB4.trans (hb5.mono hB4.size)
  clear hop4 hrp4 hfp a5 hs5 hb5
  go_wp2_with (fail)
  go_at_call 14
  rw [← hW5]
  refine hsp.mono ?_
  rintro e W6 ⟨rfl, q, rfl⟩
  have hB6 := below_dn hB5 q
  clear hsp hW5 hB4 hB5
  generalize W5.drewN q = W6 at hB6 ⊢
  go_wp2_with (fail)
  go_at_call 23
  refine (four_any _).mono ?_
  rintro e W7 ⟨rfl, hr7, hb7⟩
  go_wp2_with (fail)
  go_at_call 10
  have hd7 := Deep_any _ _ _ _ _ [76] W7 hr7 (Nat.le_refl _) (by decide)
  rw [← deepX_strip, four_strip, four_deep] at hd7
  refine hd7.mono ?_
  rintro e W8 ⟨rfl, hb8⟩
  have hB7 := hB6.trans (hb7.mono hB6.size)
  have hB8 := hB7.trans (hb8.mono hB7.size)
  clear hd7 hr7 hb7 hb8 hB6 hB7
  go_wp2_with (fail)
  go_at_call 23
  refine (four_any _).mono ?_
  rintro e W9 ⟨rfl, hr9, hb9⟩
  have hB9 := hB8.trans (hb9.mono hB8.size)
  go_wp2_with (fail)
  go_at_call 9
  have hw9 := Within_any _ _ _ _ _ [75] W9 hr9 (Nat.le_refl _) (by decide)
  rw [chk_four, ← withinL_strip, ← codes_strip, four_strip, four_within] at hw9
  refine hw9.mono ?_
  rintro e W10 ⟨hb10, v, rfl, -, hv⟩
  have hot := hv rfl (by decide)
  have hB10 := hB9.trans (hb10.mono hB9.size)
  clear hv hw9 hr9 hb9 hB8 hB9
  have hot2 : OT W9.heap.size W10 v [[65], [66], [75]] := hot
  have hvn : v ≠ .slice none 0 0 := by
    rintro rfl
    obtain ⟨-, ⟨-, h0⟩ | ⟨g, cap, cur, h1, -⟩⟩ := hot2
    · exact absurd h0 (by decide)
    · cases h1
  obtain ⟨vg, vc, hvv, -, -⟩ := hot2.form hvn
  have hvv3 : v = .slice (some ⟨vg, 0, none⟩) 3 vc := hvv
  clear hvv
  subst hvv3
  have hft : ∀ x ∈ ([[65], [66], [75]] : List (List UInt8)), x.length ≤ 9223372036854775807 := fun x hx => by
    simp at hx
    rcases hx with rfl | rfl | rfl <;> decide
  have hrt : RT W10.heap.size W10 (some ⟨vg, 0, none⟩) 3 vc [[65], [66], [75]] := (hot2.rt hft 3 (Nat.le_refl _)).1
  obtain ⟨W11, hW11⟩ : ∃ W, W = W10.alloc (.cells #[.string ⟨#[65]⟩, .string ⟨#[66]⟩, .string ⟨#[75]⟩] 9) := ⟨_, rfl⟩
  have hb11 : Below W10.heap.size W10 W11 := by rw [hW11]; exact (Below.refl _ W10).alloc (Nat.le_refl _) _
  have hs11 : W11.heap.size = W10.heap.size + 1 := by rw [hW11, World.size_alloc]
  have a11 : W11.heap[W10.heap.size]? = some (.cells #[.string ⟨#[65]⟩, .string ⟨#[66]⟩, .string ⟨#[75]⟩] 9) := by rw [hW11]; exact heap_alloc_new _ _
  have hst := SameTexts_any W11.heap.size (some ⟨vg, 0, none⟩) (some ⟨W10.heap.size, 0, none⟩) 3 3 vc 3 _ _ W11 ((hrt.below hb11).mono hb11.size) (rt_three (B := W11.heap.size) (s := [65]) (t := [66]) (u := [75]) a11 (by omega) hft)
  rw [decide_eq_true (rfl : ([[65], [66], [75]] : List (List UInt8)) = [[65], [66], [75]])] at hst
  have hB11 := hB10.trans (hb11.mono hB10.size)
  clear hot hot2 hvn hft hrt a11 hs11 hb11
  go_wp2_with (fail)
  go_at_call 15
  rw [← hW11]
  refine hst.mono ?_
  rintro e W12 ⟨rfl, q, rfl⟩
  have hB12 := below_dn hB11 q
  clear hst hW11 hB10 hB11
  generalize W11.drewN q = W12 at hB12 ⊢
  go_wp2_with (fail)
  go_at_call 23
  refine (four_any _).mono ?_
  rintro e W13 ⟨rfl, hr13, hb13⟩
  have hB13 := hB12.trans (hb13.mono hB12.size)
  go_wp2_with (fail)
  go_at_call 21
  have hc13 := Check_any _ _ _ _ _ W13 hr13 (Nat.le_refl _)
  rw [chk_four] at hc13
  refine hc13.mono ?_
  rintro e W14 ⟨rfl, hb14⟩
  have hB14 := hB13.trans (hb14.mono hB13.size)
  clear hc13 hr13 hb13 hb14 hB12 hB13
  go_wp2_with (fail)
  go_at_call 21
  obtain ⟨W15, hW15⟩ : ∃ W, W = W14.alloc (.cells #[.string ⟨#[65]⟩, .int .i64 0, .slice none 0 0, .slice none 0 0] 43) := ⟨_, rfl⟩
  rw [← hW15]
  have hb15 : Below W14.heap.size W14 W15 := by rw [hW15]; exact (Below.refl _ W14).alloc (Nat.le_refl _) _
  have hs15 : W15.heap.size = W14.heap.size + 1 := by rw [hW15, World.size_alloc]
  have a15 : W15.heap[W14.heap.size]? = some (.cells #[.string ⟨#[65]⟩, .int .i64 0, .slice none 0 0, .slice none 0 0] 43) := by rw [hW15]; exact heap_alloc_new _ _
  have hc15 := Check_any _ _ _ _ _ W15 (ri_bad (B := W15.heap.size) a15 (by omega)) (Nat.le_refl _)
  rw [bad_chk] at hc15
  refine hc15.mono ?_
  rintro e W16 ⟨rfl, hb16⟩
  have hB15 := hB14.trans (hb15.mono hB14.size)
  have hB16 := hB15.trans (hb16.mono hB15.size)
  clear hc15 hW15 hb15 hs15 a15 hb16 hB14 hB15
  go_wp2_with (fail)
  go_ret
  exact ⟨rfl, hB16⟩
end Go.Proofs.YthlmnoggeggpkaaGreat
