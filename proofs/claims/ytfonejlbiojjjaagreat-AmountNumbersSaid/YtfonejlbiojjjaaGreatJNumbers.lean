/- The walk of the law AmountNumbers: a closed statement. -/
import Derived.Test.YtfonejlbiojjjaaGreatJJoins
import Derived.Test.YtfonejlbiojjjaaGreatJSums
import Derived.Test.YtfonejlbiojjjaaGreatJTwo
namespace Go.Proofs.YtfonejlbiojjjaaGreat
open Go.RowKit

theorem RL.lit (W : World) (L : List Int) (t : TypeId) (hf : ∀ x ∈ L, -9223372036854775808 ≤ x ∧ x ≤ 9223372036854775807) (hn : L.length ≤ 1048576) : RL (W.heap.size + 1) (W.alloc (.cells (L.map (Value.int .i64)).toArray t)) (some ⟨W.heap.size, 0, none⟩) L.length L.length L := by
  refine ⟨rfl, Nat.le_refl _, by omega, hf, fun _ => ⟨W.heap.size, 0, rfl, by omega, fun i hi => ?_⟩⟩
  simp only [World.cell?, (Go.MapKept.heap_alloc W _).1]
  simp [List.getD_eq_getElem?_getD, List.getElem?_eq_getElem hi]
/-- The numbers at their ends. -/
def ends : List Int := [-9223372036854775808, -1125899906842624, -1, 0, 1, 2, 3, 33554432, 33554433, 375299968947541, 375299968947542, 1125899906842623, 1125899906842624, 1125899906842625, 4611686018427387904, 9223372036854775807]
theorem ends_in : ∀ x ∈ ends, -9223372036854775808 ≤ x ∧ x ≤ 9223372036854775807 := by decide
theorem sums_three (x y : Int) (W : World) (hx : -9223372036854775808 ≤ x ∧ x ≤ 9223372036854775807) (hy : -9223372036854775808 ≤ y ∧ y ≤ 9223372036854775807) :
    Calls Tryz.prog 15 #[.slice (some ⟨W.heap.size, 0, none⟩) 3 3] (W.alloc (.cells #[.int .i64 x, .int .i64 y, .int .i64 1] 2)) fun e w' => e = .returned (.bool true) ∧ Below W.heap.size W w' := by
  have h := RL.lit W [x, y, 1] 2 (by intro z hz; simp at hz; rcases hz with rfl | rfl | rfl <;> omega) (by simp)
  have e : ([x, y, 1].map (Value.int .i64)).toArray = #[.int .i64 x, .int .i64 y, .int .i64 1] := rfl
  rw [e] at h
  have hs : (W.alloc (.cells #[.int .i64 x, .int .i64 y, .int .i64 1] 2)).heap.size = W.heap.size + 1 := World.size_alloc _ _
  exact (Sums_any _ _ _ _ _ (by rw [hs]; exact h)).mono fun e w' ⟨he, hb⟩ => ⟨he, ((Below.refl W.heap.size W).alloc (Nat.le_refl _) _).trans (hb.mono (by rw [World.size_alloc]; omega))⟩
theorem fine_two {x y : Int} (hx : -9223372036854775808 ≤ x ∧ x ≤ 9223372036854775807) (hy : -9223372036854775808 ≤ y ∧ y ≤ 9223372036854775807) : Fine [(tA, x)] ∧ Fine [(tA, y), ([], 0)] :=
  ⟨by intro p hp; simp at hp; subst hp; simp [tA]; omega, by intro p hp; simp at hp; rcases hp with rfl | rfl <;> simp [tA] ; omega⟩
theorem joins_two (x y : Int) (W : World) (hx : -9223372036854775808 ≤ x ∧ x ≤ 9223372036854775807) (hy : -9223372036854775808 ≤ y ∧ y ≤ 9223372036854775807) :
    Calls Tryz.prog 3 #[.slice (some ⟨W.heap.size, 0, none⟩) 1 1, .slice none 0 0, .slice (some ⟨W.heap.size + 1, 0, none⟩) 2 2]
      ((W.alloc (.cells #[.string ⟨#[65]⟩, .int .i64 x] 38)).alloc (.cells #[.string ⟨#[65]⟩, .int .i64 y, .string ⟨#[]⟩, .int .i64 0] 38)) fun e w' => e = .returned (.bool true) ∧ Below W.heap.size W w' := by
  obtain ⟨f1, f2⟩ := fine_two hx hy
  have r1 := RP.lit W [(tA, x)] 38 f1 (by simp)
  have r2 := RP.lit (W.alloc (.cells #[.string ⟨#[65]⟩, .int .i64 x] 38)) [(tA, y), ([], 0)] 38 f2 (by simp)
  have e1 : (cellsP [(tA, x)]).toArray = #[.string ⟨#[65]⟩, .int .i64 x] := rfl
  have e2 : (cellsP [(tA, y), ([], 0)]).toArray = #[.string ⟨#[65]⟩, .int .i64 y, .string ⟨#[]⟩, .int .i64 0] := rfl
  rw [e1] at r1
  rw [e2, World.size_alloc] at r2
  have r1' := r1.below (w' := (W.alloc (.cells #[.string ⟨#[65]⟩, .int .i64 x] 38)).alloc (.cells #[.string ⟨#[65]⟩, .int .i64 y, .string ⟨#[]⟩, .int .i64 0] 38)) ((Below.refl _ _).alloc (by rw [World.size_alloc]; exact Nat.le_refl _) _)
  have hs : ((W.alloc (.cells #[.string ⟨#[65]⟩, .int .i64 x] 38)).alloc (.cells #[.string ⟨#[65]⟩, .int .i64 y, .string ⟨#[]⟩, .int .i64 0] 38)).heap.size = W.heap.size + 1 + 1 := by rw [World.size_alloc, World.size_alloc]
  refine (Joins_any _ _ _ _ _ _ _ _ _ _ [] _ _ (r1'.mono (by rw [hs]; omega)) (RP.nil _ _) (r2.mono (by rw [hs]; omega)) (by simp) (by omega) (by simp) ?_ (fun p hp => by cases hp) ?_).mono fun e w' ⟨he, hb⟩ => ⟨he, (((Below.refl W.heap.size W).alloc (Nat.le_refl _) _).alloc (by rw [World.size_alloc]; omega) _).trans (hb.mono (by rw [hs]; omega))⟩
  · intro p hp; simp at hp; subst hp; simp [tA]
  · intro p hp; simp at hp; rcases hp with rfl | rfl <;> simp [tA]
theorem joins_two' (x y : Int) (W : World) (hx : -9223372036854775808 ≤ x ∧ x ≤ 9223372036854775807) (hy : -9223372036854775808 ≤ y ∧ y ≤ 9223372036854775807) :
    Calls Tryz.prog 3 #[.slice (some ⟨W.heap.size + 1, 0, none⟩) 1 1, .slice none 0 0, .slice (some ⟨W.heap.size, 0, none⟩) 2 2]
      ((W.alloc (.cells #[.string ⟨#[65]⟩, .int .i64 y, .string ⟨#[]⟩, .int .i64 0] 38)).alloc (.cells #[.string ⟨#[65]⟩, .int .i64 x] 38)) fun e w' => e = .returned (.bool true) ∧ Below W.heap.size W w' := by
  obtain ⟨f1, f2⟩ := fine_two hx hy
  have r1 := RP.lit W [(tA, y), ([], 0)] 38 f2 (by simp)
  have r2 := RP.lit (W.alloc (.cells #[.string ⟨#[65]⟩, .int .i64 y, .string ⟨#[]⟩, .int .i64 0] 38)) [(tA, x)] 38 f1 (by simp)
  have e1 : (cellsP [(tA, x)]).toArray = #[.string ⟨#[65]⟩, .int .i64 x] := rfl
  have e2 : (cellsP [(tA, y), ([], 0)]).toArray = #[.string ⟨#[65]⟩, .int .i64 y, .string ⟨#[]⟩, .int .i64 0] := rfl
  rw [e2] at r1
  rw [e1, World.size_alloc] at r2
  have r1' := r1.below (w' := (W.alloc (.cells #[.string ⟨#[65]⟩, .int .i64 y, .string ⟨#[]⟩, .int .i64 0] 38)).alloc (.cells #[.string ⟨#[65]⟩, .int .i64 x] 38)) ((Below.refl _ _).alloc (by rw [World.size_alloc]; exact Nat.le_refl _) _)
  have hs : ((W.alloc (.cells #[.string ⟨#[65]⟩, .int .i64 y, .string ⟨#[]⟩, .int .i64 0] 38)).alloc (.cells #[.string ⟨#[65]⟩, .int .i64 x] 38)).heap.size = W.heap.size + 1 + 1 := by rw [World.size_alloc, World.size_alloc]
  refine (Joins_any _ _ _ _ _ _ _ _ _ _ [] _ _ (r2.mono (by rw [hs]; omega)) (RP.nil _ _) (r1'.mono (by rw [hs]; omega)) (by simp) (by omega) (by simp) ?_ (fun p hp => by cases hp) ?_).mono fun e w' ⟨he, hb⟩ => ⟨he, (((Below.refl W.heap.size W).alloc (Nat.le_refl _) _).alloc (by rw [World.size_alloc]; omega) _).trans (hb.mono (by rw [hs]; omega))⟩
  · intro p hp; simp at hp; subst hp; simp [tA]
  · intro p hp; simp at hp; rcases hp with rfl | rfl <;> simp [tA]

theorem times_top (W : World) : Calls Tryz.prog 16 #[.int .i64 375299968947541, .int .i64 3] W fun e w' => e = .returned (.tuple #[.int .i64 1125899906842623, .bool true]) ∧ W = w' := by
  have h := Times_any 375299968947541 3 W
  rw [show timesA 375299968947541 3 = some 1125899906842623 by decide] at h
  exact h
theorem times_over (W : World) : Calls Tryz.prog 16 #[.int .i64 375299968947542, .int .i64 3] W fun e w' => e = .returned (.tuple #[.int .i64 0, .bool false]) ∧ W = w' := by
  have h := Times_any 375299968947542 3 W
  rw [show timesA 375299968947542 3 = none by decide] at h
  exact h
theorem sum_none (W : World) : Calls Tryz.prog 17 #[.slice none 0 0] W fun e w' => e = .returned (.tuple #[.int .i64 0, .bool true]) ∧ W = w' :=
  Sum_any 0 none 0 0 [] W ⟨rfl, Nat.le_refl _, by omega, (fun x hx => by cases hx), fun h => by omega⟩
theorem join_none (W : World) : Calls Tryz.prog 8 #[.slice none 0 0] W fun e w' => (∃ a' c', e = .returned (.tuple #[.slice a' 0 c', .bool true])) ∧ Below W.heap.size W w' :=
  (Join_any (H := Unit) 0 none 0 0 [] W ⟨rfl, Nat.le_refl _, by omega, (fun h => by omega), fun i hi => by omega⟩ (Nat.zero_le _) (by simp [flatV])).mono fun e w' h => by
    obtain ⟨h1, a', c', he, -⟩ := h
    exact ⟨⟨a', c', he⟩, h1⟩

set_option maxHeartbeats 8000000 in
set_option maxRecDepth 100000 in
theorem Numbers_any (w : World) : Calls Tryz.prog 4 #[] w fun e w' => e = .returned (.bool true) ∧ Below w.heap.size w w' := by
  obtain ⟨lb, hlb⟩ : ∃ z, z = w.heap.size := ⟨_, rfl⟩
  have Hlb := Lib.hid hlb
  have HE : RL (lb + 1) (w.alloc (.cells (ends.map (Value.int .i64)).toArray 2)) (some ⟨lb, 0, none⟩) 16 16 ends := by rw [hlb]; exact RL.lit w ends 2 ends_in (by decide)
  have HB1 := (Below.refl w.heap.size w).alloc (Nat.le_refl _) (.cells (ends.map (Value.int .i64)).toArray 2)
  have Hs1 : (w.alloc (.cells (ends.map (Value.int .i64)).toArray 2)).heap.size = lb + 1 := by rw [World.size_alloc, hlb]
  obtain ⟨w1, hw1⟩ : ∃ w1, w1 = w.alloc (.cells (ends.map (Value.int .i64)).toArray 2) := ⟨_, rfl⟩
  rw [← hw1] at HE HB1 Hs1
  have he1 : w.alloc (.cells #[.int .i64 (-9223372036854775808), .int .i64 (-1125899906842624), .int .i64 (-1), .int .i64 0, .int .i64 1, .int .i64 2, .int .i64 3, .int .i64 33554432, .int .i64 33554433, .int .i64 375299968947541, .int .i64 375299968947542, .int .i64 1125899906842623, .int .i64 1125899906842624, .int .i64 1125899906842625, .int .i64 4611686018427387904, .int .i64 9223372036854775807] 2) = w1 := by rw [hw1]; rfl
  have HE1 := Lib.hid he1
  have HL := Lib.hid HE
  have HB := Lib.hid HB1
  have HS1 := Lib.hid Hs1
  have HA := Lib.hid awake_any
  clear HE HB1 Hs1 hw1 he1 hlb
  go_enter Tryz.func4, Tryz.ntmps4
  go_wp2_with (fail)
  rw [HE1.out]
  rw [← Hlb.out]
  go_loopw [3] (fun s3 wr => ∃ i : Nat, s3 = .int .i64 i ∧ i ≤ 16 ∧ Hid (Below w1.heap.size w1 wr)) (fun s3 _ => 16 - (intOf s3).toNat)
  case atStart => exact ⟨0, rfl, by omega, Lib.hid (Below.refl _ _)⟩
  case round =>
    obtain ⟨i, rfl, hi, hb⟩ := hrel
    by_cases hin : i < 16
    · have hdi : decide ((i : Int) < 16) = true := decide_eq_true (by omega)
      go_wp2_with (fail)
      go_loopw [4] (fun s4 wr => ∃ k : Nat, s4 = .int .i64 k ∧ k ≤ 16 ∧ Hid (Below w1.heap.size w1 wr)) (fun s4 _ => 16 - (intOf s4).toNat)
      case atStart => exact ⟨0, rfl, by omega, hb⟩
      case round =>
        clear hb
        obtain ⟨k, rfl, hk, hb⟩ := hrel
        by_cases hkn : k < 16
        · have hxin : -9223372036854775808 ≤ ends.getD i 0 ∧ ends.getD i 0 ≤ 9223372036854775807 := ends_in _ (by rw [List.getD_eq_getElem?_getD, List.getElem?_eq_getElem (show i < ends.length from hin)]; exact List.getElem_mem _)
          have hyin : -9223372036854775808 ≤ ends.getD k 0 ∧ ends.getD k 0 ≤ 9223372036854775807 := ends_in _ (by rw [List.getD_eq_getElem?_getD, List.getElem?_eq_getElem (show k < ends.length from hkn)]; exact List.getElem_mem _)
          obtain ⟨b', o', e', -, hcl⟩ := HL.out.at_ (by omega)
          have hc1 := hcl i hin
          have hc2 := hcl k hkn
          clear hcl
          cases e'
          simp only [Nat.zero_add] at hc1 hc2
          generalize ends.getD i 0 = x at hxin hc1
          generalize ends.getD k 0 = y at hyin hc2
          have hsw : w1.heap.size ≤ wr.heap.size := hb.out.size
          have HC : Hid (∀ W, Below wr.heap.size wr W → W.cell? ⟨lb, i, none⟩ = some (.int .i64 x) ∧ W.cell? ⟨lb, k, none⟩ = some (.int .i64 y)) := Lib.hid fun W h => by
            have h2 := hb.out.trans (h.mono hb.out.size)
            have h3 : lb < w1.heap.size := by rw [HS1.out]; omega
            exact ⟨(h2.cell (p := ⟨lb, i, none⟩) h3).trans hc1, (h2.cell (p := ⟨lb, k, none⟩) h3).trans hc2⟩
          have Hx := Lib.hid hxin
          have Hy := Lib.hid hyin
          obtain ⟨d1, d2⟩ := HC.out wr (Below.refl _ _)
          have hi16 : (i : Int) < 16 := by omega
          have hk16 : (k : Int) < 16 := by omega
          have hi0 : (0 : Int) ≤ (i : Int) := by omega
          have hk0 : (0 : Int) ≤ (k : Int) := by omega
          clear hc1 hc2 hxin hyin hsw
          go_wp2_with (fail)
          go_region_held3 (fun w' => w'.cell? ⟨lb, i, none⟩ = some (.int .i64 x) ∧ w'.cell? ⟨lb, k, none⟩ = some (.int .i64 y)) (first | go_keep | exact ⟨by assumption, by assumption⟩) (first | (go_at_call 14; ((with_reducible refine (Two_any x y _ Hx.out Hy.out).mono ?_)); rintro e wA ⟨rfl, hA⟩; have EA := Lib.hid ((Below.refl wr.heap.size wr).drew.trans hA); obtain ⟨cA1, cA2⟩ := HC.out wA EA.out; clear hA) | (go_at_call 15; ((with_reducible refine (sums_three x y wA Hx.out Hy.out).mono ?_)); rintro e wB ⟨rfl, hB⟩; have EB := Lib.hid (EA.out.trans (hB.mono EA.out.size)); obtain ⟨cB1, cB2⟩ := HC.out wB EB.out; clear hB) | (go_at_call 3; ((with_reducible refine (joins_two x y wB Hx.out Hy.out).mono ?_)); rintro e wC ⟨rfl, hC⟩; have EC := Lib.hid (EB.out.trans (hC.mono EB.out.size)); obtain ⟨cC1, cC2⟩ := HC.out wC EC.out; clear hC) | (go_at_call 3; ((with_reducible refine (joins_two' x y wB Hx.out Hy.out).mono ?_)); rintro e wC ⟨rfl, hC⟩; have EC := Lib.hid (EB.out.trans (hC.mono EB.out.size)); obtain ⟨cC1, cC2⟩ := HC.out wC EC.out; clear hC))
          all_goals
            go_wp2_with (fail)
            go_roundw
            case rel => exact ⟨k + 1, by go_num, by omega, Lib.hid (hb.out.trans (EC.out.mono hb.out.size))⟩
            case measure => simp [intOf]; omega
        · go_wp2_with (fail)
          go_roundw
          case rel => exact ⟨i + 1, by go_num, by omega, hb⟩
          case measure => simp [intOf]; omega
    · go_wp2_with (first | (go_at_call 16; first | ((with_reducible refine (times_top _).mono ?_); rintro e w' ⟨rfl, rfl⟩) | ((with_reducible refine (times_over _).mono ?_); rintro e w' ⟨rfl, rfl⟩)) | (go_at_call 17; refine (sum_none _).mono ?_; rintro e w' ⟨rfl, rfl⟩) | (go_at_call 8; refine (join_none _).mono ?_; rintro e w2 ⟨⟨a', c', rfl⟩, hb2⟩; have HB2 := Lib.hid hb2; clear hb2) | (go_at_call 6; refine (HA.out _).mono ?_; rintro e w3 ⟨rfl, hb3⟩; have HB3 := Lib.hid hb3; clear hb3))
      go_ret
      have h5 := HB.out.trans (hb.out.mono HB.out.size)
      have h6 := h5.trans (HB2.out.mono h5.size)
      exact ⟨rfl, h6.trans (HB3.out.mono h6.size)⟩
end Go.Proofs.YtfonejlbiojjjaaGreat
