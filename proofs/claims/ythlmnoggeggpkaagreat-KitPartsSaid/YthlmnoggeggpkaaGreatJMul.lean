/- The walks of amount.Times and the document's; of the document's Sum. -/
import Derived.Test.YthlmnoggeggpkaaGreatJAdd
import Derived.Test.YthlmnoggeggpkaaGreatJShelf
namespace Go.Proofs.YthlmnoggeggpkaaGreat
open Go.RowKit

def timesA (a b : Int) : Option Int := if okA a && (okA b && decide (a * b ≤ mostA)) then some (a * b) else none

set_option maxHeartbeats 2000000 in
theorem Times_any (a b : Int) (w : World) :
    Calls Tryz.prog 30 #[.int .i64 a, .int .i64 b] w fun e w' => e = .returned (.tuple #[.int .i64 (ansV (timesA a b)), .bool (timesA a b).isSome]) ∧ w = w' := by
  have hra := fun w => Right_any a w
  have hrb := fun w => Right_any b w
  have HT : Hid (timesA a b = if okA a && (okA b && decide (a * b ≤ mostA)) then some (a * b) else none) := rfl
  obtain ⟨T, hT⟩ : ∃ T, T = timesA a b := ⟨_, rfl⟩
  rw [← hT] at HT ⊢
  clear hT
  cases hka : okA a
  · rw [hka] at hra HT
    go_enter Tryz.func30, Tryz.ntmps30
    go_wp2_with (go_at_call 27; refine (hra _).mono ?_; rintro e w' ⟨rfl, rfl⟩)
    go_ret2
    rw [HT.out]; exact ⟨rfl, rfl⟩
  · rw [hka] at hra HT
    have hka' := okA_iff.1 hka
    cases hkb : okA b
    · rw [hkb] at hrb HT
      clear hka hkb
      go_enter Tryz.func30, Tryz.ntmps30
      go_wp2_with (go_at_call 27; first | (with_reducible refine (hra _).mono ?_; rintro e w' ⟨rfl, rfl⟩) | (with_reducible refine (hrb _).mono ?_; rintro e w' ⟨rfl, rfl⟩))
      go_ret2
      rw [HT.out]; exact ⟨rfl, rfl⟩
    · rw [hkb] at hrb HT
      have hkb' := okA_iff.1 hkb
      have htn := times_nat hka'.1 hkb'.1
      clear hka hkb
      obtain ⟨x, rfl⟩ : ∃ x : Nat, a = x := ⟨a.toNat, by omega⟩
      obtain ⟨y, rfl⟩ : ∃ y : Nat, b = y := ⟨b.toNat, by omega⟩
      have hmul := fun w => Tryz.bits_Mul64 x y (by omega) (by omega) w
      simp only [Int.toNat_natCast] at htn
      rw [← Int.natCast_mul] at htn HT
      have hlo : x * y / 18446744073709551616 = 0 → x * y % 18446744073709551616 = x * y := by omega
      generalize x * y = p at htn HT hlo hmul
      generalize p / 18446744073709551616 = h at htn hlo hmul
      generalize p % 18446744073709551616 = l at htn hlo hmul
      have w1 : IntKind.u64.wrap (x : Int) = x := IntWalk.u64_in _ (by omega)
      have w2 : IntKind.u64.wrap (y : Int) = y := IntWalk.u64_in _ (by omega)
      have Htn := Lib.hid htn
      have Hlo := Lib.hid hlo
      clear htn hlo
      by_cases hh : h = 0
      · by_cases hl : l ≤ 1125899906842624
        · have e : decide ((p : Int) ≤ mostA) = true := decide_eq_true (Htn.out.1 ⟨hh, hl⟩)
          rw [e] at HT
          have el := Hlo.out hh
          have w3 := wrap_in (x := (l : Int)) (by omega) (by omega)
          clear e
          subst hh
          go_enter Tryz.func30, Tryz.ntmps30
          go_wp2_with (first | (go_at_call 27; first | (with_reducible refine (hra _).mono ?_; rintro e w' ⟨rfl, rfl⟩) | (with_reducible refine (hrb _).mono ?_; rintro e w' ⟨rfl, rfl⟩)) | (go_at_call 57; refine (hmul _).mono ?_; rintro e w' ⟨rfl, rfl⟩))
          go_ret2
          rw [HT.out]; exact ⟨by simp [ansV], rfl⟩
        · have e : decide ((p : Int) ≤ mostA) = false := decide_eq_false fun h => hl (Htn.out.2 h).2
          rw [e] at HT
          clear e
          subst hh
          go_enter Tryz.func30, Tryz.ntmps30
          go_wp2_with (first | (go_at_call 27; first | (with_reducible refine (hra _).mono ?_; rintro e w' ⟨rfl, rfl⟩) | (with_reducible refine (hrb _).mono ?_; rintro e w' ⟨rfl, rfl⟩)) | (go_at_call 57; refine (hmul _).mono ?_; rintro e w' ⟨rfl, rfl⟩))
          go_ret2
          rw [HT.out]; exact ⟨rfl, rfl⟩
      · have e : decide ((p : Int) ≤ mostA) = false := decide_eq_false fun h => hh (Htn.out.2 h).1
        rw [e] at HT
        clear e
        go_enter Tryz.func30, Tryz.ntmps30
        go_wp2_with (first | (go_at_call 27; first | (with_reducible refine (hra _).mono ?_; rintro e w' ⟨rfl, rfl⟩) | (with_reducible refine (hrb _).mono ?_; rintro e w' ⟨rfl, rfl⟩)) | (go_at_call 57; refine (hmul _).mono ?_; rintro e w' ⟨rfl, rfl⟩))
        go_ret2
        rw [HT.out]; exact ⟨rfl, rfl⟩

set_option maxHeartbeats 2000000 in
theorem rTimes_any (a b : Int) (w : World) :
    Calls Tryz.prog 68 #[.int .i64 a, .int .i64 b] w fun e w' => e = .returned (.tuple #[.int .i64 (ansV (timesA a b)), .bool (timesA a b).isSome]) ∧ w = w' := by
  have hra := fun w => rRight_any a w
  have hrb := fun w => rRight_any b w
  have HT : Hid (timesA a b = if okA a && (okA b && decide (a * b ≤ mostA)) then some (a * b) else none) := rfl
  obtain ⟨T, hT⟩ : ∃ T, T = timesA a b := ⟨_, rfl⟩
  rw [← hT] at HT ⊢
  clear hT
  cases hka : okA a
  · rw [hka] at hra HT
    go_enter Tryz.func68, Tryz.ntmps68
    go_wp2_with (go_at_call 39; refine (hra _).mono ?_; rintro e w' ⟨rfl, rfl⟩)
    go_ret2
    rw [HT.out]; exact ⟨rfl, rfl⟩
  · rw [hka] at hra HT
    have hka' := okA_iff.1 hka
    cases hkb : okA b
    · rw [hkb] at hrb HT
      clear hka hkb
      go_enter Tryz.func68, Tryz.ntmps68
      go_wp2_with (go_at_call 39; first | (with_reducible refine (hra _).mono ?_; rintro e w' ⟨rfl, rfl⟩) | (with_reducible refine (hrb _).mono ?_; rintro e w' ⟨rfl, rfl⟩))
      go_ret2
      rw [HT.out]; exact ⟨rfl, rfl⟩
    · rw [hkb] at hrb HT
      have hkb' := okA_iff.1 hkb
      clear hka hkb
      by_cases h0 : 0 < b
      · have htd := times_div (a := a) h0
        have hne : ¬ b = 0 := by omega
        have hq0 : 0 ≤ Int.tdiv 1125899906842624 b := Int.tdiv_nonneg (by omega) (by omega)
        have hq1 : Int.tdiv 1125899906842624 b ≤ 1125899906842624 := by
          rw [Int.tdiv_eq_ediv_of_nonneg (by omega)]
          exact Int.ediv_le_self _ (by omega)
        have wq := wrap_in (x := Int.tdiv 1125899906842624 b) (by omega) (by omega)
        obtain ⟨q, hq⟩ : ∃ q, q = Int.tdiv 1125899906842624 b := ⟨_, rfl⟩
        rw [← hq] at htd hq0 hq1 wq
        have hq' := hq.symm
        clear hq
        have Htd := Lib.hid htd
        clear htd
        by_cases hm : a * b ≤ 1125899906842624
        · have e : decide (a * b ≤ mostA) = true := decide_eq_true hm
          rw [e] at HT
          have hno : ¬ a > q := fun h => Htd.out.1 h hm
          have hnn : 0 ≤ a * b := Int.mul_nonneg hka'.1 hkb'.1
          have wm := wrap_in (x := a * b) (by omega) (by omega)
          obtain ⟨p, hp⟩ : ∃ p, p = a * b := ⟨_, rfl⟩
          rw [← hp] at HT wm
          have hp' := hp.symm
          clear e hm hnn hp
          go_enter Tryz.func68, Tryz.ntmps68
          go_wp2_with (go_at_call 39; first | (with_reducible refine (hra _).mono ?_; rintro e w' ⟨rfl, rfl⟩) | (with_reducible refine (hrb _).mono ?_; rintro e w' ⟨rfl, rfl⟩))
          go_ret2
          rw [HT.out]; exact ⟨rfl, rfl⟩
        · have e : decide (a * b ≤ mostA) = false := decide_eq_false hm
          rw [e] at HT
          have hno : a > q := Htd.out.2 hm
          clear e hm
          go_enter Tryz.func68, Tryz.ntmps68
          go_wp2_with (go_at_call 39; first | (with_reducible refine (hra _).mono ?_; rintro e w' ⟨rfl, rfl⟩) | (with_reducible refine (hrb _).mono ?_; rintro e w' ⟨rfl, rfl⟩))
          go_ret2
          rw [HT.out]; exact ⟨rfl, rfl⟩
      · obtain rfl : b = 0 := by omega
        have e : decide (a * 0 ≤ mostA) = true := by rw [Int.mul_zero]; decide
        rw [e, Int.mul_zero] at HT
        clear e
        go_enter Tryz.func68, Tryz.ntmps68
        go_wp2_with (go_at_call 39; first | (with_reducible refine (hra _).mono ?_; rintro e w' ⟨rfl, rfl⟩) | (with_reducible refine (hrb _).mono ?_; rintro e w' ⟨rfl, rfl⟩))
        go_ret2
        rw [HT.out]; exact ⟨rfl, rfl⟩
end Go.Proofs.YthlmnoggeggpkaaGreat
