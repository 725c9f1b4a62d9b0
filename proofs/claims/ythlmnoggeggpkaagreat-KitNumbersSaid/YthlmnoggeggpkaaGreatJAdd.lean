/- The walks of amount's Right, Sum, Add, Times, and of the document's. -/
import Derived.Test.YthlmnoggeggpkaaGreatJBase
namespace Go.Proofs.YthlmnoggeggpkaaGreat
open Go.RowKit

theorem quiet_calls {P : Program} {f : FuncId} {args : Array Value} {w : World} {v : Value} (h : Calls P f args w fun e w' => e = .returned v ∧ w = w') : Calls P f args w fun e w' => e = .returned v ∧ ∃ q, w' = w.drewN q :=
  h.mono fun _ _ ⟨he, hw⟩ => ⟨he, 0, hw.symm⟩

set_option maxHeartbeats 1000000 in
theorem Right_any (n : Int) (w : World) : Calls Tryz.prog 27 #[.int .i64 n] w fun e w' => e = .returned (.bool (okA n)) ∧ w = w' := by
  have hr : okA n = (decide (0 ≤ n) && decide (n ≤ 1125899906842624)) := rfl
  rw [hr]; clear hr
  by_cases h1 : 0 ≤ n
  · by_cases h2 : n ≤ 1125899906842624
    · go_enter Tryz.func27, Tryz.ntmps27
      go_wp2
      go_ret
      simp [h1, h2]
    · go_enter Tryz.func27, Tryz.ntmps27
      go_wp2
      go_ret
      simp [h1, h2]
  · go_enter Tryz.func27, Tryz.ntmps27
    go_wp2
    go_ret
    simp [h1]
    omega
set_option maxHeartbeats 1000000 in
theorem rRight_any (n : Int) (w : World) : Calls Tryz.prog 39 #[.int .i64 n] w fun e w' => e = .returned (.bool (okA n)) ∧ w = w' := by
  have hr : okA n = (decide (0 ≤ n) && decide (n ≤ 1125899906842624)) := rfl
  rw [hr]; clear hr
  by_cases h1 : 0 ≤ n
  · by_cases h2 : n ≤ 1125899906842624
    · go_enter Tryz.func39, Tryz.ntmps39
      go_wp2
      go_ret
      simp [h1, h2]
    · go_enter Tryz.func39, Tryz.ntmps39
      go_wp2
      go_ret
      simp [h1, h2]
  · go_enter Tryz.func39, Tryz.ntmps39
    go_wp2
    go_ret
    simp [h1]
    omega

/-- What a sum answers: the number, and whether there is one. -/
def ansV : Option Int → Int
  | some n => n
  | none => 0
theorem sumL_take {L : List Int} {i : Nat} (h : i < L.length) (n : Int) : sumL n (L.drop i) = if okA (L.getD i 0) && decide (n + L.getD i 0 ≤ mostA) then sumL (n + L.getD i 0) (L.drop (i + 1)) else none := by
  rw [List.drop_eq_getElem_cons h]
  conv => lhs; unfold sumL
  rw [List.getD_eq_getElem?_getD, List.getElem?_eq_getElem h, Option.getD_some]

set_option maxHeartbeats 2000000 in
theorem Sum_any (B : Nat) (a : Option Addr) (n c : Nat) (L : List Int) (w : World) (hl : RL B w a n c L) :
    Calls Tryz.prog 97 #[.slice a n c] w fun e w' => e = .returned (.tuple #[.int .i64 (ansV (sumL 0 L)), .bool (sumL 0 L).isSome]) ∧ w = w' := by
  have hle := hl.le; have hmx := hl.mx; have hln := hl.len
  have Hwf := Lib.hid hl.wf
  have Hln := Lib.hid hln; clear hln
  obtain ⟨T, hT⟩ : ∃ T, T = sumL 0 L := ⟨_, rfl⟩
  rw [← hT]
  have HT := Lib.hid hT
  clear hT
  go_enter Tryz.func97, Tryz.ntmps97
  go_wp2
  go_loop [4, 9] (fun t s => ∃ (m : Int) (i : Nat), t = .int .i64 m ∧ s = .int .i64 i ∧ i ≤ n ∧ 0 ≤ m ∧ m ≤ 1125899906842624 ∧ Hid (T = sumL m (L.drop i))) (fun _ s => n - (intOf s).toNat)
  case atStart => exact ⟨0, 0, rfl, rfl, by omega, by omega, by omega, HT⟩
  case round =>
    obtain ⟨m, i, rfl, rfl, hi, h0, h1, ht⟩ := hrel
    by_cases hin : i < n
    · obtain ⟨b, o, rfl, hB, hc⟩ := hl.at_ (by omega)
      have g := hc i hin
      clear hc
      have hx := Hwf.out (L.getD i 0) (by rw [List.getD_eq_getElem?_getD, List.getElem?_eq_getElem (by have := Hln.out; omega)]; exact List.getElem_mem (by have := Hln.out; omega))
      have hs := sumL_take (L := L) (i := i) (by have := Hln.out; omega) m
      rw [← ht.out] at hs
      have HS := Lib.hid hs
      clear hs
      obtain ⟨x, hxe⟩ : ∃ x, x = L.getD i 0 := ⟨_, rfl⟩
      rw [← hxe] at g hx HS
      clear hxe
      by_cases hk : okA x = true
      · have hk' := okA_iff.1 hk
        have hw := wrap_in (x := m + x) (by omega) (by omega)
        have hw2 := wrap64_in (x := m + x) (by omega) (by omega)
        have hr := fun w => Right_any x w
        rw [hk] at hr
        by_cases hm : m + x ≤ 1125899906842624
        · go_wp2_with (go_at_call 27; refine (hr _).mono ?_; rintro e w' ⟨rfl, rfl⟩)
          go_round
          case rel =>
            refine ⟨m + x, i + 1, rfl, rfl, by omega, by omega, hm, ?_⟩
            show _ = _
            have e : decide (m + x ≤ mostA) = true := decide_eq_true (show m + x ≤ 1125899906842624 from hm)
            rw [HS.out, hk, e]; rfl
          case measure => simp [intOf]; omega
        · go_wp2_with (go_at_call 27; refine (hr _).mono ?_; rintro e w' ⟨rfl, rfl⟩)
          go_ret2
          have e : decide (m + x ≤ mostA) = false := decide_eq_false (show ¬ m + x ≤ 1125899906842624 by omega)
          rw [HS.out, hk, e]
          exact ⟨rfl, rfl⟩
      · have hk0 : okA x = false := by simpa using hk
        have hr := fun w => Right_any x w
        rw [hk0] at hr
        go_wp2_with (go_at_call 27; refine (hr _).mono ?_; rintro e w' ⟨rfl, rfl⟩)
        go_ret2
        rw [HS.out, hk0]
        exact ⟨rfl, rfl⟩
    · go_wp2_with (fail)
      go_ret2
      have e : i = L.length := by have := Hln.out; omega
      rw [ht.out, e, List.drop_length]
      exact ⟨rfl, rfl⟩

set_option maxHeartbeats 2000000 in
theorem Add_any (a b : Int) (w : World) (ha : -9223372036854775808 ≤ a ∧ a ≤ 9223372036854775807) (hb : -9223372036854775808 ≤ b ∧ b ≤ 9223372036854775807) :
    Calls Tryz.prog 54 #[.int .i64 a, .int .i64 b] w fun e w' => e = .returned (.tuple #[.int .i64 (ansV (addA a b)), .bool (addA a b).isSome]) ∧ Below w.heap.size w w' := by
  have hl : RL (w.heap.size + 1) (w.alloc (.cells #[.int .i64 a, .int .i64 b] 2)) (some ⟨w.heap.size, 0, none⟩) 2 2 [a, b] := by
    refine ⟨rfl, by omega, by omega, fun x hx => ?_, fun _ => ⟨w.heap.size, 0, rfl, by omega, fun i hi => ?_⟩⟩
    · simp at hx
      rcases hx with rfl | rfl
      · exact ha
      · exact hb
    · have hb := (Go.MapKept.heap_alloc w (.cells #[.int .i64 a, .int .i64 b] 2)).1
      rcases (show i = 0 ∨ i = 1 by omega) with rfl | rfl <;> simp only [World.cell?, hb] <;> rfl
  have hs := Sum_any _ _ _ _ _ _ hl
  rw [sumL_two] at hs
  have Hs := Lib.hid hs
  clear hs
  have HB := Lib.hid (show Below w.heap.size w (w.alloc (.cells #[.int .i64 a, .int .i64 b] 2)) from (Below.refl _ w).alloc (Nat.le_refl _) _)
  go_enter Tryz.func54, Tryz.ntmps54
  go_wp2_with (go_at_call 97; refine Hs.out.mono ?_; rintro e w' ⟨rfl, rfl⟩)
  go_ret2
  exact ⟨rfl, HB.out⟩

set_option maxHeartbeats 2000000 in
theorem rAdd_any (a b : Int) (w : World) (ha : -9223372036854775808 ≤ a ∧ a ≤ 9223372036854775807) (hb : -9223372036854775808 ≤ b ∧ b ≤ 9223372036854775807) :
    Calls Tryz.prog 103 #[.int .i64 a, .int .i64 b] w fun e w' => e = .returned (.tuple #[.int .i64 (ansV (addA a b)), .bool (addA a b).isSome]) ∧ w = w' := by
  have hra := fun w => rRight_any a w
  have hrb := fun w => rRight_any b w
  have HT : Hid (addA a b = if okA a && (okA b && decide (a + b ≤ mostA)) then some (a + b) else none) := rfl
  obtain ⟨T, hT⟩ : ∃ T, T = addA a b := ⟨_, rfl⟩
  rw [← hT] at HT ⊢
  clear hT
  cases hka : okA a
  · rw [hka] at hra HT
    go_enter Tryz.func103, Tryz.ntmps103
    go_wp2_with (go_at_call 39; refine (hra _).mono ?_; rintro e w' ⟨rfl, rfl⟩)
    go_ret2
    rw [HT.out]; exact ⟨rfl, rfl⟩
  · rw [hka] at hra HT
    have hka' := okA_iff.1 hka
    cases hkb : okA b
    · rw [hkb] at hrb HT
      clear hka hkb
      go_enter Tryz.func103, Tryz.ntmps103
      go_wp2_with (go_at_call 39; first | (with_reducible refine (hra _).mono ?_; rintro e w' ⟨rfl, rfl⟩) | (with_reducible refine (hrb _).mono ?_; rintro e w' ⟨rfl, rfl⟩))
      go_ret2
      rw [HT.out]; exact ⟨rfl, rfl⟩
    · rw [hkb] at hrb HT
      have hkb' := okA_iff.1 hkb
      clear hka hkb
      have hw := wrap_in (x := a + b) (by omega) (by omega)
      have hw2 := wrap64_in (x := a + b) (by omega) (by omega)
      by_cases hm : a + b ≤ 1125899906842624
      · have e : decide (a + b ≤ mostA) = true := decide_eq_true (show a + b ≤ 1125899906842624 from hm)
        rw [e] at HT
        clear e
        go_enter Tryz.func103, Tryz.ntmps103
        go_wp2_with (go_at_call 39; first | (with_reducible refine (hra _).mono ?_; rintro e w' ⟨rfl, rfl⟩) | (with_reducible refine (hrb _).mono ?_; rintro e w' ⟨rfl, rfl⟩))
        go_ret2
        rw [HT.out]; exact ⟨rfl, rfl⟩
      · have e : decide (a + b ≤ mostA) = false := decide_eq_false (show ¬ a + b ≤ 1125899906842624 by omega)
        rw [e] at HT
        clear e
        go_enter Tryz.func103, Tryz.ntmps103
        go_wp2_with (go_at_call 39; first | (with_reducible refine (hra _).mono ?_; rintro e w' ⟨rfl, rfl⟩) | (with_reducible refine (hrb _).mono ?_; rintro e w' ⟨rfl, rfl⟩))
        go_ret2
        rw [HT.out]; exact ⟨rfl, rfl⟩
end Go.Proofs.YthlmnoggeggpkaaGreat
