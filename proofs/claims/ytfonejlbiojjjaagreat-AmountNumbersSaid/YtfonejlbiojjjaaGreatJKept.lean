/- The walk of storemankit.KeptLongs. -/
import Derived.Test.YtfonejlbiojjjaaGreatJLent
namespace Go.Proofs.YtfonejlbiojjjaaGreat
open Go.RowKit

theorem all_at (L : List Int) (n j : Nat) (hn : n = L.length) (hj : j < n) : (L ++ lentT).getD j 0 = L.getD j 0 := by
  rw [List.getD_eq_getElem?_getD, List.getElem?_append_left (by omega), List.getD_eq_getElem?_getD]
theorem all_behind (L : List Int) (n d : Nat) (hn : n = L.length) (hd : d < 12) : (L ++ lentT).getD (n + d) 0 = (markN 1 d : Int) := by
  rw [List.getD_eq_getElem?_getD, List.getElem?_append_right (by omega), show n + d - L.length = d by omega, List.getElem?_eq_getElem (by rw [lentT_len]; exact hd), Option.getD_some, lentT_at d hd]

set_option maxHeartbeats 2000000 in
set_option maxRecDepth 100000 in
theorem KeptLongs_any (B N : Nat) (g : Nat) (c' : Nat) (a : Option Addr) (n c : Nat) (L : List Int) (w : World) (ho : RL B w (some ⟨g, 0, none⟩) (n + 12) c' (L ++ lentT)) (hr : RL N w a n c L) :
    Calls Tryz.prog 32 #[.slice (some ⟨g, 0, none⟩) n c', .slice a n c] w fun e w' => e = .returned (.bool true) ∧ ∃ q, w' = w.drewN q := by
  have h1 := ho.le; have h2 := ho.mx; have h3 := hr.le; have h4 := hr.mx
  have hln := hr.len
  have Hln := Lib.hid hln
  have Ho := Lib.hid ho
  have Hr := Lib.hid hr
  clear ho hr hln
  have q1 : (n : Int) + 12 ≤ (c' : Int) := by omega
  have q2 := wrap_in (x := (n : Int) + 12) (by omega) (by omega)
  go_enter Tryz.func32, Tryz.ntmps32
  go_wp2_with (fail)
  go_loopw [6] (fun i wr => ∃ (j : Nat), j ≤ n + 12 ∧ i = .int .i64 j ∧ ∃ q, wr = w.drewN q) (fun i _ => n + 12 - (intOf i).toNat)
  case atStart => exact ⟨0, by omega, rfl, 0, rfl⟩
  case round =>
    obtain ⟨j, hj, rfl, q, rfl⟩ := hrel
    by_cases hlt : j < n
    · have g1 := (Ho.out.at_ (by omega))
      obtain ⟨b, o, e1, -, hc1⟩ := g1
      cases e1
      obtain ⟨b2, o2, rfl, -, hc2⟩ := Hr.out.at_ (by omega)
      have k1 := hc1 j (by omega)
      have k2 := hc2 j hlt
      rw [all_at L n j Hln.out hlt] at k1
      rw [Nat.zero_add] at k1
      generalize L.getD j 0 = x at k1 k2
      clear hc1 hc2
      have hd : decide ((j : Int) < (n : Int)) = true := decide_eq_true (by omega)
      have hd2 : decide ((n : Int) ≤ (j : Int)) = false := decide_eq_false (by omega)
      have hd3 : decide (n ≤ j) = false := decide_eq_false (by omega)
      have hd4 : decide (j < n) = true := decide_eq_true (by omega)
      have hxx : (x == x) = true := by simp
      go_wp2_with (fail)
      go_quiet (fail)
      go_wp2_with (fail)
      go_roundw
      case rel => exact ⟨j + 1, by omega, by go_num, _, rfl⟩
      case measure => simp [intOf]; omega
    · by_cases hlt2 : j < n + 12
      · obtain ⟨d, rfl⟩ : ∃ d, j = n + d := ⟨j - n, by omega⟩
        have g1 := (Ho.out.at_ (by omega))
        obtain ⟨b, o, e1, -, hc1⟩ := g1
        cases e1
        have k1 := hc1 (n + d) (by omega)
        rw [all_behind L n d Hln.out (by omega)] at k1
        rw [Nat.zero_add] at k1
        have hmk : ∀ W : World, Calls Tryz.prog 34 #[.int .i64 1, .int .i64 (d : Int)] W fun e w' => e = .returned (.int .i64 (markN 1 d : Nat)) ∧ W = w' := fun W => mark_any 1 d W (by omega) (by omega)
        generalize ((markN 1 d : Nat) : Int) = m at k1 hmk
        clear hc1
        have i1 : decide ((n : Int) + (d : Int) < (n : Int)) = false := decide_eq_false (by omega)
        have i2 : decide ((n : Int) ≤ (n : Int) + (d : Int)) = true := decide_eq_true (by omega)
        have i3 : IntKind.i64.wrap ((n : Int) + (d : Int) - (n : Int)) = (d : Int) := by
          rw [show (n : Int) + (d : Int) - (n : Int) = (d : Int) by omega]
          exact wrap_in (by omega) (by omega)
        have i4 : (m == m) = true := by simp
        have i5 : (n : Int) + (d : Int) < (n : Int) + 12 := by omega
        have i6 : (0 : Int) ≤ (n : Int) + (d : Int) := by omega
        have c5 := Lib.hid hlt2
        clear hlt hj hlt2
        go_wp2_with (fail)
        go_big_quiet ((go_at_call 34; exact (hmk _).mono fun _ _ h => ⟨h.1, _, h.2.symm⟩))
        go_wp2_with (fail)
        have c6 := c5.out
        go_roundw
        case rel => exact ⟨n + d + 1, by omega, by go_num, _, rfl⟩
        case measure => simp [intOf]; omega
      · go_wp2_with (fail)
        go_ret
        exact ⟨rfl, q, rfl⟩
end Go.Proofs.YtfonejlbiojjjaaGreat
