/- The walk of storemankit.KeptTexts. The walk of storemankit.KeptParts. -/
import Derived.Test.YthlmnoggeggpkaaGreatKFind
import Derived.Test.YthlmnoggeggpkaaGreatBelowQ
import Derived.Test.YthlmnoggeggpkaaGreatJParts
namespace Go.Proofs.YthlmnoggeggpkaaGreat
open Go.RowKit

theorem allX_at (L : List (List UInt8)) (n j : Nat) (hn : n = L.length) (hj : j < n) : (L ++ lentX).getD j [] = L.getD j [] := by
  rw [List.getD_eq_getElem?_getD, List.getElem?_append_left (by omega), List.getD_eq_getElem?_getD]
theorem allX_behind (L : List (List UInt8)) (n d : Nat) (hn : n = L.length) (hd : d < 12) : (L ++ lentX).getD (n + d) [] = mkTx d := by
  rw [List.getD_eq_getElem?_getD, List.getElem?_append_right (by omega), show n + d - L.length = d by omega, List.getElem?_eq_getElem (by rw [lentX_len]; exact hd), Option.getD_some, lentX_at d hd]
set_option maxHeartbeats 4000000 in
set_option maxRecDepth 100000 in
theorem KeptTexts_any (B N : Nat) (g : Nat) (c' : Nat) (a : Option Addr) (n c : Nat) (L : List (List UInt8)) (w : World) (ho : RT B w (some ⟨g, 0, none⟩) (n + 12) c' (L ++ lentX)) (hr : RT N w a n c L) (hB : B ≤ w.heap.size) (hN : N ≤ w.heap.size) :
    Calls Tryz.prog 63 #[.slice (some ⟨g, 0, none⟩) n c', .slice a n c] w fun e w' => e = .returned (.bool true) ∧ Below w.heap.size w w' := by
  have h1 := ho.le; have h2 := ho.mx; have h3 := hr.le; have h4 := hr.mx
  have hln := hr.len
  have Hln := Lib.hid hln
  have Ho := Lib.hid ho
  have Hr := Lib.hid hr
  clear ho hr hln
  have q1 : (n : Int) + 12 ≤ (c' : Int) := by omega
  have q2 := wrap_in (x := (n : Int) + 12) (by omega) (by omega)
  go_enter Tryz.func63, Tryz.ntmps63
  go_wp2_with (fail)
  go_loopw [6] (fun i wr => ∃ (j : Nat), j ≤ n + 12 ∧ i = .int .i64 j ∧ Hid (Below w.heap.size w wr)) (fun i _ => n + 12 - (intOf i).toNat)
  case atStart => exact ⟨0, by omega, rfl, Lib.hid (Below.refl _ _)⟩
  case round =>
    obtain ⟨j, hj, rfl, Hb⟩ := hrel
    have hsz := Hb.out.size
    by_cases hlt : j < n
    · obtain ⟨b, o, e1, hbB, hc1⟩ := (Ho.out.below (Hb.out.mono hB)).at_ (by omega)
      cases e1
      obtain ⟨b2, o2, rfl, hbN, hc2⟩ := (Hr.out.below (Hb.out.mono hN)).at_ (by omega)
      have k1 := hc1 j (by omega)
      have k3 := hc2 j hlt
      rw [allX_at L n j Hln.out hlt, Nat.zero_add] at k1
      generalize L.getD j [] = x at k1 k3
      unfold encStr at k1 k3
      clear hc1 hc2
      have f1 : ∀ y : BelowW wr, y.v.cell? ⟨g, j, none⟩ = some (.string ⟨x.toArray⟩) := fun y => (y.h.cell (by show g < _; omega)).trans k1
      have f3 : ∀ y : BelowW wr, y.v.cell? ⟨b2, o2 + j, none⟩ = some (.string ⟨x.toArray⟩) := fun y => (y.h.cell (by show b2 < _; omega)).trans k3
      have hd : decide ((j : Int) < (n : Int)) = true := decide_eq_true (by omega)
      have hd2 : decide ((n : Int) ≤ (j : Int)) = false := decide_eq_false (by omega)
      have hd3 : decide (n ≤ j) = false := decide_eq_false (by omega)
      have hd4 : decide (j < n) = true := decide_eq_true (by omega)
      clear k1 k3
      go_wp2_with (fail)
      refine wp_region_below wr (by kernel_rfl) (by kernel_rfl) (Below.refl _ _) ?_
      repeat (go_big_quiet_step (fail))
      refine wpQuiet_nil ?_
      intro _ hw'
      obtain ⟨y, hw''⟩ := hw'
      subst hw''
      clear f1 f3
      go_wp2_with (fail)
      go_roundw
      case rel => exact ⟨j + 1, by omega, by go_num, Lib.hid (Hb.out.trans (y.h.mono hsz))⟩
      case measure => simp [intOf]; omega
    · by_cases hlt2 : j < n + 12
      · obtain ⟨d, rfl⟩ : ∃ d, j = n + d := ⟨j - n, by omega⟩
        obtain ⟨b, o, e1, hbB, hc1⟩ := (Ho.out.below (Hb.out.mono hB)).at_ (by omega)
        cases e1
        have k1 := hc1 (n + d) (by omega)
        rw [allX_behind L n d Hln.out (by omega), Nat.zero_add] at k1
        have hmk : ∀ W : World, Calls Tryz.prog 94 #[.int .i64 1, .int .i64 (d : Int)] W fun e w' => e = .returned (encStr (mkTx d)) ∧ Below W.heap.size W w' := fun W => markText_any d W (by omega)
        generalize mkTx d = m at k1 hmk
        unfold encStr at k1 hmk
        have f1 : ∀ y : BelowW wr, y.v.cell? ⟨g, n + d, none⟩ = some (.string ⟨m.toArray⟩) := fun y => (y.h.cell (by show g < _; omega)).trans k1
        clear hc1 k1
        have i1 : decide ((n : Int) + (d : Int) < (n : Int)) = false := decide_eq_false (by omega)
        have i2 : decide ((n : Int) ≤ (n : Int) + (d : Int)) = true := decide_eq_true (by omega)
        have i3 : IntKind.i64.wrap ((n : Int) + (d : Int) - (n : Int)) = (d : Int) := by
          rw [show (n : Int) + (d : Int) - (n : Int) = (d : Int) by omega]
          exact wrap_in (by omega) (by omega)
        have i5 : (n : Int) + (d : Int) < (n : Int) + 12 := by omega
        have i6 : (0 : Int) ≤ (n : Int) + (d : Int) := by omega
        have c5 := Lib.hid hlt2
        clear hlt hj hlt2
        go_wp2_with (fail)
        refine wp_region_below wr (by kernel_rfl) (by kernel_rfl) (Below.refl _ _) ?_
        repeat (go_big_quiet_step ((go_at_call 94; exact below_call (hmk _))))
        refine wpQuiet_nil ?_
        intro _ hw'
        obtain ⟨y, hw''⟩ := hw'
        subst hw''
        clear f1
        go_wp2_with (fail)
        have c6 := c5.out
        go_roundw
        case rel => exact ⟨n + d + 1, by omega, by go_num, Lib.hid (Hb.out.trans (y.h.mono hsz))⟩
        case measure => simp [intOf]; omega
      · go_wp2_with (fail)
        go_ret
        exact ⟨rfl, Hb.out⟩
end Go.Proofs.YthlmnoggeggpkaaGreat
namespace Go.Proofs.YthlmnoggeggpkaaGreat
open Go.RowKit

theorem allP_at (L : List Pt) (n j : Nat) (hn : n = L.length) (hj : j < n) : (L ++ lentP).getD j default = L.getD j default := by
  rw [List.getD_eq_getElem?_getD, List.getElem?_append_left (by omega), List.getD_eq_getElem?_getD]
theorem allP_behind (L : List Pt) (n d : Nat) (hn : n = L.length) (hd : d < 12) : (L ++ lentP).getD (n + d) default = mkPt 1 d := by
  rw [List.getD_eq_getElem?_getD, List.getElem?_append_right (by omega), show n + d - L.length = d by omega, List.getElem?_eq_getElem (by rw [lentP_len]; exact hd), Option.getD_some, lentP_at d hd]
theorem eqPart_self (x : List UInt8) (u : Int) (w : World) : (Op.equalIn 10000 45 (.agg #[encStr x, .int .i64 u]) (.agg #[encStr x, .int .i64 u])).run Tryz.prog w = .ok true w := by
  rw [eqPart, eqP_iff.2 rfl]

set_option maxHeartbeats 4000000 in
set_option maxRecDepth 100000 in
theorem KeptParts_any (B N : Nat) (g : Nat) (c' : Nat) (a : Option Addr) (n c : Nat) (L : List Pt) (w : World) (ho : RP B w (some ⟨g, 0, none⟩) (n + 12) c' (L ++ lentP)) (hr : RP N w a n c L) (hB : B ≤ w.heap.size) (hN : N ≤ w.heap.size) :
    Calls Tryz.prog 62 #[.slice (some ⟨g, 0, none⟩) n c', .slice a n c] w fun e w' => e = .returned (.bool true) ∧ Below w.heap.size w w' := by
  have h1 := ho.le; have h2 := ho.mx; have h3 := hr.le; have h4 := hr.mx
  have hln := hr.len
  have Hln := Lib.hid hln
  have Ho := Lib.hid ho
  have Hr := Lib.hid hr
  clear ho hr hln
  have q1 : (n : Int) + 12 ≤ (c' : Int) := by omega
  have q2 := wrap_in (x := (n : Int) + 12) (by omega) (by omega)
  go_enter Tryz.func62, Tryz.ntmps62
  go_wp2_with (fail)
  go_loopw [6] (fun i wr => ∃ (j : Nat), j ≤ n + 12 ∧ i = .int .i64 j ∧ Hid (Below w.heap.size w wr)) (fun i _ => n + 12 - (intOf i).toNat)
  case atStart => exact ⟨0, by omega, rfl, Lib.hid (Below.refl _ _)⟩
  case round =>
    obtain ⟨j, hj, rfl, Hb⟩ := hrel
    have hsz := Hb.out.size
    by_cases hlt : j < n
    · obtain ⟨b, o, e1, hbB, hc1⟩ := (Ho.out.below (Hb.out.mono hB)).at_ (by omega)
      cases e1
      obtain ⟨b2, o2, rfl, hbN, hc2⟩ := (Hr.out.below (Hb.out.mono hN)).at_ (by omega)
      obtain ⟨k1, k2⟩ := hc1 j (by omega)
      obtain ⟨k3, k4⟩ := hc2 j hlt
      rw [allP_at L n j Hln.out hlt] at k1 k2
      rw [Nat.zero_add] at k1 k2
      generalize L.getD j default = p at k1 k2 k3 k4
      obtain ⟨x, u⟩ := p
      simp only at k1 k2 k3 k4
      clear hc1 hc2
      have f1 : ∀ y : BelowW wr, y.v.cell? ⟨g, j * 2, none⟩ = some (encStr x) := fun y => (y.h.cell (by show g < _; omega)).trans k1
      have f2 : ∀ y : BelowW wr, y.v.cell? ⟨g, j * 2 + 1, none⟩ = some (.int .i64 u) := fun y => (y.h.cell (by show g < _; omega)).trans k2
      have f3 : ∀ y : BelowW wr, y.v.cell? ⟨b2, o2 + j * 2, none⟩ = some (encStr x) := fun y => (y.h.cell (by show b2 < _; omega)).trans k3
      have f4 : ∀ y : BelowW wr, y.v.cell? ⟨b2, o2 + j * 2 + 1, none⟩ = some (.int .i64 u) := fun y => (y.h.cell (by show b2 < _; omega)).trans k4
      have heq := eqPart_self x u
      have hd : decide ((j : Int) < (n : Int)) = true := decide_eq_true (by omega)
      have hd2 : decide ((n : Int) ≤ (j : Int)) = false := decide_eq_false (by omega)
      have hd3 : decide (n ≤ j) = false := decide_eq_false (by omega)
      have hd4 : decide (j < n) = true := decide_eq_true (by omega)
      clear k1 k2 k3 k4
      go_wp2_with (fail)
      refine wp_region_below wr (by kernel_rfl) (by kernel_rfl) (Below.refl _ _) ?_
      repeat (go_big_quiet_step (fail))
      refine wpQuiet_nil ?_
      intro _ hw'
      obtain ⟨y, hw''⟩ := hw'
      subst hw''
      clear f1 f2 f3 f4
      go_wp2_with (fail)
      go_roundw
      case rel => exact ⟨j + 1, by omega, by go_num, Lib.hid (Hb.out.trans (y.h.mono hsz))⟩
      case measure => simp [intOf]; omega
    · by_cases hlt2 : j < n + 12
      · obtain ⟨d, rfl⟩ : ∃ d, j = n + d := ⟨j - n, by omega⟩
        obtain ⟨b, o, e1, hbB, hc1⟩ := (Ho.out.below (Hb.out.mono hB)).at_ (by omega)
        cases e1
        obtain ⟨k1, k2⟩ := hc1 (n + d) (by omega)
        rw [allP_behind L n d Hln.out (by omega)] at k1 k2
        rw [Nat.zero_add] at k1 k2
        have hmk : ∀ W : World, Calls Tryz.prog 93 #[.int .i64 1, .int .i64 (d : Int)] W fun e w' => e = .returned (.agg #[.string ⟨#[]⟩, .int .i64 (markN 1 d : Nat)]) ∧ Below W.heap.size W w' := fun W => markPart_any 1 d W (by omega) (by omega)
        unfold mkPt at k1 k2
        simp only at k1 k2
        generalize ((markN 1 d : Nat) : Int) = m at k1 k2 hmk
        have f1 : ∀ y : BelowW wr, y.v.cell? ⟨g, (n + d) * 2, none⟩ = some (.string ⟨#[]⟩) := fun y => (y.h.cell (by show g < _; omega)).trans k1
        have f2 : ∀ y : BelowW wr, y.v.cell? ⟨g, (n + d) * 2 + 1, none⟩ = some (.int .i64 m) := fun y => (y.h.cell (by show g < _; omega)).trans k2
        clear hc1 k1 k2
        have heq : ∀ w : World, (Op.equalIn 10000 45 (.agg #[.string ⟨#[]⟩, .int .i64 m]) (.agg #[.string ⟨#[]⟩, .int .i64 m])).run Tryz.prog w = .ok true w := fun w => eqPart_self [] m w
        have i1 : decide ((n : Int) + (d : Int) < (n : Int)) = false := decide_eq_false (by omega)
        have i2 : decide ((n : Int) ≤ (n : Int) + (d : Int)) = true := decide_eq_true (by omega)
        have i3 : IntKind.i64.wrap ((n : Int) + (d : Int) - (n : Int)) = (d : Int) := by
          rw [show (n : Int) + (d : Int) - (n : Int) = (d : Int) by omega]
          exact wrap_in (by omega) (by omega)
        have i5 : (n : Int) + (d : Int) < (n : Int) + 12 := by omega
        have i6 : (0 : Int) ≤ (n : Int) + (d : Int) := by omega
        have c5 := Lib.hid hlt2
        clear hlt hj hlt2
        go_wp2_with (fail)
        refine wp_region_below wr (by kernel_rfl) (by kernel_rfl) (Below.refl _ _) ?_
        repeat (go_big_quiet_step ((go_at_call 93; exact below_call (hmk _))))
        refine wpQuiet_nil ?_
        intro _ hw'
        obtain ⟨y, hw''⟩ := hw'
        subst hw''
        clear f1 f2
        go_wp2_with (fail)
        have c6 := c5.out
        go_roundw
        case rel => exact ⟨n + d + 1, by omega, by go_num, Lib.hid (Hb.out.trans (y.h.mono hsz))⟩
        case measure => simp [intOf]; omega
      · go_wp2_with (fail)
        go_ret
        exact ⟨rfl, Hb.out⟩
end Go.Proofs.YthlmnoggeggpkaaGreat
