/- The walk of storemankit.LentLongs. -/
import Derived.Test.YtfonejlbiojjjaaGreatJLent
namespace Go.Proofs.YtfonejlbiojjjaaGreat
open Go.RowKit

set_option maxHeartbeats 2000000 in
set_option maxRecDepth 100000 in
theorem LentLongs_any (N : Nat) (a : Option Addr) (n c : Nat) (L : List Int) (w : World) (hr : RL N w a n c L) (hN : N ≤ w.heap.size) (hs : n ≤ 100000) :
    Calls Tryz.prog 30 #[.slice a n c] w fun e w' => (∃ g c', e = .returned (.slice (some ⟨g, 0, none⟩) n c') ∧ (n + 12 ≤ c' ∧ c' ≤ 9223372036854775807) ∧ OL w.heap.size w' (.slice (some ⟨g, 0, none⟩) (n + 12) c') (L ++ lentT)) ∧ Below w.heap.size w w' := by
  obtain ⟨i0, hi, hz0, hz1, hz2⟩ := info_parts Tryz.infoI64
  have hln := hr.len
  have hle := hr.le
  have hmx := hr.mx
  have Hln := Lib.hid hln
  have Hr := Lib.hid hr
  have Hi := Lib.hid hi
  have Hz0 := Lib.hid hz0
  have Hz1 := Lib.hid hz1
  have Hz2 := Lib.hid hz2
  have hb0 : i0.bytes * (n + 12) ≤ 281474976710656 := by rw [hz2]; omega
  have Hb0 := Lib.hid hb0
  clear hi hz0 hz1 hz2 hr hln hb0
  go_enter Tryz.func30, Tryz.ntmps30
  go_wp2_with (first
    | (refine wpList_make_own _ rfl _ _ 34 rfl w.heap.size 2 i0 (.int .i64 0) 1 Tryz.underlying34 Hi.out Hz0.out Hz1.out .i64 .i64 _ (n + 12) rfl rfl (by omega) Hb0.out (by simp only [maxLen]; omega) (Nat.le_refl _) ?_; intro w1 hown1 hg1; have O1 : Hid (OL w.heap.size w1 (.slice (some ⟨w.heap.size, 0, none⟩) 0 (n + 12)) []) := Lib.hid hown1; have B1 : Hid (Below w.heap.size w w1) := Lib.hid ((Below.refl _ w).grown hg1 (Nat.le_refl _) (fun r e => by cases e)); clear hown1 hg1)
    | (at_builtin; refine wpList_append_longs rfl _ _ rfl w.heap.size w.heap.size 0 (n + 12) [] L rfl O1.out _ _ _ rfl Hln.out (Hr.out.below (B1.out.mono hN)).src B1.out.size (by have := Hln.out; simp; omega) ?_; intro g2 c2 w2 hc2 hown2 hg2))
  rw [List.nil_append, Nat.zero_add] at hown2
  have O2 := Lib.hid hown2
  have B2 : Hid (Below w.heap.size w w2) := Lib.hid (B1.out.grown hg2 B1.out.size (fun r e => by cases e; exact Nat.le_refl _))
  clear hown2 hg2
  try rw [Nat.zero_add] at hc2
  try rw [Nat.zero_add]
  go_wp2_with (fail)
  go_loopw [3, 4] (fun v i wr => ∃ (j g c' : Nat), j ≤ 12 ∧ i = .int .i64 j ∧ v = .slice (some ⟨g, 0, none⟩) (n + j) c' ∧ Hid (n + j ≤ c' ∧ c' ≤ 9223372036854775807) ∧ Hid (OL w.heap.size wr (.slice (some ⟨g, 0, none⟩) (n + j) c') (L ++ lentT.take j)) ∧ Hid (Below w.heap.size w wr)) (fun _ i _ => 12 - (intOf i).toNat)
  case atStart => exact ⟨0, g2, c2, by omega, rfl, rfl, Lib.hid hc2, by simpa using O2, B2⟩
  case round =>
    obtain ⟨j, g, c', hj, rfl, rfl, hcc, Ho, Hb⟩ := hrel
    by_cases hlt : j < 12
    · have HM := Lib.hid (fun W => mark_any 1 j W (by omega) (by omega))
      have hmb := markN_bd 1 j (by omega) (by omega)
      have hsz := Hb.out.size
      have htk := lentT_take j hlt
      obtain ⟨m, hm⟩ : ∃ m, m = markN 1 j := ⟨_, rfl⟩
      rw [← hm] at HM hmb htk
      have Htk := Lib.hid htk
      have O3 := Lib.hid (Ho.out.below ((Below.refl _ wr).alloc (Nat.le_refl _) (.cells #[.int .i64 (m : Int)] 2)))
      clear hm htk
      go_wp2_with (first | (go_at_call 34; refine (HM.out _).mono ?_; rintro e w' ⟨rfl, rfl⟩) | (at_builtin; refine wpList_append_longs rfl _ _ rfl w.heap.size g (n + j) c' (L ++ lentT.take j) [(m : Int)] rfl O3.out _ 1 _ rfl rfl (fun _ => ⟨_, rfl, one_long _ _ _⟩) (by simp; omega) (by have := Hln.out; simp; omega) ?_; intro g4 c4 w4 hc4 hown4 hg4))
      have O4 := Lib.hid (show OL w.heap.size w4 (.slice (some ⟨g4, 0, none⟩) (n + (j + 1)) c4) (L ++ lentT.take (j + 1)) from by rw [Htk.out, ← List.append_assoc]; exact hown4)
      have B4 : Hid (Below w.heap.size w w4) := Lib.hid ((Hb.out.alloc hsz _).grown hg4 (by simp; omega) (fun r e => by cases e; exact (Ho.out.ge _ rfl).1))
      have C4 := Lib.hid hc4
      clear hown4 hg4 hc4
      go_roundw
      case rel => exact ⟨j + 1, g4, c4, by omega, by go_num, by go_num, C4, O4, B4⟩
      case measure => simp [intOf]; omega
    · have hge : j = 12 := by omega
      subst hge
      obtain ⟨q1, q2⟩ := hcc.out
      have q4 : (n : Int) ≤ (c' : Int) := by omega
      go_wp2_with (fail)
      go_ret
      refine ⟨⟨g, c', rfl, ⟨q1, q2⟩, ?_⟩, Hb.out⟩
      have h := Ho.out
      rw [List.take_of_length_le (Nat.le_of_eq lentT_len)] at h
      exact h
end Go.Proofs.YtfonejlbiojjjaaGreat
