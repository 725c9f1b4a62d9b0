/- The walk of the law AmountOrder. -/
import Derived.Test.YtfonejlbiojjjaaJOrderL
import Derived.Test.YtfonejlbiojjjaaJTwo
import Derived.Deep.DeepCutAuto
namespace Go.Proofs.Ytfonejlbiojjjaa
open Go.RowKit

theorem sum3_any (a b c : Int) (w : World) (ha : -9223372036854775808 ≤ a ∧ a ≤ 9223372036854775807) (hb : -9223372036854775808 ≤ b ∧ b ≤ 9223372036854775807) (hc : -9223372036854775808 ≤ c ∧ c ≤ 9223372036854775807) :
    Calls Try.prog 15 #[.slice (some ⟨w.heap.size, 0, none⟩) 3 3] (w.alloc (.cells #[.int .i64 a, .int .i64 b, .int .i64 c] 2)) fun e w' => e = .returned (.tuple #[.int .i64 (ansV (sumL 0 [a, b, c])), .bool (sumL 0 [a, b, c]).isSome]) ∧ w.alloc (.cells #[.int .i64 a, .int .i64 b, .int .i64 c] 2) = w' := by
  refine Sum_any (w.heap.size + 1) _ _ _ _ _ ⟨rfl, by omega, by omega, fun x hx => ?_, fun _ => ⟨w.heap.size, 0, rfl, by omega, fun i hi => ?_⟩⟩
  · simp at hx
    rcases hx with rfl | rfl | rfl
    · exact ha
    · exact hb
    · exact hc
  · have hb := (Go.MapKept.heap_alloc w (.cells #[.int .i64 a, .int .i64 b, .int .i64 c] 2)).1
    rcases (show i = 0 ∨ i = 1 ∨ i = 2 by omega) with rfl | rfl | rfl <;> simp only [World.cell?, hb] <;> rfl

set_option maxHeartbeats 8000000 in
set_option maxRecDepth 100000 in
theorem Order_any (a b c : Int) (w : World) (ha : -9223372036854775808 ≤ a ∧ a ≤ 9223372036854775807) (hb : -9223372036854775808 ≤ b ∧ b ≤ 9223372036854775807) (hc : -9223372036854775808 ≤ c ∧ c ≤ 9223372036854775807) :
    Calls Try.prog 5 #[.int .i64 a, .int .i64 b, .int .i64 c] w fun e w' => e = .returned (.bool true) ∧ Below w.heap.size w w' := by
  have h1 := fun W => Add_any a b W ha hb
  have h2 := fun W => Add_any b a W hb ha
  have h3 := fun W => Times_any a b W
  have h4 := fun W => Times_any b a W
  have h5 := fun W => sum3_any a b c W ha hb hc
  have h6 := fun W => sum3_any c a b W hc ha hb
  rw [addA_comm a b] at h2
  rw [timesA_comm a b] at h4
  rw [sum3_comm a b c] at h6
  obtain ⟨x, hx⟩ : ∃ x, x = ansV (addA a b) := ⟨_, rfl⟩
  obtain ⟨ok, hok⟩ : ∃ ok, ok = (addA a b).isSome := ⟨_, rfl⟩
  obtain ⟨p, hp⟩ : ∃ p, p = ansV (timesA a b) := ⟨_, rfl⟩
  obtain ⟨fine, hf⟩ : ∃ fine, fine = (timesA a b).isSome := ⟨_, rfl⟩
  obtain ⟨s, hs⟩ : ∃ s, s = ansV (sumL 0 [a, b, c]) := ⟨_, rfl⟩
  obtain ⟨all, hall⟩ : ∃ all, all = (sumL 0 [a, b, c]).isSome := ⟨_, rfl⟩
  have hxi := addA_in a b
  have hpi := timesA_in a b
  rw [← hx, ← hok] at h1 h2
  rw [← hp, ← hf] at h3 h4
  rw [← hs, ← hall] at h5 h6
  rw [← hx] at hxi
  rw [← hp] at hpi
  have h7 := fun W => Add_any x c W (by omega) hc
  have h8 := fun W => Add_any b c W hb hc
  obtain ⟨z, hz⟩ : ∃ z, z = ansV (addA x c) := ⟨_, rfl⟩
  obtain ⟨left, hl⟩ : ∃ left, left = (addA x c).isSome := ⟨_, rfl⟩
  obtain ⟨y, hy⟩ : ∃ y, y = ansV (addA b c) := ⟨_, rfl⟩
  obtain ⟨right, hr⟩ : ∃ right, right = (addA b c).isSome := ⟨_, rfl⟩
  have hyi := addA_in b c
  rw [← hz, ← hl] at h7
  rw [← hy, ← hr] at h8
  rw [← hy] at hyi
  have h9 := fun W => Add_any a y W ha (by omega)
  obtain ⟨v, hv⟩ : ∃ v, v = ansV (addA a y) := ⟨_, rfl⟩
  obtain ⟨whole, hw⟩ : ∃ whole, whole = (addA a y).isSome := ⟨_, rfl⟩
  rw [← hv, ← hw] at h9
  have h10 := fun W => Times_any a y W
  have h11 := fun W => Times_any a c W
  obtain ⟨d, hd⟩ : ∃ d, d = ansV (timesA a y) := ⟨_, rfl⟩
  obtain ⟨sum, hsum⟩ : ∃ sum, sum = (timesA a y).isSome := ⟨_, rfl⟩
  obtain ⟨e, he⟩ : ∃ e, e = ansV (timesA a c) := ⟨_, rfl⟩
  obtain ⟨second, hsec⟩ : ∃ second, second = (timesA a c).isSome := ⟨_, rfl⟩
  have hei := timesA_in a c
  rw [← hd, ← hsum] at h10
  rw [← he, ← hsec] at h11
  rw [← he] at hei
  have h12 := fun W => Add_any p e W (by omega) (by omega)
  obtain ⟨f, hff⟩ : ∃ f, f = ansV (addA p e) := ⟨_, rfl⟩
  obtain ⟨made, hm⟩ : ∃ made, made = (addA p e).isSome := ⟨_, rfl⟩
  rw [← hff, ← hm] at h12
  have L1 := Lib.hid (order_sum a b c hx hok hy hr hz hl hv hw hs hall)
  have L2 := Lib.hid (order_times a b c hy hr hp hf hd hsum he hsec hff hm)
  have L3 := Lib.hid (order_ok a b c hs hall)
  have h6' : ∀ W : World, Calls Try.prog 15 #[.slice (some ⟨W.heap.size + 1, 0, none⟩) 3 3] ((W.alloc (.cells #[.int .i64 a, .int .i64 b, .int .i64 c] 2)).alloc (.cells #[.int .i64 c, .int .i64 a, .int .i64 b] 2)) fun e w' => e = .returned (.tuple #[.int .i64 s, .bool all]) ∧ (W.alloc (.cells #[.int .i64 a, .int .i64 b, .int .i64 c] 2)).alloc (.cells #[.int .i64 c, .int .i64 a, .int .i64 b] 2) = w' := fun W => by
    have e : (W.alloc (.cells #[.int .i64 a, .int .i64 b, .int .i64 c] 2)).heap.size = W.heap.size + 1 := by simp
    have := h6 (W.alloc (.cells #[.int .i64 a, .int .i64 b, .int .i64 c] 2))
    rw [e] at this
    exact this
  have h13 := fun n W => Right_any n W
  have h14 := awake_any
  clear hx hok hp hf hs hall hz hl hy hr hv hw hd hsum he hsec hff hm hxi hpi hyi hei
  go_enter Try.func5, Try.ntmps5
  go_upto_region 14 with (first
    | (go_at_call 7; first | (with_reducible refine (h1 _).mono ?_; rintro e' w1 ⟨rfl, hb1⟩) | (with_reducible refine (h2 _).mono ?_; rintro e' w2 ⟨rfl, hb2⟩) | (with_reducible refine (h7 _).mono ?_; rintro e' w3 ⟨rfl, hb3⟩) | (with_reducible refine (h8 _).mono ?_; rintro e' w4 ⟨rfl, hb4⟩) | (with_reducible refine (h9 _).mono ?_; rintro e' w5 ⟨rfl, hb5⟩))
    | (go_at_call 9; first | (with_reducible refine (h3 _).mono ?_; rintro e' w' ⟨rfl, rfl⟩) | (with_reducible refine (h4 _).mono ?_; rintro e' w' ⟨rfl, rfl⟩))
    | (go_at_call 15; first | (with_reducible refine (h5 _).mono ?_; rintro e' w' ⟨rfl, rfl⟩) | (with_reducible refine (h6' _).mono ?_; rintro e' w' ⟨rfl, rfl⟩))
    | (go_at_call 13; refine (h14 _).mono ?_; rintro e' w0 ⟨rfl, hb0⟩))
  go_cut [153] (fun t wx => t = .bool false ∧ w5 = wx)
  case first =>
    rcases L1.out with ⟨rfl, rfl, rfl⟩ | ⟨rfl, rfl, rfl, rfl⟩ | ⟨rfl, rfl, rfl, rfl⟩ | ⟨rfl, rfl, rfl, rfl, rfl⟩ | ⟨rfl, rfl, rfl, rfl, rfl, rfl, rfl⟩
    all_goals (go_wp2_with (fail); go_meet; exact ⟨rfl, rfl⟩)
  case rest =>
    obtain ⟨rfl, rfl⟩ := hcut
    go_upto_region 19 with (first
      | (go_at_call 7; with_reducible refine (h12 _).mono ?_; rintro e' w6 ⟨rfl, hb6⟩)
      | (go_at_call 9; first | (with_reducible refine (h10 _).mono ?_; rintro e' w' ⟨rfl, rfl⟩) | (with_reducible refine (h11 _).mono ?_; rintro e' w' ⟨rfl, rfl⟩)))
    go_cut [190] (fun t wx => t = .bool false ∧ w6 = wx)
    case first =>
      rcases L2.out with rfl | ⟨rfl, rfl⟩ | ⟨rfl, rfl, rfl⟩ | ⟨rfl, rfl, rfl, rfl⟩ | ⟨rfl, rfl, rfl, rfl, rfl, rfl⟩
      all_goals (go_wp2_with (fail); go_meet; exact ⟨rfl, rfl⟩)
    case rest =>
      obtain ⟨rfl, rfl⟩ := hcut
      have HB := Lib.hid (show Below w.heap.size w w6 from by
        have s0 := hb0.size; have s1 := hb1.size; have s2 := hb2.size; have s3 := hb3.size; have s4 := hb4.size; have s5 := hb5.size
        simp at s3
        have k1 := (hb0.trans (hb1.mono s0)).trans (hb2.mono (by omega))
        have k2 := ((k1.alloc (by omega) (.cells #[.int .i64 a, .int .i64 b, .int .i64 c] 2)).alloc (by simp; omega) (.cells #[.int .i64 c, .int .i64 a, .int .i64 b] 2))
        exact (((k2.trans (hb3.mono (by simp; omega))).trans (hb4.mono (by omega))).trans (hb5.mono (by omega))).trans (hb6.mono (by omega)))
      clear hb0 hb1 hb2 hb3 hb4 hb5 hb6
      rcases L3.out with rfl | ⟨rfl, q1, q2, q3, q4, q5⟩
      · go_wp2_with (fail)
        go_ret
        exact ⟨rfl, HB.out⟩
      · have r1 := fun W => h13 a W
        have r2 := fun W => h13 b W
        have r3 := fun W => h13 c W
        have r4 := fun W => h13 s W
        rw [q1] at r1
        rw [q2] at r2
        rw [q3] at r3
        rw [q4] at r4
        clear q1 q2 q3 q4
        go_wp2_with (go_at_call 11; first | (with_reducible refine (r1 _).mono ?_; rintro e' w' ⟨rfl, rfl⟩) | (with_reducible refine (r2 _).mono ?_; rintro e' w' ⟨rfl, rfl⟩) | (with_reducible refine (r3 _).mono ?_; rintro e' w' ⟨rfl, rfl⟩) | (with_reducible refine (r4 _).mono ?_; rintro e' w' ⟨rfl, rfl⟩))
        go_ret
        exact ⟨rfl, HB.out⟩
end Go.Proofs.Ytfonejlbiojjjaa
