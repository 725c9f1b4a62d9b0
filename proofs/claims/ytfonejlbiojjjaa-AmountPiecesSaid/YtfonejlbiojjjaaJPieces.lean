/- The walk of the law AmountPieces: a list that refuses to be joined. -/
import Derived.Test.YtfonejlbiojjjaaJPieceA
import Derived.Deep.DeepCutAuto
import Derived.Deep.RegionHeld3
namespace Go.Proofs.Ytfonejlbiojjjaa
open Go.RowKit

set_option maxHeartbeats 8000000 in
set_option maxRecDepth 100000 in
theorem Pieces_no (b o n c : Nat) (P : List Pt) (x : Int) (w : World) (hl : RP w.heap.size w (some ⟨b, o, none⟩) n c P) (hx : -9223372036854775808 ≤ x ∧ x ≤ 9223372036854775807) (hn : n ≤ 140737488355328) (ht : ∀ p ∈ P, p.1.length ≤ 140737488355328) (hT : joinL [] P = none) :
    Calls Try.prog 6 #[.slice (some ⟨b, o, none⟩) n c, .int .i64 x] w fun e w' => e = .returned (.bool true) ∧ Below w.heap.size w w' := by
  have hle := hl.le; have hmx := hl.mx
  have h0 := awake_any
  have Hl := Lib.hid hl
  have Hln := Lib.hid hl.len
  have HT := Lib.hid hT
  have Ht := Lib.hid ht
  have Hg : Hid (∀ W : World, Below w.heap.size w W → Calls Try.prog 18 #[.slice (some ⟨W.heap.size, 0, none⟩) 1 1] (W.alloc (.cells #[.slice (some ⟨b, o, none⟩) n c] 34)) fun e w' => (∃ gr, e = .returned (.bool gr) ∧ (gr = false → n ≤ 300)) ∧ W.alloc (.cells #[.slice (some ⟨b, o, none⟩) n c] 34) = w') := Lib.hid fun W hb => great_one (hl.below hb) hb.size hn ht
  clear hl hT ht
  go_enter Try.func6, Try.ntmps6
  go_wp2_with (first | (go_at_call 13; refine (h0 _).mono ?_; rintro e w1 ⟨rfl, hb1⟩) | (go_at_call 18; refine (Hg.out _ hb1).mono ?_; rintro e w' ⟨⟨gr, rfl, hgr⟩, rfl⟩; have Hgr := Lib.hid hgr; clear hgr; cases gr))
  rotate_left
  · go_ret
    exact ⟨rfl, hb1.alloc hb1.size _⟩
  have hn3 : n ≤ 300 := Hgr.out trivial
  have h2 := fun W => Pick_any x ((n : Int) + 1) W hx (by omega)
  have hb2 := Lib.hid (hb1.alloc hb1.size (.cells #[.slice (some ⟨b, o, none⟩) n c] 34))
  have HJ1 : Hid (∀ W : World, Below w.heap.size w W → Calls Try.prog 20 #[.slice (some ⟨W.heap.size, 0, none⟩) 1 1] (W.alloc (.cells #[.slice (some ⟨b, o, none⟩) n c] 34)) fun e w' => e = .returned (.tuple #[.slice none 0 0, .bool false]) ∧ Below W.heap.size W w') := Lib.hid fun W hb => by
    have := join_one (Hl.out.below hb) hb.size (by have := Hln.out; omega)
    rw [HT.out] at this
    exact this.mono fun e w' h => ⟨h.2, h.1⟩
  generalize w1.alloc (.cells #[.slice (some ⟨b, o, none⟩) n c] 34) = w2 at hb2 ⊢
  clear hb1
  go_wp2_with (first | (go_at_call 19; refine (h2 _).mono ?_; rintro e w' ⟨⟨k, hk, rfl⟩, rfl⟩) | (go_at_call 20; refine (HJ1.out _ hb2.out).mono ?_; rintro e w3 ⟨rfl, hb3⟩))
  have k1 : k ≤ n := by omega
  have k2 : (k : Int) ≤ (n : Int) := by omega
  have k3 : (n : Int) ≤ (c : Int) := by omega
  have k4 : (0 : Int) ≤ (k : Int) := by omega
  have k5 : (k : Int) ≤ (c : Int) := by omega
  have HJ2 : Hid (∀ W : World, Below w.heap.size w W → Calls Try.prog 20 #[.slice (some ⟨W.heap.size, 0, none⟩) 3 3] (W.alloc (.cells #[.slice (if c = k then some ⟨b, o, none⟩ else some ⟨b, o + k * 2, none⟩) (n - k) (c - k), .slice none 0 0, .slice (some ⟨b, o, none⟩) k c] 34)).drew fun e w' => e = .returned (.tuple #[.slice none 0 0, .bool false]) ∧ Below W.heap.size W w') := Lib.hid fun W hb => by
    have hl2 := Hl.out.below hb.drew
    have := join_three (W := W.drew) (hl2.drop' k1) (RP.nil _ _) (hl2.take k1) hb.drew.size (by have := Hln.out; simp; omega)
    rw [List.append_nil, joinL_swap, List.take_append_drop, HT.out] at this
    exact this.mono fun e w' h => ⟨h.2, (Below.refl _ W).drew.trans h.1⟩
  have hb4 := Lib.hid (hb2.out.trans (hb3.mono hb2.out.size))
  go_upto_region 7 with (fail)
  go_cut [8, 9] (fun s8 s9 wx => s8 = .slice none 0 0 ∧ s9 = .bool false ∧ Hid (Below w.heap.size w wx))
  case first =>
    by_cases hck : c = k
    · have hnk : n = k := by omega
      subst hnk
      subst hck
      have HJ3 := HJ2
      simp only [if_true, Nat.sub_self] at HJ3
      clear HJ2
      go_region_held3 (fun _ => True) (trivial) (first | (go_at_call 20; refine (HJ3.out _ hb4.out).mono ?_; rintro e w5 ⟨rfl, hb5⟩))
      go_wp2_with (fail)
      go_meet
      exact ⟨rfl, rfl, Lib.hid (hb4.out.trans (hb5.mono hb4.out.size))⟩
    · have HJ3 := HJ2
      simp only [if_neg hck] at HJ3
      clear HJ2
      go_region_held3 (fun _ => True) (trivial) (first | (go_at_call 20; refine (HJ3.out _ hb4.out).mono ?_; rintro e w5 ⟨rfl, hb5⟩))
      go_wp2_with (fail)
      go_meet
      exact ⟨rfl, rfl, Lib.hid (hb4.out.trans (hb5.mono hb4.out.size))⟩
  case rest =>
    obtain ⟨rfl, rfl, hb5⟩ := hcut
    have HS : ∀ W : World, Calls Try.prog 21 #[.slice none 0 0, .slice none 0 0] W fun e w' => e = .returned (.bool true) ∧ ∃ q, w' = W.drewN q := fun W => by
      have := SameParts_any 0 none none 0 0 0 0 [] [] W (RP.nil _ _) (RP.nil _ _)
      rw [decide_eq_true rfl] at this
      exact this
    obtain ⟨A, hA⟩ : ∃ A, A = joinL [] (P.take k) := ⟨_, rfl⟩
    have HK : Hid (A = none → 0 < k) := Lib.hid fun h => by
      rw [h] at hA
      rcases Nat.eq_zero_or_pos k with h0 | h0
      · rw [h0] at hA; cases hA
      · exact h0
    have HJ5 : Hid (∀ W : World, Below w.heap.size w W → Calls Try.prog 20 #[.slice (some ⟨W.heap.size, 0, none⟩) 1 1] (W.alloc (.cells #[.slice (some ⟨b, o, none⟩) k c] 34)) fun e w' => (∃ v f1, e = .returned (.tuple #[v, .bool f1]) ∧ (f1 = false → 0 < k)) ∧ Below W.heap.size W w') := Lib.hid fun W hb => by
      have := join_one ((Hl.out.below hb).take k1) hb.size (by have := Hln.out; simp; omega)
      rw [← hA] at this
      refine this.mono fun e w' h => ⟨?_, h.1⟩
      cases A with
      | none => exact ⟨_, _, h.2, fun _ => HK.out rfl⟩
      | some R =>
        obtain ⟨-, a', c', he, -⟩ := h
        exact ⟨_, _, he, fun h => by cases h⟩
    have HJ6 : Hid (∀ W : World, Below w.heap.size w W → Calls Try.prog 20 #[.slice (some ⟨W.heap.size + 1, 0, none⟩) 3 3] (((W.alloc (.cells #[.string ⟨#[65]⟩, .int .i64 0] 41)).alloc (.cells #[.slice (if c = k then some ⟨b, o, none⟩ else some ⟨b, o + k * 2, none⟩) (n - k) (c - k), .slice (some ⟨b, o, none⟩) k c, .slice (some ⟨W.heap.size, 0, none⟩) 1 1] 34)).drew) fun e w' => e = .returned (.tuple #[.slice none 0 0, .bool false]) ∧ Below W.heap.size W w') := Lib.hid fun W hb => by
      have f1 : Fine [(tA, 0)] := by intro p hp; simp at hp; subst hp; simp [tA]
      have r1 := RP.lit W.drew [(tA, 0)] 41 f1 (by simp)
      have e1 : (cellsP [(tA, 0)]).toArray = #[.string ⟨#[65]⟩, .int .i64 0] := rfl
      rw [e1] at r1
      have hbA : Below w.heap.size w (W.drew.alloc (.cells #[.string ⟨#[65]⟩, .int .i64 0] 41)) := hb.drew.alloc hb.drew.size _
      have hl2 := (Hl.out.below hbA).mono (show w.heap.size ≤ W.drew.heap.size + 1 from Nat.le_succ_of_le hb.drew.size)
      have hsz : (W.drew.alloc (.cells #[.string ⟨#[65]⟩, .int .i64 0] 41)).heap.size = W.heap.size + 1 := by rw [World.size_alloc]; rfl
      have := join_three (hl2.drop' k1) (hl2.take k1) r1 (by rw [hsz]; exact Nat.le_refl _) (by have := Hln.out; simp; omega)
      rw [joinL_more (by rw [joinL_swap, List.take_append_drop]; exact HT.out), hsz] at this
      exact this.mono fun e w' h => ⟨h.2, ((Below.refl _ W).drew.alloc (Nat.le_refl _) _).trans (h.1.mono (by rw [hsz]; exact Nat.le_succ _))⟩
    clear hA HK
    go_upto_region 11 with (go_at_call 21; refine (HS _).mono ?_; rintro e w6 ⟨rfl, q, hq⟩; have hb6 := Lib.hid (show Below w.heap.size w w6 from hq ▸ hb5.out.trans ⟨rfl, rfl, rfl, Nat.le_refl _, fun _ _ => rfl⟩); clear hq)
    go_upto_region 12 with (go_at_call 20; refine (HJ5.out _ hb6.out).mono ?_; rintro e w7 ⟨⟨v7, f1, rfl, hf1⟩, hb7⟩; have Hf1 := Lib.hid hf1; have hb8 := Lib.hid (hb6.out.trans (hb7.mono hb6.out.size)); clear hf1 hb7)
    go_cut [12, 13] (fun _ s13 wx => s13 = .bool false ∧ Hid (Below w.heap.size w wx))
    case first =>
      by_cases hck : c = k
      · have hnk : n = k := by omega
        subst hnk
        subst hck
        have HJ7 := HJ6
        simp only [if_true, Nat.sub_self] at HJ7
        clear HJ6
        go_region_held3 (fun _ => True) (trivial) (first | (go_at_call 20; refine (HJ7.out _ hb8.out).mono ?_; rintro e w9 ⟨rfl, hb9⟩))
        go_wp2_with (fail)
        go_meet
        exact ⟨rfl, Lib.hid (hb8.out.trans (hb9.mono hb8.out.size))⟩
      · have HJ7 := HJ6
        simp only [if_neg hck] at HJ7
        clear HJ6
        go_region_held3 (fun _ => True) (trivial) (first | (go_at_call 20; refine (HJ7.out _ hb8.out).mono ?_; rintro e w9 ⟨rfl, hb9⟩))
        go_wp2_with (fail)
        go_meet
        exact ⟨rfl, Lib.hid (hb8.out.trans (hb9.mono hb8.out.size))⟩
    case rest =>
      obtain ⟨rfl, hb9⟩ := hcut
      cases f1 with
      | false =>
        have hk0 := Hf1.out rfl
        have hk9 : (0 : Int) < (k : Int) := by omega
        go_wp2_with (fail)
        go_ret
        exact ⟨rfl, hb9.out⟩
      | true =>
        go_wp2_with (fail)
        go_ret
        exact ⟨rfl, hb9.out⟩
end Go.Proofs.Ytfonejlbiojjjaa
