/- The walk of the law AmountPieces: a list that is joined. -/
import Derived.Test.YtfonejlbiojjjaaJPieces
import Derived.Deep.DeepCutAuto
import Derived.Deep.RegionHeld3
namespace Go.Proofs.Ytfonejlbiojjjaa
open Go.RowKit

theorem fine_join {P S : List Pt} (hP : Fine P) (h : joinL [] P = some S) : Fine S := by
  intro p hp
  have h1 := okA_iff.1 ((joinL_up Up.nil h).2 p hp)
  have h2 := (joinL_keys h p.1).1 (List.mem_map.2 ⟨p, hp, rfl⟩)
  rcases h2 with h2 | h2
  · cases h2
  · obtain ⟨q, hq, e⟩ := List.mem_map.1 h2
    have := (hP q hq).1
    rw [e] at this
    exact ⟨this, by omega, by omega⟩
theorem setAt_len' : ∀ {L S R : List Pt}, joinL S L = some R → R.length ≤ S.length + L.length
  | [], S, R, e => by cases e; simp
  | p :: L, S, R, e => by
    rw [joinL_cons] at e
    cases hA : addA (sumAt S p.1) p.2 with
    | none => rw [hA] at e; cases e
    | some n =>
      rw [hA] at e
      have h1 := setAt_len' e
      have h2 := setAt_len S p.1 n
      simp only [List.length_cons]; omega

set_option maxHeartbeats 8000000 in
set_option maxRecDepth 100000 in
theorem Pieces_yes (a : Option Addr) (n c : Nat) (P S : List Pt) (x : Int) (w : World) (hl : RP w.heap.size w a n c P) (hx : -9223372036854775808 ≤ x ∧ x ≤ 9223372036854775807) (hn : n ≤ 140737488355328) (ht : ∀ p ∈ P, p.1.length ≤ 140737488355328) (hT : joinL [] P = some S) :
    Calls Try.prog 6 #[.slice a n c, .int .i64 x] w fun e w' => e = .returned (.bool true) ∧ Below w.heap.size w w' := by
  have hle := hl.le; have hmx := hl.mx
  have h0 := awake_any
  have Hl := Lib.hid hl
  have Hln := Lib.hid hl.len
  have HT := Lib.hid hT
  have Ht := Lib.hid ht
  have Hf := Lib.hid (fine_join hl.fine hT)
  have Hu := Lib.hid (joinL_up Up.nil hT)
  have Hsl := Lib.hid (setAt_len' hT)
  have Hg : Hid (∀ W : World, Below w.heap.size w W → Calls Try.prog 18 #[.slice (some ⟨W.heap.size, 0, none⟩) 1 1] (W.alloc (.cells #[.slice a n c] 34)) fun e w' => (∃ gr, e = .returned (.bool gr) ∧ (gr = false → n ≤ 300)) ∧ W.alloc (.cells #[.slice a n c] 34) = w') := Lib.hid fun W hb => great_one (hl.below hb) hb.size hn ht
  clear hl hT ht
  go_enter Try.func6, Try.ntmps6
  go_wp2_with (first | (go_at_call 13; refine (h0 _).mono ?_; rintro e w1 ⟨rfl, hb1⟩) | (go_at_call 18; refine (Hg.out _ hb1).mono ?_; rintro e w' ⟨⟨gr, rfl, hgr⟩, rfl⟩; have Hgr := Lib.hid hgr; clear hgr; cases gr))
  rotate_left
  · go_ret
    exact ⟨rfl, hb1.alloc hb1.size _⟩
  have hn3 : n ≤ 300 := Hgr.out trivial
  have h2 := fun W => Pick_any x ((n : Int) + 1) W hx (by omega)
  have hb2 := Lib.hid (hb1.alloc hb1.size (.cells #[.slice a n c] 34))
  have HJ1 : Hid (∀ W : World, Below w.heap.size w W → Calls Try.prog 20 #[.slice (some ⟨W.heap.size, 0, none⟩) 1 1] (W.alloc (.cells #[.slice a n c] 34)) fun e w' => Below W.heap.size W w' ∧ ∃ a' c', e = .returned (.tuple #[.slice a' S.length c', .bool true]) ∧ OP W.heap.size w' (.slice a' S.length c') S) := Lib.hid fun W hb => by
    have := join_one (Hl.out.below hb) hb.size (by have := Hln.out; omega)
    rw [HT.out] at this
    exact this
  generalize w1.alloc (.cells #[.slice a n c] 34) = w2 at hb2 ⊢
  clear hb1
  go_wp2_with (first | (go_at_call 19; refine (h2 _).mono ?_; rintro e w' ⟨⟨k, hk, rfl⟩, rfl⟩) | (go_at_call 20; refine (HJ1.out _ hb2.out).mono ?_; rintro e w3 ⟨hb3, a1, c1, rfl, ho3⟩))
  have k1 : k ≤ n := by omega
  have k2 : (k : Int) ≤ (n : Int) := by omega
  have k3 : (n : Int) ≤ (c : Int) := by omega
  have k4 : (0 : Int) ≤ (k : Int) := by omega
  have k5 : (k : Int) ≤ (c : Int) := by omega
  have hb4 := Lib.hid (hb2.out.trans (hb3.mono hb2.out.size))
  have Ho3 := Lib.hid ho3
  clear hb3 ho3
  go_upto_region 7 with (fail)
  go_cut [8, 9] (fun s8 s9 wx => s9 = .bool true ∧ ∃ a2 c2, s8 = .slice a2 S.length c2 ∧ Hid (OP w3.heap.size wx (.slice a2 S.length c2) S) ∧ Hid (Below w3.heap.size w3 wx))
  case first =>
    by_cases hc0 : c = 0
    · subst hc0
      obtain rfl : n = 0 := by omega
      obtain rfl : k = 0 := by omega
      have HJ2 : Hid (∀ W : World, Below w.heap.size w W → Calls Try.prog 20 #[.slice (some ⟨W.heap.size, 0, none⟩) 3 3] (W.alloc (.cells #[.slice a 0 0, .slice none 0 0, .slice a 0 0] 34)).drew fun e w' => Below W.heap.size W w' ∧ ∃ a' c', e = .returned (.tuple #[.slice a' S.length c', .bool true]) ∧ OP W.heap.size w' (.slice a' S.length c') S) := Lib.hid fun W hb => by
        have := join_three (W := W.drew) (RP.emp w.heap.size _ a) (RP.nil _ _) (RP.emp _ _ a) hb.drew.size (by simp)
        have hP : P = [] := List.eq_nil_of_length_eq_zero Hln.out.symm
        have h3 := HT.out
        rw [hP] at h3
        rw [show ([] : List Pt) ++ [] ++ [] = [] from rfl, h3] at this
        exact this.mono fun e w' h => h.shift (Below.refl _ W).drew
      cases a
      all_goals
        go_region_held3 (fun _ => True) (trivial) (first | (go_at_call 20; refine (HJ2.out _ hb4.out).mono ?_; rintro e w5 ⟨hb5, a2, c2, rfl, ho5⟩; have Ho5 := Lib.hid ho5; clear ho5))
        go_wp2_with (fail)
        go_meet
        exact ⟨rfl, a2, c2, rfl, Ho5, Lib.hid hb5⟩
    · obtain ⟨b, o, rfl, -⟩ := Hl.out.at_ (by omega)
      have HJ2 : Hid (∀ W : World, Below w.heap.size w W → Calls Try.prog 20 #[.slice (some ⟨W.heap.size, 0, none⟩) 3 3] (W.alloc (.cells #[.slice (if c = k then some ⟨b, o, none⟩ else some ⟨b, o + k * 2, none⟩) (n - k) (c - k), .slice none 0 0, .slice (some ⟨b, o, none⟩) k c] 34)).drew fun e w' => Below W.heap.size W w' ∧ ∃ a' c', e = .returned (.tuple #[.slice a' S.length c', .bool true]) ∧ OP W.heap.size w' (.slice a' S.length c') S) := Lib.hid fun W hb => by
        have hl2 := Hl.out.below hb.drew
        have := join_three (W := W.drew) (hl2.drop' k1) (RP.nil _ _) (hl2.take k1) hb.drew.size (by have := Hln.out; simp; omega)
        rw [List.append_nil, joinL_swap, List.take_append_drop, HT.out] at this
        exact this.mono fun e w' h => h.shift (Below.refl _ W).drew
      by_cases hck : c = k
      · have hnk : n = k := by omega
        subst hnk
        subst hck
        have HJ3 := HJ2
        simp only [if_true, Nat.sub_self] at HJ3
        clear HJ2
        go_region_held3 (fun _ => True) (trivial) (first | (go_at_call 20; refine (HJ3.out _ hb4.out).mono ?_; rintro e w5 ⟨hb5, a2, c2, rfl, ho5⟩; have Ho5 := Lib.hid ho5; clear ho5))
        go_wp2_with (fail)
        go_meet
        exact ⟨rfl, a2, c2, rfl, Ho5, Lib.hid hb5⟩
      · have HJ3 := HJ2
        simp only [if_neg hck] at HJ3
        clear HJ2
        go_region_held3 (fun _ => True) (trivial) (first | (go_at_call 20; refine (HJ3.out _ hb4.out).mono ?_; rintro e w5 ⟨hb5, a2, c2, rfl, ho5⟩; have Ho5 := Lib.hid ho5; clear ho5))
        go_wp2_with (fail)
        go_meet
        exact ⟨rfl, a2, c2, rfl, Ho5, Lib.hid hb5⟩
  case rest =>
    obtain ⟨rfl, a2, c2, rfl, ho5, hb5⟩ := hcut
    obtain ⟨a1', c1', e1, r1⟩ := (Ho3.out.below hb5.out).rp Hf.out
    cases e1
    obtain ⟨a2', c2', e2, r2⟩ := ho5.out.rp Hf.out
    cases e2
    have HS := Lib.hid (SameParts_any _ _ _ _ _ _ _ _ _ _ r1 r2)
    rw [decide_eq_true rfl] at HS
    have Hb6 := Lib.hid (hb4.out.trans (hb5.out.mono hb4.out.size))
    have h1le := r1.le
    have h1mx := r1.mx
    have R1 := Lib.hid r1
    have Ho1 := Lib.hid (Ho3.out.below hb5.out)
    clear r1 r2 ho5 hb5 Ho3
    go_wp2_with (go_at_call 21; refine HS.out.mono ?_; rintro e w6 ⟨rfl, q, rfl⟩)
    generalize hw6 : wc.drewN q = w6
    have hd6 : Below wc.heap.size wc w6 := hw6 ▸ ⟨rfl, rfl, rfl, Nat.le_refl _, fun _ _ => rfl⟩
    have hs6 : w6.heap.size = wc.heap.size := hw6 ▸ rfl
    have Ra := Lib.hid (R1.out.below hd6)
    have Hb7 := Lib.hid (Hb6.out.trans (hd6.mono Hb6.out.size))
    have Oa := Lib.hid (Ho1.out.below hd6)
    rw [← hs6] at Ra
    clear hw6 R1 Ho1 Hb6 HS hd6 hs6
    go_loopw [14] (fun s wx => ∃ i : Nat, s = .int .i64 i ∧ 1 ≤ i ∧ (i ≤ S.length ∨ i = 1) ∧ ∃ q, wx = w6.drewN q) (fun s _ => S.length - (intOf s).toNat)
    case atStart => exact ⟨1, rfl, by omega, .inr rfl, 0, rfl⟩
    case round =>
      obtain ⟨i, rfl, hi1, hi2, q', rfl⟩ := hrel
      by_cases his : i < S.length
      · obtain ⟨bb, oo, rfl, -, hc⟩ := Ra.out.at_ (by omega)
        have g1 := (hc (i - 1) (by omega)).1
        have g2 := (hc i his).1
        have hup := (List.pairwise_iff_getElem.1 Hu.out.1) (i - 1) i (by omega) his (by omega)
        rw [show S[i - 1] = S.getD (i - 1) default by rw [List.getD_eq_getElem?_getD, List.getElem?_eq_getElem (by omega), Option.getD_some], show S[i] = S.getD i default by rw [List.getD_eq_getElem?_getD, List.getElem?_eq_getElem his, Option.getD_some]] at hup
        clear hc
        generalize (S.getD (i - 1) default).1 = y1 at g1 hup
        generalize (S.getD i default).1 = y2 at g2 hup
        have hw1 := wrap_in (x := (i : Int) - 1) (by omega) (by omega)
        have hcast : (i : Int) - 1 = ((i - 1 : Nat) : Int) := by omega
        have hless : Op.bytesLess y1 y2 = true := by rw [less_iff]; exact decide_eq_true hup
        go_wp2_with (fail)
        go_big_quiet (fail)
        go_wp2_with (fail)
        go_roundw
        case rel => exact ⟨i + 1, by go_num, by omega, .inl (by omega), _, rfl⟩
        case measure => simp [intOf]; omega
      · go_wp2_with (fail)
        go_loopw [15, 16, 17] (fun s15 _ _ wx => ∃ j : Nat, s15 = .int .i64 j ∧ j ≤ n ∧ ∃ q, wx = w6.drewN q) (fun s15 _ _ _ => n - (intOf s15).toNat)
        case atStart => exact ⟨0, rfl, by omega, _, rfl⟩
        case round =>
          obtain ⟨j, rfl, hj, q2, rfl⟩ := hrel
          by_cases hjn : j < n
          · obtain ⟨bl, ol, rfl, -, hcl⟩ := (Hl.out.below Hb7.out).at_ (by omega)
            obtain ⟨l1, l2⟩ := hcl j hjn
            have hmem : P.getD j default ∈ P := by rw [List.getD_eq_getElem?_getD, List.getElem?_eq_getElem (by have := Hln.out; omega)]; exact List.getElem_mem (by have := Hln.out; omega)
            have Hall := Lib.hid (fnd_all HT.out hmem)
            clear hcl hmem
            generalize P.getD j default = p at l1 l2 Hall
            obtain ⟨x2, u2⟩ := p
            simp only at l1 l2
            go_wp2_with (fail)
            go_loopw [16, 17] (fun s16 s17 wx => ∃ m : Nat, s17 = .int .i64 m ∧ m ≤ S.length ∧ s16 = .bool (fnd (S.take m) (x2, u2)) ∧ ∃ q, wx = w6.drewN q) (fun _ s17 _ => S.length - (intOf s17).toNat)
            case atStart => exact ⟨0, rfl, by omega, rfl, _, rfl⟩
            case round =>
              obtain ⟨m, rfl, hm, rfl, q3, rfl⟩ := hrel
              by_cases hms : m < S.length
              · obtain ⟨bb, oo, rfl, -, hc⟩ := Ra.out.at_ (by omega)
                obtain ⟨g1, g2⟩ := hc m hms
                have hft := fnd_take hms (x2, u2)
                clear hc
                generalize S.getD m default = s at g1 g2 hft
                obtain ⟨y, v⟩ := s
                simp only at g1 g2 hft
                have Hft := Lib.hid hft
                generalize fnd (S.take m) (x2, u2) = fd at Hft
                clear hft
                cases fd with
                | true =>
                  go_wp2_with (fail)
                  go_big_quiet (fail)
                  go_wp2_with (fail)
                  go_roundw
                  case rel => exact ⟨m + 1, by go_num, by omega, by rw [Hft.out]; rfl, _, rfl⟩
                  case measure => simp [intOf]; omega
                | false =>
                  by_cases hy : y = x2
                  · subst hy
                    by_cases hv : u2 ≤ v
                    · have hv2 : decide (u2 ≤ v) = true := decide_eq_true hv
                      go_wp2_with (fail)
                      go_big_quiet (fail)
                      go_wp2_with (fail)
                      go_roundw
                      case rel => exact ⟨m + 1, by go_num, by omega, by rw [Hft.out]; simp [hv], _, rfl⟩
                      case measure => simp [intOf]; omega
                    · have hv2 : decide (u2 ≤ v) = false := decide_eq_false hv
                      go_wp2_with (fail)
                      go_big_quiet (fail)
                      go_wp2_with (fail)
                      go_roundw
                      case rel => exact ⟨m + 1, by go_num, by omega, by rw [Hft.out]; simp [hv], _, rfl⟩
                      case measure => simp [intOf]; omega
                  · have hy2 : (y == x2) = false := by simpa using hy
                    go_wp2_with (fail)
                    go_big_quiet (fail)
                    go_wp2_with (fail)
                    go_roundw
                    case rel => exact ⟨m + 1, by go_num, by omega, by rw [Hft.out]; simp [hy], _, rfl⟩
                    case measure => simp [intOf]; omega
              · have em : m = S.length := by omega
                subst em
                rw [List.take_length, Hall.out]
                go_wp2_with (fail)
                go_roundw
                case rel => exact ⟨j + 1, by go_num, by omega, _, rfl⟩
                case measure => simp [intOf]; omega
          · have HJ9 : Hid (∀ W : World, Below w6.heap.size w6 W → Calls Try.prog 20 #[.slice (some ⟨W.heap.size, 0, none⟩) 1 1] (W.alloc (.cells #[.slice a1 S.length c1] 34)) fun e w' => Below W.heap.size W w' ∧ ∃ a' c', e = .returned (.tuple #[.slice a' S.length c', .bool true]) ∧ OP W.heap.size w' (.slice a' S.length c') S) := Lib.hid fun W hb => by
              have := join_one (Ra.out.below hb) hb.size (by have := Hln.out; have := Hsl.out; simp at this; omega)
              rw [joinL_self Hu.out] at this
              exact this
            generalize hw7 : w6.drewN q2 = w7
            have hd7 : Below w6.heap.size w6 w7 := hw7 ▸ ⟨rfl, rfl, rfl, Nat.le_refl _, fun _ _ => rfl⟩
            have Hd7 := Lib.hid hd7
            clear hw7 hd7
            go_wp2_with (go_at_call 20; refine (HJ9.out _ Hd7.out).mono ?_; rintro e w8 ⟨hb8, a9, c9, rfl, ho9⟩)
            have hb9 := Hd7.out.trans (hb8.mono Hd7.out.size)
            have r1 := (Ra.out.below hb9).mono hb9.size
            obtain ⟨a9', c9', e9, r9⟩ := ho9.rp Hf.out
            cases e9
            have HS9 := Lib.hid (SameParts_any _ _ _ _ _ _ _ _ _ _ r1 r9)
            rw [decide_eq_true rfl] at HS9
            have HB := Lib.hid (Hb7.out.trans (hb9.mono Hb7.out.size))
            clear r1 r9 ho9 hb8 hb9
            go_wp2_with (go_at_call 21; refine HS9.out.mono ?_; rintro e w9 ⟨rfl, q9, rfl⟩)
            go_ret
            exact ⟨rfl, HB.out.trans ⟨rfl, rfl, rfl, Nat.le_refl _, fun _ _ => rfl⟩⟩

theorem Pieces_any (a : Option Addr) (n c : Nat) (P : List Pt) (x : Int) (w : World) (hl : RP w.heap.size w a n c P) (hx : -9223372036854775808 ≤ x ∧ x ≤ 9223372036854775807) (hn : n ≤ 140737488355328) (ht : ∀ p ∈ P, p.1.length ≤ 140737488355328) :
    Calls Try.prog 6 #[.slice a n c, .int .i64 x] w fun e w' => e = .returned (.bool true) ∧ Below w.heap.size w w' := by
  cases hT : joinL [] P with
  | some S => exact Pieces_yes a n c P S x w hl hx hn ht hT
  | none =>
    have h0 : 0 < c := by
      rcases Nat.eq_zero_or_pos c with h | h
      · have h1 := hl.len
        have h2 := hl.le
        have : P = [] := List.eq_nil_of_length_eq_zero (by omega)
        rw [this] at hT; cases hT
      · exact h
    obtain ⟨b, o, rfl, -⟩ := hl.at_ h0
    exact Pieces_no b o n c P x w hl hx hn ht hT
end Go.Proofs.Ytfonejlbiojjjaa
