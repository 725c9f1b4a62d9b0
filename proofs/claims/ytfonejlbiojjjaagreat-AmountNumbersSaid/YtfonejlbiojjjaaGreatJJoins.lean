/- The walk of the law AmountJoins. -/
import Derived.Test.YtfonejlbiojjjaaGreatJBag
import Derived.Test.YtfonejlbiojjjaaGreatJRef
import Derived.Test.YtfonejlbiojjjaaGreatJPieceA
namespace Go.Proofs.YtfonejlbiojjjaaGreat
open Go.RowKit

theorem fine_joinZ {P S : List Pt} (hP : Fine P) (h : joinL [] P = some S) : Fine S := by
  intro p hp
  have h1 := okA_iff.1 ((joinL_up Up.nil h).2 p hp)
  have h2 := (joinL_keys h p.1).1 (List.mem_map.2 ⟨p, hp, rfl⟩)
  rcases h2 with h2 | h2
  · cases h2
  · obtain ⟨q, hq, e⟩ := List.mem_map.1 h2
    have := (hP q hq).1
    rw [e] at this
    exact ⟨this, by omega, by omega⟩
theorem setAt_lenZ : ∀ {L S R : List Pt}, joinL S L = some R → R.length ≤ S.length + L.length
  | [], S, R, e => by cases e; simp
  | p :: L, S, R, e => by
    rw [joinL_cons] at e
    cases hA : addA (sumAt S p.1) p.2 with
    | none => rw [hA] at e; cases e
    | some n =>
      rw [hA] at e
      have h1 := setAt_lenZ e
      have h2 := setAt_len S p.1 n
      simp only [List.length_cons]; omega

theorem JoinPost.flat {w w' : World} {T : Option (List Pt)} {e : Ending} (h : JoinPost w T e w') : Below w.heap.size w w' ∧ ∃ a' c', e = .returned (.tuple #[.slice a' (T.getD []).length c', .bool T.isSome]) ∧ OP w.heap.size w' (.slice a' (T.getD []).length c') (T.getD []) := by
  cases T with
  | none => exact ⟨h.1, none, 0, h.2, OP.nil _ _⟩
  | some S => exact h
theorem great_three {B : Nat} {W : World} {a0 a1 a2 : Option Addr} {n0 n1 n2 c0 c1 c2 : Nat} {P0 P1 P2 : List Pt} (h0 : RP B W a0 n0 c0 P0) (h1 : RP B W a1 n1 c1 P1) (h2 : RP B W a2 n2 c2 P2) (hB : B ≤ W.heap.size)
    (hn0 : n0 ≤ 140737488355328) (hn1 : n1 ≤ 140737488355328) (hn2 : n2 ≤ 140737488355328) (ht0 : ∀ p ∈ P0, p.1.length ≤ 140737488355328) (ht1 : ∀ p ∈ P1, p.1.length ≤ 140737488355328) (ht2 : ∀ p ∈ P2, p.1.length ≤ 140737488355328) :
    Calls Tryz.prog 5 #[.slice (some ⟨W.heap.size, 0, none⟩) 3 3] (W.alloc (.cells #[.slice a0 n0 c0, .slice a1 n1 c1, .slice a2 n2 c2] 22)) fun e w' => (∃ gr, e = .returned (.bool gr) ∧ (gr = false → (P0 ++ P1 ++ P2).length ≤ 300)) ∧ W.alloc (.cells #[.slice a0 n0 c0, .slice a1 n1 c1, .slice a2 n2 c2] 22) = w' := by
  have e : flatV [⟨a0, n0, c0, P0⟩, ⟨a1, n1, c1, P1⟩, ⟨a2, n2, c2, P2⟩] = P0 ++ P1 ++ P2 := by simp [flatV]
  refine (great_any _ _ _ _ _ _ (RV.three h0 h1 h2 hB) (fun i hi => ?_)).mono fun e' w' ⟨⟨gr, he, hg⟩, hw⟩ => ⟨⟨gr, he, fun h => by have := hg h; rw [e] at this; exact this⟩, hw⟩
  rcases (show i = 0 ∨ i = 1 ∨ i = 2 by simp at hi; omega) with rfl | rfl | rfl
  · exact ⟨hn0, ht0⟩
  · exact ⟨hn1, ht1⟩
  · exact ⟨hn2, ht2⟩
theorem rjoin_three {B : Nat} {W : World} {a0 a1 a2 : Option Addr} {n0 n1 n2 c0 c1 c2 : Nat} {P0 P1 P2 : List Pt} (h0 : RP B W a0 n0 c0 P0) (h1 : RP B W a1 n1 c1 P1) (h2 : RP B W a2 n2 c2 P2) (hB : B ≤ W.heap.size) (ht : (P0 ++ P1 ++ P2).length ≤ 1048576) :
    Calls Tryz.prog 11 #[.slice (some ⟨W.heap.size, 0, none⟩) 3 3] (W.alloc (.cells #[.slice a0 n0 c0, .slice a1 n1 c1, .slice a2 n2 c2] 22)) fun e w' => JoinPost W (joinL [] (P0 ++ P1 ++ P2)) e w' := by
  have e : flatV [⟨a0, n0, c0, P0⟩, ⟨a1, n1, c1, P1⟩, ⟨a2, n2, c2, P2⟩] = P0 ++ P1 ++ P2 := by simp [flatV]
  have := rJoin_any _ _ _ _ _ _ (RV.three h0 h1 h2 hB) (by simp) (by rw [e]; exact ht)
  rw [e] at this
  exact this.mono fun e w' h => h.shift ((Below.refl _ W).alloc (Nat.le_refl _) _)
theorem fine_lent {P : List Pt} (h : Fine P) : Fine (P ++ lentP) := by
  intro p hp
  rcases List.mem_append.1 hp with hp | hp
  · exact h p hp
  · obtain ⟨i, hi, rfl⟩ := List.mem_map.1 hp
    have := List.mem_range.1 hi
    simp only [mkPt, markN, List.length_nil]
    omega
theorem OP.rp2 {base : Nat} {w : World} {a : Option Addr} {n c : Nat} {P : List Pt} (h : OP base w (.slice a n c) P) (hf : Fine P) : RP w.heap.size w a n c P := by
  obtain ⟨a', c', e, r⟩ := h.rp hf
  injection e with e1 e2 e3
  rw [e1, e2, e3]; exact r
theorem OP.out {base B N : Nat} {w w' : World} {v : Value} {P : List Pt} (h : OP base w v P) (ho : Out B N w w') (hb : N ≤ base) : OP base w' v P :=
  h.keep fun b e => ho.block b (h.ge b e).2 (.inr (Nat.le_trans hb (h.ge b e).1))
theorem Out.low {B N : Nat} {w w' : World} (h : Out B N w w') (hB : B ≤ w.heap.size) : Below B w w' :=
  ⟨h.os, h.tape, h.output, h.size, fun k hk => h.block k (Nat.lt_of_lt_of_le hk hB) (.inl hk)⟩
theorem OP.beside {base g g' n c : Nat} {w w' : World} {P : List Pt} (h : OP base w (.slice (some ⟨g, 0, none⟩) n c) P) (hg : w.grownBy w' (some g')) (hne : g ≠ g') : OP base w' (.slice (some ⟨g, 0, none⟩) n c) P :=
  h.keep fun b e => by cases e; exact hg.block g (h.ge g rfl).2 (fun e => hne (by cases e; rfl))
theorem apart_two {B : Nat} {W : World} {a a' : Option Addr} {n c n' c' B' : Nat} {S : List Pt} (h : OP B W (.slice a n c) S) (h' : OP B' W (.slice a' n' c') S) (hB : B ≤ B') (hB' : B' ≤ W.heap.size) (hlt : ∀ b, (Value.slice a n c).ownBlock = some b → b < B') (hS : S.length ≤ 1000000) :
    Calls Tryz.prog 13 #[.slice (some ⟨W.heap.size, 0, none⟩) 2 2] (W.alloc (.cells #[.slice a n c, .slice a' n' c'] 22)) fun e w' => e = .returned (.bool true) ∧ Below B W w' := by
  have hb : Below W.heap.size W (W.alloc (.cells #[.slice a n c, .slice a' n' c'] 22)) := (Below.refl _ W).alloc (Nat.le_refl _) _
  have hA : Ap B (W.alloc (.cells #[.slice a n c, .slice a' n' c'] 22)).heap.size 2 (fun k => if k = 0 then .slice a n c else .slice a' n' c') (fun _ => S) (W.alloc (.cells #[.slice a n c, .slice a' n' c'] 22)) := by
    refine ⟨fun k hk => ?_, fun k hk b e => ?_, fun j k hj hk hne b e1 e2 => ?_, Nat.le_refl _⟩
    · show OP B _ (if k = 0 then _ else _) S
      by_cases e : k = 0
      · rw [if_pos e]; exact h.below hb
      · rw [if_neg e]; exact (h'.below hb).mono hB
    · try simp only at e
      by_cases e0 : k = 0
      · rw [if_pos e0] at e; exact ((h.below hb).ge b e).2
      · rw [if_neg e0] at e; exact ((h'.below hb).ge b e).2
    · try simp only at e1 e2
      by_cases e0 : j = 0
      · rw [if_pos e0] at e1
        rw [if_neg (by omega)] at e2
        have := hlt b e1
        have := (h'.ge b e2).1
        omega
      · rw [if_neg e0] at e1
        rw [if_pos (by omega)] at e2
        have := hlt b e2
        have := (h'.ge b e1).1
        omega
  have hsz : W.heap.size < (W.alloc (.cells #[.slice a n c, .slice a' n' c'] 22)).heap.size := by rw [World.size_alloc]; omega
  refine (ApartParts_any B 2 2 W.heap.size _ _ _ (by omega) hA (by decide) (by decide) ⟨Nat.le_refl _, by decide⟩ hsz (fun k hk => ?_) (fun k hk => hS)).mono fun e w' ⟨he, ho⟩ => ⟨he, (hb.mono (Nat.le_trans hB hB')).trans (ho.low (by omega))⟩
  rcases (show k = 0 ∨ k = 1 by omega) with rfl | rfl <;> simp only [World.cell?, (Go.MapKept.heap_alloc W _).1] <;> rfl
theorem take_lent (P : List Pt) (n : Nat) (h : n = P.length) : (P ++ lentP).take n = P := by
  rw [h, List.take_left]

set_option maxHeartbeats 16000000 in
set_option maxRecDepth 100000 in
theorem Joins_any (a0 a1 a2 : Option Addr) (n0 n1 n2 c0 c1 c2 : Nat) (P0 P1 P2 : List Pt) (w : World) (h0 : RP w.heap.size w a0 n0 c0 P0) (h1 : RP w.heap.size w a1 n1 c1 P1) (h2 : RP w.heap.size w a2 n2 c2 P2)
    (hn0 : n0 ≤ 140737488355328) (hn1 : n1 ≤ 140737488355328) (hn2 : n2 ≤ 140737488355328) (ht0 : ∀ p ∈ P0, p.1.length ≤ 140737488355328) (ht1 : ∀ p ∈ P1, p.1.length ≤ 140737488355328) (ht2 : ∀ p ∈ P2, p.1.length ≤ 140737488355328) :
    Calls Tryz.prog 3 #[.slice a0 n0 c0, .slice a1 n1 c1, .slice a2 n2 c2] w fun e w' => e = .returned (.bool true) ∧ Below w.heap.size w w' := by
  have R0 := Lib.hid h0
  have R1 := Lib.hid h1
  have R2 := Lib.hid h2
  have HG := Lib.hid (great_three h0 h1 h2 (Nat.le_refl _) hn0 hn1 hn2 ht0 ht1 ht2)
  have HB1 := Lib.hid ((Below.refl _ w).alloc (Nat.le_refl _) (.cells #[.slice a0 n0 c0, .slice a1 n1 c1, .slice a2 n2 c2] 22))
  have HA := Lib.hid awake_any
  clear h0 h1 h2 ht0 ht1 ht2
  go_enter Tryz.func3, Tryz.ntmps3
  go_wp2_with (fail)
  go_at_call 5
  refine HG.out.mono ?_
  rintro e w' ⟨⟨gr, rfl, hgr⟩, rfl⟩
  have Hgr := Lib.hid hgr
  clear hgr
  generalize w.alloc (.cells #[.slice a0 n0 c0, .slice a1 n1 c1, .slice a2 n2 c2] 22) = w1 at HB1 ⊢
  cases gr with
  | true =>
    go_wp2_with (go_at_call 6; refine (HA.out _).mono ?_; rintro e w2 ⟨rfl, hb2⟩)
    go_ret
    exact ⟨rfl, HB1.out.trans (hb2.mono HB1.out.size)⟩
  | false =>
    have htot := Hgr.out rfl
    have Htot := Lib.hid htot
    have k0 : n0 ≤ 300 := by have := R0.out.len; simp only [List.length_append] at htot; omega
    have k1 : n1 ≤ 300 := by have := R1.out.len; simp only [List.length_append] at htot; omega
    have k2 : n2 ≤ 300 := by have := R2.out.len; simp only [List.length_append] at htot; omega
    clear htot
    go_wp2_with (fail)
    go_at_call 7
    refine (LentParts_any w.heap.size a0 n0 c0 P0 w1 (R0.out.below HB1.out) HB1.out.size (by omega)).mono ?_
    rintro e w2 ⟨⟨g0, d0, rfl, ⟨m0, x0⟩, o0⟩, hb2⟩
    have O0 := Lib.hid o0
    have S2 := Lib.hid hb2
    have HB2 := Lib.hid (HB1.out.trans (hb2.mono HB1.out.size))
    clear o0 hb2
    go_wp2_with (fail)
    go_at_call 7
    refine (LentParts_any w.heap.size a1 n1 c1 P1 w2 (R1.out.below HB2.out) HB2.out.size (by omega)).mono ?_
    rintro e w3 ⟨⟨g1, d1, rfl, ⟨m1, x1⟩, o1⟩, hb3⟩
    have O1 := Lib.hid o1
    have S3 := Lib.hid hb3
    have HB3 := Lib.hid (HB2.out.trans (hb3.mono HB2.out.size))
    clear o1 hb3
    go_wp2_with (fail)
    go_at_call 7
    refine (LentParts_any w.heap.size a2 n2 c2 P2 w3 (R2.out.below HB3.out) HB3.out.size (by omega)).mono ?_
    rintro e w4 ⟨⟨g2, d2, rfl, ⟨m2, x2⟩, o2⟩, hb4⟩
    have O2 := Lib.hid o2
    have S4 := Lib.hid hb4
    have HB4 := Lib.hid (HB3.out.trans (hb4.mono HB3.out.size))
    clear o2 hb4
    have Q0 : Hid (OP w1.heap.size w4 (.slice (some ⟨g0, 0, none⟩) (n0 + 12) d0) (P0 ++ lentP)) := Lib.hid ((O0.out.below S3.out).below (S4.out))
    have Q1 : Hid (OP w2.heap.size w4 (.slice (some ⟨g1, 0, none⟩) (n1 + 12) d1) (P1 ++ lentP)) := Lib.hid (O1.out.below S4.out)
    have X0 := Lib.hid (Q0.out.rp2 (fine_lent R0.out.fine))
    have X1 := Lib.hid (Q1.out.rp2 (fine_lent R1.out.fine))
    have X2 := Lib.hid (O2.out.rp2 (fine_lent R2.out.fine))
    have hg0 : w1.heap.size ≤ g0 ∧ g0 < w2.heap.size := O0.out.ge g0 rfl
    have hg1 : w2.heap.size ≤ g1 ∧ g1 < w3.heap.size := O1.out.ge g1 rfl
    have hg2 : w3.heap.size ≤ g2 ∧ g2 < w4.heap.size := O2.out.ge g2 rfl
    obtain ⟨T, hT⟩ : ∃ T, T = joinL [] (P0 ++ P1 ++ P2) := ⟨_, rfl⟩
    have HJ : Hid (∀ W : World, Below w4.heap.size w4 W → Calls Tryz.prog 8 #[.slice (some ⟨W.heap.size, 0, none⟩) 3 3] (W.alloc (.cells #[.slice (some ⟨g0, 0, none⟩) n0 d0, .slice (some ⟨g1, 0, none⟩) n1 d1, .slice (some ⟨g2, 0, none⟩) n2 d2] 22)) fun e w' => Below W.heap.size W w' ∧ ∃ a' c', e = .returned (.tuple #[.slice a' (T.getD []).length c', .bool T.isSome]) ∧ OP W.heap.size w' (.slice a' (T.getD []).length c') (T.getD [])) := Lib.hid fun W hb => by
      have y0 := (X0.out.below hb).take (k := n0) (by omega)
      have y1 := (X1.out.below hb).take (k := n1) (by omega)
      have y2 := (X2.out.below hb).take (k := n2) (by omega)
      rw [take_lent _ _ R0.out.len] at y0
      rw [take_lent _ _ R1.out.len] at y1
      rw [take_lent _ _ R2.out.len] at y2
      have := join_three y0 y1 y2 hb.size (Nat.le_trans Htot.out (by decide))
      rw [← hT] at this
      exact this.mono fun e w' h => h.flat
    have HR : Hid (∀ W : World, Below w.heap.size w W → Calls Tryz.prog 11 #[.slice (some ⟨W.heap.size, 0, none⟩) 3 3] (W.alloc (.cells #[.slice a0 n0 c0, .slice a1 n1 c1, .slice a2 n2 c2] 22)) fun e w' => Below W.heap.size W w' ∧ ∃ a' c', e = .returned (.tuple #[.slice a' (T.getD []).length c', .bool T.isSome]) ∧ OP W.heap.size w' (.slice a' (T.getD []).length c') (T.getD [])) := Lib.hid fun W hb => by
      have := rjoin_three (R0.out.below hb) (R1.out.below hb) (R2.out.below hb) hb.size (Nat.le_trans Htot.out (by decide))
      rw [← hT] at this
      exact this.mono fun e w' h => h.flat
    have HS : Hid (Fine (T.getD []) ∧ (T.getD []).length ≤ 300) := Lib.hid (by
      cases hc : T with
      | none => exact ⟨fun p hp => (by cases hp), by simp⟩
      | some S =>
        rw [hc] at hT
        refine ⟨fine_joinZ (fun p hp => ?_) hT.symm, ?_⟩
        · rcases List.mem_append.1 hp with hp | hp
          · rcases List.mem_append.1 hp with hp | hp
            · exact R0.out.fine p hp
            · exact R1.out.fine p hp
          · exact R2.out.fine p hp
        · have := setAt_lenZ hT.symm
          have := Htot.out
          simp only [Option.getD_some, List.length_nil] at *
          omega)
    generalize T.getD [] = S at HJ HR HS
    generalize T.isSome = f at HJ HR
    clear hT
    go_wp2_with (fail)
    go_at_call 8
    refine (HJ.out _ (Below.refl _ _)).mono ?_
    rintro e w5 ⟨hb5, al, cl, rfl, ol⟩
    have OL := Lib.hid ol
    have S5 := Lib.hid hb5
    clear ol hb5
    go_wp2_with (fail)
    go_at_call 8
    refine (HJ.out _ S5.out).mono ?_
    rintro e w6 ⟨hb6, am, cm, rfl, om⟩
    have OM := Lib.hid om
    have OL6 := Lib.hid (OL.out.below hb6)
    have S6 := Lib.hid (S5.out.trans (hb6.mono S5.out.size))
    have hlm : w5.heap.size ≤ w6.heap.size := hb6.size
    clear om hb6
    have HB6 := Lib.hid (HB4.out.trans (S6.out.mono HB4.out.size))
    go_wp2_with (fail)
    go_at_call 9
    refine (KeptParts_any w4.heap.size w.heap.size g0 d0 a0 n0 c0 P0 w6 (X0.out.below S6.out) (R0.out.below HB6.out) S6.out.size HB6.out.size).mono ?_
    rintro e w7 ⟨rfl, hb7⟩
    have K7 := Lib.hid hb7
    have S7 := Lib.hid (S6.out.trans (hb7.mono S6.out.size))
    have HB7 := Lib.hid (HB6.out.trans (hb7.mono HB6.out.size))
    clear hb7
    go_wp2_with (fail)
    go_at_call 9
    refine (KeptParts_any w4.heap.size w.heap.size g1 d1 a1 n1 c1 P1 w7 (X1.out.below S7.out) (R1.out.below HB7.out) S7.out.size HB7.out.size).mono ?_
    rintro e w8 ⟨rfl, hb8⟩
    have K8 := Lib.hid (K7.out.trans (hb8.mono K7.out.size))
    have S8 := Lib.hid (S7.out.trans (hb8.mono S7.out.size))
    have HB8 := Lib.hid (HB7.out.trans (hb8.mono HB7.out.size))
    clear hb8
    go_wp2_with (fail)
    go_at_call 9
    refine (KeptParts_any w4.heap.size w.heap.size g2 d2 a2 n2 c2 P2 w8 (X2.out.below S8.out) (R2.out.below HB8.out) S8.out.size HB8.out.size).mono ?_
    rintro e w9 ⟨rfl, hb9⟩
    have K9 := Lib.hid (K8.out.trans (hb9.mono K8.out.size))
    have S9 := Lib.hid (S8.out.trans (hb9.mono S8.out.size))
    have HB9 := Lib.hid (HB8.out.trans (hb9.mono HB8.out.size))
    clear hb9
    go_wp2_with (fail)
    go_at_call 10
    refine (OverParts_any w1.heap.size g0 n0 d0 (P0 ++ lentP) w9 (Q0.out.below S9.out) (by omega)).mono ?_
    rintro e w10 ⟨rfl, hg10⟩
    have V1 := Lib.hid ((Q1.out.below S9.out).beside hg10 (by omega))
    have V2 := Lib.hid ((O2.out.below S9.out).beside hg10 (by omega))
    have U10 := Lib.hid ((Out.refl w1.heap.size w4.heap.size w9).grown hg10 (fun k e => by cases e; exact .inl ⟨hg0.1, by omega⟩))
    have I10 := Lib.hid hg10.size
    clear hg10
    go_wp2_with (fail)
    go_at_call 10
    refine (OverParts_any w2.heap.size g1 n1 d1 (P1 ++ lentP) w10 V1.out (by omega)).mono ?_
    rintro e w11 ⟨rfl, hg11⟩
    have Y2 := Lib.hid (V2.out.beside hg11 (by omega))
    have U11 := Lib.hid (U10.out.grown hg11 (fun k e => by cases e; exact .inl ⟨by omega, by omega⟩))
    clear hg11
    go_wp2_with (fail)
    go_at_call 10
    refine (OverParts_any w3.heap.size g2 n2 d2 (P2 ++ lentP) w11 Y2.out (by omega)).mono ?_
    rintro e w12 ⟨rfl, hg12⟩
    have U12 := Lib.hid (U11.out.grown hg12 (fun k e => by cases e; exact .inl ⟨by omega, hg2.2⟩))
    clear hg12
    have z1 : w.heap.size ≤ w1.heap.size := HB1.out.size
    have z4 : w4.heap.size ≤ w5.heap.size := S5.out.size
    have z9 : w6.heap.size ≤ w9.heap.size := K9.out.size
    have OL12 := Lib.hid ((OL6.out.below K9.out).out U12.out (Nat.le_refl _))
    have OM12 := Lib.hid ((OM.out.below K9.out).out U12.out z4)
    have HB12 := Lib.hid (HB9.out.trans ((U12.out.low (by omega)).mono z1))
    have z12 : w9.heap.size ≤ w12.heap.size := U12.out.size
    have hltl : Hid (∀ b, (Value.slice al S.length cl).ownBlock = some b → b < w5.heap.size) := Lib.hid fun b e => (OL.out.ge b e).2
    go_wp2_with (fail)
    go_at_call 11
    refine (HR.out _ HB12.out).mono ?_
    rintro e w13 ⟨hb13, aw, cw, rfl, ow⟩
    have OL13 := Lib.hid (OL12.out.below hb13)
    have OM13 := Lib.hid (OM12.out.below hb13)
    have OW13 := Lib.hid ow
    have HB13 := Lib.hid (HB12.out.trans (hb13.mono HB12.out.size))
    have z13 : w12.heap.size ≤ w13.heap.size := hb13.size
    clear ow hb13
    have HS1 : Hid (∀ W, Below w13.heap.size w13 W → Calls Tryz.prog 12 #[.slice al S.length cl, .slice aw S.length cw] W fun e w' => e = .returned (.bool true) ∧ Below W.heap.size W w') := Lib.hid fun W hb => by
      have := SameParts_any _ _ _ _ _ _ _ _ _ _ ((OL13.out.below hb).rp2 HS.out.1) ((OW13.out.below hb).rp2 HS.out.1)
      rw [decide_eq_true rfl] at this
      exact this.mono fun e w' ⟨he, q, hq⟩ => ⟨he, hq ▸ drewN_below _ _ _⟩
    have HS2 : Hid (∀ W, Below w13.heap.size w13 W → Calls Tryz.prog 12 #[.slice am S.length cm, .slice aw S.length cw] W fun e w' => e = .returned (.bool true) ∧ Below W.heap.size W w') := Lib.hid fun W hb => by
      have := SameParts_any _ _ _ _ _ _ _ _ _ _ ((OM13.out.below hb).rp2 HS.out.1) ((OW13.out.below hb).rp2 HS.out.1)
      rw [decide_eq_true rfl] at this
      exact this.mono fun e w' ⟨he, q, hq⟩ => ⟨he, hq ▸ drewN_below _ _ _⟩
    have HAP : Hid (∀ W, Below w13.heap.size w13 W → Calls Tryz.prog 13 #[.slice (some ⟨W.heap.size, 0, none⟩) 2 2] (W.alloc (.cells #[.slice al S.length cl, .slice am S.length cm] 22)) fun e w' => e = .returned (.bool true) ∧ Below w4.heap.size W w') := Lib.hid fun W hb =>
      apart_two (OL13.out.below hb) (OM13.out.below hb) z4 (by have := hb.size; omega) hltl.out (by have := HS.out.2; omega)
    have z41 : w.heap.size ≤ w4.heap.size := HB4.out.size
    go_wp2_with (fail)
    go_at_call 12
    refine (HS1.out _ (Below.refl _ _)).mono ?_
    rintro e w14 ⟨rfl, hb14⟩
    have E14 := Lib.hid hb14
    clear hb14
    go_wp2_with (fail)
    go_at_call 12
    refine (HS2.out _ E14.out).mono ?_
    rintro e w15 ⟨rfl, hb15⟩
    have E15 := Lib.hid (E14.out.trans (hb15.mono E14.out.size))
    clear hb15
    go_wp2_with (fail)
    go_at_call 13
    refine (HAP.out _ E15.out).mono ?_
    rintro e w16 ⟨rfl, hb16⟩
    have HB16 := Lib.hid ((HB13.out.trans (E15.out.mono HB13.out.size)).trans (hb16.mono z41))
    clear hb16
    go_wp2_with (go_at_call 6; refine (HA.out _).mono ?_; rintro e w17 ⟨rfl, hb17⟩)
    go_ret
    exact ⟨rfl, HB16.out.trans (hb17.mono HB16.out.size)⟩
end Go.Proofs.YtfonejlbiojjjaaGreat
