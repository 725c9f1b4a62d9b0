/- KitMore. -/
import Derived.Test.YthlmnoggeggpkaaKMoreD
import Derived.Test.YthlmnoggeggpkaaKGreat
namespace Go.Proofs.Ythlmnoggeggpkaa
open Go.RowKit

set_option maxHeartbeats 8000000 in
set_option maxRecDepth 100000 in
theorem KitMore_any (B : Nat) (a : Option Addr) (n c : Nat) (X : List It) (ap : Option Addr) (np cp : Nat) (P : List Pt) (w : World) (hr : RI B w a n c X) (hP : RP B w ap np cp P) (hB : B ≤ w.heap.size) (hlow : LowI X) :
    Calls Try.prog 5 #[.slice a n c, .slice ap np cp] w fun e w' => e = .returned (.bool true) ∧ Below w.heap.size w w' := by
  have HR := Lib.hid hr
  have HP := Lib.hid hP
  have HLOW := Lib.hid hlow
  have hple := hP.le
  have hpmx := hP.mx
  clear hr hlow hP
  go_enter Try.func5, Try.ntmps5
  go_wp2_with (fail)
  go_at_call 7
  refine (awake_any _).mono ?_
  rintro e w1 ⟨rfl, hb1⟩
  have HB1 := Lib.hid hb1
  have hr1 := HR.out.below (hb1.mono hB)
  have HG := Lib.hid (great_any B a n c X w1 hr1 HLOW.out)
  clear hb1 hr1
  go_wp2_with (fail)
  go_at_call 6
  refine HG.out.mono ?_
  rintro e w2 ⟨⟨gr, rfl, hgr⟩, q, rfl⟩
  have hb2 : Below w.heap.size w (w1.drewN q) := below_dn HB1.out q
  have HB2 := Lib.hid hb2
  have hr2 := HR.out.below (hb2.mono hB)
  generalize w1.drewN q = w2 at HB2 hr2 ⊢
  clear hb2 HG
  cases gr with
  | true =>
    clear hr2 hgr
    go_wp2_with (fail)
    go_ret
    exact ⟨rfl, HB2.out⟩
  | false =>
    obtain ⟨hn, hcnt⟩ := hgr rfl
    have HC2 := Lib.hid (Check_any B a n c X w2 hr2 (Nat.le_trans hB HB2.out.size))
    have HR2 := Lib.hid hr2
    have HCN := Lib.hid hcnt
    clear hgr hcnt hr2
    go_wp2_with (fail)
    go_at_call 9
    refine HC2.out.mono ?_
    rintro e w3 ⟨rfl, hb3⟩
    have HB3 := Lib.hid (HB2.out.trans (hb3.mono HB2.out.size))
    have HR3 := Lib.hid (HR2.out.below (hb3.mono (Nat.le_trans hB HB2.out.size)))
    clear hb3 HC2
    by_cases h0 : chkE X = 0
    · have HS := Lib.hid (sound_of h0)
      have H0 := Lib.hid h0
      rw [h0]
      clear h0
      by_cases h58 : 58 < n
      · have e58 : decide ((n : Int) > 58) = true := decide_eq_true (by omega)
        go_wp2_with (fail)
        go_ret
        exact ⟨rfl, HB3.out⟩
      · have e58 : decide ((n : Int) > 58) = false := decide_eq_false (by omega)
        have hrest : Behind X [90, 56] → True := fun _ => trivial
        by_cases hz : 0 < n
        · have z1 : decide ((n : Int) > 0) = true := decide_eq_true (by omega)
          have z3 : IntKind.i64.wrap ((n : Int) - 1) = ((n - 1 : Nat) : Int) := by rw [wrap_in (by omega) (by omega)]; omega
          have z4 : (0 : Int) ≤ ((n - 1 : Nat) : Int) := by omega
          have z5 : ((n - 1 : Nat) : Int) < (n : Int) := by omega
          obtain ⟨b, o, ha, hbB, hok, c0, -, -, -⟩ := HR3.out.item (i := n - 1) (by omega)
          subst ha
          obtain ⟨s, hs⟩ : ∃ s, s = (X.getD (n - 1) default).code := ⟨_, rfl⟩
          rw [← hs] at c0
          unfold encStr at c0
          have HSS := Lib.hid hs
          have hle := HR3.out.le
          have hmx := HR3.out.mx
          clear hs hok hbB
          by_cases hlt : s < [90, 56]
          · obtain ⟨l1, l2, l3, l4⟩ := less_facts hlt
            have HBE : Hid (Behind X [90, 56]) := Lib.hid (behind_of HS.out (.inr (by unfold cd; rw [← HR3.out.len, ← HSS.out]; exact hlt)))
            clear hlt
            by_cases h100 : 100 < np
            · have e100 : decide ((np : Int) > 100) = true := decide_eq_true (by omega)
              go_wp2_with (fail)
              go_ret
              exact ⟨rfl, HB3.out⟩
            · have e100 : decide ((np : Int) > 100) = false := decide_eq_false (by omega)
              have hsz : ∀ x ∈ X, x.ps.length ≤ 100000 ∧ x.os.length ≤ 100000 := fun x hx => by
                obtain ⟨i, hi, rfl⟩ := List.mem_iff_getElem.1 hx
                have := HCN.out i (by have := HR.out.len; omega)
                rw [List.getD_eq_getElem?_getD, List.getElem?_eq_getElem hi] at this
                simp only [Option.getD_some] at this
                omega
              have HCP := Lib.hid (CopyItems_any B _ n c X w3 HR3.out (Nat.le_trans hB HB3.out.size) (by omega) hsz)
              clear hsz
              go_wp2_with (fail)
              go_at_call 21
              refine HCP.out.mono ?_
              rintro e w4 ⟨Y, a', c', rfl, hYl, ho, hcp, hb4⟩
              have hK4 : KM w3.heap.size w4 (.slice a' n c') X Y [] := ⟨by have := HR.out.len; omega, by rw [List.append_nil]; exact ho, fun i hi => hcp i (by have := HR.out.len; omega)⟩
              have HK4 := Lib.hid hK4
              have HB4 := Lib.hid (HB3.out.trans (hb4.mono HB3.out.size))
              have HS4 := Lib.hid hb4.size
              have O3 := Lib.hid (ho.below ((Below.refl _ w4).alloc (Nat.le_refl _) (.cells #[.string ⟨#[90, 56]⟩, .int .i64 7, .slice none 0 0, .slice none 0 0] 32)))
              have HSRC : Hid (∀ j u, (cellsI [z8])[j]? = some u → (w4.alloc (.cells #[.string ⟨#[90, 56]⟩, .int .i64 7, .slice none 0 0, .slice none 0 0] 32)).cell? ((⟨w4.heap.size, 0, none⟩ : Addr).add j) = some u) := Lib.hid (one_item w4 z8 32)
              have HYL := Lib.hid hYl
              have HB3S : Hid (w.heap.size ≤ w3.heap.size) := Lib.hid HB3.out.size
              clear hYl ho hcp hb4 hK4 HCP
              go_wp2_with (first | (at_builtin; refine wpList_append_item2 rfl _ _ rfl w3.heap.size (.slice a' n c') Y z8 rfl O3.out _ 1 rfl HSRC.out (by rw [World.size_alloc]; have := HS4.out; omega) (by rw [HYL.out]; omega) ?_; intro g8 c8 w5 hown _ hg _; have HB5 : Hid (Below w.heap.size w w5) := Lib.hid ((HB4.out.alloc HB4.out.size _).grown hg (HB4.out.alloc HB4.out.size _).size (fun k e => Nat.le_trans HB3S.out (O3.out.ge k e).1)); rw [HYL.out] at hown; have HK5 := Lib.hid ((HK4.out.below ((Below.refl _ w4).alloc (Nat.le_refl _) (.cells #[.string ⟨#[90, 56]⟩, .int .i64 7, .slice none 0 0, .slice none 0 0] 32))).grown hown hg); have HS5 : Hid (w3.heap.size ≤ w5.heap.size) := Lib.hid (Nat.le_trans (by rw [World.size_alloc]; have := HS4.out; omega) hg.size); clear hown hg))
              rw [HYL.out]
              have hok8 : ∀ W z, z ∈ [z8] → ItOk W.heap.size W z := fun W z hz => by
                rw [List.mem_singleton] at hz
                subst hz
                exact z8_ok _ _
              have hri5 := HK5.out.ri (fun x hx => HR.out.ok x hx) (hok8 w5)
              have hck := Check_any w5.heap.size (some ⟨g8, 0, none⟩) (n + 1) c8 (Y ++ [z8]) w5 hri5 (Nat.le_refl _)
              have hl58 : X.length ≤ 58 := by have := HR.out.len; omega
              rw [chkE_app HK5.out.len HK5.out.like, chk_z8 HS.out hl58 HBE.out] at hck
              have HQ : Hid (QF X) := Lib.hid ⟨H0.out, hl58, HBE.out⟩
              have h5c := hri5.le
              have h5m := hri5.mx
              have n0 : (0 : Int) ≤ (n : Int) := by omega
              have n1 : (n : Int) ≤ (c8 : Int) := by omega
              go_at_call 9
              refine hck.mono ?_
              rintro e w6 ⟨rfl, hb6⟩
              have HB6 := Lib.hid (HB5.out.trans (hb6.mono HB5.out.size))
              have HK6 := Lib.hid (HK5.out.below hb6)
              have HS6 := Lib.hid (Nat.le_trans HS5.out hb6.size)
              have hri6 := (HK6.out.ri (fun x hx => HR.out.ok x hx) (hok8 w6)).take (k := n) (Nat.le_succ n)
              rw [List.take_left' HYL.out] at hri6
              have hck2 := Check_any w6.heap.size (some ⟨g8, 0, none⟩) n c8 Y w6 hri6 (Nat.le_refl _)
              rw [chkE_like HK6.out.len HK6.out.like, H0.out] at hck2
              have HC6 := Lib.hid hck2
              clear hck hb6 hri5 hri6 hck2 hok8 hl58
              go_wp2_with (fail)
              go_at_call 9
              refine HC6.out.mono ?_
              rintro e w7 ⟨rfl, hb7⟩
              have HB7 := Lib.hid (HB6.out.trans (hb7.mono HB6.out.size))
              have HK7 := Lib.hid (HK6.out.below hb7)
              have HS7 := Lib.hid (Nat.le_trans HS6.out hb7.size)
              clear hb7 HC6
              have hpl := HP.out.len
              subst hpl
              by_cases p1 : 1 ≤ P.length
              · have q1 : decide ((P.length : Int) ≥ 1) = true := decide_eq_true (by omega)
                by_cases p8 : P.length ≤ 8
                · have q8 : decide ((P.length : Int) ≤ 8) = true := decide_eq_true (by omega)
                  go_upto_region 9 with (fail)
                  iterate 28 go_step
                  exact more_one B w3.heap.size _ n c X Y ap cp P (some ⟨g8, 0, none⟩) c8 true w w7 (HR.out.below (HB7.out.mono hB)) (HP.out.below (HB7.out.mono hB)) (Nat.le_trans hB HB7.out.size) HS7.out HB3S.out HB7.out HQ.out HK7.out (Nat.le_trans hB HB3S.out) (by rw [decide_eq_true p1, decide_eq_true p8]; rfl) (by omega) _ _ _ _ _ _ _ _ _ _ _ _ _ _ _ _ _ _ _ _ _ _ _ _ _ _ _ _ _ _ _ _ _ _ _ _ _ _ _ _ _ _ _ _ _ _ _ _ _ _ _ _ _ _ _ _ _ _ _ _ _ _ _ _ _ _ _ _ _ _ _ _ _ _ _ _ _ _ _ _ _ _ _ _ _ _ _ _ _ _ _ _ _ _ _ _ _ _ _ _ _ _ _ _ _ _ _ _ _ _ _ _ _ _ _ _ _ _ _ _ _ _ _ _ _ _ _ _ _ _ _ _ _ _ _ _ _ _ _ _ _ _ _ _ _ _ _ _ _ _ _ _ _ _ _ _ _ _ _ _ _ _
                · have q8 : decide ((P.length : Int) ≤ 8) = false := decide_eq_false (by omega)
                  go_upto_region 9 with (fail)
                  iterate 28 go_step
                  exact more_one B w3.heap.size _ n c X Y ap cp P (some ⟨g8, 0, none⟩) c8 false w w7 (HR.out.below (HB7.out.mono hB)) (HP.out.below (HB7.out.mono hB)) (Nat.le_trans hB HB7.out.size) HS7.out HB3S.out HB7.out HQ.out HK7.out (Nat.le_trans hB HB3S.out) (by rw [decide_eq_false p8, Bool.and_false]) (by omega) _ _ _ _ _ _ _ _ _ _ _ _ _ _ _ _ _ _ _ _ _ _ _ _ _ _ _ _ _ _ _ _ _ _ _ _ _ _ _ _ _ _ _ _ _ _ _ _ _ _ _ _ _ _ _ _ _ _ _ _ _ _ _ _ _ _ _ _ _ _ _ _ _ _ _ _ _ _ _ _ _ _ _ _ _ _ _ _ _ _ _ _ _ _ _ _ _ _ _ _ _ _ _ _ _ _ _ _ _ _ _ _ _ _ _ _ _ _ _ _ _ _ _ _ _ _ _ _ _ _ _ _ _ _ _ _ _ _ _ _ _ _ _ _ _ _ _ _ _ _ _ _ _ _ _ _ _ _ _ _ _ _
              · have q1 : decide ((P.length : Int) ≥ 1) = false := decide_eq_false (by omega)
                go_upto_region 9 with (fail)
                iterate 28 go_step
                exact more_one B w3.heap.size _ n c X Y ap cp P (some ⟨g8, 0, none⟩) c8 false w w7 (HR.out.below (HB7.out.mono hB)) (HP.out.below (HB7.out.mono hB)) (Nat.le_trans hB HB7.out.size) HS7.out HB3S.out HB7.out HQ.out HK7.out (Nat.le_trans hB HB3S.out) (by rw [decide_eq_false p1, Bool.false_and]) (by omega) _ _ _ _ _ _ _ _ _ _ _ _ _ _ _ _ _ _ _ _ _ _ _ _ _ _ _ _ _ _ _ _ _ _ _ _ _ _ _ _ _ _ _ _ _ _ _ _ _ _ _ _ _ _ _ _ _ _ _ _ _ _ _ _ _ _ _ _ _ _ _ _ _ _ _ _ _ _ _ _ _ _ _ _ _ _ _ _ _ _ _ _ _ _ _ _ _ _ _ _ _ _ _ _ _ _ _ _ _ _ _ _ _ _ _ _ _ _ _ _ _ _ _ _ _ _ _ _ _ _ _ _ _ _ _ _ _ _ _ _ _ _ _ _ _ _ _ _ _ _ _ _ _ _ _ _ _ _ _ _ _ _
          · by_cases heq : s = [90, 56]
            · subst heq
              go_wp2_with (fail)
              go_ret
              exact ⟨rfl, HB3.out⟩
            · obtain ⟨l1, l2, l3, l4⟩ := less_facts ((lt_or hlt).resolve_left heq)
              clear hlt heq
              go_wp2_with (fail)
              go_ret
              exact ⟨rfl, HB3.out⟩
        · have z1 : decide ((n : Int) > 0) = false := decide_eq_false (by omega)
          have HBE : Hid (Behind X [90, 56]) := Lib.hid (behind_of HS.out (.inl (by have := HR3.out.len; omega)))
          by_cases h100 : 100 < np
          · have e100 : decide ((np : Int) > 100) = true := decide_eq_true (by omega)
            go_wp2_with (fail)
            go_ret
            exact ⟨rfl, HB3.out⟩
          · have e100 : decide ((np : Int) > 100) = false := decide_eq_false (by omega)
            have hsz : ∀ x ∈ X, x.ps.length ≤ 100000 ∧ x.os.length ≤ 100000 := fun x hx => by
              obtain ⟨i, hi, rfl⟩ := List.mem_iff_getElem.1 hx
              have := HCN.out i (by have := HR.out.len; omega)
              rw [List.getD_eq_getElem?_getD, List.getElem?_eq_getElem hi] at this
              simp only [Option.getD_some] at this
              omega
            have HCP := Lib.hid (CopyItems_any B _ n c X w3 HR3.out (Nat.le_trans hB HB3.out.size) (by omega) hsz)
            clear hsz
            go_wp2_with (fail)
            go_at_call 21
            refine HCP.out.mono ?_
            rintro e w4 ⟨Y, a', c', rfl, hYl, ho, hcp, hb4⟩
            have hK4 : KM w3.heap.size w4 (.slice a' n c') X Y [] := ⟨by have := HR.out.len; omega, by rw [List.append_nil]; exact ho, fun i hi => hcp i (by have := HR.out.len; omega)⟩
            have HK4 := Lib.hid hK4
            have HB4 := Lib.hid (HB3.out.trans (hb4.mono HB3.out.size))
            have HS4 := Lib.hid hb4.size
            have O3 := Lib.hid (ho.below ((Below.refl _ w4).alloc (Nat.le_refl _) (.cells #[.string ⟨#[90, 56]⟩, .int .i64 7, .slice none 0 0, .slice none 0 0] 32)))
            have HSRC : Hid (∀ j u, (cellsI [z8])[j]? = some u → (w4.alloc (.cells #[.string ⟨#[90, 56]⟩, .int .i64 7, .slice none 0 0, .slice none 0 0] 32)).cell? ((⟨w4.heap.size, 0, none⟩ : Addr).add j) = some u) := Lib.hid (one_item w4 z8 32)
            have HYL := Lib.hid hYl
            have HB3S : Hid (w.heap.size ≤ w3.heap.size) := Lib.hid HB3.out.size
            clear hYl ho hcp hb4 hK4 HCP
            go_wp2_with (first | (at_builtin; refine wpList_append_item2 rfl _ _ rfl w3.heap.size (.slice a' n c') Y z8 rfl O3.out _ 1 rfl HSRC.out (by rw [World.size_alloc]; have := HS4.out; omega) (by rw [HYL.out]; omega) ?_; intro g8 c8 w5 hown _ hg _; have HB5 : Hid (Below w.heap.size w w5) := Lib.hid ((HB4.out.alloc HB4.out.size _).grown hg (HB4.out.alloc HB4.out.size _).size (fun k e => Nat.le_trans HB3S.out (O3.out.ge k e).1)); rw [HYL.out] at hown; have HK5 := Lib.hid ((HK4.out.below ((Below.refl _ w4).alloc (Nat.le_refl _) (.cells #[.string ⟨#[90, 56]⟩, .int .i64 7, .slice none 0 0, .slice none 0 0] 32))).grown hown hg); have HS5 : Hid (w3.heap.size ≤ w5.heap.size) := Lib.hid (Nat.le_trans (by rw [World.size_alloc]; have := HS4.out; omega) hg.size); clear hown hg))
            rw [HYL.out]
            have hok8 : ∀ W z, z ∈ [z8] → ItOk W.heap.size W z := fun W z hz => by
              rw [List.mem_singleton] at hz
              subst hz
              exact z8_ok _ _
            have hri5 := HK5.out.ri (fun x hx => HR.out.ok x hx) (hok8 w5)
            have hck := Check_any w5.heap.size (some ⟨g8, 0, none⟩) (n + 1) c8 (Y ++ [z8]) w5 hri5 (Nat.le_refl _)
            have hl58 : X.length ≤ 58 := by have := HR.out.len; omega
            rw [chkE_app HK5.out.len HK5.out.like, chk_z8 HS.out hl58 HBE.out] at hck
            have HQ : Hid (QF X) := Lib.hid ⟨H0.out, hl58, HBE.out⟩
            have h5c := hri5.le
            have h5m := hri5.mx
            have n0 : (0 : Int) ≤ (n : Int) := by omega
            have n1 : (n : Int) ≤ (c8 : Int) := by omega
            go_at_call 9
            refine hck.mono ?_
            rintro e w6 ⟨rfl, hb6⟩
            have HB6 := Lib.hid (HB5.out.trans (hb6.mono HB5.out.size))
            have HK6 := Lib.hid (HK5.out.below hb6)
            have HS6 := Lib.hid (Nat.le_trans HS5.out hb6.size)
            have hri6 := (HK6.out.ri (fun x hx => HR.out.ok x hx) (hok8 w6)).take (k := n) (Nat.le_succ n)
            rw [List.take_left' HYL.out] at hri6
            have hck2 := Check_any w6.heap.size (some ⟨g8, 0, none⟩) n c8 Y w6 hri6 (Nat.le_refl _)
            rw [chkE_like HK6.out.len HK6.out.like, H0.out] at hck2
            have HC6 := Lib.hid hck2
            clear hck hb6 hri5 hri6 hck2 hok8 hl58
            go_wp2_with (fail)
            go_at_call 9
            refine HC6.out.mono ?_
            rintro e w7 ⟨rfl, hb7⟩
            have HB7 := Lib.hid (HB6.out.trans (hb7.mono HB6.out.size))
            have HK7 := Lib.hid (HK6.out.below hb7)
            have HS7 := Lib.hid (Nat.le_trans HS6.out hb7.size)
            clear hb7 HC6
            have hpl := HP.out.len
            subst hpl
            by_cases p1 : 1 ≤ P.length
            · have q1 : decide ((P.length : Int) ≥ 1) = true := decide_eq_true (by omega)
              by_cases p8 : P.length ≤ 8
              · have q8 : decide ((P.length : Int) ≤ 8) = true := decide_eq_true (by omega)
                go_upto_region 9 with (fail)
                iterate 28 go_step
                exact more_one B w3.heap.size _ n c X Y ap cp P (some ⟨g8, 0, none⟩) c8 true w w7 (HR.out.below (HB7.out.mono hB)) (HP.out.below (HB7.out.mono hB)) (Nat.le_trans hB HB7.out.size) HS7.out HB3S.out HB7.out HQ.out HK7.out (Nat.le_trans hB HB3S.out) (by rw [decide_eq_true p1, decide_eq_true p8]; rfl) (by omega) _ _ _ _ _ _ _ _ _ _ _ _ _ _ _ _ _ _ _ _ _ _ _ _ _ _ _ _ _ _ _ _ _ _ _ _ _ _ _ _ _ _ _ _ _ _ _ _ _ _ _ _ _ _ _ _ _ _ _ _ _ _ _ _ _ _ _ _ _ _ _ _ _ _ _ _ _ _ _ _ _ _ _ _ _ _ _ _ _ _ _ _ _ _ _ _ _ _ _ _ _ _ _ _ _ _ _ _ _ _ _ _ _ _ _ _ _ _ _ _ _ _ _ _ _ _ _ _ _ _ _ _ _ _ _ _ _ _ _ _ _ _ _ _ _ _ _ _ _ _ _ _ _ _ _ _ _ _ _ _ _ _
              · have q8 : decide ((P.length : Int) ≤ 8) = false := decide_eq_false (by omega)
                go_upto_region 9 with (fail)
                iterate 28 go_step
                exact more_one B w3.heap.size _ n c X Y ap cp P (some ⟨g8, 0, none⟩) c8 false w w7 (HR.out.below (HB7.out.mono hB)) (HP.out.below (HB7.out.mono hB)) (Nat.le_trans hB HB7.out.size) HS7.out HB3S.out HB7.out HQ.out HK7.out (Nat.le_trans hB HB3S.out) (by rw [decide_eq_false p8, Bool.and_false]) (by omega) _ _ _ _ _ _ _ _ _ _ _ _ _ _ _ _ _ _ _ _ _ _ _ _ _ _ _ _ _ _ _ _ _ _ _ _ _ _ _ _ _ _ _ _ _ _ _ _ _ _ _ _ _ _ _ _ _ _ _ _ _ _ _ _ _ _ _ _ _ _ _ _ _ _ _ _ _ _ _ _ _ _ _ _ _ _ _ _ _ _ _ _ _ _ _ _ _ _ _ _ _ _ _ _ _ _ _ _ _ _ _ _ _ _ _ _ _ _ _ _ _ _ _ _ _ _ _ _ _ _ _ _ _ _ _ _ _ _ _ _ _ _ _ _ _ _ _ _ _ _ _ _ _ _ _ _ _ _ _ _ _ _
            · have q1 : decide ((P.length : Int) ≥ 1) = false := decide_eq_false (by omega)
              go_upto_region 9 with (fail)
              iterate 28 go_step
              exact more_one B w3.heap.size _ n c X Y ap cp P (some ⟨g8, 0, none⟩) c8 false w w7 (HR.out.below (HB7.out.mono hB)) (HP.out.below (HB7.out.mono hB)) (Nat.le_trans hB HB7.out.size) HS7.out HB3S.out HB7.out HQ.out HK7.out (Nat.le_trans hB HB3S.out) (by rw [decide_eq_false p1, Bool.false_and]) (by omega) _ _ _ _ _ _ _ _ _ _ _ _ _ _ _ _ _ _ _ _ _ _ _ _ _ _ _ _ _ _ _ _ _ _ _ _ _ _ _ _ _ _ _ _ _ _ _ _ _ _ _ _ _ _ _ _ _ _ _ _ _ _ _ _ _ _ _ _ _ _ _ _ _ _ _ _ _ _ _ _ _ _ _ _ _ _ _ _ _ _ _ _ _ _ _ _ _ _ _ _ _ _ _ _ _ _ _ _ _ _ _ _ _ _ _ _ _ _ _ _ _ _ _ _ _ _ _ _ _ _ _ _ _ _ _ _ _ _ _ _ _ _ _ _ _ _ _ _ _ _ _ _ _ _ _ _ _ _ _ _ _ _
    · obtain ⟨r, hr⟩ : ∃ r, r = chkE X := ⟨_, rfl⟩
      rw [← hr] at h0 ⊢
      have e1 : (r != 0) = true := by simpa using h0
      clear h0 hr
      go_wp2_with (fail)
      go_ret
      exact ⟨rfl, HB3.out⟩
end Go.Proofs.Ythlmnoggeggpkaa
