/- storemankit's bag with lists of states: do they lie apart? (Printed by gen/pbag.py.) -/
import Derived.Test.YtbedbhlebfnohaaGreatKMarkT
import Derived.Test.YtbedbhlebfnohaaGreatTxTexts
import Derived.Test.YtbedbhlebfnohaaGreatJFlat2
import Derived.Test.YtbedbhlebfnohaaGreatFkBase
import Derived.Test.YtbedbhlebfnohaaGreatFkLots
import Derived.Test.YtbedbhlebfnohaaGreatFkParts
import Derived.Test.YtbedbhlebfnohaaGreatFkItems
import Derived.Test.YtbedbhlebfnohaaGreatFkLines
import Derived.Test.YtbedbhlebfnohaaGreatFkStates
namespace Go.Proofs.YtbedbhlebfnohaaGreat.Tx
open Go.RowKit

theorem flatTexts_u (es : List TypeId) (B N M : Nat) (u : Value) (Vs : List Value) (w w' : World) (hBN : B ≤ N) (hN : N ≤ M) (hNw : N ≤ w.heap.size) (hu : w.ownsRow M 100 1 u Vs.length Vs) (hA : Apl 9 1 (fun n => n * 16 ≤ 140737488355328) B N w Vs) (hK : Vs.length ≤ 100000) (hd : Sd es B w w') (hne : ∀ x ∈ es, x ≠ 100) (hne2 : ∀ x ∈ es, x ≠ 9) :
    Calls Tryz.prog 70 #[u] w' fun e w'' => e = .returned (.bool true) ∧ Sd (9 :: es) B w w'' := by
  have st := TX_stab (e := 9) (le := 100)
  have hap := hd.ap (hA.ap' st hNw) st hne2
  have hu' := hd.row hu hne
  obtain ⟨e1, ⟨rfl, h0⟩ | ⟨g, cap, cur, rfl, hg, hh, hle, hcap, r⟩⟩ := id hu'
  · refine (flatTexts_nil w').mono fun _ w2 h => ⟨h.1, ?_⟩
    exact (hd.below h.2).more _
  · refine (flatTexts_any B N Vs.length cap g (fun k => Vs.getD k (.slice none 0 0)) (fun k => slLen (Vs.getD k (.slice none 0 0))) w' hBN hap hK ⟨hle, by simpa [maxLen] using hcap⟩ ⟨Nat.le_trans hN hg, (Array.getElem?_eq_some_iff.1 hh).1⟩ (fun k hk => ?_) hA.pn).mono fun _ w2 h => ⟨h.1, hd.out hap h.2⟩
    rw [hu'.cellAt k (by omega), List.getD_eq_getElem?_getD, List.getElem?_eq_getElem hk]
    rfl
theorem flatLots_u (es : List TypeId) (B N M : Nat) (u : Value) (Vs : List Value) (w w' : World) (hBN : B ≤ N) (hN : N ≤ M) (hNw : N ≤ w.heap.size) (hu : w.ownsRow M 23 1 u Vs.length Vs) (hA : Apl 46 6 (fun n => n ≤ 1000000) B N w Vs) (hK : Vs.length ≤ 100000) (hd : Sd es B w w') (hne : ∀ x ∈ es, x ≠ 23) (hne2 : ∀ x ∈ es, x ≠ 46) :
    Calls Tryz.prog 73 #[u] w' fun e w'' => e = .returned (.bool true) ∧ Sd (46 :: es) B w w'' := by
  have st := TLots_stab (e := 46) (le := 23)
  have hap := hd.ap (hA.ap' st hNw) st hne2
  have hu' := hd.row hu hne
  obtain ⟨e1, ⟨rfl, h0⟩ | ⟨g, cap, cur, rfl, hg, hh, hle, hcap, r⟩⟩ := id hu'
  · refine (flatLots_nil w').mono fun _ w2 h => ⟨h.1, ?_⟩
    exact (hd.below h.2).more _
  · refine (flatLots_any B N Vs.length cap g (fun k => Vs.getD k (.slice none 0 0)) (fun k => slLen (Vs.getD k (.slice none 0 0))) w' hBN hap hK ⟨hle, by simpa [maxLen] using hcap⟩ ⟨Nat.le_trans hN hg, (Array.getElem?_eq_some_iff.1 hh).1⟩ (fun k hk => ?_) hA.pn).mono fun _ w2 h => ⟨h.1, hd.out hap h.2⟩
    rw [hu'.cellAt k (by omega), List.getD_eq_getElem?_getD, List.getElem?_eq_getElem hk]
    rfl
theorem flatParts_u (es : List TypeId) (B N M : Nat) (u : Value) (Vs : List Value) (w w' : World) (hBN : B ≤ N) (hN : N ≤ M) (hNw : N ≤ w.heap.size) (hu : w.ownsRow M 55 1 u Vs.length Vs) (hA : Apl 60 2 (fun n => n * 24 ≤ 140737488355328) B N w Vs) (hK : Vs.length ≤ 100000) (hd : Sd es B w w') (hne : ∀ x ∈ es, x ≠ 55) (hne2 : ∀ x ∈ es, x ≠ 60) :
    Calls Tryz.prog 76 #[u] w' fun e w'' => e = .returned (.bool true) ∧ Sd (60 :: es) B w w'' := by
  have st := TParts_stab (e := 60) (le := 55)
  have hap := hd.ap (hA.ap' st hNw) st hne2
  have hu' := hd.row hu hne
  obtain ⟨e1, ⟨rfl, h0⟩ | ⟨g, cap, cur, rfl, hg, hh, hle, hcap, r⟩⟩ := id hu'
  · refine (flatParts_nil w').mono fun _ w2 h => ⟨h.1, ?_⟩
    exact (hd.below h.2).more _
  · refine (flatParts_any B N Vs.length cap g (fun k => Vs.getD k (.slice none 0 0)) (fun k => slLen (Vs.getD k (.slice none 0 0))) w' hBN hap hK ⟨hle, by simpa [maxLen] using hcap⟩ ⟨Nat.le_trans hN hg, (Array.getElem?_eq_some_iff.1 hh).1⟩ (fun k hk => ?_) hA.pn).mono fun _ w2 h => ⟨h.1, hd.out hap h.2⟩
    rw [hu'.cellAt k (by omega), List.getD_eq_getElem?_getD, List.getElem?_eq_getElem hk]
    rfl
theorem flatItems_u (es : List TypeId) (B N M : Nat) (u : Value) (Vs : List Value) (w w' : World) (hBN : B ≤ N) (hN : N ≤ M) (hNw : N ≤ w.heap.size) (hu : w.ownsRow M 22 1 u Vs.length Vs) (hA : Apl 102 4 (fun n => n ≤ 1000000) B N w Vs) (hK : Vs.length ≤ 100000) (hd : Sd es B w w') (hne : ∀ x ∈ es, x ≠ 22) (hne2 : ∀ x ∈ es, x ≠ 102) :
    Calls Tryz.prog 77 #[u] w' fun e w'' => e = .returned (.bool true) ∧ Sd (102 :: es) B w w'' := by
  have st := TItems_stab (e := 102) (le := 22)
  have hap := hd.ap (hA.ap' st hNw) st hne2
  have hu' := hd.row hu hne
  obtain ⟨e1, ⟨rfl, h0⟩ | ⟨g, cap, cur, rfl, hg, hh, hle, hcap, r⟩⟩ := id hu'
  · refine (flatItems_nil w').mono fun _ w2 h => ⟨h.1, ?_⟩
    exact (hd.below h.2).more _
  · refine (flatItems_any B N Vs.length cap g (fun k => Vs.getD k (.slice none 0 0)) (fun k => slLen (Vs.getD k (.slice none 0 0))) w' hBN hap hK ⟨hle, by simpa [maxLen] using hcap⟩ ⟨Nat.le_trans hN hg, (Array.getElem?_eq_some_iff.1 hh).1⟩ (fun k hk => ?_) hA.pn).mono fun _ w2 h => ⟨h.1, hd.out hap h.2⟩
    rw [hu'.cellAt k (by omega), List.getD_eq_getElem?_getD, List.getElem?_eq_getElem hk]
    rfl
theorem flatLines_u (es : List TypeId) (B N M : Nat) (u : Value) (Vs : List Value) (w w' : World) (hBN : B ≤ N) (hN : N ≤ M) (hNw : N ≤ w.heap.size) (hu : w.ownsRow M 24 1 u Vs.length Vs) (hA : Apl 49 8 (fun n => n ≤ 1000000) B N w Vs) (hK : Vs.length ≤ 100000) (hd : Sd es B w w') (hne : ∀ x ∈ es, x ≠ 24) (hne2 : ∀ x ∈ es, x ≠ 49) :
    Calls Tryz.prog 78 #[u] w' fun e w'' => e = .returned (.bool true) ∧ Sd (49 :: es) B w w'' := by
  have st := TLines_stab (e := 49) (le := 24)
  have hap := hd.ap (hA.ap' st hNw) st hne2
  have hu' := hd.row hu hne
  obtain ⟨e1, ⟨rfl, h0⟩ | ⟨g, cap, cur, rfl, hg, hh, hle, hcap, r⟩⟩ := id hu'
  · refine (flatLines_nil w').mono fun _ w2 h => ⟨h.1, ?_⟩
    exact (hd.below h.2).more _
  · refine (flatLines_any B N Vs.length cap g (fun k => Vs.getD k (.slice none 0 0)) (fun k => slLen (Vs.getD k (.slice none 0 0))) w' hBN hap hK ⟨hle, by simpa [maxLen] using hcap⟩ ⟨Nat.le_trans hN hg, (Array.getElem?_eq_some_iff.1 hh).1⟩ (fun k hk => ?_) hA.pn).mono fun _ w2 h => ⟨h.1, hd.out hap h.2⟩
    rw [hu'.cellAt k (by omega), List.getD_eq_getElem?_getD, List.getElem?_eq_getElem hk]
    rfl
theorem flatStates_u (es : List TypeId) (B N M : Nat) (u : Value) (Vs : List Value) (w w' : World) (hBN : B ≤ N) (hN : N ≤ M) (hNw : N ≤ w.heap.size) (hu : w.ownsRow M 38 1 u Vs.length Vs) (hA : Apl 26 6 (fun n => n ≤ 1000000) B N w Vs) (hK : Vs.length ≤ 100000) (hd : Sd es B w w') (hne : ∀ x ∈ es, x ≠ 38) (hne2 : ∀ x ∈ es, x ≠ 26) :
    Calls Tryz.prog 81 #[u] w' fun e w'' => e = .returned (.bool true) ∧ Sd (26 :: es) B w w'' := by
  have st := TStates_stab (e := 26) (le := 38)
  have hap := hd.ap (hA.ap' st hNw) st hne2
  have hu' := hd.row hu hne
  obtain ⟨e1, ⟨rfl, h0⟩ | ⟨g, cap, cur, rfl, hg, hh, hle, hcap, r⟩⟩ := id hu'
  · refine (flatStates_nil w').mono fun _ w2 h => ⟨h.1, ?_⟩
    exact (hd.below h.2).more _
  · refine (flatStates_any B N Vs.length cap g (fun k => Vs.getD k (.slice none 0 0)) (fun k => slLen (Vs.getD k (.slice none 0 0))) w' hBN hap hK ⟨hle, by simpa [maxLen] using hcap⟩ ⟨Nat.le_trans hN hg, (Array.getElem?_eq_some_iff.1 hh).1⟩ (fun k hk => ?_) hA.pn).mono fun _ w2 h => ⟨h.1, hd.out hap h.2⟩
    rw [hu'.cellAt k (by omega), List.getD_eq_getElem?_getD, List.getElem?_eq_getElem hk]
    rfl
set_option maxHeartbeats 16000000 in
set_option maxRecDepth 100000 in
theorem apart_any (B N z : Nat) (b : Bg) (w : World) (hBN : B ≤ N) (hNz : N ≤ z) (hbag : Bag z w b) (h3 : Apl 9 1 (fun n => n * 16 ≤ 140737488355328) B N w b.tx) (k3 : b.tx.length ≤ 100000) (h6 : Apl 46 6 (fun n => n ≤ 1000000) B N w b.lo) (k6 : b.lo.length ≤ 100000) (h9 : Apl 60 2 (fun n => n * 24 ≤ 140737488355328) B N w b.pa) (k9 : b.pa.length ≤ 100000) (h10 : Apl 102 4 (fun n => n ≤ 1000000) B N w b.it) (k10 : b.it.length ≤ 100000) (h11 : Apl 49 8 (fun n => n ≤ 1000000) B N w b.li) (k11 : b.li.length ≤ 100000) (h14 : Apl 26 6 (fun n => n ≤ 1000000) B N w b.st) (k14 : b.st.length ≤ 100000) :
    Calls Tryz.prog 40 #[.pointer (some ⟨z, 0, none⟩)] w fun e w' => e = .returned (.bool true) ∧ Below B w w' := by
  have hzlt := hbag.lt
  obtain ⟨cs, hh, hs, hall⟩ := hbag
  have HNil : Hid (∀ i, i < 23 → b.at i = [] → cs[i]? = some (.slice none 0 0)) := Lib.hid fun i hi h0 => by
    obtain ⟨u, h1, -, h2⟩ := hall i hi
    rw [← h2 h0]; exact h1
  have HC : Hid (∀ es w', Sd es B w w' → (∀ x ∈ es, x ≠ 98) → ∀ i u, cs[i]? = some u → w'.cell? ⟨z, i, none⟩ = some u) := Lib.hid fun es w' hd hne i u hu => hd.cell hh hne hu
  obtain ⟨u3, d3, r3, -⟩ := hall 3 (by decide)
  have HP3 : Hid (∀ w', Sd [] B w w' → Calls Tryz.prog 70 #[u3] w' fun e w'' => e = .returned (.bool true) ∧ Sd (9 :: []) B w w'') := Lib.hid fun w' hd => flatTexts_u _ B N (z + 1) u3 b.tx w w' hBN (by omega) (by omega) r3 h3 k3 hd (by decide) (by decide)
  obtain ⟨x3, y3, z3, e3⟩ : ∃ a n c, u3 = .slice a n c := by obtain ⟨a, c, e, -⟩ := rows_form r3; exact ⟨_, _, _, e⟩
  subst e3
  have D3 := Lib.hid d3
  obtain ⟨u6, d6, r6, -⟩ := hall 6 (by decide)
  have HP6 : Hid (∀ w', Sd [9] B w w' → Calls Tryz.prog 73 #[u6] w' fun e w'' => e = .returned (.bool true) ∧ Sd (46 :: [9]) B w w'') := Lib.hid fun w' hd => flatLots_u _ B N (z + 1) u6 b.lo w w' hBN (by omega) (by omega) r6 h6 k6 hd (by decide) (by decide)
  obtain ⟨x6, y6, z6, e6⟩ : ∃ a n c, u6 = .slice a n c := by obtain ⟨a, c, e, -⟩ := rows_form r6; exact ⟨_, _, _, e⟩
  subst e6
  have D6 := Lib.hid d6
  obtain ⟨u9, d9, r9, -⟩ := hall 9 (by decide)
  have HP9 : Hid (∀ w', Sd [46, 9] B w w' → Calls Tryz.prog 76 #[u9] w' fun e w'' => e = .returned (.bool true) ∧ Sd (60 :: [46, 9]) B w w'') := Lib.hid fun w' hd => flatParts_u _ B N (z + 1) u9 b.pa w w' hBN (by omega) (by omega) r9 h9 k9 hd (by decide) (by decide)
  obtain ⟨x9, y9, z9, e9⟩ : ∃ a n c, u9 = .slice a n c := by obtain ⟨a, c, e, -⟩ := rows_form r9; exact ⟨_, _, _, e⟩
  subst e9
  have D9 := Lib.hid d9
  obtain ⟨u10, d10, r10, -⟩ := hall 10 (by decide)
  have HP10 : Hid (∀ w', Sd [60, 46, 9] B w w' → Calls Tryz.prog 77 #[u10] w' fun e w'' => e = .returned (.bool true) ∧ Sd (102 :: [60, 46, 9]) B w w'') := Lib.hid fun w' hd => flatItems_u _ B N (z + 1) u10 b.it w w' hBN (by omega) (by omega) r10 h10 k10 hd (by decide) (by decide)
  obtain ⟨x10, y10, z10, e10⟩ : ∃ a n c, u10 = .slice a n c := by obtain ⟨a, c, e, -⟩ := rows_form r10; exact ⟨_, _, _, e⟩
  subst e10
  have D10 := Lib.hid d10
  obtain ⟨u11, d11, r11, -⟩ := hall 11 (by decide)
  have HP11 : Hid (∀ w', Sd [102, 60, 46, 9] B w w' → Calls Tryz.prog 78 #[u11] w' fun e w'' => e = .returned (.bool true) ∧ Sd (49 :: [102, 60, 46, 9]) B w w'') := Lib.hid fun w' hd => flatLines_u _ B N (z + 1) u11 b.li w w' hBN (by omega) (by omega) r11 h11 k11 hd (by decide) (by decide)
  obtain ⟨x11, y11, z11, e11⟩ : ∃ a n c, u11 = .slice a n c := by obtain ⟨a, c, e, -⟩ := rows_form r11; exact ⟨_, _, _, e⟩
  subst e11
  have D11 := Lib.hid d11
  obtain ⟨u14, d14, r14, -⟩ := hall 14 (by decide)
  have HP14 : Hid (∀ w', Sd [49, 102, 60, 46, 9] B w w' → Calls Tryz.prog 81 #[u14] w' fun e w'' => e = .returned (.bool true) ∧ Sd (26 :: [49, 102, 60, 46, 9]) B w w'') := Lib.hid fun w' hd => flatStates_u _ B N (z + 1) u14 b.st w w' hBN (by omega) (by omega) r14 h14 k14 hd (by decide) (by decide)
  obtain ⟨x14, y14, z14, e14⟩ : ∃ a n c, u14 = .slice a n c := by obtain ⟨a, c, e, -⟩ := rows_form r14; exact ⟨_, _, _, e⟩
  subst e14
  have D14 := Lib.hid d14
  have S0 : Hid (Sd [] B w w) := Lib.hid (Sd.refl _ _ _)
  have HFin : Hid (∀ es w', Sd es B w w' → Below B w w') := Lib.hid fun es w' hd => hd.toBelow (by omega)
  clear hh hs hall r3 d3 h3 k3 r6 d6 h6 k6 r9 d9 h9 k9 r10 d10 h10 k10 r11 d11 h11 k11 r14 d14 h14 k14 hBN
  have c0 := HC.out _ _ S0.out (by decide) 0 _ (HNil.out 0 (by decide) rfl)
  go_enter Tryz.func40, Tryz.ntmps40
  go_wp2_with (first | (go_at_call 67; refine (flatWords_nil _).mono ?_; rintro e w1 ⟨rfl, hb⟩; have S1 := Lib.hid (S0.out.below hb); clear hb c0; have c1 := HC.out _ _ S1.out (by decide) 1 _ (HNil.out 1 (by decide) rfl)) | (go_at_call 68; refine (flatInts_nil _).mono ?_; rintro e w2 ⟨rfl, hb⟩; have S2 := Lib.hid (S1.out.below hb); clear hb c1; have c2 := HC.out _ _ S2.out (by decide) 2 _ (HNil.out 2 (by decide) rfl)) | (go_at_call 69; refine (flatLongs_nil _).mono ?_; rintro e w3 ⟨rfl, hb⟩; have S3 := Lib.hid (S2.out.below hb); clear hb c2; have c3 := HC.out _ _ S3.out (by decide) 3 _ D3.out) | (go_at_call 70; refine (HP3.out w3 S3.out).mono ?_; rintro e w4 ⟨rfl, hd⟩; have S4 := Lib.hid hd; clear hd c3; have c4 := HC.out _ _ S4.out (by decide) 4 _ (HNil.out 4 (by decide) rfl)) | (go_at_call 71; refine (flatBytes_nil _).mono ?_; rintro e w5 ⟨rfl, hb⟩; have S5 := Lib.hid (S4.out.below hb); clear hb c4; have c5 := HC.out _ _ S5.out (by decide) 5 _ (HNil.out 5 (by decide) rfl)) | (go_at_call 72; refine (flatWindows_nil _).mono ?_; rintro e w6 ⟨rfl, hb⟩; have S6 := Lib.hid (S5.out.below hb); clear hb c5; have c6 := HC.out _ _ S6.out (by decide) 6 _ D6.out) | (go_at_call 73; refine (HP6.out w6 S6.out).mono ?_; rintro e w7 ⟨rfl, hd⟩; have S7 := Lib.hid hd; clear hd c6; have c7 := HC.out _ _ S7.out (by decide) 7 _ (HNil.out 7 (by decide) rfl)) | (go_at_call 74; refine (flatWants_nil _).mono ?_; rintro e w8 ⟨rfl, hb⟩; have S8 := Lib.hid (S7.out.below hb); clear hb c7; have c8 := HC.out _ _ S8.out (by decide) 8 _ (HNil.out 8 (by decide) rfl)) | (go_at_call 75; refine (flatUses_nil _).mono ?_; rintro e w9 ⟨rfl, hb⟩; have S9 := Lib.hid (S8.out.below hb); clear hb c8; have c9 := HC.out _ _ S9.out (by decide) 9 _ D9.out) | (go_at_call 76; refine (HP9.out w9 S9.out).mono ?_; rintro e w10 ⟨rfl, hd⟩; have S10 := Lib.hid hd; clear hd c9; have c10 := HC.out _ _ S10.out (by decide) 10 _ D10.out) | (go_at_call 77; refine (HP10.out w10 S10.out).mono ?_; rintro e w11 ⟨rfl, hd⟩; have S11 := Lib.hid hd; clear hd c10; have c11 := HC.out _ _ S11.out (by decide) 11 _ D11.out) | (go_at_call 78; refine (HP11.out w11 S11.out).mono ?_; rintro e w12 ⟨rfl, hd⟩; have S12 := Lib.hid hd; clear hd c11; have c12 := HC.out _ _ S12.out (by decide) 12 _ (HNil.out 12 (by decide) rfl)) | (go_at_call 79; refine (flatAsks_nil _).mono ?_; rintro e w13 ⟨rfl, hb⟩; have S13 := Lib.hid (S12.out.below hb); clear hb c12; have c13 := HC.out _ _ S13.out (by decide) 13 _ (HNil.out 13 (by decide) rfl)) | (go_at_call 80; refine (flatTells_nil _).mono ?_; rintro e w14 ⟨rfl, hb⟩; have S14 := Lib.hid (S13.out.below hb); clear hb c13; have c14 := HC.out _ _ S14.out (by decide) 14 _ D14.out) | (go_at_call 81; refine (HP14.out w14 S14.out).mono ?_; rintro e w15 ⟨rfl, hd⟩; have S15 := Lib.hid hd; clear hd c14; have c15 := HC.out _ _ S15.out (by decide) 15 _ (HNil.out 15 (by decide) rfl)) | (go_at_call 82; refine (flatRows_nil _).mono ?_; rintro e w16 ⟨rfl, hb⟩; have S16 := Lib.hid (S15.out.below hb); clear hb c15; have c16 := HC.out _ _ S16.out (by decide) 16 _ (HNil.out 16 (by decide) rfl)) | (go_at_call 83; refine (flatTurns_nil _).mono ?_; rintro e w17 ⟨rfl, hb⟩; have S17 := Lib.hid (S16.out.below hb); clear hb c16; have c17 := HC.out _ _ S17.out (by decide) 17 _ (HNil.out 17 (by decide) rfl)) | (go_at_call 84; refine (flatFates_nil _).mono ?_; rintro e w18 ⟨rfl, hb⟩; have S18 := Lib.hid (S17.out.below hb); clear hb c17; have c18 := HC.out _ _ S18.out (by decide) 18 _ (HNil.out 18 (by decide) rfl)) | (go_at_call 85; refine (flatDirties_nil _).mono ?_; rintro e w19 ⟨rfl, hb⟩; have S19 := Lib.hid (S18.out.below hb); clear hb c18; have c19 := HC.out _ _ S19.out (by decide) 19 _ (HNil.out 19 (by decide) rfl)) | (go_at_call 86; refine (flatOpens_nil _).mono ?_; rintro e w20 ⟨rfl, hb⟩; have S20 := Lib.hid (S19.out.below hb); clear hb c19; have c20 := HC.out _ _ S20.out (by decide) 20 _ (HNil.out 20 (by decide) rfl)) | (go_at_call 87; refine (flatRecords_nil _).mono ?_; rintro e w21 ⟨rfl, hb⟩; have S21 := Lib.hid (S20.out.below hb); clear hb c20; have c21 := HC.out _ _ S21.out (by decide) 21 _ (HNil.out 21 (by decide) rfl)) | (go_at_call 88; refine (flatSteps_nil _).mono ?_; rintro e w22 ⟨rfl, hb⟩; have S22 := Lib.hid (S21.out.below hb); clear hb c21; have c22 := HC.out _ _ S22.out (by decide) 22 _ (HNil.out 22 (by decide) rfl)) | (go_at_call 89; refine (flatTales_nil _).mono ?_; rintro e w23 ⟨rfl, hb⟩; have S23 := Lib.hid (S22.out.below hb); clear hb c22))
  go_ret
  exact ⟨rfl, HFin.out _ _ S23.out⟩
end Go.Proofs.YtbedbhlebfnohaaGreat.Tx
