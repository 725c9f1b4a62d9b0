/- storemankit's bag of lists of bytes and of rows: apart, ApartBytes, ApartRows. -/
import Derived.Test.YtohlkkannjifmaaGreatDoorFlBag
namespace Go.Proofs.YtohlkkannjifmaaGreatDoor
open Go.RowKit
theorem flatBytes_u (B N M K : Nat) (u : Value) (V : Nat → Value) (n : Nat → Nat) (w : World) (hBN : B ≤ N) (hN : N ≤ M) (hu : w.ownsRow M 27 1 u K ((List.range K).map V)) (hA : Ap 5 1 TB B N K V n (fun _ => 0) w) (hK : K ≤ 100000) (hF : ∀ k, k < K → n k ≤ 1000000) :
    Calls Tryz.prog 97 #[u] w fun e w' => e = .returned (.bool true) ∧ Out K V w w' := by
  obtain ⟨e1, ⟨rfl, rfl⟩ | ⟨g, cap, cur, rfl, hg, hh, hle, hcap, r⟩⟩ := id hu
  · exact (flatBytes_nil w).mono fun _ _ h => ⟨h.1, (Out.refl _ _ _).below h.2⟩
  · refine flatBytes_any B N K cap g V n w hBN hA hK ⟨hle, by simpa [maxLen] using hcap⟩ ⟨Nat.le_trans hN hg, (Array.getElem?_eq_some_iff.1 hh).1⟩ (fun k hk => ?_) hF
    rw [hu.cellAt k (by omega), List.getElem?_map, List.getElem?_range hk]
    rfl
theorem flatRows_u (B N M K : Nat) (u : Value) (V : Nat → Value) (n : Nat → Nat) (w : World) (hBN : B ≤ N) (hN : N ≤ M) (hu : w.ownsRow M 94 1 u K ((List.range K).map V)) (hA : Ap 185 2 TR B N K V n (fun _ => 0) w) (hK : K ≤ 100000) (hF : ∀ k, k < K → n k ≤ 1000000) :
    Calls Tryz.prog 108 #[u] w fun e w' => e = .returned (.bool true) ∧ Out K V w w' := by
  obtain ⟨e1, ⟨rfl, rfl⟩ | ⟨g, cap, cur, rfl, hg, hh, hle, hcap, r⟩⟩ := id hu
  · exact (flatRows_nil w).mono fun _ _ h => ⟨h.1, (Out.refl _ _ _).below h.2⟩
  · refine flatRows_any B N K cap g V n w hBN hA hK ⟨hle, by simpa [maxLen] using hcap⟩ ⟨Nat.le_trans hN hg, (Array.getElem?_eq_some_iff.1 hh).1⟩ (fun k hk => ?_) hF
    rw [hu.cellAt k (by omega), List.getElem?_map, List.getElem?_range hk]
    rfl
def joinV (Kb : Nat) (Vb Vr : Nat → Value) : Nat → Value := fun j => if j < Kb then Vb j else Vr (j - Kb)
theorem Out.left {Kb Kr : Nat} {Vb Vr : Nat → Value} {w w' : World} (h : Out Kb Vb w w') : Out (Kb + Kr) (joinV Kb Vb Vr) w w' :=
  ⟨h.os, h.tape, h.output, h.size, fun k hk hn => h.block k hk (fun j hj => by have := hn j (by omega); unfold joinV at this; rwa [if_pos hj] at this)⟩
theorem Out.right {Kb Kr : Nat} {Vb Vr : Nat → Value} {w w' : World} (h : Out Kr Vr w w') : Out (Kb + Kr) (joinV Kb Vb Vr) w w' :=
  ⟨h.os, h.tape, h.output, h.size, fun k hk hn => h.block k hk (fun j hj => by have := hn (Kb + j) (by omega); unfold joinV at this; rwa [if_neg (by omega), Nat.add_sub_cancel_left] at this)⟩
theorem Ap.out {e le : TypeId} {cs : Nat} {T : World → List Value → Nat → Nat → Prop} {B N K Kb : Nat} {V Vb : Nat → Value} {n : Nat → Nat} {w w' : World} (h : Ap e cs T B N K V n (fun _ => 0) w) (st : Stab e le T) (ho : Out Kb Vb w w') (hd : ∀ i, i < Kb → ∀ j, j < K → ∀ b, (Vb i).ownBlock = some b → (V j).ownBlock ≠ some b) : Ap e cs T B N K V n (fun _ => 0) w' :=
  ⟨fun k hk => by
    obtain ⟨X, h1, -⟩ := h.own k hk
    exact ⟨X, rows_keep h1 fun b hb => ho.block b (rows_ge h1 b hb).2 (fun j hj e => hd j hj k hk b e hb), st.zero _ _ _⟩, h.lt, h.ap, Nat.le_trans h.size ho.size⟩
theorem Ap.joinNe {Kb Kr B N : Nat} {Vb Vr : Nat → Value} {nb nr Ib Ir : Nat → Nat} {e1 e2 : TypeId} {c1 c2 : Nat} {T1 T2 : World → List Value → Nat → Nat → Prop} {w w' : World} (hb : Ap e1 c1 T1 B N Kb Vb nb Ib w) (hr : Ap e2 c2 T2 B N Kr Vr nr Ir w') {b : Nat} (hN : N ≤ b) : ∀ j, j < Kb + Kr → (joinV Kb Vb Vr j).ownBlock ≠ some b := fun j hj => by
  unfold joinV
  split
  · exact hb.ne (by assumption) hN
  · exact hr.ne (by omega) hN
set_option maxHeartbeats 16000000 in
set_option maxRecDepth 100000 in
theorem bag_any (B N Kb Kr z : Nat) (Vb Vr : Nat → Value) (nb nr : Nat → Nat) (w : World) (hBN : B ≤ N) (hAb : Ap 5 1 TB B N Kb Vb nb (fun _ => 0) w) (hAr : Ap 185 2 TR B N Kr Vr nr (fun _ => 0) w)
    (hd : ∀ i, i < Kb → ∀ j, j < Kr → ∀ b, (Vb i).ownBlock = some b → (Vr j).ownBlock ≠ some b) (hKb : Kb ≤ 100000) (hKr : Kr ≤ 100000) (hz : N ≤ z) (hbag : Bag z w ((List.range Kb).map Vb) ((List.range Kr).map Vr)) (hFb : ∀ k, k < Kb → nb k ≤ 1000000) (hFr : ∀ k, k < Kr → nr k ≤ 1000000) :
    Calls Tryz.prog 57 #[.pointer (some ⟨z, 0, none⟩)] w fun e w' => e = .returned (.bool true) ∧ Out (Kb + Kr) (joinV Kb Vb Vr) w w' := by
  have hzlt := hbag.lt
  obtain ⟨cs, ub, ur, hh, hs, hnil, h4, h15, hob, hor, -⟩ := hbag
  rw [List.length_map, List.length_range] at hob hor
  have HZ : Hid (∀ j, j < Kb + Kr → (joinV Kb Vb Vr j).ownBlock ≠ some z) := Lib.hid (hAb.joinNe hAr hz)
  have HC : Hid (∀ w', Out (Kb + Kr) (joinV Kb Vb Vr) w w' → ∀ i u, cs[i]? = some u → w'.cell? ⟨z, i, none⟩ = some u) := Lib.hid fun w' ho i u hi => by
    rw [cell_of_row w' z i _ _ _ ((ho.block z hzlt HZ.out).trans hh)]; exact hi
  have HNil := Lib.hid hnil
  have H4 := Lib.hid h4
  have H15 := Lib.hid h15
  have HPb : Hid (∀ w', Below w.heap.size w w' → Calls Tryz.prog 97 #[ub] w' fun e w'' => e = .returned (.bool true) ∧ Out Kb Vb w' w'') := Lib.hid fun w' hb =>
    flatBytes_u B N (z + 1) Kb ub Vb nb w' hBN (by omega) (rows_below hob hb) (hAb.below (TB_stab (le := 27)) hb) hKb hFb
  have HPr : Hid (∀ w' w'' w3, Below w.heap.size w w' → Out Kb Vb w' w'' → Below w''.heap.size w'' w3 → Calls Tryz.prog 108 #[ur] w3 fun e w4 => e = .returned (.bool true) ∧ Out Kr Vr w3 w4) := Lib.hid fun w' w'' w3 hb ho hb3 =>
    flatRows_u B N (z + 1) Kr ur Vr nr w3 hBN (by omega) (rows_below (rows_keep (rows_below hor hb) fun b e => ho.block b (Nat.lt_of_lt_of_le (rows_ge hor b e).2 hb.size) (fun j hj => hAb.ne hj (by have := (rows_ge hor b e).1; omega))) hb3) (((hAr.below TR_stab hb).out TR_stab ho hd).below TR_stab hb3) hKr hFr
  have B0 := Lib.hid (Below.refl w.heap.size w)
  have c0 := HC.out w (Out.refl _ _ _) 0 _ (HNil.out 0 (by decide) (by decide) (by decide))
  obtain ⟨ua, un, uc, eub⟩ : ∃ a n c, ub = .slice a n c := by obtain ⟨a, c, e, -⟩ := rows_form hob; exact ⟨_, _, _, e⟩
  obtain ⟨ra, rn, rc, eur⟩ : ∃ a n c, ur = .slice a n c := by obtain ⟨a, c, e, -⟩ := rows_form hor; exact ⟨_, _, _, e⟩
  subst eub
  subst eur
  clear hAb hAr hd hFb hFr hh hs hnil h4 h15 hob hor
  go_enter Tryz.func57, Tryz.ntmps57
  go_wp2_with (first | (go_at_call 93; refine (flatWords_nil _).mono ?_; rintro e w1 ⟨rfl, hb⟩; have B1 := Lib.hid (B0.out.trans (hb.mono B0.out.size)); clear hb c0; have c1 := HC.out w1 ((Out.refl _ _ w).below B1.out) 1 _ (HNil.out 1 (by decide) (by decide) (by decide))) | (go_at_call 94; refine (flatInts_nil _).mono ?_; rintro e w2 ⟨rfl, hb⟩; have B2 := Lib.hid (B1.out.trans (hb.mono B1.out.size)); clear hb c1; have c2 := HC.out w2 ((Out.refl _ _ w).below B2.out) 2 _ (HNil.out 2 (by decide) (by decide) (by decide))) | (go_at_call 95; refine (flatLongs_nil _).mono ?_; rintro e w3 ⟨rfl, hb⟩; have B3 := Lib.hid (B2.out.trans (hb.mono B2.out.size)); clear hb c2; have c3 := HC.out w3 ((Out.refl _ _ w).below B3.out) 3 _ (HNil.out 3 (by decide) (by decide) (by decide))) | (go_at_call 96; refine (flatTexts_nil _).mono ?_; rintro e w4 ⟨rfl, hb⟩; have B4 := Lib.hid (B3.out.trans (hb.mono B3.out.size)); clear hb c3; have c4 := HC.out w4 ((Out.refl _ _ w).below B4.out) 4 _ H4.out) | (go_at_call 97; refine (HPb.out w4 B4.out).mono ?_; rintro e w5 ⟨rfl, ho⟩; have O5 := Lib.hid ho; have D5 := Lib.hid (Below.refl w5.heap.size w5); have T5 : Hid (Out (Kb + Kr) (joinV Kb Vb Vr) w w5) := Lib.hid (((Out.refl _ _ w).below B4.out).trans ho.left); clear ho c4; have c5 := HC.out w5 (T5.out) 5 _ (HNil.out 5 (by decide) (by decide) (by decide))) | (go_at_call 98; refine (flatWindows_nil _).mono ?_; rintro e w6 ⟨rfl, hb⟩; have D6 := Lib.hid (D5.out.trans (hb.mono D5.out.size)); have T6 := Lib.hid (T5.out.below hb); clear hb c5; have c6 := HC.out w6 (T6.out) 6 _ (HNil.out 6 (by decide) (by decide) (by decide))) | (go_at_call 99; refine (flatLots_nil _).mono ?_; rintro e w7 ⟨rfl, hb⟩; have D7 := Lib.hid (D6.out.trans (hb.mono D6.out.size)); have T7 := Lib.hid (T6.out.below hb); clear hb c6; have c7 := HC.out w7 (T7.out) 7 _ (HNil.out 7 (by decide) (by decide) (by decide))) | (go_at_call 100; refine (flatWants_nil _).mono ?_; rintro e w8 ⟨rfl, hb⟩; have D8 := Lib.hid (D7.out.trans (hb.mono D7.out.size)); have T8 := Lib.hid (T7.out.below hb); clear hb c7; have c8 := HC.out w8 (T8.out) 8 _ (HNil.out 8 (by decide) (by decide) (by decide))) | (go_at_call 101; refine (flatUses_nil _).mono ?_; rintro e w9 ⟨rfl, hb⟩; have D9 := Lib.hid (D8.out.trans (hb.mono D8.out.size)); have T9 := Lib.hid (T8.out.below hb); clear hb c8; have c9 := HC.out w9 (T9.out) 9 _ (HNil.out 9 (by decide) (by decide) (by decide))) | (go_at_call 102; refine (flatParts_nil _).mono ?_; rintro e w10 ⟨rfl, hb⟩; have D10 := Lib.hid (D9.out.trans (hb.mono D9.out.size)); have T10 := Lib.hid (T9.out.below hb); clear hb c9; have c10 := HC.out w10 (T10.out) 10 _ (HNil.out 10 (by decide) (by decide) (by decide))) | (go_at_call 103; refine (flatItems_nil _).mono ?_; rintro e w11 ⟨rfl, hb⟩; have D11 := Lib.hid (D10.out.trans (hb.mono D10.out.size)); have T11 := Lib.hid (T10.out.below hb); clear hb c10; have c11 := HC.out w11 (T11.out) 11 _ (HNil.out 11 (by decide) (by decide) (by decide))) | (go_at_call 104; refine (flatLines_nil _).mono ?_; rintro e w12 ⟨rfl, hb⟩; have D12 := Lib.hid (D11.out.trans (hb.mono D11.out.size)); have T12 := Lib.hid (T11.out.below hb); clear hb c11; have c12 := HC.out w12 (T12.out) 12 _ (HNil.out 12 (by decide) (by decide) (by decide))) | (go_at_call 105; refine (flatAsks_nil _).mono ?_; rintro e w13 ⟨rfl, hb⟩; have D13 := Lib.hid (D12.out.trans (hb.mono D12.out.size)); have T13 := Lib.hid (T12.out.below hb); clear hb c12; have c13 := HC.out w13 (T13.out) 13 _ (HNil.out 13 (by decide) (by decide) (by decide))) | (go_at_call 106; refine (flatTells_nil _).mono ?_; rintro e w14 ⟨rfl, hb⟩; have D14 := Lib.hid (D13.out.trans (hb.mono D13.out.size)); have T14 := Lib.hid (T13.out.below hb); clear hb c13; have c14 := HC.out w14 (T14.out) 14 _ (HNil.out 14 (by decide) (by decide) (by decide))) | (go_at_call 107; refine (flatStates_nil _).mono ?_; rintro e w15 ⟨rfl, hb⟩; have D15 := Lib.hid (D14.out.trans (hb.mono D14.out.size)); have T15 := Lib.hid (T14.out.below hb); clear hb c14; have c15 := HC.out w15 (T15.out) 15 _ H15.out) | (go_at_call 108; refine (HPr.out w4 w5 w15 B4.out O5.out D15.out).mono ?_; rintro e w16 ⟨rfl, ho⟩; have T16 := Lib.hid (T15.out.trans ho.right); clear ho c15; have c16 := HC.out w16 (T16.out) 16 _ (HNil.out 16 (by decide) (by decide) (by decide))) | (go_at_call 109; refine (flatTurns_nil _).mono ?_; rintro e w17 ⟨rfl, hb⟩; have T17 := Lib.hid (T16.out.below hb); clear hb c16; have c17 := HC.out w17 (T17.out) 17 _ (HNil.out 17 (by decide) (by decide) (by decide))) | (go_at_call 110; refine (flatFates_nil _).mono ?_; rintro e w18 ⟨rfl, hb⟩; have T18 := Lib.hid (T17.out.below hb); clear hb c17; have c18 := HC.out w18 (T18.out) 18 _ (HNil.out 18 (by decide) (by decide) (by decide))) | (go_at_call 111; refine (flatDirties_nil _).mono ?_; rintro e w19 ⟨rfl, hb⟩; have T19 := Lib.hid (T18.out.below hb); clear hb c18; have c19 := HC.out w19 (T19.out) 19 _ (HNil.out 19 (by decide) (by decide) (by decide))) | (go_at_call 112; refine (flatOpens_nil _).mono ?_; rintro e w20 ⟨rfl, hb⟩; have T20 := Lib.hid (T19.out.below hb); clear hb c19; have c20 := HC.out w20 (T20.out) 20 _ (HNil.out 20 (by decide) (by decide) (by decide))) | (go_at_call 113; refine (flatRecords_nil _).mono ?_; rintro e w21 ⟨rfl, hb⟩; have T21 := Lib.hid (T20.out.below hb); clear hb c20; have c21 := HC.out w21 (T21.out) 21 _ (HNil.out 21 (by decide) (by decide) (by decide))) | (go_at_call 114; refine (flatSteps_nil _).mono ?_; rintro e w22 ⟨rfl, hb⟩; have T22 := Lib.hid (T21.out.below hb); clear hb c21; have c22 := HC.out w22 (T22.out) 22 _ (HNil.out 22 (by decide) (by decide) (by decide))) | (go_at_call 115; refine (flatTales_nil _).mono ?_; rintro e w23 ⟨rfl, hb⟩; have T23 := Lib.hid (T22.out.below hb); clear hb c22))
  go_ret
  exact ⟨rfl, T23.out⟩
set_option maxHeartbeats 4000000 in
set_option maxRecDepth 100000 in
theorem ApartBytes_any (B K c lb : Nat) (V : Nat → Value) (n : Nat → Nat) (w : World) (hB : B ≤ w.heap.size) (hA : Ap 5 1 TB B w.heap.size K V n (fun _ => 0) w) (hK : K ≤ 100000) (hc : K ≤ c ∧ c ≤ 9223372036854775807) (hlb : lb < w.heap.size)
    (hls : ∀ k, k < K → w.cell? ⟨lb, k, none⟩ = some (V k)) (hF : ∀ k, k < K → n k ≤ 1000000) :
    Calls Tryz.prog 16 #[.slice (some ⟨lb, 0, none⟩) K c] w fun e w' => e = .returned (.bool true) ∧ Out K V w w' := by
  obtain ⟨hc1, hc2⟩ := hc
  have HA := Lib.hid hA
  have HLS := Lib.hid hls
  have HF := Lib.hid hF
  obtain ⟨z, hz⟩ : ∃ z, z = w.heap.size := ⟨_, rfl⟩
  have Hz := Lib.hid hz
  have hb0 := Lib.hid (bag_new w)
  have hbw := Lib.hid ((Below.refl w.heap.size w).alloc (Nat.le_refl _) (.cells #[.slice none 0 0, .slice none 0 0, .slice none 0 0, .slice none 0 0, .slice none 0 0, .slice none 0 0, .slice none 0 0, .slice none 0 0, .slice none 0 0, .slice none 0 0, .slice none 0 0, .slice none 0 0, .slice none 0 0, .slice none 0 0, .slice none 0 0, .slice none 0 0, .slice none 0 0, .slice none 0 0, .slice none 0 0, .slice none 0 0, .slice none 0 0, .slice none 0 0, .slice none 0 0] 146))
  rw [← hz] at hb0
  clear hA hls hF
  go_enter Tryz.func16, Tryz.ntmps16
  go_wp2_with (fail)
  rw [← hz]
  clear hz
  go_loopw [4] (fun s4 wr => ∃ k : Nat, s4 = .int .i64 k ∧ k ≤ K ∧ Hid (Bag z wr ((List.range k).map V) []) ∧ Hid (Below w.heap.size w wr)) (fun s4 _ => K - (intOf s4).toNat)
  case atStart => exact ⟨0, rfl, by omega, hb0, hbw⟩
  case round =>
    clear hb0 hbw
    obtain ⟨k, rfl, hk, hbag, hbw⟩ := hrel
    by_cases hkn : k < K
    · obtain ⟨a, c', hv, -⟩ := HA.out.split hkn
      have hcl := (hbw.out.cell (p := ⟨lb, k, none⟩) hlb).trans (HLS.out k hkn)
      obtain ⟨nk, hnk⟩ : ∃ m, m = n k := ⟨_, rfl⟩
      rw [← hnk] at hv
      rw [hv] at hcl
      have Hv := Lib.hid hv
      have hput := putBytes_any z ((List.range k).map V) [] a nk c' wr hbag.out (by simp; omega)
      have Hput := Lib.hid hput
      clear hput hv hnk
      go_wp2_with (go_at_call 56; refine Hput.out.mono ?_; rintro e w2 ⟨rfl, h2, h3, -⟩; have H2 := Lib.hid h2; have H3 := Lib.hid h3; clear h2 h3)
      go_roundw
      case rel =>
        have h4 := H2.out
        rw [← Hv.out] at h4
        exact ⟨k + 1, by go_num, by omega, Lib.hid (by rw [List.range_succ, List.map_append]; exact h4), Lib.hid (hbw.out.trans (Hz.out ▸ H3.out))⟩
      case measure => simp [intOf]; omega
    · have ek : k = K := by omega
      subst ek
      have hap := Lib.hid (bag_any B z k 0 z V (fun _ => .slice none 0 0) n (fun _ => 0) wr (by rw [Hz.out]; exact hB) (by rw [Hz.out]; exact HA.out.below (TB_stab (le := 27)) hbw.out) ⟨fun k hk => absurd hk (Nat.not_lt_zero _), fun k hk => absurd hk (Nat.not_lt_zero _), fun j k hj => absurd hj (Nat.not_lt_zero _), by rw [Hz.out]; exact hbw.out.size⟩ (fun _ _ j hj => absurd hj (Nat.not_lt_zero _)) hK (by decide) (Nat.le_refl _) hbag.out HF.out (fun k hk => absurd hk (Nat.not_lt_zero _)))
      go_wp2_with (go_at_call 57; refine hap.out.mono ?_; rintro e w2 ⟨rfl, h2⟩; have H2 := Lib.hid h2; clear h2)
      go_ret
      refine ⟨rfl, ((Out.refl k V w).below hbw.out).trans ⟨H2.out.os, H2.out.tape, H2.out.output, H2.out.size, fun i hi hn => H2.out.block i hi (fun j hj => ?_)⟩⟩
      unfold joinV
      rw [if_pos (by omega)]
      exact hn j (by omega)
end Go.Proofs.YtohlkkannjifmaaGreatDoor
