/- storemankit's bag of lists of parts: put, apart, ApartParts. -/
import Derived.Test.YthlmnoggeggpkaaGreatJApart
import Derived.Test.YthlmnoggeggpkaaGreatJFlat4
namespace Go.Proofs.YthlmnoggeggpkaaGreat
open Go.RowKit

theorem Out.trans {B N : Nat} {w a b : World} (h : Out B N w a) (k : Out B N a b) : Out B N w b :=
  ⟨k.os.trans h.os, k.tape.trans h.tape, k.output.trans h.output, Nat.le_trans h.size k.size, fun i hi hh => (k.block i (Nat.lt_of_lt_of_le hi h.size) hh).trans (h.block i hi hh)⟩
theorem rows_keep {base size n : Nat} {e : TypeId} {W W' : World} {v : Value} {xs : List Value} (h : W.ownsRow base e size v n xs) (hk : ∀ b, v.ownBlock = some b → W'.heap[b]? = W.heap[b]?) : W'.ownsRow base e size v n xs := by
  obtain ⟨e1, h3 | ⟨g, cap, cur, hv, hg, hh, r⟩⟩ := h
  · exact ⟨e1, .inl h3⟩
  · exact ⟨e1, .inr ⟨g, cap, cur, hv, hg, (hk g (by rw [hv]; rfl)).trans hh, r⟩⟩
theorem rows_ge {base size n : Nat} {e : TypeId} {W : World} {v : Value} {xs : List Value} (h : W.ownsRow base e size v n xs) : ∀ b, v.ownBlock = some b → base ≤ b ∧ b < W.heap.size := by
  intro b hb
  obtain ⟨e1, ⟨h3, -⟩ | ⟨g, cap, cur, hv, hg, hh, r⟩⟩ := h
  · rw [h3] at hb; cases hb
  · rw [hv] at hb; cases hb
    exact ⟨hg, (Array.getElem?_eq_some_iff.1 hh).1⟩
theorem one_list (W : World) (v : Value) (t : TypeId) : ∀ j u, [v][j]? = some u → (W.alloc (.cells #[v] t)).cell? ((⟨W.heap.size, 0, none⟩ : Addr).add j) = some u := by
  intro j u hu
  match j, hu with
  | 0, hu =>
    simp only [List.getElem?_cons_zero, Option.some.injEq] at hu
    subst hu
    have e : (⟨W.heap.size, 0, none⟩ : Addr).add 0 = ⟨W.heap.size, 0, none⟩ := by unfold Addr.add; simp
    rw [e]
    simp only [World.cell?, (Go.MapKept.heap_alloc W _).1]
    rfl
theorem rows_form {base n : Nat} {e : TypeId} {W : World} {v : Value} {xs : List Value} (h : W.ownsRow base e 1 v n xs) (h0 : 0 < n) : ∃ g c, v = .slice (some ⟨g, 0, none⟩) n c := by
  obtain ⟨e1, ⟨h3, h4⟩ | ⟨g, cap, cur, hv, r⟩⟩ := h
  · omega
  · exact ⟨g, cap, hv⟩
/-- A bag: a block of 23 lists, all none but the lists of parts. -/
def Bag (z : Nat) (w : World) (vs : List Value) : Prop := ∃ (cs : Array Value) (u : Value), w.heap[z]? = some (.cells cs 98) ∧ cs.size = 23 ∧ (∀ i, i < 23 → i ≠ 9 → cs[i]? = some (.slice none 0 0)) ∧ cs[9]? = some u ∧ w.ownsRow (z + 1) 26 1 u vs.length vs
theorem Bag.cell {z : Nat} {w w' : World} {vs : List Value} (h : Bag z w vs) (hz : w'.heap[z]? = w.heap[z]?) : ∀ i, i < 23 → i ≠ 9 → w'.cell? ⟨z, i, none⟩ = some (.slice none 0 0) := by
  intro i h1 h2
  obtain ⟨cs, u, hh, hs, hn, -⟩ := h
  rw [cell_of_row w' z i _ _ _ (hz.trans hh)]
  exact hn i h1 h2
theorem Bag.rows {z : Nat} {w w' : World} {vs : List Value} (h : Bag z w vs) (hb : Below w.heap.size w w') (h0 : 0 < vs.length) : ∃ g c, w'.cell? ⟨z, 9, none⟩ = some (.slice (some ⟨g, 0, none⟩) vs.length c) ∧ z + 1 ≤ g ∧ g < w.heap.size ∧ vs.length ≤ c ∧ c ≤ 9223372036854775807 ∧ ∀ k, k < vs.length → w'.cell? ⟨g, k, none⟩ = some (vs.getD k (.slice none 0 0)) := by
  obtain ⟨cs, u, hh, hs, -, h9, hown⟩ := h
  have hzlt : z < w.heap.size := (Array.getElem?_eq_some_iff.1 hh).1
  have hge := rows_ge hown
  have hown' := rows_keep (W' := w') hown (fun b e => hb.block b (hge b e).2)
  obtain ⟨e1, ⟨h3, h4⟩ | ⟨g, cap, cur, hv, hg, hh2, hle, hcap, r⟩⟩ := id hown'
  · omega
  · refine ⟨g, cap, ?_, hg, (hge g (by rw [hv]; rfl)).2, hle, by simpa [maxLen] using hcap, fun k hk => ?_⟩
    · rw [cell_of_row w' z 9 _ _ _ ((hb.block z hzlt).trans hh)]
      rw [← hv]; exact h9
    · rw [hv] at hown'
      rw [hown'.cellAt k (by omega), List.getD_eq_getElem?_getD, List.getElem?_eq_getElem hk]
      rfl

set_option maxHeartbeats 4000000 in
set_option maxRecDepth 100000 in
theorem putParts_any (z : Nat) (vs : List Value) (a : Option Addr) (n c : Nat) (w : World) (h : Bag z w vs) (hn : vs.length ≤ 100000) :
    Calls Tryz.prog 43 #[.pointer (some ⟨z, 0, none⟩), .slice a n c] w fun e w' => e = .returned (.tuple #[]) ∧ Bag z w' (vs ++ [.slice a n c]) ∧ Below z w w' := by
  obtain ⟨cs, u, hh, hs, hnil, h9, hown⟩ := h
  have hzlt : z < w.heap.size := (Array.getElem?_eq_some_iff.1 hh).1
  have hc9 : w.cell? ⟨z, 9, none⟩ = some u := by rw [cell_of_row w z 9 _ _ _ hh]; exact h9
  obtain ⟨i1, hi, hz0, hz1, hz2⟩ := info_parts Tryz.infoLists
  have Hi := Lib.hid hi
  have Hz0 := Lib.hid hz0
  have Hz1 := Lib.hid hz1
  have Hz2 := Lib.hid hz2
  have Hge := Lib.hid (rows_ge hown)
  have Hh := Lib.hid hh
  have Hs := Lib.hid hs
  have Hnil := Lib.hid hnil
  have Hown := Lib.hid hown
  have Hfun := Lib.hid (fun (w1 : World) (hg : (w.alloc (.cells #[.slice a n c] 26)).grownBy w1 u.ownBlock) => by
    have e1 : w1.heap[z]? = w.heap[z]? := (hg.block z (by rw [World.size_alloc]; omega) (fun e => by have := (Hge.out z e.symm).1; omega)).trans (Below.heap_alloc _ _ _ hzlt)
    exact (⟨e1, (cell_of_row w1 z 9 _ _ _ (e1.trans hh)).trans h9, by simp [World.frozen?, e1.trans hh]⟩ : _ ∧ w1.cell? ⟨z, 9, none⟩ = some u ∧ w1.frozen? ⟨z, 9, none⟩ = false))
  clear hi hz0 hz1 hz2 hh hs hnil hown h9
  go_enter Tryz.func43, Tryz.ntmps43
  go_wp2_with (at_builtin; refine wpList_append_own _ rfl _ _ 38 rfl (z + 1) 26 i1 (.slice none 0 0) 1 24 Tryz.underlying38 Hi.out Hz0.out Hz1.out Hz2.out rfl (by decide) u vs.length vs rfl (Hown.out.alloc _) ⟨w.heap.size, 0, none⟩ 1 1 [.slice a n c] rfl rfl (one_list w (.slice a n c) _) (by simp [Value.oneCell']) (by simp only [maxLen]; omega) (by omega) (by rw [World.size_alloc]; omega) ?_; intro v' w1 hown' hg hiff; obtain ⟨g', c', rfl⟩ := rows_form hown' (Nat.succ_pos _); obtain ⟨q1, q2, q3⟩ := Hfun.out w1 hg; have Q1 := Lib.hid q1; have Hown1 := Lib.hid hown'; have Hg := Lib.hid hg; clear q1 hown' hg hiff)
  go_end0
  have hh2 := heap_setCell_same w1 z 9 cs 98 (.slice (some ⟨g', 0, none⟩) (vs.length + 1) c') (Q1.out.trans Hh.out)
  refine ⟨rfl, ⟨_, .slice (some ⟨g', 0, none⟩) (vs.length + 1) c', hh2, by simp [Hs.out], fun i h1 h2 => ?_, ?_, ?_⟩, ?_⟩
  · rw [Array.getElem?_setIfInBounds_ne (by omega)]; exact Hnil.out i h1 h2
  · rw [Array.getElem?_setIfInBounds_self_of_lt (by rw [Hs.out]; decide)]
  · have h3 := Hown1.out
    rw [List.length_append]
    exact rows_keep h3 (fun b e => Below.heap_setCell _ _ _ _ (by have := (rows_ge h3 b e).1; simp only; omega))
  · exact (((Below.refl z w).alloc (Nat.le_of_lt hzlt) _).grown Hg.out (by rw [World.size_alloc]; omega) (fun k e => by have := (Hge.out k e).1; omega)).setCell (Nat.le_refl z) _

set_option maxHeartbeats 16000000 in
set_option maxRecDepth 100000 in
theorem bagParts_any (B N K z : Nat) (V : Nat → Value) (F : Nat → List Pt) (w : World) (hBN : B ≤ N) (hA : Ap B N K V F w) (hK0 : 0 < K) (hK : K ≤ 100000) (hz : N ≤ z) (hbag : Bag z w ((List.range K).map V)) (hF : ∀ k, k < K → (F k).length ≤ 1000000) :
    Calls Tryz.prog 44 #[.pointer (some ⟨z, 0, none⟩)] w fun e w' => e = .returned (.bool true) ∧ Out B N w w' := by
  have hzlt : z < w.heap.size := by obtain ⟨cs, u, hh, -⟩ := hbag; exact (Array.getElem?_eq_some_iff.1 hh).1
  have hlen : ((List.range K).map V).length = K := by simp
  obtain ⟨g, c, hc9, hg1, hg2, hc1, hc2, hrow⟩ := hbag.rows (Below.refl _ w) (by rw [hlen]; exact hK0)
  rw [hlen] at hc9 hc1 hrow
  have HC : Hid (∀ w', Out B N w w' → ∀ i, i < 23 → i ≠ 9 → w'.cell? ⟨z, i, none⟩ = some (.slice none 0 0)) := Lib.hid fun w' ho => hbag.cell (ho.block z hzlt (.inr hz))
  have HC9 : Hid (∀ w', Out B N w w' → w'.cell? ⟨z, 9, none⟩ = some (.slice (some ⟨g, 0, none⟩) K c)) := Lib.hid fun w' ho => (ho.cell (p := ⟨z, 9, none⟩) hz hzlt).trans hc9
  have HP : Hid (∀ w', Below w.heap.size w w' → Calls Tryz.prog 79 #[.slice (some ⟨g, 0, none⟩) K c] w' fun e w'' => e = .returned (.bool true) ∧ Out B N w' w'') := Lib.hid fun w' hb =>
    flatParts_any B N K c g V F w' hBN (hA.below hb) hK ⟨hc1, hc2⟩ ⟨by omega, Nat.lt_of_lt_of_le hg2 hb.size⟩ (fun k hk => by
      rw [hb.cell (p := ⟨g, k, none⟩) hg2, hrow k hk, List.getD_eq_getElem?_getD, List.getElem?_map, List.getElem?_range hk]; rfl) hF
  have B0 := Lib.hid (Below.refl w.heap.size w)
  have c0 := HC.out w (Out.refl _ _ _) 0 (by decide) (by decide)
  clear hbag hA hF hBN hc9 hrow
  go_enter Tryz.func44, Tryz.ntmps44
  go_wp2_with (first | (go_at_call 70; refine (flatWords_nil _).mono ?_; rintro e w1 ⟨rfl, hb⟩; have B1 := Lib.hid (B0.out.trans (hb.mono B0.out.size)); clear hb c0; have c1 := HC.out w1 ((Out.refl B N w).below B1.out) 1 (by decide) (by decide)) | (go_at_call 71; refine (flatInts_nil _).mono ?_; rintro e w2 ⟨rfl, hb⟩; have B2 := Lib.hid (B1.out.trans (hb.mono B1.out.size)); clear hb c1; have c2 := HC.out w2 ((Out.refl B N w).below B2.out) 2 (by decide) (by decide)) | (go_at_call 72; refine (flatLongs_nil _).mono ?_; rintro e w3 ⟨rfl, hb⟩; have B3 := Lib.hid (B2.out.trans (hb.mono B2.out.size)); clear hb c2; have c3 := HC.out w3 ((Out.refl B N w).below B3.out) 3 (by decide) (by decide)) | (go_at_call 73; refine (flatTexts_nil _).mono ?_; rintro e w4 ⟨rfl, hb⟩; have B4 := Lib.hid (B3.out.trans (hb.mono B3.out.size)); clear hb c3; have c4 := HC.out w4 ((Out.refl B N w).below B4.out) 4 (by decide) (by decide)) | (go_at_call 74; refine (flatBytes_nil _).mono ?_; rintro e w5 ⟨rfl, hb⟩; have B5 := Lib.hid (B4.out.trans (hb.mono B4.out.size)); clear hb c4; have c5 := HC.out w5 ((Out.refl B N w).below B5.out) 5 (by decide) (by decide)) | (go_at_call 75; refine (flatWindows_nil _).mono ?_; rintro e w6 ⟨rfl, hb⟩; have B6 := Lib.hid (B5.out.trans (hb.mono B5.out.size)); clear hb c5; have c6 := HC.out w6 ((Out.refl B N w).below B6.out) 6 (by decide) (by decide)) | (go_at_call 76; refine (flatLots_nil _).mono ?_; rintro e w7 ⟨rfl, hb⟩; have B7 := Lib.hid (B6.out.trans (hb.mono B6.out.size)); clear hb c6; have c7 := HC.out w7 ((Out.refl B N w).below B7.out) 7 (by decide) (by decide)) | (go_at_call 77; refine (flatWants_nil _).mono ?_; rintro e w8 ⟨rfl, hb⟩; have B8 := Lib.hid (B7.out.trans (hb.mono B7.out.size)); clear hb c7; have c8 := HC.out w8 ((Out.refl B N w).below B8.out) 8 (by decide) (by decide)) | (go_at_call 78; refine (flatUses_nil _).mono ?_; rintro e w9 ⟨rfl, hb⟩; have B9 := Lib.hid (B8.out.trans (hb.mono B8.out.size)); clear hb c8; have c9 := HC9.out w9 ((Out.refl B N w).below B9.out)) | (go_at_call 79; refine (HP.out w9 B9.out).mono ?_; rintro e w10 ⟨rfl, ho⟩; have T10 := Lib.hid (((Out.refl B N w).below B9.out).trans ho); clear ho c9; have c10 := HC.out w10 T10.out 10 (by decide) (by decide)) | (go_at_call 80; refine (flatItems_nil _).mono ?_; rintro e w11 ⟨rfl, hb⟩; have T11 := Lib.hid (T10.out.below hb); clear hb c10; have c11 := HC.out w11 T11.out 11 (by decide) (by decide)) | (go_at_call 81; refine (flatLines_nil _).mono ?_; rintro e w12 ⟨rfl, hb⟩; have T12 := Lib.hid (T11.out.below hb); clear hb c11; have c12 := HC.out w12 T12.out 12 (by decide) (by decide)) | (go_at_call 82; refine (flatAsks_nil _).mono ?_; rintro e w13 ⟨rfl, hb⟩; have T13 := Lib.hid (T12.out.below hb); clear hb c12; have c13 := HC.out w13 T13.out 13 (by decide) (by decide)) | (go_at_call 83; refine (flatTells_nil _).mono ?_; rintro e w14 ⟨rfl, hb⟩; have T14 := Lib.hid (T13.out.below hb); clear hb c13; have c14 := HC.out w14 T14.out 14 (by decide) (by decide)) | (go_at_call 84; refine (flatStates_nil _).mono ?_; rintro e w15 ⟨rfl, hb⟩; have T15 := Lib.hid (T14.out.below hb); clear hb c14; have c15 := HC.out w15 T15.out 15 (by decide) (by decide)) | (go_at_call 85; refine (flatRows_nil _).mono ?_; rintro e w16 ⟨rfl, hb⟩; have T16 := Lib.hid (T15.out.below hb); clear hb c15; have c16 := HC.out w16 T16.out 16 (by decide) (by decide)) | (go_at_call 86; refine (flatTurns_nil _).mono ?_; rintro e w17 ⟨rfl, hb⟩; have T17 := Lib.hid (T16.out.below hb); clear hb c16; have c17 := HC.out w17 T17.out 17 (by decide) (by decide)) | (go_at_call 87; refine (flatFates_nil _).mono ?_; rintro e w18 ⟨rfl, hb⟩; have T18 := Lib.hid (T17.out.below hb); clear hb c17; have c18 := HC.out w18 T18.out 18 (by decide) (by decide)) | (go_at_call 88; refine (flatDirties_nil _).mono ?_; rintro e w19 ⟨rfl, hb⟩; have T19 := Lib.hid (T18.out.below hb); clear hb c18; have c19 := HC.out w19 T19.out 19 (by decide) (by decide)) | (go_at_call 89; refine (flatOpens_nil _).mono ?_; rintro e w20 ⟨rfl, hb⟩; have T20 := Lib.hid (T19.out.below hb); clear hb c19; have c20 := HC.out w20 T20.out 20 (by decide) (by decide)) | (go_at_call 90; refine (flatRecords_nil _).mono ?_; rintro e w21 ⟨rfl, hb⟩; have T21 := Lib.hid (T20.out.below hb); clear hb c20; have c21 := HC.out w21 T21.out 21 (by decide) (by decide)) | (go_at_call 91; refine (flatSteps_nil _).mono ?_; rintro e w22 ⟨rfl, hb⟩; have T22 := Lib.hid (T21.out.below hb); clear hb c21; have c22 := HC.out w22 T22.out 22 (by decide) (by decide)) | (go_at_call 92; refine (flatTales_nil _).mono ?_; rintro e w23 ⟨rfl, hb⟩; have T23 := Lib.hid (T22.out.below hb); clear hb c22))
  go_ret
  exact ⟨rfl, T23.out⟩

theorem bag_new (w : World) : Bag w.heap.size (w.alloc (.cells #[.slice none 0 0, .slice none 0 0, .slice none 0 0, .slice none 0 0, .slice none 0 0, .slice none 0 0, .slice none 0 0, .slice none 0 0, .slice none 0 0, .slice none 0 0, .slice none 0 0, .slice none 0 0, .slice none 0 0, .slice none 0 0, .slice none 0 0, .slice none 0 0, .slice none 0 0, .slice none 0 0, .slice none 0 0, .slice none 0 0, .slice none 0 0, .slice none 0 0, .slice none 0 0] 98)) [] := by
  refine ⟨_, .slice none 0 0, heap_alloc_new w _, rfl, fun i h1 _ => ?_, rfl, World.ownsRow_nil _ _ _ _⟩
  rcases (show i = 0 ∨ i = 1 ∨ i = 2 ∨ i = 3 ∨ i = 4 ∨ i = 5 ∨ i = 6 ∨ i = 7 ∨ i = 8 ∨ i = 9 ∨ i = 10 ∨ i = 11 ∨ i = 12 ∨ i = 13 ∨ i = 14 ∨ i = 15 ∨ i = 16 ∨ i = 17 ∨ i = 18 ∨ i = 19 ∨ i = 20 ∨ i = 21 ∨ i = 22 by omega) with rfl | rfl | rfl | rfl | rfl | rfl | rfl | rfl | rfl | rfl | rfl | rfl | rfl | rfl | rfl | rfl | rfl | rfl | rfl | rfl | rfl | rfl | rfl <;> rfl

set_option maxHeartbeats 4000000 in
set_option maxRecDepth 100000 in
theorem ApartParts_any (B K c lb : Nat) (V : Nat → Value) (F : Nat → List Pt) (w : World) (hB : B ≤ w.heap.size) (hA : Ap B w.heap.size K V F w) (hK0 : 0 < K) (hK : K ≤ 100000) (hc : K ≤ c ∧ c ≤ 9223372036854775807) (hlb : lb < w.heap.size)
    (hls : ∀ k, k < K → w.cell? ⟨lb, k, none⟩ = some (V k)) (hF : ∀ k, k < K → (F k).length ≤ 1000000) :
    Calls Tryz.prog 18 #[.slice (some ⟨lb, 0, none⟩) K c] w fun e w' => e = .returned (.bool true) ∧ Out B w.heap.size w w' := by
  obtain ⟨hc1, hc2⟩ := hc
  have HA := Lib.hid hA
  have HLS := Lib.hid hls
  have HF := Lib.hid hF
  obtain ⟨z, hz⟩ : ∃ z, z = w.heap.size := ⟨_, rfl⟩
  have Hz := Lib.hid hz
  have hb0 := Lib.hid (bag_new w)
  have hbw := Lib.hid ((Below.refl w.heap.size w).alloc (Nat.le_refl _) (.cells #[.slice none 0 0, .slice none 0 0, .slice none 0 0, .slice none 0 0, .slice none 0 0, .slice none 0 0, .slice none 0 0, .slice none 0 0, .slice none 0 0, .slice none 0 0, .slice none 0 0, .slice none 0 0, .slice none 0 0, .slice none 0 0, .slice none 0 0, .slice none 0 0, .slice none 0 0, .slice none 0 0, .slice none 0 0, .slice none 0 0, .slice none 0 0, .slice none 0 0, .slice none 0 0] 98))
  rw [← hz] at hb0
  clear hA hls hF
  go_enter Tryz.func18, Tryz.ntmps18
  go_wp2_with (fail)
  rw [← hz]
  clear hz
  go_loopw [4] (fun s4 wr => ∃ k : Nat, s4 = .int .i64 k ∧ k ≤ K ∧ Hid (Bag z wr ((List.range k).map V)) ∧ Hid (Below w.heap.size w wr)) (fun s4 _ => K - (intOf s4).toNat)
  case atStart => exact ⟨0, rfl, by omega, hb0, hbw⟩
  case round =>
    clear hb0 hbw
    obtain ⟨k, rfl, hk, hbag, hbw⟩ := hrel
    by_cases hkn : k < K
    · obtain ⟨a, n, c', hv, -⟩ : ∃ a n c', V k = .slice a n c' ∧ True := by
        obtain ⟨a, c', h1, -⟩ := HA.out.split hkn rfl
        exact ⟨_, _, _, h1, trivial⟩
      have hcl := (hbw.out.cell (p := ⟨lb, k, none⟩) hlb).trans (HLS.out k hkn)
      rw [hv] at hcl
      have Hv := Lib.hid hv
      have hput := putParts_any z ((List.range k).map V) a n c' wr hbag.out (by simp; omega)
      have Hput := Lib.hid hput
      clear hput hv
      go_wp2_with (go_at_call 43; refine Hput.out.mono ?_; rintro e w2 ⟨rfl, h2, h3⟩; have H2 := Lib.hid h2; have H3 := Lib.hid h3; clear h2 h3)
      go_roundw
      case rel =>
        have h4 := H2.out
        rw [← Hv.out] at h4
        exact ⟨k + 1, by go_num, by omega, Lib.hid (by rw [List.range_succ, List.map_append]; exact h4), Lib.hid (hbw.out.trans (Hz.out ▸ H3.out))⟩
      case measure => simp [intOf]; omega
    · have ek : k = K := by omega
      subst ek
      have hap := Lib.hid (bagParts_any B z k z V F wr (by rw [Hz.out]; exact hB) (by rw [Hz.out]; exact HA.out.below hbw.out) hK0 hK (Nat.le_refl _) hbag.out HF.out)
      go_wp2_with (go_at_call 44; refine hap.out.mono ?_; rintro e w2 ⟨rfl, h2⟩; have H2 := Lib.hid h2; clear h2)
      go_ret
      refine ⟨rfl, ?_⟩
      have h5 := H2.out
      rw [Hz.out] at h5
      exact ((Out.refl B w.heap.size w).below hbw.out).trans h5
end Go.Proofs.YthlmnoggeggpkaaGreat
