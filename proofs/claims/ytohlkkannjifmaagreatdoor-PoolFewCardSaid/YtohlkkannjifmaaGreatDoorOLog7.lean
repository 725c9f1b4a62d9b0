/- The log: Safe. -/
import Derived.Test.YtohlkkannjifmaaGreatDoorOLog6
import Derived.Deep.RegionHeld3
namespace Go.Proofs.YtohlkkannjifmaaGreatDoor
open Go.RowKit
theorem find_rising (x : Int) : ∀ (l : List Int), l.Pairwise (· < ·) → l.find? (fun y => decide (x ≤ y)) = l[l.countP (fun y => decide (y < x))]?
  | [], _ => rfl
  | a :: l, h => by
    rw [List.pairwise_cons] at h
    by_cases hx : a < x
    · rw [List.find?_cons_of_neg (by simp; omega), List.countP_cons_of_pos (by simp; omega), find_rising x l h.2]
      simp
    · have h0 : l.countP (fun y => decide (y < x)) = 0 := by
        rw [List.countP_eq_zero]
        intro y hy
        have := h.1 y hy
        simp; omega
      rw [List.find?_cons_of_pos (by simp; omega), List.countP_cons_of_neg (by simp; omega), h0]
      rfl
structure LS (w : World) (l d : Nat) (L : LK) (g cap n : Nat) (tv : Value) (P : Nat → Nat) (V : Nat → Value) : Prop where
  blk : w.heap[l]? = some (logObj L d (.slice (some ⟨g, 0, none⟩) n cap) tv)
  nn : n = L.sheets.length
  le : n ≤ cap
  cp : cap ≤ 9223372036854775807
  n8 : n ≤ 8191
  cell : ∀ i, i < n → w.cell? ⟨g, i, none⟩ = some (ptr (P i))
  sh : ∀ i, i < n → ShR w (P i) (V i) (L.sheets.getD i sh0)
  trow : w.ownsRow 0 2 1 tv L.lsns.length (L.lsns.map li)
theorem LogR.ls {w : World} {U : Nat → Prop} {l d k : Nat} {L : LK} (h : LogR w U l d k L) : ∃ g cap n tv P V, LS w l d L g cap n tv P V := by
  obtain ⟨sv, tv, T, h1, h2, h3, h4, h5, -⟩ := h.mm
  have hn : L.sheets.length = T.length := by rw [h1]; simp
  have hne := h.ok.ne
  have hcs := h3
  obtain ⟨-, ⟨-, h0⟩ | ⟨g, cap, cur, rfl, -, -, hle, hcm, -⟩⟩ := h3
  · exact absurd (List.eq_nil_of_length_eq_zero (hn.trans h0)) hne
  have hget : ∀ i, i < T.length → (T.getD i (0, .bool false, sh0)) ∈ T := fun i hi => by
    rw [List.getD_eq_getElem?_getD, List.getElem?_eq_getElem hi]; exact List.getElem_mem hi
  refine ⟨g, cap, T.length, tv, fun i => (T.getD i (0, .bool false, sh0)).1, fun i => (T.getD i (0, .bool false, sh0)).2.1, h2, hn.symm, hle, by simpa [maxLen] using hcm, by have := h.ok.ct; have := h.ok.c2; omega, fun i hi => ?_, fun i hi => ?_, h4⟩
  · have hj : i < (T.map fun x => ptr x.1).length := by simpa using hi
    have h12 := hcs.cells (g := g) rfl i _ (List.getElem?_eq_getElem hj)
    rw [List.getElem_map, Addr.add_mid, Nat.zero_add] at h12
    rw [List.getD_eq_getElem?_getD, List.getElem?_eq_getElem hi]
    exact h12
  · have e : L.sheets.getD i sh0 = (T.getD i (0, .bool false, sh0)).2.2 := by
      rw [h1, List.getD_eq_getElem?_getD, List.getElem?_map, List.getD_eq_getElem?_getD, List.getElem?_eq_getElem hi]
      rfl
    rw [e]
    exact h5 _ (hget i hi)
theorem LS.drewN {w : World} {l d : Nat} {L : LK} {g cap n : Nat} {tv : Value} {P : Nat → Nat} {V : Nat → Value} (h : LS w l d L g cap n tv P V) {q : Nat} : LS (w.drewN q) l d L g cap n tv P V :=
  ⟨h.blk, h.nn, h.le, h.cp, h.n8, h.cell, fun i hi => ⟨(h.sh i hi).blk, (h.sh i hi).body⟩, h.trow⟩
theorem find_none_take {α : Type} (f : α → Bool) (l : List α) (h : ∀ j, j < l.length → ∀ d, f (l.getD j d) = false) : l.find? f = none := by
  rw [List.find?_eq_none]
  intro x hx
  obtain ⟨j, hj, rfl⟩ := List.getElem_of_mem hx
  have := h j hj l[j]
  rw [List.getD_eq_getElem?_getD, List.getElem?_eq_getElem hj] at this
  simpa using this
theorem find_at {α : Type} (f : α → Bool) (d : α) : ∀ (l : List α) (i : Nat), i < l.length → (∀ j, j < i → f (l.getD j d) = false) → f (l.getD i d) = true → l.find? f = some (l.getD i d)
  | [], i, h, _, _ => absurd h (by simp)
  | a :: l, 0, _, _, h => by rw [List.find?_cons_of_pos (by simpa using h)]; rfl
  | a :: l, i + 1, hi, hj, h => by
    rw [List.find?_cons_of_neg (by have := hj 0 (by omega); simpa using this)]
    have := find_at f d l i (by simpa using hi) (fun j hlt => by simpa using hj (j + 1) (by omega)) (by simpa using h)
    simpa using this
def unsafeB (s : ShV) : Bool := decide (s.safe < (s.body.length : Int))
theorem LK.safe_none {L : LK} (h : ∀ j, j < L.sheets.length → unsafeB (L.sheets.getD j sh0) = false) : L.safe = L.end_ := by
  unfold LK.safe
  have : L.sheets.find? (fun s => decide (s.safe < (s.body.length : Int))) = none := find_none_take _ _ fun j hj d => by
    have := h j hj
    rw [List.getD_eq_getElem?_getD, List.getElem?_eq_getElem hj] at this ⊢
    exact this
  rw [this]
theorem LK.safe_some {L : LK} {i : Nat} (hi : i < L.sheets.length) (h : ∀ j, j < i → unsafeB (L.sheets.getD j sh0) = false) (ht : unsafeB (L.sheets.getD i sh0) = true) (hso : L.lsns.Pairwise (· < ·)) :
    L.safe = (L.lsns[L.lsns.countP (fun y => decide (y < (L.sheets.getD i sh0).at_ (L.sheets.getD i sh0).safe))]?).getD L.end_ := by
  unfold LK.safe
  have : L.sheets.find? (fun s => decide (s.safe < (s.body.length : Int))) = some (L.sheets.getD i sh0) := find_at _ sh0 L.sheets i hi h ht
  rw [this]
  simp only
  rw [find_rising _ _ hso]
set_option maxRecDepth 100000 in
set_option maxHeartbeats 4000000 in
theorem safe_any (w : World) (U : Nat → Prop) (l d k : Nat) (L : LK) (h : LogR w U l d k L) (hk : k ≤ 1000000000) :
    Calls Tryz.prog 59 #[.pointer (some ⟨l, 0, none⟩)] w fun e w' => e = .returned (.int .i64 L.safe) ∧ ∃ q, w' = w.drewN q := by
  obtain ⟨g, cap, n, tv, P, V, hs⟩ := h.ls
  have H := Lib.hid h
  have HT := Lib.hid (lthere_any w l d (by have := hs.blk; simp [World.cell?, this, logObj]))
  have HE := Lib.hid fun (W : World) (hW : W.heap = w.heap) => end_any W U l d k L (h.keep (fun i _ => by rw [hW]) (by rw [hW]; exact Nat.le_refl _))
  have c5 : w.cell? ⟨l, 5, none⟩ = some (.slice (some ⟨g, 0, none⟩) n cap) := cell_of_row _ _ 5 _ _ _ hs.blk
  have c6 : w.cell? ⟨l, 6, none⟩ = some tv := cell_of_row _ _ 6 _ _ _ hs.blk
  have hle := hs.le
  have hcp := hs.cp
  have hn8 := hs.n8
  have HS := Lib.hid hs
  obtain ⟨sf, hsf⟩ : ∃ sf, sf = L.safe := ⟨_, rfl⟩
  rw [← hsf]
  have HSF := Lib.hid hsf
  clear h hs hsf
  unfold ptr at HT HE
  unfold li at HE
  go_enter Tryz.func59, Tryz.ntmps59
  go_wp2_with (go_at_call 41; refine HT.out.mono ?_; rintro e w1 ⟨rfl, hw1⟩; replace hw1 := hw1.symm; subst hw1)
  go_loopw [15] (fun i wr => ∃ j : Nat, j ≤ n ∧ i = .int .i64 j ∧ Hid (∀ t, t < j → unsafeB (L.sheets.getD t sh0) = false) ∧ Hid (∃ q, wr = w.drewN q)) (fun i _ => n - (inOf i).toNat)
  case atStart => exact ⟨0, Nat.zero_le _, rfl, Lib.hid (fun t h => absurd h (by omega)), Lib.hid ⟨0, rfl⟩⟩
  case round =>
    obtain ⟨j, hj, rfl, HA, HQ⟩ := hrel
    have HSr : Hid (LS wr l d L g cap n tv P V) := by
      obtain ⟨q, rfl⟩ := HQ.out
      exact Lib.hid HS.out.drewN
    have d6 : wr.cell? ⟨l, 6, none⟩ = some tv := cell_of_row _ _ 6 _ _ _ HSr.out.blk
    have HQd : Hid (∃ q, wr.drew = w.drewN q) := by
      obtain ⟨q, rfl⟩ := HQ.out
      exact Lib.hid ⟨q + 1, rfl⟩
    by_cases hlt : j < n
    · have cj : wr.cell? ⟨g, j, none⟩ = some (.pointer (some ⟨P j, 0, none⟩)) := HSr.out.cell j hlt
      have hsh := HSr.out.sh j hlt
      obtain ⟨va, vc, hve, hvr⟩ := hsh.body.rb (by have := H.out.ok.len _ (getD_mem L.sheets sh0 j (by have := HS.out.nn; omega)); omega)
      have k4 : wr.cell? ⟨P j, 4, none⟩ = some (.slice va (L.sheets.getD j sh0).body.length vc) := by rw [← hve]; exact cell_of_row _ _ 4 _ _ _ hsh.blk
      have k5 : wr.cell? ⟨P j, 5, none⟩ = some (.int .i64 (L.sheets.getD j sh0).safe) := cell_of_row _ _ 5 _ _ _ hsh.blk
      have hv1 := hvr.mx
      have hv2 := hvr.le
      have hbl := (H.out.ok.len _ (getD_mem L.sheets sh0 j (by have := HS.out.nn; omega)))
      have f2 : IntKind.i64.wrap ((j : Int) + 1) = ((j + 1 : Nat) : Int) := by rw [IntWalk.i64_in _ (by omega)]; omega
      have HSh := Lib.hid hsh
      clear hve hvr hsh
      cases hu : unsafeB (L.sheets.getD j sh0) with
      | false =>
        have HU : Hid (∀ t, t < j + 1 → unsafeB (L.sheets.getD t sh0) = false) := Lib.hid fun t ht => by
          by_cases e : t < j
          · exact HA.out t e
          · obtain rfl : t = j := by omega
            exact hu
        have e1 : decide ((L.sheets.getD j sh0).safe < ((L.sheets.getD j sh0).body.length : Int)) = false := hu
        clear hu
        generalize L.sheets.getD j sh0 = s at *
        go_upto_region 6 with (fail)
        go_still (by kernel_rfl)
        go_wp2_with (fail)
        go_roundw
        case rel => exact ⟨j + 1, by omega, by go_num, HU, HQd⟩
        case measure => simp [inOf]; omega
      | true =>
        have HV := Lib.hid (LK.safe_some (by have := HS.out.nn; omega) HA.out hu H.out.ok.so)
        have e1 : decide ((L.sheets.getD j sh0).safe < ((L.sheets.getD j sh0).body.length : Int)) = true := hu
        have hne : 0 < L.lsns.length := List.length_pos_iff.2 (H.out.ok.wk ⟨_, getD_mem L.sheets sh0 j (by have := HS.out.nn; omega), by simpa [unsafeB] using hu⟩)
        have hnum := (H.out.ok.sheet (getD_mem L.sheets sh0 j (by have := HS.out.nn; omega))).1
        have hnum2 : (L.sheets.getD j sh0).num ≤ 2251799813693440 := by
          obtain ⟨m, m1, m2, m3⟩ := H.out.ok.num
          have := m3 j (L.sheets.getD j sh0) (by rw [List.getD_eq_getElem?_getD, List.getElem?_eq_getElem (by have := HS.out.nn; omega)]; rfl)
          have h1 := H.out.ok.ct
          have h2 := H.out.ok.c2
          have h3 := HS.out.nn
          omega
        clear hu
        have HLs : Hid (∀ W, W.heap = wr.heap → Calls Tryz.prog 45 #[.pointer (some ⟨P j, 0, none⟩), .int .i64 (L.sheets.getD j sh0).safe] W fun e w' => e = .returned (.int .i64 ((L.sheets.getD j sh0).at_ (L.sheets.getD j sh0).safe)) ∧ w' = W) := Lib.hid fun W hW => lsn_any W (P j) (V j) _ _ ⟨by rw [hW]; exact HSh.out.blk, ownsRow_keep HSh.out.body fun g _ => by rw [hW]⟩ hnum hnum2 hbl.2.1 (by omega)
        obtain ⟨gt, ct, rfl, htl, htc⟩ : ∃ gt ct, tv = .slice (some ⟨gt, 0, none⟩) L.lsns.length ct ∧ L.lsns.length ≤ ct ∧ ct ≤ 9223372036854775807 := by
          obtain ⟨-, ⟨-, h0⟩ | ⟨g', cap', cur, rfl, -, -, hle', hcm', -⟩⟩ := HSr.out.trow
          · omega
          · exact ⟨g', cap', rfl, hle', by simpa [maxLen] using hcm'⟩
        have hlk := H.out.ok.lk
        have HBs : Hid (∀ W, W.heap = wr.heap → Calls Tryz.prog 74 #[.slice (some ⟨gt, 0, none⟩) L.lsns.length ct, .int .i64 ((L.sheets.getD j sh0).at_ (L.sheets.getD j sh0).safe)] W fun e w' => e = .returned (.tuple #[.int .i64 (L.lsns.countP (fun y => decide (y < (L.sheets.getD j sh0).at_ (L.sheets.getD j sh0).safe)) : Nat), .bool (L.lsns.contains ((L.sheets.getD j sh0).at_ (L.sheets.getD j sh0).safe))]) ∧ ∃ q, w' = W.drewN q) := Lib.hid fun W hW => by
          have := Tryz.slices_BinarySearch_int gt 0 L.lsns.length ct L.lsns ((L.sheets.getD j sh0).at_ (L.sheets.getD j sh0).safe) W (Nat.le_refl _) (by omega) (fun i hi => by
            have h1 := HSr.out.trow.cells (g := gt) rfl i (li (L.lsns.getD i 0)) (by rw [List.getElem?_map, List.getD_eq_getElem?_getD, List.getElem?_eq_getElem hi]; rfl)
            rw [Addr.add_mid] at h1
            exact (World.cell?_of_block (w := wr) (by rw [hW])).trans h1) (by rw [List.take_length]; exact H.out.ok.so.imp fun h => by omega)
          rw [List.take_length] at this
          exact this
        have HGet : Hid (∀ i, i < L.lsns.length → wr.cell? ⟨gt, i, none⟩ = some (.int .i64 (L.lsns.getD i 0))) := Lib.hid fun i hi => by
            have h1 := HSr.out.trow.cells (g := gt) rfl i (li (L.lsns.getD i 0)) (by rw [List.getElem?_map, List.getD_eq_getElem?_getD, List.getElem?_eq_getElem hi]; rfl)
            rw [Addr.add_mid, Nat.zero_add] at h1
            exact h1
        generalize L.lsns.contains ((L.sheets.getD j sh0).at_ (L.sheets.getD j sh0).safe) = bc at *
        generalize (L.sheets.getD j sh0).at_ (L.sheets.getD j sh0).safe = x at *
        have hcount : L.lsns.countP (fun y => decide (y < x)) ≤ L.lsns.length := List.countP_le_length
        generalize L.lsns.countP (fun y => decide (y < x)) = cn at *
        generalize L.sheets.getD j sh0 = s at *
        rcases Nat.lt_or_ge cn L.lsns.length with hc | hc
        · have e5 : decide ((cn : Int) < (L.lsns.length : Int)) = true := decide_eq_true (by omega)
          go_upto_region 6 with (fail)
          go_still (by kernel_rfl)
          go_upto_region 7 with (fail)
          go_region_held3 (fun w' => w'.cell? ⟨l, 6, none⟩ = some (.slice (some ⟨gt, 0, none⟩) L.lsns.length ct) ∧ w'.cell? ⟨P j, 5, none⟩ = some (.int .i64 s.safe)) (first | go_keep | exact ⟨by assumption, by assumption⟩) (first | (go_at_call 45; refine (HLs.out wr.drew.drew rfl).mono ?_; rintro e w1 ⟨rfl, hw1⟩; subst hw1) | (go_at_call 74; refine (HBs.out wr.drew.drew rfl).mono ?_; rintro e w2 ⟨rfl, q2, hq2⟩; have hh : w2.heap = wr.heap := (by rw [hq2]; rfl); have HQ2 : Hid (∃ q, w2 = w.drewN q) := (by obtain ⟨q0, h0⟩ := HQ.out; exact Lib.hid ⟨q0 + 2 + q2, by rw [hq2, h0]; simp [World.drewN, World.drew]; omega⟩); have m6 : w2.cell? ⟨l, 6, none⟩ = some (.slice (some ⟨gt, 0, none⟩) L.lsns.length ct) := (World.cell?_of_block (w := wr) (by rw [hh])).trans d6; have m5 : w2.cell? ⟨P j, 5, none⟩ = some (.int .i64 s.safe) := (World.cell?_of_block (w := wr) (by rw [hh])).trans k5; have gk : w2.cell? ⟨gt, cn, none⟩ = some (.int .i64 (L.lsns.getD cn 0)) := (World.cell?_of_block (w := wr) (by rw [hh])).trans (HGet.out cn hc); clear hh hq2))
          go_wp2_with (fail)
          go_ret
          exact ⟨by rw [HSF.out, HV.out, List.getElem?_eq_getElem hc]; rfl, HQ2.out⟩
        · have e5 : decide ((cn : Int) < (L.lsns.length : Int)) = false := decide_eq_false (by omega)
          go_upto_region 6 with (fail)
          go_still (by kernel_rfl)
          go_upto_region 7 with (fail)
          go_region_held3 (fun w' => w'.cell? ⟨l, 6, none⟩ = some (.slice (some ⟨gt, 0, none⟩) L.lsns.length ct) ∧ w'.cell? ⟨P j, 5, none⟩ = some (.int .i64 s.safe)) (first | go_keep | exact ⟨by assumption, by assumption⟩) (first | (go_at_call 45; refine (HLs.out wr.drew.drew rfl).mono ?_; rintro e w1 ⟨rfl, hw1⟩; subst hw1) | (go_at_call 74; refine (HBs.out wr.drew.drew rfl).mono ?_; rintro e w2 ⟨rfl, q2, hq2⟩; have hh : w2.heap = wr.heap := (by rw [hq2]; rfl); have HQ2 : Hid (∃ q, w2 = w.drewN q) := (by obtain ⟨q0, h0⟩ := HQ.out; exact Lib.hid ⟨q0 + 2 + q2, by rw [hq2, h0]; simp [World.drewN, World.drew]; omega⟩); have m6 : w2.cell? ⟨l, 6, none⟩ = some (.slice (some ⟨gt, 0, none⟩) L.lsns.length ct) := (World.cell?_of_block (w := wr) (by rw [hh])).trans d6; have m5 : w2.cell? ⟨P j, 5, none⟩ = some (.int .i64 s.safe) := (World.cell?_of_block (w := wr) (by rw [hh])).trans k5; have HEw := Lib.hid (HE.out w2 (by obtain ⟨q, rfl⟩ := HQ2.out; rfl)); clear hh hq2))
          clear HE
          go_wp2_with (go_at_call 47; refine HEw.out.mono ?_; rintro e w3 ⟨rfl, hw3⟩; subst hw3)
          go_ret
          exact ⟨by rw [HSF.out, HV.out, List.getElem?_eq_none (by omega)]; rfl, by obtain ⟨q, hq⟩ := HQ2.out; exact ⟨q + 1, by rw [hq]; rfl⟩⟩
    · obtain rfl : j = n := by omega
      have HN : Hid (sf = L.end_) := Lib.hid (by rw [HSF.out]; exact LK.safe_none fun t ht => HA.out t (by have := HS.out.nn; omega))
      have HEq : Hid (Calls Tryz.prog 47 #[.pointer (some ⟨l, 0, none⟩)] wr fun e w' => e = .returned (.int .i64 L.end_) ∧ w' = wr.drew) := by
        obtain ⟨q, rfl⟩ := HQ.out
        exact Lib.hid (HE.out (w.drewN q) rfl)
      clear HE
      go_wp2_with (go_at_call 47; refine HEq.out.mono ?_; rintro e w2 ⟨rfl, hw2⟩; subst hw2)
      go_ret
      exact ⟨by rw [HN.out]; rfl, HQd.out⟩
end Go.Proofs.YtohlkkannjifmaaGreatDoor
