/- A record's checks: paged; rising. A record's checks: turned; marked. -/
import Derived.Test.YtohlkkannjifmaaGreatDoorOLog3
import Derived.Test.YtohlkkannjifmaaGreatDoorPure
import Derived.Test.YtohlkkannjifmaaGreatDoorPageF
namespace Go.Proofs.YtohlkkannjifmaaGreatDoor
open Go.RowKit
def inOf : Value → Int | .int _ x => x | _ => 0
structure PI (B : Nat) (w : World) (a : Option Addr) (n c : Nat) (X : List (Int × Int)) : Prop where
  len : n = X.length
  le : n ≤ c
  mx : c ≤ 9223372036854775807
  lm : n ≤ 1000000000
  at_ : 0 < c → ∃ b o, a = some ⟨b, o, none⟩ ∧ b < B ∧ ∀ i, i < n → w.cell? ⟨b, o + i * 2, none⟩ = some (.int .i64 (X.getD i (0, 0)).1) ∧ w.cell? ⟨b, o + i * 2 + 1, none⟩ = some (.int .i64 (X.getD i (0, 0)).2)
theorem PI.below {B : Nat} {w w' : World} {a : Option Addr} {n c : Nat} {X : List (Int × Int)} (h : PI B w a n c X) (hb : Below B w w') : PI B w' a n c X :=
  ⟨h.len, h.le, h.mx, h.lm, fun hc => by
    obtain ⟨b, o, rfl, hB, hcell⟩ := h.at_ hc
    exact ⟨b, o, rfl, hB, fun i hi => ⟨(hb.cell (p := ⟨b, o + i * 2, none⟩) hB).trans (hcell i hi).1, (hb.cell (p := ⟨b, o + i * 2 + 1, none⟩) hB).trans (hcell i hi).2⟩⟩⟩
theorem paged_any (x : Int) (w : World) : Calls Tryz.prog 133 #[li x] w fun e w' => e = .returned (.bool (pagedB x)) ∧ w' = w := by
  unfold li pagedB
  by_cases h0 : 0 ≤ x
  · have e0 : decide (x ≥ 0) = true := by simpa using h0
    go_enter Tryz.func133, Tryz.ntmps133
    go_wp2_with (fail)
    go_ret
    refine ⟨?_, rfl⟩
    simp [h0]
  · have e0 : decide (x ≥ 0) = false := by simpa using h0
    go_enter Tryz.func133, Tryz.ntmps133
    go_wp2_with (fail)
    go_ret
    refine ⟨?_, rfl⟩
    simp
def okAt (l : List Int) (least : Int) (i : Nat) : Bool := decide (least ≤ l.getD i 0) && (i == 0 || decide (l.getD (i - 1) 0 < l.getD i 0))
theorem riseB_at (l : List Int) (least : Int) (most : Nat) : riseB l least most = ((List.range l.length).all (okAt l least) && decide (l.length ≤ most)) := rfl
theorem all_range_succ (f : Nat → Bool) (j : Nat) (h : (List.range j).all f = true) (hj : f j = true) : (List.range (j + 1)).all f = true := by
  rw [List.range_succ, List.all_append, h]
  simp [hj]
theorem all_range_bad (f : Nat → Bool) (j n : Nat) (hj : j < n) (h : f j = false) : (List.range n).all f = false := by
  rw [List.all_eq_false]
  exact ⟨j, List.mem_range.2 hj, by simp [h]⟩
theorem fst_getD (X : List (Int × Int)) (i : Nat) : (X.map (·.1)).getD i 0 = (X.getD i (0, 0)).1 := by
  rw [List.getD_eq_getElem?_getD, List.getElem?_map, List.getD_eq_getElem?_getD]
  cases X[i]? <;> rfl
theorem numD_any (x y : Int) (w : World) : Calls Tryz.prog 206 #[.agg #[.int .i64 x, .int .i64 y]] w fun e w' => e = .returned (.int .i64 x) ∧ Below w.heap.size w w' := by
  have hb := (Below.refl w.heap.size w).alloc (Nat.le_refl _) (.cells #[.int .i64 x, .int .i64 y] 80)
  go_enter Tryz.func206, Tryz.ntmps206
  go_wp2_with (fail)
  go_ret
  exact ⟨rfl, hb⟩
set_option maxRecDepth 100000 in
set_option maxHeartbeats 1000000 in
theorem riseD_any (B : Nat) (a : Option Addr) (n c : Nat) (X : List (Int × Int)) (least : Int) (most : Nat) (w : World) (h : PI B w a n c X) (hB : B ≤ w.heap.size) :
    Calls Tryz.prog 205 #[.slice a n c, .func (.func 206) #[] #[], .int .i64 least, .int .i64 most] w fun e w' => e = .returned (.bool (riseB (X.map (·.1)) least most)) ∧ Below w.heap.size w w' := by
  have H := Lib.hid h
  have hle := h.le
  have hmx := h.mx
  have hlm := h.lm
  have HN := Lib.hid h.len
  have HC := Lib.hid numD_any
  obtain ⟨l, hl⟩ : ∃ l, l = X.map (·.1) := ⟨_, rfl⟩
  have HF : Hid (∀ i, l.getD i 0 = (X.getD i (0, 0)).1) := Lib.hid fun i => by rw [hl]; exact fst_getD X i
  have HL : Hid (l.length = n) := Lib.hid (by rw [hl, List.length_map]; exact h.len.symm)
  rw [← hl]
  obtain ⟨r, hr⟩ : ∃ r, r = riseB l least most := ⟨_, rfl⟩
  rw [← hr]
  have HR := Lib.hid hr
  clear hl h hr
  go_enter Tryz.func205, Tryz.ntmps205
  go_wp2_with (fail)
  go_loopw [14] (fun i wr => ∃ j : Nat, j ≤ n ∧ i = .int .i64 j ∧ Hid ((List.range j).all (okAt l least) = true) ∧ Hid (Below w.heap.size w wr)) (fun i _ => n - (inOf i).toNat)
  case atStart => exact ⟨0, Nat.zero_le _, rfl, Lib.hid rfl, Lib.hid (Below.refl _ _)⟩
  case round =>
    obtain ⟨j, hj, rfl, HA, Hb⟩ := hrel
    by_cases hlt : j < n
    · obtain ⟨b, o, rfl, hbB, hcs⟩ := H.out.at_ (by omega)
      obtain ⟨r0, r1⟩ := hcs j hlt
      have hbl : b < w.heap.size := by omega
      have z0 := (Hb.out.cell (p := ⟨b, o + j * 2, none⟩) hbl).trans r0
      have z1 := (Hb.out.cell (p := ⟨b, o + j * 2 + 1, none⟩) hbl).trans r1
      have HX := Lib.hid (HF.out j)
      have HP : Hid (∀ m, j = m + 1 → ∀ W, Below w.heap.size w W → W.cell? ⟨b, o + m * 2, none⟩ = some (.int .i64 (X.getD m (0, 0)).1) ∧ W.cell? ⟨b, o + m * 2 + 1, none⟩ = some (.int .i64 (X.getD m (0, 0)).2)) := Lib.hid fun m e W hW => ⟨(hW.cell (p := ⟨b, o + m * 2, none⟩) hbl).trans (hcs m (by omega)).1, (hW.cell (p := ⟨b, o + m * 2 + 1, none⟩) hbl).trans (hcs m (by omega)).2⟩
      clear r0 r1 hcs
      generalize (X.getD j (0, 0)).1 = x at *
      generalize (X.getD j (0, 0)).2 = y at *
      have BA : Hid (Below w.heap.size w (wr.alloc (.cells #[.int .i64 x, .int .i64 y] 80))) := Lib.hid (Hb.out.alloc Hb.out.size _)
      have f2 : IntKind.i64.wrap ((j : Int) + 1) = ((j + 1 : Nat) : Int) := by rw [IntWalk.i64_in _ (by omega)]; omega
      by_cases hx : x < least
      · have e1 : decide (x < least) = true := decide_eq_true hx
        have HE : Hid (r = false) := Lib.hid (by
          rw [HR.out, riseB_at, HL.out, all_range_bad _ j n hlt (by unfold okAt; rw [HX.out, decide_eq_false (by omega), Bool.false_and]), Bool.false_and])
        go_wp2_with (go_at_call 206; refine (HC.out _ _ _).mono ?_; rintro e w2 ⟨rfl, hb2⟩; have B2 := Lib.hid (BA.out.trans (hb2.mono BA.out.size)); clear hb2)
        go_ret
        exact ⟨by rw [HE.out]; rfl, B2.out⟩
      · have e1 : decide (x < least) = false := decide_eq_false hx
        by_cases hj0 : j = 0
        · have e2 : ¬ 0 < j := by omega
          have e2i : ¬ 0 < (j : Int) := by omega
          have HO : Hid ((List.range (j + 1)).all (okAt l least) = true) := Lib.hid (all_range_succ _ j HA.out (by unfold okAt; rw [HX.out, decide_eq_true (by omega), hj0]; rfl))
          clear hj0 hx
          go_wp2_with (go_at_call 206; refine (HC.out _ _ _).mono ?_; rintro e w2 ⟨rfl, hb2⟩; have B2 := Lib.hid (BA.out.trans (hb2.mono BA.out.size)); clear hb2)
          go_roundw
          case rel => exact ⟨j + 1, by omega, by go_num, HO, B2⟩
          case measure => simp [inOf]; omega
        · obtain ⟨m, hm⟩ : ∃ m, j = m + 1 := ⟨j - 1, by omega⟩
          have e2 : 0 < j := by omega
          have e2i : 0 < (j : Int) := by omega
          have e3 : IntKind.i64.wrap ((j : Int) - 1) = (m : Int) := by rw [IntWalk.i64_in _ (by omega)]; omega
          have e4 : (m : Int) < (n : Int) := by omega
          have e5 : (0 : Int) ≤ (m : Int) := by omega
          have HP2 := Lib.hid (HP.out m hm)
          have HX2 : Hid (l.getD (j - 1) 0 = (X.getD m (0, 0)).1) := Lib.hid (by rw [HF.out, hm]; rfl)
          clear HP
          generalize (X.getD m (0, 0)).1 = px at *
          generalize (X.getD m (0, 0)).2 = py at *
          have Hj := Lib.hid hm
          clear hm hj0
          by_cases hp : x ≤ px
          · have e6 : decide (x ≤ px) = true := decide_eq_true hp
            have HE : Hid (r = false) := Lib.hid (by
              rw [HR.out, riseB_at, HL.out, all_range_bad _ j n hlt (by unfold okAt; rw [HX.out, HX2.out, decide_eq_false (p := px < x) (by omega), show (j == 0) = false by simpa using by have := Hj.out; omega]; simp), Bool.false_and])
            clear hp hx
            go_wp2_with (go_at_call 206; refine (HC.out _ _ _).mono ?_; rintro e w2 ⟨rfl, hb2⟩; have B2 := Lib.hid (BA.out.trans (hb2.mono BA.out.size)); clear BA; have BA := B2; obtain ⟨p0, p1⟩ := HP2.out w2 B2.out; clear hb2)
            go_ret
            exact ⟨by rw [HE.out]; rfl, BA.out⟩
          · have e6 : decide (x ≤ px) = false := decide_eq_false hp
            have HO : Hid ((List.range (j + 1)).all (okAt l least) = true) := Lib.hid (all_range_succ _ j HA.out (by unfold okAt; rw [HX.out, HX2.out, decide_eq_true (p := least ≤ x) (by omega), decide_eq_true (p := px < x) (by omega)]; simp))
            clear hp hx
            go_wp2_with (go_at_call 206; refine (HC.out _ _ _).mono ?_; rintro e w2 ⟨rfl, hb2⟩; have B2 := Lib.hid (BA.out.trans (hb2.mono BA.out.size)); clear BA; have BA := B2; obtain ⟨p0, p1⟩ := HP2.out w2 B2.out; clear hb2)
            go_roundw
            case rel => exact ⟨j + 1, by omega, by go_num, HO, BA⟩
            case measure => simp [inOf]; omega
    · obtain rfl : j = n := by omega
      have HE : Hid (r = decide (j ≤ most)) := Lib.hid (by
        rw [HR.out, riseB_at, HL.out, HA.out, Bool.true_and])
      go_wp2_with (fail)
      go_ret
      exact ⟨by rw [HE.out]; rfl, Hb.out⟩
theorem numO_any (x y : Int) (w : World) : Calls Tryz.prog 208 #[.agg #[.int .i64 x, .int .i64 y]] w fun e w' => e = .returned (.int .i64 x) ∧ Below w.heap.size w w' := by
  have hb := (Below.refl w.heap.size w).alloc (Nat.le_refl _) (.cells #[.int .i64 x, .int .i64 y] 200)
  go_enter Tryz.func208, Tryz.ntmps208
  go_wp2_with (fail)
  go_ret
  exact ⟨rfl, hb⟩
set_option maxRecDepth 100000 in
set_option maxHeartbeats 1000000 in
theorem riseO_any (B : Nat) (a : Option Addr) (n c : Nat) (X : List (Int × Int)) (least : Int) (most : Nat) (w : World) (h : PI B w a n c X) (hB : B ≤ w.heap.size) :
    Calls Tryz.prog 207 #[.slice a n c, .func (.func 208) #[] #[], .int .i64 least, .int .i64 most] w fun e w' => e = .returned (.bool (riseB (X.map (·.1)) least most)) ∧ Below w.heap.size w w' := by
  have H := Lib.hid h
  have hle := h.le
  have hmx := h.mx
  have hlm := h.lm
  have HN := Lib.hid h.len
  have HC := Lib.hid numO_any
  obtain ⟨l, hl⟩ : ∃ l, l = X.map (·.1) := ⟨_, rfl⟩
  have HF : Hid (∀ i, l.getD i 0 = (X.getD i (0, 0)).1) := Lib.hid fun i => by rw [hl]; exact fst_getD X i
  have HL : Hid (l.length = n) := Lib.hid (by rw [hl, List.length_map]; exact h.len.symm)
  rw [← hl]
  obtain ⟨r, hr⟩ : ∃ r, r = riseB l least most := ⟨_, rfl⟩
  rw [← hr]
  have HR := Lib.hid hr
  clear hl h hr
  go_enter Tryz.func207, Tryz.ntmps207
  go_wp2_with (fail)
  go_loopw [14] (fun i wr => ∃ j : Nat, j ≤ n ∧ i = .int .i64 j ∧ Hid ((List.range j).all (okAt l least) = true) ∧ Hid (Below w.heap.size w wr)) (fun i _ => n - (inOf i).toNat)
  case atStart => exact ⟨0, Nat.zero_le _, rfl, Lib.hid rfl, Lib.hid (Below.refl _ _)⟩
  case round =>
    obtain ⟨j, hj, rfl, HA, Hb⟩ := hrel
    by_cases hlt : j < n
    · obtain ⟨b, o, rfl, hbB, hcs⟩ := H.out.at_ (by omega)
      obtain ⟨r0, r1⟩ := hcs j hlt
      have hbl : b < w.heap.size := by omega
      have z0 := (Hb.out.cell (p := ⟨b, o + j * 2, none⟩) hbl).trans r0
      have z1 := (Hb.out.cell (p := ⟨b, o + j * 2 + 1, none⟩) hbl).trans r1
      have HX := Lib.hid (HF.out j)
      have HP : Hid (∀ m, j = m + 1 → ∀ W, Below w.heap.size w W → W.cell? ⟨b, o + m * 2, none⟩ = some (.int .i64 (X.getD m (0, 0)).1) ∧ W.cell? ⟨b, o + m * 2 + 1, none⟩ = some (.int .i64 (X.getD m (0, 0)).2)) := Lib.hid fun m e W hW => ⟨(hW.cell (p := ⟨b, o + m * 2, none⟩) hbl).trans (hcs m (by omega)).1, (hW.cell (p := ⟨b, o + m * 2 + 1, none⟩) hbl).trans (hcs m (by omega)).2⟩
      clear r0 r1 hcs
      generalize (X.getD j (0, 0)).1 = x at *
      generalize (X.getD j (0, 0)).2 = y at *
      have BA : Hid (Below w.heap.size w (wr.alloc (.cells #[.int .i64 x, .int .i64 y] 200))) := Lib.hid (Hb.out.alloc Hb.out.size _)
      have f2 : IntKind.i64.wrap ((j : Int) + 1) = ((j + 1 : Nat) : Int) := by rw [IntWalk.i64_in _ (by omega)]; omega
      by_cases hx : x < least
      · have e1 : decide (x < least) = true := decide_eq_true hx
        have HE : Hid (r = false) := Lib.hid (by
          rw [HR.out, riseB_at, HL.out, all_range_bad _ j n hlt (by unfold okAt; rw [HX.out, decide_eq_false (by omega), Bool.false_and]), Bool.false_and])
        go_wp2_with (go_at_call 208; refine (HC.out _ _ _).mono ?_; rintro e w2 ⟨rfl, hb2⟩; have B2 := Lib.hid (BA.out.trans (hb2.mono BA.out.size)); clear hb2)
        go_ret
        exact ⟨by rw [HE.out]; rfl, B2.out⟩
      · have e1 : decide (x < least) = false := decide_eq_false hx
        by_cases hj0 : j = 0
        · have e2 : ¬ 0 < j := by omega
          have e2i : ¬ 0 < (j : Int) := by omega
          have HO : Hid ((List.range (j + 1)).all (okAt l least) = true) := Lib.hid (all_range_succ _ j HA.out (by unfold okAt; rw [HX.out, decide_eq_true (by omega), hj0]; rfl))
          clear hj0 hx
          go_wp2_with (go_at_call 208; refine (HC.out _ _ _).mono ?_; rintro e w2 ⟨rfl, hb2⟩; have B2 := Lib.hid (BA.out.trans (hb2.mono BA.out.size)); clear hb2)
          go_roundw
          case rel => exact ⟨j + 1, by omega, by go_num, HO, B2⟩
          case measure => simp [inOf]; omega
        · obtain ⟨m, hm⟩ : ∃ m, j = m + 1 := ⟨j - 1, by omega⟩
          have e2 : 0 < j := by omega
          have e2i : 0 < (j : Int) := by omega
          have e3 : IntKind.i64.wrap ((j : Int) - 1) = (m : Int) := by rw [IntWalk.i64_in _ (by omega)]; omega
          have e4 : (m : Int) < (n : Int) := by omega
          have e5 : (0 : Int) ≤ (m : Int) := by omega
          have HP2 := Lib.hid (HP.out m hm)
          have HX2 : Hid (l.getD (j - 1) 0 = (X.getD m (0, 0)).1) := Lib.hid (by rw [HF.out, hm]; rfl)
          clear HP
          generalize (X.getD m (0, 0)).1 = px at *
          generalize (X.getD m (0, 0)).2 = py at *
          have Hj := Lib.hid hm
          clear hm hj0
          by_cases hp : x ≤ px
          · have e6 : decide (x ≤ px) = true := decide_eq_true hp
            have HE : Hid (r = false) := Lib.hid (by
              rw [HR.out, riseB_at, HL.out, all_range_bad _ j n hlt (by unfold okAt; rw [HX.out, HX2.out, decide_eq_false (p := px < x) (by omega), show (j == 0) = false by simpa using by have := Hj.out; omega]; simp), Bool.false_and])
            clear hp hx
            go_wp2_with (go_at_call 208; refine (HC.out _ _ _).mono ?_; rintro e w2 ⟨rfl, hb2⟩; have B2 := Lib.hid (BA.out.trans (hb2.mono BA.out.size)); clear BA; have BA := B2; obtain ⟨p0, p1⟩ := HP2.out w2 B2.out; clear hb2)
            go_ret
            exact ⟨by rw [HE.out]; rfl, BA.out⟩
          · have e6 : decide (x ≤ px) = false := decide_eq_false hp
            have HO : Hid ((List.range (j + 1)).all (okAt l least) = true) := Lib.hid (all_range_succ _ j HA.out (by unfold okAt; rw [HX.out, HX2.out, decide_eq_true (p := least ≤ x) (by omega), decide_eq_true (p := px < x) (by omega)]; simp))
            clear hp hx
            go_wp2_with (go_at_call 208; refine (HC.out _ _ _).mono ?_; rintro e w2 ⟨rfl, hb2⟩; have B2 := Lib.hid (BA.out.trans (hb2.mono BA.out.size)); clear BA; have BA := B2; obtain ⟨p0, p1⟩ := HP2.out w2 B2.out; clear hb2)
            go_roundw
            case rel => exact ⟨j + 1, by omega, by go_num, HO, BA⟩
            case measure => simp [inOf]; omega
    · obtain rfl : j = n := by omega
      have HE : Hid (r = decide (j ≤ most)) := Lib.hid (by
        rw [HR.out, riseB_at, HL.out, HA.out, Bool.true_and])
      go_wp2_with (fail)
      go_ret
      exact ⟨by rw [HE.out]; rfl, Hb.out⟩
end Go.Proofs.YtohlkkannjifmaaGreatDoor
namespace Go.Proofs.YtohlkkannjifmaaGreatDoor
open Go.RowKit
set_option maxHeartbeats 1000000 in
theorem rturned_any (ka oa na : Option Addr) (kn kc on oc nn nc : Nat) (w : World) (hk : kn ≤ 140737488355328) (ho : on ≤ 140737488355328) (hn : nn ≤ 140737488355328) :
    Calls Tryz.prog 134 #[.agg #[.slice ka kn kc, .slice oa on oc, .slice na nn nc]] w fun e w' => e = .returned (.bool (turnedB kn on nn)) ∧ Below w.heap.size w w' := by
  have hm : ((max on nn : Nat) : Int) = max (on : Int) (nn : Int) := by omega
  go_enter Tryz.func134, Tryz.ntmps134
  go_wp2
  go_quiet (fail)
  go_wp2
  all_goals
    go_ret
    refine ⟨?_, below_dn (by go_grown) _⟩
    refine congrArg (fun x => Ending.returned (.bool x)) ?_
    rw [Bool.eq_iff_iff]
    simp [turnedB]
    omega
theorem all_take_succ {α : Type} (f : α → Bool) (X : List α) (d : α) (j : Nat) (hj : j < X.length) (h : (X.take j).all f = true) (hx : f (X.getD j d) = true) : (X.take (j + 1)).all f = true := by
  rw [List.take_succ_eq_append_getElem hj, List.all_append, h]
  rw [List.getD_eq_getElem?_getD, List.getElem?_eq_getElem hj] at hx
  simpa using hx
theorem all_take_bad {α : Type} (f : α → Bool) (X : List α) (d : α) (j : Nat) (hj : j < X.length) (hx : f (X.getD j d) = false) : X.all f = false := by
  rw [List.getD_eq_getElem?_getD, List.getElem?_eq_getElem hj] at hx
  rw [List.all_eq_false]
  exact ⟨_, List.getElem_mem hj, by simpa using hx⟩
def recV (r : RecV) (ka oa na da pa : Option Addr) (kc oc nc dc pc : Nat) : Value :=
  .agg #[.int .i64 r.lsn, .int .i64 r.work, .int .i64 r.prev, .int .i64 r.next, .int .u8 r.kind, .int .i64 r.page, .slice ka r.key.length kc, .slice oa r.old.length oc, .slice na r.new.length nc, .slice da r.dirty.length dc, .slice pa r.opn.length pc]
def dirtyB (d : Int × Int) : Bool := decide (1 ≤ d.2) && pagedB d.1
def markB (D O : List (Int × Int)) : Bool := D.all dirtyB && O.all (fun o => decide (1 ≤ o.2)) && riseB (D.map (·.1)) 0 32 && riseB (O.map (·.1)) 1 8
set_option maxRecDepth 100000 in
set_option maxHeartbeats 2000000 in
theorem marked_any (B : Nat) (l0 l1 l2 l3 k p : Int) (ka oa na da pa : Option Addr) (kn on nn kc oc nc n dc m pc : Nat) (D O : List (Int × Int)) (w : World) (hd : PI B w da n dc D) (hp : PI B w pa m pc O) (hB : B ≤ w.heap.size) :
    Calls Tryz.prog 132 #[.agg #[.int .i64 l0, .int .i64 l1, .int .i64 l2, .int .i64 l3, .int .u8 k, .int .i64 p, .slice ka kn kc, .slice oa on oc, .slice na nn nc, .slice da n dc, .slice pa m pc]] w
      fun e w' => e = .returned (.bool (markB D O)) ∧ Below w.heap.size w w' := by
  have Hd := Lib.hid hd
  have Hp := Lib.hid hp
  have hle := hd.le
  have hlm := hd.lm
  have hmx := hd.mx
  have hle2 := hp.le
  have hlm2 := hp.lm
  have hmx2 := hp.mx
  have HN := Lib.hid hd.len
  have HM := Lib.hid hp.len
  obtain ⟨bb, hbb⟩ : ∃ bb, bb = markB D O := ⟨_, rfl⟩
  rw [← hbb]
  have HR := Lib.hid hbb
  have HPg := Lib.hid paged_any
  clear hbb hd hp
  go_enter Tryz.func132, Tryz.ntmps132
  go_wp2_with (fail)
  have hbx : Below w.heap.size w (w.alloc (.cells #[.int .i64 l0, .int .i64 l1, .int .i64 l2, .int .i64 l3, .int .u8 k, .int .i64 p, .slice ka kn kc, .slice oa on oc, .slice na nn nc, .slice da n dc, .slice pa m pc] 33)) := (Below.refl _ w).alloc (Nat.le_refl _) _
  obtain ⟨w0, hw0⟩ : ∃ w0, w0 = w.alloc (.cells #[.int .i64 l0, .int .i64 l1, .int .i64 l2, .int .i64 l3, .int .u8 k, .int .i64 p, .slice ka kn kc, .slice oa on oc, .slice na nn nc, .slice da n dc, .slice pa m pc] 33) := ⟨_, rfl⟩
  have hs0 : w0.heap.size = w.heap.size + 1 := by rw [hw0]; simp
  have hc9 : w0.cell? ⟨w.heap.size, 9, none⟩ = some (.slice da n dc) := by rw [hw0]; simp [go_sem]
  have hc10 : w0.cell? ⟨w.heap.size, 10, none⟩ = some (.slice pa m pc) := by rw [hw0]; simp [go_sem]
  rw [← hw0] at hbx ⊢
  have HS0 := Lib.hid hs0
  have HB0 := Lib.hid hbx
  have HC : Hid (∀ W, Below w0.heap.size w0 W → W.cell? ⟨w.heap.size, 9, none⟩ = some (.slice da n dc) ∧ W.cell? ⟨w.heap.size, 10, none⟩ = some (.slice pa m pc)) := Lib.hid fun W hW => ⟨(hW.cell (p := ⟨w.heap.size, 9, none⟩) (by simp; omega)).trans hc9, (hW.cell (p := ⟨w.heap.size, 10, none⟩) (by simp; omega)).trans hc10⟩
  clear hw0 hs0 hbx hc9 hc10
  go_loopw [10] (fun i wr => ∃ j : Nat, j ≤ n ∧ i = .int .i64 j ∧ Hid ((D.take j).all dirtyB = true) ∧ Hid (Below w0.heap.size w0 wr)) (fun i _ => n - (inOf i).toNat)
  case atStart => exact ⟨0, Nat.zero_le _, rfl, Lib.hid (by simp), Lib.hid (Below.refl _ _)⟩
  case round =>
    obtain ⟨j, hj, rfl, HA, Hb⟩ := hrel
    by_cases hlt : j < n
    · obtain ⟨b, o, rfl, hbB, hcs⟩ := Hd.out.at_ (by omega)
      have hbl : b < w.heap.size := by omega
      have HBr := Lib.hid (HB0.out.trans (Hb.out.mono HB0.out.size))
      have z0 := (HBr.out.cell (p := ⟨b, o + j * 2, none⟩) hbl).trans (hcs j hlt).1
      have z1 := (HBr.out.cell (p := ⟨b, o + j * 2 + 1, none⟩) hbl).trans (hcs j hlt).2
      have HX : Hid (dirtyB (D.getD j (0, 0)) = (decide (1 ≤ (D.getD j (0, 0)).2) && pagedB (D.getD j (0, 0)).1)) := Lib.hid rfl
      have HBad : Hid (dirtyB (D.getD j (0, 0)) = false → bb = false) := Lib.hid fun h => by
        rw [HR.out]; unfold markB
        rw [all_take_bad _ D (0, 0) j (by have := HN.out; omega) h, Bool.false_and, Bool.false_and, Bool.false_and]
      have HGood : Hid (dirtyB (D.getD j (0, 0)) = true → (D.take (j + 1)).all dirtyB = true) := Lib.hid fun h => all_take_succ _ D (0, 0) j (by have := HN.out; omega) HA.out h
      generalize dirtyB (D.getD j (0, 0)) = db at *
      clear hcs
      generalize (D.getD j (0, 0)).1 = x at *
      generalize (D.getD j (0, 0)).2 = y at *
      have BA : Hid (Below w0.heap.size w0 (wr.alloc (.cells #[.int .i64 x, .int .i64 y] 80))) := Lib.hid (Hb.out.alloc Hb.out.size _)
      have f2 : IntKind.i64.wrap ((j : Int) + 1) = ((j + 1 : Nat) : Int) := by rw [IntWalk.i64_in _ (by omega)]; omega
      by_cases hy : y < 1
      · have e1 : decide (y < 1) = true := decide_eq_true hy
        have HE : Hid (bb = false) := Lib.hid (HBad.out (by rw [HX.out, decide_eq_false (by omega), Bool.false_and]))
        clear HX
        go_wp2_with (fail)
        go_ret
        exact ⟨by rw [HE.out]; rfl, HB0.out.trans (BA.out.mono HB0.out.size)⟩
      · have e1 : decide (y < 1) = false := decide_eq_false hy
        have HXp : Hid (db = pagedB x) := Lib.hid (by rw [HX.out, decide_eq_true (by omega), Bool.true_and])
        have HPx := Lib.hid fun W => paged_any x W
        clear HX HPg
        obtain ⟨pb, hpb⟩ : ∃ pb, pb = pagedB x := ⟨_, rfl⟩
        rw [← hpb] at HPx HXp
        clear hpb
        cases pb with
        | false =>
          go_wp2_with (go_at_call 133; refine (HPx.out _).mono ?_; rintro e w2 ⟨rfl, hw2⟩; replace hw2 := hw2.symm; subst hw2)
          go_ret
          exact ⟨by rw [HBad.out HXp.out]; rfl, HB0.out.trans (BA.out.mono HB0.out.size)⟩
        | true =>
          go_wp2_with (go_at_call 133; refine (HPx.out _).mono ?_; rintro e w2 ⟨rfl, hw2⟩; replace hw2 := hw2.symm; subst hw2)
          go_roundw
          case rel => exact ⟨j + 1, by omega, by go_num, Lib.hid (HGood.out HXp.out), BA⟩
          case measure => simp [inOf]; omega
    · obtain rfl : j = n := by omega
      obtain ⟨-, c10⟩ := HC.out wr Hb.out
      have HD1 : Hid (D.all dirtyB = true) := Lib.hid (by have := HA.out; rwa [List.take_of_length_le (by have := HN.out; omega)] at this)
      clear HA
      go_wp2_with (fail)
      go_loopw [27] (fun i wr => ∃ i' : Nat, i' ≤ m ∧ i = .int .i64 i' ∧ Hid ((O.take i').all (fun o => decide (1 ≤ o.2)) = true) ∧ Hid (Below w0.heap.size w0 wr)) (fun i _ => m - (inOf i).toNat)
      case atStart => exact ⟨0, Nat.zero_le _, rfl, Lib.hid (by simp), Hb⟩
      case round =>
        obtain ⟨q, hq, rfl, HA, Hc⟩ := hrel
        by_cases hlt : q < m
        · obtain ⟨b, o, rfl, hbB, hcs⟩ := Hp.out.at_ (by omega)
          have hbl : b < w.heap.size := by omega
          rename_i wq
          have HBr := Lib.hid (HB0.out.trans (Hc.out.mono HB0.out.size))
          have z0 := (HBr.out.cell (p := ⟨b, o + q * 2, none⟩) hbl).trans (hcs q hlt).1
          have z1 := (HBr.out.cell (p := ⟨b, o + q * 2 + 1, none⟩) hbl).trans (hcs q hlt).2
          have HBad : Hid (decide (1 ≤ (O.getD q (0, 0)).2) = false → bb = false) := Lib.hid fun h => by
            rw [HR.out]; unfold markB
            rw [all_take_bad (fun o => decide (1 ≤ o.2)) O (0, 0) q (by have := HM.out; omega) h, Bool.and_false, Bool.false_and, Bool.false_and]
          have HGood : Hid (decide (1 ≤ (O.getD q (0, 0)).2) = true → (O.take (q + 1)).all (fun o => decide (1 ≤ o.2)) = true) := Lib.hid fun h => all_take_succ (fun o => decide (1 ≤ o.2)) O (0, 0) q (by have := HM.out; omega) HA.out h
          clear hcs
          generalize (O.getD q (0, 0)).1 = x at *
          generalize (O.getD q (0, 0)).2 = y at *
          have BA := Lib.hid (Hc.out.alloc Hc.out.size (.cells #[.int .i64 x, .int .i64 y] 200))
          have f2 : IntKind.i64.wrap ((q : Int) + 1) = ((q + 1 : Nat) : Int) := by rw [IntWalk.i64_in _ (by omega)]; omega
          by_cases hy : y < 1
          · have e1 : decide (y < 1) = true := decide_eq_true hy
            have HE : Hid (bb = false) := Lib.hid (HBad.out (decide_eq_false (by omega)))
            go_wp2_with (fail)
            go_ret
            exact ⟨by rw [HE.out]; rfl, HB0.out.trans (BA.out.mono HB0.out.size)⟩
          · have e1 : decide (y < 1) = false := decide_eq_false hy
            have HO := Lib.hid (HGood.out (decide_eq_true (by omega)))
            go_wp2_with (fail)
            go_roundw
            case rel => exact ⟨q + 1, by omega, by go_num, HO, BA⟩
            case measure => simp [inOf]; omega
        · obtain rfl : q = m := by omega
          have HO1 : Hid (O.all (fun o => decide (1 ≤ o.2)) = true) := Lib.hid (by have := HA.out; rwa [List.take_of_length_le (by have := HM.out; omega)] at this)
          obtain ⟨c9', c10'⟩ := HC.out _ Hc.out
          have HE : Hid (bb = (riseB (D.map (·.1)) 0 32 && riseB (O.map (·.1)) 1 8)) := Lib.hid (by
            rw [HR.out]; unfold markB
            rw [HD1.out, HO1.out, Bool.true_and, Bool.true_and])
          have HBr := Lib.hid (HB0.out.trans (Hc.out.mono HB0.out.size))
          have HRD := Lib.hid fun W (hW : Below w.heap.size w W) => riseD_any B da j dc D 0 32 W (Hd.out.below (hW.mono hB)) (Nat.le_trans hB hW.size)
          have HRO := Lib.hid fun W (hW : Below w.heap.size w W) => riseO_any B pa q pc O 1 8 W (Hp.out.below (hW.mono hB)) (Nat.le_trans hB hW.size)
          generalize riseB (D.map (·.1)) 0 32 = rd at *
          generalize riseB (O.map (·.1)) 1 8 = ro at *
          clear HA HR
          cases rd with
          | false =>
            go_wp2_with (go_at_call 205; refine (HRD.out _ HBr.out).mono ?_; rintro e w2 ⟨rfl, hb2⟩; have B2 := Lib.hid (HBr.out.trans (hb2.mono HBr.out.size)); have C2 := Lib.hid (HC.out w2 (Hc.out.trans (hb2.mono Hc.out.size))); clear hb2)
            go_ret
            exact ⟨by rw [HE.out]; rfl, B2.out⟩
          | true =>
            go_wp2_with (first | (go_at_call 205; refine (HRD.out _ HBr.out).mono ?_; rintro e w2 ⟨rfl, hb2⟩; have B2 := Lib.hid (HBr.out.trans (hb2.mono HBr.out.size)); obtain ⟨y9, y10⟩ := HC.out w2 (Hc.out.trans (hb2.mono Hc.out.size)); clear hb2) | (go_at_call 207; refine (HRO.out _ B2.out).mono ?_; rintro e w3 ⟨rfl, hb3⟩; have B3 := Lib.hid (B2.out.trans (hb3.mono B2.out.size)); clear hb3))
            go_ret
            exact ⟨by rw [HE.out]; rfl, B3.out⟩
end Go.Proofs.YtohlkkannjifmaaGreatDoor
