/- KeptBytes, OverBytes. -/
import Derived.Test.YtbinikbgbgggaaaDoorLentB
import Derived.Test.YtbinikbgbgggaaaDoorBelowQ
namespace Go.Proofs.YtbinikbgbgggaaaDoor
open Go.RowKit Go.Shelf

set_option maxHeartbeats 4000000 in
set_option maxRecDepth 100000 in
theorem KeptBytes_any (B M g c : Nat) (la : Option Addr) (n lc : Nat) (l : List UInt8) (w : World) (ho : RB B w (some ⟨g, 0, none⟩) (n + 12) c (l ++ lentT)) (hl : RB M w la n lc l) (hB : B ≤ w.heap.size) (hM : M ≤ w.heap.size) (hs : n ≤ 100000) :
    Calls Tryd.prog 57 #[.slice (some ⟨g, 0, none⟩) n c, .slice la n lc] w fun e w' => e = .returned (.bool true) ∧ Below w.heap.size w w' := by
  have h1 := ho.le
  have h2 := ho.mx
  have h3 := hl.le
  have h4 := hl.mx
  have hln := hl.len
  have Hln := Lib.hid hln
  have Ho := Lib.hid ho
  have Hl := Lib.hid hl
  have q4 : (n : Int) + 12 ≤ (c : Int) := by omega
  clear ho hl hln
  go_enter Tryd.func57, Tryd.ntmps57
  go_wp2_with (fail)
  go_loopw [6] (fun i wr => ∃ j : Nat, j ≤ n + 12 ∧ i = .int .i64 j ∧ Hid (Below w.heap.size w wr)) (fun i _ => n + 12 - (intOf i).toNat)
  case atStart => exact ⟨0, Nat.zero_le _, rfl, Lib.hid (Below.refl _ _)⟩
  case round =>
    obtain ⟨j, hj, rfl, hb⟩ := hrel
    by_cases hlt : j < n + 12
    · obtain ⟨b1, o1, e1, hg1, hc1⟩ := Ho.out.at_ (by omega)
      cases e1
      have c1 := hc1 j hlt
      rw [Nat.zero_add] at c1
      clear hc1
      have hsw := hb.out.size
      have k1 : (0 : Int) ≤ (j : Int) := by omega
      have k2 : (j : Int) < (n : Int) + 12 := by omega
      by_cases hjn : j < n
      · obtain ⟨b2, o2, rfl, hg2, hc2⟩ := Hl.out.at_ (by omega)
        have c2 := hc2 j hjn
        have hbt : bt (l ++ lentT) j = bt l j := bt_left (by rw [← Hln.out]; exact hjn)
        rw [hbt] at c1
        have f1 : ∀ x : BelowW wr, x.v.cell? ⟨g, j, none⟩ = some (.int .u8 (bt l j)) := fun x => (x.h.cell (by show g < wr.heap.size; omega)).trans ((hb.out.cell (by show g < w.heap.size; omega)).trans c1)
        have f2 : ∀ x : BelowW wr, x.v.cell? ⟨b2, o2 + j, none⟩ = some (.int .u8 (bt l j)) := fun x => (x.h.cell (by show b2 < wr.heap.size; omega)).trans ((hb.out.cell (by show b2 < w.heap.size; omega)).trans c2)
        have i1 : decide (j < n) = true := decide_eq_true hjn
        have i2 : decide (n ≤ j) = false := decide_eq_false (by omega)
        have i3 : (bt l j == bt l j) = true := by simp
        have i4 : ¬ (n : Int) ≤ (j : Int) := by omega
        have i5 : (j : Int) < (n : Int) := by omega
        clear hc2 hbt c1 c2
        go_wp2_with (fail)
        refine wp_region_below wr (by kernel_rfl) (by kernel_rfl) (Below.refl _ _) ?_
        repeat (go_big_quiet_step (fail))
        refine wpQuiet_nil ?_
        intro _ hw'
        obtain ⟨x, hw''⟩ := hw'
        subst hw''
        clear f1 f2
        go_wp2_with (fail)
        go_roundw
        case rel => exact ⟨j + 1, by omega, by go_num, Lib.hid (hb.out.trans (x.h.mono hsw))⟩
        case measure => simp [intOf]; omega
      · obtain ⟨m, hm⟩ : ∃ m, m = j - n := ⟨_, rfl⟩
        have hbt : bt (l ++ lentT) j = ((mkB 1 m).toNat : Int) := by
          rw [bt_right' (i := m) (by rw [← Hln.out]; omega)]
          unfold bt lentT
          rw [List.getD_eq_getElem?_getD, List.getElem?_map, List.getElem?_range (by omega)]
          rfl
        rw [hbt] at c1
        have f1 : ∀ x : BelowW wr, x.v.cell? ⟨g, j, none⟩ = some (.int .u8 ((mkB 1 m).toNat : Int)) := fun x => (x.h.cell (by show g < wr.heap.size; omega)).trans ((hb.out.cell (by show g < w.heap.size; omega)).trans c1)
        have hmk : ∀ W : World, Calls Tryd.prog 68 #[.int .i64 1, .int .i64 m] W fun e w' => e = .returned (.int .u8 ((mkB 1 m).toNat : Int)) ∧ W = w' := fun W => markByte_any 1 m W (by omega) (by omega)
        generalize ((mkB 1 m).toNat : Int) = mb at f1 hmk
        have i1 : decide (j < n) = false := decide_eq_false hjn
        have i2 : decide (n ≤ j) = true := decide_eq_true (by omega)
        have i3 : (mb == mb) = true := by simp
        have i4 : (j : Int) - (n : Int) = (m : Int) := by omega
        have i5 : IntKind.i64.wrap ((j : Int) - (n : Int)) = (m : Int) := by rw [i4]; exact IntWalk.i64_in _ (by omega)
        have i6 : IntKind.i64.wrap (m : Int) = (m : Int) := IntWalk.i64_in _ (by omega)
        clear hbt hm c1
        go_wp2_with (fail)
        refine wp_region_below wr (by kernel_rfl) (by kernel_rfl) (Below.refl _ _) ?_
        repeat (go_big_quiet_step ((go_at_call 68; exact below_call_same (hmk _))))
        refine wpQuiet_nil ?_
        intro _ hw'
        obtain ⟨x, hw''⟩ := hw'
        subst hw''
        clear f1 i4 i5 i6
        go_wp2_with (fail)
        go_roundw
        case rel => exact ⟨j + 1, by omega, by go_num, Lib.hid (hb.out.trans (x.h.mono hsw))⟩
        case measure => simp [intOf]; omega
    · go_wp2_with (fail)
      go_ret
      exact ⟨rfl, hb.out⟩

theorem rowB_set {w : World} {base g n c m : Nat} {e : TypeId} {xs : List Value} (h : w.ownsRow base e 1 (.slice (some ⟨g, 0, none⟩) n c) m xs) {k : Nat} (hk : k < m) (v : Value) : (w.setCell ⟨g, k, none⟩ v).ownsRow base e 1 (.slice (some ⟨g, 0, none⟩) n c) m (xs.set k v) := by
  obtain ⟨e1, ⟨h3, -⟩ | ⟨g', cap, cur, hv, hg, hh, hle, hcap, hsz, htk⟩⟩ := h
  · cases h3
  · cases hv
    have e2 := heap_setCell_same w g k cur e v hh
    refine ⟨by rw [List.length_set]; exact e1, .inr ⟨g, _, _, rfl, hg, e2, hle, hcap, by simp [hsz], ?_⟩⟩
    rw [← htk]
    simp only [Array.toList_setIfInBounds]
    rw [List.take_set]
theorem OB.setB {base g n c : Nat} {w : World} {l : List UInt8} (h : OB base w (.slice (some ⟨g, 0, none⟩) n c) l) {j : Nat} (hj : j < l.length) (b : UInt8) : OB base (w.setCell ⟨g, j, none⟩ (.int .u8 (b.toNat : Int))) (.slice (some ⟨g, 0, none⟩) n c) (l.set j b) := by
  have h2 := rowB_set h hj (bv b)
  unfold OB
  rw [List.length_set, List.map_set]
  exact h2
theorem OB.atB {base g n c : Nat} {w : World} {l : List UInt8} (h : OB base w (.slice (some ⟨g, 0, none⟩) n c) l) {j : Nat} (hj : j < l.length) : (∃ u, w.cell? ⟨g, j, none⟩ = some u) ∧ w.frozen? ⟨g, j, none⟩ = false := by
  obtain ⟨e1, ⟨h3, -⟩ | ⟨g', cap, cur, hv, hg, hh, hle, hcap, hsz, htk⟩⟩ := h
  · cases h3
  · cases hv
    refine ⟨⟨cur[j]'(by rw [hsz]; omega), ?_⟩, by simp [World.frozen?, hh]⟩
    rw [cell_of_row w g j _ _ _ hh]
    exact Array.getElem?_eq_getElem _
set_option maxHeartbeats 2000000 in
theorem OverBytes_any (base g n c : Nat) (P : List UInt8) (w : World) (ho : OB base w (.slice (some ⟨g, 0, none⟩) (n + 12) c) P) (hn : n ≤ 100000) :
    Calls Tryd.prog 58 #[.slice (some ⟨g, 0, none⟩) n c] w fun e w' => e = .returned (.tuple #[]) ∧ w.grownBy w' (some g) := by
  obtain ⟨hl, hle, hmx⟩ := ho.cap
  have Ho := Lib.hid ho
  have Hl := Lib.hid hl
  clear ho hl
  have q1 : (n : Int) + 12 ≤ (c : Int) := by omega
  have q2 : IntKind.i64.wrap ((n : Int) + 12) = (n : Int) + 12 := IntWalk.i64_in _ (by omega)
  go_enter Tryd.func58, Tryd.ntmps58
  go_wp2_with (fail)
  go_loopw [3] (fun i wr => ∃ (j : Nat) (Q : List UInt8), j ≤ n + 12 ∧ i = .int .i64 j ∧ Hid (Q.length = n + 12) ∧ Hid (OB base wr (.slice (some ⟨g, 0, none⟩) (n + 12) c) Q) ∧ Hid (w.grownBy wr (some g))) (fun i _ => n + 12 - (intOf i).toNat)
  case atStart => exact ⟨0, P, by omega, rfl, Lib.hid Hl.out.symm, Ho, Lib.hid ⟨rfl, rfl, rfl, Nat.le_refl _, fun _ _ _ => rfl⟩⟩
  case round =>
    obtain ⟨j, Q, hj, rfl, HQ, HO, HG⟩ := hrel
    by_cases hlt : j < n + 12
    · have hmk : ∀ W : World, Calls Tryd.prog 68 #[.int .i64 2, .int .i64 j] W fun e w' => e = .returned (.int .u8 ((mkB 2 j).toNat : Int)) ∧ W = w' := fun W => markByte_any 2 j W (by omega) (by omega)
      obtain ⟨⟨u0, c1⟩, f1⟩ := HO.out.atB (j := j) (by have := HQ.out; omega)
      have HO2 := Lib.hid (HO.out.setB (j := j) (by have := HQ.out; omega) (mkB 2 j))
      obtain ⟨mb, hmb⟩ : ∃ mb, mb = ((mkB 2 j).toNat : Int) := ⟨_, rfl⟩
      rw [← hmb] at hmk HO2
      clear hmb
      go_wp2_with (go_at_call 68; refine (hmk _).mono ?_; rintro e wm ⟨rfl, rfl⟩)
      go_roundw
      case rel => exact ⟨j + 1, Q.set j (mkB 2 j), by omega, by go_num, Lib.hid (by rw [List.length_set]; exact HQ.out), HO2, Lib.hid ⟨HG.out.os, HG.out.tape, HG.out.output, Nat.le_trans HG.out.size (by simp [World.setCell]), fun k hk hne => (Below.heap_setCell _ _ _ _ (fun e => hne (by rw [e]))).trans (HG.out.block k hk hne)⟩⟩
      case measure => simp [intOf]; omega
    · go_wp2_with (fail)
      go_end0
      exact ⟨rfl, HG.out⟩
end Go.Proofs.YtbinikbgbgggaaaDoor
