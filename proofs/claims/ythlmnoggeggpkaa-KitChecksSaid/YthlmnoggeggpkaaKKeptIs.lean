/- The walk of storemankit.KeptItems. -/
import Derived.Test.YthlmnoggeggpkaaKLentI
import Derived.Test.YthlmnoggeggpkaaBelowQ
namespace Go.Proofs.Ythlmnoggeggpkaa
open Go.RowKit

theorem allI_at (L : List It) (n j : Nat) (hn : n = L.length) (hj : j < n) : (L ++ lentI).getD j default = L.getD j default := by
  rw [List.getD_eq_getElem?_getD, List.getElem?_append_left (by omega), List.getD_eq_getElem?_getD]
theorem allI_behind (L : List It) (n d : Nat) (hn : n = L.length) (hd : d < 12) : (L ++ lentI).getD (n + d) default = mkIt d := by
  rw [List.getD_eq_getElem?_getD, List.getElem?_append_right (by omega), show n + d - L.length = d by omega, List.getElem?_eq_getElem (by rw [lentI_len]; exact hd), Option.getD_some, lentI_at d hd]
/-- The cells of items of one's own. -/
theorem OIt.cells {base : Nat} {w : World} {g n c : Nat} {Y : List It} (h : OIt base w (.slice (some ⟨g, 0, none⟩) n c) Y) : n = Y.length ∧ n ≤ c ∧ c ≤ 9223372036854775807 ∧ g < w.heap.size ∧ ∀ i, i < n → w.cell? ⟨g, i * 4, none⟩ = some (encStr (Y.getD i default).code) ∧ w.cell? ⟨g, i * 4 + 1, none⟩ = some (.int .i64 (Y.getD i default).life) ∧ w.cell? ⟨g, i * 4 + 2, none⟩ = some (.slice (Y.getD i default).pa (Y.getD i default).ps.length (Y.getD i default).pc) ∧ w.cell? ⟨g, i * 4 + 3, none⟩ = some (.slice (Y.getD i default).oa (Y.getD i default).os.length (Y.getD i default).oc) := by
  obtain ⟨h1, ⟨h2, -⟩ | ⟨g', cap, cur, hv, hg, hh, hle, hcap, hsz, htk⟩⟩ := h
  · cases h2
  · cases hv
    refine ⟨rfl, hle, by simpa [maxLen] using hcap, (Array.getElem?_eq_some_iff.1 hh).1, fun i hi => ?_⟩
    have hat := cellsI_at Y i hi
    rw [← htk] at hat
    simp only [World.cell?, hh, Option.isSome_none, Bool.false_eq_true, if_false]
    rw [List.getElem?_take, if_pos (by omega), List.getElem?_take, if_pos (by omega), List.getElem?_take, if_pos (by omega), List.getElem?_take, if_pos (by omega)] at hat
    simpa using hat
theorem mkIt_ok (d B : Nat) (w : World) (hd : d < 12) : ItOk B w (mkIt d) := by
  have := markN_bd 1 d (by omega) (by omega)
  refine ⟨Nat.zero_le _, by unfold mkIt; simp only; omega, by unfold mkIt; simp only; omega, ⟨rfl, Nat.le_refl _, Nat.zero_le _, fun p hp => (by cases hp), fun h => absurd h (Nat.lt_irrefl _)⟩, ⟨rfl, Nat.le_refl _, Nat.zero_le _, fun p hp => (by cases hp), fun h => absurd h (Nat.lt_irrefl _)⟩⟩

set_option maxHeartbeats 4000000 in
set_option maxRecDepth 100000 in
theorem KeptItems_any (base N : Nat) (g : Nat) (a : Option Addr) (n c : Nat) (X Y : List It) (w : World) (ho : OIt base w (.slice (some ⟨g, 0, none⟩) (n + 12) (n + 12)) (Y ++ lentI)) (hY : Y.length = n) (hL : ∀ i, i < n → LI base w (X.getD i default) (Y.getD i default)) (hr : RI N w a n c X) (hN : N ≤ w.heap.size) (hs : n ≤ 100000) :
    Calls Try.prog 11 #[.slice (some ⟨g, 0, none⟩) n (n + 12), .slice a n c] w fun e w' => e = .returned (.bool true) ∧ Below w.heap.size w w' := by
  obtain ⟨-, -, -, hgw, hcells⟩ := ho.cells
  have h3 := hr.le; have h4 := hr.mx
  have hln := hr.len
  have Hln := Lib.hid hln
  have HC := Lib.hid hcells
  have HL := Lib.hid hL
  have Hr := Lib.hid hr
  have HY := Lib.hid hY.symm
  clear ho hr hln hcells hL hY
  have q1 : (n : Int) + 12 ≤ ((n + 12 : Nat) : Int) := by omega
  have q2 := wrap_in (x := (n : Int) + 12) (by omega) (by omega)
  go_enter Try.func11, Try.ntmps11
  go_wp2_with (fail)
  go_loopw [6] (fun i wr => ∃ (j : Nat), j ≤ n + 12 ∧ i = .int .i64 j ∧ Hid (Below w.heap.size w wr)) (fun i _ => n + 12 - (intOf i).toNat)
  case atStart => exact ⟨0, by omega, rfl, Lib.hid (Below.refl _ _)⟩
  case round =>
    obtain ⟨j, hj, rfl, Hb⟩ := hrel
    have hsz := Hb.out.size
    by_cases hlt : j < n
    · have hrj := Hr.out.below (Hb.out.mono hN)
      obtain ⟨b2, o2, rfl, hbN, hc2⟩ := hrj.at_ (by omega)
      obtain ⟨k1, k2, k3, k4⟩ := HC.out j (by omega)
      obtain ⟨k5, k6, k7, k8⟩ := hc2 j hlt
      rw [allI_at Y n j HY.out hlt] at k1 k2 k3 k4
      have hxm : X.getD j default ∈ X := by
        rw [List.getD_eq_getElem?_getD, List.getElem?_eq_getElem (by rw [← Hln.out]; exact hlt)]; exact List.getElem_mem _
      have hxo := hrj.ok _ hxm
      have hli := (HL.out j hlt).keep Hb.out
      generalize X.getD j default = x at k5 k6 k7 k8 hxo hli
      generalize Y.getD j default = y at k1 k2 k3 k4 hli
      have hmk : ∀ z : BelowW wr, Calls Try.prog 31 #[y.val, x.val] z.v fun e w' => e = .returned (.bool true) ∧ Below z.v.heap.size z.v w' := fun z => KeptItem_any base N x y z.v (hxo.below (z.h.mono (Nat.le_trans hN hsz))) (hli.keep z.h) (Nat.le_trans (Nat.le_trans hN hsz) z.h.size)
      unfold It.val encStr at hmk
      unfold encStr at k1 k5
      have hbw : ∀ (i : Nat) (v : Value), w.cell? ⟨g, i, none⟩ = some v → ∀ z : BelowW wr, z.v.cell? ⟨g, i, none⟩ = some v := fun i v h z => (z.h.cell (by show g < _; omega)).trans ((Hb.out.cell (by show g < _; omega)).trans h)
      have hbx : ∀ (i : Nat) (v : Value), wr.cell? ⟨b2, i, none⟩ = some v → ∀ z : BelowW wr, z.v.cell? ⟨b2, i, none⟩ = some v := fun i v h z => (z.h.cell (by show b2 < _; omega)).trans h
      have f1 := hbw _ _ k1
      have f2 := hbw _ _ k2
      have f3 := hbw _ _ k3
      have f4 := hbw _ _ k4
      have f5 := hbx _ _ k5
      have f6 := hbx _ _ k6
      have f7 := hbx _ _ k7
      have f8 := hbx _ _ k8
      have HMK := Lib.hid hmk
      have hd : decide ((j : Int) < (n : Int)) = true := decide_eq_true (by omega)
      have hd2 : decide ((n : Int) ≤ (j : Int)) = false := decide_eq_false (by omega)
      have hd3 : decide (n ≤ j) = false := decide_eq_false (by omega)
      have hd4 : decide (j < n) = true := decide_eq_true (by omega)
      clear k1 k2 k3 k4 k5 k6 k7 k8 hbw hbx hmk hxo hli hxm hc2 hrj
      go_wp2_with (fail)
      refine wp_region_below wr (by kernel_rfl) (by kernel_rfl) (Below.refl _ _) ?_
      repeat (go_big_quiet_step ((go_at_call 31; exact below_call (HMK.out _))))
      refine wpQuiet_nil ?_
      intro _ hw'
      obtain ⟨y, hw''⟩ := hw'
      subst hw''
      clear f1 f2 f3 f4 f5 f6 f7 f8
      go_wp2_with (fail)
      go_roundw
      case rel => exact ⟨j + 1, by omega, by go_num, Lib.hid (Hb.out.trans (y.h.mono hsz))⟩
      case measure => simp [intOf]; omega
    · by_cases hlt2 : j < n + 12
      · obtain ⟨d, rfl⟩ : ∃ d, j = n + d := ⟨j - n, by omega⟩
        obtain ⟨k1, k2, k3, k4⟩ := HC.out (n + d) (by omega)
        rw [allI_behind Y n d HY.out (by omega)] at k1 k2 k3 k4
        have hmk : ∀ W : World, Calls Try.prog 25 #[.int .i64 1, .int .i64 (d : Int)] W fun e w' => e = .returned (.agg #[.string ⟨#[]⟩, .int .i64 (markN 1 d : Nat), .slice none 0 0, .slice none 0 0]) ∧ Below W.heap.size W w' := fun W => markItem_any d W (by omega)
        have hsm : ∀ W : World, Calls Try.prog 32 #[.agg #[.string ⟨#[]⟩, .int .i64 (markN 1 d : Nat), .slice none 0 0, .slice none 0 0], .agg #[.string ⟨#[]⟩, .int .i64 (markN 1 d : Nat), .slice none 0 0, .slice none 0 0]] W fun e w' => e = .returned (.bool true) ∧ Below W.heap.size W w' := fun W => SameItem_like 0 (mkIt d) (mkIt d) W (mkIt_ok d 0 W (by omega)) (mkIt_ok d 0 W (by omega)) (Nat.zero_le _) ⟨rfl, rfl, rfl, rfl⟩
        unfold mkIt at k1 k2 k3 k4
        unfold encStr at k1
        simp only [List.length_nil] at k1 k2 k3 k4
        generalize ((markN 1 d : Nat) : Int) = m at k2 hmk hsm
        have hbw : ∀ (i : Nat) (v : Value), w.cell? ⟨g, i, none⟩ = some v → ∀ z : BelowW wr, z.v.cell? ⟨g, i, none⟩ = some v := fun i v h z => (z.h.cell (by show g < _; omega)).trans ((Hb.out.cell (by show g < _; omega)).trans h)
        have f1 := hbw _ _ k1
        have f2 := hbw _ _ k2
        have f3 := hbw _ _ k3
        have f4 := hbw _ _ k4
        have HMK := Lib.hid hmk
        have HSM := Lib.hid hsm
        clear k1 k2 k3 k4 hbw hmk hsm
        have i1 : decide ((n : Int) + (d : Int) < (n : Int)) = false := decide_eq_false (by omega)
        have i2 : decide ((n : Int) ≤ (n : Int) + (d : Int)) = true := decide_eq_true (by omega)
        have i3 : IntKind.i64.wrap ((n : Int) + (d : Int) - (n : Int)) = (d : Int) := by
          rw [show (n : Int) + (d : Int) - (n : Int) = (d : Int) by omega]
          exact wrap_in (by omega) (by omega)
        have i5 : (n : Int) + (d : Int) < (n : Int) + 12 := by omega
        have i6 : (0 : Int) ≤ (n : Int) + (d : Int) := by omega
        have c5 := Lib.hid hlt2
        clear hlt hj hlt2
        go_wp2_with (fail)
        refine wp_region_below wr (by kernel_rfl) (by kernel_rfl) (Below.refl _ _) ?_
        repeat (go_big_quiet_step (first | (go_at_call 25; exact below_call (HMK.out _)) | (go_at_call 32; exact below_call (HSM.out _))))
        refine wpQuiet_nil ?_
        intro _ hw'
        obtain ⟨y, hw''⟩ := hw'
        subst hw''
        clear f1 f2 f3 f4
        go_wp2_with (fail)
        have c6 := c5.out
        go_roundw
        case rel => exact ⟨n + d + 1, by omega, by go_num, Lib.hid (Hb.out.trans (y.h.mono hsz))⟩
        case measure => simp [intOf]; omega
      · go_wp2_with (fail)
        go_ret
        exact ⟨rfl, Hb.out⟩
end Go.Proofs.Ythlmnoggeggpkaa
