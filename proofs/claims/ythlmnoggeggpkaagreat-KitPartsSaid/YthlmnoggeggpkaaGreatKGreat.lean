/- The walk of storemankit.KeptItems. The walk of storemanlaw07.great. -/
import Derived.Test.YthlmnoggeggpkaaGreatKLentI
import Derived.Test.YthlmnoggeggpkaaGreatBelowQ
namespace Go.Proofs.YthlmnoggeggpkaaGreat
open Go.RowKit

theorem allI_at (L : List It) (n j : Nat) (hn : n = L.length) (hj : j < n) : (L ++ lentI).getD j default = L.getD j default := by
  rw [List.getD_eq_getElem?_getD, List.getElem?_append_left (by omega), List.getD_eq_getElem?_getD]
theorem allI_behind (L : List It) (n d : Nat) (hn : n = L.length) (hd : d < 12) : (L ++ lentI).getD (n + d) default = mkIt d := by
  rw [List.getD_eq_getElem?_getD, List.getElem?_append_right (by omega), show n + d - L.length = d by omega, List.getElem?_eq_getElem (by rw [lentI_len]; exact hd), Option.getD_some, lentI_at d hd]
/-- The cells of items of one's own. -/
theorem OIt.cells {base : Nat} {w : World} {g n c : Nat} {Y : List It} (h : OIt base w (.slice (some ⟨g, 0, none⟩) n c) Y) : n = Y.length ∧ n ≤ c ∧ c ≤ 9223372036854775807 ∧ g < w.heap.size ∧ ∀ i, i < n → w.cell? ⟨g, i * 4, none⟩ = some (encStr (Y.getD i default).code) ∧ w.cell? ⟨g, i * 4 + 1, none⟩ = some (.int .i64 (Y.getD i default).life) ∧ w.cell? ⟨g, i * 4 + 2, none⟩ = some (.slice (Y.getD i default).pa (Y.getD i default).ps.length (Y.getD i default).pc) ∧ w.cell? ⟨g, i * 4 + 3, none⟩ = some (.slice (Y.getD i default).oa (Y.getD i default).os.length (Y.getD i default).oc) := by
  obtain ⟨h1, ⟨h2, -⟩ | ⟨g', cap, cur, hv, hg, hh, hle, hcap, hsz, htk⟩⟩ := h
  · cases h2
  · cases hv
    refine ⟨rfl, hle, by simpa [maxLen] using hcap, (Array.getElem?_eq_some_iff.1 hh).1, fun i hi => ?_⟩
    have hat := cellsI_at Y i hi
    rw [← htk] at hat
    simp only [World.cell?, hh, Option.isSome_none, Bool.false_eq_true, if_false]
    rw [List.getElem?_take, if_pos (by omega), List.getElem?_take, if_pos (by omega), List.getElem?_take, if_pos (by omega), List.getElem?_take, if_pos (by omega)] at hat
    simpa using hat
theorem mkIt_ok (d B : Nat) (w : World) (hd : d < 12) : ItOk B w (mkIt d) := by
  have := markN_bd 1 d (by omega) (by omega)
  refine ⟨Nat.zero_le _, by unfold mkIt; simp only; omega, by unfold mkIt; simp only; omega, ⟨rfl, Nat.le_refl _, Nat.zero_le _, fun p hp => (by cases hp), fun h => absurd h (Nat.lt_irrefl _)⟩, ⟨rfl, Nat.le_refl _, Nat.zero_le _, fun p hp => (by cases hp), fun h => absurd h (Nat.lt_irrefl _)⟩⟩

set_option maxHeartbeats 4000000 in
set_option maxRecDepth 100000 in
theorem KeptItems_any (base N : Nat) (g : Nat) (a : Option Addr) (n c : Nat) (X Y : List It) (w : World) (ho : OIt base w (.slice (some ⟨g, 0, none⟩) (n + 12) (n + 12)) (Y ++ lentI)) (hY : Y.length = n) (hL : ∀ i, i < n → LI base w (X.getD i default) (Y.getD i default)) (hr : RI N w a n c X) (hN : N ≤ w.heap.size) (hs : n ≤ 100000) :
    Calls Tryz.prog 11 #[.slice (some ⟨g, 0, none⟩) n (n + 12), .slice a n c] w fun e w' => e = .returned (.bool true) ∧ Below w.heap.size w w' := by
  obtain ⟨-, -, -, hgw, hcells⟩ := ho.cells
  have h3 := hr.le; have h4 := hr.mx
  have hln := hr.len
  have Hln := Lib.hid hln
  have HC := Lib.hid hcells
  have HL := Lib.hid hL
  have Hr := Lib.hid hr
  have HY := Lib.hid hY.symm
  clear ho hr hln hcells hL hY
  have q1 : (n : Int) + 12 ≤ ((n + 12 : Nat) : Int) := by omega
  have q2 := wrap_in (x := (n : Int) + 12) (by omega) (by omega)
  go_enter Tryz.func11, Tryz.ntmps11
  go_wp2_with (fail)
  go_loopw [6] (fun i wr => ∃ (j : Nat), j ≤ n + 12 ∧ i = .int .i64 j ∧ Hid (Below w.heap.size w wr)) (fun i _ => n + 12 - (intOf i).toNat)
  case atStart => exact ⟨0, by omega, rfl, Lib.hid (Below.refl _ _)⟩
  case round =>
    obtain ⟨j, hj, rfl, Hb⟩ := hrel
    have hsz := Hb.out.size
    by_cases hlt : j < n
    · have hrj := Hr.out.below (Hb.out.mono hN)
      obtain ⟨b2, o2, rfl, hbN, hc2⟩ := hrj.at_ (by omega)
      obtain ⟨k1, k2, k3, k4⟩ := HC.out j (by omega)
      obtain ⟨k5, k6, k7, k8⟩ := hc2 j hlt
      rw [allI_at Y n j HY.out hlt] at k1 k2 k3 k4
      have hxm : X.getD j default ∈ X := by
        rw [List.getD_eq_getElem?_getD, List.getElem?_eq_getElem (by rw [← Hln.out]; exact hlt)]; exact List.getElem_mem _
      have hxo := hrj.ok _ hxm
      have hli := (HL.out j hlt).keep Hb.out
      generalize X.getD j default = x at k5 k6 k7 k8 hxo hli
      generalize Y.getD j default = y at k1 k2 k3 k4 hli
      have hmk : ∀ z : BelowW wr, Calls Tryz.prog 35 #[y.val, x.val] z.v fun e w' => e = .returned (.bool true) ∧ Below z.v.heap.size z.v w' := fun z => KeptItem_any base N x y z.v (hxo.below (z.h.mono (Nat.le_trans hN hsz))) (hli.keep z.h) (Nat.le_trans (Nat.le_trans hN hsz) z.h.size)
      unfold It.val encStr at hmk
      unfold encStr at k1 k5
      have hbw : ∀ (i : Nat) (v : Value), w.cell? ⟨g, i, none⟩ = some v → ∀ z : BelowW wr, z.v.cell? ⟨g, i, none⟩ = some v := fun i v h z => (z.h.cell (by show g < _; omega)).trans ((Hb.out.cell (by show g < _; omega)).trans h)
      have hbx : ∀ (i : Nat) (v : Value), wr.cell? ⟨b2, i, none⟩ = some v → ∀ z : BelowW wr, z.v.cell? ⟨b2, i, none⟩ = some v := fun i v h z => (z.h.cell (by show b2 < _; omega)).trans h
      have f1 := hbw _ _ k1
      have f2 := hbw _ _ k2
      have f3 := hbw _ _ k3
      have f4 := hbw _ _ k4
      have f5 := hbx _ _ k5
      have f6 := hbx _ _ k6
      have f7 := hbx _ _ k7
      have f8 := hbx _ _ k8
      have HMK := Lib.hid hmk
      have hd : decide ((j : Int) < (n : Int)) = true := decide_eq_true (by omega)
      have hd2 : decide ((n : Int) ≤ (j : Int)) = false := decide_eq_false (by omega)
      have hd3 : decide (n ≤ j) = false := decide_eq_false (by omega)
      have hd4 : decide (j < n) = true := decide_eq_true (by omega)
      clear k1 k2 k3 k4 k5 k6 k7 k8 hbw hbx hmk hxo hli hxm hc2 hrj
      go_wp2_with (fail)
      refine wp_region_below wr (by kernel_rfl) (by kernel_rfl) (Below.refl _ _) ?_
      repeat (go_big_quiet_step ((go_at_call 35; exact below_call (HMK.out _))))
      refine wpQuiet_nil ?_
      intro _ hw'
      obtain ⟨y, hw''⟩ := hw'
      subst hw''
      clear f1 f2 f3 f4 f5 f6 f7 f8
      go_wp2_with (fail)
      go_roundw
      case rel => exact ⟨j + 1, by omega, by go_num, Lib.hid (Hb.out.trans (y.h.mono hsz))⟩
      case measure => simp [intOf]; omega
    · by_cases hlt2 : j < n + 12
      · obtain ⟨d, rfl⟩ : ∃ d, j = n + d := ⟨j - n, by omega⟩
        obtain ⟨k1, k2, k3, k4⟩ := HC.out (n + d) (by omega)
        rw [allI_behind Y n d HY.out (by omega)] at k1 k2 k3 k4
        have hmk : ∀ W : World, Calls Tryz.prog 25 #[.int .i64 1, .int .i64 (d : Int)] W fun e w' => e = .returned (.agg #[.string ⟨#[]⟩, .int .i64 (markN 1 d : Nat), .slice none 0 0, .slice none 0 0]) ∧ Below W.heap.size W w' := fun W => markItem_any d W (by omega)
        have hsm : ∀ W : World, Calls Tryz.prog 36 #[.agg #[.string ⟨#[]⟩, .int .i64 (markN 1 d : Nat), .slice none 0 0, .slice none 0 0], .agg #[.string ⟨#[]⟩, .int .i64 (markN 1 d : Nat), .slice none 0 0, .slice none 0 0]] W fun e w' => e = .returned (.bool true) ∧ Below W.heap.size W w' := fun W => SameItem_like 0 (mkIt d) (mkIt d) W (mkIt_ok d 0 W (by omega)) (mkIt_ok d 0 W (by omega)) (Nat.zero_le _) ⟨rfl, rfl, rfl, rfl⟩
        unfold mkIt at k1 k2 k3 k4
        unfold encStr at k1
        simp only [List.length_nil] at k1 k2 k3 k4
        generalize ((markN 1 d : Nat) : Int) = m at k2 hmk hsm
        have hbw : ∀ (i : Nat) (v : Value), w.cell? ⟨g, i, none⟩ = some v → ∀ z : BelowW wr, z.v.cell? ⟨g, i, none⟩ = some v := fun i v h z => (z.h.cell (by show g < _; omega)).trans ((Hb.out.cell (by show g < _; omega)).trans h)
        have f1 := hbw _ _ k1
        have f2 := hbw _ _ k2
        have f3 := hbw _ _ k3
        have f4 := hbw _ _ k4
        have HMK := Lib.hid hmk
        have HSM := Lib.hid hsm
        clear k1 k2 k3 k4 hbw hmk hsm
        have i1 : decide ((n : Int) + (d : Int) < (n : Int)) = false := decide_eq_false (by omega)
        have i2 : decide ((n : Int) ≤ (n : Int) + (d : Int)) = true := decide_eq_true (by omega)
        have i3 : IntKind.i64.wrap ((n : Int) + (d : Int) - (n : Int)) = (d : Int) := by
          rw [show (n : Int) + (d : Int) - (n : Int) = (d : Int) by omega]
          exact wrap_in (by omega) (by omega)
        have i5 : (n : Int) + (d : Int) < (n : Int) + 12 := by omega
        have i6 : (0 : Int) ≤ (n : Int) + (d : Int) := by omega
        have c5 := Lib.hid hlt2
        clear hlt hj hlt2
        go_wp2_with (fail)
        refine wp_region_below wr (by kernel_rfl) (by kernel_rfl) (Below.refl _ _) ?_
        repeat (go_big_quiet_step (first | (go_at_call 25; exact below_call (HMK.out _)) | (go_at_call 36; exact below_call (HSM.out _))))
        refine wpQuiet_nil ?_
        intro _ hw'
        obtain ⟨y, hw''⟩ := hw'
        subst hw''
        clear f1 f2 f3 f4
        go_wp2_with (fail)
        have c6 := c5.out
        go_roundw
        case rel => exact ⟨n + d + 1, by omega, by go_num, Lib.hid (Hb.out.trans (y.h.mono hsz))⟩
        case measure => simp [intOf]; omega
      · go_wp2_with (fail)
        go_ret
        exact ⟨rfl, Hb.out⟩
end Go.Proofs.YthlmnoggeggpkaaGreat
namespace Go.Proofs.YthlmnoggeggpkaaGreat
open Go.RowKit

/-- No list, and no text in it, is longer than a machine holds. -/
def LowI (X : List It) : Prop := ∀ i, i < X.length → (X.getD i default).code.length ≤ 140737488355328 ∧ (X.getD i default).ps.length ≤ 140737488355328 ∧ (X.getD i default).os.length ≤ 140737488355328 ∧ ∀ p ∈ (X.getD i default).ps, p.1.length ≤ 140737488355328
/-- The items so far are counted. -/
def CountI (X : List It) (i N : Nat) : Prop := ∀ k, k < i → (X.getD k default).ps.length ≤ N ∧ (X.getD k default).os.length ≤ N
theorem CountI.mono {X : List It} {i N M : Nat} (h : CountI X i N) (hm : N ≤ M) : CountI X i M := fun k hk => ⟨Nat.le_trans (h k hk).1 hm, Nat.le_trans (h k hk).2 hm⟩
theorem CountI.step {X : List It} {i N M : Nat} (h : CountI X i N) (hm : N + (X.getD i default).ps.length + (X.getD i default).os.length ≤ M) : CountI X (i + 1) M := fun k hk => by
  rcases Nat.lt_or_ge k i with h1 | h1
  · exact (h.mono (by omega)) k h1
  · obtain rfl : k = i := by omega
    omega

set_option maxHeartbeats 4000000 in
set_option maxRecDepth 100000 in
theorem great_any (B : Nat) (a : Option Addr) (n c : Nat) (X : List It) (w : World) (hr : RI B w a n c X) (hlow : LowI X) :
    Calls Tryz.prog 5 #[.slice a n c] w fun e w' => (∃ gr, e = .returned (.bool gr) ∧ (gr = false → n ≤ 70 ∧ CountI X n 4000)) ∧ ∃ q, w' = w.drewN q := by
  have hle := hr.le
  have hmx := hr.mx
  have HR := Lib.hid hr
  have Hln := Lib.hid hr.len
  have HL := Lib.hid hlow
  clear hr hlow
  go_enter Tryz.func5, Tryz.ntmps5
  go_wp2_with (fail)
  go_loopw [3, 4] (fun s t wr => ∃ (N i : Nat), s = .int .i64 N ∧ t = .int .i64 i ∧ i ≤ n ∧ N ≤ 1000000000000000 ∧ Hid (CountI X i N) ∧ ∃ q, wr = w.drewN q) (fun _ t _ => n - (intOf t).toNat)
  case atStart => exact ⟨0, 0, rfl, rfl, by omega, by omega, Lib.hid (fun k hk => absurd hk (Nat.not_lt_zero _)), 0, rfl⟩
  case round =>
    obtain ⟨N, i, rfl, rfl, hi, hN, ht, q, rfl⟩ := hrel
    by_cases hin : i < n
    · by_cases h3 : N ≤ 4000
      · obtain ⟨b, o, rfl, hbB, hc⟩ := HR.out.at_ (by omega)
        obtain ⟨g1, g2, g3, g4⟩ := hc i hin
        obtain ⟨l1, l2, l3, l4⟩ := HL.out i (by have := Hln.out; omega)
        have hst := fun M => ht.out.step (M := M)
        have hxm : X.getD i default ∈ X := by
          rw [List.getD_eq_getElem?_getD, List.getElem?_eq_getElem (by rw [← Hln.out]; exact hin)]; exact List.getElem_mem _
        have hxo := (HR.out.ok _ hxm).rp
        clear hc hxm
        generalize X.getD i default = x at g1 g2 g3 g4 l1 l2 l3 l4 hst hxo
        have HP := Lib.hid hxo
        have Hl4 := Lib.hid l4
        have HST := Lib.hid hst
        have hpmx := hxo.mx
        have hple := hxo.le
        unfold encStr at g1
        obtain ⟨np, hnp⟩ : ∃ k, k = x.ps.length := ⟨_, rfl⟩
        obtain ⟨no, hno⟩ : ∃ k, k = x.os.length := ⟨_, rfl⟩
        have HNP := Lib.hid hnp
        rw [← hnp] at g3 l2 HST hple HP
        rw [← hno] at g4 l3 HST
        have hq : Int.tdiv (x.code.length : Int) 20 = ((x.code.length / 20 : Nat) : Int) := by
          rw [Int.tdiv_eq_ediv_of_nonneg (by omega)]; omega
        have hqn : x.code.length / 20 ≤ 7036874417767 := by omega
        have hwq := wrap_in (x := ((x.code.length / 20 : Nat) : Int)) (by omega) (by omega)
        generalize x.code.length / 20 = d at hq hqn hwq
        have hw1 := wrap_in (x := (N : Int) + 1) (by omega) (by omega)
        have hw2 := wrap_in (x := (N : Int) + 1 + (d : Int)) (by omega) (by omega)
        have hw3 := wrap_in (x := (N : Int) + 1 + (d : Int) + (np : Int)) (by omega) (by omega)
        have hw4 := wrap_in (x := (N : Int) + 1 + (d : Int) + (np : Int) + (no : Int)) (by omega) (by omega)
        clear hxo l4 hst hnp hno
        go_wp2_with (fail)
        go_quiet (fail)
        go_wp2_with (fail)
        go_loopw [3, 5] (fun s t wr => ∃ (M k : Nat), s = .int .i64 M ∧ t = .int .i64 k ∧ k ≤ np ∧ M ≤ 1000000000000000 ∧ N + np + no ≤ M ∧ ∃ q, wr = w.drewN q) (fun _ t _ => np - (intOf t).toNat)
        case atStart => exact ⟨N + 1 + d + np + no, 0, by simp, rfl, by omega, by omega, by omega, _, World.drewN_drewN _ _ _⟩
        case round =>
          obtain ⟨M, k, rfl, rfl, hk, hM, hMN, q2, rfl⟩ := hrel
          by_cases hkn : k < np
          · by_cases h4 : M ≤ 4000
            · obtain ⟨b2, o2, hpa, -, hc2⟩ := HP.out.at_ (by omega)
              rw [hpa] at g3 ⊢
              obtain ⟨k1, -⟩ := hc2 k hkn
              have hx := Hl4.out (x.ps.getD k default) (by rw [List.getD_eq_getElem?_getD, List.getElem?_eq_getElem (by have := HNP.out; omega)]; exact List.getElem_mem (by have := HNP.out; omega))
              clear hc2
              generalize (x.ps.getD k default).1 = t at k1 hx
              unfold encStr at k1
              have hq5 : Int.tdiv (t.length : Int) 20 = ((t.length / 20 : Nat) : Int) := by
                rw [Int.tdiv_eq_ediv_of_nonneg (by omega)]; omega
              have hqn5 : t.length / 20 ≤ 7036874417767 := by omega
              have hwq5 := wrap_in (x := ((t.length / 20 : Nat) : Int)) (by omega) (by omega)
              generalize t.length / 20 = d2 at hq5 hqn5 hwq5
              have hw5 := wrap_in (x := (M : Int) + (d2 : Int)) (by omega) (by omega)
              go_wp2_with (fail)
              go_roundw
              case rel => exact ⟨M + d2, k + 1, by simp, by simp, by omega, by omega, by omega, _, rfl⟩
              case measure => simp [intOf]; omega
            · have H5 := Lib.hid (HST.out M (by omega))
              go_wp2_with (fail)
              go_roundw
              case rel => exact ⟨M, i + 1, rfl, by simp, by omega, hM, H5, _, rfl⟩
              case measure => simp [intOf]; omega
          · have H5 := Lib.hid (HST.out M (by omega))
            go_wp2_with (fail)
            go_roundw
            case rel => exact ⟨M, i + 1, rfl, by simp, by omega, hM, H5, _, rfl⟩
            case measure => simp [intOf]; omega
      · go_wp2_with (fail)
        go_ret
        exact ⟨⟨true, rfl, fun h => by cases h⟩, _, rfl⟩
    · by_cases h3 : N ≤ 4000
      · by_cases h4 : 70 < n
        · go_wp2_with (fail)
          go_ret
          exact ⟨⟨true, by show Ending.returned (.bool (decide ((4000 : Int) < (N : Int)) || decide ((70 : Int) < (n : Int)))) = _; rw [decide_eq_true (p := (70 : Int) < (n : Int)) (by omega), Bool.or_true], fun h => by cases h⟩, _, rfl⟩
        · have H6 := Lib.hid (show CountI X n 4000 from (show i = n by omega) ▸ ht.out.mono h3)
          go_wp2_with (fail)
          go_ret
          exact ⟨⟨false, by show Ending.returned (.bool (decide ((4000 : Int) < (N : Int)) || decide ((70 : Int) < (n : Int)))) = _; rw [decide_eq_false (p := (70 : Int) < (n : Int)) (by omega), decide_eq_false (p := (4000 : Int) < (N : Int)) (by omega), Bool.or_false], fun _ => ⟨by omega, H6.out⟩⟩, _, rfl⟩
      · go_wp2_with (fail)
        go_ret
        first | exact ⟨⟨true, rfl, fun h => by cases h⟩, _, rfl⟩ | exact ⟨Or.inr rfl, _, rfl⟩
end Go.Proofs.YthlmnoggeggpkaaGreat
