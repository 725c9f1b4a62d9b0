/- The walk of storemanlaw07.great. -/
import Derived.Test.YthlmnoggeggpkaaKKeptIs
namespace Go.Proofs.Ythlmnoggeggpkaa
open Go.RowKit

/-- No list, and no text in it, is longer than a machine holds. -/
def LowI (X : List It) : Prop := ∀ i, i < X.length → (X.getD i default).code.length ≤ 140737488355328 ∧ (X.getD i default).ps.length ≤ 140737488355328 ∧ (X.getD i default).os.length ≤ 140737488355328 ∧ ∀ p ∈ (X.getD i default).ps, p.1.length ≤ 140737488355328
/-- The items so far are counted. -/
def CountI (X : List It) (i N : Nat) : Prop := ∀ k, k < i → (X.getD k default).ps.length ≤ N ∧ (X.getD k default).os.length ≤ N
theorem CountI.mono {X : List It} {i N M : Nat} (h : CountI X i N) (hm : N ≤ M) : CountI X i M := fun k hk => ⟨Nat.le_trans (h k hk).1 hm, Nat.le_trans (h k hk).2 hm⟩
theorem CountI.step {X : List It} {i N M : Nat} (h : CountI X i N) (hm : N + (X.getD i default).ps.length + (X.getD i default).os.length ≤ M) : CountI X (i + 1) M := fun k hk => by
  rcases Nat.lt_or_ge k i with h1 | h1
  · exact (h.mono (by omega)) k h1
  · obtain rfl : k = i := by omega
    omega

set_option maxHeartbeats 4000000 in
set_option maxRecDepth 100000 in
theorem great_any (B : Nat) (a : Option Addr) (n c : Nat) (X : List It) (w : World) (hr : RI B w a n c X) (hlow : LowI X) :
    Calls Try.prog 6 #[.slice a n c] w fun e w' => (∃ gr, e = .returned (.bool gr) ∧ (gr = false → n ≤ 70 ∧ CountI X n 4000)) ∧ ∃ q, w' = w.drewN q := by
  have hle := hr.le
  have hmx := hr.mx
  have HR := Lib.hid hr
  have Hln := Lib.hid hr.len
  have HL := Lib.hid hlow
  clear hr hlow
  go_enter Try.func6, Try.ntmps6
  go_wp2_with (fail)
  go_loopw [3, 4] (fun s t wr => ∃ (N i : Nat), s = .int .i64 N ∧ t = .int .i64 i ∧ i ≤ n ∧ N ≤ 1000000000000000 ∧ Hid (CountI X i N) ∧ ∃ q, wr = w.drewN q) (fun _ t _ => n - (intOf t).toNat)
  case atStart => exact ⟨0, 0, rfl, rfl, by omega, by omega, Lib.hid (fun k hk => absurd hk (Nat.not_lt_zero _)), 0, rfl⟩
  case round =>
    obtain ⟨N, i, rfl, rfl, hi, hN, ht, q, rfl⟩ := hrel
    by_cases hin : i < n
    · by_cases h3 : N ≤ 4000
      · obtain ⟨b, o, rfl, hbB, hc⟩ := HR.out.at_ (by omega)
        obtain ⟨g1, g2, g3, g4⟩ := hc i hin
        obtain ⟨l1, l2, l3, l4⟩ := HL.out i (by have := Hln.out; omega)
        have hst := fun M => ht.out.step (M := M)
        have hxm : X.getD i default ∈ X := by
          rw [List.getD_eq_getElem?_getD, List.getElem?_eq_getElem (by rw [← Hln.out]; exact hin)]; exact List.getElem_mem _
        have hxo := (HR.out.ok _ hxm).rp
        clear hc hxm
        generalize X.getD i default = x at g1 g2 g3 g4 l1 l2 l3 l4 hst hxo
        have HP := Lib.hid hxo
        have Hl4 := Lib.hid l4
        have HST := Lib.hid hst
        have hpmx := hxo.mx
        have hple := hxo.le
        unfold encStr at g1
        obtain ⟨np, hnp⟩ : ∃ k, k = x.ps.length := ⟨_, rfl⟩
        obtain ⟨no, hno⟩ : ∃ k, k = x.os.length := ⟨_, rfl⟩
        have HNP := Lib.hid hnp
        rw [← hnp] at g3 l2 HST hple HP
        rw [← hno] at g4 l3 HST
        have hq : Int.tdiv (x.code.length : Int) 20 = ((x.code.length / 20 : Nat) : Int) := by
          rw [Int.tdiv_eq_ediv_of_nonneg (by omega)]; omega
        have hqn : x.code.length / 20 ≤ 7036874417767 := by omega
        have hwq := wrap_in (x := ((x.code.length / 20 : Nat) : Int)) (by omega) (by omega)
        generalize x.code.length / 20 = d at hq hqn hwq
        have hw1 := wrap_in (x := (N : Int) + 1) (by omega) (by omega)
        have hw2 := wrap_in (x := (N : Int) + 1 + (d : Int)) (by omega) (by omega)
        have hw3 := wrap_in (x := (N : Int) + 1 + (d : Int) + (np : Int)) (by omega) (by omega)
        have hw4 := wrap_in (x := (N : Int) + 1 + (d : Int) + (np : Int) + (no : Int)) (by omega) (by omega)
        clear hxo l4 hst hnp hno
        go_wp2_with (fail)
        go_quiet (fail)
        go_wp2_with (fail)
        go_loopw [3, 5] (fun s t wr => ∃ (M k : Nat), s = .int .i64 M ∧ t = .int .i64 k ∧ k ≤ np ∧ M ≤ 1000000000000000 ∧ N + np + no ≤ M ∧ ∃ q, wr = w.drewN q) (fun _ t _ => np - (intOf t).toNat)
        case atStart => exact ⟨N + 1 + d + np + no, 0, by simp, rfl, by omega, by omega, by omega, _, World.drewN_drewN _ _ _⟩
        case round =>
          obtain ⟨M, k, rfl, rfl, hk, hM, hMN, q2, rfl⟩ := hrel
          by_cases hkn : k < np
          · by_cases h4 : M ≤ 4000
            · obtain ⟨b2, o2, hpa, -, hc2⟩ := HP.out.at_ (by omega)
              rw [hpa] at g3 ⊢
              obtain ⟨k1, -⟩ := hc2 k hkn
              have hx := Hl4.out (x.ps.getD k default) (by rw [List.getD_eq_getElem?_getD, List.getElem?_eq_getElem (by have := HNP.out; omega)]; exact List.getElem_mem (by have := HNP.out; omega))
              clear hc2
              generalize (x.ps.getD k default).1 = t at k1 hx
              unfold encStr at k1
              have hq5 : Int.tdiv (t.length : Int) 20 = ((t.length / 20 : Nat) : Int) := by
                rw [Int.tdiv_eq_ediv_of_nonneg (by omega)]; omega
              have hqn5 : t.length / 20 ≤ 7036874417767 := by omega
              have hwq5 := wrap_in (x := ((t.length / 20 : Nat) : Int)) (by omega) (by omega)
              generalize t.length / 20 = d2 at hq5 hqn5 hwq5
              have hw5 := wrap_in (x := (M : Int) + (d2 : Int)) (by omega) (by omega)
              go_wp2_with (fail)
              go_roundw
              case rel => exact ⟨M + d2, k + 1, by simp, by simp, by omega, by omega, by omega, _, rfl⟩
              case measure => simp [intOf]; omega
            · have H5 := Lib.hid (HST.out M (by omega))
              go_wp2_with (fail)
              go_roundw
              case rel => exact ⟨M, i + 1, rfl, by simp, by omega, hM, H5, _, rfl⟩
              case measure => simp [intOf]; omega
          · have H5 := Lib.hid (HST.out M (by omega))
            go_wp2_with (fail)
            go_roundw
            case rel => exact ⟨M, i + 1, rfl, by simp, by omega, hM, H5, _, rfl⟩
            case measure => simp [intOf]; omega
      · go_wp2_with (fail)
        go_ret
        exact ⟨⟨true, rfl, fun h => by cases h⟩, _, rfl⟩
    · by_cases h3 : N ≤ 4000
      · by_cases h4 : 70 < n
        · go_wp2_with (fail)
          go_ret
          exact ⟨⟨true, by show Ending.returned (.bool (decide ((4000 : Int) < (N : Int)) || decide ((70 : Int) < (n : Int)))) = _; rw [decide_eq_true (p := (70 : Int) < (n : Int)) (by omega), Bool.or_true], fun h => by cases h⟩, _, rfl⟩
        · have H6 := Lib.hid (show CountI X n 4000 from (show i = n by omega) ▸ ht.out.mono h3)
          go_wp2_with (fail)
          go_ret
          exact ⟨⟨false, by show Ending.returned (.bool (decide ((4000 : Int) < (N : Int)) || decide ((70 : Int) < (n : Int)))) = _; rw [decide_eq_false (p := (70 : Int) < (n : Int)) (by omega), decide_eq_false (p := (4000 : Int) < (N : Int)) (by omega), Bool.or_false], fun _ => ⟨by omega, H6.out⟩⟩, _, rfl⟩
      · go_wp2_with (fail)
        go_ret
        first | exact ⟨⟨true, rfl, fun h => by cases h⟩, _, rfl⟩ | exact ⟨Or.inr rfl, _, rfl⟩
end Go.Proofs.Ythlmnoggeggpkaa
