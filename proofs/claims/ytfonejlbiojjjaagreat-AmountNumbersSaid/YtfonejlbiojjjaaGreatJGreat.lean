/- The walk of the law's great. -/
import Derived.Test.YtfonejlbiojjjaaGreatJConcat
namespace Go.Proofs.YtfonejlbiojjjaaGreat
open Go.RowKit

/-- No list, and no text in it, is longer than a machine holds. -/
def Low (V : List PV) : Prop := ∀ i, i < V.length → (V.getD i default).n ≤ 140737488355328 ∧ ∀ p ∈ (V.getD i default).P, p.1.length ≤ 140737488355328

/-- What great answers. -/
def GreatPost (V : List PV) (e : Ending) : Prop := ∃ gr, e = .returned (.bool gr) ∧ (gr = false → (flatV V).length ≤ 300)

set_option maxHeartbeats 4000000 in
theorem great_any (B : Nat) (a : Option Addr) (n c : Nat) (V : List PV) (w : World) (hl : RV B w a n c V) (hlow : Low V) :
    Calls Tryz.prog 5 #[.slice a n c] w fun e w' => GreatPost V e ∧ w = w' := by
  have hle := hl.le; have hmx := hl.mx
  have Hln := Lib.hid hl.len
  have HR := Lib.hid hl
  have HL := Lib.hid hlow
  clear hl hlow
  go_enter Tryz.func5, Tryz.ntmps5
  go_wp2_with (fail)
  go_loop [3, 4] (fun s t => ∃ (N i : Nat), s = .int .i64 N ∧ t = .int .i64 i ∧ i ≤ n ∧ N ≤ 281474976710656 ∧ Hid ((flatV (V.take i)).length ≤ N)) (fun _ t => n - (intOf t).toNat)
  case atStart => exact ⟨0, 0, rfl, rfl, by omega, by omega, Lib.hid (by simp [flatV])⟩
  case round =>
    obtain ⟨N, i, rfl, rfl, hi, hN, ht⟩ := hrel
    by_cases hin : i < n
    · by_cases h3 : N ≤ 300
      · obtain ⟨b, o, rfl, hbB, hc⟩ := HR.out.at_ (by omega)
        have g := hc i hin
        have hp := HR.out.each i hin
        have hf := flatV_take (V := V) (i := i) (by have := Hln.out; omega)
        have hlo := HL.out i (by have := Hln.out; omega)
        clear hc
        generalize V.getD i default = p at g hf hp hlo
        obtain ⟨pa, pn, pc, P⟩ := p
        simp only at g hp hlo hf
        have hpl := hp.len
        have hple := hp.le
        have hpmx := hp.mx
        obtain ⟨hlo1, hlo2⟩ := hlo
        have Hlo2 := Lib.hid hlo2
        have Hpl := Lib.hid hpl
        have HP := Lib.hid hp
        have hw1 := wrap_in (x := (N : Int) + (pn : Int)) (by omega) (by omega)
        have ht2 := Lib.hid (show (flatV (V.take (i + 1))).length ≤ N + pn by have := ht.out; rw [hf, List.length_append, ← hpl]; omega)
        clear hf hpl hp hlo2
        go_wp2_with (fail)
        go_loop [3, 5] (fun s t => ∃ (M k : Nat), s = .int .i64 M ∧ t = .int .i64 k ∧ k ≤ pn ∧ M ≤ 281474976710656 ∧ N + pn ≤ M) (fun _ t => pn - (intOf t).toNat)
        case atStart => exact ⟨N + pn, 0, by simp, rfl, by omega, by omega, by omega⟩
        case round =>
          obtain ⟨M, k, rfl, rfl, hk, hM, hMN⟩ := hrel
          by_cases hkn : k < pn
          · by_cases h4 : M ≤ 300
            · obtain ⟨b2, o2, rfl, -, hc2⟩ := HP.out.at_ (by omega)
              obtain ⟨k1, -⟩ := hc2 k hkn
              have hx := Hlo2.out (P.getD k default) (by rw [List.getD_eq_getElem?_getD, List.getElem?_eq_getElem (by have := Hpl.out; omega)]; exact List.getElem_mem (by have := Hpl.out; omega))
              clear hc2
              generalize (P.getD k default).1 = x at k1 hx
              have hq : Int.tdiv (x.length : Int) 20 = ((x.length / 20 : Nat) : Int) := by
                rw [Int.tdiv_eq_ediv_of_nonneg (by omega)]; omega
              have hqn : x.length / 20 ≤ 7036874417767 := by omega
              have hwq := wrap_in (x := ((x.length / 20 : Nat) : Int)) (by omega) (by omega)
              generalize x.length / 20 = d at hq hqn hwq
              have hw2 := wrap_in (x := (M : Int) + (d : Int)) (by omega) (by omega)
              go_wp2_with (fail)
              go_round
              case rel => exact ⟨M + d, k + 1, by simp, by simp, by omega, by omega, by omega⟩
              case measure => simp [intOf]; omega
            · have H5 := Lib.hid (show (flatV (V.take (i + 1))).length ≤ M by have := ht2.out; omega)
              go_wp2_with (fail)
              go_round
              case rel => exact ⟨M, i + 1, rfl, by simp, by omega, hM, H5⟩
              case measure => simp [intOf]; omega
          · have H5 := Lib.hid (show (flatV (V.take (i + 1))).length ≤ M by have := ht2.out; omega)
            go_wp2_with (fail)
            go_round
            case rel => exact ⟨M, i + 1, rfl, by simp, by omega, hM, H5⟩
            case measure => simp [intOf]; omega
      · go_wp2_with (fail)
        go_ret
        exact ⟨⟨true, rfl, fun h => by cases h⟩, rfl⟩
    · by_cases h3 : N ≤ 300
      · by_cases h4 : 300 < n
        · go_wp2_with (fail)
          go_ret
          exact ⟨⟨true, by show Ending.returned (.bool (decide ((300 : Int) < (N : Int)) || decide ((300 : Int) < (n : Int)))) = _; rw [decide_eq_true (p := (300 : Int) < (n : Int)) (by omega), Bool.or_true], fun h => by cases h⟩, rfl⟩
        · have H6 := Lib.hid (show (flatV V).length ≤ 300 by
            have h7 := ht.out
            rw [show i = V.length by have := Hln.out; omega, List.take_length] at h7
            omega)
          go_wp2_with (fail)
          go_ret
          exact ⟨⟨false, by show Ending.returned (.bool (decide ((300 : Int) < (N : Int)) || decide ((300 : Int) < (n : Int)))) = _; rw [decide_eq_false (p := (300 : Int) < (n : Int)) (by omega), decide_eq_false (p := (300 : Int) < (N : Int)) (by omega), Bool.or_false], fun _ => H6.out⟩, rfl⟩
      · go_wp2_with (fail)
        go_ret
        exact ⟨⟨true, rfl, fun h => by cases h⟩, rfl⟩
end Go.Proofs.YtfonejlbiojjjaaGreat
