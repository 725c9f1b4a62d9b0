/- The document's Find; what an item may be. -/
import Derived.Test.YthlmnoggeggpkaaKItem
import Derived.Deep.DeepCutAuto
namespace Go.Proofs.Ythlmnoggeggpkaa
open Go.RowKit

/-- The place of a code. -/
def fI (X : List It) (c : List UInt8) : Int := if X.findIdx (fun x => decide (x.code = c)) < X.length then (X.findIdx (fun x => decide (x.code = c)) : Int) else -1

theorem idx_is {X : List It} {c : List UInt8} {i : Nat} (hi : i < X.length) (hc : (X.getD i default).code = c) (hn : ∀ j, j < i → (X.getD j default).code ≠ c) : X.findIdx (fun x => decide (x.code = c)) = i := by
  have e : ∀ j, j < X.length → ∀ h, (X[j]'h) = X.getD j default := fun j hj h => by rw [List.getD_eq_getElem?_getD, List.getElem?_eq_getElem hj]; rfl
  rw [List.findIdx_eq hi]
  refine ⟨?_, fun j hj => ?_⟩
  · rw [e i hi]; exact decide_eq_true hc
  · rw [e j (by omega)]; exact decide_eq_false (hn j hj)
theorem fI_is {X : List It} {c : List UInt8} {i : Nat} (hi : i < X.length) (hc : (X.getD i default).code = c) (hn : ∀ j, j < i → (X.getD j default).code ≠ c) : fI X c = (i : Int) := by
  unfold fI
  rw [idx_is hi hc hn, if_pos hi]
theorem idx_none {X : List It} {c : List UInt8} (hn : ∀ j, j < X.length → (X.getD j default).code ≠ c) : X.findIdx (fun x => decide (x.code = c)) = X.length := by
  rw [List.findIdx_eq_length]
  intro x hx
  obtain ⟨j, hj, rfl⟩ := List.getElem_of_mem hx
  have := hn j hj
  rw [List.getD_eq_getElem?_getD, List.getElem?_eq_getElem hj] at this
  exact decide_eq_false this
theorem fI_none {X : List It} {c : List UInt8} (hn : ∀ j, j < X.length → (X.getD j default).code ≠ c) : fI X c = -1 := by
  unfold fI
  rw [idx_none hn, if_neg (Nat.lt_irrefl _)]
/-- A code that is there. -/
theorem fI_there {X : List It} {c : List UInt8} (h : ∃ j, j < X.length ∧ (X.getD j default).code = c) : ∃ i, i < X.length ∧ fI X c = (i : Int) ∧ (X.getD i default).code = c := by
  obtain ⟨j, hj, hc⟩ := h
  have hlt : X.findIdx (fun x => decide (x.code = c)) < X.length := by
    rw [List.findIdx_lt_length]
    exact ⟨_, getD_mem hj, decide_eq_true hc⟩
  refine ⟨_, hlt, by unfold fI; rw [if_pos hlt], ?_⟩
  have := List.findIdx_getElem (w := hlt)
  rw [List.getD_eq_getElem?_getD, List.getElem?_eq_getElem hlt]
  exact of_decide_eq_true this
theorem fI_neg {X : List It} {c : List UInt8} (h : fI X c < 0) : ∀ j, j < X.length → (X.getD j default).code ≠ c := fun j hj hc => by
  obtain ⟨i, -, e, -⟩ := fI_there ⟨j, hj, hc⟩
  omega

set_option maxRecDepth 100000 in
theorem Find_any (B : Nat) (a : Option Addr) (n cp : Nat) (X : List It) (c : List UInt8) (w : World) (hr : RI B w a n cp X) (hB : B ≤ w.heap.size) (hc : c.length ≤ 9223372036854775807) : Calls Try.prog 29 #[.slice a n cp, .string ⟨c.toArray⟩] w fun e w' => e = .returned (.int .i64 (fI X c)) ∧ w = w' := by
  have hm := hr.mx
  have hle := hr.le
  have HR := Lib.hid hr
  clear hr
  go_enter Try.func29, Try.ntmps29
  go_wp2_with (fail)
  go_loopw [5] (fun s3 wr => ∃ i : Nat, s3 = .int .i64 i ∧ i ≤ n ∧ wr = w ∧ Hid (∀ j, j < i → (X.getD j default).code ≠ c)) (fun s3 _ => n - (intOf s3).toNat)
  case atStart => exact ⟨0, rfl, by omega, rfl, Lib.hid (fun j hj => absurd hj (Nat.not_lt_zero _))⟩
  case round =>
    obtain ⟨i, rfl, hi, rfl, hok⟩ := hrel
    by_cases hin : i < n
    · have t1 : decide ((i : Int) < (n : Int)) = true := by simp; omega
      have i0 : (0 : Int) ≤ (i : Int) := by omega
      have i1 : (i : Int) < (n : Int) := by omega
      have f1 : IntKind.i64.wrap ((i : Int) + 1) = ((i + 1 : Nat) : Int) := by rw [wrap_in (by omega) (by omega)]; omega
      obtain ⟨b, o, rfl, hbB, hok1, c0, c1, c2, c3⟩ := HR.out.item hin
      unfold encStr at c0
      obtain ⟨x, hx⟩ : ∃ x, x = X.getD i default := ⟨_, rfl⟩
      rw [← hx] at c0 c1 c2 c3
      have HX := Lib.hid hx
      clear hx
      by_cases hcc : x.code = c
      · have e1 : (x.code == c) = true := by simpa using hcc
        have ho := Lib.hid (fI_is (X := X) (c := c) (i := i) (by rw [← HR.out.len]; exact hin) (by rw [← HX.out]; exact hcc) hok.out)
        clear hcc
        go_wp2_with (fail)
        go_ret
        exact ⟨by rw [ho.out]; rfl, rfl⟩
      · have e1 : (x.code == c) = false := by simpa using hcc
        have hno := Lib.hid (show (X.getD i default).code ≠ c by rw [← HX.out]; exact hcc)
        clear hcc
        go_wp2_with (fail)
        go_roundw
        case rel => exact ⟨i + 1, rfl, by omega, trivial, Lib.hid (fun j hj => if e : j < i then hok.out j e else by rw [show j = i by omega]; exact hno.out)⟩
        case measure => simp only [intOf]; omega
    · have t1 : decide ((i : Int) < (n : Int)) = false := by simp; omega
      have ho := Lib.hid (fI_none (X := X) (c := c) (fun j hj => hok.out j (by have := HR.out.len; omega)))
      go_wp2_with (fail)
      go_ret
      exact ⟨by rw [ho.out]; rfl, rfl⟩
end Go.Proofs.Ythlmnoggeggpkaa
