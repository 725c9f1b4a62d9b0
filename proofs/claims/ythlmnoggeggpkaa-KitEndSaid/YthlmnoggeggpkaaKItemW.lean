/- The walks of storemanlaw07.item and among. -/
import Derived.Test.YthlmnoggeggpkaaKCheckTop
import Derived.Test.YthlmnoggeggpkaaKSameI
namespace Go.Proofs.Ythlmnoggeggpkaa
open Go.RowKit

set_option maxRecDepth 100000 in
theorem item_any (B : Nat) (a : Option Addr) (n cp : Nat) (X : List It) (c : List UInt8) (x : It) (w : World) (hr : RI B w a n cp X) (hB : B ≤ w.heap.size) (hd : (codes X).Nodup) (hx : itF X c = some x) :
    Calls Try.prog 15 #[.slice a n cp, .string ⟨c.toArray⟩] w fun e w' => e = .returned x.val ∧ Below w.heap.size w w' := by
  have hm := hr.mx
  have hle := hr.le
  have HR := Lib.hid hr
  have HX := Lib.hid hx
  have HD := Lib.hid hd
  clear hr hx hd
  go_enter Try.func15, Try.ntmps15
  go_wp2_with (fail)
  obtain ⟨W1, hW1⟩ : ∃ W, W = w.alloc (.cells #[.string ⟨#[]⟩, .int .i64 0, .slice none 0 0, .slice none 0 0] 32) := ⟨_, rfl⟩
  rw [← hW1]
  have hz1 : W1.heap[w.heap.size]? = some (.cells #[.string ⟨#[]⟩, .int .i64 0, .slice none 0 0, .slice none 0 0] 32) := by rw [hW1]; exact heap_alloc_new _ _
  have hb1 : Below w.heap.size w W1 := by rw [hW1]; exact (Below.refl _ w).alloc (Nat.le_refl _) _
  have l0 : W1.cell? ⟨w.heap.size, 0, none⟩ = some (.string ⟨#[]⟩) := by unfold World.cell?; rw [hz1]; rfl
  have m0 : W1.frozen? ⟨w.heap.size, 0, none⟩ = false := by unfold World.frozen?; rw [hz1]; simp
  have l1 : W1.cell? ⟨w.heap.size, 1, none⟩ = some (.int .i64 0) := by unfold World.cell?; rw [hz1]; rfl
  have m1 : W1.frozen? ⟨w.heap.size, 1, none⟩ = false := by unfold World.frozen?; rw [hz1]; simp
  have l2 : W1.cell? ⟨w.heap.size, 2, none⟩ = some (.slice none 0 0) := by unfold World.cell?; rw [hz1]; rfl
  have m2 : W1.frozen? ⟨w.heap.size, 2, none⟩ = false := by unfold World.frozen?; rw [hz1]; simp
  have l3 : W1.cell? ⟨w.heap.size, 3, none⟩ = some (.slice none 0 0) := by unfold World.cell?; rw [hz1]; rfl
  have m3 : W1.frozen? ⟨w.heap.size, 3, none⟩ = false := by unfold World.frozen?; rw [hz1]; simp
  have HZ1 := Lib.hid hz1
  have HB1 := Lib.hid hb1
  have HR1 := Lib.hid (HR.out.below (hb1.mono hB))
  clear hz1 hb1 hW1
  go_loopw [5] (fun s3 wr => ∃ i : Nat, s3 = .int .i64 i ∧ i ≤ n ∧ wr = W1 ∧ Hid (∀ j, j < i → (X.getD j default).code ≠ c)) (fun s3 _ => n - (intOf s3).toNat)
  case atStart => exact ⟨0, rfl, by omega, rfl, Lib.hid (fun j hj => absurd hj (Nat.not_lt_zero _))⟩
  case round =>
    obtain ⟨i, rfl, hi, rfl, hok⟩ := hrel
    by_cases hin : i < n
    · have t1 : decide ((i : Int) < (n : Int)) = true := by simp; omega
      have i0 : (0 : Int) ≤ (i : Int) := by omega
      have i1 : (i : Int) < (n : Int) := by omega
      have f1 : IntKind.i64.wrap ((i : Int) + 1) = ((i + 1 : Nat) : Int) := by rw [wrap_in (by omega) (by omega)]; omega
      obtain ⟨b, o, rfl, hbB, hok1, c0, c1, c2, c3⟩ := HR1.out.item hin
      unfold encStr at c0
      obtain ⟨y, hy⟩ : ∃ x, x = X.getD i default := ⟨_, rfl⟩
      rw [← hy] at c0 c1 c2 c3
      have HY := Lib.hid hy
      clear hy
      by_cases hcc : y.code = c
      · have e1 : (y.code == c) = true := by simpa using hcc
        have ho : Hid (y = x) := Lib.hid (by
          have h1 := itF_cd HD.out (show i < X.length by rw [← HR.out.len]; exact hin)
          unfold cd at h1
          rw [← HY.out, hcc, HX.out] at h1
          exact (Option.some.inj h1).symm)
        have HC := Lib.hid hcc
        clear hcc
        go_wp2_with (fail)
        obtain ⟨ycode, ylife, ypa, ypc, yps, yoa, yoc, yos⟩ := y
        simp only at HC c0 c1 c2 c3 ⊢
        obtain ⟨np, hnp⟩ : ∃ k, k = yps.length := ⟨_, rfl⟩
        obtain ⟨no, hno⟩ : ∃ k, k = yos.length := ⟨_, rfl⟩
        have HNP := Lib.hid hnp
        have HNO := Lib.hid hno
        rw [← hnp, ← hno]
        rw [← hnp] at c2
        rw [← hno] at c3
        clear hnp hno
        have hblk := sc_at 3 (.slice yoa no yoc) (sc_at 2 (.slice ypa np ypc) (sc_at 1 (.int .i64 ylife) (sc_at 0 (.string ⟨ycode.toArray⟩) HZ1.out)))
        have hbel := (((HB1.out.setCell (p := ⟨w.heap.size, 0, none⟩) (Nat.le_refl _) (.string ⟨ycode.toArray⟩)).setCell (p := ⟨w.heap.size, 1, none⟩) (Nat.le_refl _) (.int .i64 ylife)).setCell (p := ⟨w.heap.size, 2, none⟩) (Nat.le_refl _) (.slice ypa np ypc)).setCell (p := ⟨w.heap.size, 3, none⟩) (Nat.le_refl _) (.slice yoa no yoc)
        obtain ⟨W6, hW6⟩ : ∃ W, W = ((((wr.setCell ⟨w.heap.size, 0, none⟩ (.string ⟨ycode.toArray⟩)).setCell ⟨w.heap.size, 1, none⟩ (.int .i64 ylife)).setCell ⟨w.heap.size, 2, none⟩ (.slice ypa np ypc)).setCell ⟨w.heap.size, 3, none⟩ (.slice yoa no yoc)) := ⟨_, rfl⟩
        rw [← hW6] at hblk hbel ⊢
        have r0 : W6.cell? ⟨w.heap.size, 0, none⟩ = some (.string ⟨ycode.toArray⟩) := by unfold World.cell?; rw [hblk]; rfl
        have r1 : W6.cell? ⟨w.heap.size, 1, none⟩ = some (.int .i64 ylife) := by unfold World.cell?; rw [hblk]; rfl
        have r2 : W6.cell? ⟨w.heap.size, 2, none⟩ = some (.slice ypa np ypc) := by unfold World.cell?; rw [hblk]; rfl
        have r3 : W6.cell? ⟨w.heap.size, 3, none⟩ = some (.slice yoa no yoc) := by unfold World.cell?; rw [hblk]; rfl
        clear hW6 hblk
        refine bodyPost_ret (by simp [results, Try.results15, go_sem, r0, r1, r2, r3]; try rfl) rfl ?_
        refine ⟨?_, hbel⟩
        rw [← ho.out, HNP.out, HNO.out]
        rfl
      · have e1 : (y.code == c) = false := by simpa using hcc
        have hno := Lib.hid (show (X.getD i default).code ≠ c by rw [← HY.out]; exact hcc)
        clear hcc
        go_wp2_with (fail)
        go_roundw
        case rel => exact ⟨i + 1, rfl, by omega, trivial, Lib.hid (fun j hj => if e : j < i then hok.out j e else by rw [show j = i by omega]; exact hno.out)⟩
        case measure => simp only [intOf]; omega
    · exfalso
      have h1 := List.find?_some HX.out
      rw [decide_eq_true_eq] at h1
      obtain ⟨j, hj, e⟩ := List.getElem_of_mem (List.mem_of_find?_eq_some HX.out)
      refine hok.out j (by have := HR.out.len; omega) ?_
      rw [List.getD_eq_getElem?_getD, List.getElem?_eq_getElem hj]
      simp only [Option.getD_some, e]
      exact h1
set_option maxRecDepth 100000 in
theorem among_any (B : Nat) (a : Option Addr) (n cp : Nat) (T : List (List UInt8)) (s : List UInt8) (w : World) (hr : RT B w a n cp T) (hs : s ∈ T) :
    Calls Try.prog 17 #[.string ⟨s.toArray⟩, .slice a n cp] w fun e w' => e = .returned (.bool true) ∧ w = w' := by
  have hm := hr.mx
  have hle := hr.le
  have HR := Lib.hid hr
  have HS := Lib.hid hs
  clear hr hs
  go_enter Try.func17, Try.ntmps17
  go_wp2_with (fail)
  go_loopw [5] (fun s3 wr => ∃ i : Nat, s3 = .int .i64 i ∧ i ≤ n ∧ wr = w ∧ Hid (∀ j, j < i → T.getD j [] ≠ s)) (fun s3 _ => n - (intOf s3).toNat)
  case atStart => exact ⟨0, rfl, by omega, rfl, Lib.hid (fun j hj => absurd hj (Nat.not_lt_zero _))⟩
  case round =>
    obtain ⟨i, rfl, hi, rfl, hok⟩ := hrel
    by_cases hin : i < n
    · have t1 : decide ((i : Int) < (n : Int)) = true := by simp; omega
      have i0 : (0 : Int) ≤ (i : Int) := by omega
      have i1 : (i : Int) < (n : Int) := by omega
      have f1 : IntKind.i64.wrap ((i : Int) + 1) = ((i + 1 : Nat) : Int) := by rw [wrap_in (by omega) (by omega)]; omega
      obtain ⟨b, o, rfl, hbB, hc⟩ := HR.out.at_ (by omega)
      have c0 := hc i hin
      unfold encStr at c0
      obtain ⟨y, hy⟩ : ∃ x, x = T.getD i [] := ⟨_, rfl⟩
      rw [← hy] at c0
      have HY := Lib.hid hy
      clear hy hc
      by_cases hcc : y = s
      · have e1 : (y == s) = true := by simpa using hcc
        clear hcc
        go_wp2_with (fail)
        go_ret
        exact ⟨rfl, rfl⟩
      · have e1 : (y == s) = false := by simpa using hcc
        have hno := Lib.hid (show T.getD i [] ≠ s by rw [← HY.out]; exact hcc)
        clear hcc
        go_wp2_with (fail)
        go_roundw
        case rel => exact ⟨i + 1, rfl, by omega, trivial, Lib.hid (fun j hj => if e : j < i then hok.out j e else by rw [show j = i by omega]; exact hno.out)⟩
        case measure => simp only [intOf]; omega
    · exfalso
      obtain ⟨j, hj, e⟩ := List.getElem_of_mem HS.out
      refine hok.out j (by have := HR.out.len; omega) ?_
      rw [List.getD_eq_getElem?_getD, List.getElem?_eq_getElem hj]
      exact e
end Go.Proofs.Ythlmnoggeggpkaa
