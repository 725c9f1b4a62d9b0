/- The walk of storemankit.SameTexts. Marked texts. -/
import Derived.Test.YthlmnoggeggpkaaGreatKItem
import Derived.Test.YthlmnoggeggpkaaGreatJParts
import Derived.Laws.IdiomStrings
namespace Go.Proofs.YthlmnoggeggpkaaGreat
open Go.RowKit

theorem takeT_succ {P Q : List (List UInt8)} {k : Nat} (hk : k < P.length) (hk2 : k < Q.length) (h : P.take k = Q.take k) (he : P.getD k [] = Q.getD k []) : P.take (k+1) = Q.take (k+1) := by
  rw [List.take_succ_eq_append_getElem hk, List.take_succ_eq_append_getElem hk2, h]
  simp only [List.getD, List.getElem?_eq_getElem hk, List.getElem?_eq_getElem hk2, Option.getD_some] at he
  rw [he]

set_option maxHeartbeats 4000000 in
theorem SameTexts_any (B : Nat) (a b : Option Addr) (n m c d : Nat) (P Q : List (List UInt8)) (w : World) (hp : RT B w a n c P) (hq : RT B w b m d Q) :
    Calls Tryz.prog 15 #[.slice a n c, .slice b m d] w fun e w' => e = .returned (.bool (decide (P = Q))) ∧ ∃ q, w' = w.drewN q := by
  have hle := hp.le; have hmx := hp.mx; have hle2 := hq.le; have hmx2 := hq.mx
  have Hln := Lib.hid hp.len
  have Hln2 := Lib.hid hq.len
  by_cases hnm : n = m
  · subst hnm
    go_enter Tryz.func15, Tryz.ntmps15
    go_wp2_with (fail)
    go_loopw [5] (fun i wr => ∃ j : Nat, j ≤ n ∧ i = .int .i64 j ∧ Hid (P.take j = Q.take j) ∧ ∃ q, wr = w.drewN q) (fun i _ => n - (intOf i).toNat)
    case atStart => exact ⟨0, Nat.zero_le _, rfl, Lib.hid rfl, 0, rfl⟩
    case round =>
      obtain ⟨j, hj, rfl, ht, q, rfl⟩ := hrel
      by_cases hlt : j < n
      · obtain ⟨b1, o1, rfl, -, hc1⟩ := hp.at_ (by omega)
        obtain ⟨b2, o2, rfl, -, hc2⟩ := hq.at_ (by omega)
        have g1 := hc1 j hlt
        have k1 := hc2 j hlt
        clear hc1 hc2
        have Hsucc := Lib.hid (fun he => takeT_succ (by rw [← Hln.out]; exact hlt) (by rw [← Hln2.out]; exact hlt) ht.out he)
        have Hno := Lib.hid (show P.getD j [] ≠ Q.getD j [] → decide (P = Q) = false from fun hne => decide_eq_false fun e => hne (by rw [e]))
        generalize P.getD j [] = x at g1 Hsucc Hno
        generalize Q.getD j [] = y at k1 Hsucc Hno
        unfold encStr at g1 k1
        by_cases he : x = y
        · have Hs := Lib.hid (Hsucc.out he)
          subst he
          clear Hno
          go_wp2_with (fail)
          go_quiet (fail)
          go_wp2_with (fail)
          go_roundw
          case rel => exact ⟨j + 1, by omega, by go_num, Hs, _, rfl⟩
          case measure => simp [intOf]; omega
        · have Hn := Lib.hid (Hno.out he)
          have hf : (x == y) = false := by simpa using he
          have hf2 : (x != y) = true := by simpa using he
          clear Hsucc
          go_wp2_with (fail)
          go_quiet (fail)
          go_wp2_with (fail)
          go_ret
          rw [Hn.out]
          exact ⟨rfl, _, World.drewN_drewN _ _ _⟩
      · have hge : n ≤ j := by omega
        go_wp2_with (fail)
        go_ret
        have : P = Q := by
          have := ht.out
          rwa [List.take_of_length_le (by rw [← Hln.out]; exact hge), List.take_of_length_le (by rw [← Hln2.out]; exact hge)] at this
        rw [decide_eq_true this]
        exact ⟨rfl, _, rfl⟩
  · have hne : decide (P = Q) = false := decide_eq_false fun e => hnm (by rw [Hln.out, Hln2.out, e])
    rw [hne]
    go_enter Tryz.func15, Tryz.ntmps15
    go_wp2_with (fail)
    go_ret
    exact ⟨rfl, 0, rfl⟩
end Go.Proofs.YthlmnoggeggpkaaGreat
namespace Go.Proofs.YthlmnoggeggpkaaGreat
open Go.RowKit

theorem conv8 (w : World) (a b c d e f g h : UInt8) : (convert 48 9 (.slice (some ⟨w.heap.size, 0, none⟩) 8 8)).run Tryz.prog (w.alloc (.cells #[.int .u8 a.toNat, .int .u8 b.toNat, .int .u8 c.toNat, .int .u8 d.toNat, .int .u8 e.toNat, .int .u8 f.toNat, .int .u8 g.toNat, .int .u8 h.toNat] 5)) = .ok (.string ⟨#[a, b, c, d, e, f, g, h]⟩) (w.alloc (.cells #[.int .u8 a.toNat, .int .u8 b.toNat, .int .u8 c.toNat, .int .u8 d.toNat, .int .u8 e.toNat, .int .u8 f.toNat, .int .u8 g.toNat, .int .u8 h.toNat] 5)) := by
  refine run_convert_bytes_back (P := Tryz.prog) _ _ _ 5 ⟨w.heap.size, 0, none⟩ 8 [a, b, c, d, e, f, g, h] Tryz.underlying48 Tryz.underlying5 Tryz.underlying9 fun j hj => ?_
  have e1 : (⟨w.heap.size, 0, none⟩ : Addr).add j = ⟨w.heap.size, j, none⟩ := by unfold Addr.add; split <;> simp_all
  rw [e1, World.cell?_alloc_new]
  have hj8 : j < 8 := hj
  obtain rfl | rfl | rfl | rfl | rfl | rfl | rfl | rfl : j = 0 ∨ j = 1 ∨ j = 2 ∨ j = 3 ∨ j = 4 ∨ j = 5 ∨ j = 6 ∨ j = 7 := by omega
  all_goals rfl
/-- The marked text. -/
def mkTx (i : Nat) : List UInt8 := [35, 1, 0, 0, 47, UInt8.ofNat i, 0, 0]
set_option maxHeartbeats 4000000 in
set_option maxRecDepth 100000 in
theorem markText_any (i : Nat) (w : World) (hi : i < 12) :
    Calls Tryz.prog 94 #[.int .i64 1, .int .i64 i] w fun e w' => e = .returned (encStr (mkTx i)) ∧ Below w.heap.size w w' := by
  have HB := Lib.hid (fun c : Array Value => (Below.refl w.heap.size w).alloc (Nat.le_refl _) (.cells c 5))
  obtain rfl | rfl | rfl | rfl | rfl | rfl | rfl | rfl | rfl | rfl | rfl | rfl : i = 0 ∨ i = 1 ∨ i = 2 ∨ i = 3 ∨ i = 4 ∨ i = 5 ∨ i = 6 ∨ i = 7 ∨ i = 8 ∨ i = 9 ∨ i = 10 ∨ i = 11 := by omega
  · have hcv : (convert 48 9 (.slice (some ⟨w.heap.size, 0, none⟩) 8 8)).run Tryz.prog (w.alloc (.cells #[.int .u8 35, .int .u8 1, .int .u8 0, .int .u8 0, .int .u8 47, .int .u8 0, .int .u8 0, .int .u8 0] 5)) = .ok (.string ⟨#[35, 1, 0, 0, 47, 0, 0, 0]⟩) (w.alloc (.cells #[.int .u8 35, .int .u8 1, .int .u8 0, .int .u8 0, .int .u8 47, .int .u8 0, .int .u8 0, .int .u8 0] 5)) := conv8 w 35 1 0 0 47 0 0 0
    go_enter Tryz.func94, Tryz.ntmps94
    go_wp2_with (fail)
    go_ret
    exact ⟨rfl, HB.out _⟩
  · have hcv : (convert 48 9 (.slice (some ⟨w.heap.size, 0, none⟩) 8 8)).run Tryz.prog (w.alloc (.cells #[.int .u8 35, .int .u8 1, .int .u8 0, .int .u8 0, .int .u8 47, .int .u8 1, .int .u8 0, .int .u8 0] 5)) = .ok (.string ⟨#[35, 1, 0, 0, 47, 1, 0, 0]⟩) (w.alloc (.cells #[.int .u8 35, .int .u8 1, .int .u8 0, .int .u8 0, .int .u8 47, .int .u8 1, .int .u8 0, .int .u8 0] 5)) := conv8 w 35 1 0 0 47 1 0 0
    go_enter Tryz.func94, Tryz.ntmps94
    go_wp2_with (fail)
    go_ret
    exact ⟨rfl, HB.out _⟩
  · have hcv : (convert 48 9 (.slice (some ⟨w.heap.size, 0, none⟩) 8 8)).run Tryz.prog (w.alloc (.cells #[.int .u8 35, .int .u8 1, .int .u8 0, .int .u8 0, .int .u8 47, .int .u8 2, .int .u8 0, .int .u8 0] 5)) = .ok (.string ⟨#[35, 1, 0, 0, 47, 2, 0, 0]⟩) (w.alloc (.cells #[.int .u8 35, .int .u8 1, .int .u8 0, .int .u8 0, .int .u8 47, .int .u8 2, .int .u8 0, .int .u8 0] 5)) := conv8 w 35 1 0 0 47 2 0 0
    go_enter Tryz.func94, Tryz.ntmps94
    go_wp2_with (fail)
    go_ret
    exact ⟨rfl, HB.out _⟩
  · have hcv : (convert 48 9 (.slice (some ⟨w.heap.size, 0, none⟩) 8 8)).run Tryz.prog (w.alloc (.cells #[.int .u8 35, .int .u8 1, .int .u8 0, .int .u8 0, .int .u8 47, .int .u8 3, .int .u8 0, .int .u8 0] 5)) = .ok (.string ⟨#[35, 1, 0, 0, 47, 3, 0, 0]⟩) (w.alloc (.cells #[.int .u8 35, .int .u8 1, .int .u8 0, .int .u8 0, .int .u8 47, .int .u8 3, .int .u8 0, .int .u8 0] 5)) := conv8 w 35 1 0 0 47 3 0 0
    go_enter Tryz.func94, Tryz.ntmps94
    go_wp2_with (fail)
    go_ret
    exact ⟨rfl, HB.out _⟩
  · have hcv : (convert 48 9 (.slice (some ⟨w.heap.size, 0, none⟩) 8 8)).run Tryz.prog (w.alloc (.cells #[.int .u8 35, .int .u8 1, .int .u8 0, .int .u8 0, .int .u8 47, .int .u8 4, .int .u8 0, .int .u8 0] 5)) = .ok (.string ⟨#[35, 1, 0, 0, 47, 4, 0, 0]⟩) (w.alloc (.cells #[.int .u8 35, .int .u8 1, .int .u8 0, .int .u8 0, .int .u8 47, .int .u8 4, .int .u8 0, .int .u8 0] 5)) := conv8 w 35 1 0 0 47 4 0 0
    go_enter Tryz.func94, Tryz.ntmps94
    go_wp2_with (fail)
    go_ret
    exact ⟨rfl, HB.out _⟩
  · have hcv : (convert 48 9 (.slice (some ⟨w.heap.size, 0, none⟩) 8 8)).run Tryz.prog (w.alloc (.cells #[.int .u8 35, .int .u8 1, .int .u8 0, .int .u8 0, .int .u8 47, .int .u8 5, .int .u8 0, .int .u8 0] 5)) = .ok (.string ⟨#[35, 1, 0, 0, 47, 5, 0, 0]⟩) (w.alloc (.cells #[.int .u8 35, .int .u8 1, .int .u8 0, .int .u8 0, .int .u8 47, .int .u8 5, .int .u8 0, .int .u8 0] 5)) := conv8 w 35 1 0 0 47 5 0 0
    go_enter Tryz.func94, Tryz.ntmps94
    go_wp2_with (fail)
    go_ret
    exact ⟨rfl, HB.out _⟩
  · have hcv : (convert 48 9 (.slice (some ⟨w.heap.size, 0, none⟩) 8 8)).run Tryz.prog (w.alloc (.cells #[.int .u8 35, .int .u8 1, .int .u8 0, .int .u8 0, .int .u8 47, .int .u8 6, .int .u8 0, .int .u8 0] 5)) = .ok (.string ⟨#[35, 1, 0, 0, 47, 6, 0, 0]⟩) (w.alloc (.cells #[.int .u8 35, .int .u8 1, .int .u8 0, .int .u8 0, .int .u8 47, .int .u8 6, .int .u8 0, .int .u8 0] 5)) := conv8 w 35 1 0 0 47 6 0 0
    go_enter Tryz.func94, Tryz.ntmps94
    go_wp2_with (fail)
    go_ret
    exact ⟨rfl, HB.out _⟩
  · have hcv : (convert 48 9 (.slice (some ⟨w.heap.size, 0, none⟩) 8 8)).run Tryz.prog (w.alloc (.cells #[.int .u8 35, .int .u8 1, .int .u8 0, .int .u8 0, .int .u8 47, .int .u8 7, .int .u8 0, .int .u8 0] 5)) = .ok (.string ⟨#[35, 1, 0, 0, 47, 7, 0, 0]⟩) (w.alloc (.cells #[.int .u8 35, .int .u8 1, .int .u8 0, .int .u8 0, .int .u8 47, .int .u8 7, .int .u8 0, .int .u8 0] 5)) := conv8 w 35 1 0 0 47 7 0 0
    go_enter Tryz.func94, Tryz.ntmps94
    go_wp2_with (fail)
    go_ret
    exact ⟨rfl, HB.out _⟩
  · have hcv : (convert 48 9 (.slice (some ⟨w.heap.size, 0, none⟩) 8 8)).run Tryz.prog (w.alloc (.cells #[.int .u8 35, .int .u8 1, .int .u8 0, .int .u8 0, .int .u8 47, .int .u8 8, .int .u8 0, .int .u8 0] 5)) = .ok (.string ⟨#[35, 1, 0, 0, 47, 8, 0, 0]⟩) (w.alloc (.cells #[.int .u8 35, .int .u8 1, .int .u8 0, .int .u8 0, .int .u8 47, .int .u8 8, .int .u8 0, .int .u8 0] 5)) := conv8 w 35 1 0 0 47 8 0 0
    go_enter Tryz.func94, Tryz.ntmps94
    go_wp2_with (fail)
    go_ret
    exact ⟨rfl, HB.out _⟩
  · have hcv : (convert 48 9 (.slice (some ⟨w.heap.size, 0, none⟩) 8 8)).run Tryz.prog (w.alloc (.cells #[.int .u8 35, .int .u8 1, .int .u8 0, .int .u8 0, .int .u8 47, .int .u8 9, .int .u8 0, .int .u8 0] 5)) = .ok (.string ⟨#[35, 1, 0, 0, 47, 9, 0, 0]⟩) (w.alloc (.cells #[.int .u8 35, .int .u8 1, .int .u8 0, .int .u8 0, .int .u8 47, .int .u8 9, .int .u8 0, .int .u8 0] 5)) := conv8 w 35 1 0 0 47 9 0 0
    go_enter Tryz.func94, Tryz.ntmps94
    go_wp2_with (fail)
    go_ret
    exact ⟨rfl, HB.out _⟩
  · have hcv : (convert 48 9 (.slice (some ⟨w.heap.size, 0, none⟩) 8 8)).run Tryz.prog (w.alloc (.cells #[.int .u8 35, .int .u8 1, .int .u8 0, .int .u8 0, .int .u8 47, .int .u8 10, .int .u8 0, .int .u8 0] 5)) = .ok (.string ⟨#[35, 1, 0, 0, 47, 10, 0, 0]⟩) (w.alloc (.cells #[.int .u8 35, .int .u8 1, .int .u8 0, .int .u8 0, .int .u8 47, .int .u8 10, .int .u8 0, .int .u8 0] 5)) := conv8 w 35 1 0 0 47 10 0 0
    go_enter Tryz.func94, Tryz.ntmps94
    go_wp2_with (fail)
    go_ret
    exact ⟨rfl, HB.out _⟩
  · have hcv : (convert 48 9 (.slice (some ⟨w.heap.size, 0, none⟩) 8 8)).run Tryz.prog (w.alloc (.cells #[.int .u8 35, .int .u8 1, .int .u8 0, .int .u8 0, .int .u8 47, .int .u8 11, .int .u8 0, .int .u8 0] 5)) = .ok (.string ⟨#[35, 1, 0, 0, 47, 11, 0, 0]⟩) (w.alloc (.cells #[.int .u8 35, .int .u8 1, .int .u8 0, .int .u8 0, .int .u8 47, .int .u8 11, .int .u8 0, .int .u8 0] 5)) := conv8 w 35 1 0 0 47 11 0 0
    go_enter Tryz.func94, Tryz.ntmps94
    go_wp2_with (fail)
    go_ret
    exact ⟨rfl, HB.out _⟩

end Go.Proofs.YthlmnoggeggpkaaGreat
