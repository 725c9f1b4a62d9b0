/- Items by their codes. -/
import Derived.Test.YthlmnoggeggpkaaKRight
namespace Go.Proofs.Ythlmnoggeggpkaa
open Go.RowKit

/-- Items by their codes: the last one of a code. -/
def bookF (X : List It) : List UInt8 → Value := X.foldl (fun f x => setO f x.code x.val) (fun _ => zItem)
theorem book_next {X : List It} {i : Nat} (hi : i < X.length) : bookF (X.take (i + 1)) = setO (bookF (X.take i)) (X.getD i default).code (X.getD i default).val := by
  unfold bookF
  rw [List.take_succ_eq_append_getElem hi, List.foldl_append, List.getD_eq_getElem?_getD, List.getElem?_eq_getElem hi]
  rfl
theorem val_ne {x : It} (h : x.code ≠ []) : x.val ≠ zItem := fun e => by
  unfold It.val zItem encStr at e
  simp at e
  exact h (by simpa using e.1)
theorem four_at {W : World} {g : Nat} {u v p q : Value} {t : TypeId} (h : W.heap[g]? = some (.cells #[u, v, p, q] t)) : W.cell? ⟨g, 0, none⟩ = some u ∧ W.cell? ⟨g, 1, none⟩ = some v ∧ W.cell? ⟨g, 2, none⟩ = some p ∧ W.cell? ⟨g, 3, none⟩ = some q := by
  refine ⟨?_, ?_, ?_, ?_⟩ <;> (unfold World.cell?; rw [h]; rfl)

set_option maxHeartbeats 4000000 in
set_option maxRecDepth 100000 in
theorem book_any (B : Nat) (a : Option Addr) (n cp : Nat) (X : List It) (w : World) (hr : RI B w a n cp X) (hB : B ≤ w.heap.size) (hne : ∀ x ∈ X, x.code ≠ []) : Calls Try.prog 50 #[.slice a n cp] w fun e w' => (∃ mb, e = .returned (.map (some mb)) ∧ MF w' mb n zItem (bookF X) ∧ w.heap.size ≤ mb) ∧ Below w.heap.size w w' := by
  have hle := hr.le
  have hmx := hr.mx
  have HR := Lib.hid (hr.mono hB)
  have HNA := Lib.hid hne
  clear hne
  have hmk := @run_makeMap Try.prog
  have hM0 := Lib.hid (MF.made w zItem)
  have hB0 : Hid (Below w.heap.size w (w.alloc (.map #[] 0))) := Lib.hid ((Below.refl _ w).alloc (Nat.le_refl _) _)
  obtain ⟨gb, hgb⟩ : ∃ g, g = w.heap.size := ⟨_, rfl⟩
  clear hr
  rw [← hgb] at hM0 hB0 HR
  have HG := Lib.hid hgb
  go_enter Try.func50, Try.ntmps50
  go_upto_region 2 with (fail)
  rw [← hgb]
  clear hgb
  go_wp2_with (fail)
  go_loopw [9] (fun s9 wr => ∃ i : Nat, s9 = .int .i64 i ∧ i ≤ n ∧ Hid (MF wr gb i zItem (bookF (X.take i))) ∧ Hid (Below gb w wr)) (fun s9 _ => n - (intOf s9).toNat)
  case atStart => exact ⟨0, rfl, by omega, hM0, hB0⟩
  case round =>
    obtain ⟨i, rfl, hi, HM, HB⟩ := hrel
    by_cases hin : i < n
    · have t1 : decide ((i : Int) < (n : Int)) = true := by simp; omega
      have i0 : (0 : Int) ≤ (i : Int) := by omega
      have i1 : (i : Int) < (n : Int) := by omega
      have f1 : IntKind.i64.wrap ((i : Int) + 1) = ((i + 1 : Nat) : Int) := by rw [wrap_in (by omega) (by omega)]; omega
      obtain ⟨b, o, rfl, hbB, hok1, c0, c1, c2, c3⟩ := (HR.out.below HB.out).item hin
      have HOK := Lib.hid hok1
      have hnv := val_ne (HNA.out _ (getD_mem (by have := HR.out.len; omega : i < X.length)))
      have HNX := Lib.hid (book_next (X := X) (i := i) (by have := HR.out.len; omega))
      clear hok1
      obtain ⟨x, hx⟩ : ∃ x, x = X.getD i default := ⟨_, rfl⟩
      rw [← hx] at c0 c1 c2 c3 HNX HOK hnv
      have HNE := Lib.hid hnv
      clear hnv
      clear hx
      have hpc : (wr.alloc (.cells #[encStr x.code, .int .i64 x.life, .slice x.pa x.ps.length x.pc, .slice x.oa x.os.length x.oc] 32)).heap[wr.heap.size]? = _ := heap_alloc_new wr _
      have hal : Below wr.heap.size wr (wr.alloc (.cells #[encStr x.code, .int .i64 x.life, .slice x.pa x.ps.length x.pc, .slice x.oa x.os.length x.oc] 32)) := (Below.refl _ wr).alloc (Nat.le_refl _) _
      have hM2 := HM.out.below hal HM.out.lt
      have hB2 := HB.out.trans (hal.mono (by have := HM.out.lt; omega))
      obtain ⟨q0, q1, q2, q3⟩ := four_at hpc
      unfold encStr at c0 q0 q1 q2 q3 hM2 hB2
      have HM2 := Lib.hid hM2
      have HB2 := Lib.hid hB2
      have hgw := HM.out.lt
      clear hpc hal hM2 hB2
      go_wp2_with (at_mapUpdate; refine wpList_put_mf rfl _ _ _ 54 rfl Try.underlying54 HM2.out (by omega) x.code x.val rfl rfl rfl HOK.out.code HNE.out ?_; intro w2 hM3 hg2; have HM3 := Lib.hid hM3; have HB3 := Lib.hid (HB2.out.grown hg2 (by rw [World.size_alloc]; omega) (fun k e => by have := Option.some.inj e; omega)); clear hM3 hg2)
      go_roundw
      case rel => exact ⟨i + 1, rfl, by omega, Lib.hid (by rw [HNX.out]; exact HM3.out), HB3⟩
      case measure => simp only [intOf]; omega
    · have t1 : decide ((i : Int) < (n : Int)) = false := by simp; omega
      have ht : X.take i = X := List.take_of_length_le (by have := HR.out.len; omega)
      have hin2 : i = n := by omega
      have HM9 : Hid (MF wr gb n zItem (bookF X)) := Lib.hid (by have h := HM.out; rw [ht, hin2] at h; exact h)
      clear ht hin2
      go_wp2_with (fail)
      go_ret
      exact ⟨⟨gb, rfl, HM9.out, HG.out ▸ Nat.le_refl _⟩, HG.out ▸ HB.out⟩
end Go.Proofs.Ythlmnoggeggpkaa
