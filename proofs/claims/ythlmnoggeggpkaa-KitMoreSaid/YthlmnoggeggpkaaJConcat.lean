/- The walks of slices.Grow from nothing and of slices.Concat, at parts. -/
import Derived.Test.YthlmnoggeggpkaaJAdd
import Derived.Test.YthlmnoggeggpkaaJShelf
import Derived.Shelf.Spec.SlicesGrow
namespace Go.Proofs.Ythlmnoggeggpkaa
open Go.RowKit Go.Shelf Go.Lib

theorem grow_any (n : Nat) (w : World) (hn : n ≤ 1048576) :
    Calls Try.prog 58 #[.slice none 0 0, .int .i64 n] w fun e w' => ∃ a c, e = .returned (.slice a 0 c) ∧ OP w.heap.size w' (.slice a 0 c) [] ∧ Below w.heap.size w w' := by
  rcases Nat.eq_zero_or_pos n with rfl | h0
  · have h := Any8.slices_Grow_room Try.growP none 0 0 0 w (by omega) (by omega) (by omega) (by omega)
    exact h.mono fun e w' ⟨he, hw⟩ => ⟨none, 0, he, hw ▸ OP.nil _ _, hw ▸ Below.refl _ _⟩
  · obtain ⟨i0, hi, hz0, hz1, hz2⟩ := info_parts Try.infoPart
    have h := Any8.slices_Grow_grow Try.growP i0 _ hi hz0 (by rw [hz1]; decide) none 0 0 n [] w (by omega) (by omega) (by rw [hz2]; omega) (by omega) (by simp) (fun _ => rfl) (fun a ha => by cases ha)
    refine h.mono fun e w' ⟨he, hw⟩ => ⟨_, _, he, ?_, ?_⟩
    · have hG : 0 + n ≤ grownCap w (0 + n) 0 39 := grownCap_ge w _ _ _
      have hm : grownCap w (0 + n) 0 39 ≤ maxLen := grownCap_le_maxLen w (0 + n) 0 _ (by unfold maxLen; omega)
      rw [hw]
      refine ⟨rfl, .inr ⟨w.heap.size, _, _, rfl, Nat.le_refl _, heap_alloc_new w.drew _, Nat.zero_le _, hm, ?_, by simp [cellsP]⟩⟩
      simp only [Array.size_append, List.size_toArray, size_zeroCells, List.length_nil]
      have e : ((Value.agg #[.string ByteArray.empty, .int .i64 0]).cells).size = 2 := rfl
      rw [e]
      change 0 + (0 + n - 0) * 2 + (grownCap w (0 + n) 0 39 - (0 + n)) * 2 = grownCap w (0 + n) 0 39 * 2
      omega
    · rw [hw]
      exact ((Below.refl _ _).drew).alloc (Nat.le_refl _) _

/-- One of the lists. -/
structure PV where
  a : Option Addr
  n : Nat
  c : Nat
  P : List Pt
instance : Inhabited PV := ⟨⟨none, 0, 0, []⟩⟩
def flatV (V : List PV) : List Pt := V.flatMap (·.P)
/-- A slice of slices of parts. -/
structure RV (B : Nat) (w : World) (a : Option Addr) (n c : Nat) (V : List PV) : Prop where
  len : n = V.length
  le : n ≤ c
  mx : c ≤ 9223372036854775807
  at_ : 0 < c → ∃ b o, a = some ⟨b, o, none⟩ ∧ b < B ∧ ∀ i, i < n → w.cell? ⟨b, o + i, none⟩ = some (.slice (V.getD i default).a (V.getD i default).n (V.getD i default).c)
  each : ∀ i, i < n → RP B w (V.getD i default).a (V.getD i default).n (V.getD i default).c (V.getD i default).P
theorem RV.below {B : Nat} {w w' : World} {a : Option Addr} {n c : Nat} {V : List PV} (h : RV B w a n c V) (hb : Below B w w') : RV B w' a n c V := by
  refine ⟨h.len, h.le, h.mx, fun hc => ?_, fun i hi => (h.each i hi).below hb⟩
  obtain ⟨b, o, e, hB, hcell⟩ := h.at_ hc
  exact ⟨b, o, e, hB, fun i hi => (hb.cell hB).trans (hcell i hi)⟩
theorem flatV_take {V : List PV} {i : Nat} (h : i < V.length) : flatV (V.take (i + 1)) = flatV (V.take i) ++ (V.getD i default).P := by
  unfold flatV
  rw [List.take_succ_eq_append_getElem h, List.flatMap_append, List.getD_eq_getElem?_getD, List.getElem?_eq_getElem h]
  simp
theorem flatV_le (V : List PV) (i : Nat) : (flatV (V.take i)).length ≤ (flatV V).length := by
  conv => rhs; rw [← List.take_append_drop i V]
  unfold flatV
  rw [List.flatMap_append, List.length_append]
  omega

set_option maxHeartbeats 2000000 in
theorem Concat_any (B : Nat) (a : Option Addr) (n c : Nat) (V : List PV) (w : World) (hl : RV B w a n c V) (hB : B ≤ w.heap.size) (htot : (flatV V).length ≤ 1048576) :
    Calls Try.prog 40 #[.slice a n c] w fun e w' => ∃ a' c', e = .returned (.slice a' (flatV V).length c') ∧ OP w.heap.size w' (.slice a' (flatV V).length c') (flatV V) ∧ Below w.heap.size w w' := by
  have hle := hl.le; have hmx := hl.mx
  have Hln := Lib.hid hl.len
  have HR := Lib.hid hl
  have hle2 := flatV_le V
  have Hle := Lib.hid hle2
  clear hle2 hl
  go_enter Try.func40, Try.ntmps40
  go_wp2_with (fail)
  go_loop [3, 11] (fun s t => ∃ (i m : Nat), s = .int .i64 m ∧ t = .int .i64 i ∧ i ≤ n ∧ m ≤ 1048576 ∧ Hid (m = (flatV (V.take i)).length)) (fun _ t => n - (intOf t).toNat)
  case atStart => exact ⟨0, 0, rfl, rfl, by omega, by omega, Lib.hid (by simp [flatV])⟩
  case round =>
    obtain ⟨i, m, rfl, rfl, hi, hm, ht⟩ := hrel
    by_cases hin : i < n
    · obtain ⟨b, o, rfl, hbB, hc⟩ := HR.out.at_ (by omega)
      have g := hc i hin
      have hp := HR.out.each i hin
      have hf := flatV_take (V := V) (i := i) (by have := Hln.out; omega)
      have hf2 := Hle.out (i + 1)
      have hpl := hp.len
      have hple := hp.le
      have hpmx := hp.mx
      clear hc hp
      generalize V.getD i default = p at g hf hpl hple hpmx
      obtain ⟨pa, pn, pc, P⟩ := p
      simp only at g hpl hple hpmx
      have hm2 : m + pn ≤ 1048576 := by have := ht.out; rw [hf, List.length_append] at hf2; simp only at hf2; omega
      have ht2 := Lib.hid (show m + pn = (flatV (V.take (i + 1))).length by rw [hf, List.length_append, ← ht.out]; simp only; omega)
      have hw1 := wrap_in (x := (m : Int) + (pn : Int)) (by omega) (by omega)
      clear hf hf2 hpl
      go_wp2_with (fail)
      go_round
      case rel => exact ⟨i + 1, m + pn, by simp, by simp, by omega, hm2, ht2⟩
      case measure => simp [intOf]; omega
    · have ei : i = V.length := by have := Hln.out; omega
      have HM := Lib.hid (show m = (flatV V).length by rw [ht.out, ei, List.take_length])
      have hg := fun w => grow_any m w hm
      go_wp2_with (go_at_call 58; refine (hg _).mono ?_; rintro e w1 ⟨a1, c1, rfl, ho1, hb1⟩)
      have Ho1 := Lib.hid ho1
      have Hb1 := Lib.hid hb1
      clear ho1 hb1 hg ei
      go_loopw [6, 27] (fun s t wr => ∃ (j : Nat) (a' : Option Addr) (c' : Nat), s = .slice a' (flatV (V.take j)).length c' ∧ t = .int .i64 j ∧ j ≤ n ∧ Hid (OP w.heap.size wr (.slice a' (flatV (V.take j)).length c') (flatV (V.take j))) ∧ Hid (Below w.heap.size w wr)) (fun _ t _ => n - (intOf t).toNat)
      case atStart => exact ⟨0, a1, c1, by simp [flatV], rfl, by omega, by simpa [flatV] using Ho1, Hb1⟩
      case round =>
        obtain ⟨j, a2, c2, rfl, rfl, hj, ho2, hb2⟩ := hrel
        by_cases hjn : j < n
        · have hRw := HR.out.below (hb2.out.mono hB)
          obtain ⟨b, o, rfl, hbB, hc⟩ := hRw.at_ (by omega)
          have g := hc j hjn
          have hp := hRw.each j hjn
          have hf := flatV_take (V := V) (i := j) (by have := Hln.out; omega)
          have hf2 := Hle.out (j + 1)
          have hpl := hp.len
          have hple := hp.le
          have hpmx := hp.mx
          have HP := Lib.hid hp
          clear hc hp hRw
          have hq0 := Hle.out j
          generalize V.getD j default = p at g hf hpl hple hpmx HP
          obtain ⟨pa, pn, pc, P⟩ := p
          simp only at g hpl hple hpmx HP hf
          have hlen : (flatV (V.take j)).length + P.length ≤ 1048576 := by rw [hf, List.length_append] at hf2; omega
          have Hf := Lib.hid hf
          subst hpl
          generalize flatV (V.take j) = Q at Hf ho2 hlen
          clear hf hf2 hq0
          go_wp2_with (at_builtin; refine wpList_append_parts rfl _ _ rfl w.heap.size (.slice a2 Q.length c2) Q P rfl ho2.out pa pc rfl HP.out.src hb2.out.size (by omega) ?_; intro a3 c3 w3 ho3 hg3)
          go_round
          case rel =>
            refine ⟨j + 1, a3, c3, ?_, by simp, by omega, ?_, Lib.hid (hb2.out.grown hg3 hb2.out.size (fun k hk => (ho2.out.ge k hk).1))⟩
            · rw [Hf.out, List.length_append]
            · rw [Hf.out]; exact Lib.hid ho3
          case measure => simp [intOf]; omega
        · have ej : j = V.length := by have := Hln.out; omega
          have ef : flatV (V.take j) = flatV V := by rw [ej, List.take_length]
          rw [ef] at ho2 ⊢
          go_wp2_with (fail)
          go_ret
          exact ⟨a2, c2, rfl, ho2.out, hb2.out⟩
end Go.Proofs.Ythlmnoggeggpkaa
