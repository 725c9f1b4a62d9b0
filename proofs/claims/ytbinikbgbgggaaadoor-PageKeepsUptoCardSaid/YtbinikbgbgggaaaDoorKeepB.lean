/- CopyRow. -/
import Derived.Test.YtbinikbgbgggaaaDoorKeepA
import Derived.Test.YtbinikbgbgggaaaDoorLawC
namespace Go.Proofs.YtbinikbgbgggaaaDoor
open Go.RowKit Go.Shelf

theorem T2.frozen {W : World} {z : Nat} {v0 v1 : Value} (h : T2 W z v0 v1) : W.frozen? ⟨z, 0, none⟩ = false ∧ W.frozen? ⟨z, 1, none⟩ = false := by
  unfold T2 at h; simp [World.frozen?, h]
theorem T2.lt {W : World} {z : Nat} {v0 v1 : Value} (h : T2 W z v0 v1) : z < W.heap.size := (Array.getElem?_eq_some_iff.1 h).1
theorem T2.new (W : World) (v0 v1 : Value) : T2 (W.alloc (.cells #[v0, v1] 25)) W.heap.size v0 v1 := heap_alloc_new W _
theorem T2.alloc {W : World} {z : Nat} {v0 v1 : Value} (h : T2 W z v0 v1) (o : Obj) : T2 (W.alloc o) z v0 v1 := (Below.heap_alloc W o z h.lt).trans h
theorem T2.set0 {W : World} {z : Nat} {v0 v1 : Value} (h : T2 W z v0 v1) (u : Value) : T2 (W.setCell ⟨z, 0, none⟩ u) z u v1 := by
  unfold T2 at h ⊢
  simp [World.setCell, Array.getElem?_modify, h]
theorem T2.set1 {W : World} {z : Nat} {v0 v1 : Value} (h : T2 W z v0 v1) (u : Value) : T2 (W.setCell ⟨z, 1, none⟩ u) z v0 u := by
  unfold T2 at h ⊢
  simp [World.setCell, Array.getElem?_modify, h]
theorem T2.other {W : World} {z : Nat} {v0 v1 : Value} (h : T2 W z v0 v1) {j o : Nat} (hj : j ≠ z) (u : Value) : T2 (W.setCell ⟨j, o, none⟩ u) z v0 v1 := by
  unfold T2 at h ⊢
  rw [← h]; exact Below.heap_setCell W ⟨j, o, none⟩ u z (fun e => hj e.symm)
theorem OB.set {base : Nat} {W : World} {v : Value} {l : List UInt8} (h : OB base W v l) {y j : Nat} (hy : y < base) (u : Value) : OB base (W.setCell ⟨y, j, none⟩ u) v l := by
  obtain ⟨e, h3 | ⟨g, cap, cur, hv, hg, hh, r⟩⟩ := h
  · exact ⟨e, .inl h3⟩
  · exact ⟨e, .inr ⟨g, cap, cur, hv, hg, (Below.heap_setCell W ⟨y, j, none⟩ u g (fun e => by have e' : g = y := e; omega)).trans hh, r⟩⟩
theorem OB.below {base : Nat} {W W' : World} {v : Value} {l : List UInt8} (h : OB base W v l) (hb : Below W.heap.size W W') : OB base W' v l := by
  obtain ⟨e, h3 | ⟨g, cap, cur, hv, hg, hh, r⟩⟩ := h
  · exact ⟨e, .inl h3⟩
  · exact ⟨e, .inr ⟨g, cap, cur, hv, hg, (hb.block g (Array.getElem?_eq_some_iff.1 hh).1).trans hh, r⟩⟩

set_option maxHeartbeats 1000000 in
theorem CopyRow_any (N : Nat) (ka va : Option Addr) (kn kc vn vc : Nat) (K V : List UInt8) (w : World) (hN : N ≤ w.heap.size) (hk : RB N w ka kn kc K) (hv : RB N w va vn vc V) :
    Calls Tryd.prog 21 #[.agg #[.slice ka kn kc, .slice va vn vc]] w fun e w' => (∃ a0 c0 a1 c1, e = .returned (.agg #[.slice a0 kn c0, .slice a1 vn c1]) ∧ OB w.heap.size w' (.slice a0 kn c0) K ∧ OB w.heap.size w' (.slice a1 vn c1) V) ∧ Below w.heap.size w w' := by
  obtain ⟨z, hz⟩ : ∃ z, z = w.heap.size := ⟨_, rfl⟩
  have hkl := hk.len; have hvl := hv.len; have hkm := hk.lm; have hvm := hv.lm
  have Hkl := Lib.hid hkl
  have Hvl := Lib.hid hvl
  clear hkl hvl
  have t0 : T2 ((w.alloc (.cells #[.slice ka kn kc, .slice va vn vc] 25)).alloc (.cells #[.slice none 0 0, .slice none 0 0] 25)) z (.slice ka kn kc) (.slice va vn vc) := by rw [hz]; exact (T2.new w _ _).alloc _
  have r0 : T2 ((w.alloc (.cells #[.slice ka kn kc, .slice va vn vc] 25)).alloc (.cells #[.slice none 0 0, .slice none 0 0] 25)) (z + 1) (.slice none 0 0) (.slice none 0 0) := by
    have := T2.new (w.alloc (.cells #[.slice ka kn kc, .slice va vn vc] 25)) (.slice none 0 0) (.slice none 0 0)
    rw [World.size_alloc, ← hz] at this; exact this
  have b0 : Below z w ((w.alloc (.cells #[.slice ka kn kc, .slice va vn vc] 25)).alloc (.cells #[.slice none 0 0, .slice none 0 0] 25)) := ((Below.refl z w).alloc (by omega) _).alloc (by simp; omega) _
  have s0 : ((w.alloc (.cells #[.slice ka kn kc, .slice va vn vc] 25)).alloc (.cells #[.slice none 0 0, .slice none 0 0] 25)).heap.size = z + 2 := by simp; omega
  have T0 := Lib.hid t0
  have R0 := Lib.hid r0
  have B0 := Lib.hid b0
  have S0 := Lib.hid s0
  have Hz := Lib.hid hz
  clear t0 r0 b0 s0 hz
  go_enter Tryd.func21, Tryd.ntmps21
  go_wp2_with (fail)
  refine (CopyBytes_any N _ _ _ K _ (hk.below (B0.out.mono (by have := Hz.out; omega))) (by have := S0.out; have := Hz.out; simp; omega)).mono ?_
  rintro e w1 ⟨⟨k1, rfl, o1⟩, b1⟩
  obtain ⟨a0, c0, rfl, -⟩ := o1.rb (by rw [← Hkl.out]; exact hkm)
  have b1' := b1
  simp only [World.size_alloc, ← Hz.out] at b1' o1
  have T1 := Lib.hid (T0.out.below b1' (by omega))
  have R1 := Lib.hid (R0.out.below b1' (by omega))
  have O1 := Lib.hid o1
  have B1 := Lib.hid (B0.out.trans (b1'.mono (by omega)))
  have S1 := Lib.hid b1'.size
  clear o1 b1 b1'
  obtain ⟨c10, c11⟩ := T1.out.cells
  obtain ⟨f10, f11⟩ := T1.out.frozen
  rw [← Hz.out]
  rw [← Hkl.out] at O1 ⊢
  go_wp2_with (fail)
  have T2' := Lib.hid (T1.out.set0 (.slice a0 kn c0))
  have R2 := Lib.hid (R1.out.other (j := z) (o := 0) (by omega) (.slice a0 kn c0))
  have O2 := Lib.hid (O1.out.set (y := z) (j := 0) (by omega) (.slice a0 kn c0))
  have B2 := Lib.hid (B1.out.setCell (p := ⟨z, 0, none⟩) (Nat.le_refl _) (.slice a0 kn c0))
  have S2 : Hid ((w1.setCell ⟨z, 0, none⟩ (.slice a0 kn c0)).heap.size = w1.heap.size) := Lib.hid (size_setCell' _ _ _)
  have S1' := S1.out
  rw [S0.out] at S1'
  refine (CopyBytes_any N _ _ _ V _ (hv.below (B2.out.mono (by have := Hz.out; omega))) (by have := S2.out; have := Hz.out; omega)).mono ?_
  rintro e w3 ⟨⟨k1, rfl, o3⟩, b3⟩
  obtain ⟨a1, c1, rfl, -⟩ := o3.rb (by rw [← Hvl.out]; exact hvm)
  rw [← Hvl.out] at o3 ⊢
  rw [S2.out] at o3
  have T3 := Lib.hid (T2'.out.below b3 (by have := S2.out; omega))
  have R3 := Lib.hid (R2.out.below b3 (by have := S2.out; omega))
  have O3 := Lib.hid o3
  have P3 := Lib.hid (O2.out.below b3)
  have B3 := Lib.hid (B2.out.trans (b3.mono (by have := S2.out; omega)))
  clear o3 b3 c10 c11 f10 f11
  obtain ⟨c10, c11⟩ := T3.out.cells
  obtain ⟨f10, f11⟩ := T3.out.frozen
  obtain ⟨c20, c21⟩ := R3.out.cells
  obtain ⟨f20, f21⟩ := R3.out.frozen
  have T4 := Lib.hid (T3.out.set1 (.slice a1 vn c1))
  have c40 := T4.out.cells.1
  have c41 := T4.out.cells.2
  have R4 := Lib.hid (R3.out.other (j := z) (o := 1) (by omega) (.slice a1 vn c1))
  have d40 := R4.out.cells.1
  have d41 := R4.out.cells.2
  have e40 := R4.out.frozen.1
  have e41 := R4.out.frozen.2
  go_wp2_with (fail)
  have R5 := (R4.out.set0 (.slice a0 kn c0)).set1 (.slice a1 vn c1)
  have c50 := R5.cells.1
  have c51 := R5.cells.2
  refine bodyPost_ret (v := .agg #[.slice a0 kn c0, .slice a1 vn c1]) (by simp [results, Tryd.f21, go_sem, c50, c51]) rfl ⟨⟨a0, c0, a1, c1, rfl, ?_, ?_⟩, ?_⟩
  · exact (((P3.out.set (by omega) _).set (by omega) _).set (by omega) _).mono (by have := Hz.out; omega)
  · exact (((O3.out.set (by omega) _).set (by omega) _).set (by omega) _).mono (by have := Hz.out; omega)
  · rw [← Hz.out]
    exact ((B3.out.setCell (p := ⟨z, 1, none⟩) (Nat.le_refl _) _).setCell (p := ⟨z + 1, 0, none⟩) (by show z ≤ z + 1; omega) _).setCell (p := ⟨z + 1, 1, none⟩) (by show z ≤ z + 1; omega) _
end Go.Proofs.YtbinikbgbgggaaaDoor
