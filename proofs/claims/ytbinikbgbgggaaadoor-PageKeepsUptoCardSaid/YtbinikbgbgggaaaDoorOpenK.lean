/- A list of Dos opened, its numbers within int's range. -/
import Derived.Test.YtbinikbgbgggaaaDoorOpen
import Derived.Test.YtbinikbgbgggaaaDoorKeepP
namespace Go.Proofs.YtbinikbgbgggaaaDoor
open Go.ChangeShapes Go.WideShapes Go.ChangeAt Go.RowKit Go.Shelf

section
variable {H : Type} {enc : TypeId × Value → H}
theorem trod_wf {n : Int} (h : (Lit.int .i64 n).wf = true) : -9223372036854775808 ≤ n ∧ n ≤ 9223372036854775807 := by
  simp only [Lit.wf, Bool.and_eq_true, decide_eq_true_eq] at h
  have e1 : IntKind.i64.min = -9223372036854775808 := by decide
  have e2 : IntKind.i64.max = 9223372036854775807 := by decide
  omega
set_option maxRecDepth 100000 in
theorem open_do_ok {W : World} {fuel : Nat} {b o : Nat} {cs : List Value} {x : DataW H × List MemPlace} (hc : ∀ i, i < 7 → W.cell? ⟨b, o + i, none⟩ = cs[i]?) (h : DataW.trod enc Tryd.prog W 0 (fun _ => true) true fuel 32 cs = some x) (hs : Sized 32 x.1) :
    ∃ d : DoV, DoAt W.heap.size W b o d ∧ DoOk d := by
  obtain ⟨xs, n, -, rfl, hl, hxl, hf⟩ := DataW.trod_struct Tryd.underlying32 h
  rw [Tryd.cellsDo] at hl
  match cs, hl with
  | [v0, v1, v2, v3, v4, v5, v6], _ =>
    match xs, hxl with
    | [x0, x1, x2, x3, x4], _ =>
      have g0 := hf 0 _ rfl
      have g1 := hf 1 _ rfl
      have g2 := hf 2 _ rfl
      have g3 := hf 3 _ rfl
      have g4 := hf 4 _ rfl
      simp only [Tryd.cellsInt, Tryd.cellsI64, Tryd.cellsBool, Tryd.cellsTurn, List.drop_succ_cons, List.drop_zero, List.take_succ_cons, List.take_zero, List.getElem?_cons_zero, List.getElem?_cons_succ] at g0 g1 g2 g3 g4
      obtain ⟨n0, e0, -, w0⟩ := DataW.trod_int Tryd.underlying3 g0
      obtain ⟨n1, e1, -, w1⟩ := DataW.trod_int Tryd.underlying3 g1
      obtain ⟨n2, e2, -, w2⟩ := DataW.trod_int Tryd.underlying2 g2
      obtain ⟨b4, e4, -⟩ := DataW.trod_bool Tryd.underlying4 g4
      have s3 := hs.field Tryd.underlying32 (j := 3) rfl (by rfl)
      obtain ⟨y0, y1, y2, m, rfl, -, k0, k1, k2⟩ := Go.Deep.trod_struct3 Tryd.underlying30 g3
      simp only [Tryd.cellsBytes, List.drop_succ_cons, List.drop_zero, List.take_succ_cons, List.take_zero] at k0 k1 k2
      have t0 := s3.field Tryd.underlying30 (j := 0) rfl (by rfl)
      have t1 := s3.field Tryd.underlying30 (j := 1) rfl (by rfl)
      have t2 := s3.field Tryd.underlying30 (j := 2) rfl (by rfl)
      obtain ⟨a0, l0, c0, L0, f0, r0⟩ := open_bytes k0 t0
      obtain ⟨a1, l1, c1, L1, f1, r1⟩ := open_bytes k1 t1
      obtain ⟨a2, l2, c2, L2, f2, r2⟩ := open_bytes k2 t2
      cases e0; cases e1; cases e2; cases e4; cases f0; cases f1; cases f2
      exact ⟨⟨n0, n1, n2, a0, l0, c0, L0, a1, l1, c1, L1, a2, l2, c2, L2, b4⟩, ⟨hc 0 (by decide), hc 1 (by decide), hc 2 (by decide), hc 3 (by decide), hc 4 (by decide), hc 5 (by decide), hc 6 (by decide), r0, r1, r2⟩, trod_wf w0 |>.1, trod_wf w0 |>.2, trod_wf w1 |>.1, trod_wf w1 |>.2, trod_wf w2 |>.1, trod_wf w2 |>.2⟩

set_option maxRecDepth 100000 in
theorem open_dos_ok {W : World} {fuel : Nat} {cs : List Value} {x : DataW H × List MemPlace} (h : DataW.trod enc Tryd.prog W 0 (fun _ => true) true fuel 22 cs = some x) (hs : Sized 22 x.1) :
    ∃ a n c D, cs = [.slice a n c] ∧ DosAt W.heap.size W a n c D ∧ ∀ i, i < n → DoOk (D i) := by
  rcases Go.Deep.open_slice Tryd.underlying22 h with ⟨rfl, -⟩ | ⟨a, len, cap, m, n, D, Pl, rfl, -, hl, hm, hmm, rfl, hel⟩
  · exact ⟨none, 0, 0, fun _ => default, rfl, ⟨Nat.le_refl _, by omega, fun h => by omega⟩, fun i hi => by omega⟩
  · have hmc : m = cap := by simpa using hmm
    subst hmc
    by_cases h0 : m = 0
    · subst h0
      obtain rfl : len = 0 := by omega
      exact ⟨_, _, _, fun _ => default, rfl, ⟨Nat.le_refl _, by omega, fun h => by omega⟩, fun i hi => by omega⟩
    obtain ⟨b, o, s⟩ := a
    have hspot : s = none ∧ b < W.heap.size := by
      obtain ⟨cs', h1, -⟩ := hel 0 (by omega)
      obtain ⟨-, h3, h4⟩ := World.cells?_some h1
      rw [Tryd.cellsDo] at h3 h4
      have h5 := h4 0 (by decide)
      rw [List.getElem?_eq_getElem (by omega)] at h5
      exact ⟨by simpa [Addr.add] using World.cell?_spot h5, by simpa [Addr.add] using cell_lt h5⟩
    obtain ⟨rfl, hb⟩ := hspot
    have each : ∀ i, i < len → ∃ d : DoV, DoAt W.heap.size W b (o + i * 7) d ∧ DoOk d := fun i hi => by
      obtain ⟨cs', h1, h2⟩ := hel i (by omega)
      obtain ⟨-, h3, h4⟩ := World.cells?_some h1
      rw [Tryd.cellsDo] at h3 h4
      refine open_do_ok (fun j hj => ?_) h2 (hs.elem Tryd.underlying22 (List.mem_map.2 ⟨i, List.mem_range.2 hi, rfl⟩))
      rw [← h4 j hj]
      rw [add_plain, add_plain]
    obtain ⟨F, hF⟩ := Go.Deep.choose_lt each
    exact ⟨_, _, _, F, rfl, ⟨hl, by simpa [maxLen] using hm, fun _ => ⟨b, o, rfl, hb, fun i hi => (hF i hi).1⟩⟩, fun i hi => (hF i hi).2⟩
end
end Go.Proofs.YtbinikbgbgggaaaDoor
