/- Arguments opened: slices of bytes; a list of Dos; a row. A list of Dos opened, its numbers within int's range. -/
import Derived.Test.YtbinikbgbgggaaaDoorLawC
import Derived.ProofKit
import Derived.OpenShut
import Derived.Deep.Slices
import Derived.Deep.Strs
import Derived.Test.YtbinikbgbgggaaaDoorKeepP
namespace Go.Proofs.YtbinikbgbgggaaaDoor
open Go.ChangeShapes Go.WideShapes Go.ChangeAt Go.RowKit Go.Shelf

section
variable {H : Type} {enc : TypeId × Value → H}

theorem Tryd.cellsU8 : Tryd.prog.cellsOf 5 = 1 := by kernel_rfl
theorem Tryd.bytesU8 : Tryd.prog.bytesOf 5 = 1 := by kernel_rfl
/-- What the form's own reach says of a reading. -/
def Sized (t : TypeId) (d : DataW H) : Prop := ∀ n ∈ d.weights Tryd.prog t, n ≤ reachBytes

theorem add_plain (b o i : Nat) : (⟨b, o, none⟩ : Addr).add i = ⟨b, o + i, none⟩ := by unfold Addr.add; split <;> simp_all
theorem cell_lt {w : World} {a : Addr} {v : Value} (h : w.cell? a = some v) : a.block < w.heap.size := by
  unfold World.cell? at h
  rcases Nat.lt_or_ge a.block w.heap.size with hl | hl
  · exact hl
  · rw [Array.getElem?_eq_none hl] at h; simp at h

set_option maxRecDepth 100000 in
theorem open_bytes {W : World} {fuel : Nat} {cs : List Value} {x : DataW H × List MemPlace} (h : DataW.trod enc Tryd.prog W 0 (fun _ => true) true fuel 23 cs = some x) (hs : Sized 23 x.1) :
    ∃ a n c l, cs = [.slice a n c] ∧ RB W.heap.size W a n c l := by
  rcases open_ints Tryd.underlying23 Tryd.underlying5 Tryd.cellsU8 h with ⟨rfl, -⟩ | ⟨a, len, cap, zs, rfl, -, hl, hm, hz, rfl, hcell, hwf⟩
  · exact ⟨none, 0, 0, [], rfl, RB.emp _⟩
  · have hz' : zs.length = cap := by simpa using hz
    have hw := hs ((len + (cap - len)) * 1) (by
      simp only [DataW.weights, Tryd.underlying23, Tryd.bytesU8, List.mem_cons, lits, List.length_map, List.length_take, List.length_drop]
      left; rw [hz']; congr 1; omega)
    have hr : reachBytes = 140737488351232 := rfl
    have hv : ∀ i, i < cap → 0 ≤ zs.getD i 0 ∧ zs.getD i 0 < 256 := fun i hi => by
      have hi' : i < zs.length := by omega
      have := hwf (zs.getD i 0) (by rw [List.getD_eq_getElem?_getD, List.getElem?_eq_getElem hi']; exact List.getElem_mem hi')
      simp only [Lit.wf, Bool.and_eq_true, decide_eq_true_eq] at this
      have e1 : IntKind.u8.min = 0 := by decide
      have e2 : IntKind.u8.max = 255 := by decide
      rw [e1, e2] at this
      omega
    refine ⟨some a, len, cap, (zs.take len).map fun z => UInt8.ofNat z.toNat, rfl, ⟨by simp; omega, hl, by simpa [maxLen] using hm, by omega, fun hc => ?_⟩⟩
    obtain ⟨b, o, s⟩ := a
    have h0 := hcell 0 (by omega)
    have hspot : s = none := by simpa [Addr.add] using World.cell?_spot h0
    subst hspot
    refine ⟨b, o, rfl, by simpa [Addr.add] using cell_lt h0, fun i hi => ?_⟩
    have hc := hcell i (by omega)
    rw [add_plain] at hc
    rw [hc]
    have hi' : i < zs.length := by omega
    obtain ⟨h1, h2⟩ := hv i (by omega)
    have e2 : zs.getD i 0 = zs[i] := by rw [List.getD_eq_getElem?_getD, List.getElem?_eq_getElem hi']; rfl
    rw [e2] at h1 h2 ⊢
    unfold bt
    simp [List.getD_eq_getElem?_getD, List.getElem?_take, hi, List.getElem?_eq_getElem hi']
    omega

theorem weightsAll_mem {P : Program} {e : TypeId} : ∀ {l : List (DataW H)} {d : DataW H}, d ∈ l → ∀ n ∈ d.weights P e, n ∈ DataW.weightsAll P e l
  | d' :: r, d, hd, n, hn => by
    simp only [DataW.weightsAll, List.mem_append]
    rcases List.mem_cons.1 hd with rfl | h
    · exact Or.inl hn
    · exact Or.inr (weightsAll_mem h n hn)
theorem Sized.field {t : TypeId} {fs : Array Field} {l : List (DataW H)} (h : Sized t (.agg l)) (ht : Tryd.prog.underlying t = some (.struct fs)) {j : Nat} {f : Field} {d : DataW H} (hf : fs[j]? = some f) (hd : l[j]? = some d) : Sized f.type d := fun n hn => by
  refine h n ?_
  simp only [DataW.weights, ht]
  exact DataW.weights_mem_each (by simp [hf]) hd n hn
theorem Sized.elem {t e : TypeId} {l sp : List (DataW H)} (h : Sized t (.slice l sp)) (ht : Tryd.prog.underlying t = some (.slice e)) {d : DataW H} (hd : d ∈ l) : Sized e d := fun n hn => by
  refine h n ?_
  simp only [DataW.weights, ht, List.mem_cons, List.mem_append]
  exact Or.inr (Or.inl (weightsAll_mem hd n hn))

theorem Tryd.cellsInt : Tryd.prog.cellsOf 3 = 1 := by kernel_rfl
theorem Tryd.cellsI64 : Tryd.prog.cellsOf 2 = 1 := by kernel_rfl
theorem Tryd.cellsBool : Tryd.prog.cellsOf 4 = 1 := by kernel_rfl
theorem Tryd.cellsBytes : Tryd.prog.cellsOf 23 = 1 := by kernel_rfl
theorem Tryd.cellsTurn : Tryd.prog.cellsOf 30 = 3 := by kernel_rfl
theorem Tryd.cellsDo : Tryd.prog.cellsOf 32 = 7 := by kernel_rfl
theorem Tryd.cellsRow : Tryd.prog.cellsOf 25 = 2 := by kernel_rfl

theorem open_do {W : World} {fuel : Nat} {b o : Nat} {cs : List Value} {x : DataW H × List MemPlace} (hc : ∀ i, i < 7 → W.cell? ⟨b, o + i, none⟩ = cs[i]?) (h : DataW.trod enc Tryd.prog W 0 (fun _ => true) true fuel 32 cs = some x) (hs : Sized 32 x.1) :
    ∃ d : DoV, DoAt W.heap.size W b o d := by
  obtain ⟨xs, n, -, rfl, hl, hxl, hf⟩ := DataW.trod_struct Tryd.underlying32 h
  rw [Tryd.cellsDo] at hl
  match cs, hl with
  | [v0, v1, v2, v3, v4, v5, v6], _ =>
    match xs, hxl with
    | [x0, x1, x2, x3, x4], _ =>
      have g0 := hf 0 _ rfl
      have g1 := hf 1 _ rfl
      have g2 := hf 2 _ rfl
      have g3 := hf 3 _ rfl
      have g4 := hf 4 _ rfl
      simp only [Tryd.cellsInt, Tryd.cellsI64, Tryd.cellsBool, Tryd.cellsTurn, List.drop_succ_cons, List.drop_zero, List.take_succ_cons, List.take_zero, List.getElem?_cons_zero, List.getElem?_cons_succ] at g0 g1 g2 g3 g4
      obtain ⟨n0, e0, -, -⟩ := DataW.trod_int Tryd.underlying3 g0
      obtain ⟨n1, e1, -, -⟩ := DataW.trod_int Tryd.underlying3 g1
      obtain ⟨n2, e2, -, -⟩ := DataW.trod_int Tryd.underlying2 g2
      obtain ⟨b4, e4, -⟩ := DataW.trod_bool Tryd.underlying4 g4
      have s3 := hs.field Tryd.underlying32 (j := 3) rfl (by rfl)
      obtain ⟨y0, y1, y2, m, rfl, -, k0, k1, k2⟩ := Go.Deep.trod_struct3 Tryd.underlying30 g3
      simp only [Tryd.cellsBytes, List.drop_succ_cons, List.drop_zero, List.take_succ_cons, List.take_zero] at k0 k1 k2
      have t0 := s3.field Tryd.underlying30 (j := 0) rfl (by rfl)
      have t1 := s3.field Tryd.underlying30 (j := 1) rfl (by rfl)
      have t2 := s3.field Tryd.underlying30 (j := 2) rfl (by rfl)
      obtain ⟨a0, l0, c0, L0, f0, r0⟩ := open_bytes k0 t0
      obtain ⟨a1, l1, c1, L1, f1, r1⟩ := open_bytes k1 t1
      obtain ⟨a2, l2, c2, L2, f2, r2⟩ := open_bytes k2 t2
      cases e0; cases e1; cases e2; cases e4; cases f0; cases f1; cases f2
      exact ⟨⟨n0, n1, n2, a0, l0, c0, L0, a1, l1, c1, L1, a2, l2, c2, L2, b4⟩, hc 0 (by decide), hc 1 (by decide), hc 2 (by decide), hc 3 (by decide), hc 4 (by decide), hc 5 (by decide), hc 6 (by decide), r0, r1, r2⟩

set_option maxRecDepth 100000 in
theorem open_dos {W : World} {fuel : Nat} {cs : List Value} {x : DataW H × List MemPlace} (h : DataW.trod enc Tryd.prog W 0 (fun _ => true) true fuel 22 cs = some x) (hs : Sized 22 x.1) :
    ∃ a n c D, cs = [.slice a n c] ∧ DosAt W.heap.size W a n c D := by
  rcases Go.Deep.open_slice Tryd.underlying22 h with ⟨rfl, -⟩ | ⟨a, len, cap, m, n, D, Pl, rfl, -, hl, hm, hmm, rfl, hel⟩
  · exact ⟨none, 0, 0, fun _ => default, rfl, Nat.le_refl _, by omega, fun h => by omega⟩
  · have hmc : m = cap := by simpa using hmm
    subst hmc
    by_cases h0 : m = 0
    · subst h0
      obtain rfl : len = 0 := by omega
      exact ⟨_, _, _, fun _ => default, rfl, Nat.le_refl _, by omega, fun h => by omega⟩
    obtain ⟨b, o, s⟩ := a
    have hspot : s = none ∧ b < W.heap.size := by
      obtain ⟨cs', h1, -⟩ := hel 0 (by omega)
      obtain ⟨-, h3, h4⟩ := World.cells?_some h1
      rw [Tryd.cellsDo] at h3 h4
      have h5 := h4 0 (by decide)
      rw [List.getElem?_eq_getElem (by omega)] at h5
      exact ⟨by simpa [Addr.add] using World.cell?_spot h5, by simpa [Addr.add] using cell_lt h5⟩
    obtain ⟨rfl, hb⟩ := hspot
    have each : ∀ i, i < len → ∃ d : DoV, DoAt W.heap.size W b (o + i * 7) d := fun i hi => by
      obtain ⟨cs', h1, h2⟩ := hel i (by omega)
      obtain ⟨-, h3, h4⟩ := World.cells?_some h1
      rw [Tryd.cellsDo] at h3 h4
      refine open_do (fun j hj => ?_) h2 (hs.elem Tryd.underlying22 (List.mem_map.2 ⟨i, List.mem_range.2 hi, rfl⟩))
      rw [← h4 j hj]
      rw [add_plain, add_plain]
    obtain ⟨F, hF⟩ := Go.Deep.choose_lt each
    exact ⟨_, _, _, F, rfl, hl, by simpa [maxLen] using hm, fun _ => ⟨b, o, rfl, hb, hF⟩⟩
end
end Go.Proofs.YtbinikbgbgggaaaDoor
namespace Go.Proofs.YtbinikbgbgggaaaDoor
open Go.ChangeShapes Go.WideShapes Go.ChangeAt Go.RowKit Go.Shelf

section
variable {H : Type} {enc : TypeId × Value → H}
theorem trod_wf {n : Int} (h : (Lit.int .i64 n).wf = true) : -9223372036854775808 ≤ n ∧ n ≤ 9223372036854775807 := by
  simp only [Lit.wf, Bool.and_eq_true, decide_eq_true_eq] at h
  have e1 : IntKind.i64.min = -9223372036854775808 := by decide
  have e2 : IntKind.i64.max = 9223372036854775807 := by decide
  omega
set_option maxRecDepth 100000 in
theorem open_do_ok {W : World} {fuel : Nat} {b o : Nat} {cs : List Value} {x : DataW H × List MemPlace} (hc : ∀ i, i < 7 → W.cell? ⟨b, o + i, none⟩ = cs[i]?) (h : DataW.trod enc Tryd.prog W 0 (fun _ => true) true fuel 32 cs = some x) (hs : Sized 32 x.1) :
    ∃ d : DoV, DoAt W.heap.size W b o d ∧ DoOk d := by
  obtain ⟨xs, n, -, rfl, hl, hxl, hf⟩ := DataW.trod_struct Tryd.underlying32 h
  rw [Tryd.cellsDo] at hl
  match cs, hl with
  | [v0, v1, v2, v3, v4, v5, v6], _ =>
    match xs, hxl with
    | [x0, x1, x2, x3, x4], _ =>
      have g0 := hf 0 _ rfl
      have g1 := hf 1 _ rfl
      have g2 := hf 2 _ rfl
      have g3 := hf 3 _ rfl
      have g4 := hf 4 _ rfl
      simp only [Tryd.cellsInt, Tryd.cellsI64, Tryd.cellsBool, Tryd.cellsTurn, List.drop_succ_cons, List.drop_zero, List.take_succ_cons, List.take_zero, List.getElem?_cons_zero, List.getElem?_cons_succ] at g0 g1 g2 g3 g4
      obtain ⟨n0, e0, -, w0⟩ := DataW.trod_int Tryd.underlying3 g0
      obtain ⟨n1, e1, -, w1⟩ := DataW.trod_int Tryd.underlying3 g1
      obtain ⟨n2, e2, -, w2⟩ := DataW.trod_int Tryd.underlying2 g2
      obtain ⟨b4, e4, -⟩ := DataW.trod_bool Tryd.underlying4 g4
      have s3 := hs.field Tryd.underlying32 (j := 3) rfl (by rfl)
      obtain ⟨y0, y1, y2, m, rfl, -, k0, k1, k2⟩ := Go.Deep.trod_struct3 Tryd.underlying30 g3
      simp only [Tryd.cellsBytes, List.drop_succ_cons, List.drop_zero, List.take_succ_cons, List.take_zero] at k0 k1 k2
      have t0 := s3.field Tryd.underlying30 (j := 0) rfl (by rfl)
      have t1 := s3.field Tryd.underlying30 (j := 1) rfl (by rfl)
      have t2 := s3.field Tryd.underlying30 (j := 2) rfl (by rfl)
      obtain ⟨a0, l0, c0, L0, f0, r0⟩ := open_bytes k0 t0
      obtain ⟨a1, l1, c1, L1, f1, r1⟩ := open_bytes k1 t1
      obtain ⟨a2, l2, c2, L2, f2, r2⟩ := open_bytes k2 t2
      cases e0; cases e1; cases e2; cases e4; cases f0; cases f1; cases f2
      exact ⟨⟨n0, n1, n2, a0, l0, c0, L0, a1, l1, c1, L1, a2, l2, c2, L2, b4⟩, ⟨hc 0 (by decide), hc 1 (by decide), hc 2 (by decide), hc 3 (by decide), hc 4 (by decide), hc 5 (by decide), hc 6 (by decide), r0, r1, r2⟩, trod_wf w0 |>.1, trod_wf w0 |>.2, trod_wf w1 |>.1, trod_wf w1 |>.2, trod_wf w2 |>.1, trod_wf w2 |>.2⟩

set_option maxRecDepth 100000 in
theorem open_dos_ok {W : World} {fuel : Nat} {cs : List Value} {x : DataW H × List MemPlace} (h : DataW.trod enc Tryd.prog W 0 (fun _ => true) true fuel 22 cs = some x) (hs : Sized 22 x.1) :
    ∃ a n c D, cs = [.slice a n c] ∧ DosAt W.heap.size W a n c D ∧ ∀ i, i < n → DoOk (D i) := by
  rcases Go.Deep.open_slice Tryd.underlying22 h with ⟨rfl, -⟩ | ⟨a, len, cap, m, n, D, Pl, rfl, -, hl, hm, hmm, rfl, hel⟩
  · exact ⟨none, 0, 0, fun _ => default, rfl, ⟨Nat.le_refl _, by omega, fun h => by omega⟩, fun i hi => by omega⟩
  · have hmc : m = cap := by simpa using hmm
    subst hmc
    by_cases h0 : m = 0
    · subst h0
      obtain rfl : len = 0 := by omega
      exact ⟨_, _, _, fun _ => default, rfl, ⟨Nat.le_refl _, by omega, fun h => by omega⟩, fun i hi => by omega⟩
    obtain ⟨b, o, s⟩ := a
    have hspot : s = none ∧ b < W.heap.size := by
      obtain ⟨cs', h1, -⟩ := hel 0 (by omega)
      obtain ⟨-, h3, h4⟩ := World.cells?_some h1
      rw [Tryd.cellsDo] at h3 h4
      have h5 := h4 0 (by decide)
      rw [List.getElem?_eq_getElem (by omega)] at h5
      exact ⟨by simpa [Addr.add] using World.cell?_spot h5, by simpa [Addr.add] using cell_lt h5⟩
    obtain ⟨rfl, hb⟩ := hspot
    have each : ∀ i, i < len → ∃ d : DoV, DoAt W.heap.size W b (o + i * 7) d ∧ DoOk d := fun i hi => by
      obtain ⟨cs', h1, h2⟩ := hel i (by omega)
      obtain ⟨-, h3, h4⟩ := World.cells?_some h1
      rw [Tryd.cellsDo] at h3 h4
      refine open_do_ok (fun j hj => ?_) h2 (hs.elem Tryd.underlying22 (List.mem_map.2 ⟨i, List.mem_range.2 hi, rfl⟩))
      rw [← h4 j hj]
      rw [add_plain, add_plain]
    obtain ⟨F, hF⟩ := Go.Deep.choose_lt each
    exact ⟨_, _, _, F, rfl, ⟨hl, by simpa [maxLen] using hm, fun _ => ⟨b, o, rfl, hb, fun i hi => (hF i hi).1⟩⟩, fun i hi => (hF i hi).2⟩
end
end Go.Proofs.YtbinikbgbgggaaaDoor
