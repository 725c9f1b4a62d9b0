/- Arguments opened: bytes, pairs, a record, a list of deeds. -/
import Derived.Test.YtohlkkannjifmaaGreatDoorOCopy
import Derived.ProofKit
import Derived.OpenShut
import Derived.Deep.Slices
import Derived.Deep.Strs
namespace Go.Proofs.YtohlkkannjifmaaGreatDoor
open Go.ChangeShapes Go.WideShapes Go.ChangeAt Go.RowKit Go.Shelf
section
variable {H : Type} {enc : TypeId × Value → H}
set_option maxRecDepth 100000 in
theorem Tryz.cellsU8 : Tryz.prog.cellsOf 5 = 1 := by kernel_rfl
set_option maxRecDepth 100000 in
theorem Tryz.bytesU8 : Tryz.prog.bytesOf 5 = 1 := by kernel_rfl
def Sized (t : TypeId) (d : DataW H) : Prop := ∀ n ∈ d.weights Tryz.prog t, n ≤ reachBytes
set_option maxRecDepth 100000 in
theorem add_plain (b o i : Nat) : (⟨b, o, none⟩ : Addr).add i = ⟨b, o + i, none⟩ := by unfold Addr.add; split <;> simp_all
set_option maxRecDepth 100000 in
theorem cell_lt {w : World} {a : Addr} {v : Value} (h : w.cell? a = some v) : a.block < w.heap.size := by
  unfold World.cell? at h
  rcases Nat.lt_or_ge a.block w.heap.size with hl | hl
  · exact hl
  · rw [Array.getElem?_eq_none hl] at h; simp at h
set_option maxRecDepth 100000 in
theorem open_bytes {W : World} {fuel : Nat} {cs : List Value} {x : DataW H × List MemPlace} (h : DataW.trod enc Tryz.prog W 0 (fun _ => true) true fuel 27 cs = some x) (hs : Sized 27 x.1) :
    ∃ a n c l, cs = [.slice a n c] ∧ RB W.heap.size W a n c l := by
  rcases open_ints Tryz.underlying27 Tryz.underlying5 Tryz.cellsU8 h with ⟨rfl, -⟩ | ⟨a, len, cap, zs, rfl, -, hl, hm, hz, rfl, hcell, hwf⟩
  · exact ⟨none, 0, 0, [], rfl, RB.emp _⟩
  · have hz' : zs.length = cap := by simpa using hz
    have hw := hs ((len + (cap - len)) * 1) (by
      simp only [DataW.weights, Tryz.underlying27, Tryz.bytesU8, List.mem_cons, lits, List.length_map, List.length_take, List.length_drop]
      left; rw [hz']; congr 1; omega)
    have hr : reachBytes = 140737488351232 := rfl
    have hv : ∀ i, i < cap → 0 ≤ zs.getD i 0 ∧ zs.getD i 0 < 256 := fun i hi => by
      have hi' : i < zs.length := by omega
      have := hwf (zs.getD i 0) (by rw [List.getD_eq_getElem?_getD, List.getElem?_eq_getElem hi']; exact List.getElem_mem hi')
      simp only [Lit.wf, Bool.and_eq_true, decide_eq_true_eq] at this
      have e1 : IntKind.u8.min = 0 := by decide
      have e2 : IntKind.u8.max = 255 := by decide
      rw [e1, e2] at this
      omega
    refine ⟨some a, len, cap, (zs.take len).map fun z => UInt8.ofNat z.toNat, rfl, ⟨by simp; omega, hl, by simpa [maxLen] using hm, by omega, fun hc => ?_⟩⟩
    obtain ⟨b, o, s⟩ := a
    have h0 := hcell 0 (by omega)
    have hspot : s = none := by simpa [Addr.add] using World.cell?_spot h0
    subst hspot
    refine ⟨b, o, rfl, by simpa [Addr.add] using cell_lt h0, fun i hi => ?_⟩
    have hc := hcell i (by omega)
    rw [add_plain] at hc
    rw [hc]
    have hi' : i < zs.length := by omega
    obtain ⟨h1, h2⟩ := hv i (by omega)
    have e2 : zs.getD i 0 = zs[i] := by rw [List.getD_eq_getElem?_getD, List.getElem?_eq_getElem hi']; rfl
    rw [e2] at h1 h2 ⊢
    unfold bt
    simp [List.getD_eq_getElem?_getD, hi, List.getElem?_eq_getElem hi']
    omega
set_option maxRecDepth 100000 in
theorem weightsAll_mem {P : Program} {e : TypeId} : ∀ {l : List (DataW H)} {d : DataW H}, d ∈ l → ∀ n ∈ d.weights P e, n ∈ DataW.weightsAll P e l
  | d' :: r, d, hd, n, hn => by
    simp only [DataW.weightsAll, List.mem_append]
    rcases List.mem_cons.1 hd with rfl | h
    · exact Or.inl hn
    · exact Or.inr (weightsAll_mem h n hn)
set_option maxRecDepth 100000 in
theorem Sized.field {t : TypeId} {fs : Array Field} {l : List (DataW H)} (h : Sized t (.agg l)) (ht : Tryz.prog.underlying t = some (.struct fs)) {j : Nat} {f : Field} {d : DataW H} (hf : fs[j]? = some f) (hd : l[j]? = some d) : Sized f.type d := fun n hn => by
  refine h n ?_
  simp only [DataW.weights, ht]
  exact DataW.weights_mem_each (by simp [hf]) hd n hn
set_option maxRecDepth 100000 in
theorem Sized.elem {t e : TypeId} {l sp : List (DataW H)} (h : Sized t (.slice l sp)) (ht : Tryz.prog.underlying t = some (.slice e)) {d : DataW H} (hd : d ∈ l) : Sized e d := fun n hn => by
  refine h n ?_
  simp only [DataW.weights, ht, List.mem_cons, List.mem_append]
  exact Or.inr (Or.inl (weightsAll_mem hd n hn))
set_option maxRecDepth 100000 in
theorem Tryz.cellsInt : Tryz.prog.cellsOf 3 = 1 := by kernel_rfl
set_option maxRecDepth 100000 in
theorem Tryz.cellsI64 : Tryz.prog.cellsOf 2 = 1 := by kernel_rfl
set_option maxRecDepth 100000 in
theorem Tryz.cellsBool : Tryz.prog.cellsOf 4 = 1 := by kernel_rfl
set_option maxRecDepth 100000 in
theorem Tryz.cellsBytes : Tryz.prog.cellsOf 27 = 1 := by kernel_rfl
set_option maxRecDepth 100000 in
theorem Tryz.cellsTurn : Tryz.prog.cellsOf 29 = 3 := by kernel_rfl
theorem open_el {α : Type} [Inhabited α] (E : Ek α) (hk : Tryz.prog.cellsOf E.e = E.k) {W : World} (one : ∀ {fuel : Nat} {cs : List Value} {x : DataW H × List MemPlace}, DataW.trod enc Tryz.prog W 0 (fun _ => true) true fuel E.e cs = some x → ∃ y : α, cs = E.enc y ∧ E.ok y) {fuel : Nat} {cs : List Value} {x : DataW H × List MemPlace} (h : DataW.trod enc Tryz.prog W 0 (fun _ => true) true fuel E.t cs = some x) :
    ∃ a n c X, cs = [.slice a n c] ∧ E.In W.heap.size W a n c X := by
  rcases Go.Deep.open_slice E.under h with ⟨rfl, -⟩ | ⟨a, len, cap, m, n, D, Pl, rfl, -, hl, hm, hmm, rfl, hel⟩
  · exact ⟨none, 0, 0, [], rfl, Ek.In.nil _ _⟩
  · have hmc : m = cap := by simpa using hmm
    subst hmc
    by_cases h0 : m = 0
    · subst h0
      obtain rfl : len = 0 := by omega
      exact ⟨_, _, _, [], rfl, ⟨rfl, Nat.le_refl _, by omega, (fun x hx => by cases hx), fun h => by omega⟩⟩
    obtain ⟨b, o, s⟩ := a
    have hkp := E.kpos
    have hspot : s = none ∧ b < W.heap.size := by
      obtain ⟨cs', h1, -⟩ := hel 0 (by omega)
      obtain ⟨-, h3, h4⟩ := World.cells?_some h1
      rw [hk] at h3 h4
      have h5 := h4 0 hkp
      rw [List.getElem?_eq_getElem (by omega)] at h5
      exact ⟨by simpa [Addr.add] using World.cell?_spot h5, by simpa [Addr.add] using cell_lt h5⟩
    obtain ⟨rfl, hb⟩ := hspot
    have each : ∀ i, i < len → ∃ y : α, (∀ j, j < E.k → W.cell? ⟨b, o + i * E.k + j, none⟩ = (E.enc y)[j]?) ∧ E.ok y := fun i hi => by
      obtain ⟨cs', h1, h2⟩ := hel i (by omega)
      obtain ⟨-, h3, h4⟩ := World.cells?_some h1
      rw [hk] at h3 h4
      obtain ⟨y, e, hy⟩ := one h2
      subst e
      refine ⟨y, fun j hj => ?_, hy⟩
      have := h4 j hj
      rw [add_plain, add_plain] at this
      exact this
    obtain ⟨F, hF⟩ := Go.Deep.choose_lt each
    have hlen : ((List.range len).map F).length = len := by simp
    have hget : ∀ i, i < len → ((List.range len).map F).getD i default = F i := fun i hi => by
      rw [List.getD_eq_getElem?_getD, List.getElem?_map, List.getElem?_range hi]; rfl
    refine ⟨_, _, _, (List.range len).map F, rfl, ⟨hlen.symm, hl, by simpa [maxLen] using hm, fun p hp => ?_, fun _ => ⟨b, o, rfl, hb, fun i hi j hj => ?_⟩⟩⟩
    · obtain ⟨i, hi, rfl⟩ := List.mem_map.1 hp
      exact (hF i (List.mem_range.1 hi)).2
    · rw [hget i hi]
      exact (hF i hi).1 j hj
theorem open_elS {α : Type} [Inhabited α] (E : Ek α) (hk : Tryz.prog.cellsOf E.e = E.k) {W : World} (one : ∀ {fuel : Nat} {cs : List Value} {x : DataW H × List MemPlace}, DataW.trod enc Tryz.prog W 0 (fun _ => true) true fuel E.e cs = some x → ∃ y : α, cs = E.enc y ∧ E.ok y) {fuel : Nat} {cs : List Value} {x : DataW H × List MemPlace} (h : DataW.trod enc Tryz.prog W 0 (fun _ => true) true fuel E.t cs = some x) (hs : Sized E.t x.1) (hby : 1 ≤ Tryz.prog.bytesOf E.e) :
    ∃ a n c X, cs = [.slice a n c] ∧ E.In W.heap.size W a n c X ∧ n ≤ 140737488355328 := by
  rcases Go.Deep.open_slice E.under h with ⟨rfl, -⟩ | ⟨a, len, cap, m, n, D, Pl, rfl, -, hl, hm, hmm, rfl, hel⟩
  · exact ⟨none, 0, 0, [], rfl, Ek.In.nil _ _, by omega⟩
  · have hmc : m = cap := by simpa using hmm
    subst hmc
    by_cases h0 : m = 0
    · subst h0
      obtain rfl : len = 0 := by omega
      exact ⟨_, _, _, [], rfl, ⟨rfl, Nat.le_refl _, by omega, (fun x hx => by cases hx), fun h => by omega⟩, by omega⟩
    have hw := hs ((len + (m - len)) * Tryz.prog.bytesOf E.e) (by simp [DataW.weights, E.under])
    have hr : reachBytes = 140737488351232 := rfl
    have hlen2 : len ≤ 140737488355328 := by
      have h1 : len ≤ len + (m - len) := Nat.le_add_right _ _
      have h2 : (len + (m - len)) * 1 ≤ (len + (m - len)) * Tryz.prog.bytesOf E.e := Nat.mul_le_mul_left _ hby
      omega
    obtain ⟨b, o, s⟩ := a
    have hkp := E.kpos
    have hspot : s = none ∧ b < W.heap.size := by
      obtain ⟨cs', h1, -⟩ := hel 0 (by omega)
      obtain ⟨-, h3, h4⟩ := World.cells?_some h1
      rw [hk] at h3 h4
      have h5 := h4 0 hkp
      rw [List.getElem?_eq_getElem (by omega)] at h5
      exact ⟨by simpa [Addr.add] using World.cell?_spot h5, by simpa [Addr.add] using cell_lt h5⟩
    obtain ⟨rfl, hb⟩ := hspot
    have each : ∀ i, i < len → ∃ y : α, (∀ j, j < E.k → W.cell? ⟨b, o + i * E.k + j, none⟩ = (E.enc y)[j]?) ∧ E.ok y := fun i hi => by
      obtain ⟨cs', h1, h2⟩ := hel i (by omega)
      obtain ⟨-, h3, h4⟩ := World.cells?_some h1
      rw [hk] at h3 h4
      obtain ⟨y, e, hy⟩ := one h2
      subst e
      refine ⟨y, fun j hj => ?_, hy⟩
      have := h4 j hj
      rw [add_plain, add_plain] at this
      exact this
    obtain ⟨F, hF⟩ := Go.Deep.choose_lt each
    have hlen : ((List.range len).map F).length = len := by simp
    have hget : ∀ i, i < len → ((List.range len).map F).getD i default = F i := fun i hi => by
      rw [List.getD_eq_getElem?_getD, List.getElem?_map, List.getElem?_range hi]; rfl
    refine ⟨_, _, _, (List.range len).map F, rfl, ⟨hlen.symm, hl, by simpa [maxLen] using hm, fun p hp => ?_, fun _ => ⟨b, o, rfl, hb, fun i hi j hj => ?_⟩⟩, hlen2⟩
    · obtain ⟨i, hi, rfl⟩ := List.mem_map.1 hp
      exact (hF i (List.mem_range.1 hi)).2
    · rw [hget i hi]
      exact (hF i hi).1 j hj
theorem wf_u8' {a : Int} (h : (Lit.int .u8 a).wf = true) : 0 ≤ a ∧ a ≤ 255 := by
  simpa [Lit.wf, IntKind.min, IntKind.max, IntKind.signed, IntKind.bits] using h
theorem wf_in' {a : Int} (h : (Lit.int .i64 a).wf = true) : -9223372036854775808 ≤ a ∧ a ≤ 9223372036854775807 := by
  simpa [Lit.wf, IntKind.min, IntKind.max, IntKind.signed, IntKind.bits] using h
theorem Tryz.cellsDirtyO : Tryz.prog.cellsOf 80 = 2 := by kernel_rfl
theorem Tryz.cellsOpenO : Tryz.prog.cellsOf 200 = 2 := by kernel_rfl
theorem Tryz.cellsDirtiesO : Tryz.prog.cellsOf 30 = 1 := by kernel_rfl
theorem Tryz.cellsOpensO : Tryz.prog.cellsOf 31 = 1 := by kernel_rfl
theorem Tryz.cellsKindO : Tryz.prog.cellsOf 26 = 1 := by kernel_rfl
theorem Tryz.cellsRecO : Tryz.prog.cellsOf 33 = 11 := by kernel_rfl
theorem Tryz.cellsDeedO : Tryz.prog.cellsOf 35 = 15 := by kernel_rfl
set_option maxRecDepth 100000 in
theorem open_dirtyO {W : World} {fuel : Nat} {cs : List Value} {x : DataW H × List MemPlace} (h : DataW.trod enc Tryz.prog W 0 (fun _ => true) true fuel 80 cs = some x) : ∃ y : Int × Int, cs = encPr y ∧ okPr y := by
  obtain ⟨xs, n, -, rfl, hl, hxl, hf⟩ := DataW.trod_struct Tryz.underlying80 h
  rw [Tryz.cellsDirtyO] at hl
  match cs, hl with
  | [v0, v1], _ =>
    match xs, hxl with
    | [x0, x1], _ =>
      have g0 := hf 0 _ rfl
      have g1 := hf 1 _ rfl
      simp only [List.getElem?_cons_zero, List.getElem?_cons_succ] at g0 g1
      obtain ⟨q0, e0, -, h0⟩ := DataW.trod_int Tryz.underlying3 g0
      obtain ⟨q1, e1, -, h1⟩ := DataW.trod_int Tryz.underlying2 g1
      cases e0; cases e1
      exact ⟨(_, _), rfl, wf_in' h0, wf_in' h1⟩
set_option maxRecDepth 100000 in
theorem open_openO {W : World} {fuel : Nat} {cs : List Value} {x : DataW H × List MemPlace} (h : DataW.trod enc Tryz.prog W 0 (fun _ => true) true fuel 200 cs = some x) : ∃ y : Int × Int, cs = encPr y ∧ okPr y := by
  obtain ⟨xs, n, -, rfl, hl, hxl, hf⟩ := DataW.trod_struct Tryz.underlying200 h
  rw [Tryz.cellsOpenO] at hl
  match cs, hl with
  | [v0, v1], _ =>
    match xs, hxl with
    | [x0, x1], _ =>
      have g0 := hf 0 _ rfl
      have g1 := hf 1 _ rfl
      simp only [List.getElem?_cons_zero, List.getElem?_cons_succ] at g0 g1
      obtain ⟨q0, e0, -, h0⟩ := DataW.trod_int Tryz.underlying2 g0
      obtain ⟨q1, e1, -, h1⟩ := DataW.trod_int Tryz.underlying2 g1
      cases e0; cases e1
      exact ⟨(_, _), rfl, wf_in' h0, wf_in' h1⟩
structure RecV.Wf (r : RecV) : Prop where
  lsn : -9223372036854775808 ≤ r.lsn ∧ r.lsn ≤ 9223372036854775807
  work : -9223372036854775808 ≤ r.work ∧ r.work ≤ 9223372036854775807
  prev : -9223372036854775808 ≤ r.prev ∧ r.prev ≤ 9223372036854775807
  next : -9223372036854775808 ≤ r.next ∧ r.next ≤ 9223372036854775807
  page : -9223372036854775808 ≤ r.page ∧ r.page ≤ 9223372036854775807
  kind : r.kind ≤ 255
structure RecI (B : Nat) (w : World) (r : RecV) (ka oa na da pa : Option Addr) (kc oc nc dc pc : Nat) : Prop where
  k : RB B w ka r.key.length kc r.key
  o : RB B w oa r.old.length oc r.old
  n : RB B w na r.new.length nc r.new
  d : dirtyE.In B w da r.dirty.length dc r.dirty
  p : openE.In B w pa r.opn.length pc r.opn
  wf : r.Wf
  dl : r.dirty.length ≤ 140737488355328
  pl : r.opn.length ≤ 140737488355328
theorem RecI.below {B : Nat} {w w' : World} {r : RecV} {ka oa na da pa : Option Addr} {kc oc nc dc pc : Nat} (h : RecI B w r ka oa na da pa kc oc nc dc pc) (hb : Below B w w') : RecI B w' r ka oa na da pa kc oc nc dc pc :=
  ⟨h.k.below hb, h.o.below hb, h.n.below hb, h.d.below hb, h.p.below hb, h.wf, h.dl, h.pl⟩
def recL (r : RecV) (ka oa na da pa : Option Addr) (kc oc nc dc pc : Nat) : List Value :=
  [.int .i64 r.lsn, .int .i64 r.work, .int .i64 r.prev, .int .i64 r.next, .int .u8 r.kind, .int .i64 r.page, .slice ka r.key.length kc, .slice oa r.old.length oc, .slice na r.new.length nc, .slice da r.dirty.length dc, .slice pa r.opn.length pc]
set_option maxRecDepth 100000 in
theorem open_rec {W : World} {fuel : Nat} {cs : List Value} {x : DataW H × List MemPlace} (h : DataW.trod enc Tryz.prog W 0 (fun _ => true) true fuel 33 cs = some x) (hs : Sized 33 x.1) :
    ∃ r ka oa na da pa kc oc nc dc pc, cs = recL r ka oa na da pa kc oc nc dc pc ∧ RecI W.heap.size W r ka oa na da pa kc oc nc dc pc := by
  obtain ⟨xs, n, -, rfl, hl, hxl, hf⟩ := DataW.trod_struct Tryz.underlying33 h
  rw [Tryz.cellsRecO] at hl
  match cs, hl with
  | [v0, v1, v2, v3, v4, v5, v6, v7, v8, v9, v10], _ =>
    match xs, hxl with
    | [x0, x1, x2, x3, x4, x5, x6, x7, x8], _ =>
      have g0 := hf 0 _ rfl
      have g1 := hf 1 _ rfl
      have g2 := hf 2 _ rfl
      have g3 := hf 3 _ rfl
      have g4 := hf 4 _ rfl
      have g5 := hf 5 _ rfl
      have g6 := hf 6 _ rfl
      have g7 := hf 7 _ rfl
      have g8 := hf 8 _ rfl
      simp only [List.getElem?_cons_zero, List.getElem?_cons_succ] at g0 g1 g2 g3 g4 g5 g6 g7 g8
      obtain ⟨q0, e0, -, h0⟩ := DataW.trod_int Tryz.underlying2 g0
      obtain ⟨q1, e1, -, h1⟩ := DataW.trod_int Tryz.underlying2 g1
      obtain ⟨q2, e2, -, h2⟩ := DataW.trod_int Tryz.underlying2 g2
      obtain ⟨q3, e3, -, h3⟩ := DataW.trod_int Tryz.underlying2 g3
      obtain ⟨q4, e4, -, h4⟩ := DataW.trod_int Tryz.underlying26 g4
      obtain ⟨q5, e5, -, h5⟩ := DataW.trod_int Tryz.underlying3 g5
      have s6 := hs.field Tryz.underlying33 (j := 6) rfl (by rfl)
      obtain ⟨y0, y1, y2, m, rfl, -, k0, k1, k2⟩ := Go.Deep.trod_struct3 Tryz.underlying29 g6
      simp only [Tryz.cellsBytes, List.drop_zero] at k0 k1 k2
      have t0 := s6.field Tryz.underlying29 (j := 0) rfl (by rfl)
      have t1 := s6.field Tryz.underlying29 (j := 1) rfl (by rfl)
      have t2 := s6.field Tryz.underlying29 (j := 2) rfl (by rfl)
      obtain ⟨ka, kn, kc, K, f0, r0⟩ := open_bytes k0 t0
      obtain ⟨oa, on, oc, O, f1, r1⟩ := open_bytes k1 t1
      obtain ⟨na, nn, nc, N, f2, r2⟩ := open_bytes k2 t2
      have s7 := hs.field Tryz.underlying33 (j := 7) rfl (by rfl)
      have s8 := hs.field Tryz.underlying33 (j := 8) rfl (by rfl)
      obtain ⟨da, dn, dc, D, e7, hD, hdl⟩ := open_elS dirtyE Tryz.cellsDirtyO (fun h => open_dirtyO h) g7 s7 (by decide +kernel)
      obtain ⟨pa, pn, pc, Q, e8, hQ, hpl⟩ := open_elS openE Tryz.cellsOpenO (fun h => open_openO h) g8 s8 (by decide +kernel)
      cases e0; cases e1; cases e2; cases e3; cases e4; cases e5; cases f0; cases f1; cases f2; cases e7; cases e8
      obtain rfl := r0.len; obtain rfl := r1.len; obtain rfl := r2.len; obtain rfl := hD.len; obtain rfl := hQ.len
      have h4' := wf_u8' h4
      obtain ⟨qn, rfl⟩ : ∃ qn : Nat, q4 = (qn : Int) := ⟨q4.toNat, by omega⟩
      exact ⟨⟨q0, q1, q2, q3, qn, q5, K, O, N, D, Q⟩, ka, oa, na, da, pa, kc, oc, nc, dc, pc, rfl, r0, r1, r2, hD, hQ, ⟨wf_in' h0, wf_in' h1, wf_in' h2, wf_in' h3, wf_in' h5, by show qn ≤ 255; omega⟩, hdl, hpl⟩
structure DeedV where
  kind : Int
  page : Int
  r : RecV
  ka : Option Addr
  oa : Option Addr
  na : Option Addr
  da : Option Addr
  pa : Option Addr
  kc : Nat
  oc : Nat
  nc : Nat
  dc : Nat
  pc : Nat
  n : Int
  odd : Bool
instance : Inhabited DeedV := ⟨⟨0, 0, ⟨0, 0, 0, 0, 0, 0, [], [], [], [], []⟩, none, none, none, none, none, 0, 0, 0, 0, 0, 0, false⟩⟩
def deedL (d : DeedV) : List Value := [.int .i64 d.kind, .int .i64 d.page] ++ recL d.r d.ka d.oa d.na d.da d.pa d.kc d.oc d.nc d.dc d.pc ++ [.int .i64 d.n, .bool d.odd]
structure DeedI (B : Nat) (w : World) (d : DeedV) : Prop where
  r : RecI B w d.r d.ka d.oa d.na d.da d.pa d.kc d.oc d.nc d.dc d.pc
  kind : -9223372036854775808 ≤ d.kind ∧ d.kind ≤ 9223372036854775807
  page : -9223372036854775808 ≤ d.page ∧ d.page ≤ 9223372036854775807
  n : -9223372036854775808 ≤ d.n ∧ d.n ≤ 9223372036854775807
set_option maxRecDepth 100000 in
theorem open_deed {W : World} {fuel : Nat} {cs : List Value} {x : DataW H × List MemPlace} (h : DataW.trod enc Tryz.prog W 0 (fun _ => true) true fuel 35 cs = some x) (hs : Sized 35 x.1) :
    ∃ d : DeedV, cs = deedL d ∧ DeedI W.heap.size W d := by
  obtain ⟨xs, n, -, rfl, hl, hxl, hf⟩ := DataW.trod_struct Tryz.underlying35 h
  rw [Tryz.cellsDeedO] at hl
  match cs, hl with
  | [v0, v1, v2, v3, v4, v5, v6, v7, v8, v9, v10, v11, v12, v13, v14], _ =>
    match xs, hxl with
    | [x0, x1, x2, x3, x4], _ =>
      have g0 := hf 0 _ rfl
      have g1 := hf 1 _ rfl
      have g2 := hf 2 _ rfl
      have g3 := hf 3 _ rfl
      have g4 := hf 4 _ rfl
      simp only [List.getElem?_cons_zero, List.getElem?_cons_succ] at g0 g1 g2 g3 g4
      obtain ⟨q0, e0, -, h0⟩ := DataW.trod_int Tryz.underlying3 g0
      obtain ⟨q1, e1, -, h1⟩ := DataW.trod_int Tryz.underlying3 g1
      obtain ⟨q3, e3, -, h3⟩ := DataW.trod_int Tryz.underlying3 g3
      obtain ⟨b4, e4, -⟩ := DataW.trod_bool Tryz.underlying4 g4
      have s2 := hs.field Tryz.underlying35 (j := 2) rfl (by rfl)
      obtain ⟨r, ka, oa, na, da, pa, kc, oc, nc, dc, pc, e2, hr⟩ := open_rec g2 s2
      cases e0; cases e1; cases e3; cases e4
      unfold recL at e2
      injection e2 with i0 e2
      injection e2 with i1 e2
      injection e2 with i2 e2
      injection e2 with i3 e2
      injection e2 with i4 e2
      injection e2 with i5 e2
      injection e2 with i6 e2
      injection e2 with i7 e2
      injection e2 with i8 e2
      injection e2 with i9 e2
      injection e2 with i10 e2
      subst i0; subst i1; subst i2; subst i3; subst i4; subst i5; subst i6; subst i7; subst i8; subst i9; subst i10
      exact ⟨⟨q0, q1, r, ka, oa, na, da, pa, kc, oc, nc, dc, pc, q3, b4⟩, rfl, hr, wf_in' h0, wf_in' h1, wf_in' h3⟩
structure DeedsAt (B : Nat) (w : World) (a : Option Addr) (n c : Nat) (D : Nat → DeedV) : Prop where
  le : n ≤ c
  mx : c ≤ 9223372036854775807
  at_ : 0 < c → ∃ b o, a = some ⟨b, o, none⟩ ∧ b < B ∧ ∀ i, i < n → (∀ j, j < 15 → w.cell? ⟨b, o + i * 15 + j, none⟩ = (deedL (D i))[j]?) ∧ DeedI B w (D i)
theorem DeedsAt.below {B : Nat} {w w' : World} {a : Option Addr} {n c : Nat} {D : Nat → DeedV} (h : DeedsAt B w a n c D) (hb : Below B w w') : DeedsAt B w' a n c D :=
  ⟨h.le, h.mx, fun hc => by
    obtain ⟨b, o, rfl, hB, he⟩ := h.at_ hc
    exact ⟨b, o, rfl, hB, fun i hi => ⟨fun j hj => (hb.cell (p := ⟨b, o + i * 15 + j, none⟩) hB).trans ((he i hi).1 j hj), ⟨(he i hi).2.r.below hb, (he i hi).2.kind, (he i hi).2.page, (he i hi).2.n⟩⟩⟩⟩
set_option maxRecDepth 100000 in
theorem open_deeds {W : World} {fuel : Nat} {cs : List Value} {x : DataW H × List MemPlace} (h : DataW.trod enc Tryz.prog W 0 (fun _ => true) true fuel 22 cs = some x) (hs : Sized 22 x.1) :
    ∃ a n c D, cs = [.slice a n c] ∧ DeedsAt W.heap.size W a n c D := by
  rcases Go.Deep.open_slice Tryz.underlying22 h with ⟨rfl, -⟩ | ⟨a, len, cap, m, n, D, Pl, rfl, -, hl, hm, hmm, rfl, hel⟩
  · exact ⟨none, 0, 0, fun _ => default, rfl, Nat.le_refl _, by omega, fun h => by omega⟩
  · have hmc : m = cap := by simpa using hmm
    subst hmc
    by_cases h0 : m = 0
    · subst h0
      obtain rfl : len = 0 := by omega
      exact ⟨_, _, _, fun _ => default, rfl, Nat.le_refl _, by omega, fun h => by omega⟩
    obtain ⟨b, o, s⟩ := a
    have hspot : s = none ∧ b < W.heap.size := by
      obtain ⟨cs', h1, -⟩ := hel 0 (by omega)
      obtain ⟨-, h3, h4⟩ := World.cells?_some h1
      rw [Tryz.cellsDeedO] at h3 h4
      have h5 := h4 0 (by decide)
      rw [List.getElem?_eq_getElem (by omega)] at h5
      exact ⟨by simpa [Addr.add] using World.cell?_spot h5, by simpa [Addr.add] using cell_lt h5⟩
    obtain ⟨rfl, hb⟩ := hspot
    have each : ∀ i, i < len → ∃ d : DeedV, (∀ j, j < 15 → W.cell? ⟨b, o + i * 15 + j, none⟩ = (deedL d)[j]?) ∧ DeedI W.heap.size W d := fun i hi => by
      obtain ⟨cs', h1, h2⟩ := hel i (by omega)
      obtain ⟨-, h3, h4⟩ := World.cells?_some h1
      rw [Tryz.cellsDeedO] at h3 h4
      obtain ⟨d, rfl, hd⟩ := open_deed h2 (hs.elem Tryz.underlying22 (List.mem_map.2 ⟨i, List.mem_range.2 hi, rfl⟩))
      refine ⟨d, fun j hj => ?_, hd⟩
      have := h4 j hj
      rw [add_plain, add_plain] at this
      exact this
    obtain ⟨F, hF⟩ := Go.Deep.choose_lt each
    exact ⟨_, _, _, F, rfl, hl, by simpa [maxLen] using hm, fun _ => ⟨b, o, rfl, hb, hF⟩⟩
end
end Go.Proofs.YtohlkkannjifmaaGreatDoor
