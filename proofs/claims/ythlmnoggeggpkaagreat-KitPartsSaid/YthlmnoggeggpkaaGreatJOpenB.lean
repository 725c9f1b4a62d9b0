/- Arguments opened: a slice of numbers; a slice of parts. A slice of parts opened, with int's range and the form's own reach. -/
import Derived.Test.YthlmnoggeggpkaaGreatJLent
import Derived.ProofKit
import Derived.OpenShut
import Derived.Deep.Slices
import Derived.Deep.Strs
namespace Go.Proofs.YthlmnoggeggpkaaGreat
open Go.ChangeShapes Go.WideShapes Go.ChangeAt Go.RowKit

section
variable {H : Type} {enc : TypeId × Value → H}

theorem Tryz.cellsI64 : Tryz.prog.cellsOf 2 = 1 := by kernel_rfl
theorem Tryz.cellsStr : Tryz.prog.cellsOf 9 = 1 := by kernel_rfl
theorem Tryz.cellsPart : Tryz.prog.cellsOf 45 = 2 := by kernel_rfl
theorem add_plain (b o i : Nat) : (⟨b, o, none⟩ : Addr).add i = ⟨b, o + i, none⟩ := by unfold Addr.add; split <;> simp_all
theorem cell_lt {w : World} {a : Addr} {v : Value} (h : w.cell? a = some v) : a.block < w.heap.size := by
  unfold World.cell? at h
  rcases Nat.lt_or_ge a.block w.heap.size with hl | hl
  · exact hl
  · rw [Array.getElem?_eq_none hl] at h; simp at h
theorem wf_in' {a : Int} (h : (Lit.int .i64 a).wf = true) : -9223372036854775808 ≤ a ∧ a ≤ 9223372036854775807 := by
  simpa [Lit.wf, IntKind.min, IntKind.max, IntKind.signed, IntKind.bits] using h

theorem open_longs {W : World} {fuel : Nat} {cs : List Value} {x : DataW H × List MemPlace} (h : DataW.trod enc Tryz.prog W 0 (fun _ => true) true fuel 50 cs = some x) :
    ∃ a n c L, cs = [.slice a n c] ∧ RL W.heap.size W a n c L := by
  rcases open_ints Tryz.underlying50 Tryz.underlying2 Tryz.cellsI64 h with ⟨rfl, -⟩ | ⟨a, len, cap, zs, rfl, -, hl, hm, hz, rfl, hcell, hwf⟩
  · exact ⟨none, 0, 0, [], rfl, rfl, Nat.le_refl _, by omega, (fun x hx => by cases hx), fun h => by omega⟩
  · have hz' : zs.length = cap := by simpa using hz
    refine ⟨some a, len, cap, zs.take len, rfl, by rw [List.length_take]; omega, hl, by simpa [maxLen] using hm, fun x hx => wf_in' (hwf x (List.mem_of_mem_take hx)), fun hc => ?_⟩
    obtain ⟨b, o, s⟩ := a
    have h0 := hcell 0 (by omega)
    have hspot : s = none := by simpa [Addr.add] using World.cell?_spot h0
    subst hspot
    refine ⟨b, o, rfl, by simpa [Addr.add] using cell_lt h0, fun i hi => ?_⟩
    have hc := hcell i (by omega)
    rw [add_plain] at hc
    rw [hc, List.getD_eq_getElem?_getD, List.getD_eq_getElem?_getD, List.getElem?_take, if_pos hi]

set_option maxRecDepth 100000 in
theorem open_part {W : World} {fuel : Nat} {cs : List Value} {x : DataW H × List MemPlace} (h : DataW.trod enc Tryz.prog W 0 (fun _ => true) true fuel 45 cs = some x) :
    ∃ p : Pt, cs = encP p ∧ p.1.length ≤ 9223372036854775807 ∧ -9223372036854775808 ≤ p.2 ∧ p.2 ≤ 9223372036854775807 := by
  obtain ⟨xs, n, -, rfl, hl, hxl, hf⟩ := DataW.trod_struct Tryz.underlying45 h
  rw [Tryz.cellsPart] at hl
  match cs, hl with
  | [v0, v1], _ =>
    match xs, hxl with
    | [x0, x1], _ =>
      have g0 := hf 0 _ rfl
      have g1 := hf 1 _ rfl
      simp only [Tryz.cellsI64, Tryz.cellsStr, List.drop_succ_cons, List.drop_zero, List.take_succ_cons, List.take_zero, List.getElem?_cons_zero, List.getElem?_cons_succ] at g0 g1
      obtain ⟨s, e0, -, hs⟩ := DataW.trod_string Tryz.underlying9 g0
      obtain ⟨q, e1, -, hq⟩ := DataW.trod_int Tryz.underlying2 g1
      cases e0; cases e1
      have hq' := wf_in' hq
      exact ⟨(s.data.toList, q), by simp [encP], by simpa [maxLen] using hs, hq'.1, hq'.2⟩

set_option maxRecDepth 100000 in
theorem open_parts {W : World} {fuel : Nat} {cs : List Value} {x : DataW H × List MemPlace} (h : DataW.trod enc Tryz.prog W 0 (fun _ => true) true fuel 26 cs = some x) :
    ∃ a n c P, cs = [.slice a n c] ∧ RP W.heap.size W a n c P := by
  rcases Go.Deep.open_slice Tryz.underlying26 h with ⟨rfl, -⟩ | ⟨a, len, cap, m, n, D, Pl, rfl, -, hl, hm, hmm, rfl, hel⟩
  · exact ⟨none, 0, 0, [], rfl, rfl, Nat.le_refl _, by omega, (fun x hx => by cases hx), fun h => by omega⟩
  · have hmc : m = cap := by simpa using hmm
    subst hmc
    by_cases h0 : m = 0
    · subst h0
      obtain rfl : len = 0 := by omega
      exact ⟨_, _, _, [], rfl, rfl, Nat.le_refl _, by omega, (fun x hx => by cases hx), fun h => by omega⟩
    obtain ⟨b, o, s⟩ := a
    have hspot : s = none ∧ b < W.heap.size := by
      obtain ⟨cs', h1, -⟩ := hel 0 (by omega)
      obtain ⟨-, h3, h4⟩ := World.cells?_some h1
      rw [Tryz.cellsPart] at h3 h4
      have h5 := h4 0 (by decide)
      rw [List.getElem?_eq_getElem (by omega)] at h5
      exact ⟨by simpa [Addr.add] using World.cell?_spot h5, by simpa [Addr.add] using cell_lt h5⟩
    obtain ⟨rfl, hb⟩ := hspot
    have each : ∀ i, i < len → ∃ p : Pt, (W.cell? ⟨b, o + i * 2, none⟩ = some (encStr p.1) ∧ W.cell? ⟨b, o + i * 2 + 1, none⟩ = some (.int .i64 p.2)) ∧ p.1.length ≤ 9223372036854775807 ∧ -9223372036854775808 ≤ p.2 ∧ p.2 ≤ 9223372036854775807 := fun i hi => by
      obtain ⟨cs', h1, h2⟩ := hel i (by omega)
      obtain ⟨-, h3, h4⟩ := World.cells?_some h1
      rw [Tryz.cellsPart] at h3 h4
      obtain ⟨p, e, hp⟩ := open_part h2
      subst e
      refine ⟨p, ⟨?_, ?_⟩, hp⟩
      · have := h4 0 (by decide)
        rw [add_plain, add_plain] at this
        exact this
      · have := h4 1 (by decide)
        rw [add_plain, add_plain] at this
        exact this
    obtain ⟨F, hF⟩ := Go.Deep.choose_lt each
    have hlen : ((List.range len).map F).length = len := by simp
    have hget : ∀ i, i < len → ((List.range len).map F).getD i default = F i := fun i hi => by
      rw [List.getD_eq_getElem?_getD, List.getElem?_map, List.getElem?_range hi]; rfl
    refine ⟨_, _, _, (List.range len).map F, rfl, hlen.symm, hl, by simpa [maxLen] using hm, fun p hp => ?_, fun _ => ⟨b, o, rfl, hb, fun i hi => ?_⟩⟩
    · obtain ⟨i, hi, rfl⟩ := List.mem_map.1 hp
      exact (hF i (List.mem_range.1 hi)).2
    · rw [hget i hi]
      exact (hF i hi).1
end
end Go.Proofs.YthlmnoggeggpkaaGreat
namespace Go.Proofs.YthlmnoggeggpkaaGreat
open Go.ChangeShapes Go.WideShapes Go.ChangeAt Go.RowKit

section
variable {H : Type} {enc : TypeId × Value → H}

theorem Tryz.bytesPart : Tryz.prog.bytesOf 45 = 24 := by kernel_rfl
/-- What the form's own reach says of a reading. -/
def Sized (t : TypeId) (d : DataW H) : Prop := ∀ n ∈ d.weights Tryz.prog t, n ≤ reachBytes
theorem weightsAll_mem {P : Program} {e : TypeId} : ∀ {l : List (DataW H)} {d : DataW H}, d ∈ l → ∀ n ∈ d.weights P e, n ∈ DataW.weightsAll P e l
  | d' :: r, d, hd, n, hn => by
    simp only [DataW.weightsAll, List.mem_append]
    rcases List.mem_cons.1 hd with rfl | h
    · exact Or.inl hn
    · exact Or.inr (weightsAll_mem h n hn)
theorem Sized.elem {t e : TypeId} {l sp : List (DataW H)} (h : Sized t (.slice l sp)) (ht : Tryz.prog.underlying t = some (.slice e)) {d : DataW H} (hd : d ∈ l) : Sized e d := fun n hn => by
  refine h n ?_
  simp only [DataW.weights, ht, List.mem_cons, List.mem_append]
  exact Or.inr (Or.inl (weightsAll_mem hd n hn))

set_option maxRecDepth 100000 in
theorem open_part' {W : World} {fuel : Nat} {cs : List Value} {x : DataW H × List MemPlace} (h : DataW.trod enc Tryz.prog W 0 (fun _ => true) true fuel 45 cs = some x) (hs : Sized 45 x.1) :
    ∃ p : Pt, cs = encP p ∧ (p.1.length ≤ 9223372036854775807 ∧ -9223372036854775808 ≤ p.2 ∧ p.2 ≤ 9223372036854775807) ∧ p.1.length ≤ 140737488355328 := by
  obtain ⟨xs, n, -, rfl, hl, hxl, hf⟩ := DataW.trod_struct Tryz.underlying45 h
  rw [Tryz.cellsPart] at hl
  match cs, hl with
  | [v0, v1], _ =>
    match xs, hxl with
    | [x0, x1], _ =>
      have g0 := hf 0 _ rfl
      have g1 := hf 1 _ rfl
      simp only [Tryz.cellsI64, Tryz.cellsStr, List.drop_succ_cons, List.drop_zero, List.take_succ_cons, List.take_zero, List.getElem?_cons_zero, List.getElem?_cons_succ] at g0 g1
      obtain ⟨s, e0, ex, hs0⟩ := DataW.trod_string Tryz.underlying9 g0
      obtain ⟨q, e1, -, hq⟩ := DataW.trod_int Tryz.underlying2 g1
      cases e0; cases e1; cases ex
      have hq' := wf_in' hq
      have hr := hs s.data.toList.length (by
        simp only [DataW.weights, Tryz.underlying45]
        exact DataW.weights_mem_each (j := 0) rfl rfl _ (by simp [DataW.weights]))
      exact ⟨(s.data.toList, q), by simp [encP], ⟨by simpa [maxLen] using hs0, hq'.1, hq'.2⟩, by simp only [reachBytes] at hr; exact Nat.le_trans hr (by decide)⟩

set_option maxRecDepth 100000 in
theorem open_parts' {W : World} {fuel : Nat} {cs : List Value} {x : DataW H × List MemPlace} (h : DataW.trod enc Tryz.prog W 0 (fun _ => true) true fuel 26 cs = some x) (hs : Sized 26 x.1) :
    ∃ a n c P, cs = [.slice a n c] ∧ RP W.heap.size W a n c P ∧ n ≤ 140737488355328 ∧ ∀ p ∈ P, p.1.length ≤ 140737488355328 := by
  rcases Go.Deep.open_slice Tryz.underlying26 h with ⟨rfl, -⟩ | ⟨a, len, cap, m, n, D, Pl, rfl, -, hl, hm, hmm, rfl, hel⟩
  · exact ⟨none, 0, 0, [], rfl, ⟨rfl, Nat.le_refl _, by omega, (fun x hx => by cases hx), fun h => by omega⟩, by omega, fun p hp => by cases hp⟩
  · have hmc : m = cap := by simpa using hmm
    subst hmc
    by_cases h0 : m = 0
    · subst h0
      obtain rfl : len = 0 := by omega
      exact ⟨_, _, _, [], rfl, ⟨rfl, Nat.le_refl _, by omega, (fun x hx => by cases hx), fun h => by omega⟩, by omega, fun p hp => by cases hp⟩
    have hlw := hs ((len + (m - len)) * 24) (by
      simp only [DataW.weights, Tryz.underlying26, Tryz.bytesPart, List.length_map, List.length_range, List.mem_cons]
      first | exact Or.inl trivial | exact Or.inl rfl)
    have hlen47 : len ≤ 140737488355328 := by
      have hr : reachBytes ≤ 140737488355328 := by decide
      omega
    obtain ⟨b, o, s⟩ := a
    have hspot : s = none ∧ b < W.heap.size := by
      obtain ⟨cs', h1, -⟩ := hel 0 (by omega)
      obtain ⟨-, h3, h4⟩ := World.cells?_some h1
      rw [Tryz.cellsPart] at h3 h4
      have h5 := h4 0 (by decide)
      rw [List.getElem?_eq_getElem (by omega)] at h5
      exact ⟨by simpa [Addr.add] using World.cell?_spot h5, by simpa [Addr.add] using cell_lt h5⟩
    obtain ⟨rfl, hb⟩ := hspot
    have each : ∀ i, i < len → ∃ p : Pt, (W.cell? ⟨b, o + i * 2, none⟩ = some (encStr p.1) ∧ W.cell? ⟨b, o + i * 2 + 1, none⟩ = some (.int .i64 p.2)) ∧ (p.1.length ≤ 9223372036854775807 ∧ -9223372036854775808 ≤ p.2 ∧ p.2 ≤ 9223372036854775807) ∧ p.1.length ≤ 140737488355328 := fun i hi => by
      obtain ⟨cs', h1, h2⟩ := hel i (by omega)
      obtain ⟨-, h3, h4⟩ := World.cells?_some h1
      rw [Tryz.cellsPart] at h3 h4
      obtain ⟨p, e, hp⟩ := open_part' h2 (hs.elem Tryz.underlying26 (List.mem_map.2 ⟨i, List.mem_range.2 hi, rfl⟩))
      subst e
      refine ⟨p, ⟨?_, ?_⟩, hp⟩
      · have := h4 0 (by decide)
        rw [add_plain, add_plain] at this
        exact this
      · have := h4 1 (by decide)
        rw [add_plain, add_plain] at this
        exact this
    obtain ⟨F, hF⟩ := Go.Deep.choose_lt each
    have hlen : ((List.range len).map F).length = len := by simp
    have hget : ∀ i, i < len → ((List.range len).map F).getD i default = F i := fun i hi => by
      rw [List.getD_eq_getElem?_getD, List.getElem?_map, List.getElem?_range hi]; rfl
    refine ⟨_, _, _, (List.range len).map F, rfl, ⟨hlen.symm, hl, by simpa [maxLen] using hm, fun p hp => ?_, fun _ => ⟨b, o, rfl, hb, fun i hi => ?_⟩⟩, hlen47, fun p hp => ?_⟩
    · obtain ⟨i, hi, rfl⟩ := List.mem_map.1 hp
      exact (hF i (List.mem_range.1 hi)).2.1
    · rw [hget i hi]
      exact (hF i hi).1
    · obtain ⟨i, hi, rfl⟩ := List.mem_map.1 hp
      exact (hF i (List.mem_range.1 hi)).2.2
end
end Go.Proofs.YthlmnoggeggpkaaGreat
