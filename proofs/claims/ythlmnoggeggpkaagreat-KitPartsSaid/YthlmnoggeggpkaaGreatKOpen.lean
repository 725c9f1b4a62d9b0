/- A slice of items opened, with int's range and the form's own reach. -/
import Derived.Test.YthlmnoggeggpkaaGreatKGreat
import Derived.Test.YthlmnoggeggpkaaGreatJOpenB
namespace Go.Proofs.YthlmnoggeggpkaaGreat
open Go.ChangeShapes Go.WideShapes Go.ChangeAt Go.RowKit

section
variable {H : Type} {enc : TypeId × Value → H}

theorem Tryz.bytesStr : Tryz.prog.bytesOf 9 = 16 := by kernel_rfl
set_option maxRecDepth 100000 in
theorem open_texts' {W : World} {fuel : Nat} {cs : List Value} {x : DataW H × List MemPlace} (h : DataW.trod enc Tryz.prog W 0 (fun _ => true) true fuel 30 cs = some x) (hs : Sized 30 x.1) :
    ∃ a n c T, cs = [.slice a n c] ∧ RT W.heap.size W a n c T ∧ n ≤ 140737488355328 := by
  rcases Go.Deep.open_slice Tryz.underlying30 h with ⟨rfl, -⟩ | ⟨a, len, cap, m, n, D, Pl, rfl, -, hl, hm, hmm, rfl, hel⟩
  · exact ⟨none, 0, 0, [], rfl, ⟨rfl, Nat.le_refl _, by omega, (fun x hx => by cases hx), fun h => by omega⟩, by omega⟩
  · have hmc : m = cap := by simpa using hmm
    subst hmc
    by_cases h0 : m = 0
    · subst h0
      obtain rfl : len = 0 := by omega
      exact ⟨_, _, _, [], rfl, ⟨rfl, Nat.le_refl _, by omega, (fun x hx => by cases hx), fun h => by omega⟩, by omega⟩
    have hlw := hs ((len + (m - len)) * 16) (by
      simp only [DataW.weights, Tryz.underlying30, Tryz.bytesStr, List.length_map, List.length_range, List.mem_cons]
      first | exact Or.inl trivial | exact Or.inl rfl)
    have hlen47 : len ≤ 140737488355328 := by
      have hr : reachBytes ≤ 140737488355328 := by decide
      omega
    obtain ⟨b, o, s⟩ := a
    have hspot : s = none ∧ b < W.heap.size := by
      obtain ⟨cs', h1, -⟩ := hel 0 (by omega)
      obtain ⟨-, h3, h4⟩ := World.cells?_some h1
      rw [Tryz.cellsStr] at h3 h4
      have h5 := h4 0 (by decide)
      rw [List.getElem?_eq_getElem (by omega)] at h5
      exact ⟨by simpa [Addr.add] using World.cell?_spot h5, by simpa [Addr.add] using cell_lt h5⟩
    obtain ⟨rfl, hb⟩ := hspot
    have each : ∀ i, i < len → ∃ t : List UInt8, W.cell? ⟨b, o + i, none⟩ = some (encStr t) ∧ t.length ≤ 9223372036854775807 := fun i hi => by
      obtain ⟨cs', h1, h2⟩ := hel i (by omega)
      obtain ⟨-, h3, h4⟩ := World.cells?_some h1
      rw [Tryz.cellsStr] at h3 h4
      obtain ⟨s, e0, -, hs0⟩ := DataW.trod_string Tryz.underlying9 h2
      subst e0
      refine ⟨s.data.toList, ?_, by simpa [maxLen] using hs0⟩
      have := h4 0 (by decide)
      rw [add_plain, add_plain] at this
      simpa using this
    obtain ⟨F, hF⟩ := Go.Deep.choose_lt each
    have hlen : ((List.range len).map F).length = len := by simp
    have hget : ∀ i, i < len → ((List.range len).map F).getD i [] = F i := fun i hi => by
      rw [List.getD_eq_getElem?_getD, List.getElem?_map, List.getElem?_range hi]; rfl
    refine ⟨_, _, _, (List.range len).map F, rfl, ⟨hlen.symm, hl, by simpa [maxLen] using hm, fun p hp => ?_, fun _ => ⟨b, o, rfl, hb, fun i hi => ?_⟩⟩, hlen47⟩
    · obtain ⟨i, hi, rfl⟩ := List.mem_map.1 hp
      exact (hF i (List.mem_range.1 hi)).2
    · rw [hget i hi]
      exact (hF i hi).1
theorem Tryz.cellsItem : Tryz.prog.cellsOf 43 = 4 := by kernel_rfl
theorem Tryz.bytesItem : Tryz.prog.bytesOf 43 = 72 := by kernel_rfl
theorem Tryz.cellsParts : Tryz.prog.cellsOf 26 = 1 := by kernel_rfl
theorem Tryz.cellsTexts : Tryz.prog.cellsOf 30 = 1 := by kernel_rfl
theorem Tryz.cellsIntK : Tryz.prog.cellsOf 3 = 1 := by kernel_rfl
/-- What an item's own lists hold. -/
def LowOne (x : It) : Prop := x.code.length ≤ 140737488355328 ∧ x.ps.length ≤ 140737488355328 ∧ x.os.length ≤ 140737488355328 ∧ ∀ p ∈ x.ps, p.1.length ≤ 140737488355328
set_option maxRecDepth 100000 in
theorem open_item' {W : World} {fuel : Nat} {cs : List Value} {x : DataW H × List MemPlace} (h : DataW.trod enc Tryz.prog W 0 (fun _ => true) true fuel 43 cs = some x) (hs : Sized 43 x.1) :
    ∃ y : It, cs = encI y ∧ ItOk W.heap.size W y ∧ LowOne y := by
  obtain ⟨xs, n, -, rfl, hl, hxl, hf⟩ := DataW.trod_struct Tryz.underlying43 h
  rw [Tryz.cellsItem] at hl
  match cs, hl with
  | [v0, v1, v2, v3], _ =>
    match xs, hxl with
    | [x0, x1, x2, x3], _ =>
      have g0 := hf 0 _ rfl
      have g1 := hf 1 _ rfl
      have g2 := hf 2 _ rfl
      have g3 := hf 3 _ rfl
      simp only [Tryz.cellsIntK, Tryz.cellsStr, Tryz.cellsParts, Tryz.cellsTexts, List.drop_succ_cons, List.drop_zero, List.take_succ_cons, List.take_zero, List.getElem?_cons_zero, List.getElem?_cons_succ] at g0 g1 g2 g3
      obtain ⟨s, e0, ex, hs0⟩ := DataW.trod_string Tryz.underlying9 g0
      obtain ⟨q, e1, -, hq⟩ := DataW.trod_int Tryz.underlying3 g1
      cases e0; cases e1; cases ex
      have hq' := wf_in' hq
      have hr := hs s.data.toList.length (by
        simp only [DataW.weights, Tryz.underlying43]
        exact DataW.weights_mem_each (j := 0) rfl rfl _ (by simp [DataW.weights]))
      have hs2 : Sized 26 x2.1 := fun k hk => hs k (by
        simp only [DataW.weights, Tryz.underlying43]
        exact DataW.weights_mem_each (j := 2) rfl rfl _ hk)
      have hs3 : Sized 30 x3.1 := fun k hk => hs k (by
        simp only [DataW.weights, Tryz.underlying43]
        exact DataW.weights_mem_each (j := 3) rfl rfl _ hk)
      obtain ⟨pa, pn, pc, P, e2, hP, hP1, hP2⟩ := open_parts' g2 hs2
      obtain ⟨ta, tn, tc, T, e3, hT, hT1⟩ := open_texts' g3 hs3
      cases e2; cases e3
      obtain rfl := hP.len
      obtain rfl := hT.len
      exact ⟨⟨s.data.toList, q, pa, pc, P, ta, tc, T⟩, by simp [encI], ⟨by simpa [maxLen] using hs0, hq'.1, hq'.2, hP, hT⟩, by simp only [reachBytes] at hr; exact Nat.le_trans hr (by decide), hP1, hT1, hP2⟩
set_option maxRecDepth 100000 in
theorem open_items' {W : World} {fuel : Nat} {cs : List Value} {x : DataW H × List MemPlace} (h : DataW.trod enc Tryz.prog W 0 (fun _ => true) true fuel 22 cs = some x) (hs : Sized 22 x.1) :
    ∃ a n c X, cs = [.slice a n c] ∧ RI W.heap.size W a n c X ∧ LowI X := by
  rcases Go.Deep.open_slice Tryz.underlying22 h with ⟨rfl, -⟩ | ⟨a, len, cap, m, n, D, Pl, rfl, -, hl, hm, hmm, rfl, hel⟩
  · exact ⟨none, 0, 0, [], rfl, ⟨rfl, Nat.le_refl _, by omega, (fun x hx => by cases hx), fun h => by omega⟩, fun i hi => absurd hi (Nat.not_lt_zero _)⟩
  · have hmc : m = cap := by simpa using hmm
    subst hmc
    by_cases h0 : m = 0
    · subst h0
      obtain rfl : len = 0 := by omega
      exact ⟨_, _, _, [], rfl, ⟨rfl, Nat.le_refl _, by omega, (fun x hx => by cases hx), fun h => by omega⟩, fun i hi => absurd hi (Nat.not_lt_zero _)⟩
    obtain ⟨b, o, s⟩ := a
    have hspot : s = none ∧ b < W.heap.size := by
      obtain ⟨cs', h1, -⟩ := hel 0 (by omega)
      obtain ⟨-, h3, h4⟩ := World.cells?_some h1
      rw [Tryz.cellsItem] at h3 h4
      have h5 := h4 0 (by decide)
      rw [List.getElem?_eq_getElem (by omega)] at h5
      exact ⟨by simpa [Addr.add] using World.cell?_spot h5, by simpa [Addr.add] using cell_lt h5⟩
    obtain ⟨rfl, hb⟩ := hspot
    have each : ∀ i, i < len → ∃ y : It, (∀ j, j < 4 → W.cell? ⟨b, o + i * 4 + j, none⟩ = (encI y)[j]?) ∧ ItOk W.heap.size W y ∧ LowOne y := fun i hi => by
      obtain ⟨cs', h1, h2⟩ := hel i (by omega)
      obtain ⟨-, h3, h4⟩ := World.cells?_some h1
      rw [Tryz.cellsItem] at h3 h4
      obtain ⟨y, e, hy⟩ := open_item' h2 (hs.elem Tryz.underlying22 (List.mem_map.2 ⟨i, List.mem_range.2 hi, rfl⟩))
      subst e
      refine ⟨y, fun j hj => ?_, hy⟩
      have := h4 j hj
      rw [add_plain, add_plain] at this
      exact this
    obtain ⟨F, hF⟩ := Go.Deep.choose_lt each
    have hlen : ((List.range len).map F).length = len := by simp
    have hget : ∀ i, i < len → ((List.range len).map F).getD i default = F i := fun i hi => by
      rw [List.getD_eq_getElem?_getD, List.getElem?_map, List.getElem?_range hi]; rfl
    refine ⟨_, _, _, (List.range len).map F, rfl, ⟨hlen.symm, hl, by simpa [maxLen] using hm, fun p hp => ?_, fun _ => ⟨b, o, rfl, hb, fun i hi => ?_⟩⟩, fun i hi => ?_⟩
    · obtain ⟨i, hi, rfl⟩ := List.mem_map.1 hp
      exact (hF i (List.mem_range.1 hi)).2.1
    · rw [hget i hi]
      have := (hF i hi).1
      exact ⟨this 0 (by decide), this 1 (by decide), this 2 (by decide), this 3 (by decide)⟩
    · rw [hlen] at hi
      rw [hget i hi]
      exact (hF i hi).2.2
end
end Go.Proofs.YthlmnoggeggpkaaGreat
