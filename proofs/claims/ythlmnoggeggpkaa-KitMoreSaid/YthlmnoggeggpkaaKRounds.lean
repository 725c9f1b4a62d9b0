/- How deep items are, by the document: round by round. -/
import Derived.Test.YthlmnoggeggpkaaKDeep
namespace Go.Proofs.Ythlmnoggeggpkaa
open Go.RowKit

/-- A whole block of numbers. -/
def OI (W : World) (g n : Nat) (f : Nat → Int) : Prop := W.heap[g]? = some (.cells ((List.range n).map fun i => Value.int .i64 (f i)).toArray 3 (0, 0))
theorem OI.lt {W : World} {g n : Nat} {f : Nat → Int} (h : OI W g n f) : g < W.heap.size := (Array.getElem?_eq_some_iff.1 h).1
theorem OI.cell {W : World} {g n : Nat} {f : Nat → Int} (h : OI W g n f) {i : Nat} (hi : i < n) : W.cell? ⟨g, i, none⟩ = some (.int .i64 (f i)) := by
  have h' : W.heap[g]? = _ := h
  unfold World.cell?
  rw [h']
  simp [hi]
theorem OI.frozen {W : World} {g n : Nat} {f : Nat → Int} (h : OI W g n f) (i : Nat) : W.frozen? ⟨g, i, none⟩ = false := by
  have h' : W.heap[g]? = _ := h
  simp [World.frozen?, h']
theorem OI.set {W : World} {g n : Nat} {f : Nat → Int} (h : OI W g n f) (i : Nat) (v : Int) : OI (W.setCell ⟨g, i, none⟩ (.int .i64 v)) g n (setO f i v) := by
  have hb : W.heap[g]? = _ := h
  show (W.heap.modify g _)[g]? = _
  rw [Array.getElem?_modify, if_pos rfl, hb]
  simp only [Option.map_some, Option.isSome_none, Bool.false_eq_true, if_false]
  congr 2
  apply Array.ext'
  simp only [Array.toList_setIfInBounds]
  apply List.ext_getElem?
  intro k
  rw [List.getElem?_set]
  by_cases hk : k < n
  · by_cases e : i = k
    · subst e
      simp [setO, hk]
    · simp [setO, e, Ne.symm e, hk]
  · simp [hk]
    intro e1
    omega
theorem OI.block {W W' : World} {g n : Nat} {f : Nat → Int} (h : OI W g n f) (hb : W'.heap[g]? = W.heap[g]?) : OI W' g n f := hb.trans h
theorem infoI : (Try.prog.info? 3).map (fun i => (i.zero, i.size, i.bytes)) = some (some (.int .i64 0), 1, 8) := by kernel_rfl
set_option maxRecDepth 100000 in
theorem makeI (n : Nat) (hn : n ≤ 100000) (W : World) : ∃ cs, (Instr.makeSlice 60 (.int .i64 (n : Int)) (.int .i64 (n : Int))).run Try.prog W = .ok (.slice (some ⟨W.heap.size, 0, none⟩) n n) (W.alloc (.cells cs 3)) ∧ OI (W.alloc (.cells cs 3)) W.heap.size n (fun _ => 0) := by
  obtain ⟨i0, hi, hz0, hz1, hz2⟩ := info_parts infoI
  have hmk := run_make (P := Try.prog) W 60 3 i0 _ Try.underlying60 hi hz0 .i64 .i64 (n : Int) (n : Int) (by omega) (Int.le_refl _) (by rw [hz2]; omega) (by omega)
  rw [Int.toNat_natCast] at hmk
  refine ⟨_, hmk, ?_⟩
  unfold OI
  rw [heap_alloc_new]
  congr 2
  apply Array.ext'
  rw [hz1, Nat.mul_one]
  have h : (madeCells (Value.int .i64 0).cells n).toList = List.replicate n (Value.int .i64 0) := toList_madeCells_one _ _
  rw [h]
  simp [List.map_const']
def cd (X : List It) (i : Nat) : List UInt8 := (X.getD i default).code
theorem cd_mem {X : List It} {i : Nat} (hi : i < X.length) : cd X i ∈ codes X := List.mem_map.2 ⟨_, getD_mem hi, rfl⟩
theorem cd_inj {X : List It} (hd : (codes X).Nodup) {i j : Nat} (hi : i < X.length) (hj : j < X.length) (h : cd X i = cd X j) : i = j := by
  have e : ∀ k, k < X.length → (codes X)[k]? = some (cd X k) := fun k hk => by
    unfold codes cd
    rw [List.getElem?_map, List.getElem?_eq_getElem hk, List.getD_eq_getElem?_getD, List.getElem?_eq_getElem hk]; rfl
  have hl : (codes X).length = X.length := by unfold codes; rw [List.length_map]
  exact (List.getElem?_inj (by rw [hl]; exact hi) hd).1 (by rw [e i hi, e j hj, h])
theorem itF_cd {X : List It} (hd : (codes X).Nodup) {i : Nat} (hi : i < X.length) : itF X (cd X i) = some (X.getD i default) := by
  obtain ⟨x, hx, hxm, hxc⟩ := itF_some (cd_mem hi)
  obtain ⟨j, hj, rfl⟩ := List.getElem_of_mem hxm
  have hjd : X[j] = X.getD j default := by rw [List.getD_eq_getElem?_getD, List.getElem?_eq_getElem hj]; rfl
  have : j = i := cd_inj hd hj hi (by unfold cd at *; rw [← hjd]; exact hxc)
  subst this
  rw [hx, hjd]
theorem kids_cd {X : List It} (hd : (codes X).Nodup) {i : Nat} (hi : i < X.length) : kidsX X (cd X i) = (X.getD i default).ps.map (·.1) := by
  unfold kidsX
  rw [itF_cd hd hi]
theorem there {X : List It} {c : List UInt8} (h : c ∈ codes X) : ∃ i, i < X.length ∧ fI X c = (i : Int) ∧ cd X i = c := by
  obtain ⟨x, hx, rfl⟩ := List.mem_map.1 h
  obtain ⟨j, hj, rfl⟩ := List.getElem_of_mem hx
  exact fI_there ⟨j, hj, by rw [List.getD_eq_getElem?_getD, List.getElem?_eq_getElem hj]; rfl⟩
theorem Snd.le {X : List It} {o : List UInt8 → Nat} (h : Snd (kidsX X) o) (hV : ∀ c ∈ codes X, ∀ p ∈ kidsX X c, p ∈ codes X) {c : List UInt8} (hc : c ∈ codes X) (hl : X.length ≤ 60) : o c ≤ 60 := by
  by_cases h0 : o c = 0
  · omega
  · obtain ⟨k, hk⟩ := h c h0
    have := hgt_le hV hc hk
    unfold codes at this
    rw [List.length_map] at this
    omega
/-- What the rounds have told. -/
def RD (X : List It) (w : World) (g n r i : Nat) (o : List UInt8 → Nat) (wr : World) : Prop :=
  OI wr g n (fun i => (o (cd X i) : Int)) ∧ Snd (kidsX X) o ∧ Cmp (kidsX X) (codes X) r o ∧ (∀ j, j < i → ∀ d, hgt (kidsX X) (r + 1) (cd X j) = some d → o (cd X j) = d) ∧ Below w.heap.size w wr
theorem OI.congr {W : World} {g n : Nat} {f f' : Nat → Int} (h : OI W g n f) (he : ∀ i, i < n → f i = f' i) : OI W g n f' := by
  unfold OI at h ⊢
  rw [h]
  congr 3
  apply List.map_congr_left
  intro i hi
  rw [he i (List.mem_range.1 hi)]
/-- One item more is told. -/
theorem RD.step {X : List It} {w wr : World} {g n r i : Nat} {o : List UInt8 → Nat} (h : RD X w g n r i o wr) (hn : n = X.length) (hi : i < n) (hd : (codes X).Nodup) (hV : ∀ c ∈ codes X, ∀ p ∈ kidsX X c, p ∈ codes X) (hg : w.heap.size ≤ g) {v : Nat} (hv : v = valO o (kidsX X (cd X i))) : RD X w g n r (i + 1) (setO o (cd X i) v) (wr.setCell ⟨g, i, none⟩ (.int .i64 (v : Int))) := by
  obtain ⟨h1, h2, h3, h4, h5⟩ := h
  have hm := cd_mem (X := X) (i := i) (by omega)
  refine ⟨(h1.set i (v : Int)).congr fun j hj => ?_, by rw [hv]; exact h2.step _, by rw [hv]; exact h3.step (hV _ hm), fun j hj d hd' => ?_, ?_⟩
  · by_cases e : j = i
    · subst e; rw [setO_same, setO_same]
    · rw [setO_other _ e, setO_other _ (fun e2 => e (cd_inj hd (by omega) (by omega) e2))]
  · by_cases e : cd X j = cd X i
    · rw [e, setO_same, hv]
      rw [e] at hd'
      exact val_of h3 (hV _ hm) hd'
    · rw [setO_other _ e]
      refine h4 j ?_ d hd'
      by_cases e2 : j = i
      · subst e2; exact absurd rfl e
      · omega
  · exact ⟨h5.os, h5.tape, h5.output, by simpa [World.setCell] using h5.size, fun k hk => (Below.heap_setCell wr ⟨g, i, none⟩ _ k (by show k ≠ g; omega)).trans (h5.block k hk)⟩
theorem RD.next {X : List It} {w wr : World} {g n r : Nat} {o : List UInt8 → Nat} (h : RD X w g n r n o wr) (hn : n = X.length) : RD X w g n (r + 1) 0 o wr := by
  obtain ⟨h1, h2, h3, h4, h5⟩ := h
  refine ⟨h1, h2, fun c hc d hd => ?_, fun j hj => absurd hj (Nat.not_lt_zero _), h5⟩
  obtain ⟨i, hi, -, rfl⟩ := there hc
  exact h4 i (by omega) d hd
end Go.Proofs.Ythlmnoggeggpkaa
