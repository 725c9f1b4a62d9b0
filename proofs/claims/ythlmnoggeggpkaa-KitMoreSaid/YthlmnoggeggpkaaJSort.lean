/- The walk of Join's comparison; the sort of the call's own parts. -/
import Derived.Test.YthlmnoggeggpkaaJAdd
import Derived.Test.YthlmnoggeggpkaaJShelf
import Derived.Shelf.SlSortCmp.NoneTotal
namespace Go.Proofs.Ythlmnoggeggpkaa
open Go.RowKit Go.Shelf Go.Sort Go.Lib

set_option maxHeartbeats 1000000 in
theorem cmp_any (x y : Pt) (W : World) : Calls Try.prog 43 #[.agg #[encStr x.1, .int .i64 x.2], .agg #[encStr y.1, .int .i64 y.2]] W fun e w' => e = .returned (.int .i64 (cfP x y)) ∧ ∃ q os', w' = grow (W.drewN q) os' := by
  have hcon := fun W' => Try.strings_Compare ⟨x.1.toArray⟩ ⟨y.1.toArray⟩ W'
  have e : Lib.compareBytes x.1.toArray.toList y.1.toArray.toList = cfP x y := rfl
  rw [e] at hcon
  clear e
  generalize cfP x y = r at hcon ⊢
  go_enter Try.func43, Try.ntmps43
  go_wp2_with (go_at_call 38; refine (hcon _).mono ?_; rintro e w' ⟨rfl, rfl⟩)
  go_ret
  exact ⟨rfl, 0, _, by rw [alloc_eq_grow, alloc_eq_grow, grow_grow]; rfl⟩

theorem ltP (x y : Pt) : ltOf cfP x y = decide (x.1 < y.1) := cfP_lt x y
theorem swoP : SWO (ltOf cfP) where
  irrefl x := by rw [ltP]; exact decide_eq_false (List.lt_irrefl _)
  trans x y z h1 h2 := by
    rw [ltP] at *
    exact decide_eq_true (List.lt_trans (of_decide_eq_true h1) (of_decide_eq_true h2))
  ntrans x y z h1 h2 := by
    rw [ltP] at *
    have e1 := List.not_lt.1 (of_decide_eq_false h1)
    have e2 := List.not_lt.1 (of_decide_eq_false h2)
    exact decide_eq_false (List.not_lt.2 (List.le_trans e2 e1))

theorem flat_cells (d : Array Pt) : flatK encP 2 d = (cellsP d.toList).toArray := by
  have hlen := cellsP_len d.toList
  refine ext_get! (by simp [hlen]) fun t ht => ?_
  have ht' : t < d.size * 2 := by simpa using ht
  rw [get_flatK _ _ _ _ ht']
  have hat := cellsP_at d.toList (t / 2) (by simp; omega)
  have e : d[t / 2]! = d.toList.getD (t / 2) default := by
    rw [getElem!_pos d (t / 2) (by omega), List.getD_eq_getElem?_getD, List.getElem?_eq_getElem (by simp; omega)]
    simp
  rw [e]
  obtain ⟨p, hp⟩ : ∃ p, p = d.toList.getD (t / 2) default := ⟨_, rfl⟩
  rw [← hp] at hat ⊢
  rcases (show t = t / 2 * 2 ∨ t = t / 2 * 2 + 1 by omega) with h | h
  · have e1 : (cellsP d.toList).toArray[t]! = encStr p.1 := by
      have := hat.1
      rw [← h] at this
      simp [this]
    rw [e1, show t % 2 = 0 by omega]; rfl
  · have e1 : (cellsP d.toList).toArray[t]! = .int .i64 p.2 := by
      have := hat.2
      rw [← h] at this
      simp [this]
    rw [e1, show t % 2 = 1 by omega]; rfl

theorem OP.holds {base g cap : Nat} {w : World} {P : List Pt} (h : OP base w (.slice (some ⟨g, 0, none⟩) P.length cap) P) : HoldsK encP 2 w g 0 P.toArray := by
  obtain ⟨h1, ⟨h2, -⟩ | ⟨g', cap', cur, hv, hg, hh, hle, hcap, hsz, htk⟩⟩ := h
  · cases h2
  · cases hv
    intro j hj
    rw [flat_cells] at hj ⊢
    simp only [List.size_toArray] at hj
    rw [cellsP_len] at hj
    simp only [World.cell?, World.frozen?, hh, Nat.zero_add]
    have e : (cellsP P).toArray[j]! = cur.toList[j]! := by
      have e2 := congrArg (fun l : List Value => l[j]?) htk
      simp only [List.getElem?_take] at e2
      rw [if_pos (by simpa using hj)] at e2
      simp [← e2]
    simp only [id, Option.isSome_none, Bool.false_eq_true, if_false]
    refine ⟨?_, by simp⟩
    rw [e]
    have : j < cur.size := by rw [hsz]; omega
    simp [this]
theorem OP.sorted {base g cap : Nat} {w : World} {P : List Pt} (h : OP base w (.slice (some ⟨g, 0, none⟩) P.length cap) P) {d : Array Pt} (hd : d.size = P.length) (n : Nat) (os : Array Obj) :
    OP base (sortWorldK encP 2 w g 0 n d os) (.slice (some ⟨g, 0, none⟩) P.length cap) d.toList ∧ Below base w (sortWorldK encP 2 w g 0 n d os) := by
  obtain ⟨h1, ⟨h2, -⟩ | ⟨g', cap', cur, hv, hg, hh, hle, hcap, hsz, htk⟩⟩ := h
  · cases h2
  · cases hv
    have hlt := (Array.getElem?_eq_some_iff.1 hh).1
    have hsz' : (putRowK encP 2 (Sort.ahead w n) g 0 d).heap.size = w.heap.size := size_putRowK encP 2 (Sort.ahead w n) g 0 d
    have hheap : (sortWorldK encP 2 w g 0 n d os).heap = (w.heap.modify g (onCells (putCells id 0 (flatK encP 2 d)))) ++ os := rfl
    have hnew : (sortWorldK encP 2 w g 0 n d os).heap[g]? = some (.cells (putCells id 0 (flatK encP 2 d) cur) 39 (0, 0)) := by
      rw [hheap, Array.getElem?_append_left (by simpa using hlt), Array.getElem?_modify, if_pos rfl, hh]
      first | done | rfl
    refine ⟨⟨by rw [cellsP_len], .inr ⟨g, cap, _, by simp [hd], hg, hnew, by simpa [hd] using hle, hcap, by simp [putCells, hsz], ?_⟩⟩, ?_⟩
    · apply List.ext_getElem?
      intro j
      have hlen := cellsP_len d.toList
      rw [List.getElem?_take]
      have hdl : d.toList.length = P.length := by simpa using hd
      by_cases hj : j < d.toList.length * 2
      · rw [if_pos hj]
        have hjc : j < cur.size := by rw [hsz]; omega
        rw [flat_cells]
        simp only [putCells, Array.getElem?_toList, Array.getElem?_mapIdx]
        rw [Array.getElem?_eq_getElem hjc]
        simp only [Option.map_some, Nat.zero_le, true_and, Nat.zero_add, List.size_toArray]
        rw [if_pos (by rw [hlen]; exact hj)]
        rw [List.getElem?_eq_getElem (by rw [hlen]; exact hj)]
        simp [hlen, hj]
        rw [List.getElem?_eq_getElem (by rw [hlen]; simpa using hj)]
        rfl
      · rw [if_neg hj, List.getElem?_eq_none (by rw [hlen]; omega)]
    · refine ⟨rfl, rfl, rfl, ?_, fun k hk => ?_⟩
      · rw [hheap]; simp
      · rw [hheap, Array.getElem?_append_left (by simp; omega), Array.getElem?_modify, if_neg (by omega)]

set_option maxHeartbeats 1000000 in
theorem sort_any (base g cap : Nat) (P S : List Pt) (w : World) (h : OP base w (.slice (some ⟨g, 0, none⟩) P.length cap) P) (hu : Up S) (hp : P.Perm S) (hlen : P.length < 4611686018427387904) :
    Calls Try.prog 42 #[.slice (some ⟨g, 0, none⟩) P.length cap, .func (.func 43) #[] #[]] w fun e w' => e = .returned (.tuple #[]) ∧ OP base w' (.slice (some ⟨g, 0, none⟩) P.length cap) S ∧ Below base w w' := by
  have eg : ∀ args w, (callFunc 43 args).run Try.prog w = .ok (.enter 43 args) w := enters_of Try.func43 (by kernel_rfl) rfl
  have hlt := (h.ge g rfl).2
  have hcon := AnyQ.slices_SortFunc Try.sortP 2 Try.isAgg39 Try.sizeOf39 encP (fun _ => rfl) (fun x v hv => by simp [encP] at hv; rcases hv with rfl | rfl <;> rfl) cfP swoP 43 #[] g 0 cap P.toArray w eg (fun _ _ _ _ x y => cmp_any x y _) h.holds hlt (by simpa using hlen)
  simp only [List.size_toArray] at hcon
  refine hcon.mono fun e w' ⟨he, d', n, os, hperm, hsort, hw⟩ => ⟨he, ?_⟩
  have hsz : d'.size = P.length := by simpa using hperm.1
  have e1 : d'.toList = S := hu.sorted_in (d := P.toArray) ltP (by simpa using hperm) (by simpa using hsort) (by simpa using hp)
  have := h.sorted hsz n os
  rw [e1] at this
  rw [hw]
  exact this
end Go.Proofs.Ythlmnoggeggpkaa
