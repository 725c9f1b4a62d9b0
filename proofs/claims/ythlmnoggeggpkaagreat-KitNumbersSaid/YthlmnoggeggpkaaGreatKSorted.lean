/- The walk of Join's comparison; the sort of the call's own parts. slices.SortedFunc over a map's keys, by strings.Compare. -/
import Derived.Test.YthlmnoggeggpkaaGreatJAdd
import Derived.Test.YthlmnoggeggpkaaGreatJShelf
import Derived.Shelf.SlSortCmp.NoneTotal
import Derived.Test.YthlmnoggeggpkaaGreatKMap
import Derived.Sort.OwnSorted
import Derived.Sort.KeysCollected
import Derived.Shelf.SlIter.Collect
namespace Go.Proofs.YthlmnoggeggpkaaGreat
open Go.RowKit Go.Shelf Go.Sort Go.Lib

set_option maxHeartbeats 1000000 in
theorem cmp_any (x y : Pt) (W : World) : Calls Tryz.prog 56 #[.agg #[encStr x.1, .int .i64 x.2], .agg #[encStr y.1, .int .i64 y.2]] W fun e w' => e = .returned (.int .i64 (cfP x y)) ∧ ∃ q os', w' = grow (W.drewN q) os' := by
  have hcon := fun W' => Tryz.strings_Compare ⟨x.1.toArray⟩ ⟨y.1.toArray⟩ W'
  have e : Lib.compareBytes x.1.toArray.toList y.1.toArray.toList = cfP x y := rfl
  rw [e] at hcon
  clear e
  generalize cfP x y = r at hcon ⊢
  go_enter Tryz.func56, Tryz.ntmps56
  go_wp2_with (go_at_call 34; refine (hcon _).mono ?_; rintro e w' ⟨rfl, rfl⟩)
  go_ret
  exact ⟨rfl, 0, _, by rw [alloc_eq_grow, alloc_eq_grow, grow_grow]; rfl⟩

theorem ltP (x y : Pt) : ltOf cfP x y = decide (x.1 < y.1) := cfP_lt x y
theorem swoP : SWO (ltOf cfP) where
  irrefl x := by rw [ltP]; exact decide_eq_false (List.lt_irrefl _)
  trans x y z h1 h2 := by
    rw [ltP] at *
    exact decide_eq_true (List.lt_trans (of_decide_eq_true h1) (of_decide_eq_true h2))
  ntrans x y z h1 h2 := by
    rw [ltP] at *
    have e1 := List.not_lt.1 (of_decide_eq_false h1)
    have e2 := List.not_lt.1 (of_decide_eq_false h2)
    exact decide_eq_false (List.not_lt.2 (List.le_trans e2 e1))

theorem flat_cells (d : Array Pt) : flatK encP 2 d = (cellsP d.toList).toArray := by
  have hlen := cellsP_len d.toList
  refine ext_get! (by simp [hlen]) fun t ht => ?_
  have ht' : t < d.size * 2 := by simpa using ht
  rw [get_flatK _ _ _ _ ht']
  have hat := cellsP_at d.toList (t / 2) (by simp; omega)
  have e : d[t / 2]! = d.toList.getD (t / 2) default := by
    rw [getElem!_pos d (t / 2) (by omega), List.getD_eq_getElem?_getD, List.getElem?_eq_getElem (by simp; omega)]
    simp
  rw [e]
  obtain ⟨p, hp⟩ : ∃ p, p = d.toList.getD (t / 2) default := ⟨_, rfl⟩
  rw [← hp] at hat ⊢
  rcases (show t = t / 2 * 2 ∨ t = t / 2 * 2 + 1 by omega) with h | h
  · have e1 : (cellsP d.toList).toArray[t]! = encStr p.1 := by
      have := hat.1
      rw [← h] at this
      simp [this]
    rw [e1, show t % 2 = 0 by omega]; rfl
  · have e1 : (cellsP d.toList).toArray[t]! = .int .i64 p.2 := by
      have := hat.2
      rw [← h] at this
      simp [this]
    rw [e1, show t % 2 = 1 by omega]; rfl

theorem OP.holds {base g cap : Nat} {w : World} {P : List Pt} (h : OP base w (.slice (some ⟨g, 0, none⟩) P.length cap) P) : HoldsK encP 2 w g 0 P.toArray := by
  obtain ⟨h1, ⟨h2, -⟩ | ⟨g', cap', cur, hv, hg, hh, hle, hcap, hsz, htk⟩⟩ := h
  · cases h2
  · cases hv
    intro j hj
    rw [flat_cells] at hj ⊢
    simp only [List.size_toArray] at hj
    rw [cellsP_len] at hj
    simp only [World.cell?, World.frozen?, hh, Nat.zero_add]
    have e : (cellsP P).toArray[j]! = cur.toList[j]! := by
      have e2 := congrArg (fun l : List Value => l[j]?) htk
      simp only [List.getElem?_take] at e2
      rw [if_pos (by simpa using hj)] at e2
      simp [← e2]
    simp only [id, Option.isSome_none, Bool.false_eq_true, if_false]
    refine ⟨?_, by simp⟩
    rw [e]
    have : j < cur.size := by rw [hsz]; omega
    simp [this]
theorem OP.sorted {base g cap : Nat} {w : World} {P : List Pt} (h : OP base w (.slice (some ⟨g, 0, none⟩) P.length cap) P) {d : Array Pt} (hd : d.size = P.length) (n : Nat) (os : Array Obj) :
    OP base (sortWorldK encP 2 w g 0 n d os) (.slice (some ⟨g, 0, none⟩) P.length cap) d.toList ∧ Below base w (sortWorldK encP 2 w g 0 n d os) := by
  obtain ⟨h1, ⟨h2, -⟩ | ⟨g', cap', cur, hv, hg, hh, hle, hcap, hsz, htk⟩⟩ := h
  · cases h2
  · cases hv
    have hlt := (Array.getElem?_eq_some_iff.1 hh).1
    have hsz' : (putRowK encP 2 (Sort.ahead w n) g 0 d).heap.size = w.heap.size := size_putRowK encP 2 (Sort.ahead w n) g 0 d
    have hheap : (sortWorldK encP 2 w g 0 n d os).heap = (w.heap.modify g (onCells (putCells id 0 (flatK encP 2 d)))) ++ os := rfl
    have hnew : (sortWorldK encP 2 w g 0 n d os).heap[g]? = some (.cells (putCells id 0 (flatK encP 2 d) cur) 45 (0, 0)) := by
      rw [hheap, Array.getElem?_append_left (by simpa using hlt), Array.getElem?_modify, if_pos rfl, hh]
      first | done | rfl
    refine ⟨⟨by rw [cellsP_len], .inr ⟨g, cap, _, by simp [hd], hg, hnew, by simpa [hd] using hle, hcap, by simp [putCells, hsz], ?_⟩⟩, ?_⟩
    · apply List.ext_getElem?
      intro j
      have hlen := cellsP_len d.toList
      rw [List.getElem?_take]
      have hdl : d.toList.length = P.length := by simpa using hd
      by_cases hj : j < d.toList.length * 2
      · rw [if_pos hj]
        have hjc : j < cur.size := by rw [hsz]; omega
        rw [flat_cells]
        simp only [putCells, Array.getElem?_toList, Array.getElem?_mapIdx]
        rw [Array.getElem?_eq_getElem hjc]
        simp only [Option.map_some, Nat.zero_le, true_and, Nat.zero_add, List.size_toArray]
        rw [if_pos (by rw [hlen]; exact hj)]
        rw [List.getElem?_eq_getElem (by rw [hlen]; exact hj)]
        simp [hlen, hj]
        rw [List.getElem?_eq_getElem (by rw [hlen]; simpa using hj)]
        rfl
      · rw [if_neg hj, List.getElem?_eq_none (by rw [hlen]; omega)]
    · refine ⟨rfl, rfl, rfl, ?_, fun k hk => ?_⟩
      · rw [hheap]; simp
      · rw [hheap, Array.getElem?_append_left (by simp; omega), Array.getElem?_modify, if_neg (by omega)]

set_option maxHeartbeats 1000000 in
theorem sort_any (base g cap : Nat) (P S : List Pt) (w : World) (h : OP base w (.slice (some ⟨g, 0, none⟩) P.length cap) P) (hu : Up S) (hp : P.Perm S) (hlen : P.length < 4611686018427387904) :
    Calls Tryz.prog 55 #[.slice (some ⟨g, 0, none⟩) P.length cap, .func (.func 56) #[] #[]] w fun e w' => e = .returned (.tuple #[]) ∧ OP base w' (.slice (some ⟨g, 0, none⟩) P.length cap) S ∧ Below base w w' := by
  have eg : ∀ args w, (callFunc 56 args).run Tryz.prog w = .ok (.enter 56 args) w := enters_of Tryz.func56 (by kernel_rfl) rfl
  have hlt := (h.ge g rfl).2
  have hcon := AnyQ.slices_SortFunc Tryz.sortP 2 Tryz.isAgg45 Tryz.sizeOf45 encP (fun _ => rfl) (fun x v hv => by simp [encP] at hv; rcases hv with rfl | rfl <;> rfl) cfP swoP 56 #[] g 0 cap P.toArray w eg (fun _ _ _ _ x y => cmp_any x y _) h.holds hlt (by simpa using hlen)
  simp only [List.size_toArray] at hcon
  refine hcon.mono fun e w' ⟨he, d', n, os, hperm, hsort, hw⟩ => ⟨he, ?_⟩
  have hsz : d'.size = P.length := by simpa using hperm.1
  have e1 : d'.toList = S := hu.sorted_in (d := P.toArray) ltP (by simpa using hperm) (by simpa using hsort) (by simpa using hp)
  have := h.sorted hsz n os
  rw [e1] at this
  rw [hw]
  exact this
end Go.Proofs.YthlmnoggeggpkaaGreat
namespace Go.Proofs.YthlmnoggeggpkaaGreat
open Go.RowKit Go.Shelf Go.Sort Go.Lib Go.Maps

theorem ltS (x y : List UInt8) : ltOf compareBytes x y = decide (x < y) := cfP_lt (x, 0) (y, 0)
theorem swoS : SWO (ltOf compareBytes) where
  irrefl x := by rw [ltS]; exact decide_eq_false (List.lt_irrefl _)
  trans x y z h1 h2 := by
    rw [ltS] at *
    exact decide_eq_true (List.lt_trans (of_decide_eq_true h1) (of_decide_eq_true h2))
  ntrans x y z h1 h2 := by
    rw [ltS] at *
    have e1 := List.not_lt.1 (of_decide_eq_false h1)
    have e2 := List.not_lt.1 (of_decide_eq_false h2)
    exact decide_eq_false (List.not_lt.2 (List.le_trans e2 e1))
theorem leS : (fun x y : List UInt8 => !(ltOf compareBytes) y x) = fun x y => decide (x ≤ y) := by
  funext x y
  rw [ltS]
  by_cases h : y < x
  · rw [decide_eq_true h, decide_eq_false (List.not_le.2 h)]; rfl
  · rw [decide_eq_false h, decide_eq_true (List.not_lt.1 h)]; rfl
instance : Inhabited (List UInt8) := ⟨[]⟩
/-- Own texts, sorted. -/
theorem sortS_any (base : Nat) (v : Value) (ss : List (List UInt8)) (w : World) (h : w.ownsRow base 9 1 v ss.length (ss.map encStr)) (hl : ss.length < 4611686018427387904) (hb : base ≤ w.heap.size) :
    Calls Tryz.prog 59 #[v, .func (.func 34) #[] #[]] w fun e w' => e = .returned (.tuple #[]) ∧ w'.ownsRow base 9 1 v ss.length ((ss.mergeSort fun x y => decide (x ≤ y)).map encStr) ∧ Below base w w' := by
  obtain ⟨h1, ⟨rfl, h0⟩ | ⟨g, cap, cur, rfl, hg, hh, hle, hcap, hsz, htk⟩⟩ := id h
  · have : ss = [] := List.eq_nil_of_length_eq_zero h0
    subst this
    refine (Tryz.slices_SortFunc_none (α := List UInt8) none 0 _ w).mono ?_
    rintro e w' ⟨he, rfl⟩
    exact ⟨he, by simpa using h, Below.refl _ _⟩
  · have eg : ∀ args w, (callFunc 34 args).run Tryz.prog w = .ok (.enter 34 args) w := enters_of Tryz.func34 (by kernel_rfl) rfl
    have hlt := (Array.getElem?_eq_some_iff.1 hh).1
    have hcmp : CmpLays1 Tryz.prog 34 #[] encStr compareBytes g 0 ss.toArray.size w := CmpReads.lays fun m os dk _ x y => (Tryz.strings_Compare ⟨x.toArray⟩ ⟨y.toArray⟩ _).mono fun e w' ⟨he, hw⟩ => ⟨he, 0, hw⟩
    have hH : Holds encStr w g 0 ss.toArray := holds_of_block hh (by rw [← htk, Nat.mul_one])
    have hc := Tryz.slices_SortFunc_total encStr (fun _ => rfl) compareBytes swoS 34 #[] g 0 cap ss.toArray w eg hcmp hH hlt (by simpa using hl) (fun x y h1 h2 => by
      rw [ltS] at h1 h2
      exact List.le_antisymm (List.not_lt.1 (of_decide_eq_false h2)) (List.not_lt.1 (of_decide_eq_false h1)))
    simp only [List.size_toArray] at hc
    refine hc.mono ?_
    rintro e w' ⟨he, n, os, rfl⟩
    rw [leS]
    refine ⟨he, ?_, ?_⟩
    · exact ownsRow_sorted (by simp) hg hh hle hcap hsz
    · exact (Below.refl base w).grown (grownBy_sorted _) hb (fun k e => by have := Option.some.inj e; omega)
set_option maxHeartbeats 1000000 in
/-- SortedFunc at an iterator over a map's keys. -/
theorem sortedF_any (b nn : Nat) (D : DataW Value) (w : World) (hown : w.ownsMap Tryz.prog 9 RVal b nn D) (hmax : Maps.size D ≤ 100000) :
    Calls Tryz.prog 32 #[.func (.func 60) #[] #[.pointer (some ⟨w.heap.size, 0, none⟩)], .func (.func 34) #[] #[]] (w.alloc (.cells #[.map (some b)] 55)) fun e w' => ∃ (v : Value) (ss : List (List UInt8)), e = .returned v ∧ ss.Perm (strKeys D) ∧
      w'.ownsRow (w.heap.size + 1) 9 1 v ss.length ((ss.mergeSort (fun x y => decide (x ≤ y))).map encStr) ∧ Below (w.heap.size + 1) (w.alloc (.cells #[.map (some b)] 55)) w' := by
  have hbl := hown.lt
  have hseq : SeqGives Fence.wide 2 Tryz.prog 60 #[.pointer (some ⟨w.heap.size, 0, none⟩)] encStr (fun ss => ss.Perm (strKeys D)) (Maps.size D) (w.alloc (.cells #[.map (some b)] 55)) :=
    AnyZ.keys_gives (ρ := Tryz.keysP_ren) { Tryz.keysP with } Fence.wide _ trivial rfl (by omega) w.heap.size b nn D _ (by simp) (by simp) (by
      obtain ⟨es, clock, hb, Ft, hs, hD⟩ := hown
      exact ⟨es, clock, (Below.heap_alloc _ _ b hbl).trans hb, Ft, hs, hD⟩)
  have hcol := callsIn_wide.1 (AnyZ.collect_in Tryz.collectP Fence.wide 4 trivial trivial rfl (by omega) 60 #[.pointer (some ⟨w.heap.size, 0, none⟩)] trivial (enters_of Tryz.func60 (by kernel_rfl) rfl) _ (Maps.size D) (by simp only [maxLen]; omega) (by omega) (w.alloc (.cells #[.map (some b)] 55)) hseq)
  have hc : Calls Tryz.prog 58 #[.func (.func 60) #[] #[.pointer (some ⟨w.heap.size, 0, none⟩)]] (w.alloc (.cells #[.map (some b)] 55)) fun e w' => ∃ (v : Value) (ss : List (List UInt8)), e = .returned v ∧ ss.Perm (strKeys D) ∧ w'.ownsRow (w.heap.size + 1) 9 1 v ss.length (ss.map encStr) ∧ Below (w.heap.size + 1) (w.alloc (.cells #[.map (some b)] 55)) w' := by
    refine hcol.mono ?_
    rintro e w' ⟨v, ss, he, hS, hrow, -, hb⟩
    rw [World.size_alloc] at hrow hb
    exact ⟨v, ss, he, hS, hrow, hb⟩
  have HC := Lib.hid hc
  have hlen : ∀ ss : List (List UInt8), ss.Perm (strKeys D) → ss.length < 4611686018427387904 := fun ss hp => by
    have h1 := hp.length_eq
    obtain ⟨es, rfl⟩ := hown.isMap
    simp only [strKeys, List.length_map, Maps.size] at h1 hmax
    omega
  have HLN := Lib.hid hlen
  clear hcol hseq hc hlen
  obtain ⟨W1, hW1⟩ : ∃ W, W = w.alloc (.cells #[.map (some b)] 55) := ⟨_, rfl⟩
  have hs1 : W1.heap.size = w.heap.size + 1 := by rw [hW1, World.size_alloc]
  rw [← hW1] at HC ⊢
  clear hW1
  obtain ⟨g, hg⟩ : ∃ g, g = w.heap.size := ⟨_, rfl⟩
  rw [← hg] at HC hs1 ⊢
  have HS1 := Lib.hid hs1
  clear hs1 hg hown hmax hbl
  go_enter Tryz.func32, Tryz.ntmps32
  go_wp2_with (fail)
  go_at_call 58
  refine HC.out.mono ?_
  rintro e w2 ⟨v, ss, rfl, hp, hrow, hb⟩
  have HS := Lib.hid (sortS_any (g + 1) v ss w2 hrow (HLN.out ss hp) (by rw [← HS1.out]; exact hb.size))
  have HP := Lib.hid hp
  have HB := Lib.hid hb
  clear hp hrow hb
  go_wp2_with (fail)
  go_at_call 59
  refine HS.out.mono ?_
  rintro e w3 ⟨rfl, hrow, hb⟩
  have HR := Lib.hid hrow
  have HB3 := Lib.hid (HB.out.trans hb)
  clear hrow hb HS
  go_wp2_with (fail)
  go_ret
  exact ⟨v, ss, rfl, HP.out, HR.out, HB3.out⟩
end Go.Proofs.YthlmnoggeggpkaaGreat
