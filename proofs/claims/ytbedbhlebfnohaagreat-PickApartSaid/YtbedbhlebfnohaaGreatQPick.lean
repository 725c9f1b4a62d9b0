/- flow.days: its walk. What is taken of lots, and what is left: plain Lean. -/
import Derived.Test.YtbedbhlebfnohaaGreatQWant
import Derived.Laws.OwnMore
import Derived.Test.YtbedbhlebfnohaaGreatQBridge
namespace Go.Proofs.YtbedbhlebfnohaaGreat
open Go.RowKit Go.Sort Go.Lib Go.Shelf

set_option maxRecDepth 100000 in
/-- slices.SortStableFunc of no ints. -/
theorem sortStableN_none (p : Option Addr) (cap : Nat) (fv : Value) (w : World) : Calls Tryz.prog 161 #[.slice p 0 cap, fv] w fun e w' => e = .returned (.tuple #[]) ∧ w' = w := by
  have HI := Lib.hid (AnyF.insertionSortCmpFunc_none Tryz.laysSlF020_f200 p cap fv w)
  have HS : Hid (Calls Tryz.prog 189 #[.slice p 0 cap, .int .i64 0, fv] w fun e w' => e = .returned (.tuple #[]) ∧ w' = w) := by
    refine Lib.hid ?_
    go_enter Tryz.func189, Tryz.ntmps189
    go_wp2_with (fail)
    go_loopw [7, 8] (fun s7 s8 wr => s7 = .int .i64 0 ∧ s8 = .int .i64 20 ∧ w = wr) (fun _ _ _ => 0)
    case atStart => exact ⟨rfl, rfl, rfl⟩
    case round =>
      obtain ⟨rfl, rfl, rfl⟩ := hrel
      go_wp2_with (go_at_call 200; refine HI.out.mono ?_; rintro e w9 ⟨rfl, rfl⟩)
      go_loopw [6] (fun s6 wr => s6 = .int .i64 20 ∧ w9 = wr) (fun _ _ => 0)
      case atStart => exact ⟨rfl, rfl⟩
      case round =>
        obtain ⟨rfl, rfl⟩ := hrel
        go_wp2_with (fail)
        go_end0
        exact ⟨rfl, rfl⟩
  go_enter Tryz.func161, Tryz.ntmps161
  go_wp2_with (go_at_call 189; refine HS.out.mono ?_; rintro e w9 ⟨rfl, rfl⟩)
  go_end0
  exact ⟨rfl, rfl⟩
theorem dayCmp_any (V : World) (bx b o n c i j : Nat) (di dj : Int) (hi : i < n) (hj : j < n) (hs : V.cell? ⟨bx, 0, none⟩ = some (.slice (some ⟨b, o, none⟩) n c)) (h1 : V.cell? ⟨b, o + i * 3 + 1, none⟩ = some (.int .i64 di)) (h2 : V.cell? ⟨b, o + j * 3 + 1, none⟩ = some (.int .i64 dj)) (b1 : 0 ≤ di) (b2 : di ≤ 4000) (b3 : 0 ≤ dj) (b4 : dj ≤ 4000) :
    Calls Tryz.prog 162 #[.int .i64 i, .int .i64 j, .pointer (some ⟨bx, 0, none⟩)] V fun e w' => e = .returned (.int .i64 (di - dj)) ∧ ∃ q, w' = V.drewN q := by
  have hw : IntKind.i64.wrap (di - dj) = di - dj := wrap_in (by omega) (by omega)
  go_enter Tryz.func162, Tryz.ntmps162
  go_wp2_with (fail)
  go_quiet (fail)
  go_wp2_with (fail)
  go_ret
  exact ⟨rfl, _, rfl⟩
def ltPD (W : List WantV) (N : Nat) (x y : Fin N) : Bool := decide ((W.getD x.1 default).day < (W.getD y.1 default).day ∨ ((W.getD x.1 default).day = (W.getD y.1 default).day ∧ x.1 < y.1))
theorem swoPD (W : List WantV) (N : Nat) : SWO (ltPD W N) where
  irrefl x := by unfold ltPD; exact decide_eq_false (by omega)
  trans x y z h1 h2 := by
    unfold ltPD at *
    have h1 := of_decide_eq_true h1
    have h2 := of_decide_eq_true h2
    exact decide_eq_true (by omega)
  ntrans x y z h1 h2 := by
    unfold ltPD at *
    have h1 := of_decide_eq_false h1
    have h2 := of_decide_eq_false h2
    exact decide_eq_false (by omega)
def dayC (W : List WantV) (N : Nat) (x y : Fin N) : Int := (W.getD x.1 default).day - (W.getD y.1 default).day
def encFin (N : Nat) (x : Fin N) : Value := .int .i64 (x.1 : Nat)
theorem ltPD_leD {W : List WantV} {N : Nat} {x y : Fin N} (h : ltPD W N y x = false) : leD W x.1 y.1 = true := by
  unfold ltPD at h
  have h := of_decide_eq_false h
  unfold leD
  simp only [Bool.or_eq_true, Bool.and_eq_true, decide_eq_true_eq]
  omega
theorem cell_sortWorld {α : Type} [Inhabited α] (enc : α → Value) (w : World) (blk off m : Nat) (dk : Array α) (os : Array Obj) {b o : Nat} (hb : b ≠ blk) (hl : b < w.heap.size) : (sortWorld enc w blk off m dk os).cell? ⟨b, o, none⟩ = w.cell? ⟨b, o, none⟩ := by
  have h : (sortWorld enc w blk off m dk os).heap[b]? = w.heap[b]? := by
    unfold sortWorld
    rw [grow_old _ _ (by simpa [putRow, mapBlock, Go.Sort.ahead] using hl)]
    simp [putRow, mapBlock, Go.Sort.ahead, Array.getElem?_modify, Ne.symm hb]
  unfold World.cell?
  simp only [h]
set_option maxRecDepth 100000 in
/-- The places sorted. -/
theorem sortPlaces (base g bx B c2 : Nat) (a2 : Option Addr) (N c : Nat) (W : List WantV) (w : World) (hN : N + 1 ≤ 20000)
    (h : w.ownsRow base 3 1 (.slice (some ⟨g, 0, none⟩) (N + 1) c) (N + 1) ((List.finRange (N + 1)).map (encFin (N + 1)))) (hw : wantE.In B w a2 (N + 1) c2 W) (hd : ∀ x ∈ W, 0 ≤ x.day ∧ x.day ≤ 4000) (hbx : w.cell? ⟨bx, 0, none⟩ = some (.slice a2 (N + 1) c2)) (hbl : bx < w.heap.size) (hb1 : bx ≠ g) (hBg : B ≤ g) :
    Calls Tryz.prog 161 #[.slice (some ⟨g, 0, none⟩) (N + 1) c, .func (.func 162) #[] #[.pointer (some ⟨bx, 0, none⟩)]] w fun e w' => e = .returned (.tuple #[]) ∧ w'.ownsRow base 3 1 (.slice (some ⟨g, 0, none⟩) (N + 1) c) (N + 1) ((dayO W).map fun i => .int .i64 (i : Nat)) ∧ OnlyB g w w' := by
  have hlt := (Tx.rows_ge h g rfl).2
  have hWl := hw.len
  obtain ⟨g', cap, e0, -, -, -, -, -, hH⟩ := holds_of_ownsRow h (by simp)
  injection e0 with e1 e2 e3
  injection e1 with e1
  injection e1 with e1
  subst e1
  subst e3
  have hsz : (List.finRange (N + 1)).toArray.size = N + 1 := by simp
  have hat : ∀ i (hi : i < N + 1), (List.finRange (N + 1)).toArray[i]! = ⟨i, hi⟩ := fun i hi => by
    rw [getElem!_pos _ i (by simpa using hi)]
    simp
  have R : Row1 (encFin (N + 1)) w g 0 (List.finRange (N + 1)).toArray := ⟨fun _ => rfl, hH, hlt⟩
  obtain ⟨b, o, ha2, hbB, hcell⟩ := wantE_at hw (by have := hw.le; omega)
  subst ha2
  have hday : ∀ i, i < N + 1 → 0 ≤ (W.getD i default).day ∧ (W.getD i default).day ≤ 4000 := fun i hi => by
    rw [List.getD_eq_getElem?_getD, List.getElem?_eq_getElem (by omega)]
    exact hd _ (List.getElem_mem _)
  refine (sortStableN (encFin (N + 1)) (dayC W (N + 1)) (ltPD W (N + 1)) (swoPD W (N + 1)) 162 #[.pointer (some ⟨bx, 0, none⟩)] g 0 c (N + 1) (List.finRange (N + 1)).toArray w (enters_of Tryz.func162 (by kernel_rfl) rfl) (fun m os dk _ x y => ?_) R hsz (by omega) (SW.start hH) (fun i j _ hij hj => ?_)).mono ?_
  · have hv := hday x.1 x.2
    have hv2 := hday y.1 y.2
    have := dayCmp_any (sortWorld (encFin (N + 1)) w g 0 m dk os) bx b o (N + 1) c2 x.1 y.1 (W.getD x.1 default).day (W.getD y.1 default).day x.2 y.2
      (by rw [cell_sortWorld _ _ _ _ _ _ _ hb1 hbl]; exact hbx) (by rw [cell_sortWorld _ _ _ _ _ _ _ (by omega) (by omega)]; exact (hcell x.1 x.2).2.1) (by rw [cell_sortWorld _ _ _ _ _ _ _ (by omega) (by omega)]; exact (hcell y.1 y.2).2.1) hv.1 hv.2 hv2.1 hv2.2
    refine Calls.mono (by simpa [encFin] using this) ?_
    rintro e w' ⟨rfl, q, rfl⟩
    exact ⟨rfl, q, #[], by rw [grow_empty]⟩
  · rw [hsz] at hj
    rw [hat i (by omega), hat j hj]
    unfold ltOf dayC ltPD
    congr 1
    apply propext
    simp only
    omega
  · rintro e w' ⟨rfl, d', h1, h2, h3, h4⟩
    obtain ⟨q1, q2⟩ := own_sorted1 h h2 h1
    refine ⟨rfl, ?_, q2⟩
    have hp := permIn_list (d := (List.finRange (N + 1)).toArray) (d' := d') (by rw [hsz]; exact h3)
    have hs := sortedIn_list h1 h4
    have e : d'.toList.map (fun x : Fin (N + 1) => x.1) = dayO W := by
      refine dayO_only ?_ ?_
      · have := hp.map (fun x : Fin (N + 1) => x.1)
        rw [show ((List.finRange (N + 1)).toArray.toList.map fun x : Fin (N + 1) => x.1) = List.range W.length by rw [← hWl]; exact List.ext_getElem (by simp) (fun i h1 h2 => by simp)] at this
        exact this
      · rw [List.pairwise_map]
        exact hs.imp fun {x y} hxy => ltPD_leD hxy
    have e2 : d'.toList.map (encFin (N + 1)) = (dayO W).map fun i => Value.int .i64 (i : Nat) := by
      rw [← e, List.map_map]
      rfl
    rw [← e2]
    exact q1
theorem row_next {n j : Nat} (hj : j < n) : (((List.range j).map fun i => Value.int .i64 (i : Nat)) ++ List.replicate (n - j) (Value.int .i64 0)).set j (Value.int .i64 (j : Nat)) = ((List.range (j + 1)).map fun i => Value.int .i64 (i : Nat)) ++ List.replicate (n - (j + 1)) (Value.int .i64 0) := by
  rw [List.set_append_right _ _ (by simp), List.range_succ, List.map_append, List.append_assoc]
  congr 1
  rw [List.length_map, List.length_range, Nat.sub_self, show n - j = (n - (j + 1)) + 1 by omega, List.replicate_succ]
  rfl
theorem intInfo : (Tryz.prog.info? 3).map (fun i => (i.zero, i.size, i.bytes)) = some (some (.int .i64 0), 1, 8) := by kernel_rfl
set_option maxHeartbeats 2000000 in
set_option maxRecDepth 100000 in
theorem days_any (B : Nat) (a2 : Option Addr) (n2 c2 : Nat) (W : List WantV) (w : World) (hw : wantE.In B w a2 n2 c2 W) (hB : B ≤ w.heap.size) (hn : n2 ≤ 20000) (hd : ∀ x ∈ W, 0 ≤ x.day ∧ x.day ≤ 4000) :
    Calls Tryz.prog 105 #[.slice a2 n2 c2] w fun e w' => (∃ g, e = .returned (.slice (some ⟨g, 0, none⟩) n2 n2) ∧ w'.ownsRow w.heap.size 3 1 (.slice (some ⟨g, 0, none⟩) n2 n2) n2 ((dayO W).map fun i => .int .i64 (i : Nat))) ∧ Below w.heap.size w w' := by
  obtain ⟨i0, hi, hz0, hz1, hz2⟩ := info_parts intInfo
  have hle := hw.le; have hmx := hw.mx
  have Hln := Lib.hid hw.len
  have HW := Lib.hid hw
  have HD := Lib.hid hd
  obtain ⟨W1, hW1⟩ : ∃ V, V = w.alloc (.cells #[.slice a2 n2 c2] 58) := ⟨_, rfl⟩
  have hs1 : W1.heap.size = w.heap.size + 1 := by rw [hW1, World.size_alloc]
  have hb1 : Below w.heap.size w W1 := by rw [hW1]; exact (Below.refl _ w).alloc (Nat.le_refl _) _
  have hbx : W1.cell? ⟨w.heap.size, 0, none⟩ = some (.slice a2 n2 c2) := by rw [hW1]; simp
  obtain ⟨W2, hrun, hown, hgrow⟩ := run_make_full (P := Tryz.prog) (w := W1) W1.heap.size 173 3 i0 (.int .i64 0) 1 Tryz.underlying173 hi hz0 hz1 .i64 .i64 n2 (by rw [hz2]; omega) (by simp only [maxLen]; omega) (Nat.le_refl _)
  rw [show (Value.int .i64 0).cells = #[.int .i64 0] from rfl, Nat.mul_one, toList_madeCells_one] at hown
  obtain ⟨gb, hgb⟩ : ∃ g, g = W1.heap.size := ⟨_, rfl⟩
  rw [← hgb] at hown hrun
  have B2 : Hid (Below W1.heap.size W1 W2) := Lib.hid ((Below.refl _ W1).grown hgrow (Nat.le_refl _) (fun r e => by cases e))
  have O2 := Lib.hid hown
  have HB1 := Lib.hid hb1
  have HW1 := Lib.hid hW1
  have HS1 := Lib.hid hs1
  have HBX := Lib.hid hbx
  have HGB := Lib.hid hgb
  clear hi hz0 hz1 hz2 hw hd hown hgrow hb1 hs1
  go_enter Tryz.func105, Tryz.ntmps105
  go_upto_region 1 with (fail)
  rw [← HW1.out]
  clear hW1
  clear hgb
  go_wp2_with (fail)
  clear hrun hbx
  go_loopw [10] (fun s10 wr => ∃ j : Nat, s10 = .int .i64 j ∧ j ≤ n2 ∧ Hid (wr.ownsRow gb 3 1 (.slice (some ⟨gb, 0, none⟩) n2 n2) n2 (((List.range j).map fun i => Value.int .i64 (i : Nat)) ++ List.replicate (n2 - j) (Value.int .i64 0))) ∧ Hid (Below W1.heap.size W1 wr)) (fun s10 _ => n2 - (intOf s10).toNat)
  case atStart => exact ⟨0, by go_num, Nat.zero_le _, by simpa using O2, B2⟩
  case round =>
    clear O2 B2
    obtain ⟨j, rfl, hj, HO, HB⟩ := hrel
    by_cases hlt : j < n2
    · have hc := HO.out.cellAt j (by omega)
      have hf := HO.out.frozenAt j
      obtain ⟨u, hu⟩ : ∃ u, (((List.range j).map fun i => Value.int .i64 (i : Nat)) ++ List.replicate (n2 - j) (Value.int .i64 0))[j]? = some u := ⟨_, List.getElem?_eq_getElem (by simp; omega)⟩
      rw [hu] at hc
      clear hu
      have HN := Lib.hid (HO.out.stored j (.int .i64 (j : Nat)))
      have hrn := Lib.hid (row_next hlt)
      go_wp2_with (fail)
      go_roundw
      case rel => exact ⟨j + 1, by go_num, by omega, Lib.hid (by rw [← hrn.out]; exact HN.out.1), Lib.hid (HB.out.grown HN.out.2 HB.out.size (fun k e => by cases e; rw [HGB.out]; exact Nat.le_refl _))⟩
      case measure => simp [intOf]; omega
    · have hge : j = n2 := by omega
      subst hge
      by_cases h0 : j = 0
      · subst h0
        have HNo := Lib.hid (sortStableN_none (some ⟨gb, 0, none⟩) 0 (.func (.func 162) #[] #[.pointer (some ⟨w.heap.size, 0, none⟩)]) wr)
        go_wp2_with (go_at_call 161; refine HNo.out.mono ?_; rintro e w9 ⟨rfl, rfl⟩)
        go_ret
        refine ⟨⟨gb, rfl, ?_⟩, HB1.out.trans (HB.out.mono (by rw [HS1.out]; exact Nat.le_succ _))⟩
        have hW0 : W = [] := List.eq_nil_of_length_eq_zero Hln.out.symm
        have e : (dayO W).map (fun i => Value.int .i64 (i : Nat)) = [] := by
          apply List.eq_nil_of_length_eq_zero
          rw [List.length_map, dayO_len, hW0]
          rfl
        rw [e]
        have := HO.out
        simp only [List.range_zero, List.map_nil, List.nil_append, Nat.sub_self, List.replicate_zero] at this
        exact Tx.rows_mono this (by rw [HGB.out, HS1.out]; exact Nat.le_succ _)
      · obtain ⟨N, rfl⟩ : ∃ N, j = N + 1 := ⟨j - 1, by omega⟩
        have e0 : ((List.range (N + 1)).map fun i => Value.int .i64 (i : Nat)) ++ List.replicate (N + 1 - (N + 1)) (Value.int .i64 0) = (List.finRange (N + 1)).map (encFin (N + 1)) := by
          rw [Nat.sub_self, List.replicate_zero, List.append_nil]
          exact List.ext_getElem (by simp) (fun i h1 h2 => by simp [encFin])
        have HO2 := HO.out
        rw [e0] at HO2
        have HS := Lib.hid (sortPlaces gb gb w.heap.size B c2 a2 N (N + 1) W wr hn HO2 (HW.out.below ((HB1.out.mono hB).trans (HB.out.mono (by rw [HS1.out]; omega)))) HD.out (by rw [HB.out.cell (p := ⟨w.heap.size, 0, none⟩) (by show w.heap.size < _; rw [HS1.out]; omega)]; exact HBX.out) (by have := HB.out.size; rw [HS1.out] at this; omega) (by rw [HGB.out, HS1.out]; omega) (by rw [HGB.out, HS1.out]; omega))
        clear HO2 e0
        go_wp2_with (go_at_call 161; refine HS.out.mono ?_; rintro e w9 ⟨rfl, hr9, ho9⟩)
        go_ret
        exact ⟨⟨gb, rfl, Tx.rows_mono hr9 (by rw [HGB.out, HS1.out]; exact Nat.le_succ _)⟩, below_only (HB1.out.trans (HB.out.mono (by rw [HS1.out]; exact Nat.le_succ _))) ho9 (Nat.le_refl _) (by rw [HGB.out, HS1.out]; exact Nat.le_succ _)⟩
end Go.Proofs.YtbedbhlebfnohaaGreat
namespace Go.Proofs.YtbedbhlebfnohaaGreat
open Go.RowKit

def usum : List UseV → Int → Int
  | [], _ => 0
  | u :: U, i => (if u.lot = i then u.qty else 0) + usum U i
theorem usum_append (U V : List UseV) (i : Int) : usum (U ++ V) i = usum U i + usum V i := by
  induction U with
  | nil => simp [usum]
  | cons u U ih => simp only [List.cons_append, usum, ih]; omega
theorem usum_nonneg {U : List UseV} (h : ∀ u ∈ U, 0 < u.qty) (i : Int) : 0 ≤ usum U i := by
  induction U with
  | nil => exact Int.le_refl _
  | cons u U ih =>
    have h1 := h u List.mem_cons_self
    have h2 := ih fun x hx => h x (List.mem_cons_of_mem _ hx)
    simp only [usum]
    split <;> omega
theorem usum_take {U : List UseV} (h : ∀ u ∈ U, 0 < u.qty) (i : Int) (k : Nat) : 0 ≤ usum (U.take k) i ∧ usum (U.take k) i ≤ usum U i := by
  have h1 := usum_nonneg (U := U.take k) (fun u hu => h u (List.mem_of_mem_take hu)) i
  have h2 := usum_nonneg (U := U.drop k) (fun u hu => h u (List.mem_of_mem_drop hu)) i
  have h3 := usum_append (U.take k) (U.drop k) i
  rw [List.take_append_drop] at h3
  omega
theorem usum_succ {U : List UseV} {k : Nat} (hk : k < U.length) (i : Int) : usum (U.take (k + 1)) i = usum (U.take k) i + (if (U.getD k default).lot = i then (U.getD k default).qty else 0) := by
  rw [List.take_succ_eq_append_getElem hk, usum_append, List.getD_eq_getElem?_getD, List.getElem?_eq_getElem hk]
  simp [usum]
theorem pass_sum (day at_ : Int) : ∀ (A : List LotV) (f : Int → Int) (need : Int), 0 ≤ need → (∀ a ∈ A, 0 ≤ f a.id) → (∀ i, (pass day at_ A f need).2.1 i + usum (pass day at_ A f need).1 i = f i) ∧ (∀ u ∈ (pass day at_ A f need).1, 0 < u.qty ∧ u.qty ≤ need ∧ u.want = at_ ∧ ∃ a ∈ A, a.id = u.lot)
  | [], f, need, _, _ => ⟨fun i => by simp [pass, usum], fun u hu => by cases hu⟩
  | l :: C, f, need, hn, h => by
    have hl := h l List.mem_cons_self
    rw [pass_cons]
    split
    · obtain ⟨h1, h2⟩ := pass_sum day at_ C f need hn fun x hx => h x (List.mem_cons_of_mem _ hx)
      exact ⟨h1, fun u hu => by
        obtain ⟨k1, k2, k3, a, k4, k5⟩ := h2 u hu
        exact ⟨k1, k2, k3, a, List.mem_cons_of_mem _ k4, k5⟩⟩
    · rename_i hc
      have hpos : 0 < min need (f l.id) := by
        have : min need (f l.id) ≠ 0 := fun e => hc (.inl e)
        omega
      have hu : ∀ j, 0 ≤ f j → 0 ≤ upd f l.id (f l.id - min need (f l.id)) j := fun j hj => by
        unfold upd
        split
        · omega
        · exact hj
      obtain ⟨h1, h2⟩ := pass_sum day at_ C (upd f l.id (f l.id - min need (f l.id))) (need - min need (f l.id)) (by omega) fun x hx => hu _ (h x (List.mem_cons_of_mem _ hx))
      refine ⟨fun i => ?_, fun u hu2 => ?_⟩
      · have := h1 i
        simp only [usum]
        unfold upd at this ⊢
        by_cases hi : l.id = i
        · subst hi
          simp only [if_true] at this ⊢
          omega
        · rw [if_neg hi]
          rw [if_neg (fun e => hi e.symm)] at this
          omega
      · rcases List.mem_cons.1 hu2 with rfl | hu2
        · exact ⟨hpos, by show min need _ ≤ need; omega, rfl, l, List.mem_cons_self, rfl⟩
        · obtain ⟨k1, k2, k3, a, k4, k5⟩ := h2 u hu2
          exact ⟨k1, by omega, k3, a, List.mem_cons_of_mem _ k4, k5⟩
theorem fillF_sum (S : List LotV) (W : List WantV) (hq : ∀ i, 0 ≤ (W.getD i default).qty) : ∀ (os : List Nat) (f : Int → Int) (out : List UseV), (∀ a ∈ S, 0 ≤ f a.id) → ∀ out' f', fillF S W os f out = some (out', f') →
    (∀ i, f' i + usum out' i = f i + usum out i) ∧ (∀ a ∈ S, 0 ≤ f' a.id) ∧ ∃ more, out' = out ++ more ∧ ∀ u ∈ more, 0 < u.qty ∧ (∃ a ∈ S, a.id = u.lot) ∧ ∃ i ∈ os, u.want = (i : Nat)
  | [], f, out, hf, out', f', h => by
    unfold fillF at h
    cases h
    exact ⟨fun i => rfl, hf, [], by simp, fun u hu => by cases hu⟩
  | o :: os, f, out, hf, out', f', h => by
    unfold fillF at h
    split at h
    · cases h
    · have hfS : ∀ a ∈ S.filter (fun l => decide (l.item = (W.getD o default).item)), 0 ≤ f a.id := fun a ha => hf a ((List.mem_filter.1 ha).1)
      obtain ⟨p1, p2⟩ := pass_sum (W.getD o default).day o (S.filter fun l => decide (l.item = (W.getD o default).item)) f (W.getD o default).qty (hq o) hfS
      obtain ⟨p3, -, -⟩ := pass_left (W.getD o default).day o (S.filter fun l => decide (l.item = (W.getD o default).item)) f (W.getD o default).qty (hq o) hfS
      obtain ⟨r1, r2, more, r3, r4⟩ := fillF_sum S W hq os _ _ (fun a ha => p3 a.id (hf a ha)) out' f' h
      refine ⟨fun i => ?_, r2, (pass (W.getD o default).day o (S.filter fun l => decide (l.item = (W.getD o default).item)) f (W.getD o default).qty).1 ++ more, by rw [r3, List.append_assoc], fun u hu => ?_⟩
      · have := r1 i
        rw [usum_append] at this
        have := p1 i
        omega
      · rcases List.mem_append.1 hu with hu | hu
        · obtain ⟨k1, k2, k3, a, k4, k5⟩ := p2 u hu
          exact ⟨k1, ⟨a, (List.mem_filter.1 k4).1, k5⟩, o, List.mem_cons_self, k3⟩
        · obtain ⟨k1, k2, i, k3, k4⟩ := r4 u hu
          exact ⟨k1, k2, i, List.mem_cons_of_mem _ k3, k4⟩
theorem left0_of {L : List LotV} (hid : (L.map (·.id)).Nodup) {l : LotV} (hl : l ∈ L) : left0 L l.id = l.qty := by
  unfold left0
  induction L with
  | nil => cases hl
  | cons x L ih =>
    rw [List.map_cons, List.nodup_cons] at hid
    rw [List.find?_cons]
    rcases List.mem_cons.1 hl with rfl | hl
    · simp
    · have : x.id ≠ l.id := fun e => hid.1 (by rw [e]; exact List.mem_map_of_mem hl)
      simp only [this, decide_false]
      exact ih hid.2 hl
theorem left0_nonneg {L : List LotV} (h : ∀ l ∈ L, 1 ≤ l.qty) (i : Int) : 0 ≤ left0 L i := by
  unfold left0
  cases hf : L.find? (fun l => decide (l.id = i)) with
  | none => simp
  | some x =>
    have := h x (List.mem_of_find?_eq_some hf)
    simp; omega
theorem mayB_iff {L : List LotV} {W : List WantV} : mayB L W = true ↔ L.length ≤ 300 ∧ W.length ≤ 20000 ∧ (∀ l ∈ L, lotOk l = true) ∧ (L.map (·.id)).Nodup ∧ (∀ w ∈ W, wantOk w = true) := by
  unfold mayB idsOk
  simp only [Bool.and_eq_true, decide_eq_true_eq, List.all_eq_true, and_assoc]
theorem lotOk_iff {l : LotV} : lotOk l = true ↔ 1 ≤ l.id ∧ okCode l.item = true ∧ 0 ≤ l.fr ∧ l.fr < l.un ∧ l.un ≤ 4001 ∧ 1 ≤ l.qty ∧ l.qty ≤ 1073741824 := by
  unfold lotOk
  simp only [Bool.and_eq_true, decide_eq_true_eq, and_assoc]
theorem wantOk_iff {w : WantV} : wantOk w = true ↔ okCode w.item = true ∧ 0 ≤ w.day ∧ w.day ≤ 4000 ∧ 1 ≤ w.qty ∧ w.qty ≤ 1125899906842624 := by
  unfold wantOk
  simp only [Bool.and_eq_true, decide_eq_true_eq, and_assoc]
theorem want_qty {W : List WantV} (h : ∀ w ∈ W, wantOk w = true) (i : Nat) : 0 ≤ (W.getD i default).qty := by
  rw [List.getD_eq_getElem?_getD]
  cases hw : W[i]? with
  | none => exact Int.le_refl _
  | some w => have := (wantOk_iff.1 (h w (List.mem_of_getElem? hw))).2.2.2.1; simp; omega
theorem fillX_sum {L : List LotV} {W : List WantV} {U : List UseV} {f : Int → Int} (h : fillX L W = some (U, f)) : mayB L W = true ∧ (∀ l ∈ L, f l.id + usum U l.id = l.qty ∧ 0 ≤ f l.id) ∧ ∀ u ∈ U, 0 < u.qty ∧ (∃ a ∈ L, a.id = u.lot) ∧ ∃ i : Nat, i < W.length ∧ u.want = i := by
  unfold fillX at h
  split at h
  · rename_i hm
    obtain ⟨m1, m2, m3, m4, m5⟩ := mayB_iff.1 hm
    have hq : ∀ l ∈ L, 1 ≤ l.qty := fun l hl => (lotOk_iff.1 (m3 l hl)).2.2.2.2.2.1
    obtain ⟨h1, h2, more, h3, h4⟩ := fillF_sum (srt L) W (want_qty m5) (dayO W) (left0 L) [] (fun a _ => left0_nonneg hq _) U f h
    rw [List.nil_append] at h3
    subst h3
    refine ⟨hm, fun l hl => ⟨?_, h2 l ((srt_perm L).mem_iff.2 hl)⟩, fun u hu => ?_⟩
    · have := h1 l.id
      rw [left0_of m4 hl] at this
      simp only [usum] at this
      omega
    · obtain ⟨k1, ⟨a, k2, k3⟩, i, k4, k5⟩ := h4 u hu
      exact ⟨k1, ⟨a, (srt_perm L).mem_iff.1 k2, k3⟩, i, dayO_mem.1 k4, k5⟩
  · cases h
end Go.Proofs.YtbedbhlebfnohaaGreat
