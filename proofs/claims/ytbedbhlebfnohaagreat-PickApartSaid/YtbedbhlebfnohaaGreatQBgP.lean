/- storemankit's bag with lists of states: its put functions. (Printed by gen/pbag.py.) -/
import Derived.Test.YtbedbhlebfnohaaGreatKMarkT
import Derived.Test.YtbedbhlebfnohaaGreatTxTexts
namespace Go.Proofs.YtbedbhlebfnohaaGreat.Tx
open Go.RowKit

theorem rows_formS {base n : Nat} {e : TypeId} {W : World} {v : Value} {xs : List Value} (h : W.ownsRow base e 1 v n xs) (h0 : 0 < n) : ∃ g c, v = .slice (some ⟨g, 0, none⟩) n c := by
  obtain ⟨e1, ⟨h3, h4⟩ | ⟨g, cap, cur, hv, r⟩⟩ := h
  · omega
  · exact ⟨g, cap, hv⟩
set_option maxHeartbeats 4000000 in
set_option maxRecDepth 100000 in
theorem putTexts_any (z : Nat) (b : Bg) (a : Option Addr) (n c : Nat) (w : World) (h : Bag z w b) (hn : b.tx.length ≤ 1000000) :
    Calls Tryz.prog 191 #[.pointer (some ⟨z, 0, none⟩), .slice a n c] w fun e w' => e = .returned (.tuple #[]) ∧ Bag z w' { b with tx := b.tx ++ [.slice a n c] } ∧ Bs z w w' := by
  obtain ⟨cs, hh, hs, hall⟩ := h
  have hzlt : z < w.heap.size := (Array.getElem?_eq_some_iff.1 hh).1
  obtain ⟨u, hu, hown, -⟩ := hall 3 (by decide)
  have hown : w.ownsRow (z + 1) 100 1 u b.tx.length b.tx := hown
  have HPUT : Hid (∀ (w1 : World) (g' c' : Nat), (w.alloc (.cells #[.slice a n c] 100)).grownBy w1 u.ownBlock → w1.ownsRow (z + 1) 100 1 (.slice (some ⟨g', 0, none⟩) (b.tx.length + 1) c') (b.tx.length + 1) (b.tx ++ [.slice a n c]) →
      Bag z (w1.setCell ⟨z, 3, none⟩ (.slice (some ⟨g', 0, none⟩) (b.tx.length + 1) c')) { b with tx := b.tx ++ [.slice a n c] } ∧ Bs z w (w1.setCell ⟨z, 3, none⟩ (.slice (some ⟨g', 0, none⟩) (b.tx.length + 1) c'))) := Lib.hid fun w1 g' c' hg ho =>
    Bag.put (s := 3) hh hs hall (by decide) hu hg ho rfl (fun j hj => by simp [Bg.at, hj])
  have hc9 : w.cell? ⟨z, 3, none⟩ = some u := by rw [cell_of_row w z 3 _ _ _ hh]; exact hu
  obtain ⟨i1, hi, hz0, hz1, hz2⟩ := info_parts (P := Tryz.prog) (e := 100) (z := .slice none 0 0) (size := 1) (bytes := 24) (by kernel_rfl)
  have Hi := Lib.hid hi
  have Hz0 := Lib.hid hz0
  have Hz1 := Lib.hid hz1
  have Hz2 := Lib.hid hz2
  have Hge := Lib.hid (rows_ge hown)
  have Hown := Lib.hid hown
  have Hfun := Lib.hid (fun (w1 : World) (hg : (w.alloc (.cells #[.slice a n c] 100)).grownBy w1 u.ownBlock) => by
    have e1 : w1.heap[z]? = w.heap[z]? := (hg.block z (by rw [World.size_alloc]; omega) (fun e => by have := (Hge.out z e.symm).1; omega)).trans (Below.heap_alloc _ _ _ hzlt)
    exact (⟨(cell_of_row w1 z 3 _ _ _ (e1.trans hh)).trans hu, by simp [World.frozen?, e1.trans hh]⟩ : w1.cell? ⟨z, 3, none⟩ = some u ∧ w1.frozen? ⟨z, 3, none⟩ = false))
  clear hi hz0 hz1 hz2 hh hs hall hown hu
  go_enter Tryz.func191, Tryz.ntmps191
  go_wp2_with (at_builtin; refine wpList_append_own _ rfl _ _ 78 rfl (z + 1) 100 i1 (.slice none 0 0) 1 24 Tryz.underlying78 Hi.out Hz0.out Hz1.out Hz2.out rfl (by decide) u b.tx.length b.tx rfl (Hown.out.alloc _) ⟨w.heap.size, 0, none⟩ 1 1 [.slice a n c] rfl rfl (one_list w (.slice a n c) _) (by simp [Value.oneCell']) (by simp only [maxLen]; omega) (by omega) (by rw [World.size_alloc]; omega) ?_; intro v' w1 hown' hg hiff; obtain ⟨g', c', rfl⟩ := rows_formS hown' (Nat.succ_pos _); obtain ⟨q2, q3⟩ := Hfun.out w1 hg; have HB := Lib.hid (HPUT.out w1 g' c' hg hown'); clear hown' hg hiff)
  go_end0
  exact ⟨rfl, HB.out⟩
set_option maxHeartbeats 4000000 in
set_option maxRecDepth 100000 in
theorem putLots_any (z : Nat) (b : Bg) (a : Option Addr) (n c : Nat) (w : World) (h : Bag z w b) (hn : b.lo.length ≤ 1000000) :
    Calls Tryz.prog 124 #[.pointer (some ⟨z, 0, none⟩), .slice a n c] w fun e w' => e = .returned (.tuple #[]) ∧ Bag z w' { b with lo := b.lo ++ [.slice a n c] } ∧ Bs z w w' := by
  obtain ⟨cs, hh, hs, hall⟩ := h
  have hzlt : z < w.heap.size := (Array.getElem?_eq_some_iff.1 hh).1
  obtain ⟨u, hu, hown, -⟩ := hall 6 (by decide)
  have hown : w.ownsRow (z + 1) 23 1 u b.lo.length b.lo := hown
  have HPUT : Hid (∀ (w1 : World) (g' c' : Nat), (w.alloc (.cells #[.slice a n c] 23)).grownBy w1 u.ownBlock → w1.ownsRow (z + 1) 23 1 (.slice (some ⟨g', 0, none⟩) (b.lo.length + 1) c') (b.lo.length + 1) (b.lo ++ [.slice a n c]) →
      Bag z (w1.setCell ⟨z, 6, none⟩ (.slice (some ⟨g', 0, none⟩) (b.lo.length + 1) c')) { b with lo := b.lo ++ [.slice a n c] } ∧ Bs z w (w1.setCell ⟨z, 6, none⟩ (.slice (some ⟨g', 0, none⟩) (b.lo.length + 1) c'))) := Lib.hid fun w1 g' c' hg ho =>
    Bag.put (s := 6) hh hs hall (by decide) hu hg ho rfl (fun j hj => by simp [Bg.at, hj])
  have hc9 : w.cell? ⟨z, 6, none⟩ = some u := by rw [cell_of_row w z 6 _ _ _ hh]; exact hu
  obtain ⟨i1, hi, hz0, hz1, hz2⟩ := info_parts (P := Tryz.prog) (e := 23) (z := .slice none 0 0) (size := 1) (bytes := 24) (by kernel_rfl)
  have Hi := Lib.hid hi
  have Hz0 := Lib.hid hz0
  have Hz1 := Lib.hid hz1
  have Hz2 := Lib.hid hz2
  have Hge := Lib.hid (rows_ge hown)
  have Hown := Lib.hid hown
  have Hfun := Lib.hid (fun (w1 : World) (hg : (w.alloc (.cells #[.slice a n c] 23)).grownBy w1 u.ownBlock) => by
    have e1 : w1.heap[z]? = w.heap[z]? := (hg.block z (by rw [World.size_alloc]; omega) (fun e => by have := (Hge.out z e.symm).1; omega)).trans (Below.heap_alloc _ _ _ hzlt)
    exact (⟨(cell_of_row w1 z 6 _ _ _ (e1.trans hh)).trans hu, by simp [World.frozen?, e1.trans hh]⟩ : w1.cell? ⟨z, 6, none⟩ = some u ∧ w1.frozen? ⟨z, 6, none⟩ = false))
  clear hi hz0 hz1 hz2 hh hs hall hown hu
  go_enter Tryz.func124, Tryz.ntmps124
  go_wp2_with (at_builtin; refine wpList_append_own _ rfl _ _ 81 rfl (z + 1) 23 i1 (.slice none 0 0) 1 24 Tryz.underlying81 Hi.out Hz0.out Hz1.out Hz2.out rfl (by decide) u b.lo.length b.lo rfl (Hown.out.alloc _) ⟨w.heap.size, 0, none⟩ 1 1 [.slice a n c] rfl rfl (one_list w (.slice a n c) _) (by simp [Value.oneCell']) (by simp only [maxLen]; omega) (by omega) (by rw [World.size_alloc]; omega) ?_; intro v' w1 hown' hg hiff; obtain ⟨g', c', rfl⟩ := rows_formS hown' (Nat.succ_pos _); obtain ⟨q2, q3⟩ := Hfun.out w1 hg; have HB := Lib.hid (HPUT.out w1 g' c' hg hown'); clear hown' hg hiff)
  go_end0
  exact ⟨rfl, HB.out⟩
set_option maxHeartbeats 4000000 in
set_option maxRecDepth 100000 in
theorem putParts_any (z : Nat) (b : Bg) (a : Option Addr) (n c : Nat) (w : World) (h : Bag z w b) (hn : b.pa.length ≤ 1000000) :
    Calls Tryz.prog 190 #[.pointer (some ⟨z, 0, none⟩), .slice a n c] w fun e w' => e = .returned (.tuple #[]) ∧ Bag z w' { b with pa := b.pa ++ [.slice a n c] } ∧ Bs z w w' := by
  obtain ⟨cs, hh, hs, hall⟩ := h
  have hzlt : z < w.heap.size := (Array.getElem?_eq_some_iff.1 hh).1
  obtain ⟨u, hu, hown, -⟩ := hall 9 (by decide)
  have hown : w.ownsRow (z + 1) 55 1 u b.pa.length b.pa := hown
  have HPUT : Hid (∀ (w1 : World) (g' c' : Nat), (w.alloc (.cells #[.slice a n c] 55)).grownBy w1 u.ownBlock → w1.ownsRow (z + 1) 55 1 (.slice (some ⟨g', 0, none⟩) (b.pa.length + 1) c') (b.pa.length + 1) (b.pa ++ [.slice a n c]) →
      Bag z (w1.setCell ⟨z, 9, none⟩ (.slice (some ⟨g', 0, none⟩) (b.pa.length + 1) c')) { b with pa := b.pa ++ [.slice a n c] } ∧ Bs z w (w1.setCell ⟨z, 9, none⟩ (.slice (some ⟨g', 0, none⟩) (b.pa.length + 1) c'))) := Lib.hid fun w1 g' c' hg ho =>
    Bag.put (s := 9) hh hs hall (by decide) hu hg ho rfl (fun j hj => by simp [Bg.at, hj])
  have hc9 : w.cell? ⟨z, 9, none⟩ = some u := by rw [cell_of_row w z 9 _ _ _ hh]; exact hu
  obtain ⟨i1, hi, hz0, hz1, hz2⟩ := info_parts (P := Tryz.prog) (e := 55) (z := .slice none 0 0) (size := 1) (bytes := 24) (by kernel_rfl)
  have Hi := Lib.hid hi
  have Hz0 := Lib.hid hz0
  have Hz1 := Lib.hid hz1
  have Hz2 := Lib.hid hz2
  have Hge := Lib.hid (rows_ge hown)
  have Hown := Lib.hid hown
  have Hfun := Lib.hid (fun (w1 : World) (hg : (w.alloc (.cells #[.slice a n c] 55)).grownBy w1 u.ownBlock) => by
    have e1 : w1.heap[z]? = w.heap[z]? := (hg.block z (by rw [World.size_alloc]; omega) (fun e => by have := (Hge.out z e.symm).1; omega)).trans (Below.heap_alloc _ _ _ hzlt)
    exact (⟨(cell_of_row w1 z 9 _ _ _ (e1.trans hh)).trans hu, by simp [World.frozen?, e1.trans hh]⟩ : w1.cell? ⟨z, 9, none⟩ = some u ∧ w1.frozen? ⟨z, 9, none⟩ = false))
  clear hi hz0 hz1 hz2 hh hs hall hown hu
  go_enter Tryz.func190, Tryz.ntmps190
  go_wp2_with (at_builtin; refine wpList_append_own _ rfl _ _ 84 rfl (z + 1) 55 i1 (.slice none 0 0) 1 24 Tryz.underlying84 Hi.out Hz0.out Hz1.out Hz2.out rfl (by decide) u b.pa.length b.pa rfl (Hown.out.alloc _) ⟨w.heap.size, 0, none⟩ 1 1 [.slice a n c] rfl rfl (one_list w (.slice a n c) _) (by simp [Value.oneCell']) (by simp only [maxLen]; omega) (by omega) (by rw [World.size_alloc]; omega) ?_; intro v' w1 hown' hg hiff; obtain ⟨g', c', rfl⟩ := rows_formS hown' (Nat.succ_pos _); obtain ⟨q2, q3⟩ := Hfun.out w1 hg; have HB := Lib.hid (HPUT.out w1 g' c' hg hown'); clear hown' hg hiff)
  go_end0
  exact ⟨rfl, HB.out⟩
set_option maxHeartbeats 4000000 in
set_option maxRecDepth 100000 in
theorem putLines_any (z : Nat) (b : Bg) (a : Option Addr) (n c : Nat) (w : World) (h : Bag z w b) (hn : b.li.length ≤ 1000000) :
    Calls Tryz.prog 125 #[.pointer (some ⟨z, 0, none⟩), .slice a n c] w fun e w' => e = .returned (.tuple #[]) ∧ Bag z w' { b with li := b.li ++ [.slice a n c] } ∧ Bs z w w' := by
  obtain ⟨cs, hh, hs, hall⟩ := h
  have hzlt : z < w.heap.size := (Array.getElem?_eq_some_iff.1 hh).1
  obtain ⟨u, hu, hown, -⟩ := hall 11 (by decide)
  have hown : w.ownsRow (z + 1) 24 1 u b.li.length b.li := hown
  have HPUT : Hid (∀ (w1 : World) (g' c' : Nat), (w.alloc (.cells #[.slice a n c] 24)).grownBy w1 u.ownBlock → w1.ownsRow (z + 1) 24 1 (.slice (some ⟨g', 0, none⟩) (b.li.length + 1) c') (b.li.length + 1) (b.li ++ [.slice a n c]) →
      Bag z (w1.setCell ⟨z, 11, none⟩ (.slice (some ⟨g', 0, none⟩) (b.li.length + 1) c')) { b with li := b.li ++ [.slice a n c] } ∧ Bs z w (w1.setCell ⟨z, 11, none⟩ (.slice (some ⟨g', 0, none⟩) (b.li.length + 1) c'))) := Lib.hid fun w1 g' c' hg ho =>
    Bag.put (s := 11) hh hs hall (by decide) hu hg ho rfl (fun j hj => by simp [Bg.at, hj])
  have hc9 : w.cell? ⟨z, 11, none⟩ = some u := by rw [cell_of_row w z 11 _ _ _ hh]; exact hu
  obtain ⟨i1, hi, hz0, hz1, hz2⟩ := info_parts (P := Tryz.prog) (e := 24) (z := .slice none 0 0) (size := 1) (bytes := 24) (by kernel_rfl)
  have Hi := Lib.hid hi
  have Hz0 := Lib.hid hz0
  have Hz1 := Lib.hid hz1
  have Hz2 := Lib.hid hz2
  have Hge := Lib.hid (rows_ge hown)
  have Hown := Lib.hid hown
  have Hfun := Lib.hid (fun (w1 : World) (hg : (w.alloc (.cells #[.slice a n c] 24)).grownBy w1 u.ownBlock) => by
    have e1 : w1.heap[z]? = w.heap[z]? := (hg.block z (by rw [World.size_alloc]; omega) (fun e => by have := (Hge.out z e.symm).1; omega)).trans (Below.heap_alloc _ _ _ hzlt)
    exact (⟨(cell_of_row w1 z 11 _ _ _ (e1.trans hh)).trans hu, by simp [World.frozen?, e1.trans hh]⟩ : w1.cell? ⟨z, 11, none⟩ = some u ∧ w1.frozen? ⟨z, 11, none⟩ = false))
  clear hi hz0 hz1 hz2 hh hs hall hown hu
  go_enter Tryz.func125, Tryz.ntmps125
  go_wp2_with (at_builtin; refine wpList_append_own _ rfl _ _ 86 rfl (z + 1) 24 i1 (.slice none 0 0) 1 24 Tryz.underlying86 Hi.out Hz0.out Hz1.out Hz2.out rfl (by decide) u b.li.length b.li rfl (Hown.out.alloc _) ⟨w.heap.size, 0, none⟩ 1 1 [.slice a n c] rfl rfl (one_list w (.slice a n c) _) (by simp [Value.oneCell']) (by simp only [maxLen]; omega) (by omega) (by rw [World.size_alloc]; omega) ?_; intro v' w1 hown' hg hiff; obtain ⟨g', c', rfl⟩ := rows_formS hown' (Nat.succ_pos _); obtain ⟨q2, q3⟩ := Hfun.out w1 hg; have HB := Lib.hid (HPUT.out w1 g' c' hg hown'); clear hown' hg hiff)
  go_end0
  exact ⟨rfl, HB.out⟩
set_option maxHeartbeats 4000000 in
set_option maxRecDepth 100000 in
theorem oneItem_any (z : Nat) (b : Bg) (cv : Value) (life : Int) (pa : Option Addr) (pn pc : Nat) (oa : Option Addr) (on oc : Nat) (w : World) (h : Bag z w b) (h1 : b.pa.length ≤ 1000000) (h2 : b.tx.length ≤ 1000000) :
    Calls Tryz.prog 169 #[.pointer (some ⟨z, 0, none⟩), .agg #[cv, .int .i64 life, .slice pa pn pc, .slice oa on oc]] w fun e w' => e = .returned (.tuple #[]) ∧ Bag z w' { b with pa := b.pa ++ [.slice pa pn pc], tx := b.tx ++ [.slice oa on oc] } ∧ Bs z w w' := by
  have hlt := h.lt
  have hb0 : Below w.heap.size w (w.alloc (.cells #[cv, .int .i64 life, .slice pa pn pc, .slice oa on oc] 102)) := (Below.refl _ w).alloc (Nat.le_refl _) _
  have hnew := heap_alloc_new w (.cells #[cv, .int .i64 life, .slice pa pn pc, .slice oa on oc] 102)
  obtain ⟨y, hy⟩ : ∃ y, y = w.heap.size := ⟨_, rfl⟩
  obtain ⟨w1, hw1⟩ : ∃ w1, w1 = w.alloc (.cells #[cv, .int .i64 life, .slice pa pn pc, .slice oa on oc] 102) := ⟨_, rfl⟩
  rw [← hw1, ← hy] at hnew
  rw [← hw1] at hb0
  have HP := Lib.hid (putParts_any z b pa pn pc w1 (h.below hb0) h1)
  have Hnew := Lib.hid hnew
  have c0 : w1.cell? ⟨y, 2, none⟩ = some (.slice pa pn pc) := by rw [cell_of_row w1 y 2 _ _ _ hnew]; rfl
  have Hw1 := Lib.hid hw1
  have Hy := Lib.hid hy
  have Hb0 := Lib.hid (Bs.of_below hb0 (Nat.le_of_lt hlt))
  clear h hb0 hnew hw1 hy
  go_enter Tryz.func169, Tryz.ntmps169
  go_upto_region 1 with (fail)
  rw [← Hw1.out, ← Hy.out]
  go_wp2_with (fail)
  go_at_call 190
  refine HP.out.mono ?_
  rintro e w2 ⟨rfl, h2', h3⟩
  have hne : y ≠ z := by have := Hy.out; omega
  have hy2 := h3.keep y _ _ _ Hnew.out hne (slotT_not (by decide) (by decide) (by decide) (by decide) (by decide) (by decide))
  have c1 : w2.cell? ⟨y, 3, none⟩ = some (.slice oa on oc) := by rw [cell_of_row w2 y 3 _ _ _ hy2]; rfl
  have HP2 := Lib.hid (putTexts_any z _ oa on oc w2 h2' h2)
  have B2 := Lib.hid (Hb0.out.trans h3)
  clear h2' h3 hy2 HP c0
  go_wp2_with (fail)
  go_at_call 191
  refine HP2.out.mono ?_
  rintro e w3 ⟨rfl, h2', h3⟩
  have H2 := Lib.hid h2'
  have B3 := Lib.hid (B2.out.trans h3)
  clear h2' h3
  go_wp2_with (fail)
  go_end0
  exact ⟨rfl, H2.out, B3.out⟩
set_option maxHeartbeats 4000000 in
set_option maxRecDepth 100000 in
theorem putItems_any (z : Nat) (b : Bg) (N : Nat) (a : Option Addr) (n c : Nat) (X : List It) (w : World) (h : Bag z w b) (hr : RI N w a n c X) (hN : N ≤ z) (hn : b.it.length ≤ 1000000) (h1 : b.pa.length + n ≤ 1000000) (h2 : b.tx.length + n ≤ 1000000) :
    Calls Tryz.prog 123 #[.pointer (some ⟨z, 0, none⟩), .slice a n c] w fun e w' => e = .returned (.tuple #[]) ∧ Bag z w' (b.items (.slice a n c) X) ∧ Bs z w w' := by
  have hln := hr.len
  have hle := hr.le
  have hmx := hr.mx
  have Hln := Lib.hid hln
  have Hr := Lib.hid hr
  clear hr hln
  obtain ⟨cs, hh, hs, hall⟩ := h
  have hzlt : z < w.heap.size := (Array.getElem?_eq_some_iff.1 hh).1
  obtain ⟨u, hu, hown, -⟩ := hall 10 (by decide)
  have hown : w.ownsRow (z + 1) 22 1 u b.it.length b.it := hown
  have HPUT : Hid (∀ (w1 : World) (g' c' : Nat), (w.alloc (.cells #[.slice a n c] 22)).grownBy w1 u.ownBlock → w1.ownsRow (z + 1) 22 1 (.slice (some ⟨g', 0, none⟩) (b.it.length + 1) c') (b.it.length + 1) (b.it ++ [.slice a n c]) →
      Bag z (w1.setCell ⟨z, 10, none⟩ (.slice (some ⟨g', 0, none⟩) (b.it.length + 1) c')) { b with it := b.it ++ [.slice a n c] } ∧ Bs z w (w1.setCell ⟨z, 10, none⟩ (.slice (some ⟨g', 0, none⟩) (b.it.length + 1) c'))) := Lib.hid fun w1 g' c' hg ho =>
    Bag.put (s := 10) hh hs hall (by decide) hu hg ho rfl (fun j hj => by simp [Bg.at, hj])
  have hc9 : w.cell? ⟨z, 10, none⟩ = some u := by rw [cell_of_row w z 10 _ _ _ hh]; exact hu
  obtain ⟨i1, hi, hz0, hz1, hz2⟩ := info_parts (P := Tryz.prog) (e := 22) (z := .slice none 0 0) (size := 1) (bytes := 24) (by kernel_rfl)
  have Hi := Lib.hid hi
  have Hz0 := Lib.hid hz0
  have Hz1 := Lib.hid hz1
  have Hz2 := Lib.hid hz2
  have Hge := Lib.hid (rows_ge hown)
  have Hown := Lib.hid hown
  have Hfun := Lib.hid (fun (w1 : World) (hg : (w.alloc (.cells #[.slice a n c] 22)).grownBy w1 u.ownBlock) => by
    have e1 : w1.heap[z]? = w.heap[z]? := (hg.block z (by rw [World.size_alloc]; omega) (fun e => by have := (Hge.out z e.symm).1; omega)).trans (Below.heap_alloc _ _ _ hzlt)
    exact (⟨(cell_of_row w1 z 10 _ _ _ (e1.trans hh)).trans hu, by simp [World.frozen?, e1.trans hh]⟩ : w1.cell? ⟨z, 10, none⟩ = some u ∧ w1.frozen? ⟨z, 10, none⟩ = false))
  clear hi hz0 hz1 hz2 hh hs hall hown hu
  go_enter Tryz.func123, Tryz.ntmps123
  go_wp2_with (at_builtin; refine wpList_append_own _ rfl _ _ 85 rfl (z + 1) 22 i1 (.slice none 0 0) 1 24 Tryz.underlying85 Hi.out Hz0.out Hz1.out Hz2.out rfl (by decide) u b.it.length b.it rfl (Hown.out.alloc _) ⟨w.heap.size, 0, none⟩ 1 1 [.slice a n c] rfl rfl (one_list w (.slice a n c) _) (by simp [Value.oneCell']) (by simp only [maxLen]; omega) (by omega) (by rw [World.size_alloc]; omega) ?_; intro v' w1 hown' hg hiff; obtain ⟨g', c', rfl⟩ := rows_formS hown' (Nat.succ_pos _); obtain ⟨q2, q3⟩ := Hfun.out w1 hg; have HB := Lib.hid (HPUT.out w1 g' c' hg hown'); clear hown' hg hiff)
  obtain ⟨W1, hW1⟩ : ∃ W, W = w1.setCell ⟨z, 10, none⟩ (.slice (some ⟨g', 0, none⟩) (b.it.length + 1) c') := ⟨_, rfl⟩
  rw [← hW1] at HB
  rw [← hW1]
  clear hW1 q2 q3
  have HBag : Hid (Bag z W1 (b.items (.slice a n c) (X.take 0))) := Lib.hid (by have := HB.out.1; unfold Bg.items; simpa using this)
  have HBs : Hid (Bs z w W1) := Lib.hid HB.out.2
  clear HB
  go_loopw [4] (fun s4 wr => ∃ i : Nat, s4 = .int .i64 i ∧ i ≤ n ∧ Hid (Bag z wr (b.items (.slice a n c) (X.take i))) ∧ Hid (Bs z w wr)) (fun s4 _ => n - (intOf s4).toNat)
  case atStart => exact ⟨0, rfl, Nat.zero_le _, HBag, HBs⟩
  case round =>
    clear HBag HBs
    obtain ⟨i, rfl, hi, hbag, hb⟩ := hrel
    by_cases hin : i < n
    · have t1 : decide ((i : Int) < (n : Int)) = true := by simp; omega
      have hri := Hr.out.below (hb.out.below.mono hN)
      obtain ⟨gb, o, rfl, hbN, hc⟩ := hri.at_ (by omega)
      obtain ⟨k1, k2, k3, k4⟩ := hc i hin
      have htk : X.take (i + 1) = X.take i ++ [X.getD i default] := by
        rw [List.take_add_one, List.getD_eq_getElem?_getD, List.getElem?_eq_getElem (by rw [← Hln.out]; exact hin)]; rfl
      have hlX : (X.take i).length ≤ i := by rw [List.length_take]; omega
      obtain ⟨x, hx⟩ : ∃ x, x = X.getD i default := ⟨_, rfl⟩
      rw [← hx] at k1 k2 k3 k4 htk
      have HO := Lib.hid (oneItem_any z _ (encStr x.code) x.life x.pa x.ps.length x.pc x.oa x.os.length x.oc wr hbag.out (by show (b.pa ++ _).length ≤ _; rw [List.length_append, List.length_map]; omega) (by show (b.tx ++ _).length ≤ _; rw [List.length_append, List.length_map]; omega))
      have Htk := Lib.hid htk
      clear hc hri hx htk
      unfold encStr at k1 HO
      go_wp2_with (fail)
      go_at_call 169
      refine HO.out.mono ?_
      rintro e w2 ⟨rfl, h2', h3⟩
      have H2 := Lib.hid h2'
      have H3 := Lib.hid (hb.out.trans h3)
      clear h2' h3
      go_wp2_with (fail)
      go_roundw
      case rel => exact ⟨i + 1, by go_num, by omega, Lib.hid (by rw [Htk.out]; have h4 := H2.out; unfold Bg.items at h4 ⊢; simpa [It.pv, It.ov] using h4), H3⟩
      case measure => simp [intOf]; omega
    · have t1 : decide ((i : Int) < (n : Int)) = false := by simp; omega
      have hin2 : i = n := by omega
      subst hin2
      go_wp2_with (fail)
      go_end0
      have hX : X.take i = X := List.take_of_length_le (by rw [← Hln.out]; exact Nat.le_refl _)
      exact ⟨rfl, by rw [← hX]; exact hbag.out, hb.out⟩
set_option maxHeartbeats 4000000 in
set_option maxRecDepth 100000 in
theorem oneState_any (z : Nat) (b : Bg) (N : Nat) (now nl nx : Int) (a1 : Option Addr) (n1 c1 : Nat) (X : List It) (a2 : Option Addr) (n2 c2 : Nat) (a3 : Option Addr) (n3 c3 : Nat) (w : World) (h : Bag z w b) (hr : RI N w a1 n1 c1 X) (hN : N ≤ z) (hn : b.it.length ≤ 1000000) (h1 : b.pa.length + n1 ≤ 1000000) (h2 : b.tx.length + n1 ≤ 1000000) (h3 : b.lo.length ≤ 1000000) (h4 : b.li.length ≤ 1000000) :
    Calls Tryz.prog 66 #[.pointer (some ⟨z, 0, none⟩), .agg #[.int .i64 now, .int .i64 nl, .int .i64 nx, .slice a1 n1 c1, .slice a2 n2 c2, .slice a3 n3 c3]] w fun e w' => e = .returned (.tuple #[]) ∧ Bag z w' { (b.items (.slice a1 n1 c1) X) with lo := b.lo ++ [.slice a2 n2 c2], li := b.li ++ [.slice a3 n3 c3] } ∧ Bs z w w' := by
  have hlt := h.lt
  have hb0 : Below w.heap.size w (w.alloc (.cells #[.int .i64 now, .int .i64 nl, .int .i64 nx, .slice a1 n1 c1, .slice a2 n2 c2, .slice a3 n3 c3] 26)) := (Below.refl _ w).alloc (Nat.le_refl _) _
  have hnew := heap_alloc_new w (.cells #[.int .i64 now, .int .i64 nl, .int .i64 nx, .slice a1 n1 c1, .slice a2 n2 c2, .slice a3 n3 c3] 26)
  obtain ⟨y, hy⟩ : ∃ y, y = w.heap.size := ⟨_, rfl⟩
  obtain ⟨w1, hw1⟩ : ∃ w1, w1 = w.alloc (.cells #[.int .i64 now, .int .i64 nl, .int .i64 nx, .slice a1 n1 c1, .slice a2 n2 c2, .slice a3 n3 c3] 26) := ⟨_, rfl⟩
  rw [← hw1, ← hy] at hnew
  rw [← hw1] at hb0
  have HP := Lib.hid (putItems_any z b N a1 n1 c1 X w1 (h.below hb0) (hr.below (hb0.mono (by omega))) hN hn h1 h2)
  have Hnew := Lib.hid hnew
  have c0 : w1.cell? ⟨y, 3, none⟩ = some (.slice a1 n1 c1) := by rw [cell_of_row w1 y 3 _ _ _ hnew]; rfl
  have Hw1 := Lib.hid hw1
  have Hy := Lib.hid hy
  have Hb0 := Lib.hid (Bs.of_below hb0 (Nat.le_of_lt hlt))
  have HS : Hid (∀ i, slotT i ≠ 26) := Lib.hid (slotT_not (by decide) (by decide) (by decide) (by decide) (by decide) (by decide))
  clear h hb0 hnew hw1 hy hr
  go_enter Tryz.func66, Tryz.ntmps66
  go_upto_region 1 with (fail)
  rw [← Hw1.out, ← Hy.out]
  go_wp2_with (fail)
  go_at_call 123
  refine HP.out.mono ?_
  rintro e w2 ⟨rfl, h2', h3'⟩
  have hne : y ≠ z := by have := Hy.out; omega
  have hy2 := h3'.keep y _ _ _ Hnew.out hne HS.out
  have c1 : w2.cell? ⟨y, 4, none⟩ = some (.slice a2 n2 c2) := by rw [cell_of_row w2 y 4 _ _ _ hy2]; rfl
  have HP2 := Lib.hid (putLots_any z _ a2 n2 c2 w2 h2' h3)
  have B2 := Lib.hid (Hb0.out.trans h3')
  have Hy2 := Lib.hid hy2
  clear h2' h3' hy2 HP c0
  go_wp2_with (fail)
  go_at_call 124
  refine HP2.out.mono ?_
  rintro e w3 ⟨rfl, h2', h3'⟩
  have hy3 := h3'.keep y _ _ _ Hy2.out hne HS.out
  have d1 : w3.cell? ⟨y, 5, none⟩ = some (.slice a3 n3 c3) := by rw [cell_of_row w3 y 5 _ _ _ hy3]; rfl
  have HP3 := Lib.hid (putLines_any z _ a3 n3 c3 w3 h2' h4)
  have B3 := Lib.hid (B2.out.trans h3')
  clear h2' h3' hy3 HP2 c1
  go_wp2_with (fail)
  go_at_call 125
  refine HP3.out.mono ?_
  rintro e w4 ⟨rfl, h2', h3'⟩
  have H2 := Lib.hid h2'
  have B4 := Lib.hid (B3.out.trans h3')
  clear h2' h3'
  go_wp2_with (fail)
  go_end0
  exact ⟨rfl, H2.out, B4.out⟩
structure St1 (N : Nat) (w : World) (g : Nat) (now nl nx : Int) (a1 : Option Addr) (n1 c1 : Nat) (X : List It) (v2 v3 : Value) : Prop where
  blk : w.heap[g]? = some (.cells #[.int .i64 now, .int .i64 nl, .int .i64 nx, .slice a1 n1 c1, v2, v3] 26)
  ri : RI N w a1 n1 c1 X
  lt : g < N
theorem St1.below {N : Nat} {w w' : World} {g : Nat} {now nl nx : Int} {a1 : Option Addr} {n1 c1 : Nat} {X : List It} {v2 v3 : Value} (h : St1 N w g now nl nx a1 n1 c1 X v2 v3) (hb : Below N w w') : St1 N w' g now nl nx a1 n1 c1 X v2 v3 :=
  ⟨(hb.block g h.lt).trans h.blk, h.ri.below hb, h.lt⟩
set_option maxHeartbeats 4000000 in
set_option maxRecDepth 100000 in
theorem putStates_any (z : Nat) (b : Bg) (N g : Nat) (now nl nx : Int) (a1 : Option Addr) (n1 c1 : Nat) (X : List It) (a2 : Option Addr) (n2 c2 : Nat) (a3 : Option Addr) (n3 c3 : Nat) (w : World) (h : Bag z w b) (hst : St1 N w g now nl nx a1 n1 c1 X (.slice a2 n2 c2) (.slice a3 n3 c3)) (hN : N ≤ z) (hs : b.st.length ≤ 1000000) (hn : b.it.length ≤ 1000000) (h1 : b.pa.length + n1 ≤ 1000000) (h2 : b.tx.length + n1 ≤ 1000000) (h3 : b.lo.length ≤ 1000000) (h4 : b.li.length ≤ 1000000) :
    Calls Tryz.prog 39 #[.pointer (some ⟨z, 0, none⟩), .slice (some ⟨g, 0, none⟩) 1 1] w fun e w' => e = .returned (.tuple #[]) ∧ Bag z w' (b.states (.slice (some ⟨g, 0, none⟩) 1 1) (.slice a1 n1 c1) (.slice a2 n2 c2) (.slice a3 n3 c3) X) ∧ Bs z w w' := by
  have Hst := Lib.hid hst
  clear hst
  obtain ⟨a, ha⟩ : ∃ a : Option Addr, a = some ⟨g, 0, none⟩ := ⟨_, rfl⟩
  obtain ⟨n, hn1⟩ : ∃ n : Nat, n = 1 := ⟨_, rfl⟩
  obtain ⟨c, hc1⟩ : ∃ c : Nat, c = 1 := ⟨_, rfl⟩
  have HA : Hid (Value.slice (some ⟨g, 0, none⟩) 1 1 = .slice a n c) := Lib.hid (by rw [ha, hn1, hc1])
  have Hac : Hid (a = some ⟨g, 0, none⟩ ∧ n = 1 ∧ c = 1) := Lib.hid ⟨ha, hn1, hc1⟩
  rw [HA.out]
  clear ha hn1 hc1
  obtain ⟨cs, hh, hs, hall⟩ := h
  have hzlt : z < w.heap.size := (Array.getElem?_eq_some_iff.1 hh).1
  obtain ⟨u, hu, hown, -⟩ := hall 14 (by decide)
  have hown : w.ownsRow (z + 1) 38 1 u b.st.length b.st := hown
  have HPUT : Hid (∀ (w1 : World) (g' c' : Nat), (w.alloc (.cells #[.slice a n c] 38)).grownBy w1 u.ownBlock → w1.ownsRow (z + 1) 38 1 (.slice (some ⟨g', 0, none⟩) (b.st.length + 1) c') (b.st.length + 1) (b.st ++ [.slice a n c]) →
      Bag z (w1.setCell ⟨z, 14, none⟩ (.slice (some ⟨g', 0, none⟩) (b.st.length + 1) c')) { b with st := b.st ++ [.slice a n c] } ∧ Bs z w (w1.setCell ⟨z, 14, none⟩ (.slice (some ⟨g', 0, none⟩) (b.st.length + 1) c'))) := Lib.hid fun w1 g' c' hg ho =>
    Bag.put (s := 14) hh hs hall (by decide) hu hg ho rfl (fun j hj => by simp [Bg.at, hj])
  have hc9 : w.cell? ⟨z, 14, none⟩ = some u := by rw [cell_of_row w z 14 _ _ _ hh]; exact hu
  obtain ⟨i1, hi, hz0, hz1, hz2⟩ := info_parts (P := Tryz.prog) (e := 38) (z := .slice none 0 0) (size := 1) (bytes := 24) (by kernel_rfl)
  have Hi := Lib.hid hi
  have Hz0 := Lib.hid hz0
  have Hz1 := Lib.hid hz1
  have Hz2 := Lib.hid hz2
  have Hge := Lib.hid (rows_ge hown)
  have Hown := Lib.hid hown
  have Hfun := Lib.hid (fun (w1 : World) (hg : (w.alloc (.cells #[.slice a n c] 38)).grownBy w1 u.ownBlock) => by
    have e1 : w1.heap[z]? = w.heap[z]? := (hg.block z (by rw [World.size_alloc]; omega) (fun e => by have := (Hge.out z e.symm).1; omega)).trans (Below.heap_alloc _ _ _ hzlt)
    exact (⟨(cell_of_row w1 z 14 _ _ _ (e1.trans hh)).trans hu, by simp [World.frozen?, e1.trans hh]⟩ : w1.cell? ⟨z, 14, none⟩ = some u ∧ w1.frozen? ⟨z, 14, none⟩ = false))
  clear hi hz0 hz1 hz2 hh hs hall hown hu
  go_enter Tryz.func39, Tryz.ntmps39
  go_wp2_with (at_builtin; refine wpList_append_own _ rfl _ _ 39 rfl (z + 1) 38 i1 (.slice none 0 0) 1 24 Tryz.underlying39 Hi.out Hz0.out Hz1.out Hz2.out rfl (by decide) u b.st.length b.st rfl (Hown.out.alloc _) ⟨w.heap.size, 0, none⟩ 1 1 [.slice a n c] rfl rfl (one_list w (.slice a n c) _) (by simp [Value.oneCell']) (by simp only [maxLen]; omega) (by omega) (by rw [World.size_alloc]; omega) ?_; intro v' w1 hown' hg hiff; obtain ⟨g', c', rfl⟩ := rows_formS hown' (Nat.succ_pos _); obtain ⟨q2, q3⟩ := Hfun.out w1 hg; have HB := Lib.hid (HPUT.out w1 g' c' hg hown'); clear hown' hg hiff)
  obtain ⟨W1, hW1⟩ : ∃ W, W = w1.setCell ⟨z, 14, none⟩ (.slice (some ⟨g', 0, none⟩) (b.st.length + 1) c') := ⟨_, rfl⟩
  rw [← hW1] at HB
  rw [← hW1]
  clear hW1 q2 q3
  obtain ⟨rfl, rfl, rfl⟩ := Hac.out
  go_loopw [4] (fun s4 wr => ∃ i : Nat, s4 = .int .i64 i ∧ i ≤ 1 ∧ Hid (i = 0 → Bag z wr { b with st := b.st ++ [.slice (some ⟨g, 0, none⟩) 1 1] }) ∧ Hid (i = 1 → Bag z wr (b.states (.slice (some ⟨g, 0, none⟩) 1 1) (.slice a1 n1 c1) (.slice a2 n2 c2) (.slice a3 n3 c3) X)) ∧ Hid (Bs z w wr)) (fun s4 _ => 1 - (intOf s4).toNat)
  case atStart => exact ⟨0, rfl, by omega, Lib.hid fun _ => HB.out.1, Lib.hid fun h => absurd h (by decide), Lib.hid HB.out.2⟩
  case round =>
    clear HB
    obtain ⟨i, rfl, hi, hb0, hb1, hb⟩ := hrel
    rcases (show i = 0 ∨ i = 1 by omega) with rfl | rfl
    · have hstr := Hst.out.below (hb.out.below.mono hN)
      have y0 : wr.cell? ⟨g, 0, none⟩ = some (.int .i64 now) := by rw [cell_of_row wr g 0 _ _ _ hstr.blk]; rfl
      have y1 : wr.cell? ⟨g, 1, none⟩ = some (.int .i64 nl) := by rw [cell_of_row wr g 1 _ _ _ hstr.blk]; rfl
      have y2 : wr.cell? ⟨g, 2, none⟩ = some (.int .i64 nx) := by rw [cell_of_row wr g 2 _ _ _ hstr.blk]; rfl
      have y3 : wr.cell? ⟨g, 3, none⟩ = some (.slice a1 n1 c1) := by rw [cell_of_row wr g 3 _ _ _ hstr.blk]; rfl
      have y4 : wr.cell? ⟨g, 4, none⟩ = some (.slice a2 n2 c2) := by rw [cell_of_row wr g 4 _ _ _ hstr.blk]; rfl
      have y5 : wr.cell? ⟨g, 5, none⟩ = some (.slice a3 n3 c3) := by rw [cell_of_row wr g 5 _ _ _ hstr.blk]; rfl
      have HO := Lib.hid (oneState_any z _ N now nl nx a1 n1 c1 X a2 n2 c2 a3 n3 c3 wr (hb0.out rfl) hstr.ri hN hn h1 h2 h3 h4)
      clear hstr
      go_wp2_with (fail)
      go_at_call 66
      refine HO.out.mono ?_
      rintro e w2 ⟨rfl, h2', h3'⟩
      have H2 := Lib.hid h2'
      have H3 := Lib.hid (hb.out.trans h3')
      clear h2' h3'
      go_wp2_with (fail)
      go_roundw
      case rel => exact ⟨1, by go_num, by omega, Lib.hid fun h => absurd h (by decide), Lib.hid fun _ => H2.out, H3⟩
      case measure => simp [intOf]
    · go_wp2_with (fail)
      go_end0
      exact ⟨rfl, hb1.out (by first | rfl | trivial), hb.out⟩
end Go.Proofs.YtbedbhlebfnohaaGreat.Tx
