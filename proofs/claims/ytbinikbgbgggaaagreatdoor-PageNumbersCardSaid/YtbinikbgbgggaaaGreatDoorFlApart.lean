/- storemankit's bag of lists of bytes and of rows: put, apart, ApartBytes, ApartRows. storemankit's bag of lists of bytes and of rows: apart, ApartBytes, ApartRows. -/
import Derived.Test.YtbinikbgbgggaaaGreatDoorFlRows
import Derived.Test.YtbinikbgbgggaaaGreatDoorFlNil4
namespace Go.Proofs.YtbinikbgbgggaaaGreatDoor
open Go.RowKit

theorem rows_formS {base n : Nat} {e : TypeId} {W : World} {v : Value} {xs : List Value} (h : W.ownsRow base e 1 v n xs) (h0 : 0 < n) : ∃ g c, v = .slice (some ⟨g, 0, none⟩) n c := by
  obtain ⟨e1, ⟨h3, h4⟩ | ⟨g, cap, cur, hv, r⟩⟩ := h
  · omega
  · exact ⟨g, cap, hv⟩
/-- A bag: a block of 23 lists, all none but those of lists of bytes and of lists of rows. -/
def Bag (z : Nat) (w : World) (vb vr : List Value) : Prop := ∃ (cs : Array Value) (ub ur : Value), w.heap[z]? = some (.cells cs 84) ∧ cs.size = 23 ∧ (∀ i, i < 23 → i ≠ 4 → i ≠ 15 → cs[i]? = some (.slice none 0 0)) ∧ cs[4]? = some ub ∧ cs[15]? = some ur ∧
  w.ownsRow (z + 1) 22 1 ub vb.length vb ∧ w.ownsRow (z + 1) 28 1 ur vr.length vr ∧ ∀ b, ub.ownBlock = some b → ur.ownBlock = some b → False
theorem Bag.lt {z : Nat} {w : World} {vb vr : List Value} (h : Bag z w vb vr) : z < w.heap.size := by obtain ⟨cs, ub, ur, hh, -⟩ := h; exact (Array.getElem?_eq_some_iff.1 hh).1
theorem Bag.below {z : Nat} {w w' : World} {vb vr : List Value} (h : Bag z w vb vr) (hb : Below w.heap.size w w') : Bag z w' vb vr := by
  obtain ⟨cs, ub, ur, hh, h1, h2, h3, h4, h5, h6, h7⟩ := h
  exact ⟨cs, ub, ur, (hb.block z (Array.getElem?_eq_some_iff.1 hh).1).trans hh, h1, h2, h3, h4, rows_below h5 hb, rows_below h6 hb, h7⟩
theorem bag_new (w : World) : Bag w.heap.size (w.alloc (.cells #[.slice none 0 0, .slice none 0 0, .slice none 0 0, .slice none 0 0, .slice none 0 0, .slice none 0 0, .slice none 0 0, .slice none 0 0, .slice none 0 0, .slice none 0 0, .slice none 0 0, .slice none 0 0, .slice none 0 0, .slice none 0 0, .slice none 0 0, .slice none 0 0, .slice none 0 0, .slice none 0 0, .slice none 0 0, .slice none 0 0, .slice none 0 0, .slice none 0 0, .slice none 0 0] 84)) [] [] := by
  refine ⟨_, .slice none 0 0, .slice none 0 0, heap_alloc_new w _, rfl, fun i h1 _ _ => ?_, rfl, rfl, World.ownsRow_nil _ _ _ _, World.ownsRow_nil _ _ _ _, fun b e => by cases e⟩
  rcases (show i = 0 ∨ i = 1 ∨ i = 2 ∨ i = 3 ∨ i = 4 ∨ i = 5 ∨ i = 6 ∨ i = 7 ∨ i = 8 ∨ i = 9 ∨ i = 10 ∨ i = 11 ∨ i = 12 ∨ i = 13 ∨ i = 14 ∨ i = 15 ∨ i = 16 ∨ i = 17 ∨ i = 18 ∨ i = 19 ∨ i = 20 ∨ i = 21 ∨ i = 22 by omega) with rfl | rfl | rfl | rfl | rfl | rfl | rfl | rfl | rfl | rfl | rfl | rfl | rfl | rfl | rfl | rfl | rfl | rfl | rfl | rfl | rfl | rfl | rfl <;> rfl

set_option maxHeartbeats 4000000 in
set_option maxRecDepth 100000 in
theorem putBytes_any (z : Nat) (vs vr : List Value) (a : Option Addr) (n c : Nat) (w : World) (h : Bag z w vs vr) (hn : vs.length ≤ 1000000) :
    Calls Tryz.prog 38 #[.pointer (some ⟨z, 0, none⟩), .slice a n c] w fun e w' => e = .returned (.tuple #[]) ∧ Bag z w' (vs ++ [.slice a n c]) vr ∧ Below z w w' ∧ ∀ b o, w.heap[b]? = some o → b ≠ z → isC 22 o = false → w'.heap[b]? = some o := by
  obtain ⟨cs, ub, ur, hh, hs, hnil, h4, h15, hob, hor, hdis⟩ := h
  have hzlt : z < w.heap.size := (Array.getElem?_eq_some_iff.1 hh).1
  have hc9 : w.cell? ⟨z, 4, none⟩ = some ub := by rw [cell_of_row w z 4 _ _ _ hh]; exact h4
  obtain ⟨i1, hi, hz0, hz1, hz2⟩ := info_parts (P := Tryz.prog) (e := 22) (z := .slice none 0 0) (size := 1) (bytes := 24) (by kernel_rfl)
  have Hi := Lib.hid hi
  have Hz0 := Lib.hid hz0
  have Hz1 := Lib.hid hz1
  have Hz2 := Lib.hid hz2
  have Hge := Lib.hid (rows_ge hob)
  have Hgo := Lib.hid (rows_ge hor)
  have Hh := Lib.hid hh
  have Hs := Lib.hid hs
  have Hnil := Lib.hid hnil
  have Hown := Lib.hid hob
  have Hoth := Lib.hid hor
  have Hx2 := Lib.hid h15
  have Hdis := Lib.hid hdis
  have Hfun := Lib.hid (fun (w1 : World) (hg : (w.alloc (.cells #[.slice a n c] 22)).grownBy w1 (ub).ownBlock) => by
    have e1 : w1.heap[z]? = w.heap[z]? := (hg.block z (by rw [World.size_alloc]; omega) (fun e => by have := (Hge.out z e.symm).1; omega)).trans (Below.heap_alloc _ _ _ hzlt)
    exact (⟨e1, (cell_of_row w1 z 4 _ _ _ (e1.trans hh)).trans h4, by simp [World.frozen?, e1.trans hh]⟩ : _ ∧ w1.cell? ⟨z, 4, none⟩ = some ub ∧ w1.frozen? ⟨z, 4, none⟩ = false))
  clear hi hz0 hz1 hz2 hh hs hnil hob hor h4 h15 hdis
  go_enter Tryz.func38, Tryz.ntmps38
  go_wp2_with (at_builtin; refine wpList_append_own _ rfl _ _ 31 rfl (z + 1) 22 i1 (.slice none 0 0) 1 24 Tryz.underlying31 Hi.out Hz0.out Hz1.out Hz2.out rfl (by decide) ub vs.length vs rfl (Hown.out.alloc _) ⟨w.heap.size, 0, none⟩ 1 1 [.slice a n c] rfl rfl (one_list w (.slice a n c) _) (by simp [Value.oneCell']) (by simp only [maxLen]; omega) (by omega) (by rw [World.size_alloc]; omega) ?_; intro v' w1 hown' hg hiff; obtain ⟨g', c', rfl⟩ := rows_formS hown' (Nat.succ_pos _); obtain ⟨q1, q2, q3⟩ := Hfun.out w1 hg; have Q1 := Lib.hid q1; have Hown1 := Lib.hid hown'; have Hg := Lib.hid hg; clear q1 hown' hg hiff)
  go_end0
  have hh2 := heap_setCell_same w1 z 4 cs 84 (.slice (some ⟨g', 0, none⟩) (vs.length + 1) c') (Q1.out.trans Hh.out)
  have hkeep : (w1.setCell ⟨z, 4, none⟩ (.slice (some ⟨g', 0, none⟩) (vs.length + 1) c')).ownsRow (z + 1) 22 1 (.slice (some ⟨g', 0, none⟩) (vs.length + 1) c') (vs ++ [Value.slice a n c]).length (vs ++ [Value.slice a n c]) := by
    have h3 := Hown1.out
    rw [List.length_append]
    exact rows_keep h3 (fun b e => Below.heap_setCell _ _ _ _ (by have := (rows_ge h3 b e).1; simp only; omega))
  have hoth : (w1.setCell ⟨z, 4, none⟩ (.slice (some ⟨g', 0, none⟩) (vs.length + 1) c')).ownsRow (z + 1) 28 1 ur vr.length vr :=
    rows_keep Hoth.out (fun b e => by
      have h5 := Hgo.out b e
      rw [Below.heap_setCell _ _ _ _ (show b ≠ z by omega)]
      exact (Hg.out.block b (by rw [World.size_alloc]; omega) (fun e2 => Hdis.out b e2.symm e)).trans (Below.heap_alloc _ _ _ h5.2))
  have hdis2 : ∀ b, (Value.slice (some ⟨g', 0, none⟩) (vs.length + 1) c').ownBlock = some b → (ur).ownBlock = some b → False := fun b e1 e2 => by
    cases e1
    have hold : (ub).ownBlock = some g' ∨ (w.alloc (.cells #[.slice a n c] 22)).heap.size ≤ g' := by
      by_cases e3 : (ub).ownBlock = some g'
      · exact .inl e3
      · right
        by_cases e4 : g' < (w.alloc (.cells #[.slice a n c] 22)).heap.size
        · exfalso
          obtain ⟨cur, e5⟩ := row_is Hown1.out rfl
          obtain ⟨cur2, e6⟩ := row_is Hoth.out e2
          rw [Hg.out.block g' e4 (fun e => e3 e.symm), Below.heap_alloc _ _ _ (Hgo.out g' e2).2, e6] at e5
          cases e5
        · omega
    rcases hold with e3 | e3
    · exact Hdis.out g' e3 e2
    · have := (Hgo.out g' e2).2
      rw [World.size_alloc] at e3
      omega
  have hbl : Below z w (w1.setCell ⟨z, 4, none⟩ (.slice (some ⟨g', 0, none⟩) (vs.length + 1) c')) := (((Below.refl z w).alloc (Nat.le_of_lt hzlt) _).grown Hg.out (by rw [World.size_alloc]; omega) (fun k e => by have := (Hge.out k e).1; omega)).setCell (Nat.le_refl z) _
  refine ⟨rfl, ⟨_, .slice (some ⟨g', 0, none⟩) (vs.length + 1) c', ur, hh2, by simp [Hs.out], fun i h1 h2 h3 => ?_, ?_, ?_, hkeep, hoth, hdis2⟩, hbl, fun b o ho hbz hty => ?_⟩
  · rw [Array.getElem?_setIfInBounds_ne (by omega)]; exact Hnil.out i h1 h2 h3
  · rw [Array.getElem?_setIfInBounds_self_of_lt (by rw [Hs.out]; decide)]
  · rw [Array.getElem?_setIfInBounds_ne (by decide)]; exact Hx2.out
  · have hlt := (Array.getElem?_eq_some_iff.1 ho).1
    rw [Below.heap_setCell _ _ _ _ (show b ≠ z from hbz)]
    refine ((Hg.out.block b (by rw [World.size_alloc]; omega) (fun e => ?_)).trans (Below.heap_alloc _ _ _ hlt)).trans ho
    obtain ⟨cur, h1⟩ := row_is Hown.out e.symm
    rw [ho] at h1
    cases h1
    rw [isC_self] at hty
    cases hty

set_option maxHeartbeats 2000000 in
set_option maxRecDepth 100000 in
theorem oneRow_any (z : Nat) (vs vr : List Value) (ka va : Option Addr) (kn kc vn vc : Nat) (w : World) (h : Bag z w vs vr) (hn : vs.length ≤ 999999) :
    Calls Tryz.prog 76 #[.pointer (some ⟨z, 0, none⟩), .agg #[.slice ka kn kc, .slice va vn vc]] w fun e w' => e = .returned (.tuple #[]) ∧ Bag z w' (vs ++ [.slice ka kn kc, .slice va vn vc]) vr ∧ Below z w w' := by
  have hlt := h.lt
  have hb0 : Below w.heap.size w (w.alloc (.cells #[.slice ka kn kc, .slice va vn vc] 60)) := (Below.refl _ w).alloc (Nat.le_refl _) _
  have hnew := heap_alloc_new w (.cells #[.slice ka kn kc, .slice va vn vc] 60)
  obtain ⟨y, hy⟩ : ∃ y, y = w.heap.size := ⟨_, rfl⟩
  obtain ⟨w1, hw1⟩ : ∃ w1, w1 = w.alloc (.cells #[.slice ka kn kc, .slice va vn vc] 60) := ⟨_, rfl⟩
  rw [← hw1, ← hy] at hnew
  rw [← hw1] at hb0
  have HP := Lib.hid (putBytes_any z vs vr ka kn kc w1 (h.below hb0) (by omega))
  have Hnew := Lib.hid hnew
  have c0 : w1.cell? ⟨y, 0, none⟩ = some (.slice ka kn kc) := by rw [cell_of_row w1 y 0 _ _ _ hnew]; rfl
  have Hw1 := Lib.hid hw1
  have Hy := Lib.hid hy
  have Hb0 := Lib.hid (hb0.mono (Nat.le_of_lt hlt))
  clear h hb0 hnew hw1 hy
  go_enter Tryz.func76, Tryz.ntmps76
  go_upto_region 1 with (fail)
  rw [← Hw1.out, ← Hy.out]
  go_wp2_with (fail)
  go_at_call 38
  refine HP.out.mono ?_
  rintro e w2 ⟨rfl, h2, h3, h4⟩
  have hne : y ≠ z := by have := Hy.out; omega
  have hy2 := h4 y _ Hnew.out hne rfl
  have c1 : w2.cell? ⟨y, 1, none⟩ = some (.slice va vn vc) := by rw [cell_of_row w2 y 1 _ _ _ hy2]; rfl
  have HP2 := Lib.hid (putBytes_any z (vs ++ [.slice ka kn kc]) vr va vn vc w2 h2 (by rw [List.length_append]; simp; omega))
  have B2 := Lib.hid (Hb0.out.trans h3)
  clear h2 h3 h4 hy2 HP c0
  go_wp2_with (fail)
  go_at_call 38
  refine HP2.out.mono ?_
  rintro e w3 ⟨rfl, h2, h3, -⟩
  have H2 := Lib.hid h2
  have B3 := Lib.hid (B2.out.trans h3)
  clear h2 h3
  go_wp2_with (fail)
  go_end0
  exact ⟨rfl, by have h := H2.out; rw [List.append_assoc] at h; exact h, B3.out⟩

set_option maxHeartbeats 4000000 in
set_option maxRecDepth 100000 in
theorem putRows_any (z : Nat) (vs vb xs : List Value) (a : Option Addr) (n c : Nat) (w : World) (h : Bag z w vb vs) (hn : vs.length ≤ 1000000) (hnb : vb.length + n * 2 ≤ 1000000) (hnc : n ≤ c) (hcm : c ≤ 9223372036854775807) (hxl : xs.length = n * 2) (hxs : ∀ u ∈ xs, ∃ a n c, u = .slice a n c)
    (hat : 0 < n → ∃ g, a = some ⟨g, 0, none⟩ ∧ g < z ∧ ∀ j, j < n * 2 → w.cell? ⟨g, j, none⟩ = xs[j]?) :
    Calls Tryz.prog 40 #[.pointer (some ⟨z, 0, none⟩), .slice a n c] w fun e w' => e = .returned (.tuple #[]) ∧ Bag z w' (vb ++ xs) (vs ++ [.slice a n c]) ∧ Below z w w' := by
  have Hxl := Lib.hid hxl
  have Hxs := Lib.hid hxs
  have Hat := Lib.hid hat
  clear hxl hxs hat
  obtain ⟨cs, ub, ur, hh, hs, hnil, h4, h15, hob, hor, hdis⟩ := h
  have hzlt : z < w.heap.size := (Array.getElem?_eq_some_iff.1 hh).1
  have hc9 : w.cell? ⟨z, 15, none⟩ = some ur := by rw [cell_of_row w z 15 _ _ _ hh]; exact h15
  obtain ⟨i1, hi, hz0, hz1, hz2⟩ := info_parts (P := Tryz.prog) (e := 28) (z := .slice none 0 0) (size := 1) (bytes := 24) (by kernel_rfl)
  have Hi := Lib.hid hi
  have Hz0 := Lib.hid hz0
  have Hz1 := Lib.hid hz1
  have Hz2 := Lib.hid hz2
  have Hge := Lib.hid (rows_ge hor)
  have Hgo := Lib.hid (rows_ge hob)
  have Hh := Lib.hid hh
  have Hs := Lib.hid hs
  have Hnil := Lib.hid hnil
  have Hown := Lib.hid hor
  have Hoth := Lib.hid hob
  have Hx2 := Lib.hid h4
  have Hdis := Lib.hid hdis
  have Hfun := Lib.hid (fun (w1 : World) (hg : (w.alloc (.cells #[.slice a n c] 28)).grownBy w1 (ur).ownBlock) => by
    have e1 : w1.heap[z]? = w.heap[z]? := (hg.block z (by rw [World.size_alloc]; omega) (fun e => by have := (Hge.out z e.symm).1; omega)).trans (Below.heap_alloc _ _ _ hzlt)
    exact (⟨e1, (cell_of_row w1 z 15 _ _ _ (e1.trans hh)).trans h15, by simp [World.frozen?, e1.trans hh]⟩ : _ ∧ w1.cell? ⟨z, 15, none⟩ = some ur ∧ w1.frozen? ⟨z, 15, none⟩ = false))
  clear hi hz0 hz1 hz2 hh hs hnil hob hor h4 h15 hdis
  go_enter Tryz.func40, Tryz.ntmps40
  go_wp2_with (at_builtin; refine wpList_append_own _ rfl _ _ 33 rfl (z + 1) 28 i1 (.slice none 0 0) 1 24 Tryz.underlying33 Hi.out Hz0.out Hz1.out Hz2.out rfl (by decide) ur vs.length vs rfl (Hown.out.alloc _) ⟨w.heap.size, 0, none⟩ 1 1 [.slice a n c] rfl rfl (one_list w (.slice a n c) _) (by simp [Value.oneCell']) (by simp only [maxLen]; omega) (by omega) (by rw [World.size_alloc]; omega) ?_; intro v' w1 hown' hg hiff; obtain ⟨g', c', rfl⟩ := rows_formS hown' (Nat.succ_pos _); obtain ⟨q1, q2, q3⟩ := Hfun.out w1 hg; have Q1 := Lib.hid q1; have Hown1 := Lib.hid hown'; have Hg := Lib.hid hg; clear q1 hown' hg hiff)
  have hh2 := heap_setCell_same w1 z 15 cs 84 (.slice (some ⟨g', 0, none⟩) (vs.length + 1) c') (Q1.out.trans Hh.out)
  have hkeep : (w1.setCell ⟨z, 15, none⟩ (.slice (some ⟨g', 0, none⟩) (vs.length + 1) c')).ownsRow (z + 1) 28 1 (.slice (some ⟨g', 0, none⟩) (vs.length + 1) c') (vs ++ [Value.slice a n c]).length (vs ++ [Value.slice a n c]) := by
    have h3 := Hown1.out
    rw [List.length_append]
    exact rows_keep h3 (fun b e => Below.heap_setCell _ _ _ _ (by have := (rows_ge h3 b e).1; simp only; omega))
  have hoth : (w1.setCell ⟨z, 15, none⟩ (.slice (some ⟨g', 0, none⟩) (vs.length + 1) c')).ownsRow (z + 1) 22 1 ub vb.length vb :=
    rows_keep Hoth.out (fun b e => by
      have h5 := Hgo.out b e
      rw [Below.heap_setCell _ _ _ _ (show b ≠ z by omega)]
      exact (Hg.out.block b (by rw [World.size_alloc]; omega) (fun e2 => Hdis.out b e e2.symm)).trans (Below.heap_alloc _ _ _ h5.2))
  have hdis2 : ∀ b, (Value.slice (some ⟨g', 0, none⟩) (vs.length + 1) c').ownBlock = some b → (ub).ownBlock = some b → False := fun b e1 e2 => by
    cases e1
    have hold : (ur).ownBlock = some g' ∨ (w.alloc (.cells #[.slice a n c] 28)).heap.size ≤ g' := by
      by_cases e3 : (ur).ownBlock = some g'
      · exact .inl e3
      · right
        by_cases e4 : g' < (w.alloc (.cells #[.slice a n c] 28)).heap.size
        · exfalso
          obtain ⟨cur, e5⟩ := row_is Hown1.out rfl
          obtain ⟨cur2, e6⟩ := row_is Hoth.out e2
          rw [Hg.out.block g' e4 (fun e => e3 e.symm), Below.heap_alloc _ _ _ (Hgo.out g' e2).2, e6] at e5
          cases e5
        · omega
    rcases hold with e3 | e3
    · exact Hdis.out g' e2 e3
    · have := (Hgo.out g' e2).2
      rw [World.size_alloc] at e3
      omega
  have hbl : Below z w (w1.setCell ⟨z, 15, none⟩ (.slice (some ⟨g', 0, none⟩) (vs.length + 1) c')) := (((Below.refl z w).alloc (Nat.le_of_lt hzlt) _).grown Hg.out (by rw [World.size_alloc]; omega) (fun k e => by have := (Hge.out k e).1; omega)).setCell (Nat.le_refl z) _
  have HBag : Hid (Bag z (w1.setCell ⟨z, 15, none⟩ (.slice (some ⟨g', 0, none⟩) (vs.length + 1) c')) (vb ++ xs.take (0 * 2)) (vs ++ [.slice a n c])) := Lib.hid (by
    rw [Nat.zero_mul, List.take_zero, List.append_nil]
    refine ⟨_, ub, .slice (some ⟨g', 0, none⟩) (vs.length + 1) c', hh2, by simp [Hs.out], fun i h1 h2 h3 => ?_, ?_, ?_, hoth, hkeep, fun b e1 e2 => hdis2 b e2 e1⟩
    · rw [Array.getElem?_setIfInBounds_ne (by omega)]; exact Hnil.out i h1 h2 h3
    · rw [Array.getElem?_setIfInBounds_ne (by decide)]; exact Hx2.out
    · rw [Array.getElem?_setIfInBounds_self_of_lt (by rw [Hs.out]; decide)])
  have HBl := Lib.hid hbl
  clear hh2 hkeep hoth hdis2 hbl
  go_loopw [4] (fun s4 wr => ∃ i : Nat, s4 = .int .i64 i ∧ i ≤ n ∧ Hid (Bag z wr (vb ++ xs.take (i * 2)) (vs ++ [.slice a n c])) ∧ Hid (Below z w wr)) (fun s4 _ => n - (intOf s4).toNat)
  case atStart => exact ⟨0, rfl, Nat.zero_le _, HBag, HBl⟩
  case round =>
    clear HBag HBl
    obtain ⟨i, rfl, hi, hbag, hb⟩ := hrel
    by_cases hin : i < n
    · obtain ⟨g, rfl, hgz, hcell⟩ := Hat.out (by omega)
      have hl0 : i * 2 < xs.length := by rw [Hxl.out]; omega
      have hl1 : i * 2 + 1 < xs.length := by rw [Hxl.out]; omega
      obtain ⟨k0, k1, k2, hk⟩ := Hxs.out _ (List.getElem_mem hl0)
      obtain ⟨u0, u1, u2, hu⟩ := Hxs.out _ (List.getElem_mem hl1)
      have y0 := (hb.out.cell (p := ⟨g, i * 2, none⟩) hgz).trans (hcell (i * 2) (by omega))
      have y1 := (hb.out.cell (p := ⟨g, i * 2 + 1, none⟩) hgz).trans (hcell (i * 2 + 1) (by omega))
      rw [List.getElem?_eq_getElem hl0, hk] at y0
      rw [List.getElem?_eq_getElem hl1, hu] at y1
      have htk : xs.take ((i + 1) * 2) = xs.take (i * 2) ++ [.slice k0 k1 k2, .slice u0 u1 u2] := by
        rw [show (i + 1) * 2 = i * 2 + 1 + 1 by omega, List.take_add_one, List.take_add_one, List.getElem?_eq_getElem hl0, List.getElem?_eq_getElem hl1, hk, hu, List.append_assoc]
        rfl
      have Htk := Lib.hid htk
      have HO := Lib.hid (oneRow_any z (vb ++ xs.take (i * 2)) (vs ++ [.slice (some ⟨g, 0, none⟩) n c]) k0 u0 k1 k2 u1 u2 wr hbag.out (by rw [List.length_append, List.length_take]; omega))
      clear hcell hk hu htk hl0 hl1
      go_wp2_with (fail)
      go_at_call 76
      refine HO.out.mono ?_
      rintro e w2 ⟨rfl, h2, h3⟩
      have H2 := Lib.hid h2
      have H3 := Lib.hid (hb.out.trans h3)
      clear h2 h3
      go_wp2_with (fail)
      go_roundw
      case rel => exact ⟨i + 1, by go_num, by omega, Lib.hid (by rw [Htk.out, ← List.append_assoc]; exact H2.out), H3⟩
      case measure => simp [intOf]; omega
    · have hfin : Hid (Bag z wr (vb ++ xs) (vs ++ [.slice a n c])) := Lib.hid (by
        have h := hbag.out
        rw [List.take_of_length_le (by rw [Hxl.out]; omega)] at h
        exact h)
      clear hbag
      go_wp2_with (fail)
      go_end0
      exact ⟨rfl, hfin.out, hb.out⟩
end Go.Proofs.YtbinikbgbgggaaaGreatDoor
namespace Go.Proofs.YtbinikbgbgggaaaGreatDoor
open Go.RowKit

theorem flatBytes_u (B N M K : Nat) (u : Value) (V : Nat → Value) (n : Nat → Nat) (w : World) (hBN : B ≤ N) (hN : N ≤ M) (hu : w.ownsRow M 22 1 u K ((List.range K).map V)) (hA : Ap 5 1 TB B N K V n (fun _ => 0) w) (hK : K ≤ 100000) (hF : ∀ k, k < K → n k ≤ 1000000) :
    Calls Tryz.prog 57 #[u] w fun e w' => e = .returned (.bool true) ∧ Out K V w w' := by
  obtain ⟨e1, ⟨rfl, rfl⟩ | ⟨g, cap, cur, rfl, hg, hh, hle, hcap, r⟩⟩ := id hu
  · exact (flatBytes_nil w).mono fun _ _ h => ⟨h.1, (Out.refl _ _ _).below h.2⟩
  · refine flatBytes_any B N K cap g V n w hBN hA hK ⟨hle, by simpa [maxLen] using hcap⟩ ⟨Nat.le_trans hN hg, (Array.getElem?_eq_some_iff.1 hh).1⟩ (fun k hk => ?_) hF
    rw [hu.cellAt k (by omega), List.getElem?_map, List.getElem?_range hk]
    rfl

theorem flatRows_u (B N M K : Nat) (u : Value) (V : Nat → Value) (n : Nat → Nat) (w : World) (hBN : B ≤ N) (hN : N ≤ M) (hu : w.ownsRow M 28 1 u K ((List.range K).map V)) (hA : Ap 60 2 TR B N K V n (fun _ => 0) w) (hK : K ≤ 100000) (hF : ∀ k, k < K → n k ≤ 1000000) :
    Calls Tryz.prog 68 #[u] w fun e w' => e = .returned (.bool true) ∧ Out K V w w' := by
  obtain ⟨e1, ⟨rfl, rfl⟩ | ⟨g, cap, cur, rfl, hg, hh, hle, hcap, r⟩⟩ := id hu
  · exact (flatRows_nil w).mono fun _ _ h => ⟨h.1, (Out.refl _ _ _).below h.2⟩
  · refine flatRows_any B N K cap g V n w hBN hA hK ⟨hle, by simpa [maxLen] using hcap⟩ ⟨Nat.le_trans hN hg, (Array.getElem?_eq_some_iff.1 hh).1⟩ (fun k hk => ?_) hF
    rw [hu.cellAt k (by omega), List.getElem?_map, List.getElem?_range hk]
    rfl

/-- Two families of lists as one. -/
def joinV (Kb : Nat) (Vb Vr : Nat → Value) : Nat → Value := fun j => if j < Kb then Vb j else Vr (j - Kb)
theorem Out.left {Kb Kr : Nat} {Vb Vr : Nat → Value} {w w' : World} (h : Out Kb Vb w w') : Out (Kb + Kr) (joinV Kb Vb Vr) w w' :=
  ⟨h.os, h.tape, h.output, h.size, fun k hk hn => h.block k hk (fun j hj => by have := hn j (by omega); unfold joinV at this; rwa [if_pos hj] at this)⟩
theorem Out.right {Kb Kr : Nat} {Vb Vr : Nat → Value} {w w' : World} (h : Out Kr Vr w w') : Out (Kb + Kr) (joinV Kb Vb Vr) w w' :=
  ⟨h.os, h.tape, h.output, h.size, fun k hk hn => h.block k hk (fun j hj => by have := hn (Kb + j) (by omega); unfold joinV at this; rwa [if_neg (by omega), Nat.add_sub_cancel_left] at this)⟩
/-- Lists stand while others are marked. -/
theorem Ap.out {e le : TypeId} {cs : Nat} {T : World → List Value → Nat → Nat → Prop} {B N K Kb : Nat} {V Vb : Nat → Value} {n : Nat → Nat} {w w' : World} (h : Ap e cs T B N K V n (fun _ => 0) w) (st : Stab e le T) (ho : Out Kb Vb w w') (hd : ∀ i, i < Kb → ∀ j, j < K → ∀ b, (Vb i).ownBlock = some b → (V j).ownBlock ≠ some b) : Ap e cs T B N K V n (fun _ => 0) w' :=
  ⟨fun k hk => by
    obtain ⟨X, h1, -⟩ := h.own k hk
    exact ⟨X, rows_keep h1 fun b hb => ho.block b (rows_ge h1 b hb).2 (fun j hj e => hd j hj k hk b e hb), st.zero _ _ _⟩, h.lt, h.ap, Nat.le_trans h.size ho.size⟩
theorem Ap.joinNe {Kb Kr B N : Nat} {Vb Vr : Nat → Value} {nb nr Ib Ir : Nat → Nat} {e1 e2 : TypeId} {c1 c2 : Nat} {T1 T2 : World → List Value → Nat → Nat → Prop} {w w' : World} (hb : Ap e1 c1 T1 B N Kb Vb nb Ib w) (hr : Ap e2 c2 T2 B N Kr Vr nr Ir w') {b : Nat} (hN : N ≤ b) : ∀ j, j < Kb + Kr → (joinV Kb Vb Vr j).ownBlock ≠ some b := fun j hj => by
  unfold joinV
  split
  · exact hb.ne (by assumption) hN
  · exact hr.ne (by omega) hN

set_option maxHeartbeats 16000000 in
set_option maxRecDepth 100000 in
theorem bag_any (B N Kb Kr z : Nat) (Vb Vr : Nat → Value) (nb nr : Nat → Nat) (w : World) (hBN : B ≤ N) (hAb : Ap 5 1 TB B N Kb Vb nb (fun _ => 0) w) (hAr : Ap 60 2 TR B N Kr Vr nr (fun _ => 0) w)
    (hd : ∀ i, i < Kb → ∀ j, j < Kr → ∀ b, (Vb i).ownBlock = some b → (Vr j).ownBlock ≠ some b) (hKb : Kb ≤ 100000) (hKr : Kr ≤ 100000) (hz : N ≤ z) (hbag : Bag z w ((List.range Kb).map Vb) ((List.range Kr).map Vr)) (hFb : ∀ k, k < Kb → nb k ≤ 1000000) (hFr : ∀ k, k < Kr → nr k ≤ 1000000) :
    Calls Tryz.prog 39 #[.pointer (some ⟨z, 0, none⟩)] w fun e w' => e = .returned (.bool true) ∧ Out (Kb + Kr) (joinV Kb Vb Vr) w w' := by
  have hzlt := hbag.lt
  obtain ⟨cs, ub, ur, hh, hs, hnil, h4, h15, hob, hor, -⟩ := hbag
  rw [List.length_map, List.length_range] at hob hor
  have HZ : Hid (∀ j, j < Kb + Kr → (joinV Kb Vb Vr j).ownBlock ≠ some z) := Lib.hid (hAb.joinNe hAr hz)
  have HC : Hid (∀ w', Out (Kb + Kr) (joinV Kb Vb Vr) w w' → ∀ i u, cs[i]? = some u → w'.cell? ⟨z, i, none⟩ = some u) := Lib.hid fun w' ho i u hi => by
    rw [cell_of_row w' z i _ _ _ ((ho.block z hzlt HZ.out).trans hh)]; exact hi
  have HNil := Lib.hid hnil
  have H4 := Lib.hid h4
  have H15 := Lib.hid h15
  have HPb : Hid (∀ w', Below w.heap.size w w' → Calls Tryz.prog 57 #[ub] w' fun e w'' => e = .returned (.bool true) ∧ Out Kb Vb w' w'') := Lib.hid fun w' hb =>
    flatBytes_u B N (z + 1) Kb ub Vb nb w' hBN (by omega) (rows_below hob hb) (hAb.below (TB_stab (le := 22)) hb) hKb hFb
  have HPr : Hid (∀ w' w'' w3, Below w.heap.size w w' → Out Kb Vb w' w'' → Below w''.heap.size w'' w3 → Calls Tryz.prog 68 #[ur] w3 fun e w4 => e = .returned (.bool true) ∧ Out Kr Vr w3 w4) := Lib.hid fun w' w'' w3 hb ho hb3 =>
    flatRows_u B N (z + 1) Kr ur Vr nr w3 hBN (by omega) (rows_below (rows_keep (rows_below hor hb) fun b e => ho.block b (Nat.lt_of_lt_of_le (rows_ge hor b e).2 hb.size) (fun j hj => hAb.ne hj (by have := (rows_ge hor b e).1; omega))) hb3) (((hAr.below TR_stab hb).out TR_stab ho hd).below TR_stab hb3) hKr hFr
  have B0 := Lib.hid (Below.refl w.heap.size w)
  have c0 := HC.out w (Out.refl _ _ _) 0 _ (HNil.out 0 (by decide) (by decide) (by decide))
  obtain ⟨ua, un, uc, eub⟩ : ∃ a n c, ub = .slice a n c := by obtain ⟨a, c, e, -⟩ := rows_form hob; exact ⟨_, _, _, e⟩
  obtain ⟨ra, rn, rc, eur⟩ : ∃ a n c, ur = .slice a n c := by obtain ⟨a, c, e, -⟩ := rows_form hor; exact ⟨_, _, _, e⟩
  subst eub
  subst eur
  clear hAb hAr hd hFb hFr hh hs hnil h4 h15 hob hor
  go_enter Tryz.func39, Tryz.ntmps39
  go_wp2_with (first | (go_at_call 53; refine (flatWords_nil _).mono ?_; rintro e w1 ⟨rfl, hb⟩; have B1 := Lib.hid (B0.out.trans (hb.mono B0.out.size)); clear hb c0; have c1 := HC.out w1 ((Out.refl _ _ w).below B1.out) 1 _ (HNil.out 1 (by decide) (by decide) (by decide))) | (go_at_call 54; refine (flatInts_nil _).mono ?_; rintro e w2 ⟨rfl, hb⟩; have B2 := Lib.hid (B1.out.trans (hb.mono B1.out.size)); clear hb c1; have c2 := HC.out w2 ((Out.refl _ _ w).below B2.out) 2 _ (HNil.out 2 (by decide) (by decide) (by decide))) | (go_at_call 55; refine (flatLongs_nil _).mono ?_; rintro e w3 ⟨rfl, hb⟩; have B3 := Lib.hid (B2.out.trans (hb.mono B2.out.size)); clear hb c2; have c3 := HC.out w3 ((Out.refl _ _ w).below B3.out) 3 _ (HNil.out 3 (by decide) (by decide) (by decide))) | (go_at_call 56; refine (flatTexts_nil _).mono ?_; rintro e w4 ⟨rfl, hb⟩; have B4 := Lib.hid (B3.out.trans (hb.mono B3.out.size)); clear hb c3; have c4 := HC.out w4 ((Out.refl _ _ w).below B4.out) 4 _ H4.out) | (go_at_call 57; refine (HPb.out w4 B4.out).mono ?_; rintro e w5 ⟨rfl, ho⟩; have O5 := Lib.hid ho; have D5 := Lib.hid (Below.refl w5.heap.size w5); have T5 : Hid (Out (Kb + Kr) (joinV Kb Vb Vr) w w5) := Lib.hid (((Out.refl _ _ w).below B4.out).trans ho.left); clear ho c4; have c5 := HC.out w5 (T5.out) 5 _ (HNil.out 5 (by decide) (by decide) (by decide))) | (go_at_call 58; refine (flatWindows_nil _).mono ?_; rintro e w6 ⟨rfl, hb⟩; have D6 := Lib.hid (D5.out.trans (hb.mono D5.out.size)); have T6 := Lib.hid (T5.out.below hb); clear hb c5; have c6 := HC.out w6 (T6.out) 6 _ (HNil.out 6 (by decide) (by decide) (by decide))) | (go_at_call 59; refine (flatLots_nil _).mono ?_; rintro e w7 ⟨rfl, hb⟩; have D7 := Lib.hid (D6.out.trans (hb.mono D6.out.size)); have T7 := Lib.hid (T6.out.below hb); clear hb c6; have c7 := HC.out w7 (T7.out) 7 _ (HNil.out 7 (by decide) (by decide) (by decide))) | (go_at_call 60; refine (flatWants_nil _).mono ?_; rintro e w8 ⟨rfl, hb⟩; have D8 := Lib.hid (D7.out.trans (hb.mono D7.out.size)); have T8 := Lib.hid (T7.out.below hb); clear hb c7; have c8 := HC.out w8 (T8.out) 8 _ (HNil.out 8 (by decide) (by decide) (by decide))) | (go_at_call 61; refine (flatUses_nil _).mono ?_; rintro e w9 ⟨rfl, hb⟩; have D9 := Lib.hid (D8.out.trans (hb.mono D8.out.size)); have T9 := Lib.hid (T8.out.below hb); clear hb c8; have c9 := HC.out w9 (T9.out) 9 _ (HNil.out 9 (by decide) (by decide) (by decide))) | (go_at_call 62; refine (flatParts_nil _).mono ?_; rintro e w10 ⟨rfl, hb⟩; have D10 := Lib.hid (D9.out.trans (hb.mono D9.out.size)); have T10 := Lib.hid (T9.out.below hb); clear hb c9; have c10 := HC.out w10 (T10.out) 10 _ (HNil.out 10 (by decide) (by decide) (by decide))) | (go_at_call 63; refine (flatItems_nil _).mono ?_; rintro e w11 ⟨rfl, hb⟩; have D11 := Lib.hid (D10.out.trans (hb.mono D10.out.size)); have T11 := Lib.hid (T10.out.below hb); clear hb c10; have c11 := HC.out w11 (T11.out) 11 _ (HNil.out 11 (by decide) (by decide) (by decide))) | (go_at_call 64; refine (flatLines_nil _).mono ?_; rintro e w12 ⟨rfl, hb⟩; have D12 := Lib.hid (D11.out.trans (hb.mono D11.out.size)); have T12 := Lib.hid (T11.out.below hb); clear hb c11; have c12 := HC.out w12 (T12.out) 12 _ (HNil.out 12 (by decide) (by decide) (by decide))) | (go_at_call 65; refine (flatAsks_nil _).mono ?_; rintro e w13 ⟨rfl, hb⟩; have D13 := Lib.hid (D12.out.trans (hb.mono D12.out.size)); have T13 := Lib.hid (T12.out.below hb); clear hb c12; have c13 := HC.out w13 (T13.out) 13 _ (HNil.out 13 (by decide) (by decide) (by decide))) | (go_at_call 66; refine (flatTells_nil _).mono ?_; rintro e w14 ⟨rfl, hb⟩; have D14 := Lib.hid (D13.out.trans (hb.mono D13.out.size)); have T14 := Lib.hid (T13.out.below hb); clear hb c13; have c14 := HC.out w14 (T14.out) 14 _ (HNil.out 14 (by decide) (by decide) (by decide))) | (go_at_call 67; refine (flatStates_nil _).mono ?_; rintro e w15 ⟨rfl, hb⟩; have D15 := Lib.hid (D14.out.trans (hb.mono D14.out.size)); have T15 := Lib.hid (T14.out.below hb); clear hb c14; have c15 := HC.out w15 (T15.out) 15 _ H15.out) | (go_at_call 68; refine (HPr.out w4 w5 w15 B4.out O5.out D15.out).mono ?_; rintro e w16 ⟨rfl, ho⟩; have T16 := Lib.hid (T15.out.trans ho.right); clear ho c15; have c16 := HC.out w16 (T16.out) 16 _ (HNil.out 16 (by decide) (by decide) (by decide))) | (go_at_call 69; refine (flatTurns_nil _).mono ?_; rintro e w17 ⟨rfl, hb⟩; have T17 := Lib.hid (T16.out.below hb); clear hb c16; have c17 := HC.out w17 (T17.out) 17 _ (HNil.out 17 (by decide) (by decide) (by decide))) | (go_at_call 70; refine (flatFates_nil _).mono ?_; rintro e w18 ⟨rfl, hb⟩; have T18 := Lib.hid (T17.out.below hb); clear hb c17; have c18 := HC.out w18 (T18.out) 18 _ (HNil.out 18 (by decide) (by decide) (by decide))) | (go_at_call 71; refine (flatDirties_nil _).mono ?_; rintro e w19 ⟨rfl, hb⟩; have T19 := Lib.hid (T18.out.below hb); clear hb c18; have c19 := HC.out w19 (T19.out) 19 _ (HNil.out 19 (by decide) (by decide) (by decide))) | (go_at_call 72; refine (flatOpens_nil _).mono ?_; rintro e w20 ⟨rfl, hb⟩; have T20 := Lib.hid (T19.out.below hb); clear hb c19; have c20 := HC.out w20 (T20.out) 20 _ (HNil.out 20 (by decide) (by decide) (by decide))) | (go_at_call 73; refine (flatRecords_nil _).mono ?_; rintro e w21 ⟨rfl, hb⟩; have T21 := Lib.hid (T20.out.below hb); clear hb c20; have c21 := HC.out w21 (T21.out) 21 _ (HNil.out 21 (by decide) (by decide) (by decide))) | (go_at_call 74; refine (flatSteps_nil _).mono ?_; rintro e w22 ⟨rfl, hb⟩; have T22 := Lib.hid (T21.out.below hb); clear hb c21; have c22 := HC.out w22 (T22.out) 22 _ (HNil.out 22 (by decide) (by decide) (by decide))) | (go_at_call 75; refine (flatTales_nil _).mono ?_; rintro e w23 ⟨rfl, hb⟩; have T23 := Lib.hid (T22.out.below hb); clear hb c22))
  go_ret
  exact ⟨rfl, T23.out⟩

set_option maxHeartbeats 4000000 in
set_option maxRecDepth 100000 in
theorem ApartBytes_any (B K c lb : Nat) (V : Nat → Value) (n : Nat → Nat) (w : World) (hB : B ≤ w.heap.size) (hA : Ap 5 1 TB B w.heap.size K V n (fun _ => 0) w) (hK : K ≤ 100000) (hc : K ≤ c ∧ c ≤ 9223372036854775807) (hlb : lb < w.heap.size)
    (hls : ∀ k, k < K → w.cell? ⟨lb, k, none⟩ = some (V k)) (hF : ∀ k, k < K → n k ≤ 1000000) :
    Calls Tryz.prog 11 #[.slice (some ⟨lb, 0, none⟩) K c] w fun e w' => e = .returned (.bool true) ∧ Out K V w w' := by
  obtain ⟨hc1, hc2⟩ := hc
  have HA := Lib.hid hA
  have HLS := Lib.hid hls
  have HF := Lib.hid hF
  obtain ⟨z, hz⟩ : ∃ z, z = w.heap.size := ⟨_, rfl⟩
  have Hz := Lib.hid hz
  have hb0 := Lib.hid (bag_new w)
  have hbw := Lib.hid ((Below.refl w.heap.size w).alloc (Nat.le_refl _) (.cells #[.slice none 0 0, .slice none 0 0, .slice none 0 0, .slice none 0 0, .slice none 0 0, .slice none 0 0, .slice none 0 0, .slice none 0 0, .slice none 0 0, .slice none 0 0, .slice none 0 0, .slice none 0 0, .slice none 0 0, .slice none 0 0, .slice none 0 0, .slice none 0 0, .slice none 0 0, .slice none 0 0, .slice none 0 0, .slice none 0 0, .slice none 0 0, .slice none 0 0, .slice none 0 0] 84))
  rw [← hz] at hb0
  clear hA hls hF
  go_enter Tryz.func11, Tryz.ntmps11
  go_wp2_with (fail)
  rw [← hz]
  clear hz
  go_loopw [4] (fun s4 wr => ∃ k : Nat, s4 = .int .i64 k ∧ k ≤ K ∧ Hid (Bag z wr ((List.range k).map V) []) ∧ Hid (Below w.heap.size w wr)) (fun s4 _ => K - (intOf s4).toNat)
  case atStart => exact ⟨0, rfl, by omega, hb0, hbw⟩
  case round =>
    clear hb0 hbw
    obtain ⟨k, rfl, hk, hbag, hbw⟩ := hrel
    by_cases hkn : k < K
    · obtain ⟨a, c', hv, -⟩ := HA.out.split hkn
      have hcl := (hbw.out.cell (p := ⟨lb, k, none⟩) hlb).trans (HLS.out k hkn)
      obtain ⟨nk, hnk⟩ : ∃ m, m = n k := ⟨_, rfl⟩
      rw [← hnk] at hv
      rw [hv] at hcl
      have Hv := Lib.hid hv
      have hput := putBytes_any z ((List.range k).map V) [] a nk c' wr hbag.out (by simp; omega)
      have Hput := Lib.hid hput
      clear hput hv hnk
      go_wp2_with (go_at_call 38; refine Hput.out.mono ?_; rintro e w2 ⟨rfl, h2, h3, -⟩; have H2 := Lib.hid h2; have H3 := Lib.hid h3; clear h2 h3)
      go_roundw
      case rel =>
        have h4 := H2.out
        rw [← Hv.out] at h4
        exact ⟨k + 1, by go_num, by omega, Lib.hid (by rw [List.range_succ, List.map_append]; exact h4), Lib.hid (hbw.out.trans (Hz.out ▸ H3.out))⟩
      case measure => simp [intOf]; omega
    · have ek : k = K := by omega
      subst ek
      have hap := Lib.hid (bag_any B z k 0 z V (fun _ => .slice none 0 0) n (fun _ => 0) wr (by rw [Hz.out]; exact hB) (by rw [Hz.out]; exact HA.out.below (TB_stab (le := 22)) hbw.out) ⟨fun k hk => absurd hk (Nat.not_lt_zero _), fun k hk => absurd hk (Nat.not_lt_zero _), fun j k hj => absurd hj (Nat.not_lt_zero _), by rw [Hz.out]; exact hbw.out.size⟩ (fun _ _ j hj => absurd hj (Nat.not_lt_zero _)) hK (by decide) (Nat.le_refl _) hbag.out HF.out (fun k hk => absurd hk (Nat.not_lt_zero _)))
      go_wp2_with (go_at_call 39; refine hap.out.mono ?_; rintro e w2 ⟨rfl, h2⟩; have H2 := Lib.hid h2; clear h2)
      go_ret
      refine ⟨rfl, ((Out.refl k V w).below hbw.out).trans ⟨H2.out.os, H2.out.tape, H2.out.output, H2.out.size, fun i hi hn => H2.out.block i hi (fun j hj => ?_)⟩⟩
      unfold joinV
      rw [if_pos (by omega)]
      exact hn j (by omega)

set_option maxHeartbeats 4000000 in
set_option maxRecDepth 100000 in
theorem ApartRows_any (B K c lb : Nat) (V : Nat → Value) (n : Nat → Nat) (X : Nat → List Value) (w : World) (hB : B ≤ w.heap.size) (hA : Ap 60 2 TR B w.heap.size K V n (fun _ => 0) w) (hX : ∀ k, k < K → w.ownsRow B 60 2 (V k) (n k) (X k))
    (hb : ∀ u ∈ (List.range K).flatMap X, ∃ l : List UInt8, w.ownsRow B 5 1 u l.length (l.map bv) ∧ l.length ≤ 1000) (hp : ((List.range K).flatMap X).Pairwise fun u u' => ∀ b, u.ownBlock = some b → u'.ownBlock ≠ some b) (hd : ∀ u ∈ (List.range K).flatMap X, ∀ k, k < K → ∀ b, u.ownBlock = some b → (V k).ownBlock ≠ some b)
    (hK : K ≤ 1000) (hc : K ≤ c ∧ c ≤ 9223372036854775807) (hlb : lb < w.heap.size) (hls : ∀ k, k < K → w.cell? ⟨lb, k, none⟩ = some (V k)) (hF : ∀ k, k < K → n k ≤ 1000000) (hall : ∀ k, k ≤ K → ((List.range k).flatMap X).length ≤ 50000) :
    Calls Tryz.prog 12 #[.slice (some ⟨lb, 0, none⟩) K c] w fun e w' => e = .returned (.bool true) ∧ Below B w w' := by
  obtain ⟨hc1, hc2⟩ := hc
  have HA := Lib.hid hA
  have HX := Lib.hid hX
  have HB := Lib.hid hb
  have HPw := Lib.hid hp
  have HD := Lib.hid hd
  have HLS := Lib.hid hls
  have HF := Lib.hid hF
  have HAll := Lib.hid hall
  obtain ⟨z, hz⟩ : ∃ z, z = w.heap.size := ⟨_, rfl⟩
  have Hz := Lib.hid hz
  have hb0 := Lib.hid (bag_new w)
  have hbw := Lib.hid ((Below.refl w.heap.size w).alloc (Nat.le_refl _) (.cells #[.slice none 0 0, .slice none 0 0, .slice none 0 0, .slice none 0 0, .slice none 0 0, .slice none 0 0, .slice none 0 0, .slice none 0 0, .slice none 0 0, .slice none 0 0, .slice none 0 0, .slice none 0 0, .slice none 0 0, .slice none 0 0, .slice none 0 0, .slice none 0 0, .slice none 0 0, .slice none 0 0, .slice none 0 0, .slice none 0 0, .slice none 0 0, .slice none 0 0, .slice none 0 0] 84))
  rw [← hz] at hb0
  clear hA hls hF hX hb hp hd hall
  go_enter Tryz.func12, Tryz.ntmps12
  go_wp2_with (fail)
  rw [← hz]
  clear hz
  go_loopw [4] (fun s4 wr => ∃ k : Nat, s4 = .int .i64 k ∧ k ≤ K ∧ Hid (Bag z wr ((List.range k).flatMap X) ((List.range k).map V)) ∧ Hid (Below w.heap.size w wr)) (fun s4 _ => K - (intOf s4).toNat)
  case atStart => exact ⟨0, rfl, by omega, hb0, hbw⟩
  case round =>
    clear hb0 hbw
    obtain ⟨k, rfl, hk, hbag, hbw⟩ := hrel
    by_cases hkn : k < K
    · obtain ⟨a, c', hv, hcc1, hcc2, hsome⟩ := HA.out.split hkn
      have hown := HX.out k hkn
      have hcl := (hbw.out.cell (p := ⟨lb, k, none⟩) hlb).trans (HLS.out k hkn)
      obtain ⟨nk, hnk⟩ : ∃ m, m = n k := ⟨_, rfl⟩
      have hnf := HF.out k hkn
      rw [← hnk] at hv hcc1 hsome hown hnf
      rw [hv] at hcl hown
      have Hv := Lib.hid hv
      have hlen := hown.1
      have hm1 : ∀ u ∈ X k, u ∈ (List.range K).flatMap X := fun u hu => List.mem_flatMap.2 ⟨k, List.mem_range.2 hkn, hu⟩
      have hal := HAll.out (k + 1) hkn
      rw [List.range_succ, List.flatMap_append, List.length_append] at hal
      simp only [List.flatMap_cons, List.flatMap_nil, List.append_nil] at hal
      have hput := putRows_any z ((List.range k).map V) ((List.range k).flatMap X) (X k) a nk c' wr hbag.out (by simp; omega) (by omega) hcc1 hcc2 hlen (fun u hu => by
        obtain ⟨l, h1, -⟩ := HB.out u (hm1 u hu)
        obtain ⟨a, c, e, -⟩ := rows_form h1
        exact ⟨_, _, _, e⟩) (fun h0 => by
        obtain ⟨g, rfl⟩ := hsome h0
        have hlt := (row_lt hown).2
        exact ⟨g, rfl, by rw [Hz.out]; exact hlt, fun j hj => (hbw.out.cell (p := ⟨g, j, none⟩) hlt).trans (hown.cellAt j hj)⟩)
      have Hput := Lib.hid hput
      clear hput hv hnk hsome hown hlen hm1 hal
      go_wp2_with (go_at_call 40; refine Hput.out.mono ?_; rintro e w2 ⟨rfl, h2, h3⟩; have H2 := Lib.hid h2; have H3 := Lib.hid h3; clear h2 h3)
      go_roundw
      case rel =>
        have h4 := H2.out
        rw [← Hv.out] at h4
        exact ⟨k + 1, by go_num, by omega, Lib.hid (by rw [List.range_succ, List.map_append, List.flatMap_append]; simpa using h4), Lib.hid (hbw.out.trans (Hz.out ▸ H3.out))⟩
      case measure => simp [intOf]; omega
    · have ek : k = K := by omega
      subst ek
      have hlen := HAll.out k (Nat.le_refl _)
      obtain ⟨W, hW⟩ : ∃ W, W = (List.range k).flatMap X := ⟨_, rfl⟩
      have hbg := hbag.out
      have hB' := HB.out
      have hP' := HPw.out
      have hD' := HD.out
      rw [← hW] at hlen hbg hB' hP' hD'
      have hget : ∀ j, j < W.length → W[j]? = some (W.getD j (.slice none 0 0)) := fun j hj => by rw [List.getD_eq_getElem?_getD, List.getElem?_eq_getElem hj]; rfl
      have hmem : ∀ j, j < W.length → W.getD j (.slice none 0 0) ∈ W := fun j hj => List.mem_of_getElem? (hget j hj)
      have hmap : (List.range W.length).map (fun j => W.getD j (.slice none 0 0)) = W := List.ext_getElem? fun j => by
        by_cases hj : j < W.length
        · rw [List.getElem?_map, List.getElem?_range hj, hget j hj]; rfl
        · rw [List.getElem?_eq_none (by simp; omega), List.getElem?_eq_none (by omega)]
      have hlens : ∃ nb : Nat → Nat, ∀ j, j < W.length → ∃ l : List UInt8, nb j = l.length ∧ w.ownsRow B 5 1 (W.getD j (.slice none 0 0)) l.length (l.map bv) ∧ l.length ≤ 1000 := by
        refine ⟨fun j => if hj : j < W.length then (Classical.choose (hB' _ (hmem j hj))).length else 0, fun j hj => ?_⟩
        have hs := Classical.choose_spec (hB' _ (hmem j hj))
        exact ⟨_, dif_pos hj, hs⟩
      obtain ⟨nb, hnb⟩ := hlens
      have hAb : Ap 5 1 TB B z W.length (fun j => W.getD j (.slice none 0 0)) nb (fun _ => 0) wr := by
        refine ⟨fun j hj => ?_, fun j hj b e => ?_, fun i j hi hj hne b e1 e2 => ?_, by rw [Hz.out]; exact hbw.out.size⟩
        · obtain ⟨l, e, h1, -⟩ := hnb j hj
          exact ⟨_, by rw [e]; exact rows_below h1 hbw.out, TB_stab.zero (e := 5) (le := 22) _ _ _⟩
        · obtain ⟨l, -, h1, -⟩ := hnb j hj
          rw [Hz.out]
          exact (rows_ge h1 b e).2
        · have hpw := List.pairwise_iff_getElem.1 hP'
          have q : ∀ j (hj : j < W.length), W.getD j (.slice none 0 0) = W[j] := fun j hj => by rw [List.getD_eq_getElem?_getD, List.getElem?_eq_getElem hj]; rfl
          simp only [q i hi] at e1
          simp only [q j hj] at e2
          rcases Nat.lt_or_gt_of_ne hne with h | h
          · exact hpw i j hi hj h b e1 e2
          · exact hpw j i hj hi h b e2 e1
      have hap := Lib.hid (bag_any B z W.length k z (fun j => W.getD j (.slice none 0 0)) V nb n wr (by rw [Hz.out]; exact hB) hAb (by rw [Hz.out]; exact HA.out.below TR_stab hbw.out) (fun i hi j hj b e1 => hD' _ (hmem i hi) j hj b e1) (by omega) (by omega) (Nat.le_refl _) (by rw [hmap]; exact hbg) (fun j hj => by obtain ⟨l, e, -, h⟩ := hnb j hj; omega) HF.out)
      have HAb := Lib.hid hAb
      clear hbg hB' hP' hD' hget hmem hmap hnb hAb hW hlen
      go_wp2_with (go_at_call 39; refine hap.out.mono ?_; rintro e w2 ⟨rfl, h2⟩; have H2 := Lib.hid h2; clear h2)
      go_ret
      refine ⟨rfl, (hbw.out.mono hB).trans ⟨H2.out.os, H2.out.tape, H2.out.output, H2.out.size, fun i hi => ?_⟩⟩
      by_cases hlt : i < wr.heap.size
      · refine H2.out.block i hlt (fun j hj e => ?_)
        unfold joinV at e
        split at e
        · obtain ⟨Y, h1, -⟩ := HAb.out.own j (by assumption)
          have := (rows_ge h1 i e).1
          omega
        · obtain ⟨Y, h1, -⟩ := HA.out.own (j - W.length) (by omega)
          have := (rows_ge h1 i e).1
          omega
      · have := hbw.out.size; omega
end Go.Proofs.YtbinikbgbgggaaaGreatDoor
