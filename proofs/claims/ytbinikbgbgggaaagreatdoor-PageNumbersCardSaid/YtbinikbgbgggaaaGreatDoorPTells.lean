/- page.Rows: the rows' bytes are the call's own, each in a block of its own. storemanlaw21.PageTells: its walk. -/
import Derived.Test.YtbinikbgbgggaaaGreatDoorRowsW
import Derived.Test.YtbinikbgbgggaaaGreatDoorTells
import Derived.Test.YtbinikbgbgggaaaGreatDoorFlApart
import Derived.Test.YtbinikbgbgggaaaGreatDoorLawB
namespace Go.Proofs.YtbinikbgbgggaaaGreatDoor
open Go.RowKit Go.Shelf
attribute [local go_sem] Oper.semAt_some

/-- Cells of rows: each own bytes, in rising blocks, none in block g. -/
structure OwnAll (base : Nat) (W : World) (g : Option Nat) (cs : List Value) : Prop where
  own : ∀ u ∈ cs, ∃ l : List UInt8, OB base W u l ∧ l.length ≤ 1000
  up : cs.Pairwise fun u u' => ∀ b b', u.ownBlock = some b → u'.ownBlock = some b' → b < b'
  ne : ∀ u ∈ cs, ∀ b, u.ownBlock = some b → g ≠ some b
def OOc (base : Nat) (W : World) (v : Value) (R : List (List UInt8 × List UInt8)) (cs : List Value) : Prop := W.ownsRow base 60 2 v R.length cs ∧ RowsCells W v.ownBlock cs R ∧ OwnAll base W v.ownBlock cs
def OO (base : Nat) (W : World) (v : Value) (R : List (List UInt8 × List UInt8)) : Prop := ∃ cs, OOc base W v R cs
theorem OO.or {base : Nat} {W : World} {v : Value} {R : List (List UInt8 × List UInt8)} (h : OO base W v R) : OR base W v R := by
  obtain ⟨cs, h1, h2, -⟩ := h
  exact ⟨cs, h1, h2⟩
theorem OO.nil (base : Nat) (W : World) : OO base W (.slice none 0 0) [] := ⟨[], World.ownsRow_nil _ _ _ _, trivial, ⟨fun u hu => (by cases hu), List.Pairwise.nil, fun u hu => (by cases hu)⟩⟩
theorem ob_keep {base : Nat} {W W' : World} {v : Value} {l : List UInt8} (h : OB base W v l) (hk : ∀ b cur, W.heap[b]? = some (.cells cur 5 (0, 0)) → v.ownBlock = some b → W'.heap[b]? = W.heap[b]?) : OB base W' v l := by
  obtain ⟨e1, h3 | ⟨g, cap, cur, hv, hg, hh, r⟩⟩ := h
  · exact ⟨e1, .inl h3⟩
  · exact ⟨e1, .inr ⟨g, cap, cur, hv, hg, (hk g cur hh (by rw [hv]; rfl)).trans hh, r⟩⟩
theorem OwnAll.keep {base : Nat} {W W' : World} {g : Option Nat} {cs : List Value} (h : OwnAll base W g cs) (hk : ∀ u ∈ cs, ∀ b cur, W.heap[b]? = some (.cells cur 5 (0, 0)) → u.ownBlock = some b → W'.heap[b]? = W.heap[b]?) : OwnAll base W' g cs :=
  ⟨fun u hu => by obtain ⟨l, h1, h2⟩ := h.own u hu; exact ⟨l, ob_keep h1 (hk u hu), h2⟩, h.up, h.ne⟩
theorem OwnAll.lt {base : Nat} {W : World} {g : Option Nat} {cs : List Value} (h : OwnAll base W g cs) : ∀ u ∈ cs, ∀ b, u.ownBlock = some b → base ≤ b ∧ b < W.heap.size := fun u hu b hb => by
  obtain ⟨l, h1, -⟩ := h.own u hu
  exact World.ownsRow.lt h1 b hb
theorem OOc.below {base : Nat} {W W' : World} {v : Value} {R : List (List UInt8 × List UInt8)} {cs : List Value} (h : OOc base W v R cs) (hb : Below W.heap.size W W') : OOc base W' v R cs := by
  obtain ⟨h1, h2, h3⟩ := h
  refine ⟨?_, h2.below hb, h3.keep fun u _ b cur hh _ => hb.block b (Array.getElem?_eq_some_iff.1 hh).1⟩
  obtain ⟨e, h3 | ⟨g, cap, cur, hv, hg, hh, r⟩⟩ := h1
  · exact ⟨e, .inl h3⟩
  · exact ⟨e, .inr ⟨g, cap, cur, hv, hg, (hb.block g (Array.getElem?_eq_some_iff.1 hh).1).trans hh, r⟩⟩
theorem OO.below {base : Nat} {W W' : World} {v : Value} {R : List (List UInt8 × List UInt8)} (h : OO base W v R) (hb : Below W.heap.size W W') : OO base W' v R := by
  obtain ⟨cs, h1⟩ := h
  exact ⟨cs, h1.below hb⟩
theorem OO.mono {B B' : Nat} {W : World} {v : Value} {R : List (List UInt8 × List UInt8)} (h : OO B W v R) (hb : B' ≤ B) : OO B' W v R := by
  obtain ⟨cs, h1, h2, h3⟩ := h
  obtain ⟨cs', h1', -⟩ := OR.mono (R := R) ⟨cs, h1, h2⟩ hb
  refine ⟨cs, ?_, h2, ⟨fun u hu => ?_, h3.up, h3.ne⟩⟩
  · obtain ⟨e, h3 | ⟨g, cap, cur, hv, hg, r⟩⟩ := h1
    · exact ⟨e, .inl h3⟩
    · exact ⟨e, .inr ⟨g, cap, cur, hv, Nat.le_trans hb hg, r⟩⟩
  · obtain ⟨l, k1, k2⟩ := h3.own u hu
    exact ⟨l, k1.mono hb, k2⟩
theorem OO.kept {W W' : World} {row : Option Nat} (hg : W.grownBy W' row) (hrow : ∀ r, row = some r → ∃ o : Obj, W.heap[r]? = some o ∧ o.isCells = false) {base : Nat} {v : Value} {R : List (List UInt8 × List UInt8)} (h : OO base W v R) : OO base W' v R := by
  obtain ⟨cs, h1, h2, h3⟩ := h
  refine ⟨cs, ?_, h2.kept hg hrow, h3.keep fun u _ b cur hh _ => grownBy_keeps_cells hg hrow hh rfl⟩
  obtain ⟨e, h3 | ⟨g, cap, cur, hv, hb, hh, r⟩⟩ := h1
  · exact ⟨e, .inl h3⟩
  · exact ⟨e, .inr ⟨g, cap, cur, hv, hb, (grownBy_keeps_cells hg hrow hh rfl).trans hh, r⟩⟩
theorem ob_up {B B' : Nat} {W W' : World} {v : Value} {l : List UInt8} (h : OB B W v l) (hb : B' ≤ B) (hW : Below W.heap.size W W') : OB B' W' v l := ob_keep (h.mono hb) fun b cur hh _ => hW.block b (Array.getElem?_eq_some_iff.1 hh).1
/-- rows_end, of own bytes. -/
theorem rows_endZ {w W W0 W6 w7 : World} {z y b : Nat} {T1 T2 : TypeId} {pv v kv vv : Value} {va : Option Addr} {vn vc : Nat} {cs : List Value} {R : List (List UInt8 × List UInt8)} {k u : List UInt8} {g cap : Nat} (hW0 : W0 = W.drew) (hB : Below W0.heap.size W0 W6)
    (hvs : v = .slice va vn vc) (hor : OR (y + 2) W6 v R) (hrc : RowsCells W6 v.ownBlock cs R) (hk : SlB W6 kv k v.ownBlock) (hv : SlB W6 vv u v.ownBlock) (hown : w7.ownsRow (y + 2) 60 2 (.slice (some ⟨g, 0, none⟩) (R.length + 1) cap) (R.length + 1) (cs ++ [kv, vv])) (hgrow : W6.grownBy w7 v.ownBlock)
    (hat : v.ownBlock = some g ∨ g = W6.heap.size) (b1 : Box W0 z T1 pv) (b3 : Box W0 y T2 v) (hzy : z < y) (h5 : Below z w W) (hb : b < z) (hy1 : y + 1 < W.heap.size)
    (hall : OwnAll (y + 2) W6 v.ownBlock cs) (hlo : ∀ x ∈ cs, ∀ b, x.ownBlock = some b → b < W0.heap.size) (m : Nat) (ok : OB (y + 2) W6 kv k) (hkm : ∀ b, kv.ownBlock = some b → W0.heap.size ≤ b ∧ b < m) (ov : OB (y + 2) W6 vv u) (hum : ∀ b, vv.ownBlock = some b → m ≤ b) (hmm : W0.heap.size ≤ m) (hlk : k.length ≤ 1000) (hlu : u.length ≤ 1000) (hvo : ∀ b, v.ownBlock = some b → b < W0.heap.size) :
    w7.cell? ⟨z, 0, none⟩ = some pv ∧ w7.cell? ⟨y, 0, none⟩ = some v ∧ w7.frozen? ⟨y, 0, none⟩ = false ∧ (w7.setCell ⟨y, 0, none⟩ (.slice (some ⟨g, 0, none⟩) (R.length + 1) cap)).cell? ⟨z, 0, none⟩ = some pv ∧
    KeepsOthers W (w7.setCell ⟨y, 0, none⟩ (.slice (some ⟨g, 0, none⟩) (R.length + 1) cap)) ∧ KpS (fun k => k = b ∨ k = y + 1) W (w7.setCell ⟨y, 0, none⟩ (.slice (some ⟨g, 0, none⟩) (R.length + 1) cap)) ∧
    ∃ v', Hid (OO (y + 2) (w7.setCell ⟨y, 0, none⟩ (.slice (some ⟨g, 0, none⟩) (R.length + 1) cap)) v' (R ++ [(k, u)])) ∧ Box (w7.setCell ⟨y, 0, none⟩ (.slice (some ⟨g, 0, none⟩) (R.length + 1) cap)) z T1 pv ∧
      Box (w7.setCell ⟨y, 0, none⟩ (.slice (some ⟨g, 0, none⟩) (R.length + 1) cap)) y T2 v' ∧ Below z w (w7.setCell ⟨y, 0, none⟩ (.slice (some ⟨g, 0, none⟩) (R.length + 1) cap)) ∧ W.heap.size ≤ (w7.setCell ⟨y, 0, none⟩ (.slice (some ⟨g, 0, none⟩) (R.length + 1) cap)).heap.size := by
  obtain ⟨q1, q2, q3, q4, q5, q6, -⟩ := rows_end hW0 hB hvs hor hrc hk hv hown hgrow hat b1 b3 hzy h5 hb hy1
  refine ⟨q1, q2, q3, q4, q5, q6, .slice (some ⟨g, 0, none⟩) (R.length + 1) cap, ?_⟩
  have hWs : W0.heap.size = W.heap.size := by rw [hW0]; rfl
  have hge : ∀ j, j < y + 2 → some j ≠ v.ownBlock := fun j hj e => by have := (hor.own_ge j e.symm).1; omega
  have hs6 := hB.size
  have b1' : Box w7 z T1 pv := (hgrow.block z (by omega) (hge z (by omega))).trans (b1.below hB b1.lt)
  have b3' : Box w7 y T2 v := (hgrow.block y (by omega) (hge y (by omega))).trans (b3.below hB b3.lt)
  have hbelow : Below z w w7 := by
    have h0 : Below z w W6 := h5.trans (by rw [hW0] at hB; exact ((Below.refl z W).drew).trans (hB.mono (by have := b1.lt; rw [hW0] at this; omega)))
    exact h0.grown hgrow (by have := b1.lt; omega) (fun r e => by have := (hor.own_ge r e).1; omega)
  have hmem : ∀ x ∈ cs ++ [kv, vv], ∃ l : List UInt8, OB (y + 2) W6 x l ∧ l.length ≤ 1000 := fun x hx => by
    simp only [List.mem_append, List.mem_cons, List.not_mem_nil, or_false] at hx
    rcases hx with hx | rfl | rfl
    · exact hall.own x hx
    · exact ⟨k, ok, hlk⟩
    · exact ⟨u, ov, hlu⟩
  have hvb : ∀ b, v.ownBlock = some b → b < W0.heap.size := fun b e => by
    exact hvo b e
  have hne0 : ∀ x ∈ cs ++ [kv, vv], ∀ b, x.ownBlock = some b → v.ownBlock ≠ some b := fun x hx b hxb e => by
    simp only [List.mem_append, List.mem_cons, List.not_mem_nil, or_false] at hx
    rcases hx with hx | rfl | rfl
    · exact hall.ne x hx b hxb e
    · have := (hkm b hxb).1; have := hvb b e; omega
    · have := hum b hxb; have := hvb b e; omega
  have hlt6 : ∀ x ∈ cs ++ [kv, vv], ∀ b, x.ownBlock = some b → y + 2 ≤ b ∧ b < W6.heap.size := fun x hx b hxb => by
    obtain ⟨l, h1, -⟩ := hmem x hx
    exact World.ownsRow.lt h1 b hxb
  have hall' : OwnAll (y + 2) (w7.setCell ⟨y, 0, none⟩ (.slice (some ⟨g, 0, none⟩) (R.length + 1) cap)) (some g) (cs ++ [kv, vv]) := by
    refine ⟨fun x hx => ?_, ?_, fun x hx b hxb e => ?_⟩
    · obtain ⟨l, h1, h2⟩ := hmem x hx
      refine ⟨l, ob_keep h1 fun b cur hh hxb => ?_, h2⟩
      rw [Below.heap_setCell _ _ _ _ (show b ≠ y by have := (hlt6 x hx b hxb).1; omega)]
      exact hgrow.block b (hlt6 x hx b hxb).2 (fun e => hne0 x hx b hxb e.symm)
    · rw [List.pairwise_append]
      refine ⟨hall.up, ?_, ?_⟩
      · rw [List.pairwise_cons]
        refine ⟨fun x hx b b' e1 e2 => ?_, List.pairwise_singleton _ _⟩
        rcases List.mem_singleton.1 hx with rfl
        have := (hkm b e1).2; have := hum b' e2; omega
      · intro x hx x' hx' b b' e1 e2
        have := hlo x hx b e1
        simp only [List.mem_cons, List.not_mem_nil, or_false] at hx'
        rcases hx' with rfl | rfl
        · have := (hkm b' e2).1; omega
        · have := hum b' e2; omega
    · cases e
      rcases hat with h | h
      · exact hne0 x hx _ hxb h
      · have := (hlt6 x hx _ hxb).2; omega
  refine ⟨Lib.hid ⟨cs ++ [kv, vv], ?_, ?_, hall'⟩, b1'.other (by omega) _, b3'.set _, hbelow.setCell (p := ⟨y, 0, none⟩) (by show z ≤ y; omega) _, ?_⟩
  · rw [List.length_append]
    obtain ⟨e, ⟨h3, -⟩ | ⟨g', cap', cur, hv', hg, hh, r⟩⟩ := hown
    · cases h3
    · cases hv'
      exact ⟨e, .inr ⟨_, _, cur, rfl, hg, (Below.heap_setCell w7 ⟨y, 0, none⟩ _ g (fun e => by have e' : g = y := e; omega)).trans hh, r⟩⟩
  · subst hvs
    exact (RowsCells.append (cs2 := [kv, vv]) (R2 := [(k, u)]) ⟨hk.grown hgrow hat, hv.grown hgrow hat, trivial⟩ (RowsCells.grown hgrow hat hrc)).set_box b3' _
  · rw [size_setCell']; have := hgrow.size; omega
set_option maxHeartbeats 2000000 in
set_option maxRecDepth 100000 in
theorem Rows_inZ (N : Nat) (b o c : Nat) (L : List UInt8) (w : World) (hr : RB N w (some ⟨b, o, none⟩) 512 c L) (hN : N ≤ w.heap.size) (hp : 0 < behindL L) :
    CallsIn Fence.wide 6 Tryz.prog 9 #[.slice (some ⟨b, o, none⟩) 512 c] w fun e w' => (∃ v, e = .returned v ∧ OO w.heap.size w' v (rowsL L)) ∧ Below w.heap.size w w' := by
  have hle := hr.le; have hmx := hr.mx; have hlm := hr.lm; have hln := hr.len
  obtain ⟨b', o', he, hB, hcell⟩ := hr.at_ (by omega)
  cases he
  have hbw : b < w.heap.size := by omega
  have Hln := Lib.hid hln; clear hln
  have Hcell := Lib.hid hcell; clear hcell
  have HR : Hid (∀ w' : World, Below N w w' → Calls Tryz.prog 23 #[.slice (some ⟨b, o, none⟩) 512 c] w' fun e w'' => e = .returned (.bool true) ∧ Below w'.heap.size w' w'') := by
    intro w' hb
    have := Right_any N _ _ c L w' (hr.below hb) (Nat.le_trans hN hb.size)
    rw [decide_eq_true hp] at this; exact this
  obtain ⟨z, hz⟩ : ∃ z, z = w.heap.size := ⟨_, rfl⟩
  have Hb0 : Hid (Below z w (w.alloc (.cells #[.slice (some ⟨b, o, none⟩) 512 c] 22))) := Lib.hid ((Below.refl _ w).alloc (by omega) _)
  have Hc0 : Hid (Box (w.alloc (.cells #[.slice (some ⟨b, o, none⟩) 512 c] 22)) z 22 (.slice (some ⟨b, o, none⟩) 512 c)) := Lib.hid (by rw [hz]; exact Box.new w _ _)
  have Hz := Lib.hid hz
  clear hz
  refine callsIn_of_wp_marks Tryz.func9 rfl trivial ?_ rfl
  simp only [Tryz.ntmps9, List.size_toArray, List.length_cons, List.length_nil, Nat.reduceAdd, Nat.reduceSub, Array.replicate_succ, Array.replicate_zero, List.push_toArray, List.append_toArray, List.nil_append, List.cons_append]
  gi_wp2_with (first | (refine ⟨trivial, ?_⟩; gi_at_call 23; refine (callsIn_wide.2 (HR.out _ (Hb0.out.mono (by have := Hz.out; omega)))).mono ?_; rintro e w1 ⟨rfl, hb1⟩; have Hbx := Lib.hid hb1; have g1 := (Hc0.out.below hb1 Hc0.out.lt).cell; rw [Hz.out] at g1; have g2 := ((Hc0.out.below hb1 Hc0.out.lt).alloc (.cells #[.slice none 0 0] 28)).cell; rw [Hz.out] at g2; clear hb1) | (refine ⟨trivial, ?_⟩; gi_at_call 36; refine (callsIn_wide.2 (each_any _ _ _ _)).mono ?_; rintro e w' ⟨rfl, rfl⟩))
  have hsz : z < w1.heap.size := Nat.lt_of_lt_of_le Hc0.out.lt Hbx.out.size
  obtain ⟨y, hy⟩ : ∃ y, y = w1.heap.size := ⟨_, rfl⟩
  have Hy := Lib.hid hy
  have Hb1 : Hid (Below z w w1) := Lib.hid (Hb0.out.trans (Hbx.out.mono (by have := Hc0.out.lt; omega)))
  have Hc1 : Hid (Box w1 z 22 (.slice (some ⟨b, o, none⟩) 512 c)) := Lib.hid (Hc0.out.below Hbx.out Hc0.out.lt)
  clear Hbx Hc0 Hb0 g1 g2
  rw [← Hz.out]
  simp only [World.size_alloc, ← hy]
  rw [← hy] at hsz
  refine wpIn_boxes w1 [(_, _), (_, _)] rfl ?_
  intro w2 hlb hs2 hbx
  rw [← hy] at hlb hs2
  simp only [← hy] at hbx
  clear hy
  have c3 : Box w2 y _ _ := hbx 0 _ rfl
  have c4 : Box w2 (y + 1) _ _ := hbx 1 _ rfl
  dsimp only at c3 c4
  have c1 := Hc1.out.below hlb hsz
  have hs4 := c4.lt
  have hbz := Hb1.out.trans (hlb.mono (Nat.le_of_lt hsz))
  have hr2 := hr.below (hbz.mono (by have := Hz.out; omega))
  clear hbx hlb Hb1 Hc1
  refine range_law (α := El L (RowOk L)) (by omega) (gf := 52) (lb := #[.pointer (some ⟨y + 1, 0, none⟩)]) rfl (enters_of Tryz.func52 (by kernel_rfl) rfl)
    (each_stops 5 (by omega) (y + 1) N b o 512 c L (RowOk L) (right_rows hp) (fun k => k = b ∨ k = y + 1) (.inl rfl) (.inr rfl) (by omega) w2 (by rintro k (rfl | rfl) <;> (have := Hz.out; omega)) c4.cell hr2) (by rintro k (rfl | rfl) <;> (have := Hz.out; omega)) (fun _ => rfl)
    (fun pre W => ∃ v, Hid (OO (y + 2) W v (pre.map fun x => rowAt L x.1)) ∧ Box W z 22 (.slice (some ⟨b, o, none⟩) 512 c) ∧ Box W y 28 v ∧ Below z w W ∧ w2.heap.size ≤ W.heap.size)
    (fun cd pre W => False)
    ?hI ?hIx ?h0 ?_
  case hI =>
    intro pre W W' row h hg hr
    obtain ⟨v, h1, b1, b3, h5, h6⟩ := h
    have hrow : ∀ r, row = some r → ∃ o : Obj, W.heap[r]? = some o ∧ o.isCells = false := fun r e => (hr r e).2
    refine ⟨v, Lib.hid (h1.out.kept hg hrow), b1.kept hg hrow, b3.kept hg hrow, h5.grown hg (by omega) (fun k e => by have := (hr k e).1; omega), Nat.le_trans h6 hg.size⟩
  case hIx =>
    intro cd
    refine ownFrom_of_below (fun pre W W' h hB hb => h.elim) (fun pre W h => h.elim)
  case h0 => exact ⟨_, Lib.hid (OO.nil _ _), c1, c3, hbz, Nat.le_refl _⟩
  apply Exists.intro
  refine ⟨?assign, ?body, ?done, ?stop⟩
  case assign =>
    intro l x W K hK
    gi_wp2
    exact hK
  case body =>
    rintro l pre x W ⟨v, h1, b1, b3, h5, h6⟩ hpn
    obtain ⟨i, e, hxe⟩ : ∃ i e, x.1 = (i, e) := ⟨_, _, rfl⟩
    obtain ⟨⟨hx1, hx2, hx3⟩, hro1, hro2, hro3⟩ := x.2
    rw [hxe] at hx1 hx2 hx3 hro1 hro2 hro3
    simp only [hxe]
    have Hxe := Lib.hid hxe
    clear hxe
    dsimp only at hx1 hx2 hx3 hro1 hro2 hro3 ⊢
    have hbd : Below W.heap.size W W.drew := (Below.refl _ W).drew
    have hrW := (hr.below (h5.mono (by have := Hz.out; omega))).below (hbd.mono (by have := h5.size; omega))
    obtain ⟨W0, hW0⟩ : ∃ W0, W0 = W.drew := ⟨_, rfl⟩
    have Box1 : Hid (Box W0 z 22 (.slice (some ⟨b, o, none⟩) 512 c)) := Lib.hid (by rw [hW0]; exact b1.drew)
    have Box3 : Hid (Box W0 y 28 v) := Lib.hid (by rw [hW0]; exact b3.drew)
    have Hor : Hid (OO (y + 2) W0 v (pre.map fun x => rowAt L x.1)) := Lib.hid (by rw [hW0]; exact h1.out.below hbd)
    have Hvo := Lib.hid Hor.out.or.own
    have hbz' : b < z := by rw [Hz.out]; exact hbw
    have hyW : y + 1 < W.heap.size := Nat.lt_of_lt_of_le hs4 h6
    have hN0 : N ≤ W0.heap.size := by rw [hW0]; have := h5.size; show N ≤ W.heap.size; omega
    rw [← hW0] at hrW
    have hc0 := Box1.out.cell
    have go0 := Box3.out.cell
    have kk : bt L i = ((bt L i).toNat : Int) := by omega
    have hie : i + 2 + (bt L i).toNat ≤ e := by
      have hin : i + 2 ≤ L.length := by omega
      have := bt_bd L (i + 1)
      rw [hx3, endOf_in hin]; omega
    have he5 : e ≤ 512 := by rw [Hln.out]; exact hro3
    have Hkey : Hid (Calls Tryz.prog 37 #[.slice (some ⟨b, o, none⟩) 512 c, .int .i64 i] W0 fun e w' => RetB N W0 (keyOf L i) e ∧ W0 = w') :=
      Lib.hid (key_any N _ 512 c L i (bt L i).toNat W0 hrW kk (by omega))
    have Hval : Hid (∀ w' : World, Below W0.heap.size W0 w' → Calls Tryz.prog 35 #[.slice (some ⟨b, o, none⟩) 512 c, .int .i64 i, .int .i64 e] w' fun e' w'' => RetB N w' (valOf L i e) e' ∧ w' = w'') :=
      Lib.hid (fun w' hb => value_any N _ 512 c L i (bt L i).toNat e w' (hrW.below (hb.mono hN0)) kk hie he5)
    have hkl : (keyOf L i).length ≤ 140737488355328 := by
      have := bt_bd L i
      unfold keyOf; rw [List.length_take]; omega
    have hvl : (valOf L i e).length ≤ 140737488355328 := by unfold valOf; rw [List.length_take]; omega
    have hpl : (pre.map fun x => rowAt L x.1).length < 256 := by
      have := scan_len L (bt L 10).toNat 11
      have := bt_bd L 10
      rw [List.length_map]; omega
    have hkl2 : (keyOf L i).length ≤ 1000 := by
      have := bt_bd L i
      unfold keyOf; rw [List.length_take]; omega
    have hvl2 : (valOf L i e).length ≤ 1000 := by unfold valOf; rw [List.length_take]; omega
    have hy2 : y + 2 ≤ W0.heap.size := by rw [hW0]; show y + 2 ≤ W.heap.size; omega
    clear hpn
    have Hmap : Hid (List.map (fun x => rowAt L x.val) (pre ++ [x]) = List.map (fun x => rowAt L x.val) pre ++ [(keyOf L i, valOf L i e)]) := Lib.hid (by rw [List.map_append, List.map_singleton]; unfold rowAt; rw [Hxe.out])
    obtain ⟨va0, vn0, vc0, hvs⟩ : ∃ va vn vc, v = .slice va vn vc := by
      obtain ⟨cs, ⟨-, ⟨h, -⟩ | ⟨g, cap, cur, h, -⟩⟩, -⟩ := h1.out
      · exact ⟨_, _, _, h⟩
      · exact ⟨_, _, _, h⟩
    have Hvs := Lib.hid hvs
    clear hvs
    obtain ⟨i0, hi, hz0, hz1, hz2⟩ := info_parts Tryz.infoRow
    have Hi := Lib.hid hi
    have Hz0 := Lib.hid hz0
    have Hz1 := Lib.hid hz1
    have Hz2 := Lib.hid hz2
    clear hi hz0 hz1 hz2
    gi_wp2
    refine round_region_held (S := fun w' => w'.cell? ⟨z, 0, none⟩ = some (.slice (some ⟨b, o, none⟩) 512 c)) (by kernel_rfl) (by kernel_rfl) b1.drew.cell (fun hHeld => ?_)
    refine wpAnyH_take (i := 1) (v := .slice (some ⟨b, o, none⟩) 512 c) rfl (by kernel_rfl) (by kernel_rfl) (by kernel_rfl) (fun _ _ _ h => h) (Or.inl ⟨by rfl, fun w' hSw => ?_⟩) hHeld ?_
    · dsimp only at hSw
      go_simp
    change wpAnyH _ _ _ _ _ _ _ (Act.put _ (some 14) _) _
    refine wpAnyH_take (i := 2) (v := .int .i64 i) rfl (by kernel_rfl) (by kernel_rfl) (by kernel_rfl) (fun _ _ _ h => h) (Or.inl ⟨by rfl, fun w' hSw => ?_⟩) hHeld ?_
    · go_simp
    change wpAnyH _ _ _ _ _ _ _ (Act.put _ (some 15) _) _
    refine wpAnyH_take (i := 5) (v := .slice (some ⟨b, o, none⟩) 512 c) rfl (by kernel_rfl) (by kernel_rfl) (by kernel_rfl) (fun _ _ _ h => h) (Or.inl ⟨by rfl, fun w' hSw => ?_⟩) hHeld ?_
    · dsimp only at hSw
      go_simp
    change wpAnyH _ _ _ _ _ _ _ (Act.put _ (some 18) _) _
    refine wpAnyH_take (i := 6) (v := .int .i64 i) rfl (by kernel_rfl) (by kernel_rfl) (by kernel_rfl) (fun _ _ _ h => h) (Or.inl ⟨by rfl, fun w' hSw => ?_⟩) hHeld ?_
    · go_simp
    change wpAnyH _ _ _ _ _ _ _ (Act.put _ (some 19) _) _
    refine wpAnyH_take (i := 7) (v := .int .i64 e) rfl (by kernel_rfl) (by kernel_rfl) (by kernel_rfl) (fun _ _ _ h => h) (Or.inl ⟨by rfl, fun w' hSw => ?_⟩) hHeld ?_
    · go_simp
    change wpAnyH _ _ _ _ _ _ _ (Act.put _ (some 20) _) _
    simp only [Act.put, List.setIfInBounds_toArray, List.set_cons_zero, List.set_cons_succ]
    rw [← hW0] at hHeld ⊢
    have HW0 := Lib.hid hW0
    clear hW0
    -- THE REGION (printed)
    refine wpAnyH_ready (rs := [0, 3]) (by kernel_rfl) (by simp) ?_
    refine step_val (v := v) (by rfl) (by rfl) (by exact run_load1 (by rfl) (by rfl) Tryz.underlying28 go0) hc0 ?_ ?_
    · simp only [Act.put, List.getElem_toArray, List.getElem_cons_succ, List.getElem_cons_zero, List.setIfInBounds_toArray, List.set_cons_zero, List.set_cons_succ]
      refine wpAnyH_ready (rs := [3]) (by kernel_rfl) (by simp) ?_
      refine step_fn (f := 37) (args := #[.slice (some ⟨b, o, none⟩) 512 c, .int .i64 i]) (by rfl) (by rfl) (by exact run_fn2 (by rfl) (by rfl) ent_key _ (by rfl) (by rfl)) (Hkey.out.mono ?_) ?_
      · rintro _ _ ⟨⟨ka, kn, kc, rfl, rk⟩, rfl⟩
        have Rk := Lib.hid rk
        clear rk
        refine ⟨_, rfl, hc0, ?_⟩
        simp only [Act.put, List.getElem_toArray, List.getElem_cons_succ, List.getElem_cons_zero, List.setIfInBounds_toArray, List.set_cons_zero, List.set_cons_succ]
        refine wpAnyH_ready (rs := [4]) (by kernel_rfl) (by simp) ?_
        refine step_fn (f := 34) (args := #[.slice ka kn kc]) (by rfl) (by rfl) (by exact run_fn1 (by rfl) (by rfl) ent_clone _ (by rfl)) ((Clone_any N _ _ _ _ _ Rk.out hN0).mono ?_) ?_
        · rintro _ w17 ⟨⟨v17, rfl, o17⟩, b17⟩
          have O17 := Lib.hid o17
          have B17 := Lib.hid b17
          have hc2 := (Box.below (Box1.out) b17 Box1.out.lt).cell
          have go2 := (Box.below (Box3.out) b17 Box3.out.lt).cell
          clear o17 b17
          refine ⟨_, rfl, hc2, ?_⟩
          simp only [Act.put, List.getElem_toArray, List.getElem_cons_succ, List.getElem_cons_zero, List.setIfInBounds_toArray, List.set_cons_zero, List.set_cons_succ]
          refine wpAnyH_ready (rs := [8]) (by kernel_rfl) (by simp) ?_
          refine step_fn (f := 35) (args := #[.slice (some ⟨b, o, none⟩) 512 c, .int .i64 i, .int .i64 e]) (by rfl) (by rfl) (by exact run_fn3 (by rfl) (by rfl) ent_value _ (by rfl) (by rfl) (by rfl)) ((Hval.out w17 B17.out).mono ?_) ?_
          · rintro _ _ ⟨⟨va, vn, vc, rfl, rv⟩, rfl⟩
            have Rv := Lib.hid rv
            clear rv
            refine ⟨_, rfl, hc2, ?_⟩
            simp only [Act.put, List.getElem_toArray, List.getElem_cons_succ, List.getElem_cons_zero, List.setIfInBounds_toArray, List.set_cons_zero, List.set_cons_succ]
            refine wpAnyH_ready (rs := [9]) (by kernel_rfl) (by simp) ?_
            refine step_fn (f := 34) (args := #[.slice va vn vc]) (by rfl) (by rfl) (by exact run_fn1 (by rfl) (by rfl) ent_clone _ (by rfl)) ((Clone_any N _ _ _ _ _ Rv.out (Nat.le_trans hN0 B17.out.size)).mono ?_) ?_
            · rintro _ w22 ⟨⟨v22, rfl, o22⟩, b22⟩
              have O22 := Lib.hid o22
              have B22 := Lib.hid (B17.out.trans (b22.mono B17.out.size))
              have B22w := Lib.hid b22
              have hc4 := (Box.below (Box1.out) B22.out Box1.out.lt).cell
              have go4 := (Box.below (Box3.out) B22.out Box3.out.lt).cell
              clear o22 b22
              obtain ⟨a17, c17, e17, -⟩ := O17.out.slB hkl (g := none) (fun _ h => by cases h)
              obtain ⟨a22, c22, e22, -⟩ := O22.out.slB hvl (g := none) (fun _ h => by cases h)
              subst e17
              subst e22
              refine ⟨_, rfl, hc4, ?_⟩
              simp only [Act.put, List.getElem_toArray, List.getElem_cons_succ, List.getElem_cons_zero, List.setIfInBounds_toArray, List.set_cons_zero, List.set_cons_succ]
              refine wpAnyH_ready (rs := [10]) (by kernel_rfl) (by simp) ?_
              refine step_val (v := .agg #[.slice a17 (keyOf L i).length c17, .slice a22 (valOf L i e).length c22]) (by rfl) (by rfl) (by exact run_build_row (by rfl) (by rfl) (by rfl) _) hc4 ?_ ?_
              · simp only [Act.put, List.getElem_toArray, List.getElem_cons_succ, List.getElem_cons_zero, List.setIfInBounds_toArray, List.set_cons_zero, List.set_cons_succ]
                refine wpAnyH_ready (rs := [11]) (by kernel_rfl) (by simp) ?_
                have hc6 := ((Box.below (Box1.out) B22.out Box1.out.lt).alloc (.cells #[.slice a17 (keyOf L i).length c17, .slice a22 (valOf L i e).length c22] 60)).cell
                have go6 := ((Box.below (Box3.out) B22.out Box3.out.lt).alloc (.cells #[.slice a17 (keyOf L i).length c17, .slice a22 (valOf L i e).length c22] 60)).cell
                refine step_val (v := .slice (some ⟨w22.heap.size, 0, none⟩) 1 1) (by rfl) (by rfl) (by exact run_buildSlice_row (by rfl) (by rfl) _) hc6 ?_ ?_
                · simp only [Act.put, List.getElem_toArray, List.getElem_cons_succ, List.getElem_cons_zero, List.setIfInBounds_toArray, List.set_cons_zero, List.set_cons_succ]
                  obtain ⟨cs, hoc⟩ := Hor.out
                  have Hlo := Lib.hid (fun x hx b e => (hoc.2.2.lt x hx b e).2)
                  have ho6 := ((hoc.below B22.out).below (((Below.refl _ w22).alloc (Nat.le_refl _) (.cells #[.slice a17 (keyOf L i).length c17, .slice a22 (valOf L i e).length c22] 60))))
                  have Ho6 : Hid (OO _ _ _ _) := Lib.hid ⟨cs, ho6⟩
                  obtain ⟨hown, hrc, hall⟩ := ho6
                  have Hrc := Lib.hid hrc
                  have Hall := Lib.hid hall
                  have Hown := Lib.hid hown
                  clear hrc hown hall
                  refine wpAnyH_ready (rs := [12]) (by kernel_rfl) (by simp) ?_
                  refine step_law (by rfl) (by rfl) (fun K hK => ?_) AllReadyH.nil
                  refine wp_append_lies _ _ _ 28 (by rfl) (y + 2) 60 i0 _ 2 48 Tryz.underlying28 Hi.out Hz0.out Hz1.out Hz2.out (by rfl) (by decide) v _ cs (by rfl) Hown.out ⟨w22.heap.size, 0, none⟩ 1 1 [.slice a17 (keyOf L i).length c17, .slice a22 (valOf L i e).length c22] (by rfl) rfl (World.news_of_block (heap_alloc_new _ _)) (by intro u hu; simp at hu; rcases hu with rfl | rfl <;> rfl) (by decide) (by simp only [maxLen]; omega) (by omega) (by have := B22.out.size; have := Box3.out.lt; have := hs4; rw [World.size_alloc]; have := h6; have := hbd.size; rw [HW0.out] at *; omega) _ rfl ?_
                  intro g cap w7 hown7 hgrow hat hlt
                  obtain ⟨q1, q2, q3, q4, q5⟩ := rows_endZ (k := keyOf L i) (u := valOf L i e) HW0.out (B22.out.trans ((Below.refl _ w22).alloc B22.out.size _)) Hvs.out Ho6.out.or Hrc.out (O17.out.slBa hkl Hvo.out B22w.out _) (O22.out.slBa hvl (fun b e => Nat.lt_of_lt_of_le (Hvo.out b e) B17.out.size) (Below.refl _ _) _) hown7 hgrow hat Box1.out Box3.out hsz h5 hbz' hyW Hall.out Hlo.out w17.heap.size (ob_up O17.out hy2 ((B22w.out).trans ((Below.refl _ _).alloc B22w.out.size _))) (fun b e => World.ownsRow.lt O17.out b e) (ob_up O22.out (Nat.le_trans hy2 B17.out.size) ((Below.refl _ _).alloc (Nat.le_refl _) _)) (fun b e => (World.ownsRow.lt O22.out b e).1) B17.out.size hkl2 hvl2 Hvo.out
                  refine hK _ _ q1 ?_
                  simp only [Act.put, List.getElem_toArray, List.getElem_cons_succ, List.getElem_cons_zero, List.setIfInBounds_toArray, List.set_cons_zero, List.set_cons_succ]
                  refine wpAnyH_ready (rs := [13]) (by kernel_rfl) (by simp) ?_
                  refine step_skip (by rfl) (by rfl) (by exact run_store_rows (by rfl) (by rfl) (by rfl) q2 q3) q4 ?_ AllReadyH.nil
                  refine wpAnyH_done (by kernel_rfl) ?_ _
                  dsimp only [okPost]
                  gi_wp2
                  obtain ⟨q6, q7, v', q8, q9, q10, q11, q12⟩ := q5
                  exact ⟨q6, q7, v', Lib.hid (by rw [Hmap.out]; exact q8.out), q9, q10, q11, Nat.le_trans h6 q12⟩
                exact AllReadyH.nil
              exact AllReadyH.nil
            exact AllReadyH.nil
          exact AllReadyH.nil
        exact AllReadyH.nil
      exact AllReadyH.nil
    refine step_fn (f := 37) (args := #[.slice (some ⟨b, o, none⟩) 512 c, .int .i64 i]) (by rfl) (by rfl) (by exact run_fn2 (by rfl) (by rfl) ent_key _ (by rfl) (by rfl)) (Hkey.out.mono ?_) ?_
    · rintro _ _ ⟨⟨ka, kn, kc, rfl, rk⟩, rfl⟩
      have Rk := Lib.hid rk
      clear rk
      refine ⟨_, rfl, hc0, ?_⟩
      simp only [Act.put, List.getElem_toArray, List.getElem_cons_succ, List.getElem_cons_zero, List.setIfInBounds_toArray, List.set_cons_zero, List.set_cons_succ]
      refine wpAnyH_ready (rs := [0, 4]) (by kernel_rfl) (by simp) ?_
      refine step_val (v := v) (by rfl) (by rfl) (by exact run_load1 (by rfl) (by rfl) Tryz.underlying28 go0) hc0 ?_ ?_
      · simp only [Act.put, List.getElem_toArray, List.getElem_cons_succ, List.getElem_cons_zero, List.setIfInBounds_toArray, List.set_cons_zero, List.set_cons_succ]
        refine wpAnyH_ready (rs := [4]) (by kernel_rfl) (by simp) ?_
        refine step_fn (f := 34) (args := #[.slice ka kn kc]) (by rfl) (by rfl) (by exact run_fn1 (by rfl) (by rfl) ent_clone _ (by rfl)) ((Clone_any N _ _ _ _ _ Rk.out hN0).mono ?_) ?_
        · rintro _ w17 ⟨⟨v17, rfl, o17⟩, b17⟩
          have O17 := Lib.hid o17
          have B17 := Lib.hid b17
          have hc2 := (Box.below (Box1.out) b17 Box1.out.lt).cell
          have go2 := (Box.below (Box3.out) b17 Box3.out.lt).cell
          clear o17 b17
          refine ⟨_, rfl, hc2, ?_⟩
          simp only [Act.put, List.getElem_toArray, List.getElem_cons_succ, List.getElem_cons_zero, List.setIfInBounds_toArray, List.set_cons_zero, List.set_cons_succ]
          refine wpAnyH_ready (rs := [8]) (by kernel_rfl) (by simp) ?_
          refine step_fn (f := 35) (args := #[.slice (some ⟨b, o, none⟩) 512 c, .int .i64 i, .int .i64 e]) (by rfl) (by rfl) (by exact run_fn3 (by rfl) (by rfl) ent_value _ (by rfl) (by rfl) (by rfl)) ((Hval.out w17 B17.out).mono ?_) ?_
          · rintro _ _ ⟨⟨va, vn, vc, rfl, rv⟩, rfl⟩
            have Rv := Lib.hid rv
            clear rv
            refine ⟨_, rfl, hc2, ?_⟩
            simp only [Act.put, List.getElem_toArray, List.getElem_cons_succ, List.getElem_cons_zero, List.setIfInBounds_toArray, List.set_cons_zero, List.set_cons_succ]
            refine wpAnyH_ready (rs := [9]) (by kernel_rfl) (by simp) ?_
            refine step_fn (f := 34) (args := #[.slice va vn vc]) (by rfl) (by rfl) (by exact run_fn1 (by rfl) (by rfl) ent_clone _ (by rfl)) ((Clone_any N _ _ _ _ _ Rv.out (Nat.le_trans hN0 B17.out.size)).mono ?_) ?_
            · rintro _ w22 ⟨⟨v22, rfl, o22⟩, b22⟩
              have O22 := Lib.hid o22
              have B22 := Lib.hid (B17.out.trans (b22.mono B17.out.size))
              have B22w := Lib.hid b22
              have hc4 := (Box.below (Box1.out) B22.out Box1.out.lt).cell
              have go4 := (Box.below (Box3.out) B22.out Box3.out.lt).cell
              clear o22 b22
              obtain ⟨a17, c17, e17, -⟩ := O17.out.slB hkl (g := none) (fun _ h => by cases h)
              obtain ⟨a22, c22, e22, -⟩ := O22.out.slB hvl (g := none) (fun _ h => by cases h)
              subst e17
              subst e22
              refine ⟨_, rfl, hc4, ?_⟩
              simp only [Act.put, List.getElem_toArray, List.getElem_cons_succ, List.getElem_cons_zero, List.setIfInBounds_toArray, List.set_cons_zero, List.set_cons_succ]
              refine wpAnyH_ready (rs := [10]) (by kernel_rfl) (by simp) ?_
              refine step_val (v := .agg #[.slice a17 (keyOf L i).length c17, .slice a22 (valOf L i e).length c22]) (by rfl) (by rfl) (by exact run_build_row (by rfl) (by rfl) (by rfl) _) hc4 ?_ ?_
              · simp only [Act.put, List.getElem_toArray, List.getElem_cons_succ, List.getElem_cons_zero, List.setIfInBounds_toArray, List.set_cons_zero, List.set_cons_succ]
                refine wpAnyH_ready (rs := [11]) (by kernel_rfl) (by simp) ?_
                have hc6 := ((Box.below (Box1.out) B22.out Box1.out.lt).alloc (.cells #[.slice a17 (keyOf L i).length c17, .slice a22 (valOf L i e).length c22] 60)).cell
                have go6 := ((Box.below (Box3.out) B22.out Box3.out.lt).alloc (.cells #[.slice a17 (keyOf L i).length c17, .slice a22 (valOf L i e).length c22] 60)).cell
                refine step_val (v := .slice (some ⟨w22.heap.size, 0, none⟩) 1 1) (by rfl) (by rfl) (by exact run_buildSlice_row (by rfl) (by rfl) _) hc6 ?_ ?_
                · simp only [Act.put, List.getElem_toArray, List.getElem_cons_succ, List.getElem_cons_zero, List.setIfInBounds_toArray, List.set_cons_zero, List.set_cons_succ]
                  obtain ⟨cs, hoc⟩ := Hor.out
                  have Hlo := Lib.hid (fun x hx b e => (hoc.2.2.lt x hx b e).2)
                  have ho6 := ((hoc.below B22.out).below (((Below.refl _ w22).alloc (Nat.le_refl _) (.cells #[.slice a17 (keyOf L i).length c17, .slice a22 (valOf L i e).length c22] 60))))
                  have Ho6 : Hid (OO _ _ _ _) := Lib.hid ⟨cs, ho6⟩
                  obtain ⟨hown, hrc, hall⟩ := ho6
                  have Hrc := Lib.hid hrc
                  have Hall := Lib.hid hall
                  have Hown := Lib.hid hown
                  clear hrc hown hall
                  refine wpAnyH_ready (rs := [12]) (by kernel_rfl) (by simp) ?_
                  refine step_law (by rfl) (by rfl) (fun K hK => ?_) AllReadyH.nil
                  refine wp_append_lies _ _ _ 28 (by rfl) (y + 2) 60 i0 _ 2 48 Tryz.underlying28 Hi.out Hz0.out Hz1.out Hz2.out (by rfl) (by decide) v _ cs (by rfl) Hown.out ⟨w22.heap.size, 0, none⟩ 1 1 [.slice a17 (keyOf L i).length c17, .slice a22 (valOf L i e).length c22] (by rfl) rfl (World.news_of_block (heap_alloc_new _ _)) (by intro u hu; simp at hu; rcases hu with rfl | rfl <;> rfl) (by decide) (by simp only [maxLen]; omega) (by omega) (by have := B22.out.size; have := Box3.out.lt; have := hs4; rw [World.size_alloc]; have := h6; have := hbd.size; rw [HW0.out] at *; omega) _ rfl ?_
                  intro g cap w7 hown7 hgrow hat hlt
                  obtain ⟨q1, q2, q3, q4, q5⟩ := rows_endZ (k := keyOf L i) (u := valOf L i e) HW0.out (B22.out.trans ((Below.refl _ w22).alloc B22.out.size _)) Hvs.out Ho6.out.or Hrc.out (O17.out.slBa hkl Hvo.out B22w.out _) (O22.out.slBa hvl (fun b e => Nat.lt_of_lt_of_le (Hvo.out b e) B17.out.size) (Below.refl _ _) _) hown7 hgrow hat Box1.out Box3.out hsz h5 hbz' hyW Hall.out Hlo.out w17.heap.size (ob_up O17.out hy2 ((B22w.out).trans ((Below.refl _ _).alloc B22w.out.size _))) (fun b e => World.ownsRow.lt O17.out b e) (ob_up O22.out (Nat.le_trans hy2 B17.out.size) ((Below.refl _ _).alloc (Nat.le_refl _) _)) (fun b e => (World.ownsRow.lt O22.out b e).1) B17.out.size hkl2 hvl2 Hvo.out
                  refine hK _ _ q1 ?_
                  simp only [Act.put, List.getElem_toArray, List.getElem_cons_succ, List.getElem_cons_zero, List.setIfInBounds_toArray, List.set_cons_zero, List.set_cons_succ]
                  refine wpAnyH_ready (rs := [13]) (by kernel_rfl) (by simp) ?_
                  refine step_skip (by rfl) (by rfl) (by exact run_store_rows (by rfl) (by rfl) (by rfl) q2 q3) q4 ?_ AllReadyH.nil
                  refine wpAnyH_done (by kernel_rfl) ?_ _
                  dsimp only [okPost]
                  gi_wp2
                  obtain ⟨q6, q7, v', q8, q9, q10, q11, q12⟩ := q5
                  exact ⟨q6, q7, v', Lib.hid (by rw [Hmap.out]; exact q8.out), q9, q10, q11, Nat.le_trans h6 q12⟩
                exact AllReadyH.nil
              exact AllReadyH.nil
            exact AllReadyH.nil
          exact AllReadyH.nil
        exact AllReadyH.nil
      refine step_fn (f := 34) (args := #[.slice ka kn kc]) (by rfl) (by rfl) (by exact run_fn1 (by rfl) (by rfl) ent_clone _ (by rfl)) ((Clone_any N _ _ _ _ _ Rk.out hN0).mono ?_) ?_
      · rintro _ w17 ⟨⟨v17, rfl, o17⟩, b17⟩
        have O17 := Lib.hid o17
        have B17 := Lib.hid b17
        have hc2 := (Box.below (Box1.out) b17 Box1.out.lt).cell
        have go2 := (Box.below (Box3.out) b17 Box3.out.lt).cell
        clear o17 b17
        refine ⟨_, rfl, hc2, ?_⟩
        simp only [Act.put, List.getElem_toArray, List.getElem_cons_succ, List.getElem_cons_zero, List.setIfInBounds_toArray, List.set_cons_zero, List.set_cons_succ]
        refine wpAnyH_ready (rs := [0, 8]) (by kernel_rfl) (by simp) ?_
        refine step_val (v := v) (by rfl) (by rfl) (by exact run_load1 (by rfl) (by rfl) Tryz.underlying28 go2) hc2 ?_ ?_
        · simp only [Act.put, List.getElem_toArray, List.getElem_cons_succ, List.getElem_cons_zero, List.setIfInBounds_toArray, List.set_cons_zero, List.set_cons_succ]
          refine wpAnyH_ready (rs := [8]) (by kernel_rfl) (by simp) ?_
          refine step_fn (f := 35) (args := #[.slice (some ⟨b, o, none⟩) 512 c, .int .i64 i, .int .i64 e]) (by rfl) (by rfl) (by exact run_fn3 (by rfl) (by rfl) ent_value _ (by rfl) (by rfl) (by rfl)) ((Hval.out w17 B17.out).mono ?_) ?_
          · rintro _ _ ⟨⟨va, vn, vc, rfl, rv⟩, rfl⟩
            have Rv := Lib.hid rv
            clear rv
            refine ⟨_, rfl, hc2, ?_⟩
            simp only [Act.put, List.getElem_toArray, List.getElem_cons_succ, List.getElem_cons_zero, List.setIfInBounds_toArray, List.set_cons_zero, List.set_cons_succ]
            refine wpAnyH_ready (rs := [9]) (by kernel_rfl) (by simp) ?_
            refine step_fn (f := 34) (args := #[.slice va vn vc]) (by rfl) (by rfl) (by exact run_fn1 (by rfl) (by rfl) ent_clone _ (by rfl)) ((Clone_any N _ _ _ _ _ Rv.out (Nat.le_trans hN0 B17.out.size)).mono ?_) ?_
            · rintro _ w22 ⟨⟨v22, rfl, o22⟩, b22⟩
              have O22 := Lib.hid o22
              have B22 := Lib.hid (B17.out.trans (b22.mono B17.out.size))
              have B22w := Lib.hid b22
              have hc4 := (Box.below (Box1.out) B22.out Box1.out.lt).cell
              have go4 := (Box.below (Box3.out) B22.out Box3.out.lt).cell
              clear o22 b22
              obtain ⟨a17, c17, e17, -⟩ := O17.out.slB hkl (g := none) (fun _ h => by cases h)
              obtain ⟨a22, c22, e22, -⟩ := O22.out.slB hvl (g := none) (fun _ h => by cases h)
              subst e17
              subst e22
              refine ⟨_, rfl, hc4, ?_⟩
              simp only [Act.put, List.getElem_toArray, List.getElem_cons_succ, List.getElem_cons_zero, List.setIfInBounds_toArray, List.set_cons_zero, List.set_cons_succ]
              refine wpAnyH_ready (rs := [10]) (by kernel_rfl) (by simp) ?_
              refine step_val (v := .agg #[.slice a17 (keyOf L i).length c17, .slice a22 (valOf L i e).length c22]) (by rfl) (by rfl) (by exact run_build_row (by rfl) (by rfl) (by rfl) _) hc4 ?_ ?_
              · simp only [Act.put, List.getElem_toArray, List.getElem_cons_succ, List.getElem_cons_zero, List.setIfInBounds_toArray, List.set_cons_zero, List.set_cons_succ]
                refine wpAnyH_ready (rs := [11]) (by kernel_rfl) (by simp) ?_
                have hc6 := ((Box.below (Box1.out) B22.out Box1.out.lt).alloc (.cells #[.slice a17 (keyOf L i).length c17, .slice a22 (valOf L i e).length c22] 60)).cell
                have go6 := ((Box.below (Box3.out) B22.out Box3.out.lt).alloc (.cells #[.slice a17 (keyOf L i).length c17, .slice a22 (valOf L i e).length c22] 60)).cell
                refine step_val (v := .slice (some ⟨w22.heap.size, 0, none⟩) 1 1) (by rfl) (by rfl) (by exact run_buildSlice_row (by rfl) (by rfl) _) hc6 ?_ ?_
                · simp only [Act.put, List.getElem_toArray, List.getElem_cons_succ, List.getElem_cons_zero, List.setIfInBounds_toArray, List.set_cons_zero, List.set_cons_succ]
                  obtain ⟨cs, hoc⟩ := Hor.out
                  have Hlo := Lib.hid (fun x hx b e => (hoc.2.2.lt x hx b e).2)
                  have ho6 := ((hoc.below B22.out).below (((Below.refl _ w22).alloc (Nat.le_refl _) (.cells #[.slice a17 (keyOf L i).length c17, .slice a22 (valOf L i e).length c22] 60))))
                  have Ho6 : Hid (OO _ _ _ _) := Lib.hid ⟨cs, ho6⟩
                  obtain ⟨hown, hrc, hall⟩ := ho6
                  have Hrc := Lib.hid hrc
                  have Hall := Lib.hid hall
                  have Hown := Lib.hid hown
                  clear hrc hown hall
                  refine wpAnyH_ready (rs := [12]) (by kernel_rfl) (by simp) ?_
                  refine step_law (by rfl) (by rfl) (fun K hK => ?_) AllReadyH.nil
                  refine wp_append_lies _ _ _ 28 (by rfl) (y + 2) 60 i0 _ 2 48 Tryz.underlying28 Hi.out Hz0.out Hz1.out Hz2.out (by rfl) (by decide) v _ cs (by rfl) Hown.out ⟨w22.heap.size, 0, none⟩ 1 1 [.slice a17 (keyOf L i).length c17, .slice a22 (valOf L i e).length c22] (by rfl) rfl (World.news_of_block (heap_alloc_new _ _)) (by intro u hu; simp at hu; rcases hu with rfl | rfl <;> rfl) (by decide) (by simp only [maxLen]; omega) (by omega) (by have := B22.out.size; have := Box3.out.lt; have := hs4; rw [World.size_alloc]; have := h6; have := hbd.size; rw [HW0.out] at *; omega) _ rfl ?_
                  intro g cap w7 hown7 hgrow hat hlt
                  obtain ⟨q1, q2, q3, q4, q5⟩ := rows_endZ (k := keyOf L i) (u := valOf L i e) HW0.out (B22.out.trans ((Below.refl _ w22).alloc B22.out.size _)) Hvs.out Ho6.out.or Hrc.out (O17.out.slBa hkl Hvo.out B22w.out _) (O22.out.slBa hvl (fun b e => Nat.lt_of_lt_of_le (Hvo.out b e) B17.out.size) (Below.refl _ _) _) hown7 hgrow hat Box1.out Box3.out hsz h5 hbz' hyW Hall.out Hlo.out w17.heap.size (ob_up O17.out hy2 ((B22w.out).trans ((Below.refl _ _).alloc B22w.out.size _))) (fun b e => World.ownsRow.lt O17.out b e) (ob_up O22.out (Nat.le_trans hy2 B17.out.size) ((Below.refl _ _).alloc (Nat.le_refl _) _)) (fun b e => (World.ownsRow.lt O22.out b e).1) B17.out.size hkl2 hvl2 Hvo.out
                  refine hK _ _ q1 ?_
                  simp only [Act.put, List.getElem_toArray, List.getElem_cons_succ, List.getElem_cons_zero, List.setIfInBounds_toArray, List.set_cons_zero, List.set_cons_succ]
                  refine wpAnyH_ready (rs := [13]) (by kernel_rfl) (by simp) ?_
                  refine step_skip (by rfl) (by rfl) (by exact run_store_rows (by rfl) (by rfl) (by rfl) q2 q3) q4 ?_ AllReadyH.nil
                  refine wpAnyH_done (by kernel_rfl) ?_ _
                  dsimp only [okPost]
                  gi_wp2
                  obtain ⟨q6, q7, v', q8, q9, q10, q11, q12⟩ := q5
                  exact ⟨q6, q7, v', Lib.hid (by rw [Hmap.out]; exact q8.out), q9, q10, q11, Nat.le_trans h6 q12⟩
                exact AllReadyH.nil
              exact AllReadyH.nil
            exact AllReadyH.nil
          exact AllReadyH.nil
        refine step_fn (f := 35) (args := #[.slice (some ⟨b, o, none⟩) 512 c, .int .i64 i, .int .i64 e]) (by rfl) (by rfl) (by exact run_fn3 (by rfl) (by rfl) ent_value _ (by rfl) (by rfl) (by rfl)) ((Hval.out w17 B17.out).mono ?_) ?_
        · rintro _ _ ⟨⟨va, vn, vc, rfl, rv⟩, rfl⟩
          have Rv := Lib.hid rv
          clear rv
          refine ⟨_, rfl, hc2, ?_⟩
          simp only [Act.put, List.getElem_toArray, List.getElem_cons_succ, List.getElem_cons_zero, List.setIfInBounds_toArray, List.set_cons_zero, List.set_cons_succ]
          refine wpAnyH_ready (rs := [0, 9]) (by kernel_rfl) (by simp) ?_
          refine step_val (v := v) (by rfl) (by rfl) (by exact run_load1 (by rfl) (by rfl) Tryz.underlying28 go2) hc2 ?_ ?_
          · simp only [Act.put, List.getElem_toArray, List.getElem_cons_succ, List.getElem_cons_zero, List.setIfInBounds_toArray, List.set_cons_zero, List.set_cons_succ]
            refine wpAnyH_ready (rs := [9]) (by kernel_rfl) (by simp) ?_
            refine step_fn (f := 34) (args := #[.slice va vn vc]) (by rfl) (by rfl) (by exact run_fn1 (by rfl) (by rfl) ent_clone _ (by rfl)) ((Clone_any N _ _ _ _ _ Rv.out (Nat.le_trans hN0 B17.out.size)).mono ?_) ?_
            · rintro _ w22 ⟨⟨v22, rfl, o22⟩, b22⟩
              have O22 := Lib.hid o22
              have B22 := Lib.hid (B17.out.trans (b22.mono B17.out.size))
              have B22w := Lib.hid b22
              have hc4 := (Box.below (Box1.out) B22.out Box1.out.lt).cell
              have go4 := (Box.below (Box3.out) B22.out Box3.out.lt).cell
              clear o22 b22
              obtain ⟨a17, c17, e17, -⟩ := O17.out.slB hkl (g := none) (fun _ h => by cases h)
              obtain ⟨a22, c22, e22, -⟩ := O22.out.slB hvl (g := none) (fun _ h => by cases h)
              subst e17
              subst e22
              refine ⟨_, rfl, hc4, ?_⟩
              simp only [Act.put, List.getElem_toArray, List.getElem_cons_succ, List.getElem_cons_zero, List.setIfInBounds_toArray, List.set_cons_zero, List.set_cons_succ]
              refine wpAnyH_ready (rs := [10]) (by kernel_rfl) (by simp) ?_
              refine step_val (v := .agg #[.slice a17 (keyOf L i).length c17, .slice a22 (valOf L i e).length c22]) (by rfl) (by rfl) (by exact run_build_row (by rfl) (by rfl) (by rfl) _) hc4 ?_ ?_
              · simp only [Act.put, List.getElem_toArray, List.getElem_cons_succ, List.getElem_cons_zero, List.setIfInBounds_toArray, List.set_cons_zero, List.set_cons_succ]
                refine wpAnyH_ready (rs := [11]) (by kernel_rfl) (by simp) ?_
                have hc6 := ((Box.below (Box1.out) B22.out Box1.out.lt).alloc (.cells #[.slice a17 (keyOf L i).length c17, .slice a22 (valOf L i e).length c22] 60)).cell
                have go6 := ((Box.below (Box3.out) B22.out Box3.out.lt).alloc (.cells #[.slice a17 (keyOf L i).length c17, .slice a22 (valOf L i e).length c22] 60)).cell
                refine step_val (v := .slice (some ⟨w22.heap.size, 0, none⟩) 1 1) (by rfl) (by rfl) (by exact run_buildSlice_row (by rfl) (by rfl) _) hc6 ?_ ?_
                · simp only [Act.put, List.getElem_toArray, List.getElem_cons_succ, List.getElem_cons_zero, List.setIfInBounds_toArray, List.set_cons_zero, List.set_cons_succ]
                  obtain ⟨cs, hoc⟩ := Hor.out
                  have Hlo := Lib.hid (fun x hx b e => (hoc.2.2.lt x hx b e).2)
                  have ho6 := ((hoc.below B22.out).below (((Below.refl _ w22).alloc (Nat.le_refl _) (.cells #[.slice a17 (keyOf L i).length c17, .slice a22 (valOf L i e).length c22] 60))))
                  have Ho6 : Hid (OO _ _ _ _) := Lib.hid ⟨cs, ho6⟩
                  obtain ⟨hown, hrc, hall⟩ := ho6
                  have Hrc := Lib.hid hrc
                  have Hall := Lib.hid hall
                  have Hown := Lib.hid hown
                  clear hrc hown hall
                  refine wpAnyH_ready (rs := [12]) (by kernel_rfl) (by simp) ?_
                  refine step_law (by rfl) (by rfl) (fun K hK => ?_) AllReadyH.nil
                  refine wp_append_lies _ _ _ 28 (by rfl) (y + 2) 60 i0 _ 2 48 Tryz.underlying28 Hi.out Hz0.out Hz1.out Hz2.out (by rfl) (by decide) v _ cs (by rfl) Hown.out ⟨w22.heap.size, 0, none⟩ 1 1 [.slice a17 (keyOf L i).length c17, .slice a22 (valOf L i e).length c22] (by rfl) rfl (World.news_of_block (heap_alloc_new _ _)) (by intro u hu; simp at hu; rcases hu with rfl | rfl <;> rfl) (by decide) (by simp only [maxLen]; omega) (by omega) (by have := B22.out.size; have := Box3.out.lt; have := hs4; rw [World.size_alloc]; have := h6; have := hbd.size; rw [HW0.out] at *; omega) _ rfl ?_
                  intro g cap w7 hown7 hgrow hat hlt
                  obtain ⟨q1, q2, q3, q4, q5⟩ := rows_endZ (k := keyOf L i) (u := valOf L i e) HW0.out (B22.out.trans ((Below.refl _ w22).alloc B22.out.size _)) Hvs.out Ho6.out.or Hrc.out (O17.out.slBa hkl Hvo.out B22w.out _) (O22.out.slBa hvl (fun b e => Nat.lt_of_lt_of_le (Hvo.out b e) B17.out.size) (Below.refl _ _) _) hown7 hgrow hat Box1.out Box3.out hsz h5 hbz' hyW Hall.out Hlo.out w17.heap.size (ob_up O17.out hy2 ((B22w.out).trans ((Below.refl _ _).alloc B22w.out.size _))) (fun b e => World.ownsRow.lt O17.out b e) (ob_up O22.out (Nat.le_trans hy2 B17.out.size) ((Below.refl _ _).alloc (Nat.le_refl _) _)) (fun b e => (World.ownsRow.lt O22.out b e).1) B17.out.size hkl2 hvl2 Hvo.out
                  refine hK _ _ q1 ?_
                  simp only [Act.put, List.getElem_toArray, List.getElem_cons_succ, List.getElem_cons_zero, List.setIfInBounds_toArray, List.set_cons_zero, List.set_cons_succ]
                  refine wpAnyH_ready (rs := [13]) (by kernel_rfl) (by simp) ?_
                  refine step_skip (by rfl) (by rfl) (by exact run_store_rows (by rfl) (by rfl) (by rfl) q2 q3) q4 ?_ AllReadyH.nil
                  refine wpAnyH_done (by kernel_rfl) ?_ _
                  dsimp only [okPost]
                  gi_wp2
                  obtain ⟨q6, q7, v', q8, q9, q10, q11, q12⟩ := q5
                  exact ⟨q6, q7, v', Lib.hid (by rw [Hmap.out]; exact q8.out), q9, q10, q11, Nat.le_trans h6 q12⟩
                exact AllReadyH.nil
              exact AllReadyH.nil
            exact AllReadyH.nil
          refine step_fn (f := 34) (args := #[.slice va vn vc]) (by rfl) (by rfl) (by exact run_fn1 (by rfl) (by rfl) ent_clone _ (by rfl)) ((Clone_any N _ _ _ _ _ Rv.out (Nat.le_trans hN0 B17.out.size)).mono ?_) ?_
          · rintro _ w22 ⟨⟨v22, rfl, o22⟩, b22⟩
            have O22 := Lib.hid o22
            have B22 := Lib.hid (B17.out.trans (b22.mono B17.out.size))
            have B22w := Lib.hid b22
            have hc4 := (Box.below (Box1.out) B22.out Box1.out.lt).cell
            have go4 := (Box.below (Box3.out) B22.out Box3.out.lt).cell
            clear o22 b22
            obtain ⟨a17, c17, e17, -⟩ := O17.out.slB hkl (g := none) (fun _ h => by cases h)
            obtain ⟨a22, c22, e22, -⟩ := O22.out.slB hvl (g := none) (fun _ h => by cases h)
            subst e17
            subst e22
            refine ⟨_, rfl, hc4, ?_⟩
            simp only [Act.put, List.getElem_toArray, List.getElem_cons_succ, List.getElem_cons_zero, List.setIfInBounds_toArray, List.set_cons_zero, List.set_cons_succ]
            refine wpAnyH_ready (rs := [0, 10]) (by kernel_rfl) (by simp) ?_
            refine step_val (v := v) (by rfl) (by rfl) (by exact run_load1 (by rfl) (by rfl) Tryz.underlying28 go4) hc4 ?_ ?_
            · simp only [Act.put, List.getElem_toArray, List.getElem_cons_succ, List.getElem_cons_zero, List.setIfInBounds_toArray, List.set_cons_zero, List.set_cons_succ]
              refine wpAnyH_ready (rs := [10]) (by kernel_rfl) (by simp) ?_
              refine step_val (v := .agg #[.slice a17 (keyOf L i).length c17, .slice a22 (valOf L i e).length c22]) (by rfl) (by rfl) (by exact run_build_row (by rfl) (by rfl) (by rfl) _) hc4 ?_ ?_
              · simp only [Act.put, List.getElem_toArray, List.getElem_cons_succ, List.getElem_cons_zero, List.setIfInBounds_toArray, List.set_cons_zero, List.set_cons_succ]
                refine wpAnyH_ready (rs := [11]) (by kernel_rfl) (by simp) ?_
                have hc6 := ((Box.below (Box1.out) B22.out Box1.out.lt).alloc (.cells #[.slice a17 (keyOf L i).length c17, .slice a22 (valOf L i e).length c22] 60)).cell
                have go6 := ((Box.below (Box3.out) B22.out Box3.out.lt).alloc (.cells #[.slice a17 (keyOf L i).length c17, .slice a22 (valOf L i e).length c22] 60)).cell
                refine step_val (v := .slice (some ⟨w22.heap.size, 0, none⟩) 1 1) (by rfl) (by rfl) (by exact run_buildSlice_row (by rfl) (by rfl) _) hc6 ?_ ?_
                · simp only [Act.put, List.getElem_toArray, List.getElem_cons_succ, List.getElem_cons_zero, List.setIfInBounds_toArray, List.set_cons_zero, List.set_cons_succ]
                  obtain ⟨cs, hoc⟩ := Hor.out
                  have Hlo := Lib.hid (fun x hx b e => (hoc.2.2.lt x hx b e).2)
                  have ho6 := ((hoc.below B22.out).below (((Below.refl _ w22).alloc (Nat.le_refl _) (.cells #[.slice a17 (keyOf L i).length c17, .slice a22 (valOf L i e).length c22] 60))))
                  have Ho6 : Hid (OO _ _ _ _) := Lib.hid ⟨cs, ho6⟩
                  obtain ⟨hown, hrc, hall⟩ := ho6
                  have Hrc := Lib.hid hrc
                  have Hall := Lib.hid hall
                  have Hown := Lib.hid hown
                  clear hrc hown hall
                  refine wpAnyH_ready (rs := [12]) (by kernel_rfl) (by simp) ?_
                  refine step_law (by rfl) (by rfl) (fun K hK => ?_) AllReadyH.nil
                  refine wp_append_lies _ _ _ 28 (by rfl) (y + 2) 60 i0 _ 2 48 Tryz.underlying28 Hi.out Hz0.out Hz1.out Hz2.out (by rfl) (by decide) v _ cs (by rfl) Hown.out ⟨w22.heap.size, 0, none⟩ 1 1 [.slice a17 (keyOf L i).length c17, .slice a22 (valOf L i e).length c22] (by rfl) rfl (World.news_of_block (heap_alloc_new _ _)) (by intro u hu; simp at hu; rcases hu with rfl | rfl <;> rfl) (by decide) (by simp only [maxLen]; omega) (by omega) (by have := B22.out.size; have := Box3.out.lt; have := hs4; rw [World.size_alloc]; have := h6; have := hbd.size; rw [HW0.out] at *; omega) _ rfl ?_
                  intro g cap w7 hown7 hgrow hat hlt
                  obtain ⟨q1, q2, q3, q4, q5⟩ := rows_endZ (k := keyOf L i) (u := valOf L i e) HW0.out (B22.out.trans ((Below.refl _ w22).alloc B22.out.size _)) Hvs.out Ho6.out.or Hrc.out (O17.out.slBa hkl Hvo.out B22w.out _) (O22.out.slBa hvl (fun b e => Nat.lt_of_lt_of_le (Hvo.out b e) B17.out.size) (Below.refl _ _) _) hown7 hgrow hat Box1.out Box3.out hsz h5 hbz' hyW Hall.out Hlo.out w17.heap.size (ob_up O17.out hy2 ((B22w.out).trans ((Below.refl _ _).alloc B22w.out.size _))) (fun b e => World.ownsRow.lt O17.out b e) (ob_up O22.out (Nat.le_trans hy2 B17.out.size) ((Below.refl _ _).alloc (Nat.le_refl _) _)) (fun b e => (World.ownsRow.lt O22.out b e).1) B17.out.size hkl2 hvl2 Hvo.out
                  refine hK _ _ q1 ?_
                  simp only [Act.put, List.getElem_toArray, List.getElem_cons_succ, List.getElem_cons_zero, List.setIfInBounds_toArray, List.set_cons_zero, List.set_cons_succ]
                  refine wpAnyH_ready (rs := [13]) (by kernel_rfl) (by simp) ?_
                  refine step_skip (by rfl) (by rfl) (by exact run_store_rows (by rfl) (by rfl) (by rfl) q2 q3) q4 ?_ AllReadyH.nil
                  refine wpAnyH_done (by kernel_rfl) ?_ _
                  dsimp only [okPost]
                  gi_wp2
                  obtain ⟨q6, q7, v', q8, q9, q10, q11, q12⟩ := q5
                  exact ⟨q6, q7, v', Lib.hid (by rw [Hmap.out]; exact q8.out), q9, q10, q11, Nat.le_trans h6 q12⟩
                exact AllReadyH.nil
              exact AllReadyH.nil
            refine step_val (v := .agg #[.slice a17 (keyOf L i).length c17, .slice a22 (valOf L i e).length c22]) (by rfl) (by rfl) (by exact run_build_row (by rfl) (by rfl) (by rfl) _) hc4 ?_ ?_
            · simp only [Act.put, List.getElem_toArray, List.getElem_cons_succ, List.getElem_cons_zero, List.setIfInBounds_toArray, List.set_cons_zero, List.set_cons_succ]
              refine wpAnyH_ready (rs := [0, 11]) (by kernel_rfl) (by simp) ?_
              refine step_val (v := v) (by rfl) (by rfl) (by exact run_load1 (by rfl) (by rfl) Tryz.underlying28 go4) hc4 ?_ ?_
              · simp only [Act.put, List.getElem_toArray, List.getElem_cons_succ, List.getElem_cons_zero, List.setIfInBounds_toArray, List.set_cons_zero, List.set_cons_succ]
                refine wpAnyH_ready (rs := [11]) (by kernel_rfl) (by simp) ?_
                have hc6 := ((Box.below (Box1.out) B22.out Box1.out.lt).alloc (.cells #[.slice a17 (keyOf L i).length c17, .slice a22 (valOf L i e).length c22] 60)).cell
                have go6 := ((Box.below (Box3.out) B22.out Box3.out.lt).alloc (.cells #[.slice a17 (keyOf L i).length c17, .slice a22 (valOf L i e).length c22] 60)).cell
                refine step_val (v := .slice (some ⟨w22.heap.size, 0, none⟩) 1 1) (by rfl) (by rfl) (by exact run_buildSlice_row (by rfl) (by rfl) _) hc6 ?_ ?_
                · simp only [Act.put, List.getElem_toArray, List.getElem_cons_succ, List.getElem_cons_zero, List.setIfInBounds_toArray, List.set_cons_zero, List.set_cons_succ]
                  obtain ⟨cs, hoc⟩ := Hor.out
                  have Hlo := Lib.hid (fun x hx b e => (hoc.2.2.lt x hx b e).2)
                  have ho6 := ((hoc.below B22.out).below (((Below.refl _ w22).alloc (Nat.le_refl _) (.cells #[.slice a17 (keyOf L i).length c17, .slice a22 (valOf L i e).length c22] 60))))
                  have Ho6 : Hid (OO _ _ _ _) := Lib.hid ⟨cs, ho6⟩
                  obtain ⟨hown, hrc, hall⟩ := ho6
                  have Hrc := Lib.hid hrc
                  have Hall := Lib.hid hall
                  have Hown := Lib.hid hown
                  clear hrc hown hall
                  refine wpAnyH_ready (rs := [12]) (by kernel_rfl) (by simp) ?_
                  refine step_law (by rfl) (by rfl) (fun K hK => ?_) AllReadyH.nil
                  refine wp_append_lies _ _ _ 28 (by rfl) (y + 2) 60 i0 _ 2 48 Tryz.underlying28 Hi.out Hz0.out Hz1.out Hz2.out (by rfl) (by decide) v _ cs (by rfl) Hown.out ⟨w22.heap.size, 0, none⟩ 1 1 [.slice a17 (keyOf L i).length c17, .slice a22 (valOf L i e).length c22] (by rfl) rfl (World.news_of_block (heap_alloc_new _ _)) (by intro u hu; simp at hu; rcases hu with rfl | rfl <;> rfl) (by decide) (by simp only [maxLen]; omega) (by omega) (by have := B22.out.size; have := Box3.out.lt; have := hs4; rw [World.size_alloc]; have := h6; have := hbd.size; rw [HW0.out] at *; omega) _ rfl ?_
                  intro g cap w7 hown7 hgrow hat hlt
                  obtain ⟨q1, q2, q3, q4, q5⟩ := rows_endZ (k := keyOf L i) (u := valOf L i e) HW0.out (B22.out.trans ((Below.refl _ w22).alloc B22.out.size _)) Hvs.out Ho6.out.or Hrc.out (O17.out.slBa hkl Hvo.out B22w.out _) (O22.out.slBa hvl (fun b e => Nat.lt_of_lt_of_le (Hvo.out b e) B17.out.size) (Below.refl _ _) _) hown7 hgrow hat Box1.out Box3.out hsz h5 hbz' hyW Hall.out Hlo.out w17.heap.size (ob_up O17.out hy2 ((B22w.out).trans ((Below.refl _ _).alloc B22w.out.size _))) (fun b e => World.ownsRow.lt O17.out b e) (ob_up O22.out (Nat.le_trans hy2 B17.out.size) ((Below.refl _ _).alloc (Nat.le_refl _) _)) (fun b e => (World.ownsRow.lt O22.out b e).1) B17.out.size hkl2 hvl2 Hvo.out
                  refine hK _ _ q1 ?_
                  simp only [Act.put, List.getElem_toArray, List.getElem_cons_succ, List.getElem_cons_zero, List.setIfInBounds_toArray, List.set_cons_zero, List.set_cons_succ]
                  refine wpAnyH_ready (rs := [13]) (by kernel_rfl) (by simp) ?_
                  refine step_skip (by rfl) (by rfl) (by exact run_store_rows (by rfl) (by rfl) (by rfl) q2 q3) q4 ?_ AllReadyH.nil
                  refine wpAnyH_done (by kernel_rfl) ?_ _
                  dsimp only [okPost]
                  gi_wp2
                  obtain ⟨q6, q7, v', q8, q9, q10, q11, q12⟩ := q5
                  exact ⟨q6, q7, v', Lib.hid (by rw [Hmap.out]; exact q8.out), q9, q10, q11, Nat.le_trans h6 q12⟩
                exact AllReadyH.nil
              have hc6 := ((Box.below (Box1.out) B22.out Box1.out.lt).alloc (.cells #[.slice a17 (keyOf L i).length c17, .slice a22 (valOf L i e).length c22] 60)).cell
              have go6 := ((Box.below (Box3.out) B22.out Box3.out.lt).alloc (.cells #[.slice a17 (keyOf L i).length c17, .slice a22 (valOf L i e).length c22] 60)).cell
              refine step_val (v := .slice (some ⟨w22.heap.size, 0, none⟩) 1 1) (by rfl) (by rfl) (by exact run_buildSlice_row (by rfl) (by rfl) _) hc6 ?_ ?_
              · simp only [Act.put, List.getElem_toArray, List.getElem_cons_succ, List.getElem_cons_zero, List.setIfInBounds_toArray, List.set_cons_zero, List.set_cons_succ]
                refine wpAnyH_ready (rs := [0]) (by kernel_rfl) (by simp) ?_
                refine step_val (v := v) (by rfl) (by rfl) (by exact run_load1 (by rfl) (by rfl) Tryz.underlying28 go6) hc6 ?_ ?_
                · simp only [Act.put, List.getElem_toArray, List.getElem_cons_succ, List.getElem_cons_zero, List.setIfInBounds_toArray, List.set_cons_zero, List.set_cons_succ]
                  obtain ⟨cs, hoc⟩ := Hor.out
                  have Hlo := Lib.hid (fun x hx b e => (hoc.2.2.lt x hx b e).2)
                  have ho6 := ((hoc.below B22.out).below (((Below.refl _ w22).alloc (Nat.le_refl _) (.cells #[.slice a17 (keyOf L i).length c17, .slice a22 (valOf L i e).length c22] 60))))
                  have Ho6 : Hid (OO _ _ _ _) := Lib.hid ⟨cs, ho6⟩
                  obtain ⟨hown, hrc, hall⟩ := ho6
                  have Hrc := Lib.hid hrc
                  have Hall := Lib.hid hall
                  have Hown := Lib.hid hown
                  clear hrc hown hall
                  refine wpAnyH_ready (rs := [12]) (by kernel_rfl) (by simp) ?_
                  refine step_law (by rfl) (by rfl) (fun K hK => ?_) AllReadyH.nil
                  refine wp_append_lies _ _ _ 28 (by rfl) (y + 2) 60 i0 _ 2 48 Tryz.underlying28 Hi.out Hz0.out Hz1.out Hz2.out (by rfl) (by decide) v _ cs (by rfl) Hown.out ⟨w22.heap.size, 0, none⟩ 1 1 [.slice a17 (keyOf L i).length c17, .slice a22 (valOf L i e).length c22] (by rfl) rfl (World.news_of_block (heap_alloc_new _ _)) (by intro u hu; simp at hu; rcases hu with rfl | rfl <;> rfl) (by decide) (by simp only [maxLen]; omega) (by omega) (by have := B22.out.size; have := Box3.out.lt; have := hs4; rw [World.size_alloc]; have := h6; have := hbd.size; rw [HW0.out] at *; omega) _ rfl ?_
                  intro g cap w7 hown7 hgrow hat hlt
                  obtain ⟨q1, q2, q3, q4, q5⟩ := rows_endZ (k := keyOf L i) (u := valOf L i e) HW0.out (B22.out.trans ((Below.refl _ w22).alloc B22.out.size _)) Hvs.out Ho6.out.or Hrc.out (O17.out.slBa hkl Hvo.out B22w.out _) (O22.out.slBa hvl (fun b e => Nat.lt_of_lt_of_le (Hvo.out b e) B17.out.size) (Below.refl _ _) _) hown7 hgrow hat Box1.out Box3.out hsz h5 hbz' hyW Hall.out Hlo.out w17.heap.size (ob_up O17.out hy2 ((B22w.out).trans ((Below.refl _ _).alloc B22w.out.size _))) (fun b e => World.ownsRow.lt O17.out b e) (ob_up O22.out (Nat.le_trans hy2 B17.out.size) ((Below.refl _ _).alloc (Nat.le_refl _) _)) (fun b e => (World.ownsRow.lt O22.out b e).1) B17.out.size hkl2 hvl2 Hvo.out
                  refine hK _ _ q1 ?_
                  simp only [Act.put, List.getElem_toArray, List.getElem_cons_succ, List.getElem_cons_zero, List.setIfInBounds_toArray, List.set_cons_zero, List.set_cons_succ]
                  refine wpAnyH_ready (rs := [13]) (by kernel_rfl) (by simp) ?_
                  refine step_skip (by rfl) (by rfl) (by exact run_store_rows (by rfl) (by rfl) (by rfl) q2 q3) q4 ?_ AllReadyH.nil
                  refine wpAnyH_done (by kernel_rfl) ?_ _
                  dsimp only [okPost]
                  gi_wp2
                  obtain ⟨q6, q7, v', q8, q9, q10, q11, q12⟩ := q5
                  exact ⟨q6, q7, v', Lib.hid (by rw [Hmap.out]; exact q8.out), q9, q10, q11, Nat.le_trans h6 q12⟩
                exact AllReadyH.nil
              exact AllReadyH.nil
            exact AllReadyH.nil
          exact AllReadyH.nil
        exact AllReadyH.nil
      exact AllReadyH.nil
    exact AllReadyH.nil
    -- END OF THE REGION
  case done =>
    rintro D xs W hD hxs ⟨v, h1, b1, b3, h5, h6⟩ hK
    have hfin : rowsL L = xs.map fun x => rowAt L x.1 := by
      unfold rowsL
      rw [if_neg (by omega), ← hxs, List.map_map]
      rfl
    have Hfin := Lib.hid hfin
    have HK := Lib.hid hK
    clear hfin hK
    have g3 := b3.cell
    have g3' := b3.frozen
    gi_wp2
    refine ⟨by simp, .inl ⟨_, _, rfl, run_takeDeferred HK.out, ?_⟩⟩
    have hor := h1.out.kept (grownBy_putObj' W D (.deferred none)) (fun r e => by cases e; exact ⟨_, HK.out, rfl⟩)
    have Hor := Lib.hid hor
    clear hor
    refine ⟨v, ?_, ⟨v, rfl, by rw [Hfin.out]; exact Hor.out.mono (by rw [← Hz.out]; omega)⟩, by rw [← Hz.out]; exact h5.trans (belowK_b (w := w2) (n₀ := z) (by omega) W D _ _ hD HK.out rfl rfl)⟩
    simp [results, Tryz.f9, go_sem]
  case stop =>
    rintro D cd pre W hD hpre h
    exact h.elim

/-- page.Rows: of any bytes. -/
theorem Rows_own (N : Nat) (a : Option Addr) (n c : Nat) (L : List UInt8) (w : World) (hr : RB N w a n c L) (hN : N ≤ w.heap.size) :
    Calls Tryz.prog 9 #[.slice a n c] w fun e w' => (∃ v, e = .returned v ∧ OO w.heap.size w' v (rowsL L)) ∧ Below w.heap.size w w' := by
  by_cases h0 : behindL L = 0
  · have HR := Lib.hid (Right_any N a n c L (w.alloc (.cells #[.slice a n c] 22)) (hr.below (((Below.refl _ w).alloc (Nat.le_refl _) _).mono hN)) (by rw [World.size_alloc]; omega))
    have hfin : rowsL L = [] := by unfold rowsL; rw [if_pos h0]
    have hd : decide (0 < behindL L) = false := by rw [h0]; rfl
    rw [hd] at HR
    have Hfin := Lib.hid hfin
    have Hb0 : Hid (Below w.heap.size w (w.alloc (.cells #[.slice a n c] 22))) := Lib.hid ((Below.refl _ w).alloc (Nat.le_refl _) _)
    have Hc0 : Hid (Box (w.alloc (.cells #[.slice a n c] 22)) w.heap.size 22 (.slice a n c)) := Lib.hid (Box.new w _ _)
    have g0 := Hc0.out.cell
    clear hfin hd h0
    go_enter Tryz.func9, Tryz.ntmps9
    go_wp2_with (go_at_call 23; refine HR.out.mono ?_; rintro e w' ⟨rfl, hb⟩)
    go_ret
    exact ⟨⟨_, rfl, by rw [Hfin.out]; exact OO.nil _ _⟩, Hb0.out.trans (hb.mono (by simp))⟩
  · have hl := right_len (show 0 < behindL L by omega)
    have hn := hr.len
    have hle := hr.le
    rw [hl] at hn
    subst hn
    obtain ⟨b, o, rfl, -, -⟩ := hr.at_ (by omega)
    exact callsIn_wide.1 (Rows_inZ N b o c L w hr hN (by omega))
end Go.Proofs.YtbinikbgbgggaaaGreatDoor
namespace Go.Proofs.YtbinikbgbgggaaaGreatDoor
open Go.RowKit Go.Shelf

theorem OB.cut12 {base g n c : Nat} {w : World} {l : List UInt8} (h : OB base w (.slice (some ⟨g, 0, none⟩) (n + 12) c) (l ++ lentT)) (hn : n = l.length) : OB base w (.slice (some ⟨g, 0, none⟩) n c) l := by
  obtain ⟨h1, ⟨h2, -⟩ | ⟨g', cap, cur, hv, hg, hh, hle, hcap, hsz, htk⟩⟩ := h
  · cases h2
  · injection hv with e1 e2 e3
    injection e1 with e1
    injection e1 with e1
    subst e1
    subst e3
    rw [List.length_append] at hle htk
    refine ⟨by simp, .inr ⟨g, c, cur, by rw [hn], hg, hh, by omega, hcap, hsz, ?_⟩⟩
    have e : (cur.toList.take ((l.length + lentT.length) * 1)).take (l.length * 1) = cur.toList.take (l.length * 1) := by rw [List.take_take, Nat.min_eq_left (by omega)]
    rw [← e, htk, List.map_append, show l.length * 1 = (l.map bv).length by simp]
    exact List.take_left
/-- Own rows, and own bytes in them. -/
def OOw (base : Nat) (W : World) (v : Value) (n : Nat) (cs : List Value) : Prop := W.ownsRow base 60 2 v n cs ∧ OwnAll base W v.ownBlock cs
theorem OOw.below {base n : Nat} {W W' : World} {v : Value} {cs : List Value} (h : OOw base W v n cs) (hb : Below W.heap.size W W') : OOw base W' v n cs :=
  ⟨rows_below h.1 hb, h.2.keep fun _ _ b _ hh _ => hb.block b (Array.getElem?_eq_some_iff.1 hh).1⟩
theorem OOw.out {base n K : Nat} {V : Nat → Value} {W W' : World} {v : Value} {cs : List Value} (h : OOw base W v n cs) (ho : Out K V W W') (hd : ∀ j, j < K → ∀ b, (V j).ownBlock = some b → b < base) : OOw base W' v n cs :=
  ⟨rows_keep h.1 fun b e => ho.block b (rows_ge h.1 b e).2 (fun j hj e2 => by have := hd j hj b e2; have := (rows_ge h.1 b e).1; omega),
   h.2.keep fun u hu b _ hh e => ho.block b (Array.getElem?_eq_some_iff.1 hh).1 (fun j hj e2 => by have := hd j hj b e2; have := (h.2.lt u hu b e).1; omega)⟩
theorem rowsL_len (L : List UInt8) : (rowsL L).length ≤ 255 := by
  unfold rowsL
  split
  · simp
  · rw [List.length_map]
    have := scan_len L (bt L 10).toNat 11
    have := bt_bd L 10
    omega
def pick3 (a b c : Value) : Nat → Value := fun k => if k = 0 then a else if k = 1 then b else c
def pick2 {α : Type} (a b : α) : Nat → α := fun k => if k = 0 then a else b
/-- Three lists of bytes, each later than the one ahead. -/
theorem apart3 (B : Nat) (a b c : Value) (la lb' lc : List UInt8) (w : World) (h1 : OB B w a la) (h2 : OB B w b lb') (h3 : OB B w c lc) (d1 : ∀ x y, a.ownBlock = some x → b.ownBlock = some y → x ≠ y) (d2 : ∀ x y, a.ownBlock = some x → c.ownBlock = some y → x ≠ y) (d3 : ∀ x y, b.ownBlock = some x → c.ownBlock = some y → x ≠ y) :
    Ap 5 1 TB B w.heap.size 3 (pick3 a b c) (fun k => if k = 0 then la.length else if k = 1 then lb'.length else lc.length) (fun _ => 0) w := by
  refine ⟨fun k hk => ?_, fun k hk x e => ?_, fun j k hj hk hne x e1 e2 => ?_, Nat.le_refl _⟩
  · rcases (show k = 0 ∨ k = 1 ∨ k = 2 by omega) with rfl | rfl | rfl
    · exact ⟨_, h1, TB_stab.zero (e := 5) (le := 22) _ _ _⟩
    · exact ⟨_, h2, TB_stab.zero (e := 5) (le := 22) _ _ _⟩
    · exact ⟨_, h3, TB_stab.zero (e := 5) (le := 22) _ _ _⟩
  · rcases (show k = 0 ∨ k = 1 ∨ k = 2 by omega) with rfl | rfl | rfl
    · exact (rows_ge h1 x e).2
    · exact (rows_ge h2 x e).2
    · exact (rows_ge h3 x e).2
  · rcases (show j = 0 ∨ j = 1 ∨ j = 2 by omega) with rfl | rfl | rfl <;> rcases (show k = 0 ∨ k = 1 ∨ k = 2 by omega) with rfl | rfl | rfl
    · exact hne rfl
    · exact d1 x x e1 e2 rfl
    · exact d2 x x e1 e2 rfl
    · exact d1 x x e2 e1 rfl
    · exact hne rfl
    · exact d3 x x e1 e2 rfl
    · exact d2 x x e2 e1 rfl
    · exact d3 x x e2 e1 rfl
    · exact hne rfl
/-- ApartBytes of three lists. -/
theorem ApartBytes3 (B : Nat) (a b c : Value) (la lb' lc : List UInt8) (w : World) (hB : B ≤ w.heap.size) (h1 : OB B w a la) (h2 : OB B w b lb') (h3 : OB B w c lc) (d1 : ∀ x y, a.ownBlock = some x → b.ownBlock = some y → x ≠ y) (d2 : ∀ x y, a.ownBlock = some x → c.ownBlock = some y → x ≠ y) (d3 : ∀ x y, b.ownBlock = some x → c.ownBlock = some y → x ≠ y)
    (l1 : la.length ≤ 1000000) (l2 : lb'.length ≤ 1000000) (l3 : lc.length ≤ 1000000) :
    Calls Tryz.prog 11 #[.slice (some ⟨w.heap.size, 0, none⟩) 3 3] (w.alloc (.cells #[a, b, c] 22)) fun e w' => e = .returned (.bool true) ∧ Out 3 (pick3 a b c) (w.alloc (.cells #[a, b, c] 22)) w' := by
  have hb : Below w.heap.size w (w.alloc (.cells #[a, b, c] 22)) := (Below.refl _ w).alloc (Nat.le_refl _) _
  have hn := heap_alloc_new w (.cells #[a, b, c] 22)
  refine ApartBytes_any B 3 3 w.heap.size (pick3 a b c) (fun k => if k = 0 then la.length else if k = 1 then lb'.length else lc.length) _ (Nat.le_trans hB hb.size) (apart3 B a b c la lb' lc _ (rows_below h1 hb) (rows_below h2 hb) (rows_below h3 hb) d1 d2 d3) (by decide) ⟨by decide, by decide⟩ (by rw [World.size_alloc]; omega) (fun k hk => ?_) (fun k hk => ?_)
  · rcases (show k = 0 ∨ k = 1 ∨ k = 2 by omega) with rfl | rfl | rfl <;> rw [cell_of_row _ w.heap.size _ _ _ _ hn] <;> rfl
  · rcases (show k = 0 ∨ k = 1 ∨ k = 2 by omega) with rfl | rfl | rfl <;> simp <;> omega
theorem pair_up {cs ds : List Value} {m : Nat} (h1 : cs.Pairwise fun u u' => ∀ b b', u.ownBlock = some b → u'.ownBlock = some b' → b < b') (h2 : ds.Pairwise fun u u' => ∀ b b', u.ownBlock = some b → u'.ownBlock = some b' → b < b') (h3 : ∀ u ∈ cs, ∀ b, u.ownBlock = some b → b < m) (h4 : ∀ u ∈ ds, ∀ b, u.ownBlock = some b → m ≤ b) :
    (cs ++ ds).Pairwise fun u u' => ∀ b, u.ownBlock = some b → u'.ownBlock ≠ some b := by
  rw [List.pairwise_append]
  refine ⟨h1.imp fun h b e1 e2 => Nat.lt_irrefl _ (h b b e1 e2), h2.imp fun h b e1 e2 => Nat.lt_irrefl _ (h b b e1 e2), fun u hu u' hu' b e1 e2 => ?_⟩
  have := h3 u hu b e1
  have := h4 u' hu' b e2
  omega
/-- ApartRows of two lists of rows. -/
theorem ApartRows2 (B B1 B2 : Nat) (v v' : Value) (n n' : Nat) (cs ds : List Value) (w : World) (hB1 : B ≤ B1) (h12 : B1 ≤ B2) (hB : B2 ≤ w.heap.size) (h1 : OOw B1 w v n cs) (h2 : OOw B2 w v' n' ds) (hlo : (∀ b, v.ownBlock = some b → b < B2) ∧ ∀ u ∈ cs, ∀ b, u.ownBlock = some b → b < B2) (l1 : n ≤ 255) (l2 : n' ≤ 255) :
    Calls Tryz.prog 12 #[.slice (some ⟨w.heap.size, 0, none⟩) 2 2] (w.alloc (.cells #[v, v'] 28)) fun e w' => e = .returned (.bool true) ∧ Below B (w.alloc (.cells #[v, v'] 28)) w' := by
  have hb : Below w.heap.size w (w.alloc (.cells #[v, v'] 28)) := (Below.refl _ w).alloc (Nat.le_refl _) _
  have hn := heap_alloc_new w (.cells #[v, v'] 28)
  have k1 := h1.below hb
  have k2 := h2.below hb
  have hcl := h1.1.1
  have hdl := h2.1.1
  have hv' : ∀ b, v'.ownBlock = some b → B2 ≤ b := fun b e => (rows_ge h2.1 b e).1
  have hds : ∀ u ∈ ds, ∀ b, u.ownBlock = some b → B2 ≤ b := fun u hu b e => (h2.2.lt u hu b e).1
  have hfm : (List.range 2).flatMap (pick2 cs ds) = cs ++ ds := by simp [List.range_succ, pick2]
  refine ApartRows_any B 2 2 w.heap.size (pick2 v v') (pick2 n n') (pick2 cs ds) _ (by have := hb.size; omega) ⟨fun k hk => ?_, fun k hk x e => ?_, fun j k hj hk hne x e1 e2 => ?_, Nat.le_refl _⟩ (fun k hk => ?_) (fun u hu => ?_) ?_ (fun u hu k hk b e1 e2 => ?_) (by decide) ⟨by decide, by decide⟩ (by rw [World.size_alloc]; omega) (fun k hk => ?_) (fun k hk => ?_) (fun k hk => ?_)
  · rcases (show k = 0 ∨ k = 1 by omega) with rfl | rfl
    · exact ⟨_, rows_mono k1.1 hB1, TR_stab.zero _ _ _⟩
    · exact ⟨_, rows_mono k2.1 (by omega), TR_stab.zero _ _ _⟩
  · rcases (show k = 0 ∨ k = 1 by omega) with rfl | rfl
    · exact (rows_ge k1.1 x e).2
    · exact (rows_ge k2.1 x e).2
  · have hx : ∀ x, v.ownBlock = some x → v'.ownBlock = some x → False := fun x e1 e2 => by have := hlo.1 x e1; have := hv' x e2; omega
    rcases (show j = 0 ∨ j = 1 by omega) with rfl | rfl <;> rcases (show k = 0 ∨ k = 1 by omega) with rfl | rfl
    · exact hne rfl
    · exact hx x e1 e2
    · exact hx x e2 e1
    · exact hne rfl
  · rcases (show k = 0 ∨ k = 1 by omega) with rfl | rfl
    · exact rows_mono k1.1 hB1
    · exact rows_mono k2.1 (by omega)
  · rw [hfm] at hu
    rcases List.mem_append.1 hu with hu | hu
    · obtain ⟨l, q1, q2⟩ := k1.2.own u hu
      exact ⟨l, q1.mono hB1, q2⟩
    · obtain ⟨l, q1, q2⟩ := k2.2.own u hu
      exact ⟨l, q1.mono (by omega), q2⟩
  · rw [hfm]
    exact pair_up h1.2.up h2.2.up hlo.2 hds
  · rw [hfm] at hu
    rcases (show k = 0 ∨ k = 1 by omega) with rfl | rfl <;> rcases List.mem_append.1 hu with hu | hu
    · exact h1.2.ne u hu b e1 e2
    · have := hlo.1 b e2; have := hds u hu b e1; omega
    · have := hlo.2 u hu b e1; have := hv' b e2; omega
    · exact h2.2.ne u hu b e1 e2
  · rcases (show k = 0 ∨ k = 1 by omega) with rfl | rfl <;> rw [cell_of_row _ w.heap.size _ _ _ _ hn] <;> rfl
  · rcases (show k = 0 ∨ k = 1 by omega) with rfl | rfl <;> simp [pick2] <;> omega
  · rcases (show k = 0 ∨ k = 1 ∨ k = 2 by omega) with rfl | rfl | rfl
    · simp
    · simp [List.range_succ, pick2]; omega
    · rw [hfm, List.length_append]; omega

set_option maxHeartbeats 8000000 in
set_option maxRecDepth 100000 in
theorem PageTells_any (pa ka : Option Addr) (pn pc kn kc : Nat) (P Kk : List UInt8) (w : World) (hp : RB w.heap.size w pa pn pc P) (hk : RB w.heap.size w ka kn kc Kk) :
    Calls Tryz.prog 3 #[.slice pa pn pc, .slice ka kn kc] w fun e w' => e = .returned (.bool true) ∧ Below w.heap.size w w' := by
  have hpl := hp.lm
  have hkl := hk.lm
  have HP := Lib.hid hp
  have HK := Lib.hid hk
  clear hp hk
  go_enter Tryz.func3, Tryz.ntmps3
  by_cases hA : 5000 < pn
  · have hA' : (5000 : Int) < (pn : Int) := by omega
    go_wp2_with (fail)
    go_at_call 5
    refine (awake_any _).mono ?_
    rintro e w1 ⟨rfl, hb1⟩
    have Hb1 := Lib.hid hb1
    clear hb1
    go_wp2_with (fail)
    go_ret
    exact ⟨rfl, Hb1.out⟩
  have hA' : ¬ (5000 : Int) < (pn : Int) := by omega
  by_cases hB : 5000 < kn
  · have hB' : (5000 : Int) < (kn : Int) := by omega
    go_wp2_with (fail)
    go_at_call 5
    refine (awake_any _).mono ?_
    rintro e w1 ⟨rfl, hb1⟩
    have Hb1 := Lib.hid hb1
    clear hb1
    go_wp2_with (fail)
    go_ret
    exact ⟨rfl, Hb1.out⟩
  have hB' : ¬ (5000 : Int) < (kn : Int) := by omega
  have H1 := Lib.hid (LentBytes_any w.heap.size pa pn pc P w HP.out (Nat.le_refl _) (by omega))
  go_wp2_with (fail)
  go_at_call 6
  refine H1.out.mono ?_
  rintro e w1 ⟨⟨g1, c1, rfl, ho1⟩, hb1⟩
  have hpl2 := HP.out.len
  have q1 := ho1.own g1 rfl
  have s1 := hb1.size
  have O1 := Lib.hid ho1
  have B1 := Lib.hid hb1
  have H2 := Lib.hid (LentBytes_any w.heap.size ka kn kc Kk w1 (HK.out.below hb1) s1 (by omega))
  have Hpl2 := Lib.hid hpl2
  clear ho1 hb1 H1 hpl2
  go_wp2_with (fail)
  go_at_call 6
  refine H2.out.mono ?_
  rintro e w2 ⟨⟨g2, c2, rfl, ho2⟩, hb2⟩
  have hkl2 := HK.out.len
  have q2 := ho2.own g2 rfl
  have s2 := hb2.size
  have O2 := Lib.hid ho2
  have O1b := Lib.hid (O1.out.below hb2)
  have B2 := Lib.hid (B1.out.trans (hb2.mono s1))
  have Hkl2 := Lib.hid hkl2
  clear ho2 hb2 H2 hkl2
  have R1 : Hid (RB w2.heap.size w2 (some ⟨g1, 0, none⟩) pn c1 P) := Lib.hid ((O1b.out.rb12 (by omega)).of12 Hpl2.out)
  have R2 : Hid (RB w2.heap.size w2 (some ⟨g2, 0, none⟩) kn c2 Kk) := Lib.hid ((O2.out.rb12 (by omega)).of12 Hkl2.out)
  have H3 := Lib.hid (tells_any w2.heap.size w2.heap.size _ _ pn c1 kn c2 P Kk w2 R1.out R2.out (Nat.le_refl _) (Nat.le_refl _))
  go_wp2_with (fail)
  go_at_call 7
  refine H3.out.mono ?_
  rintro e w3 ⟨rfl, hb3⟩
  have s3 := hb3.size
  have B3 := Lib.hid hb3
  obtain ⟨G, hG⟩ : ∃ G, G = (getL P Kk).getD [] := ⟨_, rfl⟩
  have hga := get_len P Kk
  rw [← hG] at hga
  have HG := Lib.hid hG
  clear hG
  have H4 := Lib.hid (Get_any w2.heap.size w2.heap.size _ pn c1 P _ kn c2 Kk w3 (R1.out.below hb3) (R2.out.below hb3) s3 s3)
  rw [← HG.out] at H4
  clear hb3 H3
  go_wp2_with (fail)
  go_at_call 8
  refine H4.out.mono ?_
  rintro e w4 ⟨⟨va, rfl, hoa⟩, hb4⟩
  obtain ⟨aa, ca, rfl, -⟩ := rows_form hoa
  have s4 := hb4.size
  have B4 := Lib.hid (B3.out.trans (hb4.mono s3))
  have OA := Lib.hid hoa
  have H5 := Lib.hid (Get_any w2.heap.size w2.heap.size _ pn c1 P _ kn c2 Kk w4 (R1.out.below B4.out) (R2.out.below B4.out) B4.out.size B4.out.size)
  rw [← HG.out] at H5
  clear hb4 H4 hoa
  go_wp2_with (fail)
  go_at_call 8
  refine H5.out.mono ?_
  rintro e w5 ⟨⟨vb, rfl, hob⟩, hb5⟩
  obtain ⟨ab, cb, rfl, -⟩ := rows_form hob
  have s5 := hb5.size
  have B5 := Lib.hid (B4.out.trans (hb5.mono B4.out.size))
  have OAb := Lib.hid (OA.out.below hb5)
  have OBb := Lib.hid hob
  have H6 := Lib.hid (Rows_own w2.heap.size _ pn c1 P w5 (R1.out.below B5.out) B5.out.size)
  clear hb5 H5 hob
  go_wp2_with (fail)
  go_at_call 9
  refine H6.out.mono ?_
  rintro e w6 ⟨⟨vl, rfl, hol⟩, hb6⟩
  obtain ⟨csl, hol1, -, hol2⟩ := hol
  obtain ⟨al, cl, rfl, -⟩ := rows_form hol1
  have s6 := hb6.size
  have B6 := Lib.hid (B5.out.trans (hb6.mono B5.out.size))
  have OL : Hid (OOw w5.heap.size w6 _ (rowsL P).length csl) := Lib.hid ⟨hol1, hol2⟩
  have OA6 := Lib.hid (OAb.out.below hb6)
  have OB6 := Lib.hid (OBb.out.below hb6)
  have H7 := Lib.hid (Rows_own w2.heap.size _ pn c1 P w6 (R1.out.below B6.out) B6.out.size)
  clear hb6 H6 hol1 hol2
  go_wp2_with (fail)
  go_at_call 9
  refine H7.out.mono ?_
  rintro e w7 ⟨⟨vm, rfl, hom⟩, hb7⟩
  obtain ⟨csm, hom1, -, hom2⟩ := hom
  obtain ⟨am, cm, rfl, -⟩ := rows_form hom1
  have s7 := hb7.size
  have B7 := Lib.hid (B6.out.trans (hb7.mono B6.out.size))
  have OM : Hid (OOw w6.heap.size w7 _ (rowsL P).length csm) := Lib.hid ⟨hom1, hom2⟩
  have OL7 := Lib.hid (OL.out.below hb7)
  have OA7 := Lib.hid (OA6.out.below hb7)
  have OB7 := Lib.hid (OB6.out.below hb7)
  have hrl := rowsL_len P
  obtain ⟨rn, hrn⟩ : ∃ m, m = (rowsL P).length := ⟨_, rfl⟩
  rw [← hrn] at OL OM OL7 hrl ⊢
  have HK7 := Lib.hid (KeptBytes_any w2.heap.size w.heap.size g1 c1 pa pn pc P w7 ((O1b.out.rb12 (by omega)).below B7.out) (HP.out.below (B2.out.trans (B7.out.mono (Nat.le_trans s1 s2)))) B7.out.size (Nat.le_trans (Nat.le_trans s1 s2) B7.out.size) (by omega))
  clear hb7 H7 hom1 hom2 hrn
  go_wp2_with (fail)
  go_at_call 10
  refine HK7.out.mono ?_
  rintro e w8 ⟨rfl, hb8⟩
  have B8 := Lib.hid (B7.out.trans (hb8.mono B7.out.size))
  have C8 := Lib.hid hb8
  have HK8 := Lib.hid (KeptBytes_any w2.heap.size w.heap.size g2 c2 ka kn kc Kk w8 ((O2.out.rb12 (by omega)).below B8.out) (HK.out.below (B2.out.trans (B8.out.mono (Nat.le_trans s1 s2)))) B8.out.size (Nat.le_trans (Nat.le_trans s1 s2) B8.out.size) (by omega))
  clear hb8 HK7
  go_wp2_with (fail)
  go_at_call 10
  refine HK8.out.mono ?_
  rintro e w9 ⟨rfl, hb9⟩
  have B9 := Lib.hid (B8.out.trans (hb9.mono B8.out.size))
  have C9 := Lib.hid (C8.out.trans (hb9.mono C8.out.size))
  clear hb9 HK8
  have hin := Lib.hid ((O1b.out.below B9.out).cut12 Hpl2.out)
  have hsz79 := C9.out.size
  have qa := fun x (e : (Value.slice aa G.length ca).ownBlock = some x) => rows_ge OA.out x e
  have qb := fun x (e : (Value.slice ab G.length cb).ownBlock = some x) => rows_ge OBb.out x e
  have HA9 := Lib.hid (ApartBytes3 w.heap.size (.slice aa G.length ca) (.slice ab G.length cb) (.slice (some ⟨g1, 0, none⟩) pn c1) G G P w9 (by omega) (rows_mono (rows_below OA7.out C9.out) (by omega)) (rows_mono (rows_below OB7.out C9.out) (by omega)) (hin.out.mono (by omega))
    (fun x y e1 e2 h => by have := (qa x e1).2; have := (qb y e2).1; omega) (fun x y e1 e2 h => by have e3 : g1 = y := Option.some.inj e2; have := (qa x e1).1; omega) (fun x y e1 e2 h => by have e3 : g1 = y := Option.some.inj e2; have := (qb x e1).1; omega) (by omega) (by omega) (by have := Hpl2.out; omega))
  go_wp2_with (fail)
  go_at_call 11
  refine HA9.out.mono ?_
  rintro e w10 ⟨rfl, ho10⟩
  have hal9 : Below w9.heap.size w9 (w9.alloc (.cells #[.slice aa G.length ca, .slice ab G.length cb, .slice (some ⟨g1, 0, none⟩) pn c1] 22)) := (Below.refl _ w9).alloc (Nat.le_refl _) _
  have hV : ∀ j, j < 3 → ∀ b, (pick3 (.slice aa G.length ca) (.slice ab G.length cb) (.slice (some ⟨g1, 0, none⟩) pn c1) j).ownBlock = some b → w.heap.size ≤ b ∧ b < w5.heap.size := fun j hj b e => by
    rcases (show j = 0 ∨ j = 1 ∨ j = 2 by omega) with rfl | rfl | rfl
    · have := qa b e; omega
    · have := qb b e; omega
    · have e3 : g1 = b := Option.some.inj e
      omega
  have OL10 := Lib.hid (((OL7.out.below C9.out).below hal9).out ho10 (fun j hj b e => (hV j hj b e).2))
  have OM10 := Lib.hid (((OM.out.below C9.out).below hal9).out ho10 (fun j hj b e => by have := (hV j hj b e).2; omega))
  have B10 : Hid (Below w.heap.size w w10) := Lib.hid ((B2.out.trans (B9.out.mono (by omega))).trans ((hal9.mono (by omega)).trans ⟨ho10.os, ho10.tape, ho10.output, ho10.size, fun k hk => ho10.block k (by have := hal9.size; omega) (fun j hj e => by have := (hV j hj k e).1; omega)⟩))
  have hsz10 : w9.heap.size ≤ w10.heap.size := Nat.le_trans hal9.size ho10.size
  have hsl : (∀ b, (Value.slice al rn cl).ownBlock = some b → b < w6.heap.size) ∧ ∀ u ∈ csl, ∀ b, u.ownBlock = some b → b < w6.heap.size := ⟨fun b e => (rows_ge OL.out.1 b e).2, fun u hu b e => (OL.out.2.lt u hu b e).2⟩
  have HA10 := Lib.hid (ApartRows2 w.heap.size w5.heap.size w6.heap.size (.slice al rn cl) (.slice am rn cm) rn rn csl csm w10 (by omega) s6 (by omega) OL10.out OM10.out hsl hrl hrl)
  clear hal9 hV ho10 qa qb hsl
  go_wp2_with (fail)
  go_at_call 12
  refine HA10.out.mono ?_
  rintro e w11 ⟨rfl, hb11⟩
  have B11 := Lib.hid ((B10.out.alloc B10.out.size (.cells #[.slice al rn cl, .slice am rn cm] 28)).trans hb11)
  clear hb11 HA10
  go_wp2_with (fail)
  go_at_call 5
  refine (awake_any _).mono ?_
  rintro e w12 ⟨rfl, hb12⟩
  have B12 := Lib.hid (B11.out.trans (hb12.mono B11.out.size))
  clear hb12
  go_wp2_with (fail)
  go_ret
  exact ⟨rfl, B12.out⟩
end Go.Proofs.YtbinikbgbgggaaaGreatDoor
