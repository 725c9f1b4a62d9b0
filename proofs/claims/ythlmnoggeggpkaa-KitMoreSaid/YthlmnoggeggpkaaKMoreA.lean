/- KitMore: the law's own items, and what is told of them. -/
import Derived.Test.YthlmnoggeggpkaaKMoreP
import Derived.Test.YthlmnoggeggpkaaKCopy
import Derived.Test.YthlmnoggeggpkaaKAwake
namespace Go.Proofs.Ythlmnoggeggpkaa
open Go.RowKit

/-- The item that is kept. -/
def z8 : It := ⟨[90, 56], 7, none, 0, [], none, 0, []⟩
/-- The kit of these parts. -/
def z9 (pa : Option Addr) (pc : Nat) (P : List Pt) : It := ⟨[90, 57], 0, pa, pc, P, none, 0, []⟩
theorem z8_code : okCode z8.code = true := by kernel_rfl
theorem z9_code : okCode [90, 57] = true := by kernel_rfl
theorem z89 : ([90, 56] : List UInt8) < [90, 57] := by decide
theorem chk_z8 {X : List It} (hs : Sound X) (hl : X.length ≤ 58) (hb : Behind X [90, 56]) : chkE (X ++ [z8]) = 0 :=
  (chk_more hs (y := z8) (by omega) hb z8_code).2 ⟨by decide, fun p hp => by cases hp⟩
theorem behind_z9 {X : List It} (hb : Behind X [90, 56]) : Behind (X ++ [z8]) [90, 57] := fun s hs => by
  rw [codes_more, List.mem_append, List.mem_singleton] at hs
  rcases hs with hs | hs
  · exact List.lt_trans (hb s hs) z89
  · rw [hs]; exact z89
theorem chk_z9 {X : List It} (hs : Sound X) (hl : X.length ≤ 58) (hb : Behind X [90, 56]) (pa : Option Addr) (pc : Nat) (P : List Pt) : chkE (X ++ [z8] ++ [z9 pa pc P]) = 0 ↔ okShape 0 P = true ∧ FineP (X ++ [z8]) P :=
  chk_more (sound_of (chk_z8 hs hl hb)) (y := z9 pa pc P) (by rw [List.length_append]; show X.length + 1 + 1 ≤ 60; omega) (behind_z9 hb) z9_code
theorem deep_z9 {X : List It} (hs : Sound X) (h0 : chkE X = 0) (hl : X.length ≤ 58) (hb : Behind X [90, 56]) {pa : Option Addr} {pc : Nat} {P : List Pt} (h2 : chkE (X ++ [z8] ++ [z9 pa pc P]) = 0) {c : List UInt8} (hc : c ∈ codes X) : deepX (X ++ [z8] ++ [z9 pa pc P]) c = deepX X c := by
  have hs1 := sound_of (chk_z8 hs hl hb)
  have hc1 : c ∈ codes (X ++ [z8]) := by rw [codes_more]; exact List.mem_append_left _ hc
  have hc2 : c ∈ codes (X ++ [z8] ++ [z9 pa pc P]) := by rw [codes_more]; exact List.mem_append_left _ hc1
  unfold deepX
  rw [if_pos ⟨h2, hc2⟩, if_pos ⟨h0, hc⟩, tell_more hs1 hc1, tell_more hs hc]
/-- How deep a part is. -/
theorem deep_z8 {X : List It} (hs : Sound X) (hl : X.length ≤ 58) (hb : Behind X [90, 56]) (c : List UInt8) : (c ∈ codes (X ++ [z8]) ∧ deepX (X ++ [z8]) c = (tellX (X ++ [z8]) c : Int) ∧ 1 ≤ tellX (X ++ [z8]) c ∧ tellX (X ++ [z8]) c ≤ 8) ∨ (c ∉ codes (X ++ [z8]) ∧ deepX (X ++ [z8]) c = 0) := by
  have h0 := chk_z8 hs hl hb
  have hs1 := sound_of h0
  by_cases hc : c ∈ codes (X ++ [z8])
  · refine .inl ⟨hc, ?_, tell_pos hs1 hc, hs1.dp c hc⟩
    unfold deepX
    rw [if_pos ⟨h0, hc⟩]
  · refine .inr ⟨hc, ?_⟩
    unfold deepX
    rw [if_neg (fun h => hc h.2)]
theorem behind_of {X : List It} (hs : Sound X) {c : List UInt8} (h : X.length = 0 ∨ cd X (X.length - 1) < c) : Behind X c := fun s hsm => by
  obtain ⟨i, hi, -, rfl⟩ := there hsm
  rcases h with h | h
  · omega
  · by_cases e : i = X.length - 1
    · rw [e]; exact h
    · exact List.lt_trans (codes_up hs.ok (X.length - 1) i (by omega) (by omega)) h
/-! Like lists, with more. -/
theorem strip_app {X Y Z : List It} (hl : Y.length = X.length) (h : ∀ i, i < X.length → LikeI (Y.getD i default) (X.getD i default)) : (Y ++ Z).map strip = (X ++ Z).map strip := by
  rw [List.map_append, List.map_append, strip_like hl h]
theorem chkE_app {X Y Z : List It} (hl : Y.length = X.length) (h : ∀ i, i < X.length → LikeI (Y.getD i default) (X.getD i default)) : chkE (Y ++ Z) = chkE (X ++ Z) := by
  rw [← chkE_strip (Y ++ Z), strip_app hl h, chkE_strip]
theorem deepX_app {X Y Z : List It} (hl : Y.length = X.length) (h : ∀ i, i < X.length → LikeI (Y.getD i default) (X.getD i default)) (c : List UInt8) : deepX (Y ++ Z) c = deepX (X ++ Z) c := by
  rw [← deepX_strip (Y ++ Z), strip_app hl h, deepX_strip]
/-! In memory. -/
theorem oi_ri {base : Nat} {w : World} {a : Option Addr} {n c : Nat} {Y : List It} (h : OIt base w (.slice a n c) Y) (hok : ∀ y ∈ Y, ItOk w.heap.size w y) : RI w.heap.size w a n c Y := by
  obtain ⟨a', c', e, hle, hmx, -⟩ := rows_form h
  injection e with e1 e2 e3
  subst e1
  subst e2
  subst e3
  refine ⟨rfl, hle, hmx, hok, fun hc => ?_⟩
  obtain ⟨h1, ⟨h2, h3⟩ | ⟨g, cap, cur, hv, hg, hh, -⟩⟩ := id h
  · injection h2 with e1 e2 e3
    omega
  · injection hv with e1 e2 e3
    subst e1
    refine ⟨g, 0, rfl, (Array.getElem?_eq_some_iff.1 hh).1, fun i hi => ?_⟩
    obtain ⟨k1, k2, k3, k4⟩ := cellsI_at Y i hi
    have e : ∀ m, (⟨g, 0, none⟩ : Addr).add m = ⟨g, 0 + m, none⟩ := fun m => by unfold Addr.add; split <;> simp_all
    have q1 := World.ownsRow.cells (g := g) h rfl _ _ k1
    have q2 := World.ownsRow.cells (g := g) h rfl _ _ k2
    have q3 := World.ownsRow.cells (g := g) h rfl _ _ k3
    have q4 := World.ownsRow.cells (g := g) h rfl _ _ k4
    rw [e] at q1 q2 q3 q4
    exact ⟨q1, q2, q3, q4⟩
theorem RI.take {B : Nat} {w : World} {a : Option Addr} {n c : Nat} {X : List It} (h : RI B w a n c X) {k : Nat} (hk : k ≤ n) : RI B w a k c (X.take k) := by
  have hl := h.len
  refine ⟨by rw [List.length_take]; omega, Nat.le_trans hk h.le, h.mx, fun x hx => h.ok x (List.mem_of_mem_take hx), fun hc => ?_⟩
  obtain ⟨b, o, e, hb, hcell⟩ := h.at_ hc
  refine ⟨b, o, e, hb, fun i hi => ?_⟩
  have := hcell i (by omega)
  rw [List.getD_eq_getElem?_getD, List.getElem?_take, if_pos hi, ← List.getD_eq_getElem?_getD]
  exact this
theorem CI.ok {base N : Nat} {w w0 : World} {x y : It} (h : CI base w x y) (hx : ItOk N w0 x) : ItOk w.heap.size w y := by
  obtain ⟨e1, e2, e3, e4⟩ := h.like
  have hf : Fine y.ps := by rw [e3]; exact hx.rp.fine
  have ht : ∀ t ∈ y.os, t.length ≤ 9223372036854775807 := by rw [e4]; exact hx.rt.fine
  have hop : OP base w (.slice y.pa y.ps.length y.pc) y.ps := h.op
  have hot : OT base w (.slice y.oa y.os.length y.oc) y.os := h.ot
  have hrt : RT w.heap.size w y.oa y.os.length y.oc y.os := by
    obtain ⟨a', c', e, hle, hmx, -⟩ := rows_form hot
    injection e with f1 f2 f3
    subst f1
    subst f3
    obtain ⟨h1, ⟨h2, h3⟩ | ⟨g, cap, cur, hv, -⟩⟩ := id hot
    · injection h2 with g1 g2 g3
      exact ⟨rfl, hle, hmx, ht, fun hc => by omega⟩
    · injection hv with g1 g2 g3
      rw [g1] at hot ⊢
      have := (hot.rt ht y.os.length (Nat.le_refl _)).1
      rw [List.take_of_length_le (Nat.le_refl _)] at this
      exact this
  exact ⟨by rw [e1]; exact hx.code, by rw [e2]; exact hx.lo, by rw [e2]; exact hx.hi, hop.rp2 hf, hrt⟩
/-- The law's own items: copies, and more behind them. -/
structure KM (base : Nat) (W : World) (v : Value) (X Y Z : List It) : Prop where
  len : Y.length = X.length
  own : OIt base W v (Y ++ Z)
  cp : ∀ i, i < X.length → CI base W (X.getD i default) (Y.getD i default)
theorem KM.below {base : Nat} {W W' : World} {v : Value} {X Y Z : List It} (h : KM base W v X Y Z) (hb : Below W.heap.size W W') : KM base W' v X Y Z := ⟨h.len, h.own.below hb, fun i hi => (h.cp i hi).below hb⟩
theorem KM.grown {base : Nat} {W W' : World} {v v' : Value} {X Y Z Z' : List It} (h : KM base W v X Y Z) (ho : OIt base W' v' (Y ++ Z')) (hg : W.grownBy W' v.ownBlock) : KM base W' v' X Y Z' := ⟨h.len, ho, fun i hi => (h.cp i hi).grown h.own hg⟩
theorem KM.like {base : Nat} {W : World} {v : Value} {X Y Z : List It} (h : KM base W v X Y Z) : ∀ i, i < X.length → LikeI (Y.getD i default) (X.getD i default) := fun i hi => (h.cp i hi).like
theorem KM.ri {base N : Nat} {W w0 : World} {a : Option Addr} {n c : Nat} {X Y Z : List It} (h : KM base W (.slice a n c) X Y Z) (hx : ∀ x ∈ X, ItOk N w0 x) (hz : ∀ z ∈ Z, ItOk W.heap.size W z) : RI W.heap.size W a n c (Y ++ Z) := by
  refine oi_ri h.own fun y hy => ?_
  rcases List.mem_append.1 hy with hy | hy
  · obtain ⟨i, hi, rfl⟩ := List.mem_iff_getElem.1 hy
    have h1 := h.cp i (by have := h.len; omega)
    rw [List.getD_eq_getElem?_getD (l := Y), List.getElem?_eq_getElem hi] at h1
    refine h1.ok (hx _ ?_)
    rw [List.getD_eq_getElem?_getD, List.getElem?_eq_getElem (by have := h.len; omega)]
    exact List.getElem_mem _
  · exact hz y hy
theorem z8_ok (B : Nat) (w : World) : ItOk B w z8 := ⟨by decide, by decide, by decide, rp_none _ _, rt_none _ _⟩
theorem z9_ok {B : Nat} {w : World} {pa : Option Addr} {pc : Nat} {P : List Pt} (h : RP B w pa P.length pc P) : ItOk B w (z9 pa pc P) := ⟨(show (2 : Nat) ≤ 9223372036854775807 by decide), (show (-9223372036854775808 : Int) ≤ 0 by decide), (show (0 : Int) ≤ 9223372036854775807 by decide), h, rt_none _ _⟩
end Go.Proofs.Ythlmnoggeggpkaa
