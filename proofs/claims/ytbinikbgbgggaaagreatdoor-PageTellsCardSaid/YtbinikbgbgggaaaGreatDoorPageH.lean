/- The walk of page.Turn. -/
import Derived.Test.YtbinikbgbgggaaaGreatDoorPageG
namespace Go.Proofs.YtbinikbgbgggaaaGreatDoor
open Go.RowKit Go.Shelf

def byteOf (n : Nat) : UInt8 := UInt8.ofNat n
/-- What a turn makes of a page's bytes, as the program does it: i, e: the old row (or the place, twice); last: where the rows end; k, n: the new row (n empty: none); is: was there an old one? -/
def moved (p : List UInt8) (i e last size : Nat) : List UInt8 := splice p (i + size) ((p.drop e).take (last - e))
def wiped (p : List UInt8) (i e last size : Nat) : List UInt8 :=
  if last - (e - i) + size < last then splice (moved p i e last size) (last - (e - i) + size) (List.replicate (last - (last - (e - i) + size)) 0) else moved p i e last size
def laid (p : List UInt8) (i : Nat) (k n : List UInt8) : List UInt8 := splice (splice ((p.set i (byteOf k.length)).set (i + 1) (byteOf n.length)) (i + 2) k) (i + 2 + k.length) n
def counted (p : List UInt8) (d : UInt8) : List UInt8 := p.set 10 (p.getD 10 0 + d)
def turnBytes (p : List UInt8) (i e last : Nat) (k n : List UInt8) (is : Bool) : List UInt8 :=
  let size := if n = [] then 0 else 2 + k.length + n.length
  let p2 := wiped p i e last size
  let p3 := if n = [] then p2 else counted (laid p2 i k n) 1
  if is then counted p3 (0 - 1) else p3
/-- What page.Turn answers, and the bytes behind it. -/
def turnL (p k o n : List UInt8) : Nat × List UInt8 :=
  if behindL p = 0 then (4, p) else
  if turnedB k.length o.length n.length = false then (2, p) else
  match findL p k with
  | (i, e, is) =>
    if (is != decide (0 < o.length)) = true ∨ (is = true ∧ eqB (valOf p i e) o = false) then (6, p) else
    if 512 < behindL p - (e - i) + (if n = [] then 0 else 2 + k.length + n.length) then (5, p) else
    (0, turnBytes p i e (behindL p) k n is)

/-- What page.Turn is asked for, and what it leaves. -/
def TurnPost (g c : Nat) (w : World) (r : Nat × List UInt8) (X : List Value) (e : Ending) (w' : World) : Prop :=
  e = .returned (.int .i64 r.1) ∧ PG w' g c r.2 X ∧ Mod g w w'

set_option maxHeartbeats 1000000 in
theorem Turn_shape (g c : Nat) (L : List UInt8) (X : List Value) (B : Nat) (ka oa na : Option Addr) (kn kc on oc nn nc : Nat) (K O N : List UInt8) (w : World) (hp : PG w g c L X)
    (hk : RBn g B w ka kn kc K) (ho : RBn g B w oa on oc O) (hn : RBn g B w na nn nc N) (hB : B ≤ w.heap.size) (h0 : behindL L = 0) :
    Calls Tryz.prog 14 #[.slice (some ⟨g, 0, none⟩) 512 c, .agg #[.slice ka kn kc, .slice oa on oc, .slice na nn nc]] w (TurnPost g c w (turnL L K O N) X) := by
  have hfin : turnL L K O N = (4, L) := by unfold turnL; rw [if_pos h0]
  have Hfin := Lib.hid hfin
  have HB : Hid (∀ w' : World, Below w.heap.size w w' → Calls Tryz.prog 41 #[.slice (some ⟨g, 0, none⟩) 512 c] w' fun e w'' => e = .returned (.int .i64 0) ∧ Below w'.heap.size w' w'') := by
    intro w' hb
    have := behind_any w'.heap.size _ _ _ _ w' (hp.below hb hp.lt).rb (Nat.le_refl _)
    rw [h0] at this
    exact this
  have hb0 : Below w.heap.size w (w.alloc (.cells #[.slice ka kn kc, .slice oa on oc, .slice na nn nc] 36)) := (Below.refl _ w).alloc (Nat.le_refl _) _
  have Hb0 := Lib.hid hb0
  clear hfin h0 hb0
  go_enter Tryz.func14, Tryz.ntmps14
  go_wp2_with (go_at_call 41; refine (HB.out _ Hb0.out).mono ?_; rintro e w' ⟨rfl, hb⟩)
  go_ret
  have hb2 := Hb0.out.trans (hb.mono Hb0.out.size)
  exact ⟨by rw [Hfin.out]; rfl, by rw [Hfin.out]; exact hp.below hb2 hp.lt, Mod.of_below hb2⟩

/-- The block of a boxed turn. -/
def T3 (W : World) (z : Nat) (v0 v1 v2 : Value) : Prop := W.heap[z]? = some (.cells #[v0, v1, v2] 36 (0, 0))
theorem T3.below {B : Nat} {W W' : World} {z : Nat} {v0 v1 v2 : Value} (h : T3 W z v0 v1 v2) (hb : Below B W W') (hz : z < B) : T3 W' z v0 v1 v2 := (hb.block z hz).trans h
theorem T3.cells {W : World} {z : Nat} {v0 v1 v2 : Value} (h : T3 W z v0 v1 v2) : W.cell? ⟨z, 0, none⟩ = some v0 ∧ W.cell? ⟨z, 1, none⟩ = some v1 ∧ W.cell? ⟨z, 2, none⟩ = some v2 := by
  unfold T3 at h; simp [World.cell?, h]
theorem T3.drew {W : World} {z : Nat} {v0 v1 v2 : Value} (h : T3 W z v0 v1 v2) : T3 W.drew z v0 v1 v2 := h
theorem T3.lt {W : World} {z : Nat} {v0 v1 v2 : Value} (h : T3 W z v0 v1 v2) : z < W.heap.size := (Array.getElem?_eq_some_iff.1 h).1
theorem T3.mod {g : Nat} {W W' : World} {z : Nat} {v0 v1 v2 : Value} (h : T3 W z v0 v1 v2) (hm : Mod g W W') (hne : z ≠ g) : T3 W' z v0 v1 v2 := (hm.block' h.lt hne).trans h

set_option maxHeartbeats 1000000 in
theorem Turn_arg (g c : Nat) (L : List UInt8) (X : List Value) (B : Nat) (ka oa na : Option Addr) (kn kc on oc nn nc : Nat) (K O N : List UInt8) (w : World) (hp : PG w g c L X)
    (hk : RBn g B w ka kn kc K) (ho : RBn g B w oa on oc O) (hn : RBn g B w na nn nc N) (hB : B ≤ w.heap.size) (h0 : behindL L ≠ 0) (ht : turnedB K.length O.length N.length = false) :
    Calls Tryz.prog 14 #[.slice (some ⟨g, 0, none⟩) 512 c, .agg #[.slice ka kn kc, .slice oa on oc, .slice na nn nc]] w (TurnPost g c w (turnL L K O N) X) := by
  have hfin : turnL L K O N = (2, L) := by unfold turnL; rw [if_neg h0, if_pos ht]
  have Hfin := Lib.hid hfin
  obtain ⟨last, hlast⟩ : ∃ last, last = behindL L := ⟨_, rfl⟩
  have HB : Hid (∀ w' : World, Below w.heap.size w w' → Calls Tryz.prog 41 #[.slice (some ⟨g, 0, none⟩) 512 c] w' fun e w'' => e = .returned (.int .i64 last) ∧ Below w'.heap.size w' w'') := by
    intro w' hb
    rw [hlast]
    exact behind_any w'.heap.size _ _ _ _ w' (hp.below hb hp.lt).rb (Nat.le_refl _)
  have HT : Hid (∀ w' : World, Calls Tryz.prog 42 #[.agg #[.slice ka kn kc, .slice oa on oc, .slice na nn nc]] w' fun e w'' => e = .returned (.bool false) ∧ Below w'.heap.size w' w'') := by
    intro w'
    have := turned_any ka oa na kn kc on oc nn nc w' hk.rb.lm ho.rb.lm hn.rb.lm
    rw [hk.rb.len, ho.rb.len, hn.rb.len, ht] at this
    rw [hk.rb.len, ho.rb.len, hn.rb.len]
    exact this
  have hl0 : last ≠ 0 := by rw [hlast]; exact h0
  have hld : ((last : Int) == 0) = false := by simp; omega
  have hb0 : Below w.heap.size w (w.alloc (.cells #[.slice ka kn kc, .slice oa on oc, .slice na nn nc] 36)) := (Below.refl _ w).alloc (Nat.le_refl _) _
  have ht0 : T3 (w.alloc (.cells #[.slice ka kn kc, .slice oa on oc, .slice na nn nc] 36)) w.heap.size (.slice ka kn kc) (.slice oa on oc) (.slice na nn nc) := heap_alloc_new w _
  have Hb0 := Lib.hid hb0
  have Ht0 := Lib.hid ht0
  clear hfin h0 hb0 ht0 hlast ht hl0
  go_enter Tryz.func14, Tryz.ntmps14
  go_wp2_with (first | (go_at_call 41; refine (HB.out _ Hb0.out).mono ?_; rintro e w1 ⟨rfl, hb1⟩; obtain ⟨c0, c1, c2⟩ := (Ht0.out.below hb1 (by simp)).cells) | (go_at_call 42; refine (HT.out _).mono ?_; rintro e w2 ⟨rfl, hb2⟩))
  go_ret
  have hb3 := (Hb0.out.trans (hb1.mono Hb0.out.size)).trans (hb2.mono (Hb0.out.trans (hb1.mono Hb0.out.size)).size)
  exact ⟨by rw [Hfin.out]; rfl, by rw [Hfin.out]; exact hp.below hb3 hp.lt, Mod.of_below hb3⟩

theorem find_bd (p k : List UInt8) : ∀ (c q f la f' : Nat), walkB p (q, f) (scan p c q) = some (la, f') → q ≤ p.length → 11 ≤ q → ∀ (i e : Nat) (t : Bool), findB p k q (scan p c q) = (i, e, t) →
    q ≤ i ∧ i ≤ e ∧ e ≤ la ∧ la ≤ p.length ∧ (t = true → 1 ≤ bt p i ∧ i + 2 + (bt p i).toNat < e) ∧ (t = false → i = e)
  | 0, q, f, la, f', h, hq, _, i, e, t, hf => by
    simp only [scan, walkB, findB] at h hf
    cases h; cases hf
    exact ⟨Nat.le_refl _, Nat.le_refl _, Nat.le_refl _, hq, (fun h => by cases h), fun _ => rfl⟩
  | c + 1, q, f, la, f', h, hq, h11, i, e, t, hf => by
    simp only [scan, walkB, findB] at h hf
    split at h
    case isFalse => cases h
    rename_i hok
    unfold okRow at hok
    simp only [Bool.and_eq_true, decide_eq_true_eq] at hok
    obtain ⟨⟨⟨⟨⟨h1, h2⟩, -⟩, h4⟩, -⟩, -⟩ := hok
    have hgt : ¬ p.length < endOf p q := by omega
    rw [if_neg hgt] at h hf
    have hge := endOf_ge p q hq
    have hin : q + 2 ≤ p.length := by
      by_cases hh : q + 2 ≤ p.length
      · exact hh
      · rw [endOf_out hh] at h1; omega
    have hend := endOf_in hin
    have hla : endOf p q ≤ la ∧ la ≤ p.length := by
      obtain ⟨i', e', t', hf'⟩ : ∃ i' e' t', findB p k (endOf p q) (scan p c (endOf p q)) = (i', e', t') := ⟨_, _, _, rfl⟩
      obtain ⟨a1, a2, a3, a4, -⟩ := find_bd p k c (endOf p q) q la f' h h1 (by omega) i' e' t' hf'
      exact ⟨by omega, a4⟩
    split at hf
    · cases hf
      exact ⟨Nat.le_refl _, by omega, hla.1, hla.2, fun _ => ⟨h2, by omega⟩, fun h => by cases h⟩
    · split at hf
      · cases hf
        exact ⟨Nat.le_refl _, Nat.le_refl _, by omega, hla.2, (fun h => by cases h), fun _ => rfl⟩
      · obtain ⟨a1, a2, a3, a4, a5, a6⟩ := find_bd p k c (endOf p q) q la f' h h1 (by omega) i e t hf
        exact ⟨by omega, a2, a3, a4, a5, a6⟩
theorem findL_bd {p k : List UInt8} (h0 : behindL p ≠ 0) {i e : Nat} {t : Bool} (hf : findL p k = (i, e, t)) :
    11 ≤ i ∧ i ≤ e ∧ e ≤ behindL p ∧ behindL p ≤ 512 ∧ (t = true → 1 ≤ bt p i ∧ i + 2 + (bt p i).toNat < e) ∧ (t = false → i = e) := by
  have hlen := right_len (Nat.pos_of_ne_zero h0)
  unfold behindL at h0 ⊢
  split at h0
  · exact absurd rfl h0
  · rename_i hh
    rw [if_neg hh]
    split at h0
    · exact absurd rfl h0
    · rename_i s hs
      split at h0
      · exact absurd rfl h0
      · rename_i ht
        rw [if_neg ht]
        have := find_bd p k _ 11 0 s.1 s.2 hs (by omega) (Nat.le_refl _) i e t hf
        rw [hlen] at this
        exact this
end Go.Proofs.YtbinikbgbgggaaaGreatDoor
