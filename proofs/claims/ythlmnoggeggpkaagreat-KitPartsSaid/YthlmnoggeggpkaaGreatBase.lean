/- Memory predicates and small lemmas that the walks share: what it is for a slice of bytes to read as a list, and what a call keeps of memory. -/
import Derived.Test.YthlmnoggeggpkaaGreatRows
import Derived.WalkKit
import Derived.WalkSpells
import Derived.WalkLawsBesides
import Derived.Deep.QuietTactic
import Derived.BigQuiet
import Derived.Handy
import Derived.Deep.Light
import Derived.Lib.Hide
namespace Go.Proofs.YthlmnoggeggpkaaGreat
open Go.RowKit

/-- The byte at a place, as a number. -/
def bt (l : List UInt8) (i : Nat) : Int := ((l.getD i 0).toNat : Int)
theorem bt_bd (l : List UInt8) (i : Nat) : 0 ≤ bt l i ∧ bt l i < 256 := by
  unfold bt; have := (l.getD i 0).toNat_lt; omega
theorem bt_inj {l k : List UInt8} {i j : Nat} (h : bt l i = bt k j) : l.getD i 0 = k.getD j 0 := by
  unfold bt at h; exact UInt8.toNat_inj.1 (by omega)

/-- The slice (a, n, c) reads as the bytes l in w; its block lies below B. -/
structure RB (B : Nat) (w : World) (a : Option Addr) (n c : Nat) (l : List UInt8) : Prop where
  len : n = l.length
  le : n ≤ c
  mx : c ≤ 9223372036854775807
  lm : n ≤ 140737488355328
  at_ : 0 < c → ∃ b o, a = some ⟨b, o, none⟩ ∧ b < B ∧ ∀ i, i < n → w.cell? ⟨b, o + i, none⟩ = some (.int .u8 (bt l i))

theorem RB.below {B : Nat} {w w' : World} {a : Option Addr} {n c : Nat} {l : List UInt8} (h : RB B w a n c l) (hb : Below B w w') : RB B w' a n c l :=
  ⟨h.len, h.le, h.mx, h.lm, fun hc => by
    obtain ⟨b, o, rfl, hB, hcell⟩ := h.at_ hc
    exact ⟨b, o, rfl, hB, fun i hi => (hb.cell (p := ⟨b, o + i, none⟩) hB).trans (hcell i hi)⟩⟩

theorem RB.mono {B B' : Nat} {w : World} {a : Option Addr} {n c : Nat} {l : List UInt8} (h : RB B w a n c l) (hb : B ≤ B') : RB B' w a n c l :=
  ⟨h.len, h.le, h.mx, h.lm, fun hc => by
    obtain ⟨b, o, rfl, hB, hcell⟩ := h.at_ hc
    exact ⟨b, o, rfl, by omega, hcell⟩⟩

theorem RB.drewN {B : Nat} {w : World} {a : Option Addr} {n c : Nat} {l : List UInt8} (h : RB B w a n c l) (q : Nat) : RB B (w.drewN q) a n c l :=
  ⟨h.len, h.le, h.mx, h.lm, fun hc => by
    obtain ⟨b, o, rfl, hB, hcell⟩ := h.at_ hc
    exact ⟨b, o, rfl, hB, fun i hi => by rw [← hcell i hi]; simp [go_sem]⟩⟩

/-- A contract that leaves the world as it is, where a region that draws its order calls. -/
theorem quiet_same {P : Program} {f : FuncId} {args : Array Value} {w : World} {n : Nat} {v : Value}
    (h : Calls P f args (w.drewN n) fun e w' => e = .returned v ∧ w.drewN n = w') : Calls P f args (w.drewN n) fun e w'' => e = .returned v ∧ ∃ m, w'' = w.drewN m :=
  h.mono fun _ _ ⟨he, hm⟩ => ⟨he, n, hm.symm⟩

theorem bt_sub {l : List UInt8} {i m j : Nat} (h : j < m) : bt ((l.drop i).take m) j = bt l (i + j) := by
  unfold bt; simp [List.getElem?_take, h]

/-- A call answers a slice that reads as l. -/
def RetB (B : Nat) (w : World) (l : List UInt8) (e : Ending) : Prop := ∃ a n c, e = .returned (.slice a n c) ∧ RB B w a n c l

/-- A slice of a slice, where something is left behind it. -/
theorem RB.sub {B : Nat} {w : World} {b o n c : Nat} {l : List UInt8} (h : RB B w (some ⟨b, o, none⟩) n c l) (i m : Nat) (hm : i + m ≤ n) :
    RB B w (some ⟨b, o + i, none⟩) m (c - i) ((l.drop i).take m) := by
  have hl := h.len; have hle := h.le; have hmx := h.mx; have hlm := h.lm
  refine ⟨by simp; omega, by omega, by omega, by omega, fun hc => ?_⟩
  obtain ⟨b', o', he, hB, hcell⟩ := h.at_ (by omega)
  cases he
  refine ⟨b, o + i, rfl, hB, fun j hj => ?_⟩
  rw [bt_sub hj, ← hcell (i + j) (by omega), Nat.add_assoc]
/-- The beginning of a slice. -/
theorem RB.take {B : Nat} {w : World} {a : Option Addr} {n c : Nat} {l : List UInt8} (h : RB B w a n c l) (m : Nat) (hm : m ≤ n) : RB B w a m c (l.take m) := by
  have hl := h.len; have hle := h.le; have hmx := h.mx; have hlm := h.lm
  refine ⟨by simp; omega, by omega, by omega, by omega, fun hc => ?_⟩
  obtain ⟨b', o', he, hB, hcell⟩ := h.at_ (by omega)
  refine ⟨b', o', he, hB, fun j hj => ?_⟩
  have := bt_sub (l := l) (i := 0) (m := m) hj
  simp only [List.drop_zero, Nat.zero_add] at this
  rw [this]; exact hcell j (by omega)
/-- A slice of no bytes. -/
theorem RB.emp {B : Nat} {w : World} (a : Option Addr) : RB B w a 0 0 [] := ⟨rfl, Nat.le_refl _, by omega, by omega, fun h => absurd h (by omega)⟩

def eqB (l k : List UInt8) : Bool := decide (l = k)
theorem eqB_iff {l k : List UInt8} : eqB l k = true ↔ l = k := by unfold eqB; simp
theorem eqB_self (l : List UInt8) : eqB l l = true := by simp [eqB]
theorem eqB_ne {l k : List UInt8} (h : l ≠ k) : eqB l k = false := by simp [eqB, h]
end Go.Proofs.YthlmnoggeggpkaaGreat
