/- The pool: what Do does. (Printed by gen/odo.py.) The pool: Do, at kinds that it does not do. (Printed by gen/odo.py.) -/
import Derived.Test.YtohlkkannjifmaaGreatDoorOPool8
import Derived.Test.YtohlkkannjifmaaGreatDoorOPoolA
namespace Go.Proofs.YtohlkkannjifmaaGreatDoor
open Go.RowKit Go.Shelf

/-- A record that no pool does. -/
def argBad (r : RecV) (L : LK) : Prop := (r.kind ≠ 6 ∧ r.kind ≠ 1 ∧ r.kind ≠ 2) ∨ r.lsn < 1 ∨ L.end_ ≤ r.lsn
/-- A record of pages that there aren't. -/
def pageBad (r : RecV) (c : Int) : Prop := ¬ (0 ≤ r.page ∧ r.page < c) ∨ (r.kind = 6 ∧ ¬ (0 ≤ r.next ∧ r.next < c))
inductive DoP (P : PK) (r : RecV) (L : LK) (D : DK) : Bool × Int × PK × LK × DK → Prop
  | arg : argBad r L → DoP P r L D (false, 2, P, L, D)
  | none : ¬ argBad r L → pageBad r P.count → DoP P r L D (false, 6, P, L, D)
  | one (x : Bool × Int × PK × LK × DK) : ¬ argBad r L → ¬ pageBad r P.count → r.kind ≠ 6 → DoneP P r.page r.lsn (actTurn r.key r.old r.new) L D x → DoP P r L D x
  | bad (x : Bool × Int × PK × LK × DK) : ¬ argBad r L → ¬ pageBad r P.count → r.kind = 6 → DoneP P r.page r.lsn (actNext r.next) L D x → x.2.1 ≠ 0 → DoP P r L D (false, x.2.1, x.2.2)
  | two (x y : Bool × Int × PK × LK × DK) : ¬ argBad r L → ¬ pageBad r P.count → r.kind = 6 → DoneP P r.page r.lsn (actNext r.next) L D x → x.2.1 = 0 → DoneP x.2.2.1 r.next r.lsn actNew x.2.2.2.1 x.2.2.2.2 y → DoP P r L D ((x.1 || y.1) && decide (y.2.1 = 0), y.2.1, y.2.2)
/-- What comes of Do. -/
def DoG (U V : Nat → Prop) (d ds do_ l p K : Nat) (P : PK) (r : RecV) (L : LK) (D : DK) (m : Nat) (w : World) (e : Ending) (w' : World) : Prop :=
  ∃ x V' sv hand Q B Us, DoP P r L D x ∧ RG w' U V' d ds do_ l p (K + 20000) x.2.2.2.2 x.2.2.2.1 x.2.2.1 sv m hand Q B Us ∧ Trn (AllB U V d ds do_) w w' ∧ (∀ g, V' g → V g ∨ w.heap.size ≤ g) ∧
    e = .returned (.tuple #[.bool x.1, .int .i64 x.2.1])
/-- The record's bytes, away from the rig. -/
structure DoE (N : Nat) (w : World) (U V : Nat → Prop) (d ds do_ : Nat) (r : RecV) (ka oa na : Option Addr) (kc oc nc : Nat) : Prop where
  k : RB N w ka r.key.length kc r.key
  o : RB N w oa r.old.length oc r.old
  n : RB N w na r.new.length nc r.new
  lt : N ≤ w.heap.size
  out : ∀ a b o s, (a = ka ∨ a = oa ∨ a = na) → a = some (⟨b, o, s⟩ : Addr) → ¬ AllB U V d ds do_ b
  ls : r.lsn ≤ 9223372036854775807
/-- The record stands in its box. -/
structure BoxE (w W : World) (U V : Nat → Prop) (d ds do_ : Nat) (r : RecV) (ka oa na da pa : Option Addr) (kc oc nc dc pc : Nat) : Prop where
  blk : W.heap[w.heap.size]? = some (recObj r ka oa na da pa kc oc nc dc pc)
  below : Below w.heap.size w W
theorem BoxE.act {w W : World} {U V : Nat → Prop} {d ds do_ : Nat} {r : RecV} {ka oa na da pa : Option Addr} {kc oc nc dc pc N : Nat} (h : BoxE w W U V d ds do_ r ka oa na da pa kc oc nc dc pc) (hE : DoE N w U V d ds do_ r ka oa na kc oc nc) (hlt : ∀ g, AllB U V d ds do_ g → g < w.heap.size) :
    ∀ W', Trn (AllB U V d ds do_) W W' → W'.heap[w.heap.size]? = some (recObj r ka oa na da pa kc oc nc dc pc) ∧ RB W.heap.size W' ka r.key.length kc r.key ∧ RB W.heap.size W' oa r.old.length oc r.old ∧ RB W.heap.size W' na r.new.length nc r.new := fun W' hT => by
  have hs : N ≤ W.heap.size := Nat.le_trans hE.lt h.below.size
  have hb : ∀ a n c l, (a = ka ∨ a = oa ∨ a = na) → RB N w a n c l → RB W.heap.size W' a n c l := fun a n c l ha hr => RB.mono (RB.of_block hr fun b o s e _ hbN => (hT.block b (Nat.lt_of_lt_of_le hbN hs) (fun hA => hE.out a b o s ha e hA)).trans (h.below.block b (Nat.lt_of_lt_of_le hbN hE.lt))) hs
  exact ⟨(hT.block _ (Array.getElem?_eq_some_iff.1 h.blk).1 (fun hA => by have := hlt _ hA; omega)).trans h.blk, hb _ _ _ _ (.inl rfl) hE.k, hb _ _ _ _ (.inr (.inl rfl)) hE.o, hb _ _ _ _ (.inr (.inr rfl)) hE.n⟩
theorem DoneG.do1 {U V : Nat → Prop} {d ds do_ l p K : Nat} {P : PK} {r : RecV} {L : LK} {D : DK} {m : Nat} {w W : World} {e : Ending} {w' : World} (h : DoneG U V d ds do_ l p K P r.page r.lsn (actTurn r.key r.old r.new) L D m W e w') (hb : Below w.heap.size w W) (h1 : ¬ argBad r L) (h2 : ¬ pageBad r P.count) (h6 : r.kind ≠ 6) : DoG U V d ds do_ l p K P r L D m w e w' := by
  obtain ⟨x, V', sv, hand, Q, B, Us, g1, g2, g3, g4, g5⟩ := h
  exact ⟨x, V', sv, hand, Q, B, Us, .one x h1 h2 h6 g1, g2.mono (by omega), ((Trn.refl _ w).below hb (Nat.le_refl _)).then g3, fun g hg => by (rcases g4 g hg with h | h; exact .inl h; exact .inr (Nat.le_trans hb.size h)), g5⟩
theorem DoG.stay {w w' : World} {U V : Nat → Prop} {d ds do_ l p K : Nat} {D : DK} {L : LK} {P : PK} {sv : Value} {m hand : Nat} {Q : Nat → Nat} {B : Nat → Value} {Us : Nat → Bool} {r : RecV} (h : RG w U V d ds do_ l p K D L P sv m hand Q B Us) (hb : Below w.heap.size w w') {x : Int} (hx : DoP P r L D (false, x, P, L, D)) :
    DoG U V d ds do_ l p K P r L D m w (.returned (.tuple #[.bool false, .int .i64 x])) w' :=
  ⟨(false, x, P, L, D), V, sv, hand, Q, B, Us, hx, h.keep hb (by omega), (Trn.refl _ w).below hb (Nat.le_refl _), fun g hg => .inl hg, rfl⟩
end Go.Proofs.YtohlkkannjifmaaGreatDoor
namespace Go.Proofs.YtohlkkannjifmaaGreatDoor
open Go.RowKit Go.Shelf

set_option maxHeartbeats 8000000 in
set_option maxRecDepth 100000 in
theorem do_other (U V : Nat → Prop) (d ds do_ l p KK : Nat) (D : DK) (L : LK) (P : PK) (sv : Value) (m hand : Nat) (Q : Nat → Nat) (B : Nat → Value) (Us : Nat → Bool) (N : Nat) (ls wk pv nx : Int) (kd : Nat) (pg : Int) (ka oa na da pa : Option Addr) (kc oc nc dc pc : Nat) (K O N' : List UInt8) (DD MM : List (Int × Int)) (w : World) (h : RG w U V d ds do_ l p KK D L P sv m hand Q B Us) (_hK : KK ≤ 700000000)
    (hE : DoE N w U V d ds do_ ⟨ls, wk, pv, nx, kd, pg, K, O, N', DD, MM⟩ ka oa na kc oc nc) (h6 : kd ≠ 6) (h1 : kd ≠ 1) (h2 : kd ≠ 2) :
    Calls Tryz.prog 12 #[.pointer (some ⟨p, 0, none⟩), .agg #[.int .i64 ls, .int .i64 wk, .int .i64 pv, .int .i64 nx, .int .u8 (kd : Int), .int .i64 pg, .slice ka K.length kc, .slice oa O.length oc, .slice na N'.length nc, .slice da DD.length dc, .slice pa MM.length pc]] w (DoG U V d ds do_ l p KK P ⟨ls, wk, pv, nx, kd, pg, K, O, N', DD, MM⟩ L D m w) := by
  have e6 : ((kd : Int) == 6) = false := by simp; omega
  have n1 : ((kd : Int) != 1) = true := by simp; omega
  have n2 : ((kd : Int) != 2) = true := by simp; omega
  have HX : Hid (DoP P ⟨ls, wk, pv, nx, kd, pg, K, O, N', DD, MM⟩ L D (false, 2, P, L, D)) := Lib.hid (.arg (.inl ⟨h6, h1, h2⟩))
  clear h6 h1 h2
  go_enter Tryz.func12, Tryz.ntmps12
  go_upto_region 2 with (fail)
  have hb0 : Below w.heap.size w (w.alloc (.cells #[.int .i64 ls, .int .i64 wk, .int .i64 pv, .int .i64 nx, .int .u8 (kd : Int), .int .i64 pg, .slice ka K.length kc, .slice oa O.length oc, .slice na N'.length nc, .slice da DD.length dc, .slice pa MM.length pc] 33)) := (Below.refl _ w).alloc (Nat.le_refl _) _
  obtain ⟨w0, hw0⟩ : ∃ w0, w0 = w.alloc (.cells #[.int .i64 ls, .int .i64 wk, .int .i64 pv, .int .i64 nx, .int .u8 (kd : Int), .int .i64 pg, .slice ka K.length kc, .slice oa O.length oc, .slice na N'.length nc, .slice da DD.length dc, .slice pa MM.length pc] 33) := ⟨_, rfl⟩
  have hx0 : BoxE w w0 U V d ds do_ ⟨ls, wk, pv, nx, kd, pg, K, O, N', DD, MM⟩ ka oa na da pa kc oc nc dc pc := ⟨by rw [hw0]; exact heap_alloc_last w _, by rw [hw0]; exact hb0⟩
  rw [← hw0]
  have X0 := Lib.hid hx0
  have R0 := Lib.hid (h.keep hx0.below (Nat.le_refl KK))
  have c0 : w0.cell? ⟨w.heap.size, 0, none⟩ = some (.int .i64 ls) := cell_of_row _ _ 0 _ _ _ hx0.blk
  have c3 : w0.cell? ⟨w.heap.size, 3, none⟩ = some (.int .i64 nx) := cell_of_row _ _ 3 _ _ _ hx0.blk
  have c4 : w0.cell? ⟨w.heap.size, 4, none⟩ = some (.int .u8 (kd : Int)) := cell_of_row _ _ 4 _ _ _ hx0.blk
  have c5 : w0.cell? ⟨w.heap.size, 5, none⟩ = some (.int .i64 pg) := cell_of_row _ _ 5 _ _ _ hx0.blk
  have p5 : w0.cell? ⟨p, 5, none⟩ = some (.pointer (some ⟨l, 0, none⟩)) := cell_of_row _ _ 5 _ _ _ R0.out.pf.blk
  have p7 : w0.cell? ⟨p, 7, none⟩ = some (.int .i64 P.count) := cell_of_row _ _ 7 _ _ _ R0.out.pf.blk
  have HTh : Hid (Calls Tryz.prog 46 #[.pointer (some ⟨p, 0, none⟩)] w0 fun e w' => e = .returned (.bool true) ∧ w' = w0) := Lib.hid (pthere_any p d w0 (cell_of_row _ _ 4 _ _ _ R0.out.pf.blk))
  have HEn : Hid (∀ W, Below w0.heap.size w0 W → Calls Tryz.prog 47 #[.pointer (some ⟨l, 0, none⟩)] W fun e w' => e = .returned (.int .i64 L.end_) ∧ Below w0.heap.size w0 w') := Lib.hid fun W hW => (end_any W U l d KK L (R0.out.keep hW (Nat.le_refl _)).log).mono fun e w' hh => ⟨hh.1, by rw [hh.2]; exact hW.drew⟩
  have HHs : Hid (∀ b, (decide (0 ≤ pg) && decide (pg < P.count)) = b → ∀ W, Below w0.heap.size w0 W → Calls Tryz.prog 48 #[.pointer (some ⟨p, 0, none⟩), .int .i64 pg] W fun e w' => e = .returned (.bool b) ∧ w' = W) := Lib.hid fun b hb W hW => (phas_any p pg P.count W (cell_of_row _ _ 7 _ _ _ (R0.out.keep hW (Nat.le_refl _)).pf.blk)).mono fun e w' hh => ⟨by rw [hh.1, hb], hh.2⟩
  have H := Lib.hid h
  have HE := Lib.hid hE
  clear hw0 hx0 hb0 h hE
  have HB : Hid True := Lib.hid trivial
  have HDn : Hid True := Lib.hid trivial
  go_wp2_with (first | (go_at_call 46; refine HTh.out.mono ?_; rintro e w1 ⟨rfl, hw1⟩; subst hw1) | (go_at_call 47; refine (HEn.out _ (by first | exact Below.refl _ _ | exact (Below.refl _ _).drew)).mono ?_; rintro e w2 ⟨rfl, hb2⟩; have B2 := Lib.hid hb2; have c0x : w2.cell? ⟨w.heap.size, 0, none⟩ = some (.int .i64 ls) := (hb2.cell (lt_of_cell c0)).trans c0; have c3x : w2.cell? ⟨w.heap.size, 3, none⟩ = some (.int .i64 nx) := (hb2.cell (lt_of_cell c3)).trans c3; have c5x : w2.cell? ⟨w.heap.size, 5, none⟩ = some (.int .i64 pg) := (hb2.cell (lt_of_cell c5)).trans c5; have p5x : w2.cell? ⟨p, 5, none⟩ = some (.pointer (some ⟨l, 0, none⟩)) := (hb2.cell (lt_of_cell p5)).trans p5; have p7x : w2.cell? ⟨p, 7, none⟩ = some (.int .i64 P.count) := (hb2.cell (lt_of_cell p7)).trans p7; clear hb2) | (go_at_call 48; refine (HHs.out _ HB.out _ (by first | exact B2.out | exact B2.out.drew)).mono ?_; rintro e w1 ⟨rfl, hw1⟩; subst hw1) | (go_at_call 49; refine (HDn.out _ (by first | exact B2.out | exact B2.out.drew | exact below_dn B2.out _)).mono ?_; rintro e w3 hd; obtain ⟨x, V3, sv3, hand3, Q3, B3, Us3, g1, g2, g3, g4, rfl⟩ := hd; have G1 := Lib.hid g1; have G2 := Lib.hid g2; have G3 := Lib.hid g3; have G4 := Lib.hid g4; clear g1 g2 g3 g4))
  go_ret2
  exact DoG.stay H.out X0.out.below HX.out
end Go.Proofs.YtohlkkannjifmaaGreatDoor
