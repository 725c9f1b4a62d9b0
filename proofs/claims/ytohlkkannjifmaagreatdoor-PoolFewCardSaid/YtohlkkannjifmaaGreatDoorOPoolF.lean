/- The pool: Do, at kind 6. (Printed by gen/odo.py.) -/
import Derived.Test.YtohlkkannjifmaaGreatDoorOPoolD
namespace Go.Proofs.YtohlkkannjifmaaGreatDoor
open Go.RowKit Go.Shelf
theorem do_e1 {ok2 : Bool} {e2 : Int} : Ending.returned (.tuple #[.bool (e2 == 0), .int .i64 e2]) = .returned (.tuple #[.bool ((true || ok2) && decide (e2 = 0)), .int .i64 e2]) := rfl
theorem do_e2 {ok2 : Bool} {e2 : Int} (h : ok2 = true) : Ending.returned (.tuple #[.bool (e2 == 0), .int .i64 e2]) = .returned (.tuple #[.bool ((false || ok2) && decide (e2 = 0)), .int .i64 e2]) := by subst h; rfl
theorem do_e3 {ok2 : Bool} {e2 : Int} (h : ¬ ok2 = true) : Ending.returned (.tuple #[.bool false, .int .i64 e2]) = .returned (.tuple #[.bool ((false || ok2) && decide (e2 = 0)), .int .i64 e2]) := by rw [Bool.not_eq_true] at h; subst h; rfl
theorem PK.come_count (P : PK) (n : Int) (was : Option Nat) (L : LK) (D : DK) : (P.come n was L D).2.2.1.count = P.count := by
  unfold PK.come
  split
  · rfl
  · split <;> rfl
theorem PK.write_count (P : PK) (i : Nat) (f : FrV) (L : LK) (D : DK) : (P.write i f L D).2.1.count = P.count := by
  unfold PK.write
  split
  · rfl
  · split <;> rfl
theorem FrameP.count {P : PK} {n : Int} {L : LK} {D : DK} {x : Int × Nat × PK × LK × DK} (h : FrameP P n L D x) : x.2.2.1.count = P.count := by
  cases h with
  | here => rfl
  | more => exact P.come_count n _ L D
  | out j f x h1 h2 h3 h4 =>
    cases h4 with
    | clean => exact P.come_count n _ L D
    | bad => exact P.write_count j f L D
    | good => exact (PK.come_count _ n _ _ _).trans (P.write_count j f L D)
theorem DoneP.count {P : PK} {n lsn : Int} {act : List UInt8 → Int × List UInt8} {L : LK} {D : DK} {x : Bool × Int × PK × LK × DK} (h : DoneP P n lsn act L D x) : x.2.2.1.count = P.count := by
  cases h with
  | bad e i s hf => exact hf.count
  | was i s f hf => exact hf.count
  | not i s f hf => exact hf.count
  | did i s f hf => exact hf.count
set_option maxHeartbeats 8000000 in
set_option maxRecDepth 100000 in
theorem do_k6 (U V : Nat → Prop) (d ds do_ l p KK : Nat) (D : DK) (L : LK) (P : PK) (sv : Value) (m hand : Nat) (Q : Nat → Nat) (B : Nat → Value) (Us : Nat → Bool) (N : Nat) (ls wk pv nx : Int) (kd : Nat) (pg : Int) (ka oa na da pa : Option Addr) (kc oc nc dc pc : Nat) (K O N' : List UInt8) (DD MM : List (Int × Int)) (w : World) (h : RG w U V d ds do_ l p KK D L P sv m hand Q B Us) (hK : KK ≤ 700000000)
    (hE : DoE N w U V d ds do_ ⟨ls, wk, pv, nx, kd, pg, K, O, N', DD, MM⟩ ka oa na kc oc nc) (hkd : kd = 6) :
    Calls Tryz.prog 12 #[.pointer (some ⟨p, 0, none⟩), .agg #[.int .i64 ls, .int .i64 wk, .int .i64 pv, .int .i64 nx, .int .u8 (kd : Int), .int .i64 pg, .slice ka K.length kc, .slice oa O.length oc, .slice na N'.length nc, .slice da DD.length dc, .slice pa MM.length pc]] w (DoG U V d ds do_ l p KK P ⟨ls, wk, pv, nx, kd, pg, K, O, N', DD, MM⟩ L D m w) := by
  have HK6 : Hid (kd = 6) := Lib.hid hkd
  have e6 : ((kd : Int) == 6) = true := by simp; omega
  clear hkd
  go_enter Tryz.func12, Tryz.ntmps12
  go_upto_region 2 with (fail)
  have hb0 : Below w.heap.size w (w.alloc (.cells #[.int .i64 ls, .int .i64 wk, .int .i64 pv, .int .i64 nx, .int .u8 (kd : Int), .int .i64 pg, .slice ka K.length kc, .slice oa O.length oc, .slice na N'.length nc, .slice da DD.length dc, .slice pa MM.length pc] 33)) := (Below.refl _ w).alloc (Nat.le_refl _) _
  obtain ⟨w0, hw0⟩ : ∃ w0, w0 = w.alloc (.cells #[.int .i64 ls, .int .i64 wk, .int .i64 pv, .int .i64 nx, .int .u8 (kd : Int), .int .i64 pg, .slice ka K.length kc, .slice oa O.length oc, .slice na N'.length nc, .slice da DD.length dc, .slice pa MM.length pc] 33) := ⟨_, rfl⟩
  have hx0 : BoxE w w0 U V d ds do_ ⟨ls, wk, pv, nx, kd, pg, K, O, N', DD, MM⟩ ka oa na da pa kc oc nc dc pc := ⟨by rw [hw0]; exact heap_alloc_last w _, by rw [hw0]; exact hb0⟩
  rw [← hw0]
  have X0 := Lib.hid hx0
  have R0 := Lib.hid (h.keep hx0.below (Nat.le_refl KK))
  have c0 : w0.cell? ⟨w.heap.size, 0, none⟩ = some (.int .i64 ls) := cell_of_row _ _ 0 _ _ _ hx0.blk
  have c3 : w0.cell? ⟨w.heap.size, 3, none⟩ = some (.int .i64 nx) := cell_of_row _ _ 3 _ _ _ hx0.blk
  have c4 : w0.cell? ⟨w.heap.size, 4, none⟩ = some (.int .u8 (kd : Int)) := cell_of_row _ _ 4 _ _ _ hx0.blk
  have c5 : w0.cell? ⟨w.heap.size, 5, none⟩ = some (.int .i64 pg) := cell_of_row _ _ 5 _ _ _ hx0.blk
  have p5 : w0.cell? ⟨p, 5, none⟩ = some (.pointer (some ⟨l, 0, none⟩)) := cell_of_row _ _ 5 _ _ _ R0.out.pf.blk
  have p7 : w0.cell? ⟨p, 7, none⟩ = some (.int .i64 P.count) := cell_of_row _ _ 7 _ _ _ R0.out.pf.blk
  have HTh : Hid (Calls Tryz.prog 46 #[.pointer (some ⟨p, 0, none⟩)] w0 fun e w' => e = .returned (.bool true) ∧ w' = w0) := Lib.hid (pthere_any p d w0 (cell_of_row _ _ 4 _ _ _ R0.out.pf.blk))
  have HEn : Hid (∀ W, Below w0.heap.size w0 W → Calls Tryz.prog 47 #[.pointer (some ⟨l, 0, none⟩)] W fun e w' => e = .returned (.int .i64 L.end_) ∧ Below w0.heap.size w0 w') := Lib.hid fun W hW => (end_any W U l d KK L (R0.out.keep hW (Nat.le_refl _)).log).mono fun e w' hh => ⟨hh.1, by rw [hh.2]; exact hW.drew⟩
  have HHs : Hid (∀ b, (decide (0 ≤ pg) && decide (pg < P.count)) = b → ∀ W, Below w0.heap.size w0 W → Calls Tryz.prog 48 #[.pointer (some ⟨p, 0, none⟩), .int .i64 pg] W fun e w' => e = .returned (.bool b) ∧ w' = W) := Lib.hid fun b hb W hW => (phas_any p pg P.count W (cell_of_row _ _ 7 _ _ _ (R0.out.keep hW (Nat.le_refl _)).pf.blk)).mono fun e w' hh => ⟨by rw [hh.1, hb], hh.2⟩
  have H := Lib.hid h
  have HE := Lib.hid hE
  clear hw0 hx0 hb0 h hE
  by_cases hl1 : ls < 1
  · have e1 : decide (ls < 1) = true := decide_eq_true hl1
    have HX : Hid (DoP P ⟨ls, wk, pv, nx, kd, pg, K, O, N', DD, MM⟩ L D (false, 2, P, L, D)) := Lib.hid (.arg (.inr (.inl hl1)))
    clear hl1
    go_wp2_with (first | (go_at_call 46; refine HTh.out.mono ?_; rintro e w1 ⟨rfl, hw1⟩; subst hw1) | (go_at_call 47; refine (HEn.out _ (by first | exact Below.refl _ _ | exact (Below.refl _ _).drew)).mono ?_; rintro e w2 ⟨rfl, hb2⟩; have B2 := Lib.hid hb2; have c0x : w2.cell? ⟨w.heap.size, 0, none⟩ = some (.int .i64 ls) := (hb2.cell (lt_of_cell c0)).trans c0; have c3x : w2.cell? ⟨w.heap.size, 3, none⟩ = some (.int .i64 nx) := (hb2.cell (lt_of_cell c3)).trans c3; have c5x : w2.cell? ⟨w.heap.size, 5, none⟩ = some (.int .i64 pg) := (hb2.cell (lt_of_cell c5)).trans c5; have p5x : w2.cell? ⟨p, 5, none⟩ = some (.pointer (some ⟨l, 0, none⟩)) := (hb2.cell (lt_of_cell p5)).trans p5; have p7x : w2.cell? ⟨p, 7, none⟩ = some (.int .i64 P.count) := (hb2.cell (lt_of_cell p7)).trans p7; clear hb2) | (go_at_call 48; refine (HHs.out _ HB.out _ (by first | exact B2.out | exact B2.out.drew)).mono ?_; rintro e w1 ⟨rfl, hw1⟩; subst hw1))
    go_ret2
    exact DoG.stay H.out X0.out.below HX.out
  have e1 : decide (ls < 1) = false := decide_eq_false hl1
  by_cases hl2 : L.end_ ≤ ls
  · have e2 : decide (ls ≥ L.end_) = true := decide_eq_true hl2
    have HX : Hid (DoP P ⟨ls, wk, pv, nx, kd, pg, K, O, N', DD, MM⟩ L D (false, 2, P, L, D)) := Lib.hid (.arg (.inr (.inr hl2)))
    clear hl1 hl2
    generalize hle : L.end_ = le at HEn e2
    have HLE := Lib.hid hle
    clear hle
    go_upto_region 6 with (first | (go_at_call 46; refine HTh.out.mono ?_; rintro e w1 ⟨rfl, hw1⟩; subst hw1) | (go_at_call 47; refine (HEn.out _ (by first | exact Below.refl _ _ | exact (Below.refl _ _).drew)).mono ?_; rintro e w2 ⟨rfl, hb2⟩; have B2 := Lib.hid hb2; have c0x : w2.cell? ⟨w.heap.size, 0, none⟩ = some (.int .i64 ls) := (hb2.cell (lt_of_cell c0)).trans c0; have c3x : w2.cell? ⟨w.heap.size, 3, none⟩ = some (.int .i64 nx) := (hb2.cell (lt_of_cell c3)).trans c3; have c5x : w2.cell? ⟨w.heap.size, 5, none⟩ = some (.int .i64 pg) := (hb2.cell (lt_of_cell c5)).trans c5; have p5x : w2.cell? ⟨p, 5, none⟩ = some (.pointer (some ⟨l, 0, none⟩)) := (hb2.cell (lt_of_cell p5)).trans p5; have p7x : w2.cell? ⟨p, 7, none⟩ = some (.int .i64 P.count) := (hb2.cell (lt_of_cell p7)).trans p7; clear hb2) | (go_at_call 48; refine (HHs.out _ HB.out _ (by first | exact B2.out | exact B2.out.drew)).mono ?_; rintro e w1 ⟨rfl, hw1⟩; subst hw1))
    go_region_held3 (fun w' => w'.cell? ⟨w.heap.size, 0, none⟩ = some (.int .i64 ls) ∧ w'.cell? ⟨p, 5, none⟩ = some (.pointer (some ⟨l, 0, none⟩))) (first | go_keep | exact ⟨by assumption, by assumption⟩) (first | (go_at_call 46; refine HTh.out.mono ?_; rintro e w1 ⟨rfl, hw1⟩; subst hw1) | (go_at_call 47; refine (HEn.out _ (by first | exact Below.refl _ _ | exact (Below.refl _ _).drew)).mono ?_; rintro e w2 ⟨rfl, hb2⟩; have B2 := Lib.hid hb2; have c0x : w2.cell? ⟨w.heap.size, 0, none⟩ = some (.int .i64 ls) := (hb2.cell (lt_of_cell c0)).trans c0; have c3x : w2.cell? ⟨w.heap.size, 3, none⟩ = some (.int .i64 nx) := (hb2.cell (lt_of_cell c3)).trans c3; have c5x : w2.cell? ⟨w.heap.size, 5, none⟩ = some (.int .i64 pg) := (hb2.cell (lt_of_cell c5)).trans c5; have p5x : w2.cell? ⟨p, 5, none⟩ = some (.pointer (some ⟨l, 0, none⟩)) := (hb2.cell (lt_of_cell p5)).trans p5; have p7x : w2.cell? ⟨p, 7, none⟩ = some (.int .i64 P.count) := (hb2.cell (lt_of_cell p7)).trans p7; clear hb2) | (go_at_call 48; refine (HHs.out _ HB.out _ (by first | exact B2.out | exact B2.out.drew)).mono ?_; rintro e w1 ⟨rfl, hw1⟩; subst hw1))
    go_wp2_with (first | (go_at_call 46; refine HTh.out.mono ?_; rintro e w1 ⟨rfl, hw1⟩; subst hw1) | (go_at_call 47; refine (HEn.out _ (by first | exact Below.refl _ _ | exact (Below.refl _ _).drew)).mono ?_; rintro e w2 ⟨rfl, hb2⟩; have B2 := Lib.hid hb2; have c0x : w2.cell? ⟨w.heap.size, 0, none⟩ = some (.int .i64 ls) := (hb2.cell (lt_of_cell c0)).trans c0; have c3x : w2.cell? ⟨w.heap.size, 3, none⟩ = some (.int .i64 nx) := (hb2.cell (lt_of_cell c3)).trans c3; have c5x : w2.cell? ⟨w.heap.size, 5, none⟩ = some (.int .i64 pg) := (hb2.cell (lt_of_cell c5)).trans c5; have p5x : w2.cell? ⟨p, 5, none⟩ = some (.pointer (some ⟨l, 0, none⟩)) := (hb2.cell (lt_of_cell p5)).trans p5; have p7x : w2.cell? ⟨p, 7, none⟩ = some (.int .i64 P.count) := (hb2.cell (lt_of_cell p7)).trans p7; clear hb2) | (go_at_call 48; refine (HHs.out _ HB.out _ (by first | exact B2.out | exact B2.out.drew)).mono ?_; rintro e w1 ⟨rfl, hw1⟩; subst hw1))
    go_ret2
    exact DoG.stay H.out (X0.out.below.trans (B2.out.mono X0.out.below.size)) HX.out
  have e2 : decide (ls ≥ L.end_) = false := decide_eq_false hl2
  have HA : Hid (¬ argBad ⟨ls, wk, pv, nx, kd, pg, K, O, N', DD, MM⟩ L) := Lib.hid (by
    rintro (h | h | h)
    · exact h.1 HK6.out
    · exact hl1 h
    · exact hl2 h)
  have HLs : Hid (0 ≤ ls) := Lib.hid (by omega)
  clear hl1 hl2
  generalize hle : L.end_ = le at HEn e2
  have HLE := Lib.hid hle
  clear hle
  by_cases hp : 0 ≤ pg ∧ pg < P.count
  · have HB : Hid ((decide (0 ≤ pg) && decide (pg < P.count)) = true) := Lib.hid (by rw [decide_eq_true hp.1, decide_eq_true hp.2]; rfl)
    have HPp := Lib.hid hp
    clear hp
    by_cases hn0 : nx < 0
    · have e7 : decide (nx < 0) = true := decide_eq_true hn0
      have HX : Hid (DoP P ⟨ls, wk, pv, nx, kd, pg, K, O, N', DD, MM⟩ L D (false, 6, P, L, D)) := Lib.hid (.none HA.out (.inr ⟨HK6.out, fun h => by have : 0 ≤ nx := h.1; omega⟩))
      clear hn0
      go_upto_region 6 with (first | (go_at_call 46; refine HTh.out.mono ?_; rintro e w1 ⟨rfl, hw1⟩; subst hw1) | (go_at_call 47; refine (HEn.out _ (by first | exact Below.refl _ _ | exact (Below.refl _ _).drew)).mono ?_; rintro e w2 ⟨rfl, hb2⟩; have B2 := Lib.hid hb2; have c0x : w2.cell? ⟨w.heap.size, 0, none⟩ = some (.int .i64 ls) := (hb2.cell (lt_of_cell c0)).trans c0; have c3x : w2.cell? ⟨w.heap.size, 3, none⟩ = some (.int .i64 nx) := (hb2.cell (lt_of_cell c3)).trans c3; have c5x : w2.cell? ⟨w.heap.size, 5, none⟩ = some (.int .i64 pg) := (hb2.cell (lt_of_cell c5)).trans c5; have p5x : w2.cell? ⟨p, 5, none⟩ = some (.pointer (some ⟨l, 0, none⟩)) := (hb2.cell (lt_of_cell p5)).trans p5; have p7x : w2.cell? ⟨p, 7, none⟩ = some (.int .i64 P.count) := (hb2.cell (lt_of_cell p7)).trans p7; clear hb2) | (go_at_call 48; refine (HHs.out _ HB.out _ (by first | exact B2.out | exact B2.out.drew)).mono ?_; rintro e w1 ⟨rfl, hw1⟩; subst hw1))
      go_region_held3 (fun w' => w'.cell? ⟨w.heap.size, 0, none⟩ = some (.int .i64 ls) ∧ w'.cell? ⟨p, 5, none⟩ = some (.pointer (some ⟨l, 0, none⟩))) (first | go_keep | exact ⟨by assumption, by assumption⟩) (first | (go_at_call 46; refine HTh.out.mono ?_; rintro e w1 ⟨rfl, hw1⟩; subst hw1) | (go_at_call 47; refine (HEn.out _ (by first | exact Below.refl _ _ | exact (Below.refl _ _).drew)).mono ?_; rintro e w2 ⟨rfl, hb2⟩; have B2 := Lib.hid hb2; have c0x : w2.cell? ⟨w.heap.size, 0, none⟩ = some (.int .i64 ls) := (hb2.cell (lt_of_cell c0)).trans c0; have c3x : w2.cell? ⟨w.heap.size, 3, none⟩ = some (.int .i64 nx) := (hb2.cell (lt_of_cell c3)).trans c3; have c5x : w2.cell? ⟨w.heap.size, 5, none⟩ = some (.int .i64 pg) := (hb2.cell (lt_of_cell c5)).trans c5; have p5x : w2.cell? ⟨p, 5, none⟩ = some (.pointer (some ⟨l, 0, none⟩)) := (hb2.cell (lt_of_cell p5)).trans p5; have p7x : w2.cell? ⟨p, 7, none⟩ = some (.int .i64 P.count) := (hb2.cell (lt_of_cell p7)).trans p7; clear hb2) | (go_at_call 48; refine (HHs.out _ HB.out _ (by first | exact B2.out | exact B2.out.drew)).mono ?_; rintro e w1 ⟨rfl, hw1⟩; subst hw1))
      go_wp2_with (first | (go_at_call 46; refine HTh.out.mono ?_; rintro e w1 ⟨rfl, hw1⟩; subst hw1) | (go_at_call 47; refine (HEn.out _ (by first | exact Below.refl _ _ | exact (Below.refl _ _).drew)).mono ?_; rintro e w2 ⟨rfl, hb2⟩; have B2 := Lib.hid hb2; have c0x : w2.cell? ⟨w.heap.size, 0, none⟩ = some (.int .i64 ls) := (hb2.cell (lt_of_cell c0)).trans c0; have c3x : w2.cell? ⟨w.heap.size, 3, none⟩ = some (.int .i64 nx) := (hb2.cell (lt_of_cell c3)).trans c3; have c5x : w2.cell? ⟨w.heap.size, 5, none⟩ = some (.int .i64 pg) := (hb2.cell (lt_of_cell c5)).trans c5; have p5x : w2.cell? ⟨p, 5, none⟩ = some (.pointer (some ⟨l, 0, none⟩)) := (hb2.cell (lt_of_cell p5)).trans p5; have p7x : w2.cell? ⟨p, 7, none⟩ = some (.int .i64 P.count) := (hb2.cell (lt_of_cell p7)).trans p7; clear hb2) | (go_at_call 48; refine (HHs.out _ HB.out _ (by first | exact B2.out | exact B2.out.drew)).mono ?_; rintro e w1 ⟨rfl, hw1⟩; subst hw1))
      go_quiet (fail)
      go_wp2_with (first | (go_at_call 46; refine HTh.out.mono ?_; rintro e w1 ⟨rfl, hw1⟩; subst hw1) | (go_at_call 47; refine (HEn.out _ (by first | exact Below.refl _ _ | exact (Below.refl _ _).drew)).mono ?_; rintro e w2 ⟨rfl, hb2⟩; have B2 := Lib.hid hb2; have c0x : w2.cell? ⟨w.heap.size, 0, none⟩ = some (.int .i64 ls) := (hb2.cell (lt_of_cell c0)).trans c0; have c3x : w2.cell? ⟨w.heap.size, 3, none⟩ = some (.int .i64 nx) := (hb2.cell (lt_of_cell c3)).trans c3; have c5x : w2.cell? ⟨w.heap.size, 5, none⟩ = some (.int .i64 pg) := (hb2.cell (lt_of_cell c5)).trans c5; have p5x : w2.cell? ⟨p, 5, none⟩ = some (.pointer (some ⟨l, 0, none⟩)) := (hb2.cell (lt_of_cell p5)).trans p5; have p7x : w2.cell? ⟨p, 7, none⟩ = some (.int .i64 P.count) := (hb2.cell (lt_of_cell p7)).trans p7; clear hb2) | (go_at_call 48; refine (HHs.out _ HB.out _ (by first | exact B2.out | exact B2.out.drew)).mono ?_; rintro e w1 ⟨rfl, hw1⟩; subst hw1))
      go_ret2
      exact DoG.stay H.out (X0.out.below.trans (below_dn (B2.out.mono X0.out.below.size) _)) HX.out
    have e7 : decide (nx < 0) = false := decide_eq_false hn0
    by_cases hn1 : P.count ≤ nx
    · have e8 : decide (nx ≥ P.count) = true := decide_eq_true hn1
      have HX : Hid (DoP P ⟨ls, wk, pv, nx, kd, pg, K, O, N', DD, MM⟩ L D (false, 6, P, L, D)) := Lib.hid (.none HA.out (.inr ⟨HK6.out, fun h => by have : nx < P.count := h.2; omega⟩))
      clear hn0 hn1
      go_upto_region 6 with (first | (go_at_call 46; refine HTh.out.mono ?_; rintro e w1 ⟨rfl, hw1⟩; subst hw1) | (go_at_call 47; refine (HEn.out _ (by first | exact Below.refl _ _ | exact (Below.refl _ _).drew)).mono ?_; rintro e w2 ⟨rfl, hb2⟩; have B2 := Lib.hid hb2; have c0x : w2.cell? ⟨w.heap.size, 0, none⟩ = some (.int .i64 ls) := (hb2.cell (lt_of_cell c0)).trans c0; have c3x : w2.cell? ⟨w.heap.size, 3, none⟩ = some (.int .i64 nx) := (hb2.cell (lt_of_cell c3)).trans c3; have c5x : w2.cell? ⟨w.heap.size, 5, none⟩ = some (.int .i64 pg) := (hb2.cell (lt_of_cell c5)).trans c5; have p5x : w2.cell? ⟨p, 5, none⟩ = some (.pointer (some ⟨l, 0, none⟩)) := (hb2.cell (lt_of_cell p5)).trans p5; have p7x : w2.cell? ⟨p, 7, none⟩ = some (.int .i64 P.count) := (hb2.cell (lt_of_cell p7)).trans p7; clear hb2) | (go_at_call 48; refine (HHs.out _ HB.out _ (by first | exact B2.out | exact B2.out.drew)).mono ?_; rintro e w1 ⟨rfl, hw1⟩; subst hw1))
      go_region_held3 (fun w' => w'.cell? ⟨w.heap.size, 0, none⟩ = some (.int .i64 ls) ∧ w'.cell? ⟨p, 5, none⟩ = some (.pointer (some ⟨l, 0, none⟩))) (first | go_keep | exact ⟨by assumption, by assumption⟩) (first | (go_at_call 46; refine HTh.out.mono ?_; rintro e w1 ⟨rfl, hw1⟩; subst hw1) | (go_at_call 47; refine (HEn.out _ (by first | exact Below.refl _ _ | exact (Below.refl _ _).drew)).mono ?_; rintro e w2 ⟨rfl, hb2⟩; have B2 := Lib.hid hb2; have c0x : w2.cell? ⟨w.heap.size, 0, none⟩ = some (.int .i64 ls) := (hb2.cell (lt_of_cell c0)).trans c0; have c3x : w2.cell? ⟨w.heap.size, 3, none⟩ = some (.int .i64 nx) := (hb2.cell (lt_of_cell c3)).trans c3; have c5x : w2.cell? ⟨w.heap.size, 5, none⟩ = some (.int .i64 pg) := (hb2.cell (lt_of_cell c5)).trans c5; have p5x : w2.cell? ⟨p, 5, none⟩ = some (.pointer (some ⟨l, 0, none⟩)) := (hb2.cell (lt_of_cell p5)).trans p5; have p7x : w2.cell? ⟨p, 7, none⟩ = some (.int .i64 P.count) := (hb2.cell (lt_of_cell p7)).trans p7; clear hb2) | (go_at_call 48; refine (HHs.out _ HB.out _ (by first | exact B2.out | exact B2.out.drew)).mono ?_; rintro e w1 ⟨rfl, hw1⟩; subst hw1))
      go_wp2_with (first | (go_at_call 46; refine HTh.out.mono ?_; rintro e w1 ⟨rfl, hw1⟩; subst hw1) | (go_at_call 47; refine (HEn.out _ (by first | exact Below.refl _ _ | exact (Below.refl _ _).drew)).mono ?_; rintro e w2 ⟨rfl, hb2⟩; have B2 := Lib.hid hb2; have c0x : w2.cell? ⟨w.heap.size, 0, none⟩ = some (.int .i64 ls) := (hb2.cell (lt_of_cell c0)).trans c0; have c3x : w2.cell? ⟨w.heap.size, 3, none⟩ = some (.int .i64 nx) := (hb2.cell (lt_of_cell c3)).trans c3; have c5x : w2.cell? ⟨w.heap.size, 5, none⟩ = some (.int .i64 pg) := (hb2.cell (lt_of_cell c5)).trans c5; have p5x : w2.cell? ⟨p, 5, none⟩ = some (.pointer (some ⟨l, 0, none⟩)) := (hb2.cell (lt_of_cell p5)).trans p5; have p7x : w2.cell? ⟨p, 7, none⟩ = some (.int .i64 P.count) := (hb2.cell (lt_of_cell p7)).trans p7; clear hb2) | (go_at_call 48; refine (HHs.out _ HB.out _ (by first | exact B2.out | exact B2.out.drew)).mono ?_; rintro e w1 ⟨rfl, hw1⟩; subst hw1))
      go_quiet (fail)
      go_wp2_with (first | (go_at_call 46; refine HTh.out.mono ?_; rintro e w1 ⟨rfl, hw1⟩; subst hw1) | (go_at_call 47; refine (HEn.out _ (by first | exact Below.refl _ _ | exact (Below.refl _ _).drew)).mono ?_; rintro e w2 ⟨rfl, hb2⟩; have B2 := Lib.hid hb2; have c0x : w2.cell? ⟨w.heap.size, 0, none⟩ = some (.int .i64 ls) := (hb2.cell (lt_of_cell c0)).trans c0; have c3x : w2.cell? ⟨w.heap.size, 3, none⟩ = some (.int .i64 nx) := (hb2.cell (lt_of_cell c3)).trans c3; have c5x : w2.cell? ⟨w.heap.size, 5, none⟩ = some (.int .i64 pg) := (hb2.cell (lt_of_cell c5)).trans c5; have p5x : w2.cell? ⟨p, 5, none⟩ = some (.pointer (some ⟨l, 0, none⟩)) := (hb2.cell (lt_of_cell p5)).trans p5; have p7x : w2.cell? ⟨p, 7, none⟩ = some (.int .i64 P.count) := (hb2.cell (lt_of_cell p7)).trans p7; clear hb2) | (go_at_call 48; refine (HHs.out _ HB.out _ (by first | exact B2.out | exact B2.out.drew)).mono ?_; rintro e w1 ⟨rfl, hw1⟩; subst hw1))
      go_ret2
      exact DoG.stay H.out (X0.out.below.trans (below_dn (B2.out.mono X0.out.below.size) _)) HX.out
    have e8 : decide (nx ≥ P.count) = false := decide_eq_false hn1
    have HN : Hid (0 ≤ nx ∧ nx < P.count) := Lib.hid ⟨by omega, by omega⟩
    clear hn0 hn1
    have HP : Hid (¬ pageBad ⟨ls, wk, pv, nx, kd, pg, K, O, N', DD, MM⟩ P.count) := Lib.hid (by
      rintro (h | h)
      · exact h HPp.out
      · exact h.2 HN.out)
    have HX1 : Hid (∀ W, Below w0.heap.size w0 W → BoxE w W U V d ds do_ ⟨ls, wk, pv, nx, kd, pg, K, O, N', DD, MM⟩ ka oa na da pa kc oc nc dc pc) := Lib.hid fun W hW => ⟨(hW.block _ (lt_of_cell c0)).trans X0.out.blk, X0.out.below.trans (hW.mono X0.out.below.size)⟩
    have HDn : Hid (∀ W, Below w0.heap.size w0 W → Calls Tryz.prog 49 #[.pointer (some ⟨p, 0, none⟩), .int .i64 pg, .int .i64 ls, .func (.func 51) #[] #[.pointer (some ⟨w.heap.size, 0, none⟩)]] W fun e w3 => ∃ ok1 e1 P1 L1 D1 V1 sv1 hand1 Q1 B1 Us1, e = .returned (.tuple #[.bool ok1, .int .i64 e1]) ∧ DoneP P pg ls (actNext nx) L D (ok1, e1, P1, L1, D1) ∧ RG w3 U V1 d ds do_ l p (KK + 10000) D1 L1 P1 sv1 m hand1 Q1 B1 Us1 ∧ Trn (AllB U V d ds do_) w w3 ∧ (∀ g, V1 g → V g ∨ w.heap.size ≤ g) ∧ w3.heap[w.heap.size]? = some (recObj ⟨ls, wk, pv, nx, kd, pg, K, O, N', DD, MM⟩ ka oa na da pa kc oc nc dc pc)) := Lib.hid fun W hW =>
      (done2_any U V d ds do_ l p KK D L P sv m hand Q B Us pg ls w.heap.size (actNext nx) W (R0.out.keep hW (Nat.le_refl _)) HPp.out (by omega) ⟨HLs.out, HE.out.ls⟩
      (act2 _ _ ⟨ls, wk, pv, nx, kd, pg, K, O, N', DD, MM⟩ ka oa na da pa kc oc nc dc pc _ fun W' hW' => ((HX1.out W hW).act HE.out (fun g hg => H.out.lt hg) W' hW').1)).mono fun e w3 hh => by
        obtain ⟨⟨ok1, e1, P1, L1, D1⟩, V1, sv1, hand1, Q1, B1, Us1, g1, g2, g3, g4, rfl⟩ := hh
        have hbw := (HX1.out W hW).below
        exact ⟨ok1, e1, P1, L1, D1, V1, sv1, hand1, Q1, B1, Us1, rfl, g1, g2, ((Trn.refl _ w).below hbw (Nat.le_refl _)).then g3, fun g hg => by (rcases g4 g hg with h | h; exact .inl h; exact .inr (Nat.le_trans hbw.size h)), ((HX1.out W hW).act HE.out (fun g hg => H.out.lt hg) w3 g3).1⟩
    go_upto_region 6 with (first | (go_at_call 46; refine HTh.out.mono ?_; rintro e w1 ⟨rfl, hw1⟩; subst hw1) | (go_at_call 47; refine (HEn.out _ (by first | exact Below.refl _ _ | exact (Below.refl _ _).drew)).mono ?_; rintro e w2 ⟨rfl, hb2⟩; have B2 := Lib.hid hb2; have c0x : w2.cell? ⟨w.heap.size, 0, none⟩ = some (.int .i64 ls) := (hb2.cell (lt_of_cell c0)).trans c0; have c3x : w2.cell? ⟨w.heap.size, 3, none⟩ = some (.int .i64 nx) := (hb2.cell (lt_of_cell c3)).trans c3; have c5x : w2.cell? ⟨w.heap.size, 5, none⟩ = some (.int .i64 pg) := (hb2.cell (lt_of_cell c5)).trans c5; have p5x : w2.cell? ⟨p, 5, none⟩ = some (.pointer (some ⟨l, 0, none⟩)) := (hb2.cell (lt_of_cell p5)).trans p5; have p7x : w2.cell? ⟨p, 7, none⟩ = some (.int .i64 P.count) := (hb2.cell (lt_of_cell p7)).trans p7; clear hb2) | (go_at_call 48; refine (HHs.out _ HB.out _ (by first | exact B2.out | exact B2.out.drew)).mono ?_; rintro e w1 ⟨rfl, hw1⟩; subst hw1))
    go_region_held3 (fun w' => w'.cell? ⟨w.heap.size, 0, none⟩ = some (.int .i64 ls) ∧ w'.cell? ⟨p, 5, none⟩ = some (.pointer (some ⟨l, 0, none⟩))) (first | go_keep | exact ⟨by assumption, by assumption⟩) (first | (go_at_call 46; refine HTh.out.mono ?_; rintro e w1 ⟨rfl, hw1⟩; subst hw1) | (go_at_call 47; refine (HEn.out _ (by first | exact Below.refl _ _ | exact (Below.refl _ _).drew)).mono ?_; rintro e w2 ⟨rfl, hb2⟩; have B2 := Lib.hid hb2; have c0x : w2.cell? ⟨w.heap.size, 0, none⟩ = some (.int .i64 ls) := (hb2.cell (lt_of_cell c0)).trans c0; have c3x : w2.cell? ⟨w.heap.size, 3, none⟩ = some (.int .i64 nx) := (hb2.cell (lt_of_cell c3)).trans c3; have c5x : w2.cell? ⟨w.heap.size, 5, none⟩ = some (.int .i64 pg) := (hb2.cell (lt_of_cell c5)).trans c5; have p5x : w2.cell? ⟨p, 5, none⟩ = some (.pointer (some ⟨l, 0, none⟩)) := (hb2.cell (lt_of_cell p5)).trans p5; have p7x : w2.cell? ⟨p, 7, none⟩ = some (.int .i64 P.count) := (hb2.cell (lt_of_cell p7)).trans p7; clear hb2) | (go_at_call 48; refine (HHs.out _ HB.out _ (by first | exact B2.out | exact B2.out.drew)).mono ?_; rintro e w1 ⟨rfl, hw1⟩; subst hw1))
    go_wp2_with (first | (go_at_call 46; refine HTh.out.mono ?_; rintro e w1 ⟨rfl, hw1⟩; subst hw1) | (go_at_call 47; refine (HEn.out _ (by first | exact Below.refl _ _ | exact (Below.refl _ _).drew)).mono ?_; rintro e w2 ⟨rfl, hb2⟩; have B2 := Lib.hid hb2; have c0x : w2.cell? ⟨w.heap.size, 0, none⟩ = some (.int .i64 ls) := (hb2.cell (lt_of_cell c0)).trans c0; have c3x : w2.cell? ⟨w.heap.size, 3, none⟩ = some (.int .i64 nx) := (hb2.cell (lt_of_cell c3)).trans c3; have c5x : w2.cell? ⟨w.heap.size, 5, none⟩ = some (.int .i64 pg) := (hb2.cell (lt_of_cell c5)).trans c5; have p5x : w2.cell? ⟨p, 5, none⟩ = some (.pointer (some ⟨l, 0, none⟩)) := (hb2.cell (lt_of_cell p5)).trans p5; have p7x : w2.cell? ⟨p, 7, none⟩ = some (.int .i64 P.count) := (hb2.cell (lt_of_cell p7)).trans p7; clear hb2) | (go_at_call 48; refine (HHs.out _ HB.out _ (by first | exact B2.out | exact B2.out.drew)).mono ?_; rintro e w1 ⟨rfl, hw1⟩; subst hw1))
    go_quiet (fail)
    go_upto_region 14 with (first | (go_at_call 46; refine HTh.out.mono ?_; rintro e w1 ⟨rfl, hw1⟩; subst hw1) | (go_at_call 47; refine (HEn.out _ (by first | exact Below.refl _ _ | exact (Below.refl _ _).drew)).mono ?_; rintro e w2 ⟨rfl, hb2⟩; have B2 := Lib.hid hb2; have c0x : w2.cell? ⟨w.heap.size, 0, none⟩ = some (.int .i64 ls) := (hb2.cell (lt_of_cell c0)).trans c0; have c3x : w2.cell? ⟨w.heap.size, 3, none⟩ = some (.int .i64 nx) := (hb2.cell (lt_of_cell c3)).trans c3; have c5x : w2.cell? ⟨w.heap.size, 5, none⟩ = some (.int .i64 pg) := (hb2.cell (lt_of_cell c5)).trans c5; have p5x : w2.cell? ⟨p, 5, none⟩ = some (.pointer (some ⟨l, 0, none⟩)) := (hb2.cell (lt_of_cell p5)).trans p5; have p7x : w2.cell? ⟨p, 7, none⟩ = some (.int .i64 P.count) := (hb2.cell (lt_of_cell p7)).trans p7; clear hb2) | (go_at_call 48; refine (HHs.out _ HB.out _ (by first | exact B2.out | exact B2.out.drew)).mono ?_; rintro e w1 ⟨rfl, hw1⟩; subst hw1) | (go_at_call 49; refine (HDn.out _ (by first | exact B2.out | exact B2.out.drew | exact below_dn B2.out _)).mono ?_; rintro e w3 ⟨ok1, e1, P1, L1, D1, V1, sv1, hand1, Q1, B1, Us1, rfl, g1, g2, g3, g4, g5⟩; have G1 := Lib.hid g1; have G2 := Lib.hid g2; have G3 := Lib.hid g3; have G4 := Lib.hid g4; have c0y : w3.cell? ⟨w.heap.size, 0, none⟩ = some (.int .i64 ls) := cell_of_row _ _ 0 _ _ _ g5; have c3y : w3.cell? ⟨w.heap.size, 3, none⟩ = some (.int .i64 nx) := cell_of_row _ _ 3 _ _ _ g5; clear g1 g2 g3 g4 g5))
    clear HDn HX1 HHs HEn HTh
    by_cases h0 : e1 = 0
    · subst h0
      have HD3 : Hid (∀ W, Below w3.heap.size w3 W → Calls Tryz.prog 49 #[.pointer (some ⟨p, 0, none⟩), .int .i64 nx, .int .i64 ls, .func (.func 53) #[] #[]] W (DoneG U V1 d ds do_ l p (KK + 10000) P1 nx ls actNew L1 D1 m W)) := Lib.hid fun W hW =>
        done3_any U V1 d ds do_ l p (KK + 10000) D1 L1 P1 sv1 m hand1 Q1 B1 Us1 nx ls actNew W (G2.out.keep hW (Nat.le_refl _)) (by have h9 : P1.count = P.count := G1.out.count; rw [h9]; exact HN.out) (by omega) ⟨HLs.out, HE.out.ls⟩ (act3 _ _)
      cases ok1
      all_goals go_wp2_with (go_at_call 49; refine (HD3.out _ (by first | exact Below.refl _ _ | exact (Below.refl _ _).drew)).mono ?_; rintro e w4 ⟨⟨ok2, e2, P2, L2, D2⟩, V2, sv2, hand2, Q2, B2', Us2, k1, k2, k3, k4, rfl⟩; have K1 := Lib.hid k1; have K2 := Lib.hid k2; have K3 := Lib.hid k3; have K4 := Lib.hid k4; clear k1 k2 k3 k4)
      all_goals
        go_ret2
        exact ⟨_, V2, sv2, hand2, Q2, B2', Us2, .two _ _ HA.out HP.out HK6.out G1.out rfl K1.out, K2.out.mono (by omega), G3.out.trans K3.out (fun g hg => by
          rcases hg with hg | hg | hg
          · exact .inl (.inl hg)
          · rcases G4.out g hg with h9 | h9
            · exact .inl (.inr (.inl h9))
            · exact .inr h9
          · exact .inl (.inr (.inr hg))), fun g hg => by
          rcases K4.out g hg with h9 | h9
          · exact G4.out g h9
          · exact .inr (Nat.le_trans G3.out.size h9), by first | exact do_e1 (ok2 := ok2) (e2 := e2) | exact do_e2 (ok2 := ok2) (e2 := e2) (by assumption) | exact do_e3 (ok2 := ok2) (e2 := e2) (by assumption)⟩
    · have E1 := Lib.hid h0
      have ee : (e1 == 0) = false := by simpa using h0
      clear h0
      go_wp2_with (fail)
      go_ret2
      exact ⟨(false, e1, P1, L1, D1), V1, sv1, hand1, Q1, B1, Us1, .bad _ HA.out HP.out HK6.out G1.out E1.out, G2.out.mono (by omega), G3.out, G4.out, rfl⟩
  · have HB : Hid ((decide (0 ≤ pg) && decide (pg < P.count)) = false) := Lib.hid (by
      rw [← Bool.not_eq_true, Bool.and_eq_true, decide_eq_true_iff, decide_eq_true_iff]; exact hp)
    have HX : Hid (DoP P ⟨ls, wk, pv, nx, kd, pg, K, O, N', DD, MM⟩ L D (false, 6, P, L, D)) := Lib.hid (.none HA.out (.inl hp))
    clear hp
    go_upto_region 6 with (first | (go_at_call 46; refine HTh.out.mono ?_; rintro e w1 ⟨rfl, hw1⟩; subst hw1) | (go_at_call 47; refine (HEn.out _ (by first | exact Below.refl _ _ | exact (Below.refl _ _).drew)).mono ?_; rintro e w2 ⟨rfl, hb2⟩; have B2 := Lib.hid hb2; have c0x : w2.cell? ⟨w.heap.size, 0, none⟩ = some (.int .i64 ls) := (hb2.cell (lt_of_cell c0)).trans c0; have c3x : w2.cell? ⟨w.heap.size, 3, none⟩ = some (.int .i64 nx) := (hb2.cell (lt_of_cell c3)).trans c3; have c5x : w2.cell? ⟨w.heap.size, 5, none⟩ = some (.int .i64 pg) := (hb2.cell (lt_of_cell c5)).trans c5; have p5x : w2.cell? ⟨p, 5, none⟩ = some (.pointer (some ⟨l, 0, none⟩)) := (hb2.cell (lt_of_cell p5)).trans p5; have p7x : w2.cell? ⟨p, 7, none⟩ = some (.int .i64 P.count) := (hb2.cell (lt_of_cell p7)).trans p7; clear hb2) | (go_at_call 48; refine (HHs.out _ HB.out _ (by first | exact B2.out | exact B2.out.drew)).mono ?_; rintro e w1 ⟨rfl, hw1⟩; subst hw1))
    go_region_held3 (fun w' => w'.cell? ⟨w.heap.size, 0, none⟩ = some (.int .i64 ls) ∧ w'.cell? ⟨p, 5, none⟩ = some (.pointer (some ⟨l, 0, none⟩))) (first | go_keep | exact ⟨by assumption, by assumption⟩) (first | (go_at_call 46; refine HTh.out.mono ?_; rintro e w1 ⟨rfl, hw1⟩; subst hw1) | (go_at_call 47; refine (HEn.out _ (by first | exact Below.refl _ _ | exact (Below.refl _ _).drew)).mono ?_; rintro e w2 ⟨rfl, hb2⟩; have B2 := Lib.hid hb2; have c0x : w2.cell? ⟨w.heap.size, 0, none⟩ = some (.int .i64 ls) := (hb2.cell (lt_of_cell c0)).trans c0; have c3x : w2.cell? ⟨w.heap.size, 3, none⟩ = some (.int .i64 nx) := (hb2.cell (lt_of_cell c3)).trans c3; have c5x : w2.cell? ⟨w.heap.size, 5, none⟩ = some (.int .i64 pg) := (hb2.cell (lt_of_cell c5)).trans c5; have p5x : w2.cell? ⟨p, 5, none⟩ = some (.pointer (some ⟨l, 0, none⟩)) := (hb2.cell (lt_of_cell p5)).trans p5; have p7x : w2.cell? ⟨p, 7, none⟩ = some (.int .i64 P.count) := (hb2.cell (lt_of_cell p7)).trans p7; clear hb2) | (go_at_call 48; refine (HHs.out _ HB.out _ (by first | exact B2.out | exact B2.out.drew)).mono ?_; rintro e w1 ⟨rfl, hw1⟩; subst hw1))
    go_wp2_with (first | (go_at_call 46; refine HTh.out.mono ?_; rintro e w1 ⟨rfl, hw1⟩; subst hw1) | (go_at_call 47; refine (HEn.out _ (by first | exact Below.refl _ _ | exact (Below.refl _ _).drew)).mono ?_; rintro e w2 ⟨rfl, hb2⟩; have B2 := Lib.hid hb2; have c0x : w2.cell? ⟨w.heap.size, 0, none⟩ = some (.int .i64 ls) := (hb2.cell (lt_of_cell c0)).trans c0; have c3x : w2.cell? ⟨w.heap.size, 3, none⟩ = some (.int .i64 nx) := (hb2.cell (lt_of_cell c3)).trans c3; have c5x : w2.cell? ⟨w.heap.size, 5, none⟩ = some (.int .i64 pg) := (hb2.cell (lt_of_cell c5)).trans c5; have p5x : w2.cell? ⟨p, 5, none⟩ = some (.pointer (some ⟨l, 0, none⟩)) := (hb2.cell (lt_of_cell p5)).trans p5; have p7x : w2.cell? ⟨p, 7, none⟩ = some (.int .i64 P.count) := (hb2.cell (lt_of_cell p7)).trans p7; clear hb2) | (go_at_call 48; refine (HHs.out _ HB.out _ (by first | exact B2.out | exact B2.out.drew)).mono ?_; rintro e w1 ⟨rfl, hw1⟩; subst hw1))
    go_ret2
    exact DoG.stay H.out (X0.out.below.trans (B2.out.mono X0.out.below.size)) HX.out
end Go.Proofs.YtohlkkannjifmaaGreatDoor
