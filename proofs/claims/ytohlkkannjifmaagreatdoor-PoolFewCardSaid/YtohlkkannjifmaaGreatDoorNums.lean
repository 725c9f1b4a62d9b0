/- Rows put, and put again. page.Lsn, Next, SetLsn, SetNext: what they answer, and the bytes behind them. -/
import Derived.Test.YtohlkkannjifmaaGreatDoorPure
import Derived.Test.YtohlkkannjifmaaGreatDoorPageH
import Derived.Laws.BitsLemmas
namespace Go.Proofs.YtohlkkannjifmaaGreatDoor
open Go.RowKit Go.Shelf
theorem bef_put (R : List Rw) (k n : List UInt8) : bef (put R k n) k = bef R k := by
  unfold put
  have h1 : bef (bef R k) k = bef R k := by unfold bef; rw [List.filter_filter]; simp
  have h2 : bef (sel k n) k = [] := by unfold bef sel; split <;> simp [cb_self]
  have h3 : bef (aft R k) k = [] := by
    unfold bef
    rw [List.filter_eq_nil_iff]
    intro x hx
    have := aft_gt x hx
    have := cb_anti x.1 k
    simp; omega
  have h : ∀ A B : List Rw, bef (A ++ B) k = bef A k ++ bef B k := fun A B => by unfold bef; rw [List.filter_append]
  rw [h, h, h1, h2, h3]; simp
theorem aft_put (R : List Rw) (k n : List UInt8) : aft (put R k n) k = aft R k := by
  unfold put
  have h1 : aft (aft R k) k = aft R k := by unfold aft; rw [List.filter_filter]; simp
  have h2 : aft (sel k n) k = [] := by unfold aft sel; split <;> simp [cb_self]
  have h3 : aft (bef R k) k = [] := by
    unfold aft
    rw [List.filter_eq_nil_iff]
    intro x hx
    have := bef_lt x hx
    have := cb_anti x.1 k
    simp; omega
  have h : ∀ A B : List Rw, aft (A ++ B) k = aft A k ++ aft B k := fun A B => by unfold aft; rw [List.filter_append]
  rw [h, h, h1, h2, h3]; simp
theorem put_put (R : List Rw) (k n m : List UInt8) : put (put R k n) k m = put R k m := by
  unfold put
  have h1 := bef_put R k n
  have h2 := aft_put R k n
  unfold put at h1 h2
  rw [h1, h2]
theorem got_put (R : List Rw) (k n : List UInt8) : got (put R k n) k = if n = [] then none else some n := by
  unfold got put
  rw [List.append_assoc, List.find?_append, List.find?_append]
  have h1 : (bef R k).find? (fun r => decide (r.1 = k)) = none := by
    rw [List.find?_eq_none]; intro x hx he
    have := bef_lt x hx
    simp only [decide_eq_true_eq] at he
    rw [he, cb_self] at this; omega
  have h2 : (aft R k).find? (fun r => decide (r.1 = k)) = none := by
    rw [List.find?_eq_none]; intro x hx he
    have := aft_gt x hx
    simp only [decide_eq_true_eq] at he
    rw [he, cb_self] at this; omega
  rw [h1, h2]
  unfold sel
  split <;> simp
theorem put_none {R : List Rw} (hup : Up R) {k : List UInt8} (h : got R k = none) : put R k [] = R := by
  rcases split_at hup k with ⟨-, hR⟩ | ⟨v, hg, -⟩
  · unfold put sel; rw [if_pos rfl, List.append_nil]; exact hR.symm
  · rw [h] at hg; cases hg
theorem put_some {R : List Rw} (hup : Up R) {k v : List UInt8} (h : got R k = some v) (hv : v ≠ []) : put R k v = R := by
  rcases split_at hup k with ⟨hg, -⟩ | ⟨v', hg, hR⟩
  · rw [h] at hg; cases hg
  · rw [h] at hg; cases hg
    unfold put sel; rw [if_neg hv, List.append_assoc]; exact hR.symm
end Go.Proofs.YtohlkkannjifmaaGreatDoor
namespace Go.Proofs.YtohlkkannjifmaaGreatDoor
open Go.RowKit Go.Shelf
def numL (l : List UInt8) : Nat := l.foldl (fun a x => a * 256 + x.toNat) 0
theorem numL_snoc (l : List UInt8) (x : UInt8) : numL (l ++ [x]) = numL l * 256 + x.toNat := by unfold numL; rw [List.foldl_append]; rfl
theorem numL_take (l : List UInt8) (j : Nat) (h : j < l.length) : numL (l.take (j + 1)) = numL (l.take j) * 256 + (bt l j).toNat := by
  rw [List.take_add_one, List.getElem?_eq_getElem h, Option.toList_some, numL_snoc]
  unfold bt
  simp [List.getElem?_eq_getElem h]
theorem numL_lt : ∀ (j : Nat) (l : List UInt8), j < l.length → bt l 0 ≤ 127 → numL (l.take (j + 1)) < 128 * 256 ^ j
  | 0, l, h, h0 => by
    have := bt_bd l 0
    rw [numL_take l 0 h]; simp [numL]; omega
  | j + 1, l, h, h0 => by
    have := numL_lt j l (by omega) h0
    have := bt_bd l (j + 1)
    rw [numL_take l (j + 1) h, Nat.pow_succ]; omega
def lsnL (p : List UInt8) : Nat := if behindL p = 0 then 0 else numL (p.take 8)
theorem or256 (v c : Nat) (hv : v < 36028797018963968) (hc : c < 256) : bits .or .i64 ((v : Int) * 256) (wrap64 (c : Int)) = ((v * 256 + c : Nat) : Int) := by
  have e1 : ((v : Int) * 256) = ((v * 256 : Nat) : Int) := by omega
  have e2 : wrap64 (c : Int) = (c : Int) := by unfold wrap64; omega
  rw [e1, e2, (bits_nat .i64 63 (by decide) (fun n h1 h2 => IntWalk.i64_in _ (by omega)) (v * 256) c (by omega) (by omega)).2]
  have := Nat.shiftLeft_add_eq_or_of_lt (i := 8) (by omega : c < 2 ^ 8) v
  rw [Nat.shiftLeft_eq] at this
  rw [this]
set_option maxHeartbeats 1000000 in
set_option maxRecDepth 100000 in
theorem Lsn_any (N : Nat) (a : Option Addr) (n c : Nat) (L : List UInt8) (w : World) (hr : RB N w a n c L) (hN : N ≤ w.heap.size) :
    Calls Tryz.prog 32 #[.slice a n c] w fun e w' => e = .returned (.int .i64 (lsnL L)) ∧ Below w.heap.size w w' := by
  by_cases h0 : behindL L = 0
  · have hfin : lsnL L = 0 := by unfold lsnL; rw [if_pos h0]
    have HR : Hid (Calls Tryz.prog 76 #[.slice a n c] w fun e w' => e = .returned (.bool false) ∧ Below w.heap.size w w') := by
      have := Right_any N a n c L w hr hN
      rw [h0] at this; exact this
    have Hfin := Lib.hid hfin
    clear hfin h0
    go_enter Tryz.func32, Tryz.ntmps32
    go_wp2_with (go_at_call 76; refine HR.out.mono ?_; rintro e w' ⟨rfl, hb⟩)
    go_ret
    exact ⟨by rw [Hfin.out]; rfl, hb⟩
  have hpos : 0 < behindL L := by omega
  have hlen := right_len hpos
  have hn := hr.len
  have hle := hr.le
  have hmx := hr.mx
  obtain rfl : n = 512 := by omega
  obtain ⟨b, o, rfl, hbN, -⟩ := hr.at_ (by omega)
  have hb0 : bt L 0 ≤ 127 := by
    unfold behindL at h0
    split at h0
    · exact absurd rfl h0
    · rename_i h; omega
  have hfin : lsnL L = numL (L.take 8) := by unfold lsnL; rw [if_neg h0]
  have HR : Hid (Calls Tryz.prog 76 #[.slice (some ⟨b, o, none⟩) 512 c] w fun e w' => e = .returned (.bool true) ∧ Below w.heap.size w w') := by
    have := Right_any N _ _ c L w hr hN
    rw [decide_eq_true hpos] at this; exact this
  have Hfin := Lib.hid hfin
  have Hlen := Lib.hid hlen
  clear hfin h0 hpos hn hlen
  go_enter Tryz.func32, Tryz.ntmps32
  go_wp2_with (go_at_call 76; refine HR.out.mono ?_; rintro e w' ⟨rfl, hb⟩)
  have hr' := hr.below (hb.mono hN)
  go_loopw [3, 12] (fun s i wr => ∃ j : Nat, j ≤ 8 ∧ i = .int .i64 j ∧ s = .int .i64 (numL (L.take j)) ∧ wr = w') (fun _ i _ => 8 - (intOf i).toNat)
  case atStart => exact ⟨0, by omega, rfl, rfl, rfl⟩
  case round =>
    obtain ⟨j, hj, rfl, rfl, rfl⟩ := hrel
    by_cases hlt : j < 8
    · obtain ⟨b', o', e0, -, hcell⟩ := hr'.at_ (by omega)
      cases e0
      have g0 := hcell j (by omega)
      clear hcell
      have hjI : (j : Int) < 8 := by omega
      obtain ⟨v, hv⟩ : ∃ v, v = numL (L.take j) := ⟨_, rfl⟩
      rw [← hv]
      have Hv := Lib.hid hv
      clear hv
      have hvb : v < 36028797018963968 := by
        rw [Hv.out]
        cases j with
        | zero => simp [numL]
        | succ j =>
          have := numL_lt j L (by rw [Hlen.out]; omega) hb0
          have hp : 256 ^ j ≤ 256 ^ 6 := Nat.pow_le_pow_right (by omega) (by omega)
          omega
      have hor := or256 v (bt L j).toNat hvb (by have := bt_bd L j; omega)
      have hbj : ((bt L j).toNat : Int) = bt L j := by have := bt_bd L j; omega
      rw [hbj] at hor
      have hnx : numL (L.take (j + 1)) = v * 256 + (bt L j).toNat := by rw [numL_take L j (by rw [Hlen.out]; omega), ← Hv.out]
      go_wp2
      go_roundw
      case rel => exact ⟨j + 1, by omega, by go_num, by rw [hnx]; congr 1, trivial⟩
      case measure => simp [intOf]; omega
    · obtain rfl : j = 8 := by omega
      go_wp2
      go_ret
      exact ⟨by rw [Hfin.out]; rfl, hb⟩
def be8 (x : Nat) : List UInt8 := (List.range 8).map fun i => UInt8.ofNat (x / 2 ^ (56 - 8 * i))
theorem be8_len (x : Nat) : (be8 x).length = 8 := by simp [be8]
theorem be8_get (x j : Nat) (h : j < 8) : (be8 x)[j]? = some (UInt8.ofNat (x / 2 ^ (56 - 8 * j))) := by
  unfold be8; rw [List.getElem?_map, List.getElem?_range h]; rfl
theorem be8_step (x : Nat) (L : List UInt8) (hL : L.length = 512) (j : Nat) (h : j < 8) : ((be8 x).take j ++ L.drop j).set j (UInt8.ofNat (x / 2 ^ (56 - 8 * j))) = (be8 x).take (j + 1) ++ L.drop (j + 1) := by
  have hl := be8_len x
  have hd : L.drop j = L[j]'(by omega) :: L.drop (j + 1) := List.drop_eq_getElem_cons (by omega)
  rw [List.set_append_right _ _ (by simp; omega), hd]
  have e0 : j - ((be8 x).take j).length = 0 := by simp; omega
  rw [e0, List.set_cons_zero, List.take_add_one, be8_get x j h]
  simp
def setLsnL (L : List UInt8) (x : Int) : List UInt8 := if 0 < behindL L ∧ 0 ≤ x then be8 x.toNat ++ L.drop 8 else L
set_option maxHeartbeats 1000000 in
set_option maxRecDepth 100000 in
theorem SetLsn_any (g c : Nat) (L : List UInt8) (X : List Value) (x : Int) (w : World) (hp : PG w g c L X) (hx : x ≤ 9223372036854775807) :
    Calls Tryz.prog 27 #[.slice (some ⟨g, 0, none⟩) 512 c, .int .i64 x] w fun e w' => e = .returned (.bool (decide (0 < behindL L ∧ 0 ≤ x))) ∧ PG w' g c (setLsnL L x) X ∧ Mod g w w' := by
  have HR := Lib.hid (Right_any _ _ _ c L w hp.rb (Nat.le_refl _))
  have hgw := hp.lt
  have hc5 : 512 ≤ c := by have := hp.cap; omega
  by_cases h0 : 0 < behindL L
  · by_cases hx0 : x < 0
    · have hfin : setLsnL L x = L := by unfold setLsnL; rw [if_neg (by omega)]
      have hfb : decide (0 < behindL L ∧ 0 ≤ x) = false := by simp; omega
      have HR' : Hid (Calls Tryz.prog 76 #[.slice (some ⟨g, 0, none⟩) 512 c] w fun e w' => e = .returned (.bool true) ∧ Below w.heap.size w w') := by
        have := HR.out; rw [decide_eq_true h0] at this; exact this
      have Hfin := Lib.hid hfin
      have Hfb := Lib.hid hfb
      clear hfin hfb h0 HR
      go_enter Tryz.func27, Tryz.ntmps27
      go_wp2_with (go_at_call 76; refine HR'.out.mono ?_; rintro e w' ⟨rfl, hb⟩)
      go_ret
      exact ⟨by rw [Hfb.out]; rfl, by rw [Hfin.out]; exact hp.below hb hp.lt, Mod.of_below hb⟩
    · have hfin : setLsnL L x = be8 x.toNat ++ L.drop 8 := by unfold setLsnL; rw [if_pos ⟨h0, by omega⟩]
      have hfb : decide (0 < behindL L ∧ 0 ≤ x) = true := by simp; omega
      have HR' : Hid (Calls Tryz.prog 76 #[.slice (some ⟨g, 0, none⟩) 512 c] w fun e w' => e = .returned (.bool true) ∧ Below w.heap.size w w') := by
        have := HR.out; rw [decide_eq_true h0] at this; exact this
      have Hfin := Lib.hid hfin
      have Hfb := Lib.hid hfb
      clear hfin hfb h0 HR
      obtain ⟨y, rfl⟩ : ∃ y : Nat, x = (y : Int) := ⟨x.toNat, by omega⟩
      rw [Int.toNat_natCast] at Hfin
      go_enter Tryz.func27, Tryz.ntmps27
      go_wp2_with (go_at_call 76; refine HR'.out.mono ?_; rintro e w' ⟨rfl, hb⟩)
      have Hp0 := Lib.hid (hp.below hb hp.lt)
      have Hm0 := Lib.hid (Mod.of_below (g := g) hb)
      have hs0 := hb.size
      clear hb
      go_loopw [13] (fun i wr => ∃ j : Nat, j ≤ 8 ∧ i = .int .i64 j ∧ Hid (PG wr g c ((be8 y).take j ++ L.drop j) X) ∧ Hid (Mod g w wr)) (fun i _ => 8 - (intOf i).toNat)
      case atStart => exact ⟨0, by omega, rfl, by simpa using Hp0, Hm0⟩
      case round =>
        obtain ⟨j, hj, rfl, Hp1, Hm1⟩ := hrel
        by_cases hlt : j < 8
        · have k1 := Hp1.out.cell j (by omega)
          have f1 := Hp1.out.frozen j
          have hjI : (j : Int) < 8 := by omega
          have q1 : (0 : Int) ≤ 56 - 8 * (j : Int) := by omega
          have hs := Hp1.out.set j (UInt8.ofNat (y / 2 ^ (56 - 8 * j))) (by omega)
          have hb8 : ((UInt8.ofNat (y / 2 ^ (56 - 8 * j))).toNat : Int) = (y : Int) / 2 ^ (56 - 8 * j) % 256 := by
            rw [UInt8.toNat_ofNat', Int.natCast_emod, Int.natCast_ediv, Int.natCast_pow]; rfl
          rw [be8_step y L hp.len j hlt, hb8] at hs
          have Hs := Lib.hid hs
          clear hs hb8
          go_wp2
          go_roundw
          case rel => exact ⟨j + 1, by omega, by go_num, Hs, Lib.hid (Hm1.out.set g j _)⟩
          case measure => simp [intOf]; omega
        · obtain rfl : j = 8 := by omega
          go_wp2
          go_ret
          refine ⟨by rw [Hfb.out]; rfl, ?_, Hm1.out⟩
          rw [Hfin.out]
          have := Hp1.out
          rwa [List.take_of_length_le (by rw [be8_len]; omega)] at this
  · have hfin : setLsnL L x = L := by unfold setLsnL; rw [if_neg (by omega)]
    have hfb : decide (0 < behindL L ∧ 0 ≤ x) = false := by simp; omega
    have HR' : Hid (Calls Tryz.prog 76 #[.slice (some ⟨g, 0, none⟩) 512 c] w fun e w' => e = .returned (.bool false) ∧ Below w.heap.size w w') := by
      have := HR.out; rw [decide_eq_false h0] at this; exact this
    have Hfin := Lib.hid hfin
    have Hfb := Lib.hid hfb
    clear hfin hfb h0 HR
    go_enter Tryz.func27, Tryz.ntmps27
    go_wp2_with (go_at_call 76; refine HR'.out.mono ?_; rintro e w' ⟨rfl, hb⟩)
    go_ret
    exact ⟨by rw [Hfb.out]; rfl, by rw [Hfin.out]; exact hp.below hb hp.lt, Mod.of_below hb⟩
def setNextL (L : List UInt8) (x : Int) : List UInt8 := if 0 < behindL L ∧ 0 ≤ x ∧ x < 8192 then (L.set 8 (UInt8.ofNat (x.toNat / 256))).set 9 (UInt8.ofNat x.toNat) else L
set_option maxHeartbeats 1000000 in
set_option maxRecDepth 100000 in
theorem SetNext_any (g c : Nat) (L : List UInt8) (X : List Value) (x : Int) (w : World) (hp : PG w g c L X) :
    Calls Tryz.prog 52 #[.slice (some ⟨g, 0, none⟩) 512 c, .int .i64 x] w fun e w' => e = .returned (.bool (decide (0 < behindL L ∧ 0 ≤ x ∧ x < 8192))) ∧ PG w' g c (setNextL L x) X ∧ Mod g w w' := by
  have HR := Lib.hid (Right_any _ _ _ c L w hp.rb (Nat.le_refl _))
  have hgw := hp.lt
  have hc5 : 512 ≤ c := by have := hp.cap; omega
  have neg : ¬ (0 < behindL L ∧ 0 ≤ x ∧ x < 8192) → (setNextL L x = L ∧ decide (0 < behindL L ∧ 0 ≤ x ∧ x < 8192) = false) := fun h => ⟨by unfold setNextL; rw [if_neg h], decide_eq_false h⟩
  by_cases h0 : 0 < behindL L
  · have HR' : Hid (Calls Tryz.prog 76 #[.slice (some ⟨g, 0, none⟩) 512 c] w fun e w' => e = .returned (.bool true) ∧ Below w.heap.size w w') := by
      have := HR.out; rw [decide_eq_true h0] at this; exact this
    by_cases hx0 : x < 0
    · obtain ⟨hfin, hfb⟩ := neg (by omega)
      have Hfin := Lib.hid hfin
      have Hfb := Lib.hid hfb
      clear hfin hfb h0 HR neg
      go_enter Tryz.func52, Tryz.ntmps52
      go_wp2_with (go_at_call 76; refine HR'.out.mono ?_; rintro e w' ⟨rfl, hb⟩)
      go_ret
      exact ⟨by rw [Hfb.out]; rfl, by rw [Hfin.out]; exact hp.below hb hp.lt, Mod.of_below hb⟩
    by_cases hx1 : 8192 ≤ x
    · obtain ⟨hfin, hfb⟩ := neg (by omega)
      have Hfin := Lib.hid hfin
      have Hfb := Lib.hid hfb
      clear hfin hfb h0 HR neg
      go_enter Tryz.func52, Tryz.ntmps52
      go_wp2_with (go_at_call 76; refine HR'.out.mono ?_; rintro e w' ⟨rfl, hb⟩)
      go_ret
      exact ⟨by rw [Hfb.out]; rfl, by rw [Hfin.out]; exact hp.below hb hp.lt, Mod.of_below hb⟩
    have hfin : setNextL L x = (L.set 8 (UInt8.ofNat (x.toNat / 256))).set 9 (UInt8.ofNat x.toNat) := by unfold setNextL; rw [if_pos ⟨h0, by omega, by omega⟩]
    have hfb : decide (0 < behindL L ∧ 0 ≤ x ∧ x < 8192) = true := decide_eq_true ⟨h0, by omega, by omega⟩
    have Hfin := Lib.hid hfin
    have Hfb := Lib.hid hfb
    clear hfin hfb h0 HR neg
    obtain ⟨y, rfl⟩ : ∃ y : Nat, x = (y : Int) := ⟨x.toNat, by omega⟩
    rw [Int.toNat_natCast] at Hfin
    go_enter Tryz.func52, Tryz.ntmps52
    go_wp2_with (go_at_call 76; refine HR'.out.mono ?_; rintro e w' ⟨rfl, hb⟩; have Hp0 := Lib.hid (hp.below hb hp.lt); have Hm0 := Lib.hid (Mod.of_below (g := g) hb); have hs0 := hb.size; have k8 := Hp0.out.cell 8 (by omega); have k9 := Hp0.out.cell 9 (by omega); have f8 := Hp0.out.frozen 8; have f9 := Hp0.out.frozen 9; clear hb)
    go_ret
    have h8 : ((UInt8.ofNat (y / 256)).toNat : Int) = (y : Int) / 256 := by rw [UInt8.toNat_ofNat']; omega
    have h9 : ((UInt8.ofNat y).toNat : Int) = (y : Int) % 256 := by rw [UInt8.toNat_ofNat']; omega
    have hs := (Hp0.out.set 8 (UInt8.ofNat (y / 256)) (by omega)).set 9 (UInt8.ofNat y) (by omega)
    rw [h8, h9] at hs
    exact ⟨by rw [Hfb.out]; rfl, by rw [Hfin.out]; exact hs, (Hm0.out.set g 8 _).set g 9 _⟩
  · obtain ⟨hfin, hfb⟩ := neg (by omega)
    have HR' : Hid (Calls Tryz.prog 76 #[.slice (some ⟨g, 0, none⟩) 512 c] w fun e w' => e = .returned (.bool false) ∧ Below w.heap.size w w') := by
      have := HR.out; rw [decide_eq_false h0] at this; exact this
    have Hfin := Lib.hid hfin
    have Hfb := Lib.hid hfb
    clear hfin hfb h0 HR neg
    go_enter Tryz.func52, Tryz.ntmps52
    go_wp2_with (go_at_call 76; refine HR'.out.mono ?_; rintro e w' ⟨rfl, hb⟩)
    go_ret
    exact ⟨by rw [Hfb.out]; rfl, by rw [Hfin.out]; exact hp.below hb hp.lt, Mod.of_below hb⟩
end Go.Proofs.YtohlkkannjifmaaGreatDoor
