/- storemanref21: set, SetLsn, SetNext. -/
import Derived.Test.YtbinikbgbgggaaaGreatDoorRefP
namespace Go.Proofs.YtbinikbgbgggaaaGreatDoor
open Go.RowKit Go.Shelf

theorem be8_numL : ∀ {l : List UInt8}, l.length = 8 → be8 (numL l) = l
  | [a, b, c, d, e, f, g, h], _ => by
    have ha := a.toNat_lt; have hb := b.toNat_lt; have hc := c.toNat_lt; have hd := d.toNat_lt
    have he := e.toNat_lt; have hf := f.toNat_lt; have hg := g.toNat_lt; have hh := h.toNat_lt
    have k : ∀ (x : Nat) (u : UInt8), x % 256 = u.toNat → UInt8.ofNat x = u := fun x u h => UInt8.toNat_inj.1 (by rw [UInt8.toNat_ofNat']; exact h)
    have hn : numL [a, b, c, d, e, f, g, h] = ((((((a.toNat * 256 + b.toNat) * 256 + c.toNat) * 256 + d.toNat) * 256 + e.toNat) * 256 + f.toNat) * 256 + g.toNat) * 256 + h.toNat := by simp [numL]
    rw [hn]
    show [UInt8.ofNat (_ / 2 ^ 56), UInt8.ofNat (_ / 2 ^ 48), UInt8.ofNat (_ / 2 ^ 40), UInt8.ofNat (_ / 2 ^ 32), UInt8.ofNat (_ / 2 ^ 24), UInt8.ofNat (_ / 2 ^ 16), UInt8.ofNat (_ / 2 ^ 8), UInt8.ofNat (_ / 2 ^ 0)] = _
    rw [k _ a (by omega), k _ b (by omega), k _ c (by omega), k _ d (by omega), k _ e (by omega), k _ f (by omega), k _ g (by omega), k _ h (by omega)]
theorem head_next : ∀ {h : List UInt8}, h.length = 10 → h.drop 8 = [UInt8.ofNat (((bt h 8).toNat * 256 + (bt h 9).toNat) / 256), UInt8.ofNat ((bt h 8).toNat * 256 + (bt h 9).toNat)]
  | [_, _, _, _, _, _, _, _, i, j], _ => by
    have hi := i.toNat_lt; have hj := j.toNat_lt
    have k : ∀ (x : Nat) (u : UInt8), x % 256 = u.toNat → UInt8.ofNat x = u := fun x u h => UInt8.toNat_inj.1 (by rw [UInt8.toNat_ofNat']; exact h)
    show [i, j] = [UInt8.ofNat (((i.toNat : Int).toNat * 256 + (j.toNat : Int).toNat) / 256), UInt8.ofNat ((i.toNat : Int).toNat * 256 + (j.toNat : Int).toNat)]
    simp only [Int.toNat_natCast]
    rw [k _ i (by omega), k _ j (by omega)]
theorem head_lsn {h : List UInt8} (hl : h.length = 10) (y : Nat) : headLsn h y = headOf y ((bt h 8).toNat * 256 + (bt h 9).toNat) := by
  unfold headLsn headOf; rw [head_next hl]
theorem head_self {h : List UInt8} (hl : h.length = 10) : h = headOf (numL (h.take 8)) ((bt h 8).toNat * 256 + (bt h 9).toNat) := by
  unfold headOf
  rw [be8_numL (by rw [List.length_take]; omega), ← head_next hl, List.take_append_drop]
theorem head_nxt {h : List UInt8} (hl : h.length = 10) (x : Nat) : headNext h x = headOf (numL (h.take 8)) x := by
  unfold headOf
  rw [be8_numL (by rw [List.length_take]; omega)]
  unfold headNext
  match h, hl with
  | [_, _, _, _, _, _, _, _, i, j], _ => rfl

/-- What set leaves. -/
def SetPost (g c y x : Nat) (L : List UInt8) (X : List Value) (R : List Rw) (w : World) (e : Ending) (w' : World) : Prop :=
  e = .returned (.bool (decide ((enc R).length ≤ 501))) ∧ PG w' g c (if (enc R).length ≤ 501 then mkP (headOf y x) R else L) X ∧ Mod g w w'

set_option maxHeartbeats 4000000 in
set_option maxRecDepth 100000 in
theorem set_any (g c y x : Nat) (L : List UInt8) (X : List Value) (va : Option Addr) (n vc : Nat) (R : List Rw) (w : World) (hp : PG w g c L X) (hy : y < 9223372036854775808) (hx : x < 8192) (hR : RowsAt w.heap.size w va n vc R) (hen : (enc R).length ≤ 100000) (hl : R.length ≤ 1000) :
    Calls Tryz.prog 121 #[.slice (some ⟨g, 0, none⟩) 512 c, .agg #[.int .i64 (y : Int), .int .i64 (x : Int), .slice va n vc]] w (SetPost g c y x L X R w) := by
  have hgw := hp.lt
  have hbw : Below w.heap.size w (w.alloc (.cells #[.int .i64 (y : Int), .int .i64 (x : Int), .slice va n vc] 94)) := (Below.refl _ w).alloc (Nat.le_refl _) _
  have HP := Lib.hid (Put_any y x va n vc R _ hy hx ((hR.below hbw).mono hbw.size) hen hl)
  unfold PutR at HP
  have hp1 := hp.below hbw hp.lt
  have Hbw := Lib.hid hbw
  have Hp1 := Lib.hid hp1
  clear hp hbw hp1 hR
  by_cases hfit : (enc R).length ≤ 501
  · have hd : decide ((enc R).length ≤ 501) = true := decide_eq_true hfit
    unfold SetPost
    rw [hd] at HP ⊢
    rw [if_pos hfit]
    have Hfit := Lib.hid hfit
    clear hd hfit hen
    have hlen : (mkP (headOf y x) R).length = 512 := by
      unfold mkP
      have := Hfit.out
      simp [headOf_len]
      omega
    have Hlen := Lib.hid hlen
    have Hspl : Hid (Go.splice L 0 (mkP (headOf y x) R) = mkP (headOf y x) R) := Lib.hid (by
      have h := Hp1.out.len
      unfold Go.splice
      rw [List.take_zero, List.nil_append, Nat.zero_add, hlen, List.drop_eq_nil_of_le (by omega), List.append_nil])
    clear hlen
    generalize mkP (headOf y x) R = M at HP Hlen Hspl ⊢
    go_enter Tryz.func121, Tryz.ntmps121
    go_wp2_with (first | (go_at_call 137; refine HP.out.mono ?_; rintro e w2 ⟨⟨v, rfl, ho⟩, hb⟩; obtain ⟨a2, c2, rfl, hrb⟩ := (ho Hfit.out).rb (by rw [Hlen.out]; decide); rw [Hlen.out] at hrb ⊢; have Hrb := Lib.hid hrb; have Hb := Lib.hid (Hbw.out.trans (hb.mono Hbw.out.size)); have Hp2 := Lib.hid (Hp1.out.below hb Hp1.out.lt); clear ho hb hrb) | (refine wpList_copy_pg (o := ⟨some 15, _, _, _, _, _⟩) rfl (.tmp 13) (.tmp 14) rfl g c L X Hp2.out (some ⟨g, 0, none⟩) a2 512 c 512 c2 0 M rfl rfl (by rw [Hlen.out]; rfl) Hrb.out.src (fun _ => rfl) (by rw [Hlen.out]; decide) ?_; intro w3 hp3 hm3 hs3; rw [Hspl.out] at hp3; have Hp3 := Lib.hid hp3; have Hm3 := Lib.hid hm3; clear hp3 hm3 hs3))
    go_ret
    exact ⟨rfl, Hp3.out, (Mod.of_below Hb.out).trans Hm3.out⟩
  · have hd : decide ((enc R).length ≤ 501) = false := decide_eq_false hfit
    unfold SetPost
    rw [hd] at HP ⊢
    rw [if_neg hfit]
    clear hd hfit hen
    go_enter Tryz.func121, Tryz.ntmps121
    go_wp2_with (go_at_call 137; refine HP.out.mono ?_; rintro e w2 ⟨⟨v, rfl, ho⟩, hb⟩; have Hb := Lib.hid (Hbw.out.trans (hb.mono Hbw.out.size)); have Hp2 := Lib.hid (Hp1.out.below hb Hp1.out.lt); clear ho hb)
    go_ret
    exact ⟨rfl, Hp2.out, Mod.of_below Hb.out⟩

/-- Rows, as OR has them, as a slice that reads. -/
theorem OR.at_ {base : Nat} {W : World} {va : Option Addr} {n vc : Nat} {R : List Rw} (h : OR base W (.slice va n vc) R) : RowsAt W.heap.size W va n vc R := by
  obtain ⟨a, c, e, hr⟩ := h.rows
  injection e with e1 e2 e3
  rw [e1, e2, e3]; exact hr

set_option maxHeartbeats 4000000 in
set_option maxRecDepth 100000 in
theorem rSetLsn_no (N : Nat) (a : Option Addr) (n c : Nat) (L : List UInt8) (x : Int) (w : World) (hr : RB N w a n c L) (hN : N ≤ w.heap.size) (h0 : behindL L = 0) :
    Calls Tryz.prog 80 #[.slice a n c, .int .i64 x] w fun e w' => e = .returned (.bool false) ∧ Below w.heap.size w w' := by
  have H := Lib.hid ((Of_any N a n c L w hr hN).mono fun e w' h => h.s)
  unfold OfS at H
  rw [decide_eq_false (by omega)] at H
  clear hr h0
  go_enter Tryz.func80, Tryz.ntmps80
  go_wp2_with (go_at_call 49; refine H.out.mono ?_; rintro e w1 ⟨va, vc, rfl, ho, hb⟩; have HO := Lib.hid ho; have HB := Lib.hid hb; clear ho hb)
  go_ret
  exact ⟨rfl, HB.out.alloc HB.out.size _⟩
set_option maxHeartbeats 4000000 in
set_option maxRecDepth 100000 in
theorem rSetNext_no (N : Nat) (a : Option Addr) (n c : Nat) (L : List UInt8) (x : Int) (w : World) (hr : RB N w a n c L) (hN : N ≤ w.heap.size) (h0 : behindL L = 0) :
    Calls Tryz.prog 81 #[.slice a n c, .int .i64 x] w fun e w' => e = .returned (.bool false) ∧ Below w.heap.size w w' := by
  have H := Lib.hid ((Of_any N a n c L w hr hN).mono fun e w' h => h.s)
  unfold OfS at H
  rw [decide_eq_false (by omega)] at H
  clear hr h0
  go_enter Tryz.func81, Tryz.ntmps81
  go_wp2_with (go_at_call 49; refine H.out.mono ?_; rintro e w1 ⟨va, vc, rfl, ho, hb⟩; have HO := Lib.hid ho; have HB := Lib.hid hb; clear ho hb)
  go_ret
  exact ⟨rfl, HB.out.alloc HB.out.size _⟩

/-- What a right page's numbers and rows are bounded by. -/
theorem right_bd {L : List UInt8} (h : 0 < behindL L) : lsnL L < 9223372036854775808 ∧ nextL L < 8192 ∧ (enc (rowsL L)).length ≤ 501 ∧ (rowsL L).length ≤ 250 := by
  obtain ⟨hP, hL⟩ := parse h
  have h1 : lsnL L = numL ((L.take 10).take 8) := by
    have h := lsn_mk hP
    rw [← hL] at h
    exact h
  have h2 : nextL L = (bt (L.take 10) 8).toNat * 256 + (bt (L.take 10) 9).toNat := by
    have h := next_mk hP
    rw [← hL] at h
    exact h
  have h3 := numL_lt 7 (L.take 10) (by rw [hP.hl]; omega) hP.h0
  have h8 := hP.h8
  have b8 := bt_bd (L.take 10) 8
  have b9 := bt_bd (L.take 10) 9
  refine ⟨by rw [h1]; exact h3, by rw [h2]; omega, hP.fit, ?_⟩
  have := enc_ge hP.ok
  have := hP.fit
  omega
/-- SetLsn of both is one. -/
theorem setLsn_ref {L : List UInt8} (h : 0 < behindL L) {x : Int} (h0 : 0 ≤ x) (h1 : x ≤ 9223372036854775807) : setLsnL L x = mkP (headOf x.toNat (nextL L)) (rowsL L) := by
  obtain ⟨hP, hL⟩ := parse h
  have h2 : nextL L = (bt (L.take 10) 8).toNat * 256 + (bt (L.take 10) 9).toNat := by
    have h := next_mk hP
    rw [← hL] at h
    exact h
  have h3 := (setLsn_mk hP h0 h1).1
  rw [← hL] at h3
  rw [h3, head_lsn hP.hl, h2]
theorem setNext_ref {L : List UInt8} (h : 0 < behindL L) {x : Int} (h0 : 0 ≤ x) (h1 : x < 8192) : setNextL L x = mkP (headOf (lsnL L) x.toNat) (rowsL L) := by
  obtain ⟨hP, hL⟩ := parse h
  have h2 : lsnL L = numL ((L.take 10).take 8) := by
    have h := lsn_mk hP
    rw [← hL] at h
    exact h
  have h3 := (setNext_mk hP h0 h1).1
  rw [← hL] at h3
  rw [h3, head_nxt hP.hl, h2]

/-- What a setter leaves. -/
def SetR (g c : Nat) (b : Bool) (M : List UInt8) (X : List Value) (w : World) (e : Ending) (w' : World) : Prop := e = .returned (.bool b) ∧ PG w' g c M X ∧ Mod g w w'
set_option maxHeartbeats 4000000 in
set_option maxRecDepth 100000 in
theorem rSetLsn_yes (g c : Nat) (L : List UInt8) (X : List Value) (x : Int) (w : World) (hp : PG w g c L X) (h0 : 0 < behindL L) (hx : x ≤ 9223372036854775807) :
    Calls Tryz.prog 80 #[.slice (some ⟨g, 0, none⟩) 512 c, .int .i64 x] w (SetR g c (decide (0 ≤ x)) (setLsnL L x) X w) := by
  have H := Lib.hid ((Of_any _ _ _ c L w hp.rb (Nat.le_refl _)).mono fun e w' h => h.s)
  unfold OfS at H
  rw [decide_eq_true h0] at H
  have Hp := Lib.hid hp
  obtain ⟨b1, b2, b3, b4⟩ := right_bd h0
  have B1 := Lib.hid b1
  have B2 := Lib.hid b2
  have B3 := Lib.hid b3
  have B4 := Lib.hid b4
  have hgw := hp.lt
  by_cases hx0 : 0 ≤ x
  · have Hset := Lib.hid (setLsn_ref h0 hx0 hx)
    have Hd := Lib.hid (show decide (0 ≤ x) = true from decide_eq_true hx0)
    obtain ⟨y, rfl⟩ : ∃ y : Nat, x = (y : Int) := ⟨x.toNat, by omega⟩
    have hnx : ¬ (y : Int) < 0 := by omega
    clear hp h0 b1 b2 b3 b4
    go_enter Tryz.func80, Tryz.ntmps80
    go_wp2_with (go_at_call 49; refine H.out.mono ?_; rintro e w1 ⟨va, vc, rfl, ho, hb⟩; have HO := Lib.hid ho; have HB := Lib.hid hb; clear ho hb)
    go_wp2_with (go_at_call 121; refine (set_any g c y (nextL L) L X va _ vc (rowsL L) _ (Hp.out.below (HB.out.alloc HB.out.size _) Hp.out.lt) (by omega) B2.out ((HO.out.below ((Below.refl w1.heap.size w1).alloc (Nat.le_refl _) _)).at_) (by have := B3.out; omega) (by have := B4.out; omega)).mono ?_; rintro e w3 ⟨rfl, h3, h4⟩; rw [if_pos B3.out] at h3; have H3 := Lib.hid h3; have H4 := Lib.hid h4; clear h3 h4)
    go_ret
    refine ⟨by rw [Hd.out]; first | rfl | (rw [← decide_eq_true B3.out]; rfl), ?_, (Mod.of_below (HB.out.alloc HB.out.size _)).trans H4.out⟩
    rw [Hset.out]
    exact H3.out
  · have Hset : Hid (setLsnL L x = L) := Lib.hid (by unfold setLsnL; rw [if_neg (by omega)])
    have Hd := Lib.hid (show decide (0 ≤ x) = false from decide_eq_false hx0)
    have hnx : x < 0 := by omega
    clear hp h0 b1 b2 b3 b4 hx0
    go_enter Tryz.func80, Tryz.ntmps80
    go_wp2_with (go_at_call 49; refine H.out.mono ?_; rintro e w1 ⟨va, vc, rfl, ho, hb⟩; have HO := Lib.hid ho; have HB := Lib.hid hb; clear ho hb)
    go_ret
    exact ⟨by rw [Hd.out]; rfl, by rw [Hset.out]; exact Hp.out.below (HB.out.alloc HB.out.size _) Hp.out.lt, Mod.of_below (HB.out.alloc HB.out.size _)⟩

set_option maxHeartbeats 4000000 in
set_option maxRecDepth 100000 in
theorem rSetNext_yes (g c : Nat) (L : List UInt8) (X : List Value) (x : Int) (w : World) (hp : PG w g c L X) (h0 : 0 < behindL L) :
    Calls Tryz.prog 81 #[.slice (some ⟨g, 0, none⟩) 512 c, .int .i64 x] w (SetR g c (decide (0 ≤ x ∧ x < 8192)) (setNextL L x) X w) := by
  have H := Lib.hid ((Of_any _ _ _ c L w hp.rb (Nat.le_refl _)).mono fun e w' h => h.s)
  unfold OfS at H
  rw [decide_eq_true h0] at H
  have Hp := Lib.hid hp
  obtain ⟨b1, b2, b3, b4⟩ := right_bd h0
  have B1 := Lib.hid b1
  have B2 := Lib.hid b2
  have B3 := Lib.hid b3
  have B4 := Lib.hid b4
  have hgw := hp.lt
  by_cases hx0 : 0 ≤ x ∧ x < 8192
  · have Hset := Lib.hid (setNext_ref h0 hx0.1 hx0.2)
    have Hd := Lib.hid (show decide (0 ≤ x ∧ x < 8192) = true from decide_eq_true hx0)
    obtain ⟨y, rfl⟩ : ∃ y : Nat, x = (y : Int) := ⟨x.toNat, by omega⟩
    have hnx : ¬ (y : Int) < 0 := by omega
    have hny : ¬ (8192 : Int) ≤ (y : Int) := by omega
    clear hp h0 b1 b2 b3 b4 hx0
    go_enter Tryz.func81, Tryz.ntmps81
    go_wp2_with (go_at_call 49; refine H.out.mono ?_; rintro e w1 ⟨va, vc, rfl, ho, hb⟩; have HO := Lib.hid ho; have HB := Lib.hid hb; clear ho hb)
    go_wp2_with (go_at_call 121; refine (set_any g c (lsnL L) y L X va _ vc (rowsL L) _ (Hp.out.below (HB.out.alloc HB.out.size _) Hp.out.lt) B1.out (by omega) ((HO.out.below ((Below.refl w1.heap.size w1).alloc (Nat.le_refl _) _)).at_) (by have := B3.out; omega) (by have := B4.out; omega)).mono ?_; rintro e w3 ⟨rfl, h3, h4⟩; rw [if_pos B3.out] at h3; have H3 := Lib.hid h3; have H4 := Lib.hid h4; clear h3 h4)
    go_ret
    refine ⟨by rw [Hd.out]; first | rfl | (rw [← decide_eq_true B3.out]; rfl), ?_, (Mod.of_below (HB.out.alloc HB.out.size _)).trans H4.out⟩
    rw [Hset.out]
    exact H3.out
  · have Hset : Hid (setNextL L x = L) := Lib.hid (by unfold setNextL; rw [if_neg (by omega)])
    have Hd := Lib.hid (show decide (0 ≤ x ∧ x < 8192) = false from decide_eq_false hx0)
    clear h0 b1 b2 b3 b4
    by_cases hnx : x < 0
    · clear hx0 hp
      go_enter Tryz.func81, Tryz.ntmps81
      go_wp2_with (go_at_call 49; refine H.out.mono ?_; rintro e w1 ⟨va, vc, rfl, ho, hb⟩; have HO := Lib.hid ho; have HB := Lib.hid hb; clear ho hb)
      go_ret
      exact ⟨by rw [Hd.out]; rfl, by rw [Hset.out]; exact Hp.out.below (HB.out.alloc HB.out.size _) Hp.out.lt, Mod.of_below (HB.out.alloc HB.out.size _)⟩
    · have hny : (8192 : Int) ≤ x := by omega
      clear hx0 hp
      go_enter Tryz.func81, Tryz.ntmps81
      go_wp2_with (go_at_call 49; refine H.out.mono ?_; rintro e w1 ⟨va, vc, rfl, ho, hb⟩; have HO := Lib.hid ho; have HB := Lib.hid hb; clear ho hb)
      go_ret
      exact ⟨by rw [Hd.out]; rfl, by rw [Hset.out]; exact Hp.out.below (HB.out.alloc HB.out.size _) Hp.out.lt, Mod.of_below (HB.out.alloc HB.out.size _)⟩
end Go.Proofs.YtbinikbgbgggaaaGreatDoor
