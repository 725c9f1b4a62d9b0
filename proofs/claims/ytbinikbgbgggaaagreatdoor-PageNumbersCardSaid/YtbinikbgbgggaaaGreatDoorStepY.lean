/- storemanlaw21.step on bytes that are no page. storemanlaw21.step on a page and its twin. -/
import Derived.Test.YtbinikbgbgggaaaGreatDoorTells
import Derived.Deep.RegionHeld3
namespace Go.Proofs.YtbinikbgbgggaaaGreatDoor
open Go.RowKit Go.Shelf

set_option maxHeartbeats 2000000 in
set_option maxRecDepth 100000 in
theorem SetLsn_no (N : Nat) (a : Option Addr) (n c : Nat) (L : List UInt8) (x : Int) (w : World) (hr : RB N w a n c L) (hN : N ≤ w.heap.size) (h0 : behindL L = 0) :
    Calls Tryz.prog 17 #[.slice a n c, .int .i64 x] w fun e w' => e = .returned (.bool false) ∧ Below w.heap.size w w' := by
  have H := Lib.hid (Right_any N a n c L w hr hN)
  rw [decide_eq_false (by omega)] at H
  clear hr h0
  go_enter Tryz.func17, Tryz.ntmps17
  go_wp2_with (go_at_call 23; refine H.out.mono ?_; rintro e w1 ⟨rfl, hb⟩)
  go_ret
  exact ⟨rfl, hb⟩
set_option maxHeartbeats 2000000 in
set_option maxRecDepth 100000 in
theorem SetNext_no (N : Nat) (a : Option Addr) (n c : Nat) (L : List UInt8) (x : Int) (w : World) (hr : RB N w a n c L) (hN : N ≤ w.heap.size) (h0 : behindL L = 0) :
    Calls Tryz.prog 19 #[.slice a n c, .int .i64 x] w fun e w' => e = .returned (.bool false) ∧ Below w.heap.size w w' := by
  have H := Lib.hid (Right_any N a n c L w hr hN)
  rw [decide_eq_false (by omega)] at H
  clear hr h0
  go_enter Tryz.func19, Tryz.ntmps19
  go_wp2_with (go_at_call 23; refine H.out.mono ?_; rintro e w1 ⟨rfl, hb⟩)
  go_ret
  exact ⟨rfl, hb⟩
set_option maxHeartbeats 2000000 in
set_option maxRecDepth 100000 in
theorem Turn_no (N : Nat) (a : Option Addr) (n c : Nat) (L : List UInt8) (ka oa na : Option Addr) (kn kc on oc nn nc : Nat) (w : World) (hr : RB N w a n c L) (hN : N ≤ w.heap.size) (h0 : behindL L = 0) :
    Calls Tryz.prog 14 #[.slice a n c, .agg #[.slice ka kn kc, .slice oa on oc, .slice na nn nc]] w fun e w' => e = .returned (.int .i64 4) ∧ Below w.heap.size w w' := by
  have hb0 : Below w.heap.size w (w.alloc (.cells #[.slice ka kn kc, .slice oa on oc, .slice na nn nc] 36)) := (Below.refl _ w).alloc (Nat.le_refl _) _
  have H := Lib.hid (behind_any N a n c L _ (hr.below (hb0.mono hN)) (Nat.le_trans hN hb0.size))
  rw [h0] at H
  have HB := Lib.hid hb0
  clear hr h0 hb0
  go_enter Tryz.func14, Tryz.ntmps14
  go_wp2_with (go_at_call 41; refine H.out.mono ?_; rintro e w1 ⟨rfl, hb⟩)
  go_ret
  exact ⟨rfl, HB.out.trans (hb.mono HB.out.size)⟩

/-- A Do in a block of its own. -/
def D7 (W : World) (z : Nat) (op nx ls : Int) (k o n : Value) (t : Bool) : Prop := W.heap[z]? = some (.cells #[.int .i64 op, .int .i64 nx, .int .i64 ls, k, o, n, .bool t] 47 (0, 0))
theorem D7.lt {W : World} {z : Nat} {op nx ls : Int} {k o n : Value} {t : Bool} (h : D7 W z op nx ls k o n t) : z < W.heap.size := (Array.getElem?_eq_some_iff.1 h).1
theorem D7.below {B : Nat} {W W' : World} {z : Nat} {op nx ls : Int} {k o n : Value} {t : Bool} (h : D7 W z op nx ls k o n t) (hb : Below B W W') (hz : z < B) : D7 W' z op nx ls k o n t := (hb.block z hz).trans h
theorem D7.cells {W : World} {z : Nat} {op nx ls : Int} {k o n : Value} {t : Bool} (h : D7 W z op nx ls k o n t) : W.cell? ⟨z, 0, none⟩ = some (.int .i64 op) ∧ W.cell? ⟨z, 1, none⟩ = some (.int .i64 nx) ∧ W.cell? ⟨z, 2, none⟩ = some (.int .i64 ls) ∧ W.cell? ⟨z, 3, none⟩ = some k ∧ W.cell? ⟨z, 4, none⟩ = some o ∧ W.cell? ⟨z, 5, none⟩ = some n ∧ W.cell? ⟨z, 6, none⟩ = some (.bool t) := by
  unfold D7 at h; simp [World.cell?, h]
theorem D7.other {W : World} {z : Nat} {op nx ls : Int} {k o n : Value} {t : Bool} (h : D7 W z op nx ls k o n t) {j q : Nat} (hj : j ≠ z) (u : Value) : D7 (W.setCell ⟨j, q, none⟩ u) z op nx ls k o n t := by
  unfold D7 at h ⊢
  rw [← h]; exact Below.heap_setCell W ⟨j, q, none⟩ u z (fun e => hj e.symm)
theorem RB.set_t3 {W : World} {B z q : Nat} {a0 a1 a2 : Option Addr} {n0 c0 n1 c1 n2 c2 : Nat} (hp : T3 W z (.slice a0 n0 c0) (.slice a1 n1 c1) (.slice a2 n2 c2)) (v' : Value) {a : Option Addr} {n c : Nat} {k : List UInt8} (h : RB B W a n c k) : RB B (W.setCell ⟨z, q, none⟩ v') a n c k :=
  ⟨h.len, h.le, h.mx, h.lm, fun hc => by
    obtain ⟨b, o, rfl, hB, hcell⟩ := h.at_ hc
    refine ⟨b, o, rfl, hB, fun i hi => ?_⟩
    have hci := hcell i hi
    have hne : z ≠ b := by
      rintro rfl
      unfold T3 at hp
      simp only [World.cell?, hp, Option.isSome_none, Bool.false_eq_true, if_false] at hci
      rcases (show o + i = 0 ∨ o + i = 1 ∨ o + i = 2 ∨ 3 ≤ o + i by omega) with h0 | h0 | h0 | h0
      · rw [h0] at hci; simp at hci
      · rw [h0] at hci; simp at hci
      · rw [h0] at hci; simp at hci
      · rw [Array.getElem?_eq_none (by simp; omega)] at hci; simp at hci
    rw [World.cell?_setCell_far _ _ _ _ (by exact hne)]
    exact hci⟩

set_option maxHeartbeats 4000000 in
set_option maxRecDepth 100000 in
theorem step_no (N B : Nat) (a a' : Option Addr) (n c n' c' : Nat) (L : List UInt8) (op nx ls : Int) (ka oa na : Option Addr) (kn kc on oc nn nc : Nat) (K O M : List UInt8) (tk : Bool) (w : World) (hr : RB N w a n c L) (hr' : RB N w a' n' c' L) (hk : RB B w ka kn kc K) (ho : RB B w oa on oc O) (hn : RB B w na nn nc M)
    (hN : N ≤ w.heap.size) (hB : B ≤ w.heap.size) (sk : kn ≤ 5000) (so : on ≤ 5000) (sn : nn ≤ 5000) (h1 : -9223372036854775808 ≤ op) (h2 : op ≤ 9223372036854775807) (h0 : behindL L = 0) :
    Calls Tryz.prog 47 #[.slice a n c, .slice a' n' c', .agg #[.int .i64 op, .int .i64 nx, .int .i64 ls, .slice ka kn kc, .slice oa on oc, .slice na nn nc, .bool tk]] w fun e w' => e = .returned (.bool true) ∧ Below w.heap.size w w' := by
  have hd := heap_alloc_new w (.cells #[.int .i64 op, .int .i64 nx, .int .i64 ls, .slice ka kn kc, .slice oa on oc, .slice na nn nc, .bool tk] 47)
  have hb0 : Below w.heap.size w (w.alloc (.cells #[.int .i64 op, .int .i64 nx, .int .i64 ls, .slice ka kn kc, .slice oa on oc, .slice na nn nc, .bool tk] 47)) := (Below.refl _ w).alloc (Nat.le_refl _) _
  have ht := T3.new (w.alloc (.cells #[.int .i64 op, .int .i64 nx, .int .i64 ls, .slice ka kn kc, .slice oa on oc, .slice na nn nc, .bool tk] 47)) (.slice ka kn kc) (.slice oa on oc) (.slice na nn nc)
  have hb1 := hb0.alloc hb0.size (.cells #[.slice ka kn kc, .slice oa on oc, .slice na nn nc] 36)
  have hd1 : D7 ((w.alloc (.cells #[.int .i64 op, .int .i64 nx, .int .i64 ls, .slice ka kn kc, .slice oa on oc, .slice na nn nc, .bool tk] 47)).alloc (.cells #[.slice ka kn kc, .slice oa on oc, .slice na nn nc] 36)) w.heap.size op nx ls (.slice ka kn kc) (.slice oa on oc) (.slice na nn nc) tk := (D7.below (W := w.alloc (.cells #[.int .i64 op, .int .i64 nx, .int .i64 ls, .slice ka kn kc, .slice oa on oc, .slice na nn nc, .bool tk] 47)) hd ((Below.refl _ _).alloc (Nat.le_refl _) _) (by rw [World.size_alloc]; omega))
  have hsz : (w.alloc (.cells #[.int .i64 op, .int .i64 nx, .int .i64 ls, .slice ka kn kc, .slice oa on oc, .slice na nn nc, .bool tk] 47)).heap.size = w.heap.size + 1 := World.size_alloc _ _
  rw [hsz] at ht
  obtain ⟨z, hz⟩ : ∃ z, z = w.heap.size := ⟨_, rfl⟩
  obtain ⟨w1, hw1⟩ : ∃ w1, w1 = (w.alloc (.cells #[.int .i64 op, .int .i64 nx, .int .i64 ls, .slice ka kn kc, .slice oa on oc, .slice na nn nc, .bool tk] 47)).alloc (.cells #[.slice ka kn kc, .slice oa on oc, .slice na nn nc] 36) := ⟨_, rfl⟩
  rw [← hw1] at ht hb1 hd1
  rw [← hz] at ht hd1
  have hzs : z + 2 ≤ w1.heap.size := by rw [hw1, World.size_alloc, hsz]; omega
  have Hw1 := Lib.hid hw1
  have Hz := Lib.hid hz
  have hzw : w.heap.size ≤ z := by omega
  have D1 := Lib.hid hd1
  have T1 := Lib.hid ht
  have B1 := Lib.hid hb1
  have HR := Lib.hid hr
  have HR' := Lib.hid hr'
  have HK := Lib.hid hk
  have HO := Lib.hid ho
  have HM := Lib.hid hn
  have H0 := Lib.hid h0
  clear hd hb0 ht hb1 hd1 hsz hz hw1 hr hr' hk ho hn h0
  go_enter Tryz.func47, Tryz.ntmps47
  go_upto_region 3 with (fail)
  rw [← Hw1.out, ← Hz.out]
  obtain ⟨c0, c1, c2, c3, c4, c5, c6⟩ := D1.out.cells
  obtain ⟨t0, t1, t2⟩ := T1.out.cells
  have HG := Lib.hid (rGet_any N B a' ka n' c' kn kc L K w1 (HR'.out.below (B1.out.mono hN)) (HK.out.below (B1.out.mono hB)) (Nat.le_trans hN B1.out.size) (Nat.le_trans hB B1.out.size))
  have hgl := get_len L K
  have Hgl := Lib.hid hgl
  clear hgl
  go_upto_if 13 with (fail)
  go_cut [14] (fun _ wx => ∃ (oa1 : Option Addr) (on1 oc1 : Nat) (O1 : List UInt8), on1 ≤ 5000 ∧ Hid (RB wx.heap.size wx oa1 on1 oc1 O1) ∧ Hid (T3 wx (z + 1) (.slice ka kn kc) (.slice oa1 on1 oc1) (.slice na nn nc)) ∧ Hid (D7 wx z op nx ls (.slice ka kn kc) (.slice oa on oc) (.slice na nn nc) tk) ∧ Hid (Below w.heap.size w wx) ∧ z + 2 ≤ wx.heap.size)
  case first =>
    cases tk with
    | true =>
      go_wp2_with (fail)
      go_at_call 26
      refine HG.out.mono ?_
      rintro e w2 ⟨⟨va, vn, vc, rfl, hrb⟩, hb2⟩
      have T2 := T1.out.below hb2 T1.out.lt
      have D2 := D1.out.below hb2 D1.out.lt
      have B2 := Lib.hid (B1.out.trans (hb2.mono B1.out.size))
      have hvn : vn ≤ 5000 := by have := hrb.len; have := Hgl.out; omega
      have hz2 : z + 2 ≤ w2.heap.size := Nat.le_trans hzs hb2.size
      have Hrb := Lib.hid hrb
      have TT := Lib.hid T2
      have DD := Lib.hid D2
      obtain ⟨s0, s1, s2⟩ := T2.cells
      obtain ⟨f0, f1, f2⟩ := T2.frozen
      clear c0 c1 c2 c3 c4 c5 c6 t0 t1 t2 T2 D2 hrb hb2
      go_wp2_with (fail)
      go_meet
      case rel =>
        have hss : (w2.setCell ⟨z + 1, 1, none⟩ (.slice va vn vc)).heap.size = w2.heap.size := by simp [World.setCell]
        exact ⟨va, vn, vc, (getL L K).getD [], hvn, Lib.hid (by rw [hss]; exact Hrb.out.set_t3 TT.out _), Lib.hid (TT.out.set1 _), Lib.hid (DD.out.other (by omega) _), Lib.hid (B2.out.setCell (p := ⟨z + 1, 1, none⟩) (by show w.heap.size ≤ z + 1; omega) _), by rw [hss]; exact hz2⟩
    | false =>
      go_wp2_with (fail)
      go_meet
      case rel => exact ⟨oa, on, oc, O, so, Lib.hid ((HO.out.below (B1.out.mono hB)).mono (Nat.le_trans hB B1.out.size)), T1, D1, B1, hzs⟩
  case rest =>
    obtain ⟨oa1, on1, oc1, O1, so1, HO1, T3', D3, B3, hz3⟩ := hcut
    rename World => w3
    have HL := Lib.hid (LentTurn_any w3.heap.size ka oa1 na kn kc on1 oc1 nn nc K O1 M w3 ((HK.out.below (B3.out.mono hB)).mono (Nat.le_trans hB B3.out.size)) HO1.out ((HM.out.below (B3.out.mono hB)).mono (Nat.le_trans hB B3.out.size)) (Nat.le_refl _) (by omega) (by omega) (by omega))
    obtain ⟨e0, e1, e2, e3, e4, e5, e6⟩ := D3.out.cells
    obtain ⟨t0, t1, t2⟩ := T3'.out.cells
    go_upto_if 39 with (fail)
    go_at_call 78
    refine HL.out.mono ?_
    rintro e w4 ⟨⟨g0, g1, g2, d0, d1, d2, rfl, hl⟩, hb4⟩
    have hti := T3.new w4 (.slice (some ⟨g0, 0, none⟩) kn d0) (.slice (some ⟨g1, 0, none⟩) on1 d1) (.slice (some ⟨g2, 0, none⟩) nn d2)
    obtain ⟨w5, hw5⟩ : ∃ w5, w5 = w4.alloc (.cells #[.slice (some ⟨g0, 0, none⟩) kn d0, .slice (some ⟨g1, 0, none⟩) on1 d1, .slice (some ⟨g2, 0, none⟩) nn d2] 36) := ⟨_, rfl⟩
    obtain ⟨y, hy⟩ : ∃ y, y = w4.heap.size := ⟨_, rfl⟩
    rw [← hw5, ← hy] at hti
    have hys : y < w5.heap.size := hti.lt
    have hb5 : Below w4.heap.size w4 w5 := by rw [hw5]; exact (Below.refl _ w4).alloc (Nat.le_refl _) _
    have hyz : z + 2 ≤ y := by have := hb4.size; omega
    have hl5 := hl.below hb5
    have T5 := Lib.hid ((T3'.out.below hb4 T3'.out.lt).below hb5 (by omega))
    have D5 := Lib.hid ((D3.out.below hb4 D3.out.lt).below hb5 (by omega))
    have B5 := Lib.hid (B3.out.trans ((hb4.trans (hb5.mono hb4.size)).mono B3.out.size))
    have HO5 := Lib.hid ((HO1.out.below hb4).below (hb5.mono hb4.size))
    have hbase : w3.heap.size ≤ w5.heap.size := Nat.le_trans hb4.size hb5.size
    have hbz : w.heap.size ≤ w3.heap.size := B3.out.size
    have TI := Lib.hid hti
    have HL5 := Lib.hid hl5
    have Hw5 := Lib.hid hw5
    have Hy := Lib.hid hy
    have HP := Lib.hid (Pick_any op w5 h1 h2)
    clear hl hb4 hti hb5 hl5 hw5 hy HL e0 e1 e2 e3 e4 e5 e6 t0 t1 t2
    obtain ⟨e0, e1, e2, e3, e4, e5, e6⟩ := D5.out.cells
    obtain ⟨t0, t1, t2⟩ := T5.out.cells
    obtain ⟨i0, i1, i2⟩ := TI.out.cells
    go_upto_region 6 with (fail)
    rw [← Hw5.out, ← Hy.out]
    go_upto_if 39 with (fail)
    go_at_call 79
    refine HP.out.mono ?_
    rintro e w6 ⟨rfl, rfl⟩
    obtain ⟨pk, hpk⟩ : ∃ pk, pk = pickL op := ⟨_, rfl⟩
    rw [← hpk]
    clear hpk HP
    by_cases p0 : pk = 0
    · rw [p0]
      clear p0 pk
      go_upto_region 9 with (fail)
      have HA := Lib.hid (SetLsn_no N a n c L ls w5.drew (HR.out.below (B5.out.drew.mono hN)) (Nat.le_trans hN B5.out.drew.size) H0.out)
      go_region_held3 (fun w' => w'.cell? ⟨z, 2, none⟩ = some (.int .i64 ls)) (first | go_keep | assumption) (first | (go_at_call 17; ((with_reducible refine HA.out.mono ?_)); rintro e wA ⟨rfl, hA⟩; have EA := Lib.hid (B5.out.drew.trans (hA.mono B5.out.drew.size)); have DA := Lib.hid (D7.below (W := w5.drew) D5.out hA D5.out.lt); have cA := DA.out.cells.2.2.1; have FA := Lib.hid ((Below.refl w5.heap.size w5).drew.trans hA); have HB := Lib.hid (rSetLsn_no N a' n' c' L ls wA (HR'.out.below (EA.out.mono hN)) (Nat.le_trans hN EA.out.size) H0.out); clear hA) | (go_at_call 80; ((with_reducible refine HB.out.mono ?_)); rintro e wB ⟨rfl, hB⟩; have EB := Lib.hid (EA.out.trans (hB.mono EA.out.size)); have FB := Lib.hid (FA.out.trans (hB.mono FA.out.size)); have DB := Lib.hid (DA.out.below hB DA.out.lt); have cB := DB.out.cells.2.2.1; clear hB))
      obtain ⟨iV0, iV1, iV2⟩ := (TI.out.below FB.out TI.out.lt).cells
      have HV := Lib.hid (OverTurn_any w3.heap.size g0 g1 g2 d0 d1 d2 kn on1 nn K O1 M wB (HL5.out.below FB.out) (Nat.le_trans hbase FB.out.size) (by omega) (by omega) (by omega))
      go_wp2_with (fail)
      go_at_call 84
      refine HV.out.mono ?_
      rintro e wv ⟨rfl, hv⟩
      have EV := Lib.hid (EB.out.trans (hv.mono hbz))
      have HE := Lib.hid (SameBytes_any N a a' n c n' c' L L wv (HR.out.below (EV.out.mono hN)) (HR'.out.below (EV.out.mono hN)))
      rw [eqB_self] at HE
      clear hv HV
      go_wp2_with (fail)
      go_at_call 24
      refine HE.out.mono ?_
      rintro e wz ⟨rfl, q, rfl⟩
      go_wp2_with (fail)
      go_ret
      exact ⟨rfl, below_dn EV.out q⟩
    · by_cases p1 : pk = 1
      · rw [p1]
        clear p0 p1 pk
        go_upto_region 11 with (fail)
        have HA := Lib.hid (SetNext_no N a n c L nx w5.drew (HR.out.below (B5.out.drew.mono hN)) (Nat.le_trans hN B5.out.drew.size) H0.out)
        go_region_held3 (fun w' => w'.cell? ⟨z, 1, none⟩ = some (.int .i64 nx)) (first | go_keep | assumption) (first | (go_at_call 19; ((with_reducible refine HA.out.mono ?_)); rintro e wA ⟨rfl, hA⟩; have EA := Lib.hid (B5.out.drew.trans (hA.mono B5.out.drew.size)); have DA := Lib.hid (D7.below (W := w5.drew) D5.out hA D5.out.lt); have cA := DA.out.cells.2.1; have FA := Lib.hid ((Below.refl w5.heap.size w5).drew.trans hA); have HB := Lib.hid (rSetNext_no N a' n' c' L nx wA (HR'.out.below (EA.out.mono hN)) (Nat.le_trans hN EA.out.size) H0.out); clear hA) | (go_at_call 81; ((with_reducible refine HB.out.mono ?_)); rintro e wB ⟨rfl, hB⟩; have EB := Lib.hid (EA.out.trans (hB.mono EA.out.size)); have FB := Lib.hid (FA.out.trans (hB.mono FA.out.size)); have DB := Lib.hid (DA.out.below hB DA.out.lt); have cB := DB.out.cells.2.1; clear hB))
        obtain ⟨iV0, iV1, iV2⟩ := (TI.out.below FB.out TI.out.lt).cells
        have HV := Lib.hid (OverTurn_any w3.heap.size g0 g1 g2 d0 d1 d2 kn on1 nn K O1 M wB (HL5.out.below FB.out) (Nat.le_trans hbase FB.out.size) (by omega) (by omega) (by omega))
        go_wp2_with (fail)
        go_at_call 84
        refine HV.out.mono ?_
        rintro e wv ⟨rfl, hv⟩
        have EV := Lib.hid (EB.out.trans (hv.mono hbz))
        have HE := Lib.hid (SameBytes_any N a a' n c n' c' L L wv (HR.out.below (EV.out.mono hN)) (HR'.out.below (EV.out.mono hN)))
        rw [eqB_self] at HE
        clear hv HV
        go_wp2_with (fail)
        go_at_call 24
        refine HE.out.mono ?_
        rintro e wz ⟨rfl, q, rfl⟩
        go_wp2_with (fail)
        go_ret
        exact ⟨rfl, below_dn EV.out q⟩
      · have d0' := decide_eq_false p0
        have d1' := decide_eq_false p1
        have q0 := beq_false_of_ne p0
        have q1 := beq_false_of_ne p1
        go_upto_region 7 with (fail)
        have HA := Lib.hid (Turn_no N a n c L (some ⟨g0, 0, none⟩) (some ⟨g1, 0, none⟩) (some ⟨g2, 0, none⟩) kn d0 on1 d1 nn d2 w5.drew (HR.out.below (B5.out.drew.mono hN)) (Nat.le_trans hN B5.out.drew.size) H0.out)
        go_region_held3 (fun w' => (w'.cell? ⟨z + 1, 0, none⟩ = some (.slice ka kn kc) ∧ w'.cell? ⟨z + 1, 1, none⟩ = some (.slice oa1 on1 oc1) ∧ w'.cell? ⟨z + 1, 2, none⟩ = some (.slice na nn nc)) ∧ (w'.cell? ⟨y, 0, none⟩ = some (.slice (some ⟨g0, 0, none⟩) kn d0) ∧ w'.cell? ⟨y, 1, none⟩ = some (.slice (some ⟨g1, 0, none⟩) on1 d1) ∧ w'.cell? ⟨y, 2, none⟩ = some (.slice (some ⟨g2, 0, none⟩) nn d2))) (first | go_keep | exact ⟨⟨by assumption, by assumption, by assumption⟩, ⟨by assumption, by assumption, by assumption⟩⟩) (first | (go_at_call 14; ((with_reducible refine HA.out.mono ?_)); rintro e wA ⟨rfl, hA⟩; have EA := Lib.hid (B5.out.drew.trans (hA.mono B5.out.drew.size)); have DA := Lib.hid (T3.below (W := w5.drew) T5.out hA T5.out.lt); obtain ⟨cA0, cA1, cA2⟩ := DA.out.cells; have IA := Lib.hid (T3.below (W := w5.drew) TI.out hA TI.out.lt); obtain ⟨iA0, iA1, iA2⟩ := IA.out.cells; have FA := Lib.hid ((Below.refl w5.heap.size w5).drew.trans hA); have HB := Lib.hid (rTurn_no N a' n' c' L ka oa1 na kn kc on1 oc1 nn nc wA (HR'.out.below (EA.out.mono hN)) (Nat.le_trans hN EA.out.size) H0.out); clear hA) | (go_at_call 82; ((with_reducible refine HB.out.mono ?_)); rintro e wB ⟨rfl, hQ⟩; have EB := Lib.hid (EA.out.trans (hQ.mono EA.out.size)); have FB := Lib.hid (FA.out.trans (hQ.mono FA.out.size)); have DB := Lib.hid (DA.out.below hQ DA.out.lt); obtain ⟨cB0, cB1, cB2⟩ := DB.out.cells; have IB := Lib.hid (IA.out.below hQ IA.out.lt); obtain ⟨iB0, iB1, iB2⟩ := IB.out.cells; have HC := Lib.hid (KeptTurn_any w3.heap.size w3.heap.size g0 g1 g2 d0 d1 d2 ka oa1 na kn kc on1 oc1 nn nc K O1 M wB (HL5.out.below FB.out) ((HK.out.below (EB.out.mono hB)).mono (Nat.le_trans hB hbz)) (HO5.out.below (FB.out.mono hbase)) ((HM.out.below (EB.out.mono hB)).mono (Nat.le_trans hB hbz)) (Nat.le_trans hbase FB.out.size) (by omega) (by omega) (by omega)); clear hQ) | (go_at_call 83; ((with_reducible refine HC.out.mono ?_)); rintro e wC ⟨rfl, hC⟩; have EC := Lib.hid (EB.out.trans (hC.mono EB.out.size)); have FC := Lib.hid (FB.out.trans (hC.mono FB.out.size)); obtain ⟨cC0, cC1, cC2⟩ := (DB.out.below hC DB.out.lt).cells; obtain ⟨iC0, iC1, iC2⟩ := (IB.out.below hC IB.out.lt).cells; clear hC))
        obtain ⟨iV0, iV1, iV2⟩ := (TI.out.below FC.out TI.out.lt).cells
        have HV := Lib.hid (OverTurn_any w3.heap.size g0 g1 g2 d0 d1 d2 kn on1 nn K O1 M wC (HL5.out.below FC.out) (Nat.le_trans hbase FC.out.size) (by omega) (by omega) (by omega))
        go_wp2_with (fail)
        go_at_call 84
        refine HV.out.mono ?_
        rintro e wv ⟨rfl, hv⟩
        have EV := Lib.hid (EC.out.trans (hv.mono hbz))
        have HE := Lib.hid (SameBytes_any N a a' n c n' c' L L wv (HR.out.below (EV.out.mono hN)) (HR'.out.below (EV.out.mono hN)))
        rw [eqB_self] at HE
        clear hv HV
        go_wp2_with (fail)
        go_at_call 24
        refine HE.out.mono ?_
        rintro e wz ⟨rfl, q, rfl⟩
        go_wp2_with (fail)
        go_ret
        exact ⟨rfl, below_dn EV.out q⟩
end Go.Proofs.YtbinikbgbgggaaaGreatDoor
namespace Go.Proofs.YtbinikbgbgggaaaGreatDoor
open Go.RowKit Go.Shelf

/-- Nothing that lay has turned, but for blocks g and h. -/
structure Mod2 (g h : Nat) (w w' : World) : Prop where
  os : w'.os = w.os
  tape : w'.tape = w.tape
  output : w'.output = w.output
  size : w.heap.size ≤ w'.heap.size
  block : ∀ k, k < w.heap.size → k ≠ g → k ≠ h → w'.heap[k]? = w.heap[k]?
theorem Mod2.refl (g h : Nat) (w : World) : Mod2 g h w w := ⟨rfl, rfl, rfl, Nat.le_refl _, fun _ _ _ _ => rfl⟩
theorem Mod2.trans {g h : Nat} {a b c : World} (h1 : Mod2 g h a b) (h2 : Mod2 g h b c) : Mod2 g h a c :=
  ⟨h2.os.trans h1.os, h2.tape.trans h1.tape, h2.output.trans h1.output, Nat.le_trans h1.size h2.size, fun k hk e1 e2 => (h2.block k (Nat.lt_of_lt_of_le hk h1.size) e1 e2).trans (h1.block k hk e1 e2)⟩
theorem Mod2.one {g h : Nat} {a b : World} (m : Mod g a b) : Mod2 g h a b := ⟨m.os, m.tape, m.output, m.size, fun k hk e1 _ => m.block' hk e1⟩
theorem Mod2.two {g h : Nat} {a b : World} (m : Mod h a b) : Mod2 g h a b := ⟨m.os, m.tape, m.output, m.size, fun k hk _ e2 => m.block' hk e2⟩
theorem Mod2.below {g h B : Nat} {a b c : World} (m : Mod2 g h a b) (hb : Below B b c) (hB : a.heap.size ≤ B) : Mod2 g h a c :=
  ⟨hb.os.trans m.os, hb.tape.trans m.tape, hb.output.trans m.output, Nat.le_trans m.size hb.size, fun k hk e1 e2 => (hb.block k (Nat.lt_of_lt_of_le hk hB)).trans (m.block k hk e1 e2)⟩
theorem Mod2.drew {g h : Nat} {a b : World} (m : Mod2 g h a b) : Mod2 g h a b.drew := ⟨m.os, m.tape, m.output, m.size, m.block⟩
theorem Mod2.drewN {g h : Nat} {a b : World} (m : Mod2 g h a b) (q : Nat) : Mod2 g h a (b.drewN q) := ⟨m.os, m.tape, m.output, m.size, m.block⟩
theorem Mod2.of_below {g h B : Nat} {a b : World} (hb : Below B a b) (hB : a.heap.size ≤ B) : Mod2 g h a b := (Mod2.refl g h a).below hb hB
theorem Mod2.low {g h B : Nat} {a b : World} (m : Mod2 g h a b) (h1 : B ≤ g) (h2 : B ≤ h) (hB : B ≤ a.heap.size) : Below B a b :=
  ⟨m.os, m.tape, m.output, m.size, fun k hk => m.block k (by omega) (by omega) (by omega)⟩
theorem D7.mod2 {g h : Nat} {W W' : World} {z : Nat} {op nx ls : Int} {k o n : Value} {t : Bool} (d : D7 W z op nx ls k o n t) (m : Mod2 g h W W') (h1 : g < z) (h2 : h < z) : D7 W' z op nx ls k o n t := (m.block z d.lt (by omega) (by omega)).trans d
theorem T3.mod2 {g h : Nat} {W W' : World} {z : Nat} {v0 v1 v2 : Value} (d : T3 W z v0 v1 v2) (m : Mod2 g h W W') (h1 : g < z) (h2 : h < z) : T3 W' z v0 v1 v2 := (m.block z d.lt (by omega) (by omega)).trans d
theorem OB.mod2 {base g h : Nat} {W W' : World} {v : Value} {l : List UInt8} (o : OB base W v l) (m : Mod2 g h W W') (h1 : g < base) (h2 : h < base) : OB base W' v l := by
  obtain ⟨e1, h3 | ⟨k, cap, cur, hv, hk, hh, r⟩⟩ := o
  · exact ⟨e1, .inl h3⟩
  · exact ⟨e1, .inr ⟨k, cap, cur, hv, hk, (m.block k (Array.getElem?_eq_some_iff.1 hh).1 (by omega) (by omega)).trans hh, r⟩⟩
theorem LentAt.mod2 {g h base : Nat} {w w' : World} {g0 g1 g2 kn on nn d0 d1 d2 : Nat} {K O N : List UInt8} (l : LentAt base w g0 g1 g2 kn on nn d0 d1 d2 K O N) (m : Mod2 g h w w') (h1 : g < base) (h2 : h < base) : LentAt base w' g0 g1 g2 kn on nn d0 d1 d2 K O N :=
  ⟨l.o0.mod2 m h1 h2, l.o1.mod2 m h1 h2, l.o2.mod2 m h1 h2, l.n01, l.n12⟩
/-- Bytes that lie in neither of two blocks. -/
structure RBm (g h B : Nat) (w : World) (a : Option Addr) (n c : Nat) (l : List UInt8) : Prop where
  rb : RB B w a n c l
  ne : 0 < c → ∀ b o s, a = some ⟨b, o, s⟩ → b ≠ g ∧ b ≠ h
theorem RBm.left {g h B : Nat} {w : World} {a : Option Addr} {n c : Nat} {l : List UInt8} (r : RBm g h B w a n c l) : RBn g B w a n c l := ⟨r.rb, fun hc b o s e => (r.ne hc b o s e).1⟩
theorem RBm.right {g h B : Nat} {w : World} {a : Option Addr} {n c : Nat} {l : List UInt8} (r : RBm g h B w a n c l) : RBn h B w a n c l := ⟨r.rb, fun hc b o s e => (r.ne hc b o s e).2⟩
theorem RBm.mono {g h B B' : Nat} {w : World} {a : Option Addr} {n c : Nat} {l : List UInt8} (r : RBm g h B w a n c l) (hb : B ≤ B') : RBm g h B' w a n c l := ⟨r.rb.mono hb, r.ne⟩
theorem RBm.below {g h B : Nat} {w w' : World} {a : Option Addr} {n c : Nat} {l : List UInt8} (r : RBm g h B w a n c l) (hb : Below B w w') : RBm g h B w' a n c l := ⟨r.rb.below hb, r.ne⟩
theorem RBm.of_rb {g h B : Nat} {w : World} {a : Option Addr} {n c : Nat} {l : List UInt8} (r : RB B w a n c l) (h1 : B ≤ g) (h2 : B ≤ h) : RBm g h B w a n c l :=
  ⟨r, fun hc b o s e => ⟨(RBn.of_rb r h1).ne hc b o s e, (RBn.of_rb r h2).ne hc b o s e⟩⟩
theorem RBm.of_far {g h B base : Nat} {w : World} {a : Option Addr} {n c : Nat} {l : List UInt8} (r : RB B w a n c l) (hf : Far base (.slice a n c)) (h1 : g < base) (h2 : h < base) : RBm g h B w a n c l :=
  ⟨r, fun hc b o s e => by have := hf b o s n c (by rw [e]) hc; omega⟩
theorem RBm.mod2 {g h B : Nat} {w w' : World} {a : Option Addr} {n c : Nat} {l : List UInt8} (r : RBm g h B w a n c l) (m : Mod2 g h w w') (hB : B ≤ w.heap.size) : RBm g h B w' a n c l :=
  ⟨⟨r.rb.len, r.rb.le, r.rb.mx, r.rb.lm, fun hc => by
    obtain ⟨b, o, rfl, hb, hcell⟩ := r.rb.at_ hc
    obtain ⟨n1, n2⟩ := r.ne hc b o none rfl
    exact ⟨b, o, rfl, hb, fun i hi => (World.cell?_of_block (w := w) (a := ⟨b, o + i, none⟩) (m.block b (by omega) n1 n2)).trans (hcell i hi)⟩⟩, r.ne⟩
theorem OB.rbm {g h base : Nat} {w : World} {k n d : Nat} {l : List UInt8} (o : OB base w (.slice (some ⟨k, 0, none⟩) (n + 12) d) (l ++ lentT)) (hn : n ≤ 100000) (hl : n = l.length) (h1 : g < base) (h2 : h < base) : RBm g h w.heap.size w (some ⟨k, 0, none⟩) n d l := by
  have q := o.own k rfl
  exact ⟨(o.rb12 hn).of12 hl, fun _ b o' s e => by cases e; omega⟩

theorem SetLsn_R (g c : Nat) (L : List UInt8) (X : List Value) (x : Int) (w : World) (hp : PG w g c L X) (h0 : 0 < behindL L) (hx : x ≤ 9223372036854775807) :
    Calls Tryz.prog 17 #[.slice (some ⟨g, 0, none⟩) 512 c, .int .i64 x] w (SetR g c (decide (0 ≤ x)) (setLsnL L x) X w) := by
  refine (SetLsn_any g c L X x w hp hx).mono ?_
  rintro e w' ⟨rfl, h1, h2⟩
  exact ⟨by simp [h0], h1, h2⟩
theorem SetNext_R (g c : Nat) (L : List UInt8) (X : List Value) (x : Int) (w : World) (hp : PG w g c L X) (h0 : 0 < behindL L) :
    Calls Tryz.prog 19 #[.slice (some ⟨g, 0, none⟩) 512 c, .int .i64 x] w (SetR g c (decide (0 ≤ x ∧ x < 8192)) (setNextL L x) X w) := by
  refine (SetNext_any g c L X x w hp).mono ?_
  rintro e w' ⟨rfl, h1, h2⟩
  exact ⟨by simp [h0], h1, h2⟩

set_option maxHeartbeats 8000000 in
set_option maxRecDepth 100000 in
theorem step_yes (g g' c c' : Nat) (L : List UInt8) (X X' : List Value) (B : Nat) (op nx ls : Int) (ka oa na : Option Addr) (kn kc on oc nn nc : Nat) (K O M : List UInt8) (tk : Bool) (w : World) (hp : PG w g c L X) (hp' : PG w g' c' L X') (hgg : g ≠ g') (hk : RB B w ka kn kc K) (ho : RB B w oa on oc O) (hn : RB B w na nn nc M)
    (hB : B ≤ w.heap.size) (hg : B ≤ g) (hg' : B ≤ g') (sk : kn ≤ 5000) (so : on ≤ 5000) (sn : nn ≤ 5000) (h1 : -9223372036854775808 ≤ op) (h2 : op ≤ 9223372036854775807) (hls : ls ≤ 9223372036854775807) (h0 : 0 < behindL L) :
    Calls Tryz.prog 47 #[.slice (some ⟨g, 0, none⟩) 512 c, .slice (some ⟨g', 0, none⟩) 512 c', .agg #[.int .i64 op, .int .i64 nx, .int .i64 ls, .slice ka kn kc, .slice oa on oc, .slice na nn nc, .bool tk]] w fun e w' => e = .returned (.bool true) ∧ (∃ L', PG w' g c L' X ∧ PG w' g' c' L' X') ∧ Mod2 g g' w w' := by
  have hd := heap_alloc_new w (.cells #[.int .i64 op, .int .i64 nx, .int .i64 ls, .slice ka kn kc, .slice oa on oc, .slice na nn nc, .bool tk] 47)
  have hb0 : Below w.heap.size w (w.alloc (.cells #[.int .i64 op, .int .i64 nx, .int .i64 ls, .slice ka kn kc, .slice oa on oc, .slice na nn nc, .bool tk] 47)) := (Below.refl _ w).alloc (Nat.le_refl _) _
  have ht := T3.new (w.alloc (.cells #[.int .i64 op, .int .i64 nx, .int .i64 ls, .slice ka kn kc, .slice oa on oc, .slice na nn nc, .bool tk] 47)) (.slice ka kn kc) (.slice oa on oc) (.slice na nn nc)
  have hb1 := hb0.alloc hb0.size (.cells #[.slice ka kn kc, .slice oa on oc, .slice na nn nc] 36)
  have hd1 : D7 ((w.alloc (.cells #[.int .i64 op, .int .i64 nx, .int .i64 ls, .slice ka kn kc, .slice oa on oc, .slice na nn nc, .bool tk] 47)).alloc (.cells #[.slice ka kn kc, .slice oa on oc, .slice na nn nc] 36)) w.heap.size op nx ls (.slice ka kn kc) (.slice oa on oc) (.slice na nn nc) tk := (D7.below (W := w.alloc (.cells #[.int .i64 op, .int .i64 nx, .int .i64 ls, .slice ka kn kc, .slice oa on oc, .slice na nn nc, .bool tk] 47)) hd ((Below.refl _ _).alloc (Nat.le_refl _) _) (by rw [World.size_alloc]; omega))
  have hsz : (w.alloc (.cells #[.int .i64 op, .int .i64 nx, .int .i64 ls, .slice ka kn kc, .slice oa on oc, .slice na nn nc, .bool tk] 47)).heap.size = w.heap.size + 1 := World.size_alloc _ _
  rw [hsz] at ht
  obtain ⟨z, hz⟩ : ∃ z, z = w.heap.size := ⟨_, rfl⟩
  obtain ⟨w1, hw1⟩ : ∃ w1, w1 = (w.alloc (.cells #[.int .i64 op, .int .i64 nx, .int .i64 ls, .slice ka kn kc, .slice oa on oc, .slice na nn nc, .bool tk] 47)).alloc (.cells #[.slice ka kn kc, .slice oa on oc, .slice na nn nc] 36) := ⟨_, rfl⟩
  rw [← hw1] at ht hb1 hd1
  rw [← hz] at ht hd1
  have hzs : z + 2 ≤ w1.heap.size := by rw [hw1, World.size_alloc, hsz]; omega
  have Hw1 := Lib.hid hw1
  have Hz := Lib.hid hz
  have hzw : w.heap.size ≤ z := by omega
  have hgl1 : g < w.heap.size := hp.lt
  have hgl2 : g' < w.heap.size := hp'.lt
  have D1 := Lib.hid hd1
  have T1 := Lib.hid ht
  have B1 := Lib.hid hb1
  have HP := Lib.hid hp
  have HP' := Lib.hid hp'
  have HK := Lib.hid hk
  have HO := Lib.hid ho
  have HM := Lib.hid hn
  have H0 := Lib.hid h0
  have Hgg := Lib.hid hgg
  clear hd hb0 ht hb1 hd1 hsz hz hw1 hp hp' hk ho hn h0 hgg
  go_enter Tryz.func47, Tryz.ntmps47
  go_upto_region 3 with (fail)
  rw [← Hw1.out, ← Hz.out]
  obtain ⟨c0, c1, c2, c3, c4, c5, c6⟩ := D1.out.cells
  obtain ⟨t0, t1, t2⟩ := T1.out.cells
  have HG := Lib.hid (rGet_far w1.heap.size B (some ⟨g', 0, none⟩) ka 512 c' kn kc L K w1 (HP'.out.below B1.out hgl2).rb (HK.out.below (B1.out.mono hB)) (Nat.le_refl _) (Nat.le_trans hB B1.out.size))
  have hgl := get_len L K
  have Hgl := Lib.hid hgl
  clear hgl
  go_upto_if 13 with (fail)
  go_cut [14] (fun _ wx => ∃ (oa1 : Option Addr) (on1 oc1 : Nat) (O1 : List UInt8), on1 ≤ 5000 ∧ Hid (RBm g g' wx.heap.size wx oa1 on1 oc1 O1) ∧ Hid (T3 wx (z + 1) (.slice ka kn kc) (.slice oa1 on1 oc1) (.slice na nn nc)) ∧ Hid (D7 wx z op nx ls (.slice ka kn kc) (.slice oa on oc) (.slice na nn nc) tk) ∧ Hid (Below w.heap.size w wx) ∧ z + 2 ≤ wx.heap.size)
  case first =>
    cases tk with
    | true =>
      go_wp2_with (fail)
      go_at_call 26
      refine HG.out.mono ?_
      rintro e w2 ⟨⟨va, vn, vc, rfl, hrb, hfar⟩, hb2⟩
      have T2 := T1.out.below hb2 T1.out.lt
      have D2 := D1.out.below hb2 D1.out.lt
      have B2 := Lib.hid (B1.out.trans (hb2.mono B1.out.size))
      have hvn : vn ≤ 5000 := by have := hrb.len; have := Hgl.out; omega
      have hz2 : z + 2 ≤ w2.heap.size := Nat.le_trans hzs hb2.size
      have Hrb := Lib.hid hrb
      have Hfar := Lib.hid hfar
      have TT := Lib.hid T2
      have DD := Lib.hid D2
      obtain ⟨s0, s1, s2⟩ := T2.cells
      obtain ⟨f0, f1, f2⟩ := T2.frozen
      clear c0 c1 c2 c3 c4 c5 c6 t0 t1 t2 T2 D2 hrb hb2 hfar
      go_wp2_with (fail)
      go_meet
      case rel =>
        have hss : (w2.setCell ⟨z + 1, 1, none⟩ (.slice va vn vc)).heap.size = w2.heap.size := by simp [World.setCell]
        exact ⟨va, vn, vc, (getL L K).getD [], hvn, Lib.hid (by rw [hss]; exact RBm.of_far (Hrb.out.set_t3 TT.out _) Hfar.out (by omega) (by omega)), Lib.hid (TT.out.set1 _), Lib.hid (DD.out.other (by omega) _), Lib.hid (B2.out.setCell (p := ⟨z + 1, 1, none⟩) (by show w.heap.size ≤ z + 1; omega) _), by rw [hss]; exact hz2⟩
    | false =>
      go_wp2_with (fail)
      go_meet
      case rel => exact ⟨oa, on, oc, O, so, Lib.hid ((RBm.of_rb (HO.out.below (B1.out.mono hB)) hg hg').mono (Nat.le_trans hB B1.out.size)), T1, D1, B1, hzs⟩
  case rest =>
    obtain ⟨oa1, on1, oc1, O1, so1, HO1, T3', D3, B3, hz3⟩ := hcut
    rename World => w3
    have HL := Lib.hid (LentTurn_any w3.heap.size ka oa1 na kn kc on1 oc1 nn nc K O1 M w3 ((HK.out.below (B3.out.mono hB)).mono (Nat.le_trans hB B3.out.size)) HO1.out.rb ((HM.out.below (B3.out.mono hB)).mono (Nat.le_trans hB B3.out.size)) (Nat.le_refl _) (by omega) (by omega) (by omega))
    obtain ⟨e0, e1, e2, e3, e4, e5, e6⟩ := D3.out.cells
    obtain ⟨t0, t1, t2⟩ := T3'.out.cells
    go_upto_if 39 with (fail)
    go_at_call 78
    refine HL.out.mono ?_
    rintro e w4 ⟨⟨g0, g1, g2, d0, d1, d2, rfl, hl⟩, hb4⟩
    have hti := T3.new w4 (.slice (some ⟨g0, 0, none⟩) kn d0) (.slice (some ⟨g1, 0, none⟩) on1 d1) (.slice (some ⟨g2, 0, none⟩) nn d2)
    obtain ⟨w5, hw5⟩ : ∃ w5, w5 = w4.alloc (.cells #[.slice (some ⟨g0, 0, none⟩) kn d0, .slice (some ⟨g1, 0, none⟩) on1 d1, .slice (some ⟨g2, 0, none⟩) nn d2] 36) := ⟨_, rfl⟩
    obtain ⟨y, hy⟩ : ∃ y, y = w4.heap.size := ⟨_, rfl⟩
    rw [← hw5, ← hy] at hti
    have hys : y < w5.heap.size := hti.lt
    have hb5 : Below w4.heap.size w4 w5 := by rw [hw5]; exact (Below.refl _ w4).alloc (Nat.le_refl _) _
    have hyz : z + 2 ≤ y := by have := hb4.size; omega
    have hl5 := hl.below hb5
    have T5 := Lib.hid ((T3'.out.below hb4 T3'.out.lt).below hb5 (by omega))
    have D5 := Lib.hid ((D3.out.below hb4 D3.out.lt).below hb5 (by omega))
    have B5 := Lib.hid (B3.out.trans ((hb4.trans (hb5.mono hb4.size)).mono B3.out.size))
    have HO5 := Lib.hid ((HO1.out.below hb4).below (hb5.mono hb4.size))
    have hbase : w3.heap.size ≤ w5.heap.size := Nat.le_trans hb4.size hb5.size
    have hbz : w.heap.size ≤ w3.heap.size := B3.out.size
    have P5 := Lib.hid (HP.out.below B5.out hgl1)
    have P5' := Lib.hid (HP'.out.below B5.out hgl2)
    have M5 : Hid (Mod2 g g' w w5) := Lib.hid (Mod2.of_below B5.out (Nat.le_refl _))
    have K5 := Lib.hid ((RBm.of_rb (HK.out.below (B5.out.mono hB)) hg hg').mono (Nat.le_trans hB B5.out.size))
    have N5 := Lib.hid ((RBm.of_rb (HM.out.below (B5.out.mono hB)) hg hg').mono (Nat.le_trans hB B5.out.size))
    have TI := Lib.hid hti
    have HL5 := Lib.hid hl5
    have Hw5 := Lib.hid hw5
    have Hy := Lib.hid hy
    have HPk := Lib.hid (Pick_any op w5 h1 h2)
    clear hl hb4 hti hb5 hl5 hw5 hy HL e0 e1 e2 e3 e4 e5 e6 t0 t1 t2
    obtain ⟨e0, e1, e2, e3, e4, e5, e6⟩ := D5.out.cells
    obtain ⟨t0, t1, t2⟩ := T5.out.cells
    obtain ⟨i0, i1, i2⟩ := TI.out.cells
    go_upto_region 6 with (fail)
    rw [← Hw5.out, ← Hy.out]
    go_upto_if 39 with (fail)
    go_at_call 79
    refine HPk.out.mono ?_
    rintro e w6 ⟨rfl, rfl⟩
    obtain ⟨pk, hpk⟩ : ∃ pk, pk = pickL op := ⟨_, rfl⟩
    rw [← hpk]
    clear hpk HPk
    by_cases p0 : pk = 0
    · rw [p0]
      clear p0 pk
      go_upto_region 9 with (fail)
      obtain ⟨bb, hbb⟩ : ∃ b, b = decide (0 ≤ ls) := ⟨_, rfl⟩
      obtain ⟨L1, hL1⟩ : ∃ l, l = setLsnL L ls := ⟨_, rfl⟩
      have HA := Lib.hid (SetLsn_R g c L X ls w5.drew P5.out.drew H0.out hls)
      have HBx := Lib.hid (fun wA pA => rSetLsn_yes g' c' L X' ls wA pA H0.out hls)
      rw [← hbb, ← hL1] at HA
      simp only [← hbb, ← hL1] at HBx
      clear hbb hL1
      go_region_held3 (fun w' => w'.cell? ⟨z, 2, none⟩ = some (.int .i64 ls)) (first | go_keep | assumption) (first | (go_at_call 17; ((with_reducible refine HA.out.mono ?_)); rintro e wA ⟨rfl, pA, mA⟩; have FA : Hid (Mod2 g g' w5 wA) := Lib.hid ((Mod2.refl g g' w5).drew.trans (Mod2.one mA)); have DA := Lib.hid (D5.out.mod2 FA.out (by omega) (by omega)); have cA := DA.out.cells.2.2.1; have PA := Lib.hid pA; have HB := Lib.hid (HBx.out wA (P5'.out.drew.mod mA (fun e => Hgg.out e.symm))); clear pA mA) | (go_at_call 80; ((with_reducible refine HB.out.mono ?_)); rintro e wB ⟨rfl, pB, mB⟩; have FB : Hid (Mod2 g g' w5 wB) := Lib.hid (FA.out.trans (Mod2.two mB)); have DB := Lib.hid (D5.out.mod2 FB.out (by omega) (by omega)); have cB := DB.out.cells.2.2.1; have PB := Lib.hid (PA.out.mod mB Hgg.out); have QB := Lib.hid pB; clear pB mB))
      obtain ⟨iV0, iV1, iV2⟩ := (TI.out.mod2 FB.out (by omega) (by omega)).cells
      have HV := Lib.hid (OverTurn_any w3.heap.size g0 g1 g2 d0 d1 d2 kn on1 nn K O1 M wB (HL5.out.mod2 FB.out (by omega) (by omega)) (Nat.le_trans hbase FB.out.size) (by omega) (by omega) (by omega))
      go_wp2_with (fail)
      go_at_call 84
      refine HV.out.mono ?_
      rintro e wv ⟨rfl, hv⟩
      have EV := Lib.hid ((M5.out.trans FB.out).below hv hbz)
      have PV := Lib.hid (PB.out.below hv (by omega))
      have QV := Lib.hid (QB.out.below hv (by omega))
      have HE := Lib.hid (SameBytes_any wv.heap.size (some ⟨g, 0, none⟩) (some ⟨g', 0, none⟩) 512 c 512 c' L1 L1 wv PV.out.rb QV.out.rb)
      rw [eqB_self] at HE
      clear hv HV
      go_wp2_with (fail)
      go_at_call 24
      refine HE.out.mono ?_
      rintro e wz ⟨rfl, q, rfl⟩
      go_wp2_with (fail)
      go_ret
      exact ⟨rfl, ⟨L1, PV.out.drewN q, QV.out.drewN q⟩, EV.out.drewN q⟩
    · by_cases p1 : pk = 1
      · rw [p1]
        clear p0 p1 pk
        go_upto_region 11 with (fail)
        obtain ⟨bb, hbb⟩ : ∃ b, b = decide (0 ≤ nx ∧ nx < 8192) := ⟨_, rfl⟩
        obtain ⟨L1, hL1⟩ : ∃ l, l = setNextL L nx := ⟨_, rfl⟩
        have HA := Lib.hid (SetNext_R g c L X nx w5.drew P5.out.drew H0.out)
        have HBx := Lib.hid (fun wA pA => rSetNext_yes g' c' L X' nx wA pA H0.out)
        rw [← hbb, ← hL1] at HA
        simp only [← hbb, ← hL1] at HBx
        clear hbb hL1
        go_region_held3 (fun w' => w'.cell? ⟨z, 1, none⟩ = some (.int .i64 nx)) (first | go_keep | assumption) (first | (go_at_call 19; ((with_reducible refine HA.out.mono ?_)); rintro e wA ⟨rfl, pA, mA⟩; have FA : Hid (Mod2 g g' w5 wA) := Lib.hid ((Mod2.refl g g' w5).drew.trans (Mod2.one mA)); have DA := Lib.hid (D5.out.mod2 FA.out (by omega) (by omega)); have cA := DA.out.cells.2.1; have PA := Lib.hid pA; have HB := Lib.hid (HBx.out wA (P5'.out.drew.mod mA (fun e => Hgg.out e.symm))); clear pA mA) | (go_at_call 81; ((with_reducible refine HB.out.mono ?_)); rintro e wB ⟨rfl, pB, mB⟩; have FB : Hid (Mod2 g g' w5 wB) := Lib.hid (FA.out.trans (Mod2.two mB)); have DB := Lib.hid (D5.out.mod2 FB.out (by omega) (by omega)); have cB := DB.out.cells.2.1; have PB := Lib.hid (PA.out.mod mB Hgg.out); have QB := Lib.hid pB; clear pB mB))
        obtain ⟨iV0, iV1, iV2⟩ := (TI.out.mod2 FB.out (by omega) (by omega)).cells
        have HV := Lib.hid (OverTurn_any w3.heap.size g0 g1 g2 d0 d1 d2 kn on1 nn K O1 M wB (HL5.out.mod2 FB.out (by omega) (by omega)) (Nat.le_trans hbase FB.out.size) (by omega) (by omega) (by omega))
        go_wp2_with (fail)
        go_at_call 84
        refine HV.out.mono ?_
        rintro e wv ⟨rfl, hv⟩
        have EV := Lib.hid ((M5.out.trans FB.out).below hv hbz)
        have PV := Lib.hid (PB.out.below hv (by omega))
        have QV := Lib.hid (QB.out.below hv (by omega))
        have HE := Lib.hid (SameBytes_any wv.heap.size (some ⟨g, 0, none⟩) (some ⟨g', 0, none⟩) 512 c 512 c' L1 L1 wv PV.out.rb QV.out.rb)
        rw [eqB_self] at HE
        clear hv HV
        go_wp2_with (fail)
        go_at_call 24
        refine HE.out.mono ?_
        rintro e wz ⟨rfl, q, rfl⟩
        go_wp2_with (fail)
        go_ret
        exact ⟨rfl, ⟨L1, PV.out.drewN q, QV.out.drewN q⟩, EV.out.drewN q⟩
      · have d0' := decide_eq_false p0
        have d1' := decide_eq_false p1
        have q0 := beq_false_of_ne p0
        have q1 := beq_false_of_ne p1
        have hkl := HK.out.len
        have hol := HO1.out.rb.len
        have hml := HM.out.len
        have J0 := Lib.hid (OB.rbm (g := g) (h := g') HL5.out.o0 (by omega) hkl (by omega) (by omega))
        have J1 := Lib.hid (OB.rbm (g := g) (h := g') HL5.out.o1 (by omega) hol (by omega) (by omega))
        have J2 := Lib.hid (OB.rbm (g := g) (h := g') HL5.out.o2 (by omega) hml (by omega) (by omega))
        clear hkl hol hml
        go_upto_region 7 with (fail)
        obtain ⟨r1, hr1⟩ : ∃ r, r = (turnL L K O1 M).1 := ⟨_, rfl⟩
        obtain ⟨L1, hL1⟩ : ∃ l, l = (turnL L K O1 M).2 := ⟨_, rfl⟩
        have HA := Lib.hid (Turn_any g c L X w5.heap.size (some ⟨g0, 0, none⟩) (some ⟨g1, 0, none⟩) (some ⟨g2, 0, none⟩) kn d0 on1 d1 nn d2 K O1 M w5.drew P5.out.drew (J0.out.left.below (Below.refl _ w5).drew) (J1.out.left.below (Below.refl _ w5).drew) (J2.out.left.below (Below.refl _ w5).drew) (Nat.le_refl _))
        have HBx := Lib.hid (fun wA B pA kA oA nA hA => rTurn_yes g' c' L X' B ka oa1 na kn kc on1 oc1 nn nc K O1 M wA pA kA oA nA hA H0.out)
        unfold TurnPost at HA HBx
        rw [← hr1, ← hL1] at HA
        simp only [← hr1, ← hL1] at HBx
        clear hr1 hL1
        go_region_held3 (fun w' => (w'.cell? ⟨z + 1, 0, none⟩ = some (.slice ka kn kc) ∧ w'.cell? ⟨z + 1, 1, none⟩ = some (.slice oa1 on1 oc1) ∧ w'.cell? ⟨z + 1, 2, none⟩ = some (.slice na nn nc)) ∧ (w'.cell? ⟨y, 0, none⟩ = some (.slice (some ⟨g0, 0, none⟩) kn d0) ∧ w'.cell? ⟨y, 1, none⟩ = some (.slice (some ⟨g1, 0, none⟩) on1 d1) ∧ w'.cell? ⟨y, 2, none⟩ = some (.slice (some ⟨g2, 0, none⟩) nn d2))) (first | go_keep | exact ⟨⟨by assumption, by assumption, by assumption⟩, ⟨by assumption, by assumption, by assumption⟩⟩) (first | (go_at_call 14; ((with_reducible refine HA.out.mono ?_)); rintro e wA ⟨rfl, pA, mA⟩; have FA : Hid (Mod2 g g' w5 wA) := Lib.hid ((Mod2.refl g g' w5).drew.trans (Mod2.one mA)); have DA := Lib.hid (T5.out.mod2 FA.out (by omega) (by omega)); obtain ⟨cA0, cA1, cA2⟩ := DA.out.cells; have IA := Lib.hid (TI.out.mod2 FA.out (by omega) (by omega)); obtain ⟨iA0, iA1, iA2⟩ := IA.out.cells; have PA := Lib.hid pA; have HB := Lib.hid (HBx.out wA w5.heap.size (P5'.out.drew.mod mA (fun e => Hgg.out e.symm)) (K5.out.mod2 FA.out (Nat.le_refl _)).right ((HO5.out.mod2 FA.out hbase).mono hbase).right (N5.out.mod2 FA.out (Nat.le_refl _)).right FA.out.size); clear pA mA) | (go_at_call 82; ((with_reducible refine HB.out.mono ?_)); rintro e wB ⟨rfl, pB, mB⟩; have FB : Hid (Mod2 g g' w5 wB) := Lib.hid (FA.out.trans (Mod2.two mB)); have DB := Lib.hid (T5.out.mod2 FB.out (by omega) (by omega)); obtain ⟨cB0, cB1, cB2⟩ := DB.out.cells; have IB := Lib.hid (TI.out.mod2 FB.out (by omega) (by omega)); obtain ⟨iB0, iB1, iB2⟩ := IB.out.cells; have PB := Lib.hid (PA.out.mod mB Hgg.out); have QB := Lib.hid pB; have HC := Lib.hid (KeptTurn_any w5.heap.size w3.heap.size g0 g1 g2 d0 d1 d2 ka oa1 na kn kc on1 oc1 nn nc K O1 M wB (HL5.out.mod2 FB.out (by omega) (by omega)) (K5.out.mod2 FB.out (Nat.le_refl _)).rb ((HO5.out.mod2 FB.out hbase).rb.mono hbase) (N5.out.mod2 FB.out (Nat.le_refl _)).rb FB.out.size (by omega) (by omega) (by omega)); clear pB mB) | (go_at_call 83; ((with_reducible refine HC.out.mono ?_)); rintro e wC ⟨rfl, hC⟩; have FC : Hid (Mod2 g g' w5 wC) := Lib.hid (FB.out.below hC FB.out.size); obtain ⟨cC0, cC1, cC2⟩ := (T5.out.mod2 FC.out (by omega) (by omega)).cells; obtain ⟨iC0, iC1, iC2⟩ := (TI.out.mod2 FC.out (by omega) (by omega)).cells; have PC := Lib.hid (PB.out.below hC PB.out.lt); have QC := Lib.hid (QB.out.below hC QB.out.lt); clear hC))
        obtain ⟨iV0, iV1, iV2⟩ := (TI.out.mod2 FC.out (by omega) (by omega)).cells
        have HV := Lib.hid (OverTurn_any w3.heap.size g0 g1 g2 d0 d1 d2 kn on1 nn K O1 M wC (HL5.out.mod2 FC.out (by omega) (by omega)) (Nat.le_trans hbase FC.out.size) (by omega) (by omega) (by omega))
        go_wp2_with (fail)
        go_at_call 84
        refine HV.out.mono ?_
        rintro e wv ⟨rfl, hv⟩
        have EV := Lib.hid ((M5.out.trans FC.out).below hv hbz)
        have PV := Lib.hid (PC.out.below hv (by omega))
        have QV := Lib.hid (QC.out.below hv (by omega))
        have HE := Lib.hid (SameBytes_any wv.heap.size (some ⟨g, 0, none⟩) (some ⟨g', 0, none⟩) 512 c 512 c' L1 L1 wv PV.out.rb QV.out.rb)
        rw [eqB_self] at HE
        clear hv HV
        go_wp2_with (fail)
        go_at_call 24
        refine HE.out.mono ?_
        rintro e wz ⟨rfl, q, rfl⟩
        go_wp2_with (fail)
        go_ret
        exact ⟨rfl, ⟨L1, PV.out.drewN q, QV.out.drewN q⟩, EV.out.drewN q⟩
end Go.Proofs.YtbinikbgbgggaaaGreatDoor
