/- PickApart: its walk. (Printed by gen/papart.py.) -/
import Derived.Test.YtbedbhlebfnohaaGreatKMarkT
import Derived.Test.YtbedbhlebfnohaaGreatQApF
namespace Go.Proofs.YtbedbhlebfnohaaGreat
open Go.RowKit Go.Sort Go.Lib Go.Shelf

set_option maxHeartbeats 8000000 in
set_option maxRecDepth 100000 in
theorem PickApart_any (B : Nat) (now nl nx id : Int) (a1 : Option Addr) (n1 c1 : Nat) (X : List It) (a2 : Option Addr) (n2 c2 : Nat) (L : List LotV) (a3 : Option Addr) (n3 c3 : Nat) (N : List LineV) (w : World) (hX : RI B w a1 n1 c1 X) (hL : lotE.In B w a2 n2 c2 L) (hN : lineE.In B w a3 n3 c3 N) (hsz : ∀ x ∈ X, x.ps.length * 24 ≤ 140737488355328 ∧ x.os.length * 16 ≤ 140737488355328) (hB : B ≤ w.heap.size) (hnow : -9223372036854775808 ≤ now ∧ now ≤ 9223372036854775807) :
    Calls Tryz.prog 4 #[.agg #[.int .i64 now, .int .i64 nl, .int .i64 nx, .slice a1 n1 c1, .slice a2 n2 c2, .slice a3 n3 c3], .int .i64 id] w fun e w' => e = .returned (.bool true) ∧ Below w.heap.size w w' := by
  have e1 := hX.len; have e2 := hL.len; have e3 := hN.len
  subst e1; subst e2; subst e3
  obtain ⟨W0, hW0⟩ : ∃ V, V = w.alloc (.cells #[.int .i64 now, .int .i64 nl, .int .i64 nx, .slice a1 X.length c1, .slice a2 L.length c2, .slice a3 N.length c3] 26) := ⟨_, rfl⟩
  have hB0 : Below w.heap.size w W0 := by rw [hW0]; exact below_alloc _ _
  have hp0 : W0.heap[w.heap.size]? = some (stObj now nl nx (.slice a1 X.length c1) (.slice a2 L.length c2) (.slice a3 N.length c3)) := by rw [hW0]; exact heap_alloc_new _ _
  have hs0 : w.heap.size < W0.heap.size := (Array.getElem?_eq_some_iff.1 hp0).1
  have HC := Lib.hid (fun (V : World) (hb : Below W0.heap.size W0 V) => stObj_cells ((hb.block w.heap.size hs0).trans hp0))
  have HA := Lib.hid (awake_any W0)
  have HS := Lib.hid (fun (V : World) => small_any now nl nx a1 a2 a3 X.length c1 L.length c2 N.length c3 V ⟨hX.le, hX.mx⟩ ⟨hL.le, hL.mx⟩ ⟨hN.le, hN.mx⟩)
  have HX := Lib.hid hX
  have HL := Lib.hid hL
  have HN := Lib.hid hN
  have HB0 := Lib.hid hB0
  have HW0 := Lib.hid hW0
  have HSZ := Lib.hid hsz
  have HNOW := Lib.hid hnow
  have hs1 : w.heap.size ≤ W0.heap.size := Nat.le_of_lt hs0
  clear hX hL hN hsz hB0 hp0 hW0 hnow hs0
  cases hsm : smallB X.length L.length N.length with
  | false =>
    rw [hsm] at HS
    clear hsm
    go_enter Tryz.func4, Tryz.ntmps4
    go_upto_region 1 with (fail)
    rw [← HW0.out]
    go_wp2_with (first | (go_at_call 5; refine HA.out.mono ?_; rintro e w1 ⟨rfl, hb1⟩; obtain ⟨y0, y1, y2, y3, y4, y5⟩ := HC.out w1 hb1; have B1 := Lib.hid hb1; clear hb1) | (go_at_call 6; refine (HS.out _).mono ?_; rintro e w2 ⟨rfl, hb2⟩; have B2 := Lib.hid (B1.out.trans (hb2.mono B1.out.size)); clear hb2))
    go_ret
    exact ⟨rfl, HB0.out.trans (B2.out.mono hs1)⟩
  | true =>
    rw [hsm] at HS
    have hm : X.length ≤ 12 ∧ L.length ≤ 30 ∧ N.length ≤ 30 := by
      unfold smallB at hsm
      simp only [Bool.and_eq_true, decide_eq_true_eq] at hsm
      omega
    obtain ⟨m1, m2, m3⟩ := hm
    have HST := Lib.hid (fun (V : World) (hb : Below W0.heap.size W0 V) => (show StIn B V a1 X.length c1 X a2 L.length c2 L a3 N.length c3 N from
      have hwV := HB0.out.trans (hb.mono hs1)
      ⟨HX.out.below (hwV.mono hB), HL.out.below (hwV.mono hB), HN.out.below (hwV.mono hB), by omega, by omega, by omega, HSZ.out⟩))
    have HBV := Lib.hid (fun (V : World) (hb : Below W0.heap.size W0 V) => Nat.le_trans hB (HB0.out.trans (hb.mono hs1)).size)
    have HCP := Lib.hid (fun (V : World) (hb : Below W0.heap.size W0 V) => CopyState_any B now nl nx a1 X.length c1 X a2 L.length c2 L a3 N.length c3 N V (HST.out V hb) (HBV.out V hb) (by omega))
    clear hsm
    go_enter Tryz.func4, Tryz.ntmps4
    go_upto_region 1 with (fail)
    rw [← HW0.out]
    go_upto_region 6 with (first | (go_at_call 5; refine HA.out.mono ?_; rintro e w1 ⟨rfl, hb1⟩; obtain ⟨y0, y1, y2, y3, y4, y5⟩ := HC.out w1 hb1; have B1 := Lib.hid hb1; clear hb1) | (go_at_call 6; refine (HS.out _).mono ?_; rintro e w2 ⟨rfl, hb2⟩; have hb2' := B1.out.trans (hb2.mono B1.out.size); obtain ⟨z0, z1, z2, z3, z4, z5⟩ := HC.out w2 hb2'; have B2 := Lib.hid hb2'; have HCP2 := Lib.hid (HCP.out w2 hb2'); clear hb2 hb2') | (go_at_call 13; refine HCP2.out.mono ?_; rintro e w3 ⟨hb3, g1, d1, g2, d2, g3, d3, Y, rfl, hst⟩; have B3 := Lib.hid (B2.out.trans (hb3.mono B2.out.size)); have ST := Lib.hid hst; have D3 : Hid (w2.heap.size ≤ w3.heap.size) := Lib.hid hb3.size; clear hb3 hst))
    obtain ⟨W4, hW4⟩ : ∃ V, V = w3.alloc (.cells #[.int .i64 now, .int .i64 nl, .int .i64 nx, .slice g1 X.length d1, .slice g2 L.length d2, .slice g3 N.length d3] 26) := ⟨_, rfl⟩
    have bW4 : Below w3.heap.size w3 W4 := by rw [hW4]; exact below_alloc _ _
    have hi4 : W4.heap[w3.heap.size]? = some (stObj now nl nx (.slice g1 X.length d1) (.slice g2 L.length d2) (.slice g3 N.length d3)) := by rw [hW4]; exact heap_alloc_new _ _
    obtain ⟨ib, hib⟩ : ∃ z, z = w3.heap.size := ⟨_, rfl⟩
    rw [← hib] at hi4
    rw [← hW4, ← hib]
    have hibl : ib < W4.heap.size := (Array.getElem?_eq_some_iff.1 hi4).1
    have B4 : Hid (Below W0.heap.size W0 W4) := Lib.hid (B3.out.trans (bW4.mono B3.out.size))
    have D4 : Hid (w2.heap.size ≤ W4.heap.size) := Lib.hid (Nat.le_trans D3.out bW4.size)
    have st4 : StOwn w2.heap.size W4 (.slice g1 X.length d1) (.slice g2 L.length d2) (.slice g3 N.length d3) X Y L N := ⟨ST.out.items.below bW4, ST.out.lots.below bW4, ST.out.lines.below bW4⟩
    obtain ⟨hin, -, -, hyl⟩ := st4.stin HX.out.ok HSZ.out HL.out.fine HN.out.fine (by omega) (by omega) (by omega)
    have SO0 := Lib.hid (fun g => SO.of (now := now) (nl := nl) (nx := nx) g st4 HX.out.ok HSZ.out (by omega) (by omega) (by omega))
    have HP : Hid (∀ V : World, Below W4.heap.size W4 V → Calls Tryz.prog 8 #[.agg #[.int .i64 now, .int .i64 nl, .int .i64 nx, .slice g1 X.length d1, .slice g2 L.length d2, .slice g3 N.length d3], .int .i64 id] V fun e w' => PF V e w') := Lib.hid fun V hb => pick_pf W4.heap.size now nl nx id _ _ _ Y _ _ _ L _ _ _ N V (hin.below hb) hb.size HNOW.out (by omega) (by omega) (by omega)
    have HI := Lib.hid (fun (V : World) (hb : Below W4.heap.size W4 V) => (stObj_cells ((hb.block ib hibl).trans hi4)))
    obtain ⟨i0, i1, i2, i3, i4, i5⟩ := HI.out W4 (Below.refl _ _)
    clear hW4 bW4 hib hi4 y0 y1 y2 y3 y4 y5 z0 z1 z2 z3 z4 z5 HCP HCP2 HS HA HC st4 hin hyl HST HX HL HN HSZ ST HNOW
    go_upto_region 7 with (go_at_call 8; refine (HP.out W4 (Below.refl _ _)).mono ?_; rintro e wP ⟨hbP, pnow, pnl, pnx, pa1, pn1, pc1, pY, pa2, pn2, pc2, pa3, pn3, pc3, pua, pun, puc, per, rfl, so1⟩; have BP := Lib.hid hbP; have SO1 := Lib.hid so1; clear hbP so1)
    obtain ⟨W5, hW5⟩ : ∃ V, V = wP.alloc (.cells #[.int .i64 pnow, .int .i64 pnl, .int .i64 pnx, .slice pa1 pn1 pc1, .slice pa2 pn2 pc2, .slice pa3 pn3 pc3] 26) := ⟨_, rfl⟩
    obtain ⟨tb, htb⟩ : ∃ z, z = wP.heap.size := ⟨_, rfl⟩
    have ht5 : W5.heap[tb]? = some (.cells #[.int .i64 pnow, .int .i64 pnl, .int .i64 pnx, .slice pa1 pn1 pc1, .slice pa2 pn2 pc2, .slice pa3 pn3 pc3] 26) := by rw [hW5, htb]; exact heap_alloc_new _ _
    have bW5 : Hid (Below wP.heap.size wP W5) := Lib.hid (by rw [hW5]; exact below_alloc _ _)
    have B5 := Lib.hid (BP.out.trans (bW5.out.mono BP.out.size))
    rw [← hW5, ← htb]
    have htl : tb < W5.heap.size := (Array.getElem?_eq_some_iff.1 ht5).1
    have HT5 := Lib.hid ht5
    clear hW5 htb ht5 i0 i1 i2 i3 i4 i5
    obtain ⟨i0, i1, i2, i3, i4, i5⟩ := HI.out W5 B5.out
    go_upto_region 8 with (go_at_call 8; refine (HP.out W5 B5.out).mono ?_; rintro e wQ ⟨hbQ, qnow, qnl, qnx, qa1, qn1, qc1, qY, qa2, qn2, qc2, qa3, qn3, qc3, qua, qun, quc, qer, rfl, so2⟩; have BQ := Lib.hid hbQ; have SO2 := Lib.hid so2; clear hbQ so2)
    obtain ⟨W6, hW6⟩ : ∃ V, V = wQ.alloc (.cells #[.int .i64 qnow, .int .i64 qnl, .int .i64 qnx, .slice qa1 qn1 qc1, .slice qa2 qn2 qc2, .slice qa3 qn3 qc3] 26) := ⟨_, rfl⟩
    obtain ⟨ub, hub⟩ : ∃ z, z = wQ.heap.size := ⟨_, rfl⟩
    have hu6 : W6.heap[ub]? = some (.cells #[.int .i64 qnow, .int .i64 qnl, .int .i64 qnx, .slice qa1 qn1 qc1, .slice qa2 qn2 qc2, .slice qa3 qn3 qc3] 26) := by rw [hW6, hub]; exact heap_alloc_new _ _
    have bW6 : Hid (Below wQ.heap.size wQ W6) := Lib.hid (by rw [hW6]; exact below_alloc _ _)
    have B56 := Lib.hid (BQ.out.trans (bW6.out.mono BQ.out.size))
    have B6 := Lib.hid (B5.out.trans (B56.out.mono B5.out.size))
    rw [← hW6, ← hub]
    have hul : ub < W6.heap.size := (Array.getElem?_eq_some_iff.1 hu6).1
    have HT6 := Lib.hid (fun (V : World) (hb : Below W6.heap.size W6 V) => stObj_cells ((hb.block tb (Nat.lt_of_lt_of_le htl B56.out.size)).trans ((B56.out.block tb htl).trans HT5.out)))
    have HU6 := Lib.hid (fun (V : World) (hb : Below W6.heap.size W6 V) => stObj_cells ((hb.block ub hul).trans hu6))
    have HI6 := Lib.hid (fun (V : World) (hb : Below W6.heap.size W6 V) => HI.out V (B6.out.trans (hb.mono B6.out.size)))
    clear hW6 hub hu6 i0 i1 i2 i3 i4 i5
    obtain ⟨i0, i1, i2, i3, i4, i5⟩ := HI6.out W6 (Below.refl _ _)
    have bA1 : Below W6.heap.size W6 (W6.alloc (.cells #[.int .i64 now, .int .i64 nl, .int .i64 nx, .slice g1 X.length d1, .slice g2 L.length d2, .slice g3 N.length d3] 26)) := below_alloc _ _
    have bA2 : Below W6.heap.size W6 ((W6.alloc (.cells #[.int .i64 now, .int .i64 nl, .int .i64 nx, .slice g1 X.length d1, .slice g2 L.length d2, .slice g3 N.length d3] 26)).alloc (.cells #[.int .i64 pnow, .int .i64 pnl, .int .i64 pnx, .slice pa1 pn1 pc1, .slice pa2 pn2 pc2, .slice pa3 pn3 pc3] 26)) := bA1.alloc bA1.size _
    have bA3 : Below W6.heap.size W6 (((W6.alloc (.cells #[.int .i64 now, .int .i64 nl, .int .i64 nx, .slice g1 X.length d1, .slice g2 L.length d2, .slice g3 N.length d3] 26)).alloc (.cells #[.int .i64 pnow, .int .i64 pnl, .int .i64 pnx, .slice pa1 pn1 pc1, .slice pa2 pn2 pc2, .slice pa3 pn3 pc3] 26)).alloc (.cells #[.int .i64 qnow, .int .i64 qnl, .int .i64 qnx, .slice qa1 qn1 qc1, .slice qa2 qn2 qc2, .slice qa3 qn3 qc3] 26)) := bA2.alloc bA2.size _
    obtain ⟨t0, t1, t2, t3, t4, t5⟩ := HT6.out _ bA1
    obtain ⟨u0, u1, u2, u3, u4, u5⟩ := HU6.out _ bA2
    have HAS : Hid (∀ A : World, A = (((W6.alloc (.cells #[.int .i64 now, .int .i64 nl, .int .i64 nx, .slice g1 X.length d1, .slice g2 L.length d2, .slice g3 N.length d3] 26)).alloc (.cells #[.int .i64 pnow, .int .i64 pnl, .int .i64 pnx, .slice pa1 pn1 pc1, .slice pa2 pn2 pc2, .slice pa3 pn3 pc3] 26)).alloc (.cells #[.int .i64 qnow, .int .i64 qnl, .int .i64 qnx, .slice qa1 qn1 qc1, .slice qa2 qn2 qc2, .slice qa3 qn3 qc3] 26)).alloc (.cells #[.slice (some ⟨W6.heap.size, 0, none⟩) 1 1, .slice (some ⟨W6.heap.size + 1, 0, none⟩) 1 1, .slice (some ⟨W6.heap.size + 2, 0, none⟩) 1 1] 38) →
        Calls Tryz.prog 14 #[.slice (some ⟨W6.heap.size + 3, 0, none⟩) 3 3] A fun e w' => e = .returned (.bool true) ∧ Below w.heap.size w w') := Lib.hid fun A hA => by
      have e1 := heap_alloc_new W6 (.cells #[.int .i64 now, .int .i64 nl, .int .i64 nx, .slice g1 X.length d1, .slice g2 L.length d2, .slice g3 N.length d3] 26)
      obtain ⟨A1, hA1⟩ : ∃ V, V = W6.alloc (.cells #[.int .i64 now, .int .i64 nl, .int .i64 nx, .slice g1 X.length d1, .slice g2 L.length d2, .slice g3 N.length d3] 26) := ⟨_, rfl⟩
      have z1 : A1.heap.size = W6.heap.size + 1 := by rw [hA1, World.size_alloc]
      have b1 : Below A1.heap.size A1 (A1.alloc (.cells #[.int .i64 pnow, .int .i64 pnl, .int .i64 pnx, .slice pa1 pn1 pc1, .slice pa2 pn2 pc2, .slice pa3 pn3 pc3] 26)) := below_alloc _ _
      have e2 := heap_alloc_new A1 (.cells #[.int .i64 pnow, .int .i64 pnl, .int .i64 pnx, .slice pa1 pn1 pc1, .slice pa2 pn2 pc2, .slice pa3 pn3 pc3] 26)
      rw [← hA1] at e1 hA bA3
      obtain ⟨A2, hA2⟩ : ∃ V, V = A1.alloc (.cells #[.int .i64 pnow, .int .i64 pnl, .int .i64 pnx, .slice pa1 pn1 pc1, .slice pa2 pn2 pc2, .slice pa3 pn3 pc3] 26) := ⟨_, rfl⟩
      have z2 : A2.heap.size = W6.heap.size + 2 := by rw [hA2, World.size_alloc, z1]
      have b2 : Below A2.heap.size A2 (A2.alloc (.cells #[.int .i64 qnow, .int .i64 qnl, .int .i64 qnx, .slice qa1 qn1 qc1, .slice qa2 qn2 qc2, .slice qa3 qn3 qc3] 26)) := below_alloc _ _
      have e3 := heap_alloc_new A2 (.cells #[.int .i64 qnow, .int .i64 qnl, .int .i64 qnx, .slice qa1 qn1 qc1, .slice qa2 qn2 qc2, .slice qa3 qn3 qc3] 26)
      rw [← hA2] at e2 hA bA3 b1
      obtain ⟨A3, hA3⟩ : ∃ V, V = A2.alloc (.cells #[.int .i64 qnow, .int .i64 qnl, .int .i64 qnx, .slice qa1 qn1 qc1, .slice qa2 qn2 qc2, .slice qa3 qn3 qc3] 26) := ⟨_, rfl⟩
      have z3 : A3.heap.size = W6.heap.size + 3 := by rw [hA3, World.size_alloc, z2]
      rw [← hA3] at e3 hA bA3 b2
      have b3 : Below A3.heap.size A3 A := by rw [hA]; exact below_alloc _ _
      have e4 : A.heap[A3.heap.size]? = some (.cells #[.slice (some ⟨W6.heap.size, 0, none⟩) 1 1, .slice (some ⟨W6.heap.size + 1, 0, none⟩) 1 1, .slice (some ⟨W6.heap.size + 2, 0, none⟩) 1 1] 38) := by rw [hA]; exact heap_alloc_new A3 _
      have bA : Below W6.heap.size W6 A := bA3.trans (b3.mono (by omega))
      have q4 := (B6.out.trans (bA.mono B6.out.size))
      have hs6 := bW6.out.size
      have hs5 := bW5.out.size
      rw [z3] at e4
      have r := apart3_any (W6.heap.size + 3) w2.heap.size W4.heap.size W5.heap.size W6.heap.size ⟨W6.heap.size, now, nl, nx, g1, X.length, d1, Y, g2, L.length, d2, g3, N.length, d3⟩ ⟨W6.heap.size + 1, pnow, pnl, pnx, pa1, pn1, pc1, pY, pa2, pn2, pc2, pa3, pn3, pc3⟩ ⟨W6.heap.size + 2, qnow, qnl, qnx, qa1, qn1, qc1, qY, qa2, qn2, qc2, qa3, qn3, qc3⟩ W4 wP wQ A (SO0.out _) (SO1.out _) (SO2.out _) (Nat.le_refl _) hs5 hs6 D4.out BP.out.size BQ.out.size
        q4 (bW5.out.trans (((B56.out.trans (bA.mono B56.out.size))).mono hs5)) (bW6.out.trans (bA.mono hs6))
        ((b3.block W6.heap.size (by omega)).trans ((b2.block W6.heap.size (by omega)).trans ((b1.block W6.heap.size (by omega)).trans e1))) ((b3.block (W6.heap.size + 1) (by omega)).trans ((b2.block (W6.heap.size + 1) (by omega)).trans (by rw [← z1]; exact e2))) ((b3.block (W6.heap.size + 2) (by omega)).trans (by rw [← z2]; exact e3))
        (Nat.le_refl _) (Nat.le_succ _) (Nat.le_add_right _ _) (by show W6.heap.size ≠ W6.heap.size + 1; omega) (by show W6.heap.size ≠ W6.heap.size + 2; omega) (by show W6.heap.size + 1 ≠ W6.heap.size + 2; omega)
        (by rw [cell_of_row A _ 0 _ _ _ e4]; rfl) (by rw [cell_of_row A _ 1 _ _ _ e4]; rfl) (by rw [cell_of_row A _ 2 _ _ _ e4]; rfl) (Array.getElem?_eq_some_iff.1 e4).1
      exact r.mono fun e w' h => ⟨h.1, (HB0.out.trans ((B4.out.trans (q4.mono B4.out.size)).mono hs1)).trans (h.2.mono (Nat.le_trans hs1 B2.out.size))⟩
    clear bA1 bA2 bA3 HI6 HT6 HU6 HI SO0 SO1 SO2
    go_wp2_with (go_at_call 14; refine (HAS.out _ rfl).mono ?_; rintro e w9 ⟨rfl, hb9⟩; have B9 := Lib.hid hb9; clear hb9)
    go_ret
    exact ⟨rfl, B9.out⟩
end Go.Proofs.YtbedbhlebfnohaaGreat
