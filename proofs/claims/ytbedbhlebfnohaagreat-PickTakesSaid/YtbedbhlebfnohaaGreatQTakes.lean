/- PickTakes: its walk. -/
import Derived.Test.YtbedbhlebfnohaaGreatQRkA
import Derived.Test.YtbedbhlebfnohaaGreatQRk
import Derived.Test.YtbedbhlebfnohaaGreatKLeaf
namespace Go.Proofs.YtbedbhlebfnohaaGreat
open Go.RowKit Go.Sort Go.Lib Go.Shelf

theorem partsE_like {X Y : List It} (h : Y.map strip = X.map strip) (c : List UInt8) (q : Int) : partsE Y c q = partsE X c q := by
  unfold partsE
  rw [← chkE_strip Y, ← chkE_strip X, ← codes_strip Y, ← codes_strip X, ← endL_strip Y, ← endL_strip X, h]
theorem endL_like {X Y : List It} (h : Y.map strip = X.map strip) (c : List UInt8) (q : Int) : endL Y c q = endL X c q := by rw [← endL_strip Y, ← endL_strip X, h]
theorem pickX_like {X Y : List It} (h : Y.map strip = X.map strip) (now : Int) (L : List LotV) (N : List LineV) (id : Int) : pickX now Y L N id = pickX now X L N id := by
  unfold pickX
  rw [partsE_like h, endL_like h]
/-- What pick answers is in the language's bounds. -/
theorem pickX_fine {now : Int} {X : List It} {L : List LotV} {N : List LineV} {id : Int} (hL : ∀ x ∈ L, okLot x) (hN : ∀ x ∈ N, okLine x) {L' : List LotV} {N' : List LineV} {U : List UseV} (h : pickX now X L N id = .ok (L', N', U)) : (∀ x ∈ L', okLot x) ∧ (∀ x ∈ N', okLine x) ∧ (∀ u ∈ U, okUse u) := by
  unfold pickX at h
  split at h
  · cases h
  · split at h
    · cases h
    · split at h
      · cases h
      · split at h
        · cases h
        · rename_i U0 f0 hf
          injection h with h
          injection h with h1 h2
          injection h2 with h2 h3
          subst h1; subst h2; subst h3
          obtain ⟨b1, -, b3, -⟩ := fill_bounds hL hf
          refine ⟨fun x hx => ?_, fun x hx => ?_, b3⟩
          · unfold leftL at hx
            obtain ⟨hx1, -⟩ := List.mem_filter.1 hx
            obtain ⟨y, hy, rfl⟩ := List.mem_map.1 hx1
            have e1 := hL y hy
            unfold lessL
            split
            · rename_i ha
              have e2 := b1 y hy ha
              obtain ⟨o1, o2, o3, o4, o5⟩ := e1
              exact ⟨o1, o2, o3, o4, e2⟩
            · exact e1
          · rcases List.mem_or_eq_of_mem_set hx with hx | hx
            · exact hN x hx
            · rw [hx]
              by_cases hlt : (lineX N id).1.toNat < N.length
              · have e1 := hN (N.getD (lineX N id).1.toNat default) (by rw [List.getD_eq_getElem?_getD, List.getElem?_eq_getElem hlt]; exact List.getElem_mem _)
                obtain ⟨o1, o2, o3, o4, o5, o6, o7, o8⟩ := e1
                exact ⟨o1, o2, o3, o4, o5, (show (0 : Int) ≤ 2 ∧ (2 : Int) ≤ 255 by decide), o7, o8⟩
              · rw [List.getD_eq_getElem?_getD, List.getElem?_eq_none (by omega)]
                show okLine _
                unfold okLine
                decide
/-- Items of one's own are items in memory. -/
theorem IOwn.ri {B M : Nat} {w w0 : World} {a : Option Addr} {n c : Nat} {X Y : List It} (h : IOwn B w (.slice a n c) X Y) (hx : ∀ x ∈ X, ItOk M w0 x) : RI w.heap.size w a n c Y := by
  have hok : ∀ y ∈ Y, ItOk w.heap.size w y := fun y hy => by
    obtain ⟨i, hi, rfl⟩ := List.mem_iff_getElem.1 hy
    have hiX : i < X.length := by rw [← h.len]; exact hi
    have T := h.each i hiX
    have hxo := hx (X.getD i default) (getD_mem hiX)
    rw [List.getD_eq_getElem?_getD (l := Y), List.getElem?_eq_getElem hi] at T
    simp only [Option.getD_some] at T
    generalize X.getD i default = x at T hxo
    generalize Y[i] = y at T
    obtain ⟨pa, pc, ep, hp⟩ := T.op.in_ (fun p hp => by rw [T.ps] at hp; exact hxo.rp.fine p hp)
    obtain ⟨oa, oc, eo, ho⟩ := T.oo.in_ (fun p hp => by rw [T.os] at hp; exact hxo.rt.fine p hp)
    unfold It.pv at ep
    unfold It.ov at eo
    injection ep with e1 e2 e3
    injection eo with e4 e5 e6
    subst e1; subst e3; subst e4; subst e6
    exact ⟨by rw [T.code]; exact hxo.code, by rw [T.life]; exact hxo.lo, by rw [T.life]; exact hxo.hi, ptE_rp hp, txE_rt ho⟩
  obtain ⟨a', c', e, hin⟩ := h.own.in_ (fun y hy => ⟨(hok y hy).code, (hok y hy).lo, (hok y hy).hi⟩)
  injection e with e1 e2 e3
  subst e1; subst e2; subst e3
  refine ⟨hin.len, hin.le, hin.mx, hok, fun hc => ?_⟩
  obtain ⟨b, o, e, hb, hcell⟩ := hin.at_ hc
  exact ⟨b, o, e, hb, fun i hi => ⟨hcell i hi 0 (by decide), hcell i hi 1 (by decide), hcell i hi 2 (by decide), hcell i hi 3 (by decide)⟩⟩
theorem LikeI.trans {x y z : It} (h : LikeI x y) (h2 : LikeI y z) : LikeI x z := ⟨h.code.trans h2.code, h.life.trans h2.life, h.ps.trans h2.ps, h.os.trans h2.os⟩
theorem TI.like {B : Nat} {w : World} {x y : It} (h : TI B w x y) : LikeI y x := ⟨h.code, h.life, h.ps, h.os⟩
theorem lent_st {C M : Nat} {w w0 : World} {g1 g2 d2 g3 d3 : Nat} {X Y : List It} {L : List LotV} {N : List LineV} (h : LentSt C w g1 g2 d2 g3 d3 X Y L N) (hx : ∀ x ∈ X, ItOk M w0 x) (hl : ∀ x ∈ L, okLot x) (hn : ∀ x ∈ N, okLine x) (m1 : X.length ≤ 100000) (m2 : L.length ≤ 100000) (m3 : N.length ≤ 100000) (hsz : ∀ x ∈ X, x.ps.length * 24 ≤ 140737488355328 ∧ x.os.length * 16 ≤ 140737488355328) :
    StIn w.heap.size w (some ⟨g1, 0, none⟩) X.length (X.length + 12) Y (some ⟨g2, 0, none⟩) L.length d2 L (some ⟨g3, 0, none⟩) N.length d3 N := by
  refine ⟨h.ri hx, by have := (h.lotsIn hl).take L.length (by omega); rwa [List.take_left] at this, by have := (h.linesIn hn).take N.length (by omega); rwa [List.take_left] at this, by omega, by omega, by omega, fun y hy => ?_⟩
  obtain ⟨i, hi, rfl⟩ := List.mem_iff_getElem.1 hy
  have hiX : i < X.length := by rw [← h.len]; exact hi
  have T := (h.each i hiX).like
  rw [List.getD_eq_getElem?_getD (l := Y), List.getElem?_eq_getElem hi] at T
  simp only [Option.getD_some] at T
  rw [T.ps, T.os]
  exact hsz _ (getD_mem hiX)
set_option maxHeartbeats 8000000 in
set_option maxRecDepth 100000 in
theorem PickTakes_any (B : Nat) (now nl nx id : Int) (a1 : Option Addr) (n1 c1 : Nat) (X : List It) (a2 : Option Addr) (n2 c2 : Nat) (L : List LotV) (a3 : Option Addr) (n3 c3 : Nat) (N : List LineV) (w : World) (hX : RI B w a1 n1 c1 X) (hL : lotE.In B w a2 n2 c2 L) (hN : lineE.In B w a3 n3 c3 N) (hsz : ∀ x ∈ X, x.ps.length * 24 ≤ 140737488355328 ∧ x.os.length * 16 ≤ 140737488355328) (hB : B ≤ w.heap.size) (hnow : -9223372036854775808 ≤ now ∧ now ≤ 9223372036854775807) :
    Calls Tryz.prog 3 #[.agg #[.int .i64 now, .int .i64 nl, .int .i64 nx, .slice a1 n1 c1, .slice a2 n2 c2, .slice a3 n3 c3], .int .i64 id] w fun e w' => e = .returned (.bool true) ∧ Below w.heap.size w w' := by
  have e1 := hX.len; have e2 := hL.len; have e3 := hN.len
  subst e1; subst e2; subst e3
  obtain ⟨W0, hW0⟩ : ∃ V, V = w.alloc (.cells #[.int .i64 now, .int .i64 nl, .int .i64 nx, .slice a1 X.length c1, .slice a2 L.length c2, .slice a3 N.length c3] 26) := ⟨_, rfl⟩
  have hB0 : Below w.heap.size w W0 := by rw [hW0]; exact below_alloc _ _
  have hp0 : W0.heap[w.heap.size]? = some (stObj now nl nx (.slice a1 X.length c1) (.slice a2 L.length c2) (.slice a3 N.length c3)) := by rw [hW0]; exact heap_alloc_new _ _
  have hs0 : w.heap.size < W0.heap.size := (Array.getElem?_eq_some_iff.1 hp0).1
  have HC := Lib.hid (fun (V : World) (hb : Below W0.heap.size W0 V) => stObj_cells ((hb.block w.heap.size hs0).trans hp0))
  have HA := Lib.hid (awake_any W0)
  have HS := Lib.hid (fun (V : World) => small_any now nl nx a1 a2 a3 X.length c1 L.length c2 N.length c3 V ⟨hX.le, hX.mx⟩ ⟨hL.le, hL.mx⟩ ⟨hN.le, hN.mx⟩)
  have HX := Lib.hid hX
  have HL := Lib.hid hL
  have HN := Lib.hid hN
  have HB0 := Lib.hid hB0
  have HW0 := Lib.hid hW0
  have HSZ := Lib.hid hsz
  have HNOW := Lib.hid hnow
  have hs1 : w.heap.size ≤ W0.heap.size := Nat.le_of_lt hs0
  clear hX hL hN hsz hB0 hp0 hW0 hnow hs0
  cases hsm : smallB X.length L.length N.length with
  | false =>
    rw [hsm] at HS
    clear hsm
    go_enter Tryz.func3, Tryz.ntmps3
    go_upto_region 1 with (fail)
    rw [← HW0.out]
    go_wp2_with (first | (go_at_call 5; refine HA.out.mono ?_; rintro e w1 ⟨rfl, hb1⟩; obtain ⟨y0, y1, y2, y3, y4, y5⟩ := HC.out w1 hb1; have B1 := Lib.hid hb1; clear hb1) | (go_at_call 6; refine (HS.out _).mono ?_; rintro e w2 ⟨rfl, hb2⟩; have B2 := Lib.hid (B1.out.trans (hb2.mono B1.out.size)); clear hb2))
    go_ret
    exact ⟨rfl, HB0.out.trans (B2.out.mono hs1)⟩
  | true =>
    rw [hsm] at HS
    have hm : X.length ≤ 12 ∧ L.length ≤ 30 ∧ N.length ≤ 30 := by
      unfold smallB at hsm
      simp only [Bool.and_eq_true, decide_eq_true_eq] at hsm
      omega
    obtain ⟨m1, m2, m3⟩ := hm
    have HST := Lib.hid (fun (V : World) (hb : Below W0.heap.size W0 V) => (show StIn B V a1 X.length c1 X a2 L.length c2 L a3 N.length c3 N from
      have hwV := HB0.out.trans (hb.mono hs1)
      ⟨HX.out.below (hwV.mono hB), HL.out.below (hwV.mono hB), HN.out.below (hwV.mono hB), by omega, by omega, by omega, HSZ.out⟩))
    have HBV := Lib.hid (fun (V : World) (hb : Below W0.heap.size W0 V) => Nat.le_trans hB (HB0.out.trans (hb.mono hs1)).size)
    have HLE := Lib.hid (fun (V : World) (hb : Below W0.heap.size W0 V) => LentState_any B now nl nx a1 X.length c1 X a2 L.length c2 L a3 N.length c3 N V (HST.out V hb) (HBV.out V hb) (by omega) (by omega) (by omega))
    have HRP := Lib.hid (fun (V : World) (hb : Below W0.heap.size W0 V) => rpick_any B now nl nx id a1 X.length c1 X a2 L.length c2 L a3 N.length c3 N V (HST.out V hb) (HBV.out V hb) HNOW.out)
    clear hsm
    go_enter Tryz.func3, Tryz.ntmps3
    go_upto_region 1 with (fail)
    rw [← HW0.out]
    go_upto_region 6 with (first | (go_at_call 5; refine HA.out.mono ?_; rintro e w1 ⟨rfl, hb1⟩; obtain ⟨y0, y1, y2, y3, y4, y5⟩ := HC.out w1 hb1; have B1 := Lib.hid hb1; clear hb1) | (go_at_call 6; refine (HS.out _).mono ?_; rintro e w2 ⟨rfl, hb2⟩; have hb2' := B1.out.trans (hb2.mono B1.out.size); obtain ⟨z0, z1, z2, z3, z4, z5⟩ := HC.out w2 hb2'; have B2 := Lib.hid hb2'; have HLE2 := Lib.hid (HLE.out w2 hb2'); clear hb2 hb2') | (go_at_call 7; refine HLE2.out.mono ?_; rintro e w3 ⟨hb3, g1, g2, d2, g3, d3, Y, rfl, hls⟩; have B3 := Lib.hid (B2.out.trans (hb3.mono B2.out.size)); have LS := Lib.hid hls; have D3 : Hid (w2.heap.size ≤ w3.heap.size) := Lib.hid hb3.size; clear hb3 hls))
    obtain ⟨W4, hW4⟩ : ∃ V, V = w3.alloc (.cells #[.int .i64 now, .int .i64 nl, .int .i64 nx, .slice (some ⟨g1, 0, none⟩) X.length (X.length + 12), .slice (some ⟨g2, 0, none⟩) L.length d2, .slice (some ⟨g3, 0, none⟩) N.length d3] 26) := ⟨_, rfl⟩
    have bW4 : Below w3.heap.size w3 W4 := by rw [hW4]; exact below_alloc _ _
    have hi4 : W4.heap[w3.heap.size]? = some (stObj now nl nx (.slice (some ⟨g1, 0, none⟩) X.length (X.length + 12)) (.slice (some ⟨g2, 0, none⟩) L.length d2) (.slice (some ⟨g3, 0, none⟩) N.length d3)) := by rw [hW4]; exact heap_alloc_new _ _
    obtain ⟨ib, hib⟩ : ∃ z, z = w3.heap.size := ⟨_, rfl⟩
    rw [← hib] at hi4
    rw [← hW4, ← hib]
    have hibl : ib < W4.heap.size := (Array.getElem?_eq_some_iff.1 hi4).1
    have B4 : Hid (Below W0.heap.size W0 W4) := Lib.hid (B3.out.trans (bW4.mono B3.out.size))
    have LS4 := Lib.hid (LS.out.below bW4)
    have hstr : Y.map strip = X.map strip := strip_like LS.out.len (fun i hi => (LS.out.each i hi).like)
    have HSI := Lib.hid (lent_st LS4.out HX.out.ok HL.out.fine HN.out.fine (by omega) (by omega) (by omega) HSZ.out)
    have HP : Hid (Calls Tryz.prog 8 #[.agg #[.int .i64 now, .int .i64 nl, .int .i64 nx, .slice (some ⟨g1, 0, none⟩) X.length (X.length + 12), .slice (some ⟨g2, 0, none⟩) L.length d2, .slice (some ⟨g3, 0, none⟩) N.length d3], .int .i64 id] W4 fun e w' => PickPost W4 now nl nx Y L N id e w') := Lib.hid (pick_any W4.heap.size now nl nx id _ _ _ Y _ _ _ L _ _ _ N W4 HSI.out (Nat.le_refl _) HNOW.out)
    have HI := Lib.hid (fun (V : World) (hb : Below W4.heap.size W4 V) => (stObj_cells ((hb.block ib hibl).trans hi4)))
    have HCS := Lib.hid (fun (V : World) (hb : Below W4.heap.size W4 V) => HC.out V (B4.out.trans (hb.mono B4.out.size)))
    have HRP4 := Lib.hid (fun (V : World) (hb : Below W4.heap.size W4 V) => HRP.out V (B4.out.trans (hb.mono B4.out.size)))
    have HKP := Lib.hid (fun (V : World) (hb : Below W4.heap.size W4 V) => KeptState_any B _ now nl nx a1 X.length c1 X a2 L.length c2 L a3 N.length c3 N V (HST.out V (B4.out.trans (hb.mono B4.out.size))) (HBV.out V (B4.out.trans (hb.mono B4.out.size))) (by omega) g1 g2 d2 g3 d3 Y (LS4.out.below hb))
    obtain ⟨i0, i1, i2, i3, i4, i5⟩ := HI.out W4 (Below.refl _ _)
    clear hW4 bW4 hib hi4 y0 y1 y2 y3 y4 y5 z0 z1 z2 z3 z4 z5 HLE HLE2 HS HA
    unfold PickPost at HP
    rw [pickX_like hstr] at HP
    unfold RPickPost at HRP4
    cases hpx : pickX now X L N id with
    | error er =>
      rw [hpx] at HP HRP4
      simp only at HP HRP4
      go_upto_region 7 with (go_at_call 8; refine HP.out.mono ?_; rintro e wP ⟨hbP, rfl⟩; have BP := Lib.hid hbP; clear hbP)
      obtain ⟨W5, hW5⟩ : ∃ V, V = wP.alloc (.cells #[.int .i64 0, .int .i64 0, .int .i64 0, .slice none 0 0, .slice none 0 0, .slice none 0 0] 26) := ⟨_, rfl⟩
      obtain ⟨tb, htb⟩ : ∃ z, z = wP.heap.size := ⟨_, rfl⟩
      have ht5 : W5.heap[tb]? = some (.cells #[.int .i64 0, .int .i64 0, .int .i64 0, .slice none 0 0, .slice none 0 0, .slice none 0 0] 26) := by rw [hW5, htb]; exact heap_alloc_new _ _
      have bW5 : Hid (Below wP.heap.size wP W5) := Lib.hid (by rw [hW5]; exact below_alloc _ _)
      have B5 := Lib.hid (BP.out.trans (bW5.out.mono BP.out.size))
      rw [← hW5, ← htb]
      have htl : tb < W5.heap.size := (Array.getElem?_eq_some_iff.1 ht5).1
      have HT5 := Lib.hid ht5
      obtain ⟨s0, s1, s2, s3, s4, s5⟩ := HCS.out W5 B5.out
      have HR5 := Lib.hid (HRP4.out W5 B5.out)
      clear hW5 htb ht5 i0 i1 i2 i3 i4 i5
      go_upto_region 8 with (go_at_call 9; refine HR5.out.mono ?_; rintro e wR ⟨hbR, rfl⟩; have BR := Lib.hid hbR; clear hbR)
      obtain ⟨W6, hW6⟩ : ∃ V, V = wR.alloc (.cells #[.int .i64 0, .int .i64 0, .int .i64 0, .slice none 0 0, .slice none 0 0, .slice none 0 0] 26) := ⟨_, rfl⟩
      obtain ⟨ub, hub⟩ : ∃ z, z = wR.heap.size := ⟨_, rfl⟩
      have hu6 : W6.heap[ub]? = some (.cells #[.int .i64 0, .int .i64 0, .int .i64 0, .slice none 0 0, .slice none 0 0, .slice none 0 0] 26) := by rw [hW6, hub]; exact heap_alloc_new _ _
      have bW6 : Hid (Below wR.heap.size wR W6) := Lib.hid (by rw [hW6]; exact below_alloc _ _)
      have B56 := Lib.hid (BR.out.trans (bW6.out.mono BR.out.size))
      have B6 := Lib.hid (B5.out.trans (B56.out.mono B5.out.size))
      rw [← hW6, ← hub]
      have hul : ub < W6.heap.size := (Array.getElem?_eq_some_iff.1 hu6).1
      have HTc := Lib.hid (fun (V : World) (hb : Below W6.heap.size W6 V) => (hb.block tb (Nat.lt_of_lt_of_le htl B56.out.size)).trans ((B56.out.block tb htl).trans HT5.out))
      have HUc := Lib.hid (fun (V : World) (hb : Below W6.heap.size W6 V) => (hb.block ub hul).trans hu6)
      obtain ⟨t0, t1, t2, t3, t4, t5⟩ := stObj_cells (HTc.out W6 (Below.refl _ _))
      obtain ⟨u0, u1, u2, u3, u4, u5⟩ := stObj_cells (HUc.out W6 (Below.refl _ _))
      clear hW6 hub hu6 s0 s1 s2 s3 s4 s5
      have HSS := Lib.hid (SameState_like 0 0 0 0 none none none none none none 0 0 0 0 0 0 0 0 0 [] [] [] [] W6 ⟨rfl, Nat.le_refl _, by decide, fun x hx => (by cases hx), fun h => absurd h (Nat.lt_irrefl _)⟩ ⟨rfl, Nat.le_refl _, by decide, fun x hx => (by cases hx), fun h => absurd h (Nat.lt_irrefl _)⟩ (fun i hi => absurd hi (Nat.not_lt_zero _)) (El.In.nil _ _) (El.In.nil _ _) (El.In.nil _ _) (El.In.nil _ _) (Nat.zero_le _))
      have HSU := Lib.hid (fun (V : World) (_ : Below W6.heap.size W6 V) => by
        have := SameUses_any 0 0 none none 0 0 0 0 [] [] V (El.In.nil _ _) (El.In.nil _ _)
        rw [decide_eq_true rfl] at this
        exact this)
      go_wp2_with (first | (go_at_call 10; refine HSS.out.mono ?_; rintro e w7 ⟨rfl, hb7⟩; have B7 := Lib.hid hb7; clear hb7) | (go_at_call 11; refine (HSU.out w7 B7.out).mono ?_; rintro e w8 ⟨rfl, q8, rfl⟩; have hb8 := B7.out.trans (drewN_below w7 q8 _); have hb9 := B6.out.trans (hb8.mono B6.out.size); obtain ⟨i0, i1, i2, i3, i4, i5⟩ := HI.out _ hb9; obtain ⟨s0, s1, s2, s3, s4, s5⟩ := HCS.out _ hb9; have B8 := Lib.hid hb9; have HK8 := Lib.hid (HKP.out _ hb9); clear hb8 hb9) | (go_at_call 12; refine HK8.out.mono ?_; rintro e w9 ⟨rfl, hb9⟩; have B9 := Lib.hid (B8.out.trans (hb9.mono B8.out.size)); clear hb9))
      go_ret
      exact ⟨rfl, HB0.out.trans ((B4.out.trans (B9.out.mono B4.out.size)).mono hs1)⟩
    | ok T =>
      rw [hpx] at HP HRP4
      simp only at HP HRP4
      obtain ⟨L', N', U⟩ := T
      simp only at HP HRP4
      obtain ⟨fl, fn, fu⟩ := pickX_fine HL.out.fine HN.out.fine hpx
      have FL := Lib.hid fl
      have FN := Lib.hid fn
      have FU := Lib.hid fu
      clear fl fn fu
      go_upto_region 7 with (go_at_call 8; refine HP.out.mono ?_; rintro e wP ⟨hbP, b1, e1, Y2, b2, e2, b3, e3, ua, uc, rfl, hso, huo⟩; have SO := Lib.hid hso; have UP := Lib.hid huo; clear hso huo; have BP := Lib.hid hbP; clear hbP)
      obtain ⟨W5, hW5⟩ : ∃ V, V = wP.alloc (.cells #[.int .i64 now, .int .i64 nl, .int .i64 nx, .slice b1 Y.length e1, .slice b2 L'.length e2, .slice b3 N'.length e3] 26) := ⟨_, rfl⟩
      obtain ⟨tb, htb⟩ : ∃ z, z = wP.heap.size := ⟨_, rfl⟩
      have ht5 : W5.heap[tb]? = some (.cells #[.int .i64 now, .int .i64 nl, .int .i64 nx, .slice b1 Y.length e1, .slice b2 L'.length e2, .slice b3 N'.length e3] 26) := by rw [hW5, htb]; exact heap_alloc_new _ _
      have bW5 : Hid (Below wP.heap.size wP W5) := Lib.hid (by rw [hW5]; exact below_alloc _ _)
      have B5 := Lib.hid (BP.out.trans (bW5.out.mono BP.out.size))
      rw [← hW5, ← htb]
      have htl : tb < W5.heap.size := (Array.getElem?_eq_some_iff.1 ht5).1
      have HT5 := Lib.hid ht5
      obtain ⟨s0, s1, s2, s3, s4, s5⟩ := HCS.out W5 B5.out
      have HR5 := Lib.hid (HRP4.out W5 B5.out)
      clear hW5 htb ht5 i0 i1 i2 i3 i4 i5
      go_upto_region 8 with (go_at_call 9; refine HR5.out.mono ?_; rintro e wR ⟨hbR, va, vc, gn, c', ra, rc, rfl, hrl, hrn, hru⟩; have RL := Lib.hid hrl; have RN := Lib.hid hrn; have UR := Lib.hid hru; clear hrl hrn hru; have BR := Lib.hid hbR; clear hbR)
      obtain ⟨W6, hW6⟩ : ∃ V, V = wR.alloc (.cells #[.int .i64 now, .int .i64 nl, .int .i64 nx, .slice a1 X.length c1, .slice va L'.length vc, .slice (some ⟨gn, 0, none⟩) N'.length c'] 26) := ⟨_, rfl⟩
      obtain ⟨ub, hub⟩ : ∃ z, z = wR.heap.size := ⟨_, rfl⟩
      have hu6 : W6.heap[ub]? = some (.cells #[.int .i64 now, .int .i64 nl, .int .i64 nx, .slice a1 X.length c1, .slice va L'.length vc, .slice (some ⟨gn, 0, none⟩) N'.length c'] 26) := by rw [hW6, hub]; exact heap_alloc_new _ _
      have bW6 : Hid (Below wR.heap.size wR W6) := Lib.hid (by rw [hW6]; exact below_alloc _ _)
      have B56 := Lib.hid (BR.out.trans (bW6.out.mono BR.out.size))
      have B6 := Lib.hid (B5.out.trans (B56.out.mono B5.out.size))
      rw [← hW6, ← hub]
      have hul : ub < W6.heap.size := (Array.getElem?_eq_some_iff.1 hu6).1
      have HTc := Lib.hid (fun (V : World) (hb : Below W6.heap.size W6 V) => (hb.block tb (Nat.lt_of_lt_of_le htl B56.out.size)).trans ((B56.out.block tb htl).trans HT5.out))
      have HUc := Lib.hid (fun (V : World) (hb : Below W6.heap.size W6 V) => (hb.block ub hul).trans hu6)
      obtain ⟨t0, t1, t2, t3, t4, t5⟩ := stObj_cells (HTc.out W6 (Below.refl _ _))
      obtain ⟨u0, u1, u2, u3, u4, u5⟩ := stObj_cells (HUc.out W6 (Below.refl _ _))
      clear hW6 hub hu6 s0 s1 s2 s3 s4 s5
      have hB6P : Below wP.heap.size wP W6 := bW5.out.trans (B56.out.mono bW5.out.size)
      have hIO := SO.out.items.below hB6P
      have hri := hIO.ri HSI.out.items.ok
      have hYX : Y.length = X.length := LS.out.len
      obtain ⟨_, _, el, hl6⟩ := (SO.out.lots.below hB6P).in_ FL.out
      injection el with el1 el2 el3
      subst el1; subst el3
      obtain ⟨_, _, en, hn6⟩ := (SO.out.lines.below hB6P).in_ FN.out
      injection en with en1 en2 en3
      subst en1; subst en3
      obtain ⟨_, _, er, hr6⟩ := (RL.out.below bW6.out).in_ FL.out
      injection er with er1 er2 er3
      subst er1; subst er3
      obtain ⟨_, _, em, hm6⟩ := (RN.out.below bW6.out).in_ FN.out
      injection em with em1 em2 em3
      subst em1; subst em3
      have hYl := hYX
      rw [hYX] at hri t3
      have HSS := Lib.hid (SameState_like W6.heap.size now nl nx _ a1 _ _ _ _ X.length _ c1 L'.length _ _ N'.length _ _ _ X L' N' W6 hri ((HX.out.below ((HB0.out.trans ((B4.out.trans (B6.out.mono B4.out.size)).mono hs1)).mono hB)).mono (Nat.le_trans hB (HB0.out.trans ((B4.out.trans (B6.out.mono B4.out.size)).mono hs1)).size)) (fun i hi => (hIO.each i (by rw [hYl]; exact hi)).like.trans (LS.out.each i hi).like) hl6 hr6 hn6 hm6 (Nat.le_refl _))
      clear hIO hri hl6 hn6 hr6 hm6 hYX
      have HSU : Hid (∀ V, Below W6.heap.size W6 V → Calls Tryz.prog 11 #[.slice ua U.length uc, .slice ra U.length rc] V fun e w' => e = .returned (.bool true) ∧ ∃ q, w' = V.drewN q) := Lib.hid (fun (V : World) (hb : Below W6.heap.size W6 V) => by
        obtain ⟨_, _, ep, hp6⟩ := ((UP.out.below hB6P).below hb).in_ FU.out
        injection ep with ep1 ep2 ep3
        subst ep1; subst ep3
        obtain ⟨_, _, eq, hq6⟩ := ((UR.out.below bW6.out).below hb).in_ FU.out
        injection eq with eq1 eq2 eq3
        subst eq1; subst eq3
        have := SameUses_any _ _ _ _ _ _ _ _ _ _ V hp6 hq6
        rw [decide_eq_true rfl] at this
        exact this)
      go_wp2_with (first | (go_at_call 10; refine HSS.out.mono ?_; rintro e w7 ⟨rfl, hb7⟩; have B7 := Lib.hid hb7; clear hb7) | (go_at_call 11; refine (HSU.out w7 B7.out).mono ?_; rintro e w8 ⟨rfl, q8, rfl⟩; have hb8 := B7.out.trans (drewN_below w7 q8 _); have hb9 := B6.out.trans (hb8.mono B6.out.size); obtain ⟨i0, i1, i2, i3, i4, i5⟩ := HI.out _ hb9; obtain ⟨s0, s1, s2, s3, s4, s5⟩ := HCS.out _ hb9; have B8 := Lib.hid hb9; have HK8 := Lib.hid (HKP.out _ hb9); clear hb8 hb9) | (go_at_call 12; refine HK8.out.mono ?_; rintro e w9 ⟨rfl, hb9⟩; have B9 := Lib.hid (B8.out.trans (hb9.mono B8.out.size)); clear hb9))
      go_ret
      exact ⟨rfl, HB0.out.trans ((B4.out.trans (B9.out.mono B4.out.size)).mono hs1)⟩
end Go.Proofs.YtbedbhlebfnohaaGreat
