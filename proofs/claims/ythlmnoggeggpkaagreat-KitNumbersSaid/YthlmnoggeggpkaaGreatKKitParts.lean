/- KitParts. -/
import Derived.Test.YthlmnoggeggpkaaGreatKChecks
namespace Go.Proofs.YthlmnoggeggpkaaGreat
open Go.RowKit

/-- What of in and its items is told hangs on what they say. -/
theorem same_told {X Y : List It} (hl : Y.length = X.length) (h : ∀ i, i < X.length → LikeI (Y.getD i default) (X.getD i default)) (c : List UInt8) (q : Int) : plX Y c q = plX X c q ∧ partsE Y c q = partsE X c q ∧ wlX Y c = wlX X c ∧ deepX Y c = deepX X c := by
  have e := strip_like hl h
  exact ⟨by rw [← pl_strip Y, e, pl_strip], by rw [← partsE_strip Y, e, partsE_strip], by rw [← wl_strip Y, e, wl_strip], by rw [← deepX_strip Y, e, deepX_strip]⟩
theorem rows_out {B N : Nat} {w w' : World} (h : Out B N w w') {base size n : Nat} {e : TypeId} {v : Value} {X : List Value} (hr : w.ownsRow base e size v n X) (hN : N ≤ base) : w'.ownsRow base e size v n X :=
  Tx.rows_keep hr fun b hb => h.block b (Tx.rows_ge hr b hb).2 (.inr (Nat.le_trans hN (Tx.rows_ge hr b hb).1))
theorem txout_below {K B0 : Nat} {V : Nat → Value} {w w' : World} (h : Tx.Out K V w w') (hv : ∀ j, j < K → ∀ b, (V j).ownBlock = some b → B0 ≤ b) (hB0 : B0 ≤ w.heap.size) : Below B0 w w' :=
  ⟨h.os, h.tape, h.output, h.size, fun k hk => h.block k (by omega) (fun j hj e => by have := hv j hj k e; omega)⟩
/-- Two values. -/
def twoV (u v : Value) : Nat → Value := fun k => if k = 0 then u else v
theorem ap_two {B M N : Nat} {w : World} {u v : Value} {P : List Pt} (hu : OP B w u P) (hv : OP M w v P) (hul : ∀ b, u.ownBlock = some b → b < M) (hvl : ∀ b, v.ownBlock = some b → b < N) (hBM : B ≤ M) (hMN : M ≤ N) (hN : N ≤ w.heap.size) : Ap B N 2 (twoV u v) (fun _ => P) w := by
  refine ⟨fun k hk => ?_, fun k hk b hb => ?_, fun j k hj hk hne b h1 h2 => ?_, hN⟩
  · unfold twoV
    split
    · exact hu
    · exact hv.mono hBM
  · unfold twoV at hb
    split at hb
    · have := hul b hb; omega
    · exact hvl b hb
  · unfold twoV at h1 h2
    split at h1
    · split at h2
      · omega
      · have := hul b h1; have := (hv.ge b h2).1; omega
    · split at h2
      · have := hul b h2; have := (hv.ge b h1).1; omega
      · omega
theorem ap_texts {B M : Nat} {w : World} {u v : Value} {L : List (List UInt8)} (hu : w.ownsRow B 9 1 u L.length (L.map encStr)) (hv : w.ownsRow M 9 1 v L.length (L.map encStr)) (hul : ∀ b, u.ownBlock = some b → b < M) (hBM : B ≤ M) : Tx.Ap 9 1 Tx.TX B w.heap.size 2 (twoV u v) (fun _ => L.length) (fun _ => 0) w := by
  refine ⟨fun k hk => ?_, fun k hk b hb => ?_, fun j k hj hk hne b h1 h2 => ?_, Nat.le_refl _⟩
  · unfold twoV
    split
    · exact ⟨_, hu, fun t ht => absurd ht (Nat.not_lt_zero _)⟩
    · exact ⟨_, Tx.rows_mono hv hBM, fun t ht => absurd ht (Nat.not_lt_zero _)⟩
  · unfold twoV at hb
    split at hb
    · exact (Tx.rows_ge hu b hb).2
    · exact (Tx.rows_ge hv b hb).2
  · unfold twoV at h1 h2
    split at h1
    · split at h2
      · omega
      · have := hul b h1; have := (Tx.rows_ge hv b h2).1; omega
    · split at h2
      · have := hul b h2; have := (Tx.rows_ge hv b h1).1; omega
      · omega
theorem two_cells (W : World) (u v : Value) (t : TypeId) : ∀ k, k < 2 → (W.alloc (.cells #[u, v] t)).cell? ⟨W.heap.size, k, none⟩ = some (twoV u v k) := fun k hk => by
  rcases (show k = 0 ∨ k = 1 by omega) with rfl | rfl <;> (unfold World.cell?; rw [heap_alloc_new]; rfl)
set_option maxHeartbeats 16000000 in
set_option maxRecDepth 100000 in
theorem KitParts_any (B : Nat) (a : Option Addr) (n c : Nat) (X : List It) (code : List UInt8) (qty : Int) (w : World) (hr : RI B w a n c X) (hB : B ≤ w.heap.size) (hlow : LowI X) (hcl : code.length ≤ 140737488355328) (hq : -9223372036854775808 ≤ qty ∧ qty ≤ 9223372036854775807) :
    Calls Tryz.prog 3 #[.slice a n c, .string ⟨code.toArray⟩, .int .i64 qty] w fun e w' => e = .returned (.bool true) ∧ Below w.heap.size w w' := by
  have HR := Lib.hid hr
  have HG := Lib.hid (great_any B a n c X w hr hlow)
  have HCL : Hid (code.length ≤ 9223372036854775807) := Lib.hid (by omega)
  clear hr hlow hcl
  go_enter Tryz.func3, Tryz.ntmps3
  go_wp2_with (fail)
  go_at_call 5
  refine HG.out.mono ?_
  rintro e w1 ⟨⟨gr, rfl, hgr⟩, q, rfl⟩
  have hb1 : Below w.heap.size w (w.drewN q) := below_dn (Below.refl _ _) q
  have HB1 := Lib.hid hb1
  have hr1 := HR.out.below (hb1.mono hB)
  generalize w.drewN q = w1 at HB1 hr1 ⊢
  clear hb1
  cases gr with
  | true =>
    clear hr1 hgr
    go_wp2_with (fail)
    go_at_call 6
    refine (awake_any _).mono ?_
    rintro e w2 ⟨rfl, hb2⟩
    have HB2 := Lib.hid (HB1.out.trans (hb2.mono HB1.out.size))
    clear hb2
    go_wp2_with (fail)
    go_ret
    exact ⟨rfl, HB2.out⟩
  | false =>
    by_cases hcc : 10000 < code.length
    · have e1 : decide ((code.length : Int) > 10000) = true := decide_eq_true (by omega)
      clear hr1 hgr
      go_wp2_with (fail)
      go_at_call 6
      refine (awake_any _).mono ?_
      rintro e w2 ⟨rfl, hb2⟩
      have HB2 := Lib.hid (HB1.out.trans (hb2.mono HB1.out.size))
      clear hb2
      go_wp2_with (fail)
      go_ret
      exact ⟨rfl, HB2.out⟩
    · have e1 : decide ((code.length : Int) > 10000) = false := decide_eq_false (by omega)
      obtain ⟨hn, hcnt⟩ := hgr rfl
      have hsz : ∀ x ∈ X, x.ps.length ≤ 100000 ∧ x.os.length ≤ 100000 := fun x hx => by
        obtain ⟨i, hi, rfl⟩ := List.mem_iff_getElem.1 hx
        have := hcnt i (by have := HR.out.len; omega)
        rw [List.getD_eq_getElem?_getD, List.getElem?_eq_getElem hi] at this
        simp only [Option.getD_some] at this
        omega
      have hBw := Nat.le_trans hB HB1.out.size
      have HLI := Lib.hid (LentItems_any B a n c X w1 hr1 hBw (by omega) hsz)
      have HSZ := Lib.hid hsz
      have HR1 := Lib.hid hr1
      clear hgr hcnt hsz hr1
      go_wp2_with (fail)
      clear hcc e1
      go_at_call 7
      refine HLI.out.mono ?_
      rintro e w2 ⟨Y, rfl, hYl, ho, hL, hb2⟩
      have hXl : X.length = n := HR.out.len.symm
      have hL1 : ∀ i, i < n → LI w1.heap.size w2 (X.getD i default) (Y.getD i default) := fun i hi => (hL i hi).mono (Nat.le_succ _)
      have hri := lent_ri ho hYl hXl hL1 (fun x hx => HR1.out.ok x hx)
      obtain ⟨s1, s2, s3, s4⟩ := same_told (X := X) (Y := Y) (by omega) (fun i hi => (hL i (by omega)).like) code qty
      have HO := Lib.hid ho
      have HL := Lib.hid hL1
      have HYL := Lib.hid hYl
      have HRI := Lib.hid hri
      have HB12 := Lib.hid hb2
      have HB2 := Lib.hid (HB1.out.trans (hb2.mono HB1.out.size))
      obtain ⟨N, hN⟩ : ∃ N, N = w2.heap.size := ⟨_, rfl⟩
      have HN := Lib.hid hN
      obtain ⟨pl, hpl⟩ : ∃ z, z = plX X code qty := ⟨_, rfl⟩
      obtain ⟨pe, hpe⟩ : ∃ z, z = partsE X code qty := ⟨_, rfl⟩
      obtain ⟨wl, hwl⟩ : ∃ z, z = wlX X code := ⟨_, rfl⟩
      obtain ⟨dp, hdp⟩ : ∃ z, z = deepX X code := ⟨_, rfl⟩
      rw [← hpl] at s1
      rw [← hpe] at s2
      rw [← hwl] at s3
      rw [← hdp] at s4
      have S1 := Lib.hid s1
      have S2 := Lib.hid s2
      have S3 := Lib.hid s3
      have S4 := Lib.hid s4
      have HPL := Lib.hid hpl
      have HPE := Lib.hid hpe
      have HWL := Lib.hid hwl
      have HDP := Lib.hid hdp
      have HCX : Hid (∀ x ∈ X, x.code.length ≤ 9223372036854775807) := Lib.hid (fun y hy => (HR.out.ok y hy).code)
      have hc2 := Parts_u _ _ _ _ Y code qty w2 hri (Nat.le_refl _) HCL.out hq.1 hq.2
      unfold PartsPost at hc2
      rw [s1, s2] at hc2
      have HC2 := Lib.hid hc2
      clear hL hL1 hri hc2 ho hYl hXl hb2 s1 s2 s3 s4 hpl hpe hwl hdp hN
      go_wp2_with (fail)
      go_at_call 8
      refine HC2.out.mono ?_
      rintro e w3 ⟨hb3, aa, ca, rfl, hopa, hpsa⟩
      have D3 := Lib.hid hb3
      have HRI3 := HRI.out.below hb3
      have hc3 := Parts_u _ _ _ _ Y code qty w3 HRI3 hb3.size HCL.out hq.1 hq.2
      unfold PartsPost at hc3
      rw [S1.out, S2.out] at hc3
      have HC3 := Lib.hid hc3
      have HOPA := Lib.hid hopa
      have HPSA := Lib.hid hpsa
      clear hb3 hc3 hopa hpsa HRI3 HC2
      go_wp2_with (fail)
      go_at_call 8
      refine HC3.out.mono ?_
      rintro e w4 ⟨hb4, ab, cb, rfl, hopb, -⟩
      have D34 := Lib.hid hb4
      have D4 := Lib.hid (D3.out.trans (hb4.mono D3.out.size))
      have HOPB := Lib.hid hopb
      have hc4 := Within_u _ _ _ _ Y code w4 (HRI.out.below D4.out) D4.out.size HCL.out
      unfold InPost at hc4
      rw [S3.out] at hc4
      have HC4 := Lib.hid hc4
      clear hb4 hopb hc4 HC3
      go_wp2_with (fail)
      go_at_call 9
      refine HC4.out.mono ?_
      rintro e w5 ⟨hb5, wa, wc, rfl, hrw⟩
      have D45 := Lib.hid hb5
      have D5 := Lib.hid (D4.out.trans (hb5.mono D4.out.size))
      have HRW := Lib.hid hrw
      have hc5 := Within_u _ _ _ _ Y code w5 (HRI.out.below D5.out) D5.out.size HCL.out
      unfold InPost at hc5
      rw [S3.out] at hc5
      have HC5 := Lib.hid hc5
      clear hb5 hrw hc5 HC4
      go_wp2_with (fail)
      go_at_call 9
      refine HC5.out.mono ?_
      rintro e w6 ⟨hb6, va, vc, rfl, hrv⟩
      have D56 := Lib.hid hb6
      have D6 := Lib.hid (D5.out.trans (hb6.mono D5.out.size))
      have HRV := Lib.hid hrv
      have hc6 := Deep_any _ _ _ _ Y code w6 (HRI.out.below D6.out) D6.out.size HCL.out
      rw [S4.out] at hc6
      have HC6 := Lib.hid hc6
      clear hb6 hrv hc6 HC5
      go_wp2_with (fail)
      go_at_call 10
      refine HC6.out.mono ?_
      rintro e w7 ⟨rfl, hb7⟩
      have D67 := Lib.hid hb7
      have D7 := Lib.hid (D6.out.trans (hb7.mono D6.out.size))
      have HB7 := Lib.hid (HB2.out.trans (D7.out.mono HB2.out.size))
      have HB17 := Lib.hid (HB12.out.trans (D7.out.mono HB12.out.size))
      have HKI := Lib.hid (KeptItems_any w1.heap.size B _ a n c X Y w7 (HO.out.below D7.out) HYL.out (fun i hi => (HL.out i hi).keep D7.out) (HR.out.below (HB7.out.mono hB)) (Nat.le_trans hB HB7.out.size) (by omega))
      clear hb7 HC6
      go_wp2_with (fail)
      go_at_call 11
      refine HKI.out.mono ?_
      rintro e w8 ⟨rfl, hb8⟩
      have D78 := Lib.hid hb8
      have D8 := Lib.hid (D7.out.trans (hb8.mono D7.out.size))
      have HB8 := Lib.hid (HB7.out.trans (hb8.mono HB7.out.size))
      have hgi := HO.out.ge w1.heap.size rfl
      have HOV := Lib.hid (OverItems_any w1.heap.size w2.heap.size w1.heap.size w1.heap.size n Y w8 (HO.out.below D8.out) HYL.out hgi (by omega) (fun y hy => by
        obtain ⟨i, hi, rfl⟩ := List.mem_iff_getElem.1 hy
        have h1 := (HL.out i (by rw [HYL.out] at hi; exact hi)).lo (B := w1.heap.size) (Nat.le_refl _)
        have hxm : X.getD i default ∈ X := getD_mem (by have := HR.out.len; rw [HYL.out] at hi; omega)
        have h2 := h1 (HSZ.out _ hxm).1 (HSZ.out _ hxm).2
        rw [List.getD_eq_getElem?_getD (l := Y), List.getElem?_eq_getElem hi] at h2
        exact h2.ov ((Ov.refl _ _ _).below D8.out)))
      clear hb8 HKI hgi
      go_wp2_with (fail)
      go_at_call 12
      refine HOV.out.mono ?_
      rintro e w9 ⟨rfl, hout⟩
      have HB9 := Lib.hid (HB8.out.trans (out_below hout HB1.out.size (Nat.le_trans HB12.out.size D8.out.size)))
      have hs9 := hout.size
      have D38 : Below w3.heap.size w3 w8 := D34.out.trans ((D45.out.trans ((D56.out.trans ((D67.out.trans (D78.out.mono D67.out.size)).mono D56.out.size)).mono D45.out.size)).mono D34.out.size)
      have D48 : Below w4.heap.size w4 w8 := D45.out.trans ((D56.out.trans ((D67.out.trans (D78.out.mono D67.out.size)).mono D56.out.size)).mono D45.out.size)
      have D58 : Below w5.heap.size w5 w8 := D56.out.trans ((D67.out.trans (D78.out.mono D67.out.size)).mono D56.out.size)
      have D68 : Below w6.heap.size w6 w8 := D67.out.trans (D78.out.mono D67.out.size)
      have A9 := Lib.hid (rows_out hout (HOPA.out.below D38) (Nat.le_refl _))
      have B9 := Lib.hid (rows_out hout (HOPB.out.below D48) D3.out.size)
      have W9 := Lib.hid (rows_out hout (Tx.rows_below HRW.out D58) D4.out.size)
      have V9 := Lib.hid (rows_out hout (Tx.rows_below HRV.out D68) D5.out.size)
      have z34 := D34.out.size
      have z45 := D45.out.size
      have z56 := D56.out.size
      have z69 : w6.heap.size ≤ w9.heap.size := Nat.le_trans D68.size hs9
      have z23 := D3.out.size
      have zB := HB2.out.size
      have hul : ∀ b, (Value.slice aa pl.length ca).ownBlock = some b → b < w3.heap.size := fun b hb => (HOPA.out.ge b hb).2
      have hvl : ∀ b, (Value.slice ab pl.length cb).ownBlock = some b → b < w4.heap.size := fun b hb => (HOPB.out.ge b hb).2
      have hwl2 : ∀ b, (Value.slice wa wl.length wc).ownBlock = some b → b < w5.heap.size := fun b hb => (Tx.rows_ge HRW.out b hb).2
      have HUL := Lib.hid hul
      have HVL := Lib.hid hvl
      have HWL2 := Lib.hid hwl2
      have hc9 := rParts_u B a n c X code qty w9 (HR.out.below (HB9.out.mono hB)) (Nat.le_trans hB HB9.out.size) HCL.out
      unfold PartsPost at hc9
      rw [← HPL.out, ← HPE.out] at hc9
      have HC9 := Lib.hid hc9
      have ZZ := Lib.hid (⟨z23, z34, z45, z56, z69, zB⟩ : _ ∧ _ ∧ _ ∧ _ ∧ _ ∧ _)
      have hee : (pe == pe) = true := by simp
      have hdd : (dp == dp) = true := by simp
      clear hout hs9 D38 D48 D58 D68 hc9 hul hvl hwl2 z23 z34 z45 z56 z69 zB HOV HOPA HOPB HRW HRV D3 D34 D4 D45 D5 D56 D6 D67 D7 D78 D8 HB7 HB17
      go_wp2_with (fail)
      go_at_call 13
      refine HC9.out.mono ?_
      rintro e w10 ⟨hb10, ac, cc, rfl, hopc, hpsc⟩
      have hfine := fine_ps HCX.out hpsc
      have HB10 := Lib.hid (HB9.out.trans (hb10.mono HB9.out.size))
      have A10 := Lib.hid (Tx.rows_below A9.out hb10)
      have B10 := Lib.hid (Tx.rows_below B9.out hb10)
      have W10 := Lib.hid (Tx.rows_below W9.out hb10)
      have V10 := Lib.hid (Tx.rows_below V9.out hb10)
      have Z10 := Lib.hid (Nat.le_trans ZZ.out.2.2.2.2.1 hb10.size)
      have HSP := Lib.hid (SameParts_any w10.heap.size aa ac pl.length pl.length ca cc pl pl w10 (OP.rp2 A10.out hfine) (hopc.rp2 hfine))
      rw [decide_eq_true (rfl : pl = pl)] at HSP
      have HPLL : Hid (pl.length ≤ 60) := Lib.hid (by
        by_cases h0 : chkE X = 0
        · have := hpsc.len; have := (sound_of h0).len; omega
        · have : pl = [] := by rw [HPL.out]; unfold plX; rw [if_neg]; unfold partsE; rw [if_pos h0]; exact h0
          rw [this]; exact Nat.zero_le _)
      clear hb10 hopc hpsc hfine HC9 A9 B9 W9 V9 HB9
      go_wp2_with (fail)
      go_at_call 14
      refine HSP.out.mono ?_
      rintro e w11 ⟨rfl, q11, rfl⟩
      have hd11 : Below w10.heap.size w10 (w10.drewN q11) := below_dn (Below.refl _ _) q11
      have HB11 := Lib.hid (HB10.out.trans (hd11.mono HB10.out.size))
      have A11 := Lib.hid (Tx.rows_below A10.out hd11)
      have B11 := Lib.hid (Tx.rows_below B10.out hd11)
      have W11 := Lib.hid (Tx.rows_below W10.out hd11)
      have V11 := Lib.hid (Tx.rows_below V10.out hd11)
      have Z11 := Lib.hid (Nat.le_trans Z10.out hd11.size)
      generalize w10.drewN q11 = w11 at HB11 A11 B11 W11 V11 Z11 hd11 ⊢
      have hc11 := rWithin_u B a n c X code w11 (HR.out.below (HB11.out.mono hB)) (Nat.le_trans hB HB11.out.size) HCL.out
      unfold InPost at hc11
      rw [← HWL.out] at hc11
      have HC11 := Lib.hid hc11
      clear hd11 hc11 HSP A10 B10 W10 V10 HB10 Z10
      go_wp2_with (fail)
      go_at_call 16
      refine HC11.out.mono ?_
      rintro e w12 ⟨hb12, xa, xc, rfl, hrx⟩
      have HB12 := Lib.hid (HB11.out.trans (hb12.mono HB11.out.size))
      have A12 := Lib.hid (Tx.rows_below A11.out hb12)
      have B12 := Lib.hid (Tx.rows_below B11.out hb12)
      have W12 := Lib.hid (Tx.rows_below W11.out hb12)
      have V12 := Lib.hid (Tx.rows_below V11.out hb12)
      have Z12 := Lib.hid (Nat.le_trans Z11.out hb12.size)
      have hwf : ∀ t ∈ wl, t.length ≤ 9223372036854775807 := fun t ht => code_le HCX.out (wl_sub t (by rw [← HWL.out]; exact ht))
      obtain ⟨ga, gc, eg, hrt1⟩ := OT.all W12.out hwf
      injection eg with eg1 eg2 eg3
      obtain ⟨ha, hc', eh, hrt2⟩ := OT.all hrx hwf
      injection eh with eh1 eh2 eh3
      rw [← eg1, ← eg3] at hrt1
      rw [← eh1, ← eh3] at hrt2
      have HST := Lib.hid (SameTexts_any w12.heap.size wa xa wl.length wl.length wc xc wl wl w12 hrt1 hrt2)
      rw [decide_eq_true (rfl : wl = wl)] at HST
      have HWLL : Hid (wl.length ≤ 1000) := Lib.hid (by
        have h1 := wl_len (X := X) (c := code)
        rw [← HWL.out] at h1
        have := HR.out.len
        omega)
      clear hb12 hrx hwf eg1 eg2 eg3 eh1 eh2 eh3 hrt1 hrt2 HC11 A11 B11 W11 V11 HB11 Z11 ga gc ha hc'
      go_wp2_with (fail)
      go_at_call 15
      refine HST.out.mono ?_
      rintro e w13 ⟨rfl, q13, rfl⟩
      have hd13 : Below w12.heap.size w12 (w12.drewN q13) := below_dn (Below.refl _ _) q13
      have HB13 := Lib.hid (HB12.out.trans (hd13.mono HB12.out.size))
      have A13 := Lib.hid (Tx.rows_below A12.out hd13)
      have B13 := Lib.hid (Tx.rows_below B12.out hd13)
      have W13 := Lib.hid (Tx.rows_below W12.out hd13)
      have V13 := Lib.hid (Tx.rows_below V12.out hd13)
      have Z13 := Lib.hid (Nat.le_trans Z12.out hd13.size)
      generalize w12.drewN q13 = w13 at HB13 A13 B13 W13 V13 Z13 hd13 ⊢
      have hc13 := rDeepTop_any B a n c X code w13 (HR.out.below (HB13.out.mono hB)) (Nat.le_trans hB HB13.out.size) HCL.out
      rw [← HDP.out] at hc13
      have HC13 := Lib.hid hc13
      clear hd13 hc13 HST A12 B12 W12 V12 HB12 Z12
      go_wp2_with (fail)
      go_at_call 17
      refine HC13.out.mono ?_
      rintro e w14 ⟨rfl, hb14⟩
      have HB14 := Lib.hid (HB13.out.trans (hb14.mono HB13.out.size))
      have A14 := Lib.hid (Tx.rows_below A13.out hb14)
      have B14 := Lib.hid (Tx.rows_below B13.out hb14)
      have W14 := Lib.hid (Tx.rows_below W13.out hb14)
      have V14 := Lib.hid (Tx.rows_below V13.out hb14)
      have Z14 := Lib.hid (Nat.le_trans Z13.out hb14.size)
      clear hb14 HC13 A13 B13 W13 V13 HB13 Z13
      obtain ⟨WA, hWA⟩ : ∃ W, W = w14.alloc (.cells #[.slice aa pl.length ca, .slice ab pl.length cb] 26) := ⟨_, rfl⟩
      have hbA : Below w14.heap.size w14 WA := by rw [hWA]; exact (Below.refl _ w14).alloc (Nat.le_refl _) _
      have hsA : WA.heap.size = w14.heap.size + 1 := by rw [hWA, World.size_alloc]
      obtain ⟨z23, z34, z45, z56, z69, zB⟩ := ZZ.out
      have hz14 := Z14.out
      have HAP := Lib.hid (ApartPartsN_any w2.heap.size w4.heap.size 2 2 w14.heap.size (twoV (.slice aa pl.length ca) (.slice ab pl.length cb)) (fun _ => pl) WA (by omega) (by omega)
        (ap_two (OP.below A14.out hbA) (OP.below B14.out hbA) HUL.out HVL.out z23 z34 (by omega)) (by decide) (by decide) ⟨Nat.le_refl _, by decide⟩ (by omega) (fun k hk => by rw [hWA]; exact two_cells _ _ _ _ k hk) (fun k hk => by have := HPLL.out; omega))
      have HWA := Lib.hid hWA
      have HBA := Lib.hid (HB14.out.trans (hbA.mono HB14.out.size))
      have WA1 := Lib.hid (Tx.rows_below W14.out hbA)
      have VA1 := Lib.hid (Tx.rows_below V14.out hbA)
      have HSA := Lib.hid hsA
      clear hbA hsA z23 z34 z45 z56 z69 zB hz14 A14 B14 W14 V14
      go_wp2_with (fail)
      rw [← hWA]
      clear hWA
      go_at_call 18
      refine HAP.out.mono ?_
      rintro e w15 ⟨rfl, hout⟩
      obtain ⟨z23, z34, z45, z56, z69, zB⟩ := ZZ.out
      have hz14 := Z14.out
      have hzA := HSA.out
      have HB15 := Lib.hid (HBA.out.trans (out_below hout zB (by omega)))
      have hs15 := hout.size
      have W15 := rows_out hout WA1.out (Nat.le_refl _)
      have V15 := rows_out hout VA1.out z45
      obtain ⟨WB, hWB⟩ : ∃ W, W = w15.alloc (.cells #[.slice wa wl.length wc, .slice va wl.length vc] 30) := ⟨_, rfl⟩
      have hbB : Below w15.heap.size w15 WB := by rw [hWB]; exact (Below.refl _ w15).alloc (Nat.le_refl _) _
      have hsB : WB.heap.size = w15.heap.size + 1 := by rw [hWB, World.size_alloc]
      have HAT := Lib.hid (Tx.ApartTexts_any w4.heap.size 2 2 w15.heap.size (twoV (.slice wa wl.length wc) (.slice va wl.length vc)) (fun _ => wl.length) WB (by omega)
        (ap_texts (Tx.rows_below W15 hbB) (Tx.rows_below V15 hbB) HWL2.out z45) (by decide) (by decide) ⟨Nat.le_refl _, by decide⟩ (by omega) (fun k hk => by rw [hWB]; exact two_cells _ _ _ _ k hk) (fun k hk => by have := HWLL.out; omega))
      have HBB := Lib.hid (HB15.out.trans (hbB.mono HB15.out.size))
      have HVB : Hid (∀ j, j < 2 → ∀ b, (twoV (.slice wa wl.length wc) (.slice va wl.length vc) j).ownBlock = some b → w.heap.size ≤ b) := Lib.hid (fun j hj b hb => by
        unfold twoV at hb
        split at hb
        · have := (Tx.rows_ge W15 b hb).1; omega
        · have := (Tx.rows_ge V15 b hb).1; omega)
      clear hout hzA hs15 W15 V15 hbB hsB z23 z34 z45 z56 z69 zB hz14 HAP WA1 VA1 HB15 HBA
      go_wp2_with (fail)
      rw [← hWB]
      clear hWB
      go_at_call 19
      refine HAT.out.mono ?_
      rintro e w16 ⟨rfl, hout⟩
      have HB16 := Lib.hid (HBB.out.trans (txout_below hout HVB.out HBB.out.size))
      clear hout HAT
      go_wp2_with (fail)
      go_at_call 6
      refine (awake_any _).mono ?_
      rintro e w17 ⟨rfl, hb17⟩
      have HB17 := Lib.hid (HB16.out.trans (hb17.mono HB16.out.size))
      clear hb17
      go_wp2_with (fail)
      go_ret
      exact ⟨rfl, HB17.out⟩
end Go.Proofs.YthlmnoggeggpkaaGreat
