/- KitEnd. -/
import Derived.Test.YthlmnoggeggpkaaKEndL
import Derived.Test.YthlmnoggeggpkaaKGreat
import Derived.Test.YthlmnoggeggpkaaJPick
namespace Go.Proofs.Ythlmnoggeggpkaa
open Go.RowKit

theorem and255 (x : Int) : 0 ≤ bits .and .i64 x 255 ∧ bits .and .i64 x 255 ≤ 255 := by
  show 0 ≤ IntKind.i64.wrap ((BitVec.ofInt 64 x &&& BitVec.ofInt 64 255).toNat : Int) ∧ IntKind.i64.wrap ((BitVec.ofInt 64 x &&& BitVec.ofInt 64 255).toNat : Int) ≤ 255
  rw [BitVec.toNat_and]
  have h : (BitVec.ofInt 64 x).toNat &&& (BitVec.ofInt 64 255).toNat ≤ 255 := by
    have e : (BitVec.ofInt 64 255).toNat = 255 := by decide
    rw [e]; exact Nat.and_le_right
  rw [wrap_in (by omega) (by omega)]
  omega
theorem many_times {X : List It} {x : It} {S1 T : List Pt} {q : Int} (h : T = S1.map (scaleP q)) (hT : Up T) (hF : EF X x S1) (hq : 1 ≤ q) : ∀ p ∈ S1, timesA p.2 q = some (q * p.2) := fun p hp => by
  have h1 := okA_iff.1 (hT.2 (scaleP q p) (by rw [h]; exact List.mem_map.2 ⟨p, hp, rfl⟩))
  have h2 := (end_mem hF.snd hF.mem (Int.le_refl 1) (by unfold mostA; omega) hF.hS p hp).1
  have h3 : q * p.2 ≤ 1125899906842624 := h1.2
  have h4 := okA_iff.1 ((end_up hF.snd hF.mem (Int.le_refl 1) (by unfold mostA; omega) hF.hS).1.2 p hp)
  have h5 : q ≤ q * p.2 := by
    have := Int.mul_le_mul_of_nonneg_left h2 (show 0 ≤ q by omega)
    omega
  unfold timesA mostA
  rw [Int.mul_comm p.2 q, okA_iff.2 h4, okA_iff.2 (show 0 ≤ q ∧ q ≤ 1125899906842624 by omega), decide_eq_true h3]
  rfl
theorem Parts_none (B : Nat) (a : Option Addr) (n cp : Nat) (X : List It) (c : List UInt8) (q : Int) (w : World) (hr : RI B w a n cp X) (hB : B ≤ w.heap.size) (hcl : c.length ≤ 9223372036854775807) (h0 : chkE X = 0) (hc : c ∈ codes X) (h1 : 1 ≤ q) (h2 : q ≤ mostA) (hS : endL X c q = none) :
    Calls Try.prog 13 #[.slice a n cp, .string ⟨c.toArray⟩, .int .i64 q] w fun e w' => Below w.heap.size w w' ∧ e = .returned (.tuple #[.slice none 0 0, .int .i64 3]) := by
  have h3 : q ≤ 1125899906842624 := h2
  refine (Parts_any B a n cp X c q w hr hB hcl (by omega) (by omega)).mono ?_
  rintro e w' ⟨hb, v, rfl, hv, -⟩
  have he : partsE X c q = 3 := by
    unfold partsE
    have h3 : okA q = true := okA_iff.2 (by omega)
    rw [if_neg (by simp [h0]), if_neg (by simp [h1, h3]), if_neg (by simp [hc]), hS]
  rw [hv (by rw [he]; decide), he]
  exact ⟨hb, rfl⟩

set_option maxHeartbeats 8000000 in
set_option maxRecDepth 100000 in
theorem KitEnd_any (B : Nat) (a : Option Addr) (n c : Nat) (X : List It) (pick qty : Int) (w : World) (hr : RI B w a n c X) (hB : B ≤ w.heap.size) (hlow : LowI X) (hp : -9223372036854775808 ≤ pick ∧ pick ≤ 9223372036854775807) (hq : -9223372036854775808 ≤ qty ∧ qty ≤ 9223372036854775807) :
    Calls Try.prog 4 #[.slice a n c, .int .i64 pick, .int .i64 qty] w fun e w' => e = .returned (.bool true) ∧ Below w.heap.size w w' := by
  have HR := Lib.hid hr
  have HLOW := Lib.hid hlow
  clear hr hlow
  go_enter Try.func4, Try.ntmps4
  go_wp2_with (fail)
  go_at_call 7
  refine (awake_any _).mono ?_
  rintro e w1 ⟨rfl, hb1⟩
  have HB1 := Lib.hid hb1
  have hr1 := HR.out.below (hb1.mono hB)
  have HG := Lib.hid (great_any B a n c X w1 hr1 HLOW.out)
  clear hb1 hr1
  go_wp2_with (fail)
  go_at_call 6
  refine HG.out.mono ?_
  rintro e w2 ⟨⟨gr, rfl, hgr⟩, q, rfl⟩
  have hb2 : Below w.heap.size w (w1.drewN q) := below_dn HB1.out q
  have HB2 := Lib.hid hb2
  have hr2 := HR.out.below (hb2.mono hB)
  generalize w1.drewN q = w2 at HB2 hr2 ⊢
  clear hb2 HG
  cases gr with
  | true =>
    clear hr2 hgr
    go_wp2_with (fail)
    go_ret
    exact ⟨rfl, HB2.out⟩
  | false =>
    obtain ⟨hn, hcnt⟩ := hgr rfl
    have HC2 := Lib.hid (Check_any B a n c X w2 hr2 (Nat.le_trans hB HB2.out.size))
    have HR2 := Lib.hid hr2
    clear hgr hcnt hr2
    go_wp2_with (fail)
    go_at_call 9
    refine HC2.out.mono ?_
    rintro e w3 ⟨rfl, hb3⟩
    have HB3 := Lib.hid (HB2.out.trans (hb3.mono HB2.out.size))
    have HR3 := Lib.hid (HR2.out.below (hb3.mono (Nat.le_trans hB HB2.out.size)))
    clear hb3 HC2
    by_cases h0 : chkE X = 0
    · have HS := Lib.hid (sound_of h0)
      have H0 := Lib.hid h0
      rw [h0]
      clear h0
      by_cases hn0 : n = 0
      · have e0 : ((n : Int) == 0) = true := by simp; omega
        clear hn0
        go_wp2_with (fail)
        go_ret
        exact ⟨rfl, HB3.out⟩
      · have e0 : ((n : Int) == 0) = false := by simp; omega
        have HPK := Lib.hid (Pick_any pick n w3 hp ⟨by omega, by omega⟩)
        have hle := HR3.out.le
        have hmx := HR3.out.mx
        clear hn0
        go_wp2_with (fail)
        go_at_call 12
        refine HPK.out.mono ?_
        rintro e w4 ⟨⟨k, hk, rfl⟩, rfl⟩
        have k0 : (0 : Int) ≤ (k : Int) := by omega
        have k1 : (k : Int) < (n : Int) := hk
        obtain ⟨b, o, ha, hbB, hok, c0, c1, c2, c3⟩ := HR3.out.item (i := k) (by omega)
        subst ha
        unfold encStr at c0
        obtain ⟨x, hx⟩ : ∃ x, x = X.getD k default := ⟨_, rfl⟩
        rw [← hx] at hok c0 c1 c2 c3
        have HX := Lib.hid hx
        have HOK := Lib.hid hok
        have hxc : itF X x.code = some x := by
          have := itF_cd HS.out.nd (i := k) (by have := HR3.out.len; omega)
          unfold cd at this
          rw [← hx] at this
          exact this
        have hcm : x.code ∈ codes X := List.mem_map.2 ⟨x, List.mem_of_find?_eq_some hxc, rfl⟩
        have HXC := Lib.hid hxc
        have HCM := Lib.hid hcm
        obtain ⟨q, hqq⟩ : ∃ q, q = 1 + bits .and .i64 qty 255 := ⟨_, rfl⟩
        have h255 := and255 qty
        have hq1 : 1 ≤ q := by omega
        have hq2 : q ≤ 256 := by omega
        have hqm : q ≤ mostA := by unfold mostA; omega
        have h1m : (1 : Int) ≤ mostA := by unfold mostA; omega
        have hw : wrap64 (1 + bits .and .i64 qty 255) = q := by rw [← hqq]; exact wrap64_in (by omega) (by omega)
        clear hx hok hk hxc hcm hqq h255
        go_upto_region 7 with (fail)
        rw [hw]
        obtain ⟨W5, hW5⟩ : ∃ W', W' = w3.alloc (.cells #[encStr x.code, .int .i64 x.life, .slice x.pa x.ps.length x.pc, .slice x.oa x.os.length x.oc] 32) := ⟨_, rfl⟩
        have hx5 : XC W5 w3.heap.size x := ⟨by rw [hW5]; exact heap_alloc_new _ _⟩
        have hb5 : Below w3.heap.size w3 W5 := by rw [hW5]; exact (Below.refl _ w3).alloc (Nat.le_refl _) _
        unfold encStr at hW5
        rw [← hW5]
        obtain ⟨gx, hgx⟩ : ∃ g, g = w3.heap.size := ⟨_, rfl⟩
        rw [← hgx] at hx5 ⊢
        have HX5 := Lib.hid hx5
        have HB5 := Lib.hid (HB3.out.trans (hb5.mono HB3.out.size))
        have HR5 := Lib.hid (HR3.out.below (hb5.mono (Nat.le_trans hB HB3.out.size)))
        have HO5 := Lib.hid (HOK.out.rp.below (hb5.mono (Nat.le_trans hB HB3.out.size)))
        have hcl := HOK.out.code
        have HCL := Lib.hid hcl
        obtain ⟨xc5, -, -⟩ := hx5.cells
        unfold encStr at xc5
        clear hW5 hb5 hgx hx5 hcl c0 c1 c2 c3 hw hbB
        have hBs := Nat.le_trans hB HB5.out.size
        cases hE : endL X x.code 1 with
        | none =>
          have HP1 := Lib.hid (Parts_none B _ n c X x.code 1 W5 HR5.out hBs HCL.out H0.out HCM.out (Int.le_refl 1) h1m hE)
          have HE2 := Lib.hid (end_less HS.out HCM.out hq1 hqm hE)
          clear hE
          go_wp2_with (fail)
          go_at_call 13
          refine HP1.out.mono ?_
          rintro e w6 ⟨hb6, rfl⟩
          have HB6 := Lib.hid (HB5.out.trans (hb6.mono HB5.out.size))
          have HX6 := Lib.hid (HX5.out.below hb6 HX5.out.lt)
          obtain ⟨xc6, -, -⟩ := HX6.out.cells
          unfold encStr at xc6
          have HP2 := Lib.hid (Parts_none B _ n c X x.code q w6 (HR.out.below (HB6.out.mono hB)) (Nat.le_trans hB HB6.out.size) HCL.out H0.out HCM.out hq1 hqm HE2.out)
          clear hb6 HP1 xc5
          go_wp2_with (fail)
          go_at_call 13
          refine HP2.out.mono ?_
          rintro e w7 ⟨hb7, rfl⟩
          have HB7 := Lib.hid (HB6.out.trans (hb7.mono HB6.out.size))
          have HX7 := Lib.hid (HX6.out.below hb7 HX6.out.lt)
          obtain ⟨xc7, -, -⟩ := HX7.out.cells
          unfold encStr at xc7
          have HW := Lib.hid (Within_any B _ n c X x.code w7 (HR.out.below (HB7.out.mono hB)) (Nat.le_trans hB HB7.out.size) HCL.out)
          clear hb7 HP2 xc6
          go_wp2_with (fail)
          go_at_call 14
          refine HW.out.mono ?_
          rintro e w8 ⟨hb8, v, rfl, -, -⟩
          have HB8 := Lib.hid (HB7.out.trans (hb8.mono HB7.out.size))
          clear hb8 HW xc7
          go_wp2_with (fail)
          go_ret
          exact ⟨rfl, HB8.out⟩
        | some S1 =>
          have hF : EF X x S1 := ⟨H0.out, HXC.out, HCL.out, hE⟩
          have HF := Lib.hid hF
          have HP1 := Lib.hid (Parts_part B _ n c X x.code 1 S1 W5 HR5.out hBs HCL.out H0.out HCM.out (Int.le_refl 1) h1m hE)
          clear hE hF
          go_wp2_with (fail)
          go_at_call 13
          refine HP1.out.mono ?_
          rintro e w6 ⟨hb6, a1, c1, rfl, hop, hP1⟩
          have HB6 := Lib.hid (HB5.out.trans (hb6.mono HB5.out.size))
          have HX6 := Lib.hid (HX5.out.below hb6 HX5.out.lt)
          have H1 := Lib.hid (hop.rp2 (fine_ps (fun y hy => (HR.out.ok y hy).code) hP1))
          obtain ⟨xc6, -, -⟩ := HX6.out.cells
          unfold encStr at xc6
          clear hb6 HP1 xc5 hop hP1
          cases hE : endL X x.code q with
          | none =>
            have HP2 := Lib.hid (Parts_none B _ n c X x.code q w6 (HR.out.below (HB6.out.mono hB)) (Nat.le_trans hB HB6.out.size) HCL.out H0.out HCM.out hq1 hqm hE)
            clear hE
            go_wp2_with (fail)
            go_at_call 13
            refine HP2.out.mono ?_
            rintro e w7 ⟨hb7, rfl⟩
            have HM := Lib.hid (show ∀ W, MF2 X x S1 W q (.slice none 0 0) 3 from fun W => ⟨fun h => absurd h (by decide), fun _ => rfl⟩)
            have HB7 := Lib.hid (HB6.out.trans (hb7.mono HB6.out.size))
            have HX7 := Lib.hid (HX6.out.below hb7 HX6.out.lt)
            have H17 := Lib.hid ((H1.out.below hb7).mono hb7.size)
            obtain ⟨xc7, -, -⟩ := HX7.out.cells
            unfold encStr at xc7
            have HW := Lib.hid (Within_any B _ n c X x.code w7 (HR.out.below (HB7.out.mono hB)) (Nat.le_trans hB HB7.out.size) HCL.out)
            clear hb7 HP2 xc6
            go_wp2_with (fail)
            go_at_call 14
            refine HW.out.mono ?_
            rintro e w8 ⟨hb8, v, rfl, -, hv⟩
            obtain ⟨wa, wc, rfl, hrt⟩ := OT.all (hv H0.out HCM.out) (fun t ht => code_le (fun y hy => (HR.out.ok y hy).code) (mem_within.1 ht).1)
            have HRT := Lib.hid hrt
            have HB8 := Lib.hid (HB7.out.trans (hb8.mono HB7.out.size))
            have HX8 := Lib.hid (HX7.out.below hb8 HX7.out.lt)
            have H18 := Lib.hid ((H17.out.below hb8).mono hb8.size)
            have HM8 := Lib.hid (HM.out w8)
            clear hb8 HW xc7 hv hrt
            go_upto_region 10 with (fail)
            iterate 14 go_step
            exact end_loop B _ n c X x S1 q gx c1 wc a1 wa (.slice none 0 0) 3 w w8 (HR.out.below (HB8.out.mono hB)) (Nat.le_trans hB HB8.out.size) HB8.out HF.out HX8.out ((HR.out.below (HB8.out.mono hB)).ok x (List.mem_of_find?_eq_some HXC.out)).rp H18.out HRT.out HM8.out _ _ _ _ _ _ _ _ _ _ _ _ _ _ _ _ _ _ _ _ _ _ _ _ _ _ _ _ _ _ _ _ _ _ _ _ _ _ _ _ _ _ _ _ _ _ _ _ _ _ _ _ _ _ _ _ _ _ _ _ _ _ _ _ _ _ _ _ _ _ _ _ _ _ _ _ _ _ _ _ _ _ _ _ _ _ _ _ _ _ _ _ _ _ _ _ _ _ _ _ _ _ _ _ _ _ _ _ _ _ _ _ _ _ _ _ _ _ _ _ _ _ _ _ _ _ _ _ _ _ _ _ _ _ _ _ _ _ _ _ _ _ _ _ _ _ _ _ _ _ _ _ _ _ _ _ _ _ _ _ _ _ _ _ _ _ _ _ _ _ _ _ _ _ _ _ _ _ _ _ _ _ _ _ _ _ _ _ _ _ _ _ _ _ _ _ _ _ _ _ _ _ _ _ _ _ _ _ _ _ _ _ _ _ _ _ _ _ _ _ _ _ _ _ _ _ _ _ _ _ _ _ _ _ _ _ _ _ _ _ _ _ _ _ _ _ _ _ _ _ _ _ _ _ _ _ _ _ _ _ _ _ _ _
          | some T =>
            have HT := Lib.hid (end_times HS.out HCM.out hq1 hqm HF.out.hS hE)
            have HTU := Lib.hid (end_up HS.out HCM.out hq1 hqm hE).1
            have HP2 := Lib.hid (Parts_part B _ n c X x.code q T w6 (HR.out.below (HB6.out.mono hB)) (Nat.le_trans hB HB6.out.size) HCL.out H0.out HCM.out hq1 hqm hE)
            clear hE
            go_wp2_with (fail)
            go_at_call 13
            refine HP2.out.mono ?_
            rintro e w7 ⟨hb7, a2, c2, rfl, hop, hP2⟩
            have hrp2 := hop.rp2 (fine_ps (fun y hy => (HR.out.ok y hy).code) hP2)
            obtain ⟨n2, hn2⟩ : ∃ z, z = T.length := ⟨_, rfl⟩
            rw [← hn2] at hrp2 ⊢
            have HM := Lib.hid (show ∀ W, Below w7.heap.size w7 W → MF2 X x S1 W q (.slice a2 n2 c2) 0 from fun W hW => ⟨fun _ => ⟨a2, n2, c2, rfl, by rw [hn2, HT.out, List.length_map], by rw [← HT.out]; exact (hrp2.below hW).mono hW.size, many_times HT.out HTU.out HF.out hq1⟩, fun h => absurd rfl h⟩)
            clear hop hP2 hrp2 hn2
            have HB7 := Lib.hid (HB6.out.trans (hb7.mono HB6.out.size))
            have HX7 := Lib.hid (HX6.out.below hb7 HX6.out.lt)
            have H17 := Lib.hid ((H1.out.below hb7).mono hb7.size)
            obtain ⟨xc7, -, -⟩ := HX7.out.cells
            unfold encStr at xc7
            have HW := Lib.hid (Within_any B _ n c X x.code w7 (HR.out.below (HB7.out.mono hB)) (Nat.le_trans hB HB7.out.size) HCL.out)
            clear hb7 HP2 xc6
            go_wp2_with (fail)
            go_at_call 14
            refine HW.out.mono ?_
            rintro e w8 ⟨hb8, v, rfl, -, hv⟩
            obtain ⟨wa, wc, rfl, hrt⟩ := OT.all (hv H0.out HCM.out) (fun t ht => code_le (fun y hy => (HR.out.ok y hy).code) (mem_within.1 ht).1)
            have HRT := Lib.hid hrt
            have HB8 := Lib.hid (HB7.out.trans (hb8.mono HB7.out.size))
            have HX8 := Lib.hid (HX7.out.below hb8 HX7.out.lt)
            have H18 := Lib.hid ((H17.out.below hb8).mono hb8.size)
            have HM8 := Lib.hid (HM.out w8 hb8)
            clear hb8 HW xc7 hv hrt
            go_upto_region 10 with (fail)
            iterate 14 go_step
            exact end_loop B _ n c X x S1 q gx c1 wc a1 wa (.slice a2 n2 c2) 0 w w8 (HR.out.below (HB8.out.mono hB)) (Nat.le_trans hB HB8.out.size) HB8.out HF.out HX8.out ((HR.out.below (HB8.out.mono hB)).ok x (List.mem_of_find?_eq_some HXC.out)).rp H18.out HRT.out HM8.out _ _ _ _ _ _ _ _ _ _ _ _ _ _ _ _ _ _ _ _ _ _ _ _ _ _ _ _ _ _ _ _ _ _ _ _ _ _ _ _ _ _ _ _ _ _ _ _ _ _ _ _ _ _ _ _ _ _ _ _ _ _ _ _ _ _ _ _ _ _ _ _ _ _ _ _ _ _ _ _ _ _ _ _ _ _ _ _ _ _ _ _ _ _ _ _ _ _ _ _ _ _ _ _ _ _ _ _ _ _ _ _ _ _ _ _ _ _ _ _ _ _ _ _ _ _ _ _ _ _ _ _ _ _ _ _ _ _ _ _ _ _ _ _ _ _ _ _ _ _ _ _ _ _ _ _ _ _ _ _ _ _ _ _ _ _ _ _ _ _ _ _ _ _ _ _ _ _ _ _ _ _ _ _ _ _ _ _ _ _ _ _ _ _ _ _ _ _ _ _ _ _ _ _ _ _ _ _ _ _ _ _ _ _ _ _ _ _ _ _ _ _ _ _ _ _ _ _ _ _ _ _ _ _ _ _ _ _ _ _ _ _ _ _ _ _ _ _ _ _ _ _ _ _ _ _ _ _ _ _ _ _ _ _
    · obtain ⟨r, hr⟩ : ∃ r, r = chkE X := ⟨_, rfl⟩
      rw [← hr] at h0 ⊢
      have e1 : (r != 0) = true := by simpa using h0
      clear h0 hr
      go_wp2_with (fail)
      go_ret
      exact ⟨rfl, HB3.out⟩
end Go.Proofs.Ythlmnoggeggpkaa
