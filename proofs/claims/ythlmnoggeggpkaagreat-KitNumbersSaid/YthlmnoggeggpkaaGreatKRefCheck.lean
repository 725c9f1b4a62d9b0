/- storemanref07.Check: its walk. -/
import Derived.Test.YthlmnoggeggpkaaGreatKSpec
import Derived.Test.YthlmnoggeggpkaaGreatKRefDeep
import Derived.Test.YthlmnoggeggpkaaGreatBelowQ
namespace Go.Proofs.YthlmnoggeggpkaaGreat
open Go.RowKit

set_option maxHeartbeats 8000000 in
set_option maxRecDepth 100000 in
theorem rCheck_any (B : Nat) (a : Option Addr) (n cp : Nat) (X : List It) (w : World) (hr : RI B w a n cp X) (hB : B ≤ w.heap.size) :
    Calls Tryz.prog 38 #[.slice a n cp] w fun e w' => e = .returned (.int .i64 (chkE X)) ∧ Below w.heap.size w w' := by
  have hle := hr.le
  have hmx := hr.mx
  have hln := hr.len
  have HR := Lib.hid (hr.mono hB)
  have HLN := Lib.hid hln
  clear hr hln
  go_enter Tryz.func38, Tryz.ntmps38
  by_cases hn60 : 60 < n
  · have t0 : decide ((60 : Int) < (n : Int)) = true := by simp; omega
    have ho := Lib.hid (chk_long (X := X) (by rw [← HLN.out]; exact hn60))
    clear hn60
    go_wp2_with (fail)
    go_ret
    exact ⟨by rw [ho.out]; rfl, Below.refl _ _⟩
  · have t0 : decide ((60 : Int) < (n : Int)) = false := by simp; omega
    have H60 := Lib.hid (show ¬ 60 < X.length by rw [← HLN.out]; exact hn60)
    have hn60' : n ≤ 60 := by omega
    clear hn60
    go_wp2_with (fail)
    go_loopw [3] (fun s3 wr => ∃ i : Nat, s3 = .int .i64 i ∧ i ≤ n ∧ Hid (∀ j, j < i → okIt X j = true) ∧ Hid (Below w.heap.size w wr)) (fun s3 _ => n - (intOf s3).toNat)
    case atStart => exact ⟨0, rfl, by omega, Lib.hid (fun j hj => absurd hj (Nat.not_lt_zero _)), Lib.hid (Below.refl _ _)⟩
    case round =>
      obtain ⟨i, rfl, hi, hok, HB⟩ := hrel
      by_cases hin : i < n
      · have t1 : decide ((i : Int) < (n : Int)) = true := by simp; omega
        have i0 : (0 : Int) ≤ (i : Int) := by omega
        have i1 : (i : Int) < (n : Int) := by omega
        have f1 : IntKind.i64.wrap ((i : Int) + 1) = ((i + 1 : Nat) : Int) := by rw [wrap_in (by omega) (by omega)]; omega
        have hRI := HR.out.below HB.out
        obtain ⟨b, o, rfl, hbB, hok1, c0, c1, c2, c3⟩ := hRI.item hin
        have hix : i < X.length := by rw [← HLN.out]; exact hin
        have hbw : b < wr.heap.size := Nat.lt_of_lt_of_le hbB HB.out.size
        have hdef : (X.getD i default).code = cd X i := rfl
        have hcl := hok1.code
        have HSH := Lib.hid (fun y : BelowW wr => shape_any w.heap.size (X.getD i default) y.v (hok1.below (y.h.mono HB.out.size)) (Nat.le_trans HB.out.size y.h.size))
        unfold It.val at HSH
        obtain ⟨x, hx⟩ : ∃ x, x = X.getD i default := ⟨_, rfl⟩
        rw [← hx] at c0 c1 c2 c3 hok1 HSH hdef hcl
        have HX := Lib.hid hx
        have HDEF := Lib.hid hdef
        unfold encStr at c0 HSH
        have q0 : ∀ y : BelowW wr, y.v.cell? ⟨b, o + i * 4, none⟩ = some (.string ⟨x.code.toArray⟩) := fun y => (y.h.cell hbw).trans c0
        have q1 : ∀ y : BelowW wr, y.v.cell? ⟨b, o + i * 4 + 1, none⟩ = some (.int .i64 x.life) := fun y => (y.h.cell hbw).trans c1
        have q2 : ∀ y : BelowW wr, y.v.cell? ⟨b, o + i * 4 + 2, none⟩ = some (.slice x.pa x.ps.length x.pc) := fun y => (y.h.cell hbw).trans c2
        have q3 : ∀ y : BelowW wr, y.v.cell? ⟨b, o + i * 4 + 3, none⟩ = some (.slice x.oa x.os.length x.oc) := fun y => (y.h.cell hbw).trans c3
        have HCD := Lib.hid (fun y : BelowW wr => rCode_any x.code hcl y.v)
        clear hx hdef c0 c1 c2 c3 hok1 hcl
        have HIX := Lib.hid hix
        clear hix
        cases hc1 : okCode x.code with
        | false =>
          have ho := Lib.hid (chk_bad H60.out HIX.out (okIt_code (by rw [← HDEF.out]; exact hc1)))
          rw [hc1] at HCD
          clear hc1
          go_wp2_with (fail)
          refine wp_region_below wr (by kernel_rfl) (by kernel_rfl) (Below.refl _ _) ?_
          repeat (go_big_quiet_step (first | (go_at_call 66; exact below_call_same (HCD.out _)) | (go_at_call 67; exact below_call (HSH.out _))))
          refine wpQuiet_nil ?_
          intro _ hw'
          obtain ⟨y, hw''⟩ := hw'
          subst hw''
          clear q0 q1 q2 q3 
          go_wp2_with (fail)
          go_ret
          exact ⟨by rw [ho.out]; rfl, HB.out.trans (y.h.mono HB.out.size)⟩
        | true =>
          have HC1 := Lib.hid (show okCode (cd X i) = true by rw [← HDEF.out]; exact hc1)
          rw [hc1] at HCD
          clear hc1
          rcases Nat.eq_zero_or_pos i with hz | hz
          · have e6 : decide ((0 : Int) < (i : Int)) = false := by simp; omega
            have e7 : decide (0 < i) = false := by simp; omega
            have HZ := Lib.hid hz
            clear hz
            cases hc3 : okShape x.life x.ps with
            | false =>
              have ho := Lib.hid (chk_bad H60.out HIX.out (okIt_shape (by rw [← HX.out]; exact hc3)))
              rw [hc3] at HSH
              clear hc3
              go_wp2_with (fail)
              refine wp_region_below wr (by kernel_rfl) (by kernel_rfl) (Below.refl _ _) ?_
              repeat (go_big_quiet_step (first | (go_at_call 66; exact below_call_same (HCD.out _)) | (go_at_call 67; exact below_call (HSH.out _))))
              refine wpQuiet_nil ?_
              intro _ hw'
              obtain ⟨y, hw''⟩ := hw'
              subst hw''
              clear q0 q1 q2 q3 
              go_wp2_with (fail)
              go_ret
              exact ⟨by rw [ho.out]; rfl, HB.out.trans (y.h.mono HB.out.size)⟩
            | true =>
              have ho := Lib.hid (okIt_yes (X := X) (i := i) HC1.out (Or.inl HZ.out) (by rw [← HX.out]; exact hc3))
              rw [hc3] at HSH
              clear hc3
              go_wp2_with (fail)
              refine wp_region_below wr (by kernel_rfl) (by kernel_rfl) (Below.refl _ _) ?_
              repeat (go_big_quiet_step (first | (go_at_call 66; exact below_call_same (HCD.out _)) | (go_at_call 67; exact below_call (HSH.out _))))
              refine wpQuiet_nil ?_
              intro _ hw'
              obtain ⟨y, hw''⟩ := hw'
              subst hw''
              clear q0 q1 q2 q3 
              go_wp2_with (fail)
              go_roundw
              case rel => exact ⟨i + 1, rfl, by omega, Lib.hid (fun m hm => if e : m < i then hok.out m e else by rw [show m = i by omega]; exact ho.out), Lib.hid (HB.out.trans (y.h.mono HB.out.size))⟩
              case measure => simp only [intOf]; omega
          · have e6 : decide ((0 : Int) < (i : Int)) = true := by simp; omega
            have e7 : decide (0 < i) = true := by simp; omega
            obtain ⟨j, hj⟩ : ∃ j, j = i - 1 := ⟨_, rfl⟩
            have f9 : IntKind.i64.wrap ((i : Int) - 1) = (j : Int) := by rw [wrap_in (by omega) (by omega)]; omega
            have j0 : (0 : Int) ≤ (j : Int) := by omega
            have j1 : (j : Int) < (n : Int) := by omega
            obtain ⟨b', o', hbo, -, -, d0, -⟩ := hRI.item (i := j) (by omega)
            cases hbo
            obtain ⟨xp, hxp⟩ : ∃ z, z = (X.getD j default).code := ⟨_, rfl⟩
            rw [← hxp] at d0
            unfold encStr at d0
            have q9 : ∀ y : BelowW wr, y.v.cell? ⟨b, o + j * 4, none⟩ = some (.string ⟨xp.toArray⟩) := fun y => (y.h.cell hbw).trans d0
            have HXP := Lib.hid (show xp = cd X (i - 1) by rw [hxp, hj]; rfl)
            have HZ := Lib.hid hz
            clear hz hj d0 hxp
            cases hlt : Op.bytesLess xp x.code with
            | false =>
              have ho := Lib.hid (chk_bad H60.out HIX.out (okIt_less HZ.out (by rw [← HXP.out, ← HDEF.out]; exact hlt)))
              go_wp2_with (fail)
              refine wp_region_below wr (by kernel_rfl) (by kernel_rfl) (Below.refl _ _) ?_
              repeat (go_big_quiet_step (first | (go_at_call 66; exact below_call_same (HCD.out _)) | (go_at_call 67; exact below_call (HSH.out _))))
              refine wpQuiet_nil ?_
              intro _ hw'
              obtain ⟨y, hw''⟩ := hw'
              subst hw''
              clear q0 q1 q2 q3 q9
              go_wp2_with (fail)
              go_ret
              exact ⟨by rw [ho.out]; rfl, HB.out.trans (y.h.mono HB.out.size)⟩
            | true =>
              have HLT := Lib.hid (show Op.bytesLess (cd X (i - 1)) (cd X i) = true by rw [← HXP.out, ← HDEF.out]; exact hlt)
              cases hc3 : okShape x.life x.ps with
              | false =>
                have ho := Lib.hid (chk_bad H60.out HIX.out (okIt_shape (by rw [← HX.out]; exact hc3)))
                rw [hc3] at HSH
                clear hc3
                go_wp2_with (fail)
                refine wp_region_below wr (by kernel_rfl) (by kernel_rfl) (Below.refl _ _) ?_
                repeat (go_big_quiet_step (first | (go_at_call 66; exact below_call_same (HCD.out _)) | (go_at_call 67; exact below_call (HSH.out _))))
                refine wpQuiet_nil ?_
                intro _ hw'
                obtain ⟨y, hw''⟩ := hw'
                subst hw''
                clear q0 q1 q2 q3 q9
                go_wp2_with (fail)
                go_ret
                exact ⟨by rw [ho.out]; rfl, HB.out.trans (y.h.mono HB.out.size)⟩
              | true =>
                have ho := Lib.hid (okIt_yes (X := X) (i := i) HC1.out (Or.inr HLT.out) (by rw [← HX.out]; exact hc3))
                rw [hc3] at HSH
                clear hc3
                go_wp2_with (fail)
                refine wp_region_below wr (by kernel_rfl) (by kernel_rfl) (Below.refl _ _) ?_
                repeat (go_big_quiet_step (first | (go_at_call 66; exact below_call_same (HCD.out _)) | (go_at_call 67; exact below_call (HSH.out _))))
                refine wpQuiet_nil ?_
                intro _ hw'
                obtain ⟨y, hw''⟩ := hw'
                subst hw''
                clear q0 q1 q2 q3 q9
                go_wp2_with (fail)
                go_roundw
                case rel => exact ⟨i + 1, rfl, by omega, Lib.hid (fun m hm => if e : m < i then hok.out m e else by rw [show m = i by omega]; exact ho.out), Lib.hid (HB.out.trans (y.h.mono HB.out.size))⟩
                case measure => simp only [intOf]; omega
      · have t1 : decide ((i : Int) < (n : Int)) = false := by simp; omega
        have hall : ∀ j, j < X.length → okIt X j = true := fun j hj => hok.out j (by have := HLN.out; omega)
        have HA := Lib.hid (allOk_of hall)
        have HND := Lib.hid (codes_nodup hall)
        clear hall
        go_wp2_with (fail)
        go_loopw [4] (fun s4 wq => ∃ i : Nat, s4 = .int .i64 i ∧ i ≤ n ∧ wq = wr ∧ Hid (∀ j, j < i → ∀ k, k < (X.getD j default).ps.length → ((X.getD j default).ps.getD k default).1 ∈ codes X)) (fun s4 _ => n - (intOf s4).toNat)
        case atStart => exact ⟨0, rfl, by omega, rfl, Lib.hid (fun j hj => absurd hj (Nat.not_lt_zero _))⟩
        case round =>
          obtain ⟨i2, rfl, hi2, rfl, hfd⟩ := hrel
          by_cases hin2 : i2 < n
          · have t2 : decide ((i2 : Int) < (n : Int)) = true := by simp; omega
            have i0 : (0 : Int) ≤ (i2 : Int) := by omega
            have i1 : (i2 : Int) < (n : Int) := by omega
            have f1 : IntKind.i64.wrap ((i2 : Int) + 1) = ((i2 + 1 : Nat) : Int) := by rw [wrap_in (by omega) (by omega)]; omega
            have hRI := HR.out.below HB.out
            obtain ⟨b, o, rfl, hbB, hok1, -, -, c2, -⟩ := hRI.item hin2
            have HRI := Lib.hid hRI
            have HIX := Lib.hid (show i2 < X.length by rw [← HLN.out]; exact hin2)
            obtain ⟨x, hx⟩ : ∃ x, x = X.getD i2 default := ⟨_, rfl⟩
            rw [← hx] at c2 hok1
            have HX := Lib.hid hx
            have HOK := Lib.hid hok1
            have hmp := hok1.rp.mx
            have hlp := hok1.rp.le
            obtain ⟨np, hnp⟩ : ∃ k, k = x.ps.length := ⟨_, rfl⟩
            obtain ⟨pa, hpa⟩ : ∃ k, k = x.pa := ⟨_, rfl⟩
            rw [← hnp] at hlp
            rw [← hnp, ← hpa] at c2
            have HNP := Lib.hid hnp
            have HPA := Lib.hid hpa
            clear hRI hx hok1 hnp hpa
            go_wp2_with (fail)
            go_loopw [5] (fun s5 wp => ∃ k : Nat, s5 = .int .i64 k ∧ k ≤ np ∧ wp = wr ∧ Hid (∀ j, j < k → (x.ps.getD j default).1 ∈ codes X)) (fun s5 _ => np - (intOf s5).toNat)
            case atStart => exact ⟨0, rfl, by omega, rfl, Lib.hid (fun j hj => absurd hj (Nat.not_lt_zero _))⟩
            case round =>
              obtain ⟨k, rfl, hk, rfl, hfk⟩ := hrel
              by_cases hkn : k < np
              · have t3 : decide ((k : Int) < (np : Int)) = true := by simp; omega
                have k0 : (0 : Int) ≤ (k : Int) := by omega
                have k1 : (k : Int) < (np : Int) := by omega
                have f3 : IntKind.i64.wrap ((k : Int) + 1) = ((k + 1 : Nat) : Int) := by rw [wrap_in (by omega) (by omega)]; omega
                have hkx : k < x.ps.length := by rw [← HNP.out]; exact hkn
                obtain ⟨b2, po2, hpa', -, p0, -⟩ := HOK.out.rp.part hkx
                rw [← HPA.out] at hpa'
                subst hpa'
                obtain ⟨nm, hnm⟩ : ∃ z, z = (x.ps.getD k default).1 := ⟨_, rfl⟩
                have hnl := (HOK.out.rp.fine.at_ hkx).1
                rw [← hnm] at p0 hnl
                unfold encStr at p0
                have hfind := Lib.hid (Find_any w.heap.size (some ⟨b, o, none⟩) n cp X nm wr HRI.out HB.out.size hnl)
                have HNM := Lib.hid hnm
                have HKX := Lib.hid hkx
                clear hkx hnl hnm
                go_wp2_with (fail)
                go_at_call 40
                refine hfind.out.mono ?_
                rintro e w3 ⟨rfl, rfl⟩
                by_cases hin3 : nm ∈ codes X
                · obtain ⟨j, hj, hfj, hcj⟩ := there hin3
                  rw [hfj]
                  have hneg : decide ((j : Int) < 0) = false := decide_eq_false (by omega)
                  have hin4 := Lib.hid hin3
                  clear hin3 hfj hcj hfind
                  go_wp2_with (fail)
                  go_roundw
                  case rel => exact ⟨k + 1, rfl, by omega, trivial, Lib.hid (fun m hm => if e : m < k then hfk.out m e else by rw [show m = k by omega, ← HNM.out]; exact hin4.out)⟩
                  case measure => simp only [intOf]; omega
                · have hfm : fI X nm = -1 := fI_none fun j hj e => hin3 (by rw [← e]; exact cd_mem hj)
                  rw [hfm]
                  have ho := Lib.hid (chk_part H60.out HA.out HIX.out (by rw [← HX.out]; exact HKX.out) (by rw [← HX.out, ← HNM.out]; exact hin3))
                  clear hin3 hfm hfind
                  go_wp2_with (fail)
                  go_ret
                  exact ⟨by rw [ho.out]; rfl, HB.out⟩
              · have t3 : decide ((k : Int) < (np : Int)) = false := by simp; omega
                go_wp2_with (fail)
                go_roundw
                case rel => exact ⟨i2 + 1, rfl, by omega, trivial, Lib.hid (fun m hm => if e : m < i2 then hfd.out m e else by
                  rw [show m = i2 by omega, ← HX.out]
                  exact fun j hj => hfk.out j (by have := HNP.out; omega))⟩
                case measure => simp only [intOf]; omega
          · have t2 : decide ((i2 : Int) < (n : Int)) = false := by simp; omega
            have hfa : ∀ j, j < X.length → ∀ k, k < (X.getD j default).ps.length → ((X.getD j default).ps.getD k default).1 ∈ codes X := fun j hj => hfd.out j (by have := HLN.out; omega)
            have HF := Lib.hid (found_of hfa)
            have HK := Lib.hid (found_kids HND.out hfa)
            clear hfa
            have HDP := Lib.hid (rDeep_any w.heap.size a n cp X wr (HR.out.below HB.out) HB.out.size HND.out HK.out (by have := HLN.out; omega))
            go_wp2_with (fail)
            go_at_call 42
            refine HDP.out.mono ?_
            rintro e w4 ⟨g, o, rfl, hoi, hgb, hb4, hht⟩
            have HOI := Lib.hid hoi
            have HT := Lib.hid (show ∀ j, j < n → o (cd X j) = tellX X (cd X j) from fun j hj => hht _ (cd_mem (by have := HLN.out; omega)))
            have HB4 := Lib.hid (HB.out.trans (hb4.mono HB.out.size))
            clear hoi hgb hb4 hht HDP
            go_wp2_with (fail)
            go_loopw [7] (fun s7 wp => ∃ i : Nat, s7 = .int .i64 i ∧ i ≤ n ∧ wp = w4 ∧ Hid (∀ j, j < i → o (cd X j) ≠ 0)) (fun s7 _ => n - (intOf s7).toNat)
            case atStart => exact ⟨0, rfl, by omega, rfl, Lib.hid (fun j hj => absurd hj (Nat.not_lt_zero _))⟩
            case round =>
              obtain ⟨i3, rfl, hi3, rfl, hnz⟩ := hrel
              by_cases hin3 : i3 < n
              · have t3 : decide ((i3 : Int) < (n : Int)) = true := by simp; omega
                have k0 : (0 : Int) ≤ (i3 : Int) := by omega
                have k1 : (i3 : Int) < (n : Int) := by omega
                have f3 : IntKind.i64.wrap ((i3 : Int) + 1) = ((i3 + 1 : Nat) : Int) := by rw [wrap_in (by omega) (by omega)]; omega
                have ci := HOI.out.cell hin3
                obtain ⟨d, hd⟩ : ∃ d, d = o (cd X i3) := ⟨_, rfl⟩
                rw [← hd] at ci
                have HDD := Lib.hid hd
                clear hd
                by_cases hd0 : d = 0
                · have e1 : ((d : Int) == 0) = true := by simp; omega
                  have ho := Lib.hid (chk_round H60.out HA.out HF.out (i := i3) (by have := HLN.out; omega) (by rw [← HT.out i3 hin3, ← HDD.out]; exact hd0))
                  clear hd0
                  go_wp2_with (fail)
                  go_ret
                  exact ⟨by rw [ho.out]; rfl, HB4.out⟩
                · have e1 : ((d : Int) == 0) = false := by simp; omega
                  have hno := Lib.hid (show o (cd X i3) ≠ 0 by rw [← HDD.out]; exact hd0)
                  clear hd0
                  go_wp2_with (fail)
                  go_roundw
                  case rel => exact ⟨i3 + 1, rfl, by omega, trivial, Lib.hid (fun m hm => if e : m < i3 then hnz.out m e else by rw [show m = i3 by omega]; exact hno.out)⟩
                  case measure => simp only [intOf]; omega
              · have t3 : decide ((i3 : Int) < (n : Int)) = false := by simp; omega
                have hrz : ∀ j, j < X.length → tellX X (cd X j) ≠ 0 := fun j hj => by
                  have hjn : j < n := by have := HLN.out; omega
                  rw [← HT.out j hjn]
                  exact hnz.out j (by omega)
                have HRZ := Lib.hid hrz
                clear hrz
                go_wp2_with (fail)
                go_loopw [8] (fun s8 wz => ∃ i : Nat, s8 = .int .i64 i ∧ i ≤ n ∧ wz = wr ∧ Hid (∀ j, j < i → o (cd X j) ≤ 8)) (fun s8 _ => n - (intOf s8).toNat)
                case atStart => exact ⟨0, rfl, by omega, rfl, Lib.hid (fun j hj => absurd hj (Nat.not_lt_zero _))⟩
                case round =>
                  obtain ⟨i4, rfl, hi4, rfl, hde⟩ := hrel
                  by_cases hin4 : i4 < n
                  · have t4 : decide ((i4 : Int) < (n : Int)) = true := by simp; omega
                    have k0 : (0 : Int) ≤ (i4 : Int) := by omega
                    have k1 : (i4 : Int) < (n : Int) := by omega
                    have f3 : IntKind.i64.wrap ((i4 : Int) + 1) = ((i4 + 1 : Nat) : Int) := by rw [wrap_in (by omega) (by omega)]; omega
                    have ci := HOI.out.cell hin4
                    obtain ⟨d, hd⟩ : ∃ d, d = o (cd X i4) := ⟨_, rfl⟩
                    rw [← hd] at ci
                    have HDD := Lib.hid hd
                    clear hd
                    by_cases hd0 : 8 < d
                    · have e1 : decide ((8 : Int) < (d : Int)) = true := by simp; omega
                      have ho := Lib.hid (chk_deep H60.out HA.out HF.out HRZ.out (i := i4) (by have := HLN.out; omega) (by rw [← HT.out i4 hin4, ← HDD.out]; exact hd0))
                      clear hd0
                      go_wp2_with (fail)
                      go_ret
                      exact ⟨by rw [ho.out]; rfl, HB4.out⟩
                    · have e1 : decide ((8 : Int) < (d : Int)) = false := by simp; omega
                      have hno := Lib.hid (show o (cd X i4) ≤ 8 by rw [← HDD.out]; omega)
                      clear hd0
                      go_wp2_with (fail)
                      go_roundw
                      case rel => exact ⟨i4 + 1, rfl, by omega, trivial, Lib.hid (fun m hm => if e : m < i4 then hde.out m e else by rw [show m = i4 by omega]; exact hno.out)⟩
                      case measure => simp only [intOf]; omega
                  · have t4 : decide ((i4 : Int) < (n : Int)) = false := by simp; omega
                    have ho := Lib.hid (chk_fine H60.out HA.out HF.out HRZ.out (fun j hj => by
                      have hjn : j < n := by have := HLN.out; omega
                      rw [← HT.out j hjn]
                      exact hde.out j (by omega)))
                    go_wp2_with (fail)
                    go_ret
                    exact ⟨by rw [ho.out]; rfl, HB4.out⟩
end Go.Proofs.YthlmnoggeggpkaaGreat
