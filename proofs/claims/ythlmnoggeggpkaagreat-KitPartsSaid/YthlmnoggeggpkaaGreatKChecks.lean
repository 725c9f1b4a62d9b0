/- KitChecks. -/
import Derived.Test.YthlmnoggeggpkaaGreatKAwake
import Derived.Test.YthlmnoggeggpkaaGreatKGreat
import Derived.Test.YthlmnoggeggpkaaGreatKRefCheck
namespace Go.Proofs.YthlmnoggeggpkaaGreat
open Go.RowKit

/-- Lent items are items in memory. -/
theorem lent_ri {base N g n : Nat} {X Y : List It} {w w0 : World} (ho : OIt base w (.slice (some ⟨g, 0, none⟩) (n + 12) (n + 12)) (Y ++ lentI)) (hY : Y.length = n) (hX : X.length = n) (hL : ∀ i, i < n → LI base w (X.getD i default) (Y.getD i default)) (hx : ∀ x ∈ X, ItOk N w0 x) : RI w.heap.size w (some ⟨g, 0, none⟩) n (n + 12) Y := by
  obtain ⟨h1, h2, h3, h4, hc⟩ := ho.cells
  refine ⟨hY.symm, by omega, h3, fun y hy => ?_, fun _ => ⟨g, 0, rfl, h4, fun i hi => ?_⟩⟩
  · obtain ⟨i, hi, rfl⟩ := List.mem_iff_getElem.1 hy
    have := hL i (by omega)
    rw [List.getD_eq_getElem?_getD (l := Y), List.getElem?_eq_getElem hi] at this
    refine LI.ok this (hx _ ?_)
    rw [List.getD_eq_getElem?_getD, List.getElem?_eq_getElem (by omega)]
    exact List.getElem_mem _
  · have := hc i (by omega)
    rw [allI_at Y n i hY.symm hi] at this
    simpa using this
set_option maxHeartbeats 4000000 in
set_option maxRecDepth 100000 in
theorem KitChecks_any (B : Nat) (a : Option Addr) (n c : Nat) (X : List It) (w : World) (hr : RI B w a n c X) (hB : B ≤ w.heap.size) (hlow : LowI X) :
    Calls Tryz.prog 20 #[.slice a n c] w fun e w' => e = .returned (.bool true) ∧ Below w.heap.size w w' := by
  have HR := Lib.hid hr
  have HG := Lib.hid (great_any B a n c X w hr hlow)
  clear hr hlow
  go_enter Tryz.func20, Tryz.ntmps20
  go_wp2_with (fail)
  go_at_call 5
  refine HG.out.mono ?_
  rintro e w1 ⟨⟨gr, rfl, hgr⟩, q, rfl⟩
  have hb1 : Below w.heap.size w (w.drewN q) := below_dn (Below.refl _ _) q
  have HB1 := Lib.hid hb1
  have hr1 := HR.out.below (hb1.mono hB)
  generalize w.drewN q = w1 at HB1 hr1 ⊢
  clear hb1
  cases gr with
  | true =>
    clear hr1 hgr
    go_wp2_with (fail)
    go_at_call 6
    refine (awake_any _).mono ?_
    rintro e w2 ⟨rfl, hb2⟩
    have HB2 := Lib.hid (HB1.out.trans (hb2.mono HB1.out.size))
    clear hb2
    go_wp2_with (fail)
    go_ret
    exact ⟨rfl, HB2.out⟩
  | false =>
    obtain ⟨hn, hcnt⟩ := hgr rfl
    have hsz : ∀ x ∈ X, x.ps.length ≤ 100000 ∧ x.os.length ≤ 100000 := fun x hx => by
      obtain ⟨i, hi, rfl⟩ := List.mem_iff_getElem.1 hx
      have := hcnt i (by have := HR.out.len; omega)
      rw [List.getD_eq_getElem?_getD, List.getElem?_eq_getElem hi] at this
      simp only [Option.getD_some] at this
      omega
    have hBw := Nat.le_trans hB HB1.out.size
    have HLI := Lib.hid (LentItems_any B a n c X w1 hr1 hBw (by omega) hsz)
    have HR1 := Lib.hid hr1
    clear hgr hcnt hsz hr1
    go_wp2_with (fail)
    go_at_call 7
    refine HLI.out.mono ?_
    rintro e w2 ⟨Y, rfl, hYl, ho, hL, hb2⟩
    have hXl : X.length = n := HR.out.len.symm
    have hL1 : ∀ i, i < n → LI w1.heap.size w2 (X.getD i default) (Y.getD i default) := fun i hi => (hL i hi).mono (Nat.le_succ _)
    have hri := lent_ri ho hYl hXl hL1 (fun x hx => HR1.out.ok x hx)
    have hce : chkE Y = chkE X := chkE_like (by omega) (fun i hi => (hL i (by omega)).like)
    have hc2 := Check_any _ _ _ _ Y w2 hri (Nat.le_refl _)
    rw [hce] at hc2
    have HC2 := Lib.hid hc2
    have HO := Lib.hid ho
    have HL := Lib.hid hL1
    have HYL := Lib.hid hYl
    have HB2 := Lib.hid (HB1.out.trans (hb2.mono HB1.out.size))
    have HR2 := Lib.hid (HR1.out.below (hb2.mono hBw))
    have hB2w := Nat.le_trans hBw hb2.size
    clear hL hL1 hri hce hc2 ho hYl hXl hb2
    go_wp2_with (fail)
    go_at_call 21
    refine HC2.out.mono ?_
    rintro e w3 ⟨rfl, hb3⟩
    have hB3w := Nat.le_trans hB2w hb3.size
    have HRC := Lib.hid (rCheck_any B a n c X w3 (HR2.out.below (hb3.mono hB2w)) hB3w)
    have HR3 := Lib.hid (HR2.out.below (hb3.mono hB2w))
    have HO3 := Lib.hid (HO.out.below hb3)
    have HL3 := Lib.hid (show ∀ i, i < n → LI w1.heap.size w3 (X.getD i default) (Y.getD i default) from fun i hi => (HL.out i hi).keep hb3)
    have HB3 := Lib.hid (HB2.out.trans (hb3.mono HB2.out.size))
    clear hb3
    generalize chkE X = r at HRC ⊢
    go_wp2_with (fail)
    go_at_call 38
    refine HRC.out.mono ?_
    rintro e w4 ⟨rfl, hb4⟩
    have hB4w := Nat.le_trans hB3w hb4.size
    have HKI := Lib.hid (KeptItems_any w1.heap.size B _ a n c X Y w4 (HO3.out.below hb4) HYL.out (fun i hi => (HL3.out i hi).keep hb4) (HR3.out.below (hb4.mono hB3w)) hB4w (by omega))
    have HB4 := Lib.hid (HB3.out.trans (hb4.mono HB3.out.size))
    have hrr : (r == r) = true := by simp
    clear hb4
    go_wp2_with (fail)
    go_at_call 11
    refine HKI.out.mono ?_
    rintro e w5 ⟨rfl, hb5⟩
    have HB5 := Lib.hid (HB4.out.trans (hb5.mono HB4.out.size))
    clear hb5
    go_wp2_with (fail)
    go_at_call 6
    refine (awake_any _).mono ?_
    rintro e w6 ⟨rfl, hb6⟩
    have HB6 := Lib.hid (HB5.out.trans (hb6.mono HB5.out.size))
    clear hb6
    go_wp2_with (fail)
    go_ret
    exact ⟨rfl, HB6.out⟩
end Go.Proofs.YthlmnoggeggpkaaGreat
