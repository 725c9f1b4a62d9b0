/- What KitParts calls, in one form. KitChecks. -/
import Derived.Test.YthlmnoggeggpkaaGreatKOver
import Derived.Test.YthlmnoggeggpkaaGreatTxBag
import Derived.Test.YthlmnoggeggpkaaGreatKGreat
import Derived.Test.YthlmnoggeggpkaaGreatKAwake
import Derived.Test.YthlmnoggeggpkaaGreatKRefCheck
namespace Go.Proofs.YthlmnoggeggpkaaGreat
open Go.RowKit

/-- What is in so many in the end; nothing, if that is refused. -/
def plX (X : List It) (c : List UInt8) (q : Int) : List Pt := if partsE X c q = 0 then (endL X c q).getD [] else []
open Classical in
/-- What is within; nothing, if there is no such item. -/
noncomputable def wlX (X : List It) (c : List UInt8) : List (List UInt8) := if chkE X = 0 ∧ c ∈ codes X then withinL X c else []
theorem pl_strip (X : List It) (c : List UInt8) (q : Int) : plX (X.map strip) c q = plX X c q := by
  unfold plX
  rw [partsE_strip, endL_strip]
theorem wl_strip (X : List It) (c : List UInt8) : wlX (X.map strip) c = wlX X c := by
  unfold wlX
  rw [chkE_strip, codes_strip, withinL_strip]
/-- A list of parts, own, and such as may be compared. -/
def PartsPost (X : List It) (c : List UInt8) (q : Int) (w : World) (e : Ending) (w' : World) : Prop :=
  Below w.heap.size w w' ∧ ∃ a c', e = .returned (.tuple #[.slice a (plX X c q).length c', .int .i64 (partsE X c q)]) ∧ OP w.heap.size w' (.slice a (plX X c q).length c') (plX X c q) ∧ PS X (plX X c q)
theorem parts_post {X : List It} {c : List UInt8} {q : Int} {w w' : World} {e : Ending} (hn : Up ([] : List Pt)) (hb : Below w.heap.size w w') {v : Value} (he : e = .returned (.tuple #[v, .int .i64 (partsE X c q)])) (h1 : partsE X c q ≠ 0 → v = .slice none 0 0) (h2 : partsE X c q = 0 → ∃ a c' S, v = .slice a S.length c' ∧ endL X c q = some S ∧ PS X S ∧ OP w.heap.size w' v S) : PartsPost X c q w e w' := by
  by_cases h : partsE X c q = 0
  · obtain ⟨a, c', S, rfl, hS, hP, ho⟩ := h2 h
    have hpl : plX X c q = S := by unfold plX; rw [if_pos h, hS]; rfl
    exact ⟨hb, a, c', by rw [hpl]; exact he, by rw [hpl]; exact ho, by rw [hpl]; exact hP⟩
  · have hpl : plX X c q = [] := by unfold plX; rw [if_neg h]
    exact ⟨hb, none, 0, by rw [hpl, he, h1 h]; rfl, by rw [hpl]; exact OP.nil _ _, by rw [hpl]; exact ⟨hn, (fun p hp => by cases hp), Nat.zero_le _⟩⟩
theorem Parts_u (B : Nat) (a : Option Addr) (n cp : Nat) (X : List It) (c : List UInt8) (q : Int) (w : World) (hr : RI B w a n cp X) (hB : B ≤ w.heap.size) (hc : c.length ≤ 9223372036854775807) (hq1 : -9223372036854775808 ≤ q) (hq2 : q ≤ 9223372036854775807) :
    Calls Tryz.prog 8 #[.slice a n cp, .string ⟨c.toArray⟩, .int .i64 q] w (PartsPost X c q w) :=
  (Parts_any B a n cp X c q w hr hB hc hq1 hq2).mono fun _ _ ⟨hb, _, he, h1, h2⟩ => parts_post Up.nil hb he h1 h2
theorem rParts_u (B : Nat) (a : Option Addr) (n cp : Nat) (X : List It) (c : List UInt8) (q : Int) (w : World) (hr : RI B w a n cp X) (hB : B ≤ w.heap.size) (hc : c.length ≤ 9223372036854775807) :
    Calls Tryz.prog 13 #[.slice a n cp, .string ⟨c.toArray⟩, .int .i64 q] w (PartsPost X c q w) :=
  (rParts_any B a n cp X c q w hr hB hc).mono fun _ _ ⟨hb, _, he, h1, h2⟩ => parts_post Up.nil hb he h1 h2
def InPost (X : List It) (c : List UInt8) (w : World) (e : Ending) (w' : World) : Prop :=
  Below w.heap.size w w' ∧ ∃ a c', e = .returned (.slice a (wlX X c).length c') ∧ w'.ownsRow w.heap.size 9 1 (.slice a (wlX X c).length c') (wlX X c).length ((wlX X c).map encStr)
theorem in_post {X : List It} {c : List UInt8} {w w' : World} {e : Ending} (hb : Below w.heap.size w w') {v : Value} (he : e = .returned v) (h1 : ¬ (chkE X = 0 ∧ c ∈ codes X) → v = .slice none 0 0) (h2 : chkE X = 0 → c ∈ codes X → w'.ownsRow w.heap.size 9 1 v (withinL X c).length ((withinL X c).map encStr)) : InPost X c w e w' := by
  by_cases h : chkE X = 0 ∧ c ∈ codes X
  · have hwl : wlX X c = withinL X c := by unfold wlX; rw [if_pos h]
    have h3 := h2 h.1 h.2
    obtain ⟨a, c', rfl, -⟩ := Tx.rows_form h3
    exact ⟨hb, a, c', by rw [hwl]; exact he, by rw [hwl]; exact h3⟩
  · have hwl : wlX X c = [] := by unfold wlX; rw [if_neg h]
    exact ⟨hb, none, 0, by rw [hwl, he, h1 h]; rfl, by rw [hwl]; exact World.ownsRow_nil _ _ _ _⟩
theorem Within_u (B : Nat) (a : Option Addr) (n cp : Nat) (X : List It) (c : List UInt8) (w : World) (hr : RI B w a n cp X) (hB : B ≤ w.heap.size) (hc : c.length ≤ 9223372036854775807) :
    Calls Tryz.prog 9 #[.slice a n cp, .string ⟨c.toArray⟩] w (InPost X c w) :=
  (Within_any B a n cp X c w hr hB hc).mono fun _ _ ⟨hb, _, he, h1, h2⟩ => in_post hb he h1 h2
theorem rWithin_u (B : Nat) (a : Option Addr) (n cp : Nat) (X : List It) (c : List UInt8) (w : World) (hr : RI B w a n cp X) (hB : B ≤ w.heap.size) (hc : c.length ≤ 9223372036854775807) :
    Calls Tryz.prog 16 #[.slice a n cp, .string ⟨c.toArray⟩] w (InPost X c w) :=
  (rWithin_any B a n cp X c w hr hB hc).mono fun _ _ ⟨hb, _, he, h1, h2⟩ => in_post hb he h1 h2
theorem wl_sub {X : List It} {c : List UInt8} : ∀ t ∈ wlX X c, t ∈ codes X := fun t ht => by
  unfold wlX at ht
  split at ht
  · exact (mem_within.1 ht).1
  · cases ht
theorem wl_len {X : List It} {c : List UInt8} : (wlX X c).length ≤ X.length := by
  unfold wlX
  split
  · unfold withinL
    have h2 : (codes X).length = X.length := by unfold codes; rw [List.length_map]
    rw [← h2]
    exact List.length_filter_le _ _
  · exact Nat.zero_le _
theorem out_below {B N B0 : Nat} {w w' : World} (h : Out B N w w') (hB0 : B0 ≤ B) (hBw : B ≤ w.heap.size) : Below B0 w w' := by
  refine ⟨?_, ?_, ?_, ?_, ?_⟩
  all_goals first | exact h.os | exact h.tape | exact h.output | exact h.size | exact fun k hk => h.block k (by omega) (.inl (by omega))
set_option maxHeartbeats 4000000 in
set_option maxRecDepth 100000 in
theorem ApartPartsN_any (B N K c lb : Nat) (V : Nat → Value) (F : Nat → List Pt) (w : World) (hB : B ≤ N) (hN : N ≤ w.heap.size) (hA : Ap B N K V F w) (hK0 : 0 < K) (hK : K ≤ 100000) (hc : K ≤ c ∧ c ≤ 9223372036854775807) (hlb : lb < w.heap.size)
    (hls : ∀ k, k < K → w.cell? ⟨lb, k, none⟩ = some (V k)) (hF : ∀ k, k < K → (F k).length ≤ 1000000) :
    Calls Tryz.prog 18 #[.slice (some ⟨lb, 0, none⟩) K c] w fun e w' => e = .returned (.bool true) ∧ Out B N w w' := by
  obtain ⟨hc1, hc2⟩ := hc
  have HA := Lib.hid hA
  have HLS := Lib.hid hls
  have HF := Lib.hid hF
  obtain ⟨z, hz⟩ : ∃ z, z = w.heap.size := ⟨_, rfl⟩
  have Hz := Lib.hid hz
  have hb0 := Lib.hid (bag_new w)
  have hbw := Lib.hid ((Below.refl w.heap.size w).alloc (Nat.le_refl _) (.cells #[.slice none 0 0, .slice none 0 0, .slice none 0 0, .slice none 0 0, .slice none 0 0, .slice none 0 0, .slice none 0 0, .slice none 0 0, .slice none 0 0, .slice none 0 0, .slice none 0 0, .slice none 0 0, .slice none 0 0, .slice none 0 0, .slice none 0 0, .slice none 0 0, .slice none 0 0, .slice none 0 0, .slice none 0 0, .slice none 0 0, .slice none 0 0, .slice none 0 0, .slice none 0 0] 98))
  rw [← hz] at hb0
  clear hA hls hF
  go_enter Tryz.func18, Tryz.ntmps18
  go_wp2_with (fail)
  rw [← hz]
  clear hz
  go_loopw [4] (fun s4 wr => ∃ k : Nat, s4 = .int .i64 k ∧ k ≤ K ∧ Hid (Bag z wr ((List.range k).map V)) ∧ Hid (Below w.heap.size w wr)) (fun s4 _ => K - (intOf s4).toNat)
  case atStart => exact ⟨0, rfl, by omega, hb0, hbw⟩
  case round =>
    clear hb0 hbw
    obtain ⟨k, rfl, hk, hbag, hbw⟩ := hrel
    by_cases hkn : k < K
    · obtain ⟨a, n, c', hv, -⟩ : ∃ a n c', V k = .slice a n c' ∧ True := by
        obtain ⟨a, c', h1, -⟩ := HA.out.split hkn rfl
        exact ⟨_, _, _, h1, trivial⟩
      have hcl := (hbw.out.cell (p := ⟨lb, k, none⟩) hlb).trans (HLS.out k hkn)
      rw [hv] at hcl
      have Hv := Lib.hid hv
      have hput := putParts_any z ((List.range k).map V) a n c' wr hbag.out (by simp; omega)
      have Hput := Lib.hid hput
      clear hput hv
      go_wp2_with (go_at_call 43; refine Hput.out.mono ?_; rintro e w2 ⟨rfl, h2, h3⟩; have H2 := Lib.hid h2; have H3 := Lib.hid h3; clear h2 h3)
      go_roundw
      case rel =>
        have h4 := H2.out
        rw [← Hv.out] at h4
        exact ⟨k + 1, by go_num, by omega, Lib.hid (by rw [List.range_succ, List.map_append]; exact h4), Lib.hid (hbw.out.trans (Hz.out ▸ H3.out))⟩
      case measure => simp [intOf]; omega
    · have ek : k = K := by omega
      subst ek
      have hap := Lib.hid (bagParts_any B N k z V F wr hB (HA.out.below hbw.out) hK0 hK (by rw [Hz.out]; exact hN) hbag.out HF.out)
      go_wp2_with (go_at_call 44; refine hap.out.mono ?_; rintro e w2 ⟨rfl, h2⟩; have H2 := Lib.hid h2; clear h2)
      go_ret
      refine ⟨rfl, ?_⟩
      exact ((Out.refl B N w).below hbw.out).trans H2.out
end Go.Proofs.YthlmnoggeggpkaaGreat
namespace Go.Proofs.YthlmnoggeggpkaaGreat
open Go.RowKit

/-- Lent items are items in memory. -/
theorem lent_ri {base N g n : Nat} {X Y : List It} {w w0 : World} (ho : OIt base w (.slice (some ⟨g, 0, none⟩) (n + 12) (n + 12)) (Y ++ lentI)) (hY : Y.length = n) (hX : X.length = n) (hL : ∀ i, i < n → LI base w (X.getD i default) (Y.getD i default)) (hx : ∀ x ∈ X, ItOk N w0 x) : RI w.heap.size w (some ⟨g, 0, none⟩) n (n + 12) Y := by
  obtain ⟨h1, h2, h3, h4, hc⟩ := ho.cells
  refine ⟨hY.symm, by omega, h3, fun y hy => ?_, fun _ => ⟨g, 0, rfl, h4, fun i hi => ?_⟩⟩
  · obtain ⟨i, hi, rfl⟩ := List.mem_iff_getElem.1 hy
    have := hL i (by omega)
    rw [List.getD_eq_getElem?_getD (l := Y), List.getElem?_eq_getElem hi] at this
    refine LI.ok this (hx _ ?_)
    rw [List.getD_eq_getElem?_getD, List.getElem?_eq_getElem (by omega)]
    exact List.getElem_mem _
  · have := hc i (by omega)
    rw [allI_at Y n i hY.symm hi] at this
    simpa using this
set_option maxHeartbeats 4000000 in
set_option maxRecDepth 100000 in
theorem KitChecks_any (B : Nat) (a : Option Addr) (n c : Nat) (X : List It) (w : World) (hr : RI B w a n c X) (hB : B ≤ w.heap.size) (hlow : LowI X) :
    Calls Tryz.prog 20 #[.slice a n c] w fun e w' => e = .returned (.bool true) ∧ Below w.heap.size w w' := by
  have HR := Lib.hid hr
  have HG := Lib.hid (great_any B a n c X w hr hlow)
  clear hr hlow
  go_enter Tryz.func20, Tryz.ntmps20
  go_wp2_with (fail)
  go_at_call 5
  refine HG.out.mono ?_
  rintro e w1 ⟨⟨gr, rfl, hgr⟩, q, rfl⟩
  have hb1 : Below w.heap.size w (w.drewN q) := below_dn (Below.refl _ _) q
  have HB1 := Lib.hid hb1
  have hr1 := HR.out.below (hb1.mono hB)
  generalize w.drewN q = w1 at HB1 hr1 ⊢
  clear hb1
  cases gr with
  | true =>
    clear hr1 hgr
    go_wp2_with (fail)
    go_at_call 6
    refine (awake_any _).mono ?_
    rintro e w2 ⟨rfl, hb2⟩
    have HB2 := Lib.hid (HB1.out.trans (hb2.mono HB1.out.size))
    clear hb2
    go_wp2_with (fail)
    go_ret
    exact ⟨rfl, HB2.out⟩
  | false =>
    obtain ⟨hn, hcnt⟩ := hgr rfl
    have hsz : ∀ x ∈ X, x.ps.length ≤ 100000 ∧ x.os.length ≤ 100000 := fun x hx => by
      obtain ⟨i, hi, rfl⟩ := List.mem_iff_getElem.1 hx
      have := hcnt i (by have := HR.out.len; omega)
      rw [List.getD_eq_getElem?_getD, List.getElem?_eq_getElem hi] at this
      simp only [Option.getD_some] at this
      omega
    have hBw := Nat.le_trans hB HB1.out.size
    have HLI := Lib.hid (LentItems_any B a n c X w1 hr1 hBw (by omega) hsz)
    have HR1 := Lib.hid hr1
    clear hgr hcnt hsz hr1
    go_wp2_with (fail)
    go_at_call 7
    refine HLI.out.mono ?_
    rintro e w2 ⟨Y, rfl, hYl, ho, hL, hb2⟩
    have hXl : X.length = n := HR.out.len.symm
    have hL1 : ∀ i, i < n → LI w1.heap.size w2 (X.getD i default) (Y.getD i default) := fun i hi => (hL i hi).mono (Nat.le_succ _)
    have hri := lent_ri ho hYl hXl hL1 (fun x hx => HR1.out.ok x hx)
    have hce : chkE Y = chkE X := chkE_like (by omega) (fun i hi => (hL i (by omega)).like)
    have hc2 := Check_any _ _ _ _ Y w2 hri (Nat.le_refl _)
    rw [hce] at hc2
    have HC2 := Lib.hid hc2
    have HO := Lib.hid ho
    have HL := Lib.hid hL1
    have HYL := Lib.hid hYl
    have HB2 := Lib.hid (HB1.out.trans (hb2.mono HB1.out.size))
    have HR2 := Lib.hid (HR1.out.below (hb2.mono hBw))
    have hB2w := Nat.le_trans hBw hb2.size
    clear hL hL1 hri hce hc2 ho hYl hXl hb2
    go_wp2_with (fail)
    go_at_call 21
    refine HC2.out.mono ?_
    rintro e w3 ⟨rfl, hb3⟩
    have hB3w := Nat.le_trans hB2w hb3.size
    have HRC := Lib.hid (rCheck_any B a n c X w3 (HR2.out.below (hb3.mono hB2w)) hB3w)
    have HR3 := Lib.hid (HR2.out.below (hb3.mono hB2w))
    have HO3 := Lib.hid (HO.out.below hb3)
    have HL3 := Lib.hid (show ∀ i, i < n → LI w1.heap.size w3 (X.getD i default) (Y.getD i default) from fun i hi => (HL.out i hi).keep hb3)
    have HB3 := Lib.hid (HB2.out.trans (hb3.mono HB2.out.size))
    clear hb3
    generalize chkE X = r at HRC ⊢
    go_wp2_with (fail)
    go_at_call 38
    refine HRC.out.mono ?_
    rintro e w4 ⟨rfl, hb4⟩
    have hB4w := Nat.le_trans hB3w hb4.size
    have HKI := Lib.hid (KeptItems_any w1.heap.size B _ a n c X Y w4 (HO3.out.below hb4) HYL.out (fun i hi => (HL3.out i hi).keep hb4) (HR3.out.below (hb4.mono hB3w)) hB4w (by omega))
    have HB4 := Lib.hid (HB3.out.trans (hb4.mono HB3.out.size))
    have hrr : (r == r) = true := by simp
    clear hb4
    go_wp2_with (fail)
    go_at_call 11
    refine HKI.out.mono ?_
    rintro e w5 ⟨rfl, hb5⟩
    have HB5 := Lib.hid (HB4.out.trans (hb5.mono HB4.out.size))
    clear hb5
    go_wp2_with (fail)
    go_at_call 6
    refine (awake_any _).mono ?_
    rintro e w6 ⟨rfl, hb6⟩
    have HB6 := Lib.hid (HB5.out.trans (hb6.mono HB5.out.size))
    clear hb6
    go_wp2_with (fail)
    go_ret
    exact ⟨rfl, HB6.out⟩
end Go.Proofs.YthlmnoggeggpkaaGreat
