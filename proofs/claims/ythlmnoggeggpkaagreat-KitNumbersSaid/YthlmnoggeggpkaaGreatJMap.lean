/- storeman/kit.Within: its walk. The map of sums, as it reads, and the list that rises. -/
import Derived.Test.YthlmnoggeggpkaaGreatKCheckTop
import Derived.Test.YthlmnoggeggpkaaGreatKSeen
import Derived.Test.YthlmnoggeggpkaaGreatKSorted
import Derived.Test.YthlmnoggeggpkaaGreatJBase
import Derived.Maps.Views
import Derived.Sort.KeysCollected
namespace Go.Proofs.YthlmnoggeggpkaaGreat
open Go.RowKit Go.Maps

/-- What is within an item. -/
def inX (X : List It) (c s : List UInt8) : Prop := s = c ∨ Way (kidsX X) c s
noncomputable def withinL (X : List It) (c : List UInt8) : List (List UInt8) := (codes X).filter (fun s => @decide (inX X c s) (Classical.propDecidable _))
theorem mem_within {X : List It} {c s : List UInt8} : s ∈ withinL X c ↔ s ∈ codes X ∧ inX X c s := by
  unfold withinL
  rw [List.mem_filter]
  exact and_congr_right fun _ => @decide_eq_true_iff _ (Classical.propDecidable _)
/-- What soundness says. -/
structure Sound (X : List It) : Prop where
  len : X.length ≤ 60
  ok : ∀ i, i < X.length → okIt X i = true
  fnd : ∀ i, i < X.length → ∀ k, k < (X.getD i default).ps.length → ((X.getD i default).ps.getD k default).1 ∈ codes X
  rnd : ∀ c ∈ codes X, tellX X c ≠ 0
  dp : ∀ c ∈ codes X, tellX X c ≤ 8
theorem sound_of {X : List It} (h : chkE X = 0) : Sound X := by
  unfold chkE at h
  split at h
  · cases h
  · rename_i h1
    split at h
    · cases h
    · rename_i h2
      split at h
      · cases h
      · rename_i h3
        split at h
        · cases h
        · rename_i h4
          split at h
          · cases h
          · rename_i h5
            have a2 : allOk X = true := by cases e : allOk X with | true => rfl | false => exact absurd e h2
            have a3 : found X = true := by cases e : found X with | true => rfl | false => exact absurd e h3
            refine ⟨by omega, of_decide_eq_true a2, of_decide_eq_true a3, fun c hc e => h4 ?_, fun c hc => ?_⟩
            · obtain ⟨i, hi, -, rfl⟩ := there hc
              exact decide_eq_true ⟨i, hi, e⟩
            · obtain ⟨i, hi, -, rfl⟩ := there hc
              apply Classical.byContradiction
              intro hn
              exact h5 (decide_eq_true ⟨i, hi, by omega⟩)
theorem Sound.nd {X : List It} (h : Sound X) : (codes X).Nodup := codes_nodup h.ok
theorem Sound.kids {X : List It} (h : Sound X) : ∀ c ∈ codes X, ∀ p ∈ kidsX X c, p ∈ codes X := found_kids h.nd h.fnd
theorem Sound.ne {X : List It} (h : Sound X) : ∀ x ∈ X, x.code ≠ [] := code_ne h.ok
theorem Sound.k8 {X : List It} (h : Sound X) : ∀ c ∈ codes X, (kidsX X c).length ≤ 8 := fun c hc => by
  obtain ⟨i, hi, -, rfl⟩ := there hc
  rw [kids_cd h.nd hi, List.length_map]
  have h1 := (okIt_parts (h.ok i hi)).2.2
  unfold okShape at h1
  split at h1
  · omega
  · rw [Bool.and_eq_true, decide_eq_true_eq] at h1
    exact h1.1.2
theorem codes_pair {X : List It} (h : Sound X) : (codes X).Pairwise (· < ·) := by
  unfold codes
  rw [List.pairwise_map, List.pairwise_iff_getElem]
  intro i j hi hj hij
  have h1 := codes_up h.ok j i hij hj
  have ei : ∀ k (hk : k < X.length), X[k].code = cd X k := fun k hk => by
    unfold cd
    rw [List.getD_eq_getElem?_getD, List.getElem?_eq_getElem hk]; rfl
  rw [ei i hi, ei j hj]
  exact h1
theorem within_sorted {X : List It} (h : Sound X) (c : List UInt8) : (withinL X c).mergeSort (fun x y => decide (x ≤ y)) = withinL X c := by
  apply List.mergeSort_of_pairwise
  have h1 : (withinL X c).Pairwise (· < ·) := (codes_pair h).filter _
  exact h1.imp fun hlt => decide_eq_true (List.le_of_lt hlt)
/-- What the closure has seen is what is within. -/
theorem seen_is {X : List It} (hs : Sound X) {c : List UInt8} (hc : c ∈ codes X) {s' : List UInt8 → Int} (h1 : s' c ≠ 0) (h2 : ∀ x, s' x ≠ 0 → (0 : Int) ≠ 0 ∨ ((x = c ∨ Way (kidsX X) c x) ∧ ∀ p ∈ kidsX X x, s' p ≠ 0)) (x : List UInt8) : s' x ≠ 0 ↔ x ∈ withinL X c := by
  rw [mem_within]
  constructor
  · intro hx
    have h := ((h2 x hx).resolve_left (fun h => h rfl)).1
    refine ⟨?_, h⟩
    rcases h with rfl | h
    · exact hc
    · clear hx
      induction h with
      | one hb => exact hs.kids _ hc _ hb
      | more _ hc' ih => exact hs.kids _ (ih) _ hc'
  · rintro ⟨-, rfl | h⟩
    · exact h1
    · induction h with
      | one hb => exact ((h2 c h1).resolve_left (fun h => h rfl)).2 _ hb
      | more _ hc' ih => exact ((h2 _ ih).resolve_left (fun h => h rfl)).2 _ hc'
def winF (g : Nat) : Value := .func (.func 31) #[] #[.pointer (some ⟨g + 1 + 1, 0, none⟩), .pointer (some ⟨g, 0, none⟩), .pointer (some ⟨g + 1 + 1 + 1, 0, none⟩)]
def winW (w : World) (ma : Nat) (tf : TypeId) : World := (((w.alloc (.cells #[.map (some ma)] 54)).alloc (.map #[] 0)).alloc (.cells #[.map (some (w.heap.size + 1))] 55)).alloc (.cells #[winF w.heap.size] tf)
theorem win_start (tf : TypeId) {B ma n : Nat} {X : List It} {w : World} (hall : MF w ma n zItem (bookF X)) (hok : ∀ x ∈ X, ItOk B w x) (hB : B ≤ w.heap.size) :
    LK (winW w ma tf) w.heap.size (w.heap.size + 1 + 1) w.heap.size (w.heap.size + 1 + 1 + 1) (w.heap.size + 1) ma n (winF w.heap.size) X ∧ MF (winW w ma tf) (w.heap.size + 1) 0 (.int .i64 0) (oV (fun _ => 0)) ∧ Below w.heap.size w (winW w ma tf) ∧ (winW w ma tf).heap.size = w.heap.size + 4 := by
  obtain ⟨g, hg⟩ : ∃ g, g = w.heap.size := ⟨_, rfl⟩
  have hma := hall.lt
  unfold winW
  rw [← hg]
  obtain ⟨W1, h1⟩ : ∃ W, W = w.alloc (.cells #[.map (some ma)] 54) := ⟨_, rfl⟩
  have s1 : W1.heap.size = g + 1 := by rw [h1, World.size_alloc, hg]
  have a1 : W1.heap[g]? = some (.cells #[.map (some ma)] 54) := by rw [h1, hg]; exact heap_alloc_new _ _
  have b1 : Below g w W1 := by rw [h1, hg]; exact (Below.refl _ w).alloc (Nat.le_refl _) _
  rw [← h1]
  obtain ⟨W2, h2⟩ : ∃ W, W = W1.alloc (.map #[] 0) := ⟨_, rfl⟩
  have s2 : W2.heap.size = g + 1 + 1 := by rw [h2, World.size_alloc, s1]
  have m2 : MF W2 (g + 1) 0 (.int .i64 0) (oV (fun _ => 0)) := by rw [h2, ← s1]; exact MF.made W1 _
  have k2 : ∀ k, k < g + 1 → W2.heap[k]? = W1.heap[k]? := fun k hk => by rw [h2]; exact al_old _ _ (by rw [s1]; exact hk)
  have b2 : Below g w W2 := b1.trans (by rw [h2]; exact (Below.refl _ _).alloc (by rw [s1]; omega) _)
  rw [← h2]
  obtain ⟨W3, h3⟩ : ∃ W, W = W2.alloc (.cells #[.map (some (g + 1))] 55) := ⟨_, rfl⟩
  have s3 : W3.heap.size = g + 1 + 1 + 1 := by rw [h3, World.size_alloc, s2]
  have a3 : W3.heap[g + 1 + 1]? = some (.cells #[.map (some (g + 1))] 55) := by rw [h3, ← s2]; exact heap_alloc_new _ _
  have k3 : ∀ k, k < g + 1 + 1 → W3.heap[k]? = W2.heap[k]? := fun k hk => by rw [h3]; exact al_old _ _ (by rw [s2]; exact hk)
  have b3 : Below g w W3 := b2.trans (by rw [h3]; exact (Below.refl _ _).alloc (by rw [s2]; omega) _)
  rw [← h3]
  obtain ⟨W4, h4⟩ : ∃ W, W = W3.alloc (.cells #[winF g] tf) := ⟨_, rfl⟩
  have s4 : W4.heap.size = g + 4 := by rw [h4, World.size_alloc, s3]
  have a4 : W4.heap[g + 1 + 1 + 1]? = some (.cells #[winF g] tf) := by rw [h4, ← s3]; exact heap_alloc_new _ _
  have k4 : ∀ k, k < g + 1 + 1 + 1 → W4.heap[k]? = W3.heap[k]? := fun k hk => by rw [h4]; exact al_old _ _ (by rw [s3]; exact hk)
  have b4 : Below g w W4 := b3.trans (by rw [h4]; exact (Below.refl _ _).alloc (by rw [s3]; omega) _)
  rw [← h4]
  have b4' : Below w.heap.size w W4 := hg ▸ b4
  refine ⟨⟨one_at ((k4 _ (by omega)).trans a3), one_at ((k4 _ (by omega)).trans ((k3 _ (by omega)).trans ((k2 _ (by omega)).trans a1))), one_at a4, hall.below b4' hma, fun x hx => ((hok x hx).below (b4'.mono hB)).mono (by rw [hg]; exact hB), by omega, by omega, by omega, by omega, by omega, by omega, by omega, by omega⟩, m2.block ((k4 _ (by omega)).trans (k3 _ (by omega))), b4, s4⟩

set_option maxHeartbeats 4000000 in
set_option maxRecDepth 100000 in
theorem Within_any (B : Nat) (a : Option Addr) (n cp : Nat) (X : List It) (c : List UInt8) (w : World) (hr : RI B w a n cp X) (hB : B ≤ w.heap.size) (hc : c.length ≤ 9223372036854775807) :
    Calls Tryz.prog 9 #[.slice a n cp, .string ⟨c.toArray⟩] w fun e w' => Below w.heap.size w w' ∧ ∃ v, e = .returned v ∧ (¬ (chkE X = 0 ∧ c ∈ codes X) → v = .slice none 0 0) ∧ (chkE X = 0 → c ∈ codes X → w'.ownsRow w.heap.size 9 1 v (withinL X c).length ((withinL X c).map encStr)) := by
  have HC := Lib.hid (check_any B a n cp X w hr hB)
  have HCL := Lib.hid hc
  have HR := Lib.hid (hr.mono hB)
  have hmk := @run_makeMap Tryz.prog
  have hsf : ∀ (a : Addr) (f : Fn) (x y : Array Value) (W : World), (store a (.func f x y)).run Tryz.prog W = stored Tryz.prog W a (.func f x y) .plain := fun a f x y W => run_store Tryz.prog W a _ _ rfl
  have hfc := field_code
  clear hr hc
  go_enter Tryz.func9, Tryz.ntmps9
  go_wp2_with (fail)
  go_at_call 26
  refine HC.out.mono ?_
  rintro e w1 ⟨hb, am, dm, rfl, hnil, hok⟩
  have HB := Lib.hid hb
  clear hb
  by_cases h0 : chkE X = 0
  · obtain ⟨ma, mo, N, o, rfl, rfl, hma, -, -, -, -, -⟩ := hok h0
    have HS := Lib.hid (sound_of h0)
    have HMA := Lib.hid hma
    have H0 := Lib.hid h0
    rw [h0]
    clear h0 hok hma hnil
    by_cases hcc : c ∈ codes X
    · have HCC := Lib.hid hcc
      obtain ⟨x, hx, hxm, hxc⟩ := itF_some hcc
      have hne := HS.out.ne x hxm
      have hlk := fun (W : World) (h : Below w1.heap.size w1 W) => (HMA.out.below h HMA.out.lt).look Tryz.underlying54 (zeroItem _) c HCL.out
      rw [book_at HS.out.nd hx] at hlk
      unfold It.val at hlk
      rw [hxc] at hlk
      have hlk1 := hlk (w1.alloc (.cells #[.map (some ma)] 54)) ((Below.refl _ w1).alloc (Nat.le_refl _) _)
      unfold encStr at hlk1
      rw [hxc] at hne
      obtain ⟨c1, c2, hcu⟩ : ∃ u v, c = u :: v := by
        cases c with
        | nil => exact absurd rfl hne
        | cons u v => exact ⟨u, v, rfl⟩
      clear hcc hx hxm hxc hlk hne
      subst hcu
      obtain ⟨hL0, hM0, hb0, hs0⟩ := win_start 64 HMA.out (HR.out.below HB.out).ok HB.out.size
      obtain ⟨W4, hW4⟩ : ∃ W, W = winW w1 ma 64 := ⟨_, rfl⟩
      have hW4' := hW4
      unfold winW winF at hW4'
      rw [← hW4] at hL0 hM0 hb0 hs0
      have HL0 := Lib.hid hL0
      have HM0 := Lib.hid hM0
      have HB0 := Lib.hid hb0
      have HS0 := Lib.hid hs0
      have HW4 := Lib.hid hW4'
      clear hL0 hM0 hb0 hs0 hW4 hW4'
      go_upto_region 7 with (fail)
      rw [← HW4.out]
      obtain ⟨g, hg⟩ : ∃ g, g = w1.heap.size := ⟨_, rfl⟩
      rw [← hg] at HL0 HM0 HB0 HS0 ⊢
      have HG := Lib.hid hg
      clear hg HW4 hlk1
      have hz60 : zc (codes X) (fun _ => 0) ≤ 60 := by
        have h1 : zc (codes X) (fun _ => 0) ≤ (codes X).length := List.countP_le_length
        have h2 : (codes X).length = X.length := by unfold codes; rw [List.length_map]
        have := HS.out.len
        omega
      have cl := HL0.out.cl
      unfold winF at cl
      have hcall := Lib.hid (seen_any g (g + 1 + 1) g (g + 1 + 1 + 1) (g + 1) ma n (winF g) X rfl HS.out.nd HS.out.kids HS.out.k8 (zc (codes X) (fun _ => 0) + 1) (fun _ => 0) (c1 :: c2) 0 W4 HL0.out HM0.out (fun _ => ⟨Int.le_refl _, Int.le_refl _⟩) HCC.out (by omega) (by omega) (by have := HS0.out; omega))
      clear hz60
      go_wp2_with (fail)
      go_at_call 31
      refine hcall.out.mono ?_
      rintro e w5 ⟨rfl, hgr, s', N', hM', hb', hm', hc', hw', hN', ho'⟩
      have hL5 := HL0.out.grown hgr (by have := HS0.out; omega)
      have co5 := hL5.co
      have HSI := Lib.hid (seen_is HS.out HCC.out hc' hw')
      have hs5 : g + 4 ≤ w5.heap.size := by have := hgr.size; have := HS0.out; omega
      have hb5 : Below w.heap.size w w5 := HB.out.trans ((HG.out ▸ (HB0.out.grown hgr (by have := HS0.out; omega) (fun k e => by have := Option.some.inj e; omega)) : Below w1.heap.size w1 w5).mono HB.out.size)
      have hN9 : N' ≤ 10000 := by
        have h1 : zc (codes X) (fun _ => 0) ≤ (codes X).length := List.countP_le_length
        have h2 : (codes X).length = X.length := by unfold codes; rw [List.length_map]
        have := HS.out.len
        omega
      obtain ⟨D, hown, hat, hhas⟩ := hM'
      have hsz := hown.size_le
      have hkeys := Lib.hid (callsIn_wide.1 (AnyZ.keys_in Tryz.keysP Fence.wide 5 trivial rfl (some (g + 1)) w5))
      have HSF := Lib.hid (sortedF_any (g + 1) N' D w5 hown (by omega))
      have HPL : Hid ((withinL X (c1 :: c2)).Perm (strKeys D)) := Lib.hid (Collected.perm (left := fun _ => false) ⟨HS.out.nd.filter _, fun x => by
        rw [hhas, ← HSI.out x]
        unfold oV
        simp⟩ hown skey Tryz.underlying9 (fun _ => rfl))
      have HB5 := Lib.hid hb5
      have HS5 := Lib.hid hs5
      clear hgr hb' hm' hc' hw' hN' ho' hL5 hs5 hb5 hN9 hown hat hhas hsz hcall cl
      go_wp2_with (fail)
      go_at_call 33
      refine hkeys.out.mono ?_
      rintro e w6 ⟨rfl, rfl⟩
      go_wp2_with (fail)
      go_at_call 32
      refine HSF.out.mono ?_
      rintro e w7 ⟨v, ss, rfl, hp, hrow, hb7⟩
      have hfin : (ss.mergeSort fun x y => decide (x ≤ y)) = withinL X (c1 :: c2) := by
        rw [← within_sorted HS.out (c1 :: c2)]
        exact mergeSort_of_perm (hp.trans HPL.out.symm)
      have hlen : ss.length = (withinL X (c1 :: c2)).length := (hp.trans HPL.out.symm).length_eq
      rw [hfin, hlen] at hrow
      have hbig : Below w.heap.size w w7 := HB5.out.trans (((Below.refl w5.heap.size w5).alloc (Nat.le_refl _) _).mono HB5.out.size |>.trans (hb7.mono (by have := HB5.out.size; omega)))
      have HROW := Lib.hid (ownsRow_base_a hrow (show w.heap.size ≤ w5.heap.size + 1 by have := HB5.out.size; omega))
      have HBIG := Lib.hid hbig
      clear hp hrow hb7 hfin hlen hbig hkeys HSF
      go_wp2_with (fail)
      go_ret
      exact ⟨HBIG.out, v, rfl, fun h => absurd ⟨H0.out, HCC.out⟩ h, fun _ _ => HROW.out⟩
    · have hbz : bookF X c = zItem := book_other hcc _
      have hlk := fun (W : World) (h : Below w1.heap.size w1 W) => (HMA.out.below h HMA.out.lt).look Tryz.underlying54 (zeroItem _) c HCL.out
      rw [hbz] at hlk
      unfold zItem at hlk
      have hlk1 := hlk (w1.alloc (.cells #[.map (some ma)] 54)) ((Below.refl _ w1).alloc (Nat.le_refl _) _)
      have HB1 : Hid (Below w.heap.size w (w1.alloc (.cells #[.map (some ma)] 54))) := Lib.hid (HB.out.alloc HB.out.size _)
      have HNC := Lib.hid (show ¬ (chkE X = 0 ∧ c ∈ codes X) from fun h => hcc h.2)
      clear hbz hlk hcc
      cases c with
      | nil =>
        go_wp2_with (fail)
        go_ret
        exact ⟨HB1.out, _, rfl, fun _ => rfl, fun h1 h2 => absurd ⟨h1, h2⟩ HNC.out⟩
      | cons c1 c2 =>
        go_wp2_with (fail)
        go_ret
        exact ⟨HB1.out, _, rfl, fun _ => rfl, fun h1 h2 => absurd ⟨h1, h2⟩ HNC.out⟩
  · obtain ⟨rfl, rfl⟩ := hnil h0
    obtain ⟨r, hr⟩ : ∃ r, r = chkE X := ⟨_, rfl⟩
    have H0 := Lib.hid h0
    rw [← hr] at h0 ⊢
    have e1 : (r != 0) = true := by simpa using h0
    have e2 : (r == 0) = false := by simpa using h0
    have HB1 : Hid (Below w.heap.size w (w1.alloc (.cells #[.map none] 54))) := Lib.hid (HB.out.alloc HB.out.size _)
    clear h0 hr hok
    go_wp2_with (fail)
    go_ret
    exact ⟨HB1.out, _, rfl, fun _ => rfl, fun h1 _ => absurd h1 H0.out⟩
end Go.Proofs.YthlmnoggeggpkaaGreat
namespace Go.Proofs.YthlmnoggeggpkaaGreat
open Go.Maps

/-- The map reads as the sums of S. -/
def MapIs {H : Type} (D : DataW H) (S : List Pt) : Prop := IsMap D ∧ (∀ k, D.atKey (.string k) (.lit (.int .i64 0)) = .lit (.int .i64 (sumAt S k))) ∧ ∀ k, Maps.has D (.string k) = true ↔ k ∈ S.map (·.1)
theorem MapIs.start {H : Type} : MapIs (.map [] : DataW H) [] := ⟨isMap_empty, fun k => rfl, fun k => by simp [Maps.has]⟩
theorem MapIs.put {H : Type} {D : DataW H} {S : List Pt} (h : MapIs D S) (hu : Up S) (k : List UInt8) (n : Int) : MapIs (D.put (.string k) (.lit (.int .i64 n))) (setAt S k n) := by
  obtain ⟨h1, h2, h3⟩ := h
  have hk : WideAt.IsKeyLit (.string k) := by trivial
  refine ⟨h1.put _ _, fun k' => ?_, fun k' => ?_⟩
  · rw [sumAt_set k n k' hu]
    by_cases e : k' = k
    · subst e
      rw [if_pos rfl, atKey_put_same h1 hk]
    · rw [if_neg e, atKey_put_other (fun e2 => e (by cases e2; rfl)), h2]
  · rw [keys_set]
    by_cases e : k' = k
    · subst e
      simp [has_put_same h1 hk]
    · rw [has_put_other (fun e2 => e (by cases e2; rfl)), h3]
      simp [e]
/-- What was gathered so far. -/
def Got {H : Type} (D : DataW H) (S : List Pt) (left : Lit → Bool) (out : List Pt) : Prop := Collected D left (out.map (·.1)) ∧ ∀ p ∈ out, p.2 = sumAt S p.1
theorem Got.start {H : Type} (D : DataW H) (S : List Pt) : Got D S (Maps.has D) [] := ⟨Collected.start D, fun p hp => by cases hp⟩
theorem Got.step {H : Type} {D : DataW H} {S : List Pt} {left : Lit → Bool} {out : List Pt} (h : Got D S left out) (hD : MapIs D S) {x : List UInt8} {c : Int} (hl : left (.string x) = true) (hat : ∀ zd, D.atKey (.string x) zd = .lit (.int .i64 c)) :
    Got D S (fun z => left z && !z.sameKey (.string x)) (out ++ [(x, c)]) := by
  have e : c = sumAt S x := by
    have h1 := hat (.lit (.int .i64 0))
    rw [hD.2.1 x] at h1
    cases h1; rfl
  refine ⟨?_, fun p hp => ?_⟩
  · rw [List.map_append]
    exact h.1.step hl hat
  · rcases List.mem_append.1 hp with hp | hp
    · exact h.2 p hp
    · rw [List.mem_singleton.1 hp]; exact e
theorem Got.done {H : Type} {D : DataW H} {S : List Pt} {left : Lit → Bool} {out : List Pt} (h : Got D S left out) (hD : MapIs D S) (hu : Up S) (hl : ∀ kl, left kl = false) : out.Perm S := by
  refine hu.perm h.1.1 (fun k => ?_) h.2
  rw [h.1.2 k, hl, ← hD.2.2 k]
  simp
end Go.Proofs.YthlmnoggeggpkaaGreat
