/- What is within an item, by the program: the closure that looks down. -/
import Derived.Test.YthlmnoggeggpkaaGreatKSpec
namespace Go.Proofs.YthlmnoggeggpkaaGreat
open Go.RowKit

theorem zc_set' {o : List UInt8 → Int} {c : List UInt8} {V : List (List UInt8)} {v : Int} (h0 : o c = 0) (hv : v ≠ 0) (hc : c ∈ V) : zc V (setO o c v) < zc V o := by
  have h1 : zc V (setO o c v) ≤ zc V (setO o c (-1)) := zc_le fun x _ hx => by
    by_cases e : x = c
    · subst e; rw [setO_same] at hx; exact absurd hx hv
    · rw [setO_other _ e] at hx; rw [setO_other _ e]; exact hx
    
  exact Nat.lt_of_le_of_lt h1 (zc_set h0 hc)
theorem way_trans {X : List It} {a b c : List UInt8} (h : Way (kidsX X) a b) (k : Way (kidsX X) b c) : Way (kidsX X) a c := by
  induction k with
  | one hc => exact Way.more h hc
  | more _ hc ih => exact Way.more ih hc
/-- What the closure leaves. -/
def SeenPost (X : List It) (W : World) (mo N : Nat) (s : List UInt8 → Int) (c : List UInt8) (W' : World) : Prop :=
  W.grownBy W' (some mo) ∧ ∃ s' N', MF W' mo N' (.int .i64 0) (oV s') ∧ (∀ x, 0 ≤ s' x ∧ s' x ≤ (N' : Int)) ∧ (∀ x, s x ≠ 0 → s' x ≠ 0) ∧ s' c ≠ 0 ∧ (∀ x, s' x ≠ 0 → s x ≠ 0 ∨ ((x = c ∨ Way (kidsX X) c x) ∧ ∀ p ∈ kidsX X x, s' p ≠ 0)) ∧ N' + 9 * zc (codes X) s' ≤ N + 9 * zc (codes X) s + 1 ∧ ∀ x, x ∉ codes X → s' x = s x
/-- What stands in the loop over the parts. -/
def SR (X : List It) (W : World) (B bo ba bl mo ma n : Nat) (fv : Value) (s1 : List UInt8 → Int) (c : List UInt8) (N1 : Nat) (ks : List (List UInt8)) (j : Nat) (wr : World) : Prop :=
  ∃ sj Nj, MF wr mo Nj (.int .i64 0) (oV sj) ∧ (∀ x, 0 ≤ sj x ∧ sj x ≤ (Nj : Int)) ∧ (∀ x, s1 x ≠ 0 → sj x ≠ 0) ∧ (∀ p ∈ ks.take j, sj p ≠ 0) ∧ (∀ x, sj x ≠ 0 → s1 x ≠ 0 ∨ (Way (kidsX X) c x ∧ ∀ p ∈ kidsX X x, sj p ≠ 0)) ∧ Nj + 9 * zc (codes X) sj ≤ N1 + 9 * zc (codes X) s1 + j ∧ W.grownBy wr (some mo) ∧ LK wr B bo ba bl mo ma n fv X ∧ ∀ x, x ∉ codes X → sj x = s1 x

set_option maxHeartbeats 4000000 in
set_option maxRecDepth 100000 in
theorem seen_any (B bo ba bl mo ma n : Nat) (fv : Value) (X : List It) (hfv : fv = .func (.func 31) #[] #[.pointer (some ⟨bo, 0, none⟩), .pointer (some ⟨ba, 0, none⟩), .pointer (some ⟨bl, 0, none⟩)]) (hd : (codes X).Nodup) (hV : ∀ c ∈ codes X, ∀ p ∈ kidsX X c, p ∈ codes X) (hp8 : ∀ c ∈ codes X, (kidsX X c).length ≤ 8) (m : Nat) : ∀ (s : List UInt8 → Int) (c : List UInt8) (N : Nat) (W : World), LK W B bo ba bl mo ma n fv X → MF W mo N (.int .i64 0) (oV s) → (∀ x, 0 ≤ s x ∧ s x ≤ (N : Int)) → c ∈ codes X → zc (codes X) s < m → N + 9 * zc (codes X) s ≤ 10000 → B ≤ W.heap.size →
    Calls Tryz.prog 31 #[.string ⟨c.toArray⟩, .pointer (some ⟨bo, 0, none⟩), .pointer (some ⟨ba, 0, none⟩), .pointer (some ⟨bl, 0, none⟩)] W fun e W' => e = .returned (.tuple #[]) ∧ SeenPost X W mo N s c W' := by
  have HD := Lib.hid hd
  have HV := Lib.hid hV
  have H8 := Lib.hid hp8
  clear hd hV hp8
  induction m with
  | zero => intro s c N W _ _ _ _ hz; exact absurd hz (Nat.not_lt_zero _)
  | succ m ih =>
    intro s c N W hL hM hbd hc hz hN hB
    obtain ⟨x, hx, hxm, hxc⟩ := itF_some hc
    have hok := hL.ok x hxm
    have hcl : c.length ≤ 9223372036854775807 := by rw [← hxc]; exact hok.code
    have HL := Lib.hid hL
    have HM := Lib.hid hM
    have HBD := Lib.hid hbd
    have HC := Lib.hid hc
    have HCL := Lib.hid hcl
    have HX := Lib.hid hx
    have co := hL.co
    have ca := hL.ca
    have cl := hL.cl
    have hlk := hM.look Tryz.underlying55 (zeroInt _) c hcl
    unfold oV at hlk
    obtain ⟨sc, hsc⟩ : ∃ v, v = s c := ⟨_, rfl⟩
    rw [← hsc] at hlk
    have hs1 := hbd c
    rw [← hsc] at hs1
    have HSC := Lib.hid hsc
    have hf2 := field_parts
    have f0 : IntKind.i64.wrap (sc + 1) = sc + 1 := wrap_in (by omega) (by omega)
    have hsc1 : sc + 1 ≠ 0 := by omega
    have E1 := Lib.hid (oV_set s c (sc + 1))
    obtain ⟨s1, hs1'⟩ : ∃ f, f = setO s c (sc + 1) := ⟨_, rfl⟩
    rw [← hs1'] at E1
    have HS1 := Lib.hid hs1'
    have hself : s1 c = sc + 1 := by rw [hs1', setO_same]
    have hbd1 : ∀ y, 0 ≤ s1 y ∧ s1 y ≤ ((N + 1 : Nat) : Int) := fun y => by
      rw [hs1']
      by_cases e : y = c
      · subst e; rw [setO_same]; omega
      · rw [setO_other _ e]; have := hbd y; omega
    have hmon1 : ∀ y, s y ≠ 0 → s1 y ≠ 0 := fun y hy => by
      rw [hs1']
      by_cases e : y = c
      · subst e; rw [setO_same]; exact hsc1
      · rw [setO_other _ e]; exact hy
    have hoff1 : ∀ y, y ∉ codes X → s1 y = s y := fun y hy => by
      rw [hs1', setO_other _ (fun e => hy (by rw [e]; exact hc))]
    have hnew1 : ∀ y, s1 y ≠ 0 → s y ≠ 0 ∨ y = c := fun y hy => by
      by_cases e : y = c
      · exact Or.inr e
      · rw [hs1', setO_other _ e] at hy; exact Or.inl hy
    have HBD1 := Lib.hid hbd1
    have HMO1 := Lib.hid hmon1
    have HOF1 := Lib.hid hoff1
    have HNW1 := Lib.hid hnew1
    have HSF := Lib.hid hself
    have HSN := Lib.hid hsc1
    clear hL hM hbd hc hcl hx hsc hxm hs1' hbd1 hmon1 hoff1 hnew1 hself hsc1
    go_enter Tryz.func31, Tryz.ntmps31
    by_cases h0 : sc = 0
    · have H0 := Lib.hid h0
      subst h0
      go_wp2_with (at_mapUpdate; refine wpList_put_mf rfl _ _ _ 55 rfl Tryz.underlying55 HM.out (by omega) c (.int .i64 1) rfl rfl rfl HCL.out (by simp) ?_; intro W2 hM2 hg2; rw [show setO (oV s) c (.int .i64 1) = oV s1 from E1.out] at hM2; have hL2 := HL.out.grown hg2 hB; have co2 := hL2.co; have ca2 := hL2.ca; have cl2 := hL2.cl; have hlk2 := hM2.look Tryz.underlying55 (zeroInt _) c HCL.out; rw [show oV s1 c = .int .i64 1 by unfold oV; rw [HSF.out]; rfl] at hlk2; have hall := hL2.all.look Tryz.underlying54 (zeroItem _) c HCL.out; rw [book_at HD.out HX.out] at hall; unfold It.val encStr at hall; have HM2 := Lib.hid hM2; have HG2 := Lib.hid hg2; have HL2 := Lib.hid hL2; clear hM2 hg2 hL2)
      have hok2 := (HL2.out.ok x (by have := HX.out; unfold itF at this; exact List.mem_of_find?_eq_some this))
      have HOK2 := Lib.hid hok2
      have hmx := hok2.rp.mx
      have hle := hok2.rp.le
      obtain ⟨np, hnp⟩ : ∃ k, k = x.ps.length := ⟨_, rfl⟩
      rw [← hnp] at hle ⊢
      have HNP := Lib.hid hnp
      obtain ⟨pa, hpa⟩ : ∃ a, a = x.pa := ⟨_, rfl⟩
      rw [← hpa]
      have HPA := Lib.hid hpa
      clear hpa
      have HKS : Hid (kidsX X c = x.ps.map (·.1)) := Lib.hid (by unfold kidsX; rw [HX.out])
      have hn8 : np ≤ 8 := by
        have h := H8.out c HC.out
        rw [HKS.out, List.length_map] at h
        omega
      have hz1 : zc (codes X) s1 < zc (codes X) s := by rw [HS1.out]; exact zc_set' (HSC.out.symm) (by decide) HC.out
      clear hok2 hnp co2 ca2 cl2 hall hlk hlk2 co ca cl hs1 f0
      go_loopw [20] (fun s20 wr => ∃ j : Nat, s20 = .int .i64 j ∧ j ≤ np ∧ Hid (SR X W2 B bo ba bl mo ma n fv s1 c (N + 1) (x.ps.map (·.1)) j wr)) (fun s20 _ => np - (intOf s20).toNat)
      case atStart => exact ⟨0, rfl, by omega, Lib.hid ⟨s1, N + 1, HM2.out, HBD1.out, fun _ h => h, fun p hp => by simp at hp, fun y hy => Or.inl hy, Nat.le_refl _, ⟨rfl, rfl, rfl, Nat.le_refl _, fun _ _ _ => rfl⟩, HL2.out, fun _ _ => rfl⟩⟩
      case round =>
        obtain ⟨j, rfl, hj, HR⟩ := hrel
        by_cases hjn : j < np
        · have t1 : decide ((j : Int) < (np : Int)) = true := by simp; omega
          have j0 : (0 : Int) ≤ (j : Int) := by omega
          have j1 : (j : Int) < (np : Int) := by omega
          have f1 : IntKind.i64.wrap ((j : Int) + 1) = ((j + 1 : Nat) : Int) := by rw [wrap_in (by omega) (by omega)]; omega
          obtain ⟨sj, Nj, hMj, hbj, hmj, hkj, hwj, hNj, hGj, hLj, hoj⟩ := HR.out
          have hin : j < x.ps.length := by rw [← HNP.out]; exact hjn
          obtain ⟨b, po, hpa', -, p0, p1⟩ := (hLj.ok x (by have := HX.out; unfold itF at this; exact List.mem_of_find?_eq_some this)).rp.part hin
          rw [← HPA.out] at hpa'
          subst hpa'
          obtain ⟨pj, hpj⟩ : ∃ p, p = x.ps.getD j default := ⟨_, rfl⟩
          have hfn := HOK2.out.rp.fine.at_ hin
          rw [← hpj] at p0 p1 hfn
          obtain ⟨nm, qt⟩ := pj
          simp only at p0 p1 hfn
          unfold encStr at p0
          have hks : (x.ps.map (·.1)).getD j [] = nm := by
            rw [List.getD_eq_getElem?_getD, List.getElem?_map, List.getElem?_eq_getElem hin]
            rw [List.getD_eq_getElem?_getD, List.getElem?_eq_getElem hin] at hpj
            simp only [Option.map_some, Option.getD_some] at hpj ⊢
            rw [← hpj]
          have hkm : nm ∈ kidsX X c := by
            rw [HKS.out, ← hks, List.getD_eq_getElem?_getD, List.getElem?_eq_getElem (by rw [List.length_map]; exact hin)]
            exact List.getElem_mem _
          have HTK : Hid ((x.ps.map (·.1)).take (j + 1) = (x.ps.map (·.1)).take j ++ [nm]) := Lib.hid (by
            rw [List.take_succ_eq_append_getElem (by rw [List.length_map]; exact hin)]
            congr 2
            rw [← hks, List.getD_eq_getElem?_getD, List.getElem?_eq_getElem (by rw [List.length_map]; exact hin)]; rfl)
          have HKM := Lib.hid hkm
          have HNM := Lib.hid (HV.out c HC.out nm hkm)
          have hpc := pair_cells wr (.string ⟨nm.toArray⟩) (.int .i64 qt)
          have hga : wr.grownBy (wr.alloc (.cells #[.string ⟨nm.toArray⟩, .int .i64 qt] 45)) (some mo) := World.grownBy_alloc _ _ _
          obtain ⟨q0, q1⟩ := pair_at hpc
          have hBj : B ≤ wr.heap.size := Nat.le_trans hB (Nat.le_trans HG2.out.size hGj.size)
          have hLa := hLj.grown hga hBj
          have hMa : MF (wr.alloc (.cells #[.string ⟨nm.toArray⟩, .int .i64 qt] 45)) mo Nj (.int .i64 0) (oV sj) := hMj.below ((Below.refl wr.heap.size wr).alloc (Nat.le_refl _) _) hMj.lt
          have cl2 := hLa.cl
          have hzj : zc (codes X) sj ≤ zc (codes X) s1 := zc_le fun y _ hy => Classical.byContradiction fun h => hmj y h hy
          have hcall := Lib.hid (ih sj nm Nj _ hLa hMa hbj HNM.out (by omega) (by omega) (by rw [World.size_alloc]; omega))
          have HGA := Lib.hid (hGj.trans hga)
          have HMJ := Lib.hid hmj
          have HKJ := Lib.hid hkj
          have HWJ := Lib.hid hwj
          have HNJ := Lib.hid hNj
          have HOJ := Lib.hid hoj
          have HLA := Lib.hid hLa
          have HBJ := Lib.hid hBj
          rw [hfv] at cl2
          clear hfn hks hkm hin hpj hMj hbj hmj hkj hwj hNj hGj hLj hoj hpc hga hLa hMa hBj hzj
          go_wp2_with (fail)
          go_at_call 31
          refine hcall.out.mono ?_
          rintro e w3 ⟨rfl, hgr, s', N', hM', hb', hm', hc', hw', hN', ho'⟩
          have hL3 := HLA.out.grown hgr (by rw [World.size_alloc]; have := HBJ.out; omega)
          have HS9 : Hid (SR X W2 B bo ba bl mo ma n fv s1 c (N + 1) (x.ps.map (·.1)) (j + 1) w3) := Lib.hid ⟨s', N', hM', hb', fun y hy => hm' y (HMJ.out y hy), fun p hp => by
              rw [HTK.out] at hp
              rcases List.mem_append.1 hp with h | h
              · exact hm' p (HKJ.out p h)
              · rw [List.mem_singleton.1 h]; exact hc',
            fun y hy => by
              rcases hw' y hy with h | ⟨h, hk⟩
              · rcases HWJ.out y h with h | ⟨h, hk⟩
                · exact Or.inl h
                · exact Or.inr ⟨h, fun p hp => hm' p (hk p hp)⟩
              · refine Or.inr ⟨?_, hk⟩
                rcases h with h | h
                · rw [h]; exact Way.one HKM.out
                · exact way_trans (Way.one HKM.out) h,
            by have := HNJ.out; omega, HGA.out.trans hgr, hL3, fun y hy => (ho' y hy).trans (HOJ.out y hy)⟩
          clear hgr hM' hb' hm' hc' hw' hN' ho' hL3 hcall q0 q1 cl2 p0 p1
          go_wp2_with (fail)
          go_roundw
          case rel => exact ⟨j + 1, rfl, by omega, HS9⟩
          case measure => simp only [intOf]; omega
        · have t1 : decide ((j : Int) < (np : Int)) = false := by simp; omega
          obtain ⟨sj, Nj, hMj, hbj, hmj, hkj, hwj, hNj, hGj, hLj, hoj⟩ := HR.out
          have ht : (x.ps.map (·.1)).take j = kidsX X c := by
            rw [HKS.out, List.take_of_length_le (by rw [List.length_map, ← HNP.out]; omega)]
          rw [ht] at hkj
          have HFIN : Hid (SeenPost X W mo N s c wr) := Lib.hid ⟨HG2.out.trans hGj, sj, Nj, hMj, hbj, fun y hy => hmj y (HMO1.out y hy), hmj c (by rw [HSF.out]; decide), fun y hy => by
              rcases hwj y hy with h | ⟨h, hk⟩
              · rcases HNW1.out y h with h | h
                · exact Or.inl h
                · subst h; exact Or.inr ⟨Or.inl rfl, hkj⟩
              · exact Or.inr ⟨Or.inr h, hk⟩,
            by
              have hzj : zc (codes X) sj ≤ zc (codes X) s1 := zc_le fun y _ hy => Classical.byContradiction fun h => hmj y h hy
              omega, fun y hy => (hoj y hy).trans (HOF1.out y hy)⟩
          clear hMj hbj hmj hkj hwj hNj hGj hLj hoj ht
          go_wp2_with (fail)
          go_end0
          exact ⟨rfl, HFIN.out⟩
    · have hgt : decide (1 < sc + 1) = true := by simp; omega
      have hgt2 : decide (0 < sc) = true := by simp; omega
      go_wp2_with (at_mapUpdate; refine wpList_put_mf rfl _ _ _ 55 rfl Tryz.underlying55 HM.out (by omega) c (.int .i64 (sc + 1)) rfl rfl rfl HCL.out (by have := HSN.out; simpa using this) ?_; intro W2 hM2 hg2; rw [E1.out] at hM2; have hL2 := HL.out.grown hg2 hB; have co2 := hL2.co; have hlk2 := hM2.look Tryz.underlying55 (zeroInt _) c HCL.out; rw [show oV s1 c = .int .i64 (sc + 1) by unfold oV; rw [HSF.out]] at hlk2; have HM2 := Lib.hid hM2; have HG2 := Lib.hid hg2; clear hM2 hg2 hL2)
      refine bodyPost_ret (results_none rfl _ _ _) rfl ?_
      refine ⟨rfl, HG2.out, s1, N + 1, HM2.out, HBD1.out, HMO1.out, by rw [HSF.out]; exact HSN.out, fun y hy => Or.inl ?_, ?_, HOF1.out⟩
      · rcases HNW1.out y hy with h | h
        · exact h
        · rw [h, ← HSC.out]; exact h0
      · have hzz : zc (codes X) s1 ≤ zc (codes X) s := zc_le fun y _ hy => Classical.byContradiction fun h => HMO1.out y h hy
        omega
end Go.Proofs.YthlmnoggeggpkaaGreat
