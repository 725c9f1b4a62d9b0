/- storemanref07.deep: its walk. -/
import Derived.Test.YthlmnoggeggpkaaGreatKSpec
import Derived.Deep.DeepCutAuto
namespace Go.Proofs.YthlmnoggeggpkaaGreat
open Go.RowKit

theorem valO_take {o : List UInt8 → Nat} {ks : List (List UInt8)} {k : Nat} (hk : k < ks.length) : valO o (ks.take (k + 1)) = goV o (valO o (ks.take k)) (ks.getD k []) := by
  rw [valO_eq, valO_eq, List.take_succ_eq_append_getElem hk, List.foldl_append, List.getD_eq_getElem?_getD, List.getElem?_eq_getElem hk]
  rfl
theorem valO_stop {o : List UInt8 → Nat} {ks : List (List UInt8)} {k : Nat} (hk : k < ks.length) (h0 : o (ks.getD k []) = 0) : valO o ks = 0 := by
  have h1 : valO o (ks.take (k + 1)) = 0 := by
    rw [valO_take hk]
    unfold goV
    rw [if_pos (Or.inr h0)]
  have e : ks = ks.take (k + 1) ++ ks.drop (k + 1) := (List.take_append_drop _ _).symm
  rw [valO_eq] at h1 ⊢
  rw [e, List.foldl_append, h1, goV_zero]
theorem valO_go {o : List UInt8 → Nat} {ks : List (List UInt8)} {k m : Nat} (hk : k < ks.length) (hm : m = valO o (ks.take k)) (h0 : m ≠ 0) (h1 : o (ks.getD k []) ≠ 0) : max m (o (ks.getD k []) + 1) = valO o (ks.take (k + 1)) := by
  rw [valO_take hk, ← hm]
  unfold goV
  rw [if_neg (fun h => h.elim h0 h1)]

set_option maxHeartbeats 4000000 in
set_option maxRecDepth 100000 in
theorem rDeep_any (B : Nat) (a : Option Addr) (n cp : Nat) (X : List It) (w : World) (hr : RI B w a n cp X) (hB : B ≤ w.heap.size) (hd : (codes X).Nodup) (hV : ∀ c ∈ codes X, ∀ p ∈ kidsX X c, p ∈ codes X) (hl : X.length ≤ 60) :
    Calls Tryz.prog 42 #[.slice a n cp] w fun e w' => ∃ (g : Nat) (o : List UInt8 → Nat), e = .returned (.slice (some ⟨g, 0, none⟩) n n) ∧ OI w' g n (fun i => (o (cd X i) : Int)) ∧ w.heap.size ≤ g ∧ Below w.heap.size w w' ∧ ∀ c ∈ codes X, o c = (hgt (kidsX X) X.length c).getD 0 := by
  have hle := hr.le
  have hmx := hr.mx
  have hln := hr.len
  obtain ⟨cs, hmk, hoi⟩ := makeI n (by omega) w
  have HR := Lib.hid (hr.mono hB)
  have HD := Lib.hid hd
  have HV := Lib.hid hV
  have HLN := Lib.hid hln
  have HL := Lib.hid hl
  have hn60 : n ≤ 60 := by omega
  have hbd : Below w.heap.size w (w.alloc (.cells cs 3)) := (Below.refl _ w).alloc (Nat.le_refl _) _
  obtain ⟨W1, hW1⟩ : ∃ W, W = w.alloc (.cells cs 3) := ⟨_, rfl⟩
  rw [← hW1] at hmk hoi hbd
  obtain ⟨g, hg⟩ : ∃ g, g = w.heap.size := ⟨_, rfl⟩
  have hg2 := hg
  rw [← hg] at hmk hoi
  have HRD : Hid (RD X w g n 0 0 (fun _ => 0) W1) := Lib.hid ⟨hoi, Snd.zero, Cmp.zero _ _, fun j hj => absurd hj (Nat.not_lt_zero _), hbd⟩
  have HG := Lib.hid hg
  clear hr hd hV hln hoi hbd hg hg2 hl hW1
  go_enter Tryz.func42, Tryz.ntmps42
  go_wp2_with (fail)
  go_loopw [4] (fun s4 wr => ∃ (r : Nat) (o : List UInt8 → Nat), s4 = .int .i64 r ∧ r ≤ n + 1 ∧ Hid (RD X w g n r 0 o wr)) (fun s4 _ => n + 1 - (intOf s4).toNat)
  case atStart => exact ⟨0, _, rfl, by omega, HRD⟩
  case round =>
    obtain ⟨r, o, rfl, hr, HO⟩ := hrel
    by_cases hrn : r ≤ n
    · have t1 : decide ((r : Int) ≤ (n : Int)) = true := by simp; omega
      have f1 : IntKind.i64.wrap ((r : Int) + 1) = ((r + 1 : Nat) : Int) := by rw [wrap_in (by omega) (by omega)]; omega
      go_wp2_with (fail)
      go_loopw [5] (fun s5 wr => ∃ (i : Nat) (o : List UInt8 → Nat), s5 = .int .i64 i ∧ i ≤ n ∧ Hid (RD X w g n r i o wr)) (fun s5 _ => n - (intOf s5).toNat)
      case atStart => exact ⟨0, o, rfl, by omega, HO⟩
      case round =>
        obtain ⟨i, o, rfl, hi, HO⟩ := hrel
        by_cases hin : i < n
        · have t2 : decide ((i : Int) < (n : Int)) = true := by simp; omega
          have i0 : (0 : Int) ≤ (i : Int) := by omega
          have i1 : (i : Int) < (n : Int) := by omega
          have f2 : IntKind.i64.wrap ((i : Int) + 1) = ((i + 1 : Nat) : Int) := by rw [wrap_in (by omega) (by omega)]; omega
          obtain ⟨w2, rfl⟩ : ∃ z, z = wr := ⟨_, rfl⟩
          have hRI := HR.out.below HO.out.2.2.2.2
          obtain ⟨b, po, rfl, hbB, hok, c0, c1, c2, c3⟩ := hRI.item hin
          have hks := kids_cd HD.out (i := i) (by have := HLN.out; omega)
          obtain ⟨x, hx⟩ : ∃ x, x = X.getD i default := ⟨_, rfl⟩
          rw [← hx] at hok c0 c1 c2 c3 hks
          have HKS := Lib.hid hks
          have HOK := Lib.hid hok
          have HRI := Lib.hid hRI
          have hmp := hok.rp.mx
          have hlp := hok.rp.le
          obtain ⟨np, hnp⟩ : ∃ k, k = x.ps.length := ⟨_, rfl⟩
          obtain ⟨pa, hpa⟩ : ∃ k, k = x.pa := ⟨_, rfl⟩
          rw [← hnp] at hlp
          rw [← hnp, ← hpa] at c2
          have HNP := Lib.hid hnp
          have HPA := Lib.hid hpa
          have cst := HO.out.1.cell hin
          have cfz := HO.out.1.frozen i
          clear hks hok hRI hnp hpa hx c0 c1 c3
          go_wp2_with (fail)
          go_loopw [6, 7] (fun s6 s7 wr => ∃ (k m : Nat), s7 = .int .i64 k ∧ s6 = .int .i64 m ∧ k ≤ np ∧ m ≠ 0 ∧ wr = w2 ∧ Hid (m = valO o ((x.ps.map (·.1)).take k))) (fun _ s7 _ => np - (intOf s7).toNat)
          case atStart => exact ⟨0, 1, rfl, rfl, by omega, by omega, rfl, Lib.hid rfl⟩
          case round =>
            obtain ⟨k, m, rfl, rfl, hk, hm0, rfl, HMV⟩ := hrel
            by_cases hkn : k < np
            · have t3 : decide ((k : Int) < (np : Int)) = true := by simp; omega
              have k0 : (0 : Int) ≤ (k : Int) := by omega
              have k1 : (k : Int) < (np : Int) := by omega
              have f3 : IntKind.i64.wrap ((k : Int) + 1) = ((k + 1 : Nat) : Int) := by rw [wrap_in (by omega) (by omega)]; omega
              have hkx : k < x.ps.length := by rw [← HNP.out]; exact hkn
              obtain ⟨b2, po2, hpa', -, p0, p1⟩ := HOK.out.rp.part hkx
              rw [← HPA.out] at hpa'
              subst hpa'
              obtain ⟨nm, hnm⟩ : ∃ z, z = (x.ps.getD k default).1 := ⟨_, rfl⟩
              have hnl := (HOK.out.rp.fine.at_ hkx).1
              rw [← hnm] at p0 hnl
              unfold encStr at p0
              have hksn : (x.ps.map (·.1)).getD k [] = nm := by
                rw [List.getD_eq_getElem?_getD, List.getElem?_map, List.getElem?_eq_getElem hkx, hnm, List.getD_eq_getElem?_getD, List.getElem?_eq_getElem hkx]
                rfl
              have hnV : nm ∈ codes X := HV.out (cd X i) (cd_mem (by have := HLN.out; omega)) nm (by
                rw [HKS.out, ← hksn, List.getD_eq_getElem?_getD, List.getElem?_eq_getElem (by rw [List.length_map]; exact hkx)]
                exact List.getElem_mem _)
              obtain ⟨j, hj, hfj, hcj⟩ := there hnV
              have hfind := Lib.hid (Find_any g (some ⟨b, po, none⟩) n cp X nm wr (by rw [HG.out]; exact HRI.out) (by rw [HG.out]; exact HO.out.2.2.2.2.size) hnl)
              have cj := HO.out.1.cell (i := j) (by have := HLN.out; omega)
              rw [hcj] at cj
              rw [hfj] at hfind
              have hle6 := HO.out.2.1.le HV.out hnV HL.out
              have j0 : (0 : Int) ≤ (j : Int) := by omega
              have j1 : (j : Int) < (n : Int) := by have := HLN.out; omega
              obtain ⟨d, hdv⟩ : ∃ d, d = o nm := ⟨_, rfl⟩
              rw [← hdv] at cj hle6
              have HDV := Lib.hid hdv
              have HKN := Lib.hid hksn
              have HKX := Lib.hid hkx
              have f4 : IntKind.i64.wrap ((d : Int) + 1) = ((d + 1 : Nat) : Int) := by rw [wrap_in (by omega) (by omega)]; omega
              clear hkx hnl hksn hnV hfj hcj hdv hnm p1
              go_wp2_with (fail)
              go_at_call 40
              refine hfind.out.mono ?_
              rintro e w3 ⟨rfl, rfl⟩
              by_cases hd0 : d = 0
              · have e1 : ((d : Int) == 0) = true := by simp; omega
                have hs9 := Lib.hid (HO.out.step HLN.out hin HD.out HV.out (by rw [HG.out]; exact Nat.le_refl _) (v := 0) (by
                  rw [HKS.out, valO_stop (k := k) (by rw [List.length_map]; exact HKX.out) (by rw [HKN.out, ← HDV.out]; exact hd0)]))
                clear hd0 hfind
                go_wp2_with (fail)
                go_roundw
                case rel => exact ⟨i + 1, _, rfl, by omega, Lib.hid hs9.out⟩
                case measure => simp only [intOf]; omega
              · have e1 : ((d : Int) == 0) = false := by simp; omega
                have hs9 := Lib.hid (valO_go (o := o) (ks := x.ps.map (·.1)) (by rw [List.length_map]; exact HKX.out) HMV.out hm0 (by rw [HKN.out, ← HDV.out]; exact hd0))
                have hs8 := hs9.out
                rw [HKN.out, ← HDV.out] at hs8
                have HS8 := Lib.hid hs8
                clear hs8 hs9 hd0 hfind
                go_wp2_with (fail)
                go_roundw
                case rel =>
                  refine ⟨k + 1, max m (d + 1), rfl, ?_, by omega, by omega, trivial, HS8⟩
                  congr 1
                  split <;> omega
                case measure => simp only [intOf]; omega
            · have t3 : decide ((k : Int) < (np : Int)) = false := by simp; omega
              have hs9 := Lib.hid (HO.out.step HLN.out hin HD.out HV.out (by rw [HG.out]; exact Nat.le_refl _) (v := m) (by
                rw [HMV.out, HKS.out, List.take_of_length_le (by rw [List.length_map, ← HNP.out]; omega)]))
              go_wp2_with (fail)
              go_roundw
              case rel => exact ⟨i + 1, _, rfl, by omega, hs9⟩
              case measure => simp only [intOf]; omega
        · have t2 : decide ((i : Int) < (n : Int)) = false := by simp; omega
          have hin2 : i = n := by omega
          have hn9 := Lib.hid (RD.next (by have h := HO.out; rw [hin2] at h; exact h) HLN.out)
          clear hin2
          go_wp2_with (fail)
          go_roundw
          case rel => exact ⟨r + 1, o, rfl, by omega, hn9⟩
          case measure => simp only [intOf]; omega
    · have t1 : decide ((r : Int) ≤ (n : Int)) = false := by simp; omega
      have hfin := Lib.hid (fun c hc => rounds_end (kids := kidsX X) (V := codes X) HV.out (o := o) (r := r) (by unfold codes; rw [List.length_map]; have := HLN.out; omega) HO.out.2.1 HO.out.2.2.1 (c := c) hc)
      go_wp2_with (fail)
      go_ret
      exact ⟨g, o, rfl, HO.out.1, by rw [HG.out]; exact Nat.le_refl _, HO.out.2.2.2.2, fun c hc => by have h := hfin.out c hc; unfold codes at h; rw [List.length_map] at h; exact h⟩
end Go.Proofs.YthlmnoggeggpkaaGreat
