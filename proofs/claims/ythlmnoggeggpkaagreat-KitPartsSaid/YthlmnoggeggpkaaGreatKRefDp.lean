/- storemanref07.end, storemanref07.Parts: their walks. storemanref07.Parts, storemanref07.Deep: their walks. storemanref07.Within: its walk. storemanref07.Deep: its walk. -/
import Derived.Test.YthlmnoggeggpkaaGreatKZ
import Derived.Test.YthlmnoggeggpkaaGreatKRefCheck
import Derived.Test.YthlmnoggeggpkaaGreatJRef
namespace Go.Proofs.YthlmnoggeggpkaaGreat
open Go.RowKit

theorem join_merge {A B S T : List Pt} (hA : joinL [] A = some S) (hB : joinL [] B = some T) : joinL [] (S ++ T) = joinL [] (A ++ B) := by
  have uS := joinL_up Up.nil hA
  have uT := joinL_up Up.nil hB
  refine joinL_eq (fun k => ?_) (fun k => ?_) ⟨fun _ r hr => ?_, fun _ r hr => ?_⟩
  · rw [tot_append, tot_append, uS.tot_eq, uT.tot_eq, joinL_sum Up.nil hA, joinL_sum Up.nil hB]
    show (0 + _) + (0 + _) = _
    omega
  · rw [List.map_append, List.mem_append, List.map_append, List.mem_append, joinL_keys hA, joinL_keys hB]
    simp
  · rcases List.mem_append.1 hr with hr | hr
    · exact ((joinL_iff Up.nil).1 (by rw [hA]; rfl)).1 r hr
    · exact ((joinL_iff Up.nil).1 (by rw [hB]; rfl)).1 r hr
  · rcases List.mem_append.1 hr with hr | hr
    · exact uS.2 r hr
    · exact uT.2 r hr
theorem leaves_pos {X : List It} (hs : Sound X) (k : Nat) {c : List UInt8} (hc : c ∈ codes X) {q : Int} (h1 : 1 ≤ q) : ∀ p ∈ leaves X k c q, 0 ≤ p.2 := fun p hp => by
  have := (leaves_ge hs k hc h1 p hp).1
  omega
theorem part_ge {q r : Int} (h1 : 1 ≤ q) (h2 : 1 ≤ r) : 1 ≤ q * r ∧ q ≤ q * r := by
  have := Int.mul_le_mul_of_nonneg_left h2 (show 0 ≤ q by omega)
  omega
/-- Where a part is too much, the whole is. -/
theorem end_sub {X : List It} (hs : Sound X) {k : Nat} {c : List UInt8} (hc : c ∈ codes X) (h0 : (partsX X c).length ≠ 0) {q : Int} (h1 : 1 ≤ q) {p : Pt} (hp : p ∈ partsX X c) (h : joinL [] (leaves X k p.1 (q * p.2)) = none) : joinL [] (leaves X (k + 1) c q) = none := by
  cases hw : joinL [] (leaves X (k + 1) c q) with
  | none => rfl
  | some R =>
    obtain ⟨f1, f2⟩ := (joinL_iff Up.nil).1 (show (joinL [] (leaves X (k + 1) c q)).isSome = true by rw [hw]; rfl)
    have h3 : (joinL [] (leaves X k p.1 (q * p.2))).isSome = true := (joinL_iff Up.nil).2 ⟨fun r hr => f1 r (by rw [leaves_kit h0]; exact List.mem_flatMap.2 ⟨p, hp, hr⟩), fun s => by
      have h4 := f2 s
      rw [leaves_kit h0] at h4
      have h5 := tot_flat s (fun p => leaves X k p.1 (q * p.2)) (L := partsX X c) (fun x hx => leaves_pos hs k (hs.parts hc x hx).1 (part_ge h1 (hs.parts hc x hx).2.1).1) hp
      have h6 : tot s (leaves X k p.1 (q * p.2)) ≤ tot s (List.flatMap (fun p => leaves X k p.1 (q * p.2)) (partsX X c)) := h5
      omega⟩
    rw [h] at h3
    cases h3
theorem end_over {X : List It} (hs : Sound X) {k : Nat} {c : List UInt8} (hc : c ∈ codes X) (h0 : (partsX X c).length ≠ 0) {d : Nat} (hd : hgt (kidsX X) (k + 1) c = some d) {q : Int} (h1 : 1 ≤ q) (h2 : q ≤ mostA) {p : Pt} (hp : p ∈ partsX X c) (h : timesA q p.2 = none) : joinL [] (leaves X (k + 1) c q) = none := by
  obtain ⟨g1, g2, g3⟩ := hs.parts hc p hp
  rw [times_fine h1 g2 g3 h2] at h
  have hb : mostA < q * p.2 := by
    by_cases hle : q * p.2 ≤ mostA
    · rw [if_pos hle] at h; cases h
    · omega
  obtain ⟨d', hd'⟩ := hgt_parts hd p hp
  obtain ⟨r, hr⟩ := leaves_some (X := X) k (q := q * p.2) hd'
  have h3 := (leaves_ge hs k g1 (part_ge h1 g2).1 r hr).1
  exact joinL_big Up.nil (p := r) (by rw [leaves_kit h0]; exact List.mem_flatMap.2 ⟨p, hp, hr⟩) (by omega)
theorem flat_take {α β : Type} [Inhabited α] (g : α → List β) {L : List α} {j : Nat} (hj : j < L.length) : (L.take (j + 1)).flatMap g = (L.take j).flatMap g ++ g (L.getD j default) := by
  rw [List.take_succ_eq_append_getElem hj, List.flatMap_append, List.getD_eq_getElem?_getD, List.getElem?_eq_getElem hj]
  simp
theorem flat_more {α β : Type} (g : α → List β) (L : List α) (j : Nat) : L.flatMap g = (L.take j).flatMap g ++ (L.drop j).flatMap g := by
  rw [← List.flatMap_append, List.take_append_drop]
theorem RV.two {B : Nat} {W : World} {a0 a1 : Option Addr} {n0 n1 c0 c1 : Nat} {P0 P1 : List Pt} (h0 : RP B W a0 n0 c0 P0) (h1 : RP B W a1 n1 c1 P1) (hB : B ≤ W.heap.size) :
    RV (W.heap.size + 1) (W.alloc (.cells #[.slice a0 n0 c0, .slice a1 n1 c1] 26)) (some ⟨W.heap.size, 0, none⟩) 2 2 [⟨a0, n0, c0, P0⟩, ⟨a1, n1, c1, P1⟩] := by
  refine ⟨rfl, Nat.le_refl _, by omega, fun _ => ⟨W.heap.size, 0, rfl, by omega, fun i hi => ?_⟩, fun i hi => ?_⟩
  · rcases (show i = 0 ∨ i = 1 by omega) with rfl | rfl <;> simp only [World.cell?, (Go.MapKept.heap_alloc W _).1] <;> rfl
  · rcases (show i = 0 ∨ i = 1 by omega) with rfl | rfl
    · exact (h0.below ((Below.refl _ W).alloc hB _)).mono (by omega)
    · exact (h1.below ((Below.refl _ W).alloc hB _)).mono (by omega)
theorem op_one {base : Nat} {W : World} (hb : base ≤ W.heap.size) (c : List UInt8) (q : Int) : OP base (W.alloc (.cells #[.string ⟨c.toArray⟩, .int .i64 q] 45)) (.slice (some ⟨W.heap.size, 0, none⟩) 1 1) [(c, q)] :=
  ⟨rfl, .inr ⟨W.heap.size, 1, _, rfl, hb, heap_alloc_new _ _, Nat.le_refl _, by simp [maxLen], rfl, rfl⟩⟩
/-- What stands in the loop over the parts. -/
def ER (X : List It) (k : Nat) (q : Int) (ps : List Pt) (w : World) (g : Nat) (x : It) (v : Value) (j m : Nat) (wr : World) : Prop :=
  ∃ S, m = S.length ∧ joinL [] ((ps.take j).flatMap fun p => leaves X k p.1 (q * p.2)) = some S ∧ PS X S ∧ OP w.heap.size wr v S ∧ Below w.heap.size w wr ∧ XC wr g x

set_option maxHeartbeats 8000000 in
set_option maxRecDepth 100000 in
theorem rEnd_any (B : Nat) (a : Option Addr) (n cp : Nat) (X : List It) (hs : Sound X) (k : Nat) : ∀ (c : List UInt8) (q : Int) (w : World) (d : Nat), RI B w a n cp X → B ≤ w.heap.size → c ∈ codes X → hgt (kidsX X) k c = some d → 1 ≤ q → q ≤ mostA →
    Calls Tryz.prog 41 #[.slice a n cp, .int .i64 (fI X c), .int .i64 q] w (JoinPost w (joinL [] (leaves X k c q))) := by
  have HS := Lib.hid hs
  clear hs
  induction k with
  | zero => rintro c q w d - - - hd; cases hd
  | succ k ih =>
    intro c q w d hr hB hc hd hq1 hq2
    obtain ⟨i, hi, hfi, hci⟩ := there hc
    rw [hfi]
    have hn := hr.len
    have hle := hr.le
    have hmx := hr.mx
    have i0 : (0 : Int) ≤ (i : Int) := by omega
    have i1 : (i : Int) < (n : Int) := by omega
    obtain ⟨b, o, ha, hbB, hok, c0, c1, c2, c3⟩ := hr.item (i := i) (by omega)
    subst ha
    obtain ⟨x, hx⟩ : ∃ x, x = X.getD i default := ⟨_, rfl⟩
    have hxi : itF X c = some x := by rw [← hci, itF_cd HS.out.nd hi, hx]
    have hxc : x.code = c := by rw [hx]; exact hci
    have hpx : partsX X c = x.ps := by unfold partsX; rw [hxi]
    rw [← hx] at hok c0 c1 c2 c3
    unfold encStr at c0
    have hrp := hok.rp
    have hpl := hrp.le
    have hpm := hrp.mx
    obtain ⟨np, hnp⟩ : ∃ m, m = x.ps.length := ⟨_, rfl⟩
    rw [← hnp] at hpl c2
    obtain ⟨no, hno⟩ : ∃ m, m = x.os.length := ⟨_, rfl⟩
    rw [← hno] at c3
    obtain ⟨W1, hW1⟩ : ∃ W', W' = w.alloc (.cells #[.string ⟨x.code.toArray⟩, .int .i64 x.life, .slice x.pa np x.pc, .slice x.oa no x.oc] 43) := ⟨_, rfl⟩
    have hx1 : XC W1 w.heap.size x := ⟨by rw [hW1, hnp, hno]; exact heap_alloc_new _ _⟩
    have hb1 : Below w.heap.size w W1 := by rw [hW1]; exact (Below.refl _ w).alloc (Nat.le_refl _) _
    have HX1 := Lib.hid hx1
    have HB1 := Lib.hid hb1
    have HR := Lib.hid hr
    have HC := Lib.hid hc
    have HD := Lib.hid hd
    have HXC := Lib.hid hxc
    have HPX := Lib.hid hpx
    have HRP := Lib.hid hrp
    have HNP := Lib.hid hnp
    have HW1 := Lib.hid hW1
    have HOKX := Lib.hid (show ∀ x ∈ X, x.code.length ≤ 9223372036854775807 from fun y hy => (hr.ok y hy).code)
    clear hr hc hd hx hxi hxc hpx hrp hok hx1 hb1 hci hfi hi hbB hno hn
    go_enter Tryz.func41, Tryz.ntmps41
    by_cases h0 : np = 0
    · have e0 : ((np : Int) == 0) = true := by simp; omega
      have hj : joinL [] (leaves X (k + 1) c q) = some [(c, q)] := by
        rw [leaves_leaf (by rw [HPX.out, ← HNP.out]; exact h0)]
        show (match addA (sumAt [] c) q with | none => none | some n => joinL (setAt [] c n) []) = _
        have : addA (sumAt [] c) q = some q := by
          show addA 0 q = some q
          unfold mostA at hq2
          exact (addA_iff (by decide)).2 ⟨okA_iff.2 (by omega), by unfold mostA; omega, by omega⟩
        rw [this]
        rfl
      have HJ := Lib.hid hj
      clear h0 hj hnp
      go_upto_region 2 with (fail)
      rw [← hW1]
      obtain ⟨x0, -, x2⟩ := HX1.out.cells
      unfold encStr at x0
      rw [← HNP.out] at x2
      clear hW1 c0 c1 c2 c3
      go_wp2_with (fail)
      go_ret2
      refine ⟨HB1.out.alloc HB1.out.size _, ?_⟩
      rw [HJ.out]
      refine ⟨_, _, rfl, ?_⟩
      rw [HXC.out]
      exact op_one HB1.out.size c q
    · have e0 : ((np : Int) == 0) = false := by simp; omega
      have HK0 : Hid ((partsX X c).length ≠ 0) := Lib.hid (by rw [HPX.out, ← HNP.out]; exact h0)
      have hn8 : np ≤ 8 := by
        have h := HS.out.k8 c HC.out
        rw [kids_parts, HPX.out, List.length_map] at h
        omega
      clear h0 hnp
      go_upto_region 2 with (fail)
      rw [← hW1]
      obtain ⟨x0, -, x2⟩ := HX1.out.cells
      rw [← HNP.out] at x2
      clear hW1 c0 c1 c2 c3 x0
      go_wp2_with (fail)
      go_loopw [9, 10] (fun v s wr => ∃ (j m : Nat) (a' : Option Addr) (c' : Nat), j ≤ np ∧ s = .int .i64 j ∧ v = .slice a' m c' ∧ Hid (ER X k q x.ps w w.heap.size x (.slice a' m c') j m wr)) (fun _ s _ => np - (intOf s).toNat)
      case atStart => exact ⟨0, 0, none, 0, by omega, rfl, rfl, Lib.hid ⟨[], rfl, rfl, ps_of HS.out Up.nil (fun p hp => by cases hp), OP.nil _ _, HB1.out, HX1.out⟩⟩
      case round =>
        clear x2
        obtain ⟨j, m, a', c', hj, rfl, rfl, HE⟩ := hrel
        have hx2 := HE.out
        obtain ⟨S, hS, hjl, hps, hop, hbl, hxc⟩ := hx2
        obtain ⟨-, -, x2⟩ := hxc.cells
        rw [← HNP.out] at x2
        by_cases hlt : j < np
        · have t1 : decide ((j : Int) < (np : Int)) = true := by simp; omega
          have j0 : (0 : Int) ≤ (j : Int) := by omega
          have j1 : (j : Int) < (np : Int) := by omega
          have f1 : IntKind.i64.wrap ((j : Int) + 1) = ((j + 1 : Nat) : Int) := by rw [wrap_in (by omega) (by omega)]; omega
          obtain ⟨pb, po, hpa, hpB, p0, p1⟩ := (HRP.out.below (hbl.mono hB)).part (i := j) (by rw [← HNP.out]; exact hlt)
          obtain ⟨pj, hpj⟩ : ∃ p, p = x.ps.getD j default := ⟨_, rfl⟩
          have hpm2 : pj ∈ partsX X c := by rw [HPX.out, hpj, List.getD_eq_getElem?_getD, List.getElem?_eq_getElem (by rw [← HNP.out]; exact hlt)]; exact List.getElem_mem _
          rw [← hpj] at p0 p1
          obtain ⟨g1, g2, g3⟩ := HS.out.parts HC.out pj hpm2
          obtain ⟨d', hd'⟩ := hgt_parts HD.out pj hpm2
          have hov := fun h => end_over HS.out HC.out HK0.out HD.out hq1 hq2 hpm2 h
          have hsb := fun h => end_sub (k := k) HS.out HC.out HK0.out hq1 hpm2 h
          have hge := part_ge hq1 g2
          have htk := flat_take (fun p => leaves X k p.1 (q * p.2)) (L := x.ps) (j := j) (by rw [← HNP.out]; exact hlt)
          rw [← hpj] at htk
          obtain ⟨nm, qt⟩ := pj
          simp only at p0 p1 g1 g2 g3 hd' hov hsb hge htk
          unfold encStr at p0
          rw [hpa] at x2
          have HOV := Lib.hid hov
          have HSB := Lib.hid hsb
          have HTK := Lib.hid htk
          have HPA := Lib.hid hpa
          have HKD := Lib.hid hd'
          have HNM := Lib.hid g1
          have HJL := Lib.hid hjl
          have HPS := Lib.hid hps
          have HOP := Lib.hid hop
          have HBL := Lib.hid hbl
          have HXCC := Lib.hid hxc
          have HSM := Lib.hid hS
          have hnl := code_le HOKX.out g1
          have HFI := Lib.hid (fun w' (hb : Below w.heap.size w w') => Find_any B _ n cp X nm w' (HR.out.below (hb.mono hB)) (Nat.le_trans hB hb.size) hnl)
          obtain ⟨ti, hti⟩ : ∃ t, t = fI X nm := ⟨_, rfl⟩
          have HTI := Lib.hid hti
          have HTM := Lib.hid (fun w => rTimes_any q qt w)
          have HGE := Lib.hid hge
          clear hpm2 hpj hov hsb htk hpa hd' g1 hjl hps hop hbl hxc hS hnl hge hpB
          cases hT : timesA q qt with
          | none =>
            have HNO := Lib.hid (HOV.out hT)
            rw [hT] at HTM
            have HTM : Hid (∀ w, Calls Tryz.prog 68 #[.int .i64 q, .int .i64 qt] w fun e w' => e = .returned (.tuple #[.int .i64 0, .bool false]) ∧ w = w') := HTM
            clear hT
            go_wp2_with (first | (go_at_call 68; refine (HTM.out _).mono ?_; rintro e w9 ⟨rfl, rfl⟩))
            go_ret2
            refine ⟨HBL.out, ?_⟩
            rw [HNO.out]
            rfl
          | some n' =>
            have hn' : n' = q * qt ∧ n' ≤ mostA := by
              have h := hT
              rw [times_fine hq1 g2 g3 hq2] at h
              by_cases hle : q * qt ≤ mostA
              · rw [if_pos hle] at h; cases h; exact ⟨rfl, hle⟩
              · rw [if_neg hle] at h; cases h
            obtain ⟨hn1, hn2⟩ := hn'
            rw [hT] at HTM
            have HTM : Hid (∀ w, Calls Tryz.prog 68 #[.int .i64 q, .int .i64 qt] w fun e w' => e = .returned (.tuple #[.int .i64 n', .bool true]) ∧ w = w') := HTM
            have HEN := Lib.hid (ih nm n' wr _ (HR.out.below (HBL.out.mono hB)) (Nat.le_trans hB HBL.out.size) HNM.out HKD.out (by rw [hn1]; exact HGE.out.1) hn2)
            have HFW := Lib.hid (HFI.out wr HBL.out)
            have HNE := Lib.hid hn1
            rw [← hti] at HFW HEN
            rw [← hn1] at HSB HTK
            clear hT hn1 hn2 hti
            go_wp2_with (first | (go_at_call 68; refine (HTM.out _).mono ?_; rintro e w9 ⟨rfl, rfl⟩) | (go_at_call 40; refine HFW.out.mono ?_; rintro e w9 ⟨rfl, rfl⟩))
            go_at_call 41
            refine HEN.out.mono ?_
            rintro e w3 ⟨hb3, hpost⟩
            have HB3 := Lib.hid (HBL.out.trans (hb3.mono HBL.out.size))
            cases hU : joinL [] (leaves X k nm n') with
            | none =>
              have HNO := Lib.hid (HSB.out hU)
              rw [hU] at hpost
              obtain rfl := hpost
              clear hU hb3 HEN
              go_wp2_with (fail)
              go_ret2
              refine ⟨HB3.out, ?_⟩
              rw [HNO.out]
              rfl
            | some S3 =>
              rw [hU] at hpost
              obtain ⟨a3, c3, rfl, hop3⟩ := hpost
              have hps3 : PS X S3 := ps_of HS.out (joinL_up Up.nil hU) (fun p hp => by
                have h1 := (joinL_keys hU p.1).1 (List.mem_map.2 ⟨p, hp, rfl⟩)
                rcases h1 with h1 | h1
                · cases h1
                · obtain ⟨r, hr, e⟩ := List.mem_map.1 h1
                  rw [← e]
                  exact (leaves_ge HS.out k HNM.out (by rw [HNE.out]; exact HGE.out.1) r hr).2.1)
              have hop1 := HOP.out.below hb3
              rw [HSM.out] at hop1
              have hf1 := fine_ps HOKX.out HPS.out
              have hf3 := fine_ps HOKX.out hps3
              have hrp1 := hop1.rp2 hf1
              rw [← HSM.out] at hrp1
              obtain ⟨m3, hm3⟩ : ∃ z, z = S3.length := ⟨_, rfl⟩
              have hrp3 := hop3.rp2 hf3
              rw [← hm3] at hrp3 ⊢
              have hrv := RV.two hrp1 hrp3 (Nat.le_refl _)
              have hjm := join_merge HJL.out hU
              rw [← HTK.out] at hjm
              have hsz : (flatV [⟨a', m, c', S⟩, ⟨a3, m3, c3, S3⟩]).length ≤ 1048576 := by
                have h1 := HPS.out.len
                have h2 := hps3.len
                have h3 := HS.out.len
                simp [flatV]
                omega
              have hrj := rJoin_any _ _ _ _ _ _ hrv (by rw [World.size_alloc]; exact Nat.le_refl _) hsz
              have hfl : flatV [⟨a', m, c', S⟩, ⟨a3, m3, c3, S3⟩] = S ++ S3 := by simp [flatV]
              rw [hfl, hjm] at hrj
              have HRJ := Lib.hid hrj
              have HX3 := Lib.hid (HXCC.out.below hb3 HXCC.out.lt)
              have HBA := Lib.hid (HB3.out.alloc HB3.out.size (.cells #[.slice a' m c', .slice a3 m3 c3] 26))
              have HXA := Lib.hid (HX3.out.below ((Below.refl w3.heap.size w3).alloc (Nat.le_refl _) (.cells #[.slice a' m c', .slice a3 m3 c3] 26)) HX3.out.lt)
              have HPS3 := Lib.hid hps3
              clear hU hb3 HEN hop1 hf1 hf3 hrp1 hrp3 hrv hjm hsz hrj hfl hop3 hps3 hm3 p0 p1 x2
              go_wp2_with (fail)
              go_at_call 69
              refine HRJ.out.mono ?_
              rintro e w4 ⟨hb4, hpost⟩
              have HB4 := Lib.hid (HBA.out.trans (hb4.mono HBA.out.size))
              have HX4 := Lib.hid (HXA.out.below hb4 HXA.out.lt)
              cases hV : joinL [] (List.flatMap (fun p => leaves X k p.1 (q * p.2)) (x.ps.take (j + 1))) with
              | none =>
                rw [hV] at hpost
                obtain rfl := hpost
                have HNO : Hid (joinL [] (leaves X (k + 1) c q) = none) := Lib.hid (by
                  rw [leaves_kit HK0.out, HPX.out, flat_more _ x.ps (j + 1)]
                  exact joinL_more hV)
                clear hV hb4 HRJ
                go_wp2_with (fail)
                go_ret2
                refine ⟨HB4.out, ?_⟩
                rw [HNO.out]
                rfl
              | some S4 =>
                rw [hV] at hpost
                obtain ⟨a4, c4, rfl, hop4⟩ := hpost
                have hps4 : PS X S4 := ps_of HS.out (joinL_up Up.nil hV) (fun p hp => by
                  have h1 := (joinL_keys hV p.1).1 (List.mem_map.2 ⟨p, hp, rfl⟩)
                  rcases h1 with h1 | h1
                  · cases h1
                  · obtain ⟨r, hr, e⟩ := List.mem_map.1 h1
                    obtain ⟨t, ht, hr⟩ := List.mem_flatMap.1 hr
                    have htp : t ∈ partsX X c := by rw [HPX.out]; exact List.mem_of_mem_take ht
                    obtain ⟨t1, t2, t3⟩ := HS.out.parts HC.out t htp
                    rw [← e]
                    exact (leaves_ge HS.out k t1 (part_ge hq1 t2).1 r hr).2.1)
                have HE4 : Hid (ER X k q x.ps w w.heap.size x (.slice a4 S4.length c4) (j + 1) S4.length w4) := Lib.hid ⟨S4, rfl, hV, hps4, hop4.mono HBA.out.size, HB4.out, HX4.out⟩
                obtain ⟨m4, hm4⟩ : ∃ z, z = S4.length := ⟨_, rfl⟩
                rw [← hm4] at HE4 ⊢
                clear hV hb4 HRJ hop4 hps4 hm4
                go_wp2_with (fail)
                go_roundw
                case rel => exact ⟨j + 1, m4, a4, c4, by omega, by go_num, rfl, HE4⟩
                case measure => simp [intOf]; omega
        · have t1 : decide ((j : Int) < (np : Int)) = false := by simp; omega
          have hfin : joinL [] (leaves X (k + 1) c q) = some S := by
            rw [leaves_kit HK0.out, HPX.out, ← hjl, List.take_of_length_le (by rw [← HNP.out]; omega)]
          have HFIN := Lib.hid hfin
          have HOP := Lib.hid hop
          have HBL := Lib.hid hbl
          have HSM := Lib.hid hS
          clear hfin hop hbl hS hjl hps hxc
          go_wp2_with (fail)
          go_ret2
          refine ⟨HBL.out, ?_⟩
          rw [HFIN.out]
          have h := HOP.out
          rw [HSM.out] at h ⊢
          exact ⟨_, _, rfl, h⟩
end Go.Proofs.YthlmnoggeggpkaaGreat
namespace Go.Proofs.YthlmnoggeggpkaaGreat
open Go.RowKit

theorem fI_out {X : List It} {c : List UInt8} (h : c ∉ codes X) : fI X c = -1 := fI_none fun j hj e => h (List.mem_map.2 ⟨_, getD_mem hj, e⟩)
set_option maxHeartbeats 4000000 in
set_option maxRecDepth 100000 in
theorem rParts_any (B : Nat) (a : Option Addr) (n cp : Nat) (X : List It) (c : List UInt8) (q : Int) (w : World) (hr : RI B w a n cp X) (hB : B ≤ w.heap.size) (hc : c.length ≤ 9223372036854775807) :
    Calls Tryz.prog 13 #[.slice a n cp, .string ⟨c.toArray⟩, .int .i64 q] w fun e w' => Below w.heap.size w w' ∧ ∃ v, e = .returned (.tuple #[v, .int .i64 (partsE X c q)]) ∧ (partsE X c q ≠ 0 → v = .slice none 0 0) ∧ (partsE X c q = 0 → ∃ a c' S, v = .slice a S.length c' ∧ endL X c q = some S ∧ PS X S ∧ OP w.heap.size w' v S) := by
  have HR := Lib.hid hr
  have HCK := Lib.hid (rCheck_any B a n cp X w hr hB)
  have HFD := Lib.hid (fun w' (hb : Below w.heap.size w w') => Find_any B a n cp X c w' (hr.below (hb.mono hB)) (Nat.le_trans hB hb.size) hc)
  have HRT := Lib.hid (fun w => rRight_any q w)
  clear hr hc
  go_enter Tryz.func13, Tryz.ntmps13
  go_wp2_with (fail)
  go_at_call 38
  refine HCK.out.mono ?_
  rintro e w1 ⟨rfl, hb1⟩
  have HB1 := Lib.hid hb1
  clear hb1
  by_cases h0 : chkE X = 0
  · rw [h0]
    have H0 := Lib.hid h0
    have HS := Lib.hid (sound_of h0)
    clear h0
    by_cases hq1 : 1 ≤ q
    · have q1 : decide (q < 1) = false := decide_eq_false (by omega)
      cases hk : okA q with
      | false =>
        rw [hk] at HRT
        have HE : Hid (partsE X c q = 2) := Lib.hid (by unfold partsE; rw [if_neg (by simp [H0.out]), if_pos (by simp [hk])])
        clear hk
        go_wp2_with (first | (go_at_call 39; refine (HRT.out _).mono ?_; rintro e w9 ⟨rfl, rfl⟩))
        go_ret2
        exact ⟨HB1.out, _, by rw [HE.out]; rfl, fun _ => rfl, fun h => by rw [HE.out] at h; cases h⟩
      | true =>
        rw [hk] at HRT
        have hkk := okA_iff.1 hk
        have HKK := Lib.hid hk
        clear hk
        by_cases hcc : c ∈ codes X
        · obtain ⟨i, hi, hfi, hci⟩ := there hcc
          have HFW := Lib.hid (HFD.out w1 HB1.out)
          rw [hfi] at HFW
          have HEN := Lib.hid (rEnd_any B a n cp X HS.out 8 c q w1 _ (HR.out.below (HB1.out.mono hB)) (Nat.le_trans hB HB1.out.size) hcc (HS.out.hgt8 hcc) hq1 (by unfold mostA; omega))
          rw [← end_leaves HS.out hcc hq1 (by unfold mostA; omega), hfi] at HEN
          have HCC := Lib.hid hcc
          have i0 : decide ((i : Int) < 0) = false := decide_eq_false (by omega)
          clear hi hfi hci hcc hkk
          go_wp2_with (first | (go_at_call 39; refine (HRT.out _).mono ?_; rintro e w9 ⟨rfl, rfl⟩) | (go_at_call 40; refine HFW.out.mono ?_; rintro e w9 ⟨rfl, rfl⟩))
          go_at_call 41
          refine HEN.out.mono ?_
          rintro e w3 ⟨hb3, hpost⟩
          have HB3 := Lib.hid (HB1.out.trans (hb3.mono HB1.out.size))
          cases hU : endL X c q with
          | none =>
            rw [hU] at hpost
            obtain rfl := hpost
            have HE : Hid (partsE X c q = 3) := Lib.hid (by unfold partsE; rw [if_neg (by simp [H0.out]), if_neg (by simp [hq1, HKK.out]), if_neg (by simp [HCC.out]), hU])
            clear hU hb3 HEN
            go_wp2_with (fail)
            go_ret2
            exact ⟨HB3.out, _, by rw [HE.out]; rfl, fun _ => rfl, fun h => by rw [HE.out] at h; cases h⟩
          | some S =>
            rw [hU] at hpost
            obtain ⟨a3, c3, rfl, hop⟩ := hpost
            have HE : Hid (partsE X c q = 0) := Lib.hid (by unfold partsE; rw [if_neg (by simp [H0.out]), if_neg (by simp [hq1, HKK.out]), if_neg (by simp [HCC.out]), hU])
            have hps : PS X S := by
              have hl := hU
              rw [end_leaves HS.out HCC.out hq1 (by have := okA_iff.1 HKK.out; unfold mostA; omega)] at hl
              refine ps_of HS.out (joinL_up Up.nil hl) fun p hp => ?_
              exact (end_mem HS.out HCC.out hq1 (by have := okA_iff.1 HKK.out; unfold mostA; omega) hU p hp).2.1
            have HPS := Lib.hid hps
            have HOP := Lib.hid (hop.mono HB1.out.size)
            have HU := Lib.hid hU
            clear hU hb3 HEN hop hps
            go_wp2_with (fail)
            go_ret2
            exact ⟨HB3.out, _, by rw [HE.out]; rfl, fun h => absurd HE.out h, fun _ => ⟨a3, c3, S, rfl, HU.out, HPS.out, HOP.out⟩⟩
        · have HFW := Lib.hid (HFD.out w1 HB1.out)
          rw [fI_out hcc] at HFW
          have HE : Hid (partsE X c q = 150) := Lib.hid (by unfold partsE; rw [if_neg (by simp [H0.out]), if_neg (by simp [hq1, HKK.out]), if_pos hcc])
          clear hcc
          go_wp2_with (first | (go_at_call 39; refine (HRT.out _).mono ?_; rintro e w9 ⟨rfl, rfl⟩) | (go_at_call 40; refine HFW.out.mono ?_; rintro e w9 ⟨rfl, rfl⟩))
          go_ret2
          exact ⟨HB1.out, _, by rw [HE.out]; rfl, fun _ => rfl, fun h => by rw [HE.out] at h; cases h⟩
    · have q1 : decide (q < 1) = true := decide_eq_true (by omega)
      have HE : Hid (partsE X c q = 2) := Lib.hid (by unfold partsE; rw [if_neg (by simp [H0.out]), if_pos (by simp [hq1])])
      clear hq1
      go_wp2_with (fail)
      go_ret2
      exact ⟨HB1.out, _, by rw [HE.out]; rfl, fun _ => rfl, fun h => by rw [HE.out] at h; cases h⟩
  · have HE : Hid (partsE X c q = chkE X) := Lib.hid (by unfold partsE; rw [if_pos h0])
    obtain ⟨r, hr⟩ : ∃ r, r = chkE X := ⟨_, rfl⟩
    rw [← hr] at h0 HE ⊢
    have e1 : (r != 0) = true := by simpa using h0
    have H0 := Lib.hid h0
    clear h0 hr
    go_wp2_with (fail)
    go_ret2
    exact ⟨HB1.out, _, by rw [HE.out]; rfl, fun _ => rfl, fun h => absurd (by rw [← HE.out]; exact h) H0.out⟩
end Go.Proofs.YthlmnoggeggpkaaGreat
namespace Go.Proofs.YthlmnoggeggpkaaGreat
open Go.RowKit

/-- A whole block of marks. -/
def BI (W : World) (g n : Nat) (f : Nat → Bool) : Prop := W.heap[g]? = some (.cells ((List.range n).map fun i => Value.bool (f i)).toArray 4 (0, 0))
theorem BI.lt {W : World} {g n : Nat} {f : Nat → Bool} (h : BI W g n f) : g < W.heap.size := (Array.getElem?_eq_some_iff.1 h).1
theorem BI.cell {W : World} {g n : Nat} {f : Nat → Bool} (h : BI W g n f) {i : Nat} (hi : i < n) : W.cell? ⟨g, i, none⟩ = some (.bool (f i)) := by
  have h' : W.heap[g]? = _ := h
  unfold World.cell?
  rw [h']
  simp [hi]
theorem BI.frozen {W : World} {g n : Nat} {f : Nat → Bool} (h : BI W g n f) (i : Nat) : W.frozen? ⟨g, i, none⟩ = false := by
  have h' : W.heap[g]? = _ := h
  simp [World.frozen?, h']
theorem BI.set {W : World} {g n : Nat} {f : Nat → Bool} (h : BI W g n f) (i : Nat) (v : Bool) : BI (W.setCell ⟨g, i, none⟩ (.bool v)) g n (setO f i v) := by
  have hb : W.heap[g]? = _ := h
  show (W.heap.modify g _)[g]? = _
  rw [Array.getElem?_modify, if_pos rfl, hb]
  simp only [Option.map_some, Option.isSome_none, Bool.false_eq_true, if_false]
  congr 2
  apply Array.ext'
  simp only [Array.toList_setIfInBounds]
  apply List.ext_getElem?
  intro k
  rw [List.getElem?_set]
  by_cases hk : k < n
  · by_cases e : i = k
    · subst e
      simp [setO, hk]
    · simp [setO, e, Ne.symm e, hk]
  · simp [hk]
    intro e1
    omega
theorem BI.block {W W' : World} {g n : Nat} {f : Nat → Bool} (h : BI W g n f) (hb : W'.heap[g]? = W.heap[g]?) : BI W' g n f := hb.trans h
theorem BI.congr {W : World} {g n : Nat} {f f' : Nat → Bool} (h : BI W g n f) (he : ∀ i, i < n → f i = f' i) : BI W g n f' := by
  unfold BI at h ⊢
  rw [h]
  congr 3
  apply List.map_congr_left
  intro i hi
  rw [he i (List.mem_range.1 hi)]
theorem infoB : (Tryz.prog.info? 4).map (fun i => (i.zero, i.size, i.bytes)) = some (some (.bool false), 1, 1) := by kernel_rfl
set_option maxRecDepth 100000 in
theorem makeB (n : Nat) (hn : n ≤ 100000) (W : World) : ∃ cs, (Instr.makeSlice 73 (.int .i64 (n : Int)) (.int .i64 (n : Int))).run Tryz.prog W = .ok (.slice (some ⟨W.heap.size, 0, none⟩) n n) (W.alloc (.cells cs 4)) ∧ BI (W.alloc (.cells cs 4)) W.heap.size n (fun _ => false) := by
  obtain ⟨i0, hi, hz0, hz1, hz2⟩ := info_parts infoB
  have hmk := run_make (P := Tryz.prog) W 73 4 i0 _ Tryz.underlying73 hi hz0 .i64 .i64 (n : Int) (n : Int) (by omega) (Int.le_refl _) (by rw [hz2]; omega) (by omega)
  rw [Int.toNat_natCast] at hmk
  refine ⟨_, hmk, ?_⟩
  unfold BI
  rw [heap_alloc_new]
  congr 2
  apply Array.ext'
  rw [hz1, Nat.mul_one]
  have h : (madeCells (Value.bool false).cells n).toList = List.replicate n (Value.bool false) := toList_madeCells_one _ _
  rw [h]
  simp [List.map_const']
/-! What is marked. -/
/-- All marked is within. -/
def MS (X : List It) (c : List UInt8) (b : List UInt8 → Bool) : Prop := b c = true ∧ ∀ s, b s = true → s ∈ codes X ∧ inX X c s
/-- So far down all is marked. -/
def CL (X : List It) (c : List UInt8) (r : Nat) (b : List UInt8 → Bool) : Prop := ∀ s ∈ codes X, inX X c s → tellX X c ≤ tellX X s + r → b s = true
theorem way_lower {X : List It} (hs : Sound X) {c s : List UInt8} (hc : c ∈ codes X) (h : Way (kidsX X) c s) : s ∈ codes X ∧ tellX X s < tellX X c := by
  induction h with
  | one hb => exact ⟨hs.kids c hc _ hb, tell_kid hs hc hb⟩
  | more _ hb ih =>
    have := tell_kid hs ih.1 hb
    exact ⟨hs.kids _ ih.1 _ hb, by omega⟩
theorem CL.zero {X : List It} (hs : Sound X) {c : List UInt8} (hc : c ∈ codes X) {b : List UInt8 → Bool} (h : b c = true) : CL X c 0 b := fun s _ hi ht => by
  rcases hi with rfl | hw
  · exact h
  · have := (way_lower hs hc hw).2
    omega
theorem CL.next {X : List It} (hs : Sound X) {c : List UInt8} (hc : c ∈ codes X) {r : Nat} {b0 b : List UInt8 → Bool} (h : CL X c r b0) (hm : ∀ s, b0 s = true → b s = true) (hk : ∀ i, i < X.length → b0 (cd X i) = true → ∀ p ∈ kidsX X (cd X i), b p = true) : CL X c (r + 1) b := fun s hsm hi ht => by
  have key : ∀ p, inX X c p → p ∈ codes X → s ∈ kidsX X p → b s = true := fun p hp hpm hsp => by
    have h1 := tell_kid hs hpm hsp
    have h2 := h p hpm hp (by omega)
    obtain ⟨i, hil, -, hci⟩ := there hpm
    exact hk i hil (by rw [hci]; exact h2) s (by rw [hci]; exact hsp)
  rcases hi with rfl | hw
  · exact hm _ (h _ hc (.inl rfl) (by omega))
  · cases hw with
    | one hb => exact key c (.inl rfl) hc hb
    | more hw hb => exact key _ (.inr hw) (way_lower hs hc hw).1 hb
theorem CL.all {X : List It} (hs : Sound X) {c : List UInt8} (hc : c ∈ codes X) {b : List UInt8 → Bool} (h : CL X c X.length b) (hm : MS X c b) : (codes X).filter b = withinL X c := by
  unfold withinL
  apply List.filter_congr
  intro s hsm
  rw [Bool.eq_iff_iff, @decide_eq_true_iff _ (Classical.propDecidable _)]
  refine ⟨fun hb => (hm.2 s hb).2, fun hi => h s hsm hi ?_⟩
  have h1 : tellX X c ≤ (codes X).length := hgt_le hs.kids hc (hs.hgt8 hc)
  have h2 : (codes X).length = X.length := by unfold codes; rw [List.length_map]
  omega
theorem MS.set {X : List It} (hs : Sound X) {c p s : List UInt8} {b : List UInt8 → Bool} (h : MS X c b) (hp : b p = true) (hk : s ∈ kidsX X p) : MS X c (setO b s true) := by
  refine ⟨?_, fun t ht => ?_⟩
  · unfold setO
    split
    · rfl
    · exact h.1
  · unfold setO at ht
    split at ht
    · rename_i e
      subst e
      obtain ⟨h1, h2⟩ := h.2 p hp
      refine ⟨hs.kids p h1 _ hk, ?_⟩
      rcases h2 with rfl | hw
      · exact .inr (.one hk)
      · exact .inr (.more hw hk)
    · exact h.2 t ht
theorem set_mono {b : List UInt8 → Bool} (s t : List UInt8) (h : b t = true) : setO b s true t = true := by
  unfold setO
  split
  · rfl
  · exact h
theorem set_self (b : List UInt8 → Bool) (s : List UInt8) : setO b s true s = true := by unfold setO; rw [if_pos rfl]
theorem BI.mark {X : List It} (hd : (codes X).Nodup) {W : World} {g n : Nat} (hn : n = X.length) {b : List UInt8 → Bool} (h : BI W g n (fun i => b (cd X i))) {i : Nat} (hi : i < n) {s : List UInt8} (hs : cd X i = s) : BI (W.setCell ⟨g, i, none⟩ (.bool true)) g n (fun i => setO b s true (cd X i)) :=
  (h.set i true).congr fun j hj => by
    unfold setO
    by_cases e : j = i
    · rw [if_pos e, if_pos (by rw [e]; exact hs)]
    · rw [if_neg e, if_neg (fun e2 => e (cd_inj hd (by omega) (by omega) (by rw [e2, hs])))]
/-- What stands in the rounds. -/
structure WR (X : List It) (c : List UInt8) (w : World) (g n r i : Nat) (b0 b : List UInt8 → Bool) (wr : World) : Prop where
  bi : BI wr g n (fun i => b (cd X i))
  ms : MS X c b
  cl : CL X c r b0
  mono : ∀ s, b0 s = true → b s = true
  kids : ∀ j, j < i → b0 (cd X j) = true → ∀ p ∈ kidsX X (cd X j), b p = true
  bel : Below w.heap.size w wr
  ge : w.heap.size ≤ g
theorem WR.mark {X : List It} (hs : Sound X) {c : List UInt8} {w wr : World} {g n r i ti : Nat} {b0 b : List UInt8 → Bool} (h : WR X c w g n r i b0 b wr) (hn : n = X.length) {p s : List UInt8} (hp : b p = true) (hk : s ∈ kidsX X p) (hti : ti < n) (hts : cd X ti = s) : WR X c w g n r i b0 (setO b s true) (wr.setCell ⟨g, ti, none⟩ (.bool true)) :=
  ⟨h.bi.mark hs.nd hn hti hts, h.ms.set hs hp hk, h.cl, fun t ht => set_mono s t (h.mono t ht), fun j hj hb q hq => set_mono s q (h.kids j hj hb q hq), h.bel.setCell (p := ⟨g, ti, none⟩) h.ge _, h.ge⟩
theorem WR.next {X : List It} {c : List UInt8} {w wr : World} {g n r i : Nat} {b0 b : List UInt8 → Bool} (h : WR X c w g n r i b0 b wr) (hk : b0 (cd X i) = true → ∀ p ∈ kidsX X (cd X i), b p = true) : WR X c w g n r (i + 1) b0 b wr :=
  ⟨h.bi, h.ms, h.cl, h.mono, fun j hj hb p hp => by
    by_cases e : j = i
    · subst e; exact hk hb p hp
    · exact h.kids j (by omega) hb p hp, h.bel, h.ge⟩
theorem WR.round {X : List It} (hs : Sound X) {c : List UInt8} (hc : c ∈ codes X) {w wr : World} {g n r : Nat} (hn : n = X.length) {b0 b : List UInt8 → Bool} (h : WR X c w g n r n b0 b wr) : WR X c w g n (r + 1) 0 b b wr :=
  ⟨h.bi, h.ms, h.cl.next hs hc h.mono (fun i hi hb => h.kids i (by omega) hb), fun _ hb => hb, fun j hj => absurd hj (Nat.not_lt_zero _), h.bel, h.ge⟩
/-- What stands in the last loop. -/
def WO (X : List It) (w : World) (g n : Nat) (b : List UInt8 → Bool) (v : Value) (i m : Nat) (wr : World) : Prop :=
  BI wr g n (fun i => b (cd X i)) ∧ m = (((codes X).take i).filter b).length ∧ wr.ownsRow w.heap.size 9 1 v m ((((codes X).take i).filter b).map encStr) ∧ Below w.heap.size w wr
theorem codes_take {X : List It} {i : Nat} (hi : i < X.length) : (codes X).take (i + 1) = (codes X).take i ++ [cd X i] := by
  unfold codes
  rw [← List.map_take, ← List.map_take, List.take_succ_eq_append_getElem hi, List.map_append]
  congr 1
  show [X[i].code] = [cd X i]
  unfold cd
  rw [List.getD_eq_getElem?_getD, List.getElem?_eq_getElem hi]
  rfl
theorem WO.skip {X : List It} {w : World} {g n : Nat} {b : List UInt8 → Bool} {v : Value} {i m : Nat} {wr : World} (h : WO X w g n b v i m wr) (hi : i < X.length) (hb : b (cd X i) = false) : WO X w g n b v (i + 1) m wr := by
  have e : ((codes X).take (i + 1)).filter b = ((codes X).take i).filter b := by
    rw [codes_take hi, List.filter_append]
    simp [hb]
  unfold WO at h ⊢
  rw [e]
  exact h
theorem WO.put {X : List It} {w : World} {g n : Nat} {b : List UInt8 → Bool} {v v' : Value} {i m : Nat} {wr w' : World} (h : WO X w g n b v i m wr) (hi : i < X.length) (hb : b (cd X i) = true) {o : Array Value} {t : TypeId}
    (ho : w'.ownsRow w.heap.size 9 1 v' (m + 1) ((((codes X).take i).filter b).map encStr ++ [encStr (cd X i)])) (hg : (wr.alloc (.cells o t)).grownBy w' v.ownBlock) : WO X w g n b v' (i + 1) (m + 1) w' := by
  have e : ((codes X).take (i + 1)).filter b = ((codes X).take i).filter b ++ [cd X i] := by
    rw [codes_take hi, List.filter_append]
    simp [hb]
  obtain ⟨h1, h2, h3, h4⟩ := h
  have hb2 : Below wr.heap.size wr (wr.alloc (.cells o t)) := (Below.refl _ wr).alloc (Nat.le_refl _) _
  have h3' := Tx.rows_below h3 hb2
  have hne : ∀ k, v.ownBlock = some k → k ≠ g := fun k hk e2 => by
    obtain ⟨cur, hc⟩ := Tx.row_is h3 hk
    have h5 : wr.heap[g]? = _ := h1
    rw [e2, h5] at hc
    injection hc with hc
    injection hc with _ hc _
    exact absurd hc (by decide)
  have hglt := BI.lt h1
  refine ⟨h1.block ((hg.block g (by rw [World.size_alloc]; omega) (fun e2 => hne g e2.symm rfl)).trans (hb2.block g hglt)), by rw [e, List.length_append, ← h2]; rfl, ?_, (h4.trans (hb2.mono h4.size)).grown hg (h4.trans (hb2.mono h4.size)).size (fun k hk => (Tx.rows_ge h3' k hk).1)⟩
  rw [e, List.map_append]
  exact ho

set_option maxHeartbeats 8000000 in
set_option maxRecDepth 100000 in
theorem rWithin_any (B : Nat) (a : Option Addr) (n cp : Nat) (X : List It) (c : List UInt8) (w : World) (hr : RI B w a n cp X) (hB : B ≤ w.heap.size) (hc : c.length ≤ 9223372036854775807) :
    Calls Tryz.prog 16 #[.slice a n cp, .string ⟨c.toArray⟩] w fun e w' => Below w.heap.size w w' ∧ ∃ v, e = .returned v ∧ (¬ (chkE X = 0 ∧ c ∈ codes X) → v = .slice none 0 0) ∧ (chkE X = 0 → c ∈ codes X → w'.ownsRow w.heap.size 9 1 v (withinL X c).length ((withinL X c).map encStr)) := by
  have HR := Lib.hid hr
  have HCK := Lib.hid (rCheck_any B a n cp X w hr hB)
  have HFD := Lib.hid (fun w' (hb : Below w.heap.size w w') (s : List UInt8) (hs : s.length ≤ 9223372036854775807) => Find_any B a n cp X s w' (hr.below (hb.mono hB)) (Nat.le_trans hB hb.size) hs)
  have HCL := Lib.hid hc
  have hle := hr.le
  have hmx := hr.mx
  clear hr hc
  go_enter Tryz.func16, Tryz.ntmps16
  go_wp2_with (fail)
  go_at_call 38
  refine HCK.out.mono ?_
  rintro e w1 ⟨rfl, hb1⟩
  have HB1 := Lib.hid hb1
  clear hb1 HCK
  by_cases h0 : chkE X = 0
  · rw [h0]
    have H0 := Lib.hid h0
    have HS := Lib.hid (sound_of h0)
    clear h0
    have HFW := Lib.hid (HFD.out w1 HB1.out c HCL.out)
    by_cases hcc : c ∈ codes X
    · obtain ⟨t0, ht0, hft, hct⟩ := there hcc
      rw [hft] at HFW
      have HCC := Lib.hid hcc
      have HN := Lib.hid HR.out.len
      have hn60 : n ≤ 60 := by rw [HN.out]; exact HS.out.len
      have i0 : decide ((t0 : Int) < 0) = false := decide_eq_false (by omega)
      have i1 : (0 : Int) ≤ (t0 : Int) := by omega
      have i2 : (t0 : Int) < (n : Int) := by rw [HN.out]; omega
      obtain ⟨cs, hmk, hbi⟩ := makeB n (by omega) w1
      obtain ⟨W2, hW2⟩ : ∃ W, W = w1.alloc (.cells cs 4) := ⟨_, rfl⟩
      rw [← hW2] at hmk hbi
      have hb2 : Below w.heap.size w W2 := by rw [hW2]; exact HB1.out.alloc HB1.out.size _
      have HFW2 := Lib.hid (HFD.out W2 hb2 c HCL.out)
      rw [hft] at HFW2
      obtain ⟨g, hg⟩ : ∃ g, g = w1.heap.size := ⟨_, rfl⟩
      rw [← hg] at hmk hbi
      have hcell := hbi.cell (i := t0) (by omega)
      have hfz := hbi.frozen t0
      have hstart : WR X c w g n 0 0 (setO (fun _ => false) c true) (setO (fun _ => false) c true) (W2.setCell ⟨g, t0, none⟩ (.bool true)) := by
        refine ⟨(show BI W2 g n (fun i => (fun _ => false) (cd X i)) from hbi).mark HS.out.nd HN.out (by omega) hct, ⟨set_self _ _, fun s hs => ?_⟩, CL.zero HS.out hcc (set_self _ _), fun _ h => h, fun j hj => absurd hj (Nat.not_lt_zero _), hb2.setCell (p := ⟨g, t0, none⟩) (by rw [hg]; exact HB1.out.size) _, by rw [hg]; exact HB1.out.size⟩
        unfold setO at hs
        split at hs
        · rename_i e
          subst e
          exact ⟨hcc, .inl rfl⟩
        · cases hs
      have HST := Lib.hid hstart
      clear hstart hb2 hbi hct hft ht0 hcc hW2 hg
      go_wp2_with (first | (go_at_call 40; first | (with_reducible refine HFW.out.mono ?_; rintro e w9 ⟨rfl, rfl⟩) | (with_reducible refine HFW2.out.mono ?_; rintro e w9 ⟨rfl, rfl⟩)))
      go_loopw [6] (fun s6 wr => ∃ (r : Nat) (b : List UInt8 → Bool), r ≤ n ∧ s6 = .int .i64 r ∧ Hid (WR X c w g n r 0 b b wr)) (fun s6 _ => n - (intOf s6).toNat)
      case atStart => exact ⟨0, _, by omega, rfl, HST⟩
      case round =>
        clear hcell hfz HST hmk HFW HFW2
        obtain ⟨r, b0, hrn, rfl, HWR⟩ := hrel
        by_cases hlt : r < n
        · have t1 : decide ((r : Int) < (n : Int)) = true := by simp; omega
          have f1 : IntKind.i64.wrap ((r : Int) + 1) = ((r + 1 : Nat) : Int) := by rw [wrap_in (by omega) (by omega)]; omega
          go_wp2_with (fail)
          go_loopw [7] (fun s7 wr => ∃ (i : Nat) (b : List UInt8 → Bool), i ≤ n ∧ s7 = .int .i64 i ∧ Hid (WR X c w g n r i b0 b wr)) (fun s7 _ => n - (intOf s7).toNat)
          case atStart => exact ⟨0, b0, by omega, rfl, HWR⟩
          case round =>
            clear HWR
            obtain ⟨i, b, hin, rfl, HWI⟩ := hrel
            by_cases hli : i < n
            · have t2 : decide ((i : Int) < (n : Int)) = true := by simp; omega
              have f2 : IntKind.i64.wrap ((i : Int) + 1) = ((i + 1 : Nat) : Int) := by rw [wrap_in (by omega) (by omega)]; omega
              have q0 : (0 : Int) ≤ (i : Int) := by omega
              have q1 : (i : Int) < (n : Int) := by omega
              obtain ⟨xb, xo, ha, hxB, hok, -, -, -, -⟩ := HR.out.item (i := i) hli
              subst ha
              obtain ⟨x, hx⟩ : ∃ x, x = X.getD i default := ⟨_, rfl⟩
              rw [← hx] at hok
              have hkd := kids_cd HS.out.nd (i := i) (by rw [← HN.out]; exact hli)
              rw [← hx] at hkd
              have HKD := Lib.hid hkd
              have HX := Lib.hid hx
              have hpl := hok.rp.le
              have hpm := hok.rp.mx
              obtain ⟨np, hnp⟩ : ∃ m, m = x.ps.length := ⟨_, rfl⟩
              rw [← hnp] at hpl
              have HNP := Lib.hid hnp
              have hn8 : np ≤ 8 := by
                have h := HS.out.k8 (cd X i) (cd_mem (by rw [← HN.out]; exact hli))
                rw [hkd, List.length_map] at h
                omega
              clear hx hkd hnp hok hxB
              go_wp2_with (fail)
              go_loopw [8] (fun s8 wr => ∃ (k : Nat) (b : List UInt8 → Bool), k ≤ np ∧ s8 = .int .i64 k ∧ Hid (WR X c w g n r i b0 b wr) ∧ Hid (∀ j, j < k → b (x.ps.getD j default).1 = true)) (fun s8 _ => np - (intOf s8).toNat)
              case atStart => exact ⟨0, b, by omega, rfl, HWI, Lib.hid (fun j hj => absurd hj (Nat.not_lt_zero _))⟩
              case round =>
                clear HWI
                obtain ⟨k, b, hkn, rfl, HWK, HKK⟩ := hrel
                have hcell := HWK.out.bi.cell (i := i) hli
                have hbel := HWK.out.bel
                obtain ⟨xb', xo', ha, hxB, hok, c0, c1, c2, c3⟩ := (HR.out.below (hbel.mono hB)).item (i := i) hli
                injection ha with ha
                injection ha with e1 e2 e3
                subst e1
                subst e2
                rw [← HX.out] at hok c2
                rw [← HNP.out] at c2
                clear c0 c1 c3 e3
                cases hbi : b (cd X i) with
                | false =>
                  rw [hbi] at hcell
                  have HNX : Hid (WR X c w g n r (i + 1) b0 b wr) := Lib.hid (HWK.out.next (fun h => by rw [HWK.out.mono _ h] at hbi; cases hbi))
                  clear hbi
                  go_wp2_with (fail)
                  go_roundw
                  case rel => exact ⟨i + 1, b, by omega, by go_num, HNX⟩
                  case measure => simp [intOf]; omega
                | true =>
                  rw [hbi] at hcell
                  have HBI := Lib.hid hbi
                  clear hbi
                  by_cases hlk : k < np
                  · have t3 : decide ((k : Int) < (np : Int)) = true := by simp; omega
                    have f3 : IntKind.i64.wrap ((k : Int) + 1) = ((k + 1 : Nat) : Int) := by rw [wrap_in (by omega) (by omega)]; omega
                    have q2 : (0 : Int) ≤ (k : Int) := by omega
                    have q3 : (k : Int) < (np : Int) := by omega
                    obtain ⟨pb, po, hpa, hpB, p0, -⟩ := hok.rp.part (i := k) (by rw [← HNP.out]; exact hlk)
                    rw [hpa] at c2
                    obtain ⟨nm, hnm⟩ : ∃ z, z = (x.ps.getD k default).1 := ⟨_, rfl⟩
                    rw [← hnm] at p0
                    unfold encStr at p0
                    have hkid : nm ∈ kidsX X (cd X i) := by
                      rw [HKD.out, hnm]
                      exact List.mem_map.2 ⟨_, (by rw [List.getD_eq_getElem?_getD, List.getElem?_eq_getElem (by rw [← HNP.out]; exact hlk)]; exact List.getElem_mem _), rfl⟩
                    have hnc := HS.out.kids _ (cd_mem (by rw [← HN.out]; exact hli)) _ hkid
                    obtain ⟨ti, hti, hft, hct⟩ := there hnc
                    have hnl := code_le (fun y hy => (HR.out.ok y hy).code) hnc
                    have HF3 := Lib.hid (HFD.out wr hbel nm hnl)
                    rw [hft] at HF3
                    have q4 : (0 : Int) ≤ (ti : Int) := by omega
                    have q5 : (ti : Int) < (n : Int) := by rw [HN.out]; omega
                    have hcell2 := HWK.out.bi.cell (i := ti) (by rw [HN.out]; exact hti)
                    have hfz := HWK.out.bi.frozen ti
                    have HMK := Lib.hid (HWK.out.mark HS.out HN.out HBI.out hkid (by rw [HN.out]; exact hti) hct)
                    have HK2 : Hid (∀ j, j < k + 1 → setO b nm true (x.ps.getD j default).1 = true) := Lib.hid (fun j hj => by
                      by_cases e : j = k
                      · rw [e, ← hnm]; exact set_self _ _
                      · exact set_mono _ _ (HKK.out j (by omega)))
                    generalize b (cd X ti) = bt at hcell2
                    clear hnm hkid hnc hct hft hti hnl hbel hok hpB hpa hxB
                    go_wp2_with (first | (go_at_call 40; refine HF3.out.mono ?_; rintro e w9 ⟨rfl, rfl⟩))
                    go_roundw
                    case rel => exact ⟨k + 1, setO b nm true, by omega, by go_num, HMK, HK2⟩
                    case measure => simp [intOf]; omega
                  · have t3 : decide ((k : Int) < (np : Int)) = false := by simp; omega
                    have HNX : Hid (WR X c w g n r (i + 1) b0 b wr) := Lib.hid (HWK.out.next (fun _ p hp => by
                      rw [HKD.out] at hp
                      obtain ⟨y, hy, rfl⟩ := List.mem_map.1 hp
                      obtain ⟨j, hj, rfl⟩ := List.mem_iff_getElem.1 hy
                      have := HKK.out j (by rw [← HNP.out] at hj; omega)
                      rw [List.getD_eq_getElem?_getD, List.getElem?_eq_getElem hj] at this
                      exact this))
                    go_wp2_with (fail)
                    go_roundw
                    case rel => exact ⟨i + 1, b, by omega, by go_num, HNX⟩
                    case measure => simp [intOf]; omega
            · have t2 : decide ((i : Int) < (n : Int)) = false := by simp; omega
              have ein : i = n := by omega
              have hwi := HWI.out
              rw [ein] at hwi
              have HNX := Lib.hid (hwi.round HS.out HCC.out HN.out)
              clear hwi ein
              go_wp2_with (fail)
              go_roundw
              case rel => exact ⟨r + 1, b, by omega, by go_num, HNX⟩
              case measure => simp [intOf]; omega
        · have t1 : decide ((r : Int) < (n : Int)) = false := by simp; omega
          have ern : r = n := by omega
          have hwl : (codes X).filter b0 = withinL X c := by
            have h := HWR.out.cl
            rw [ern, HN.out] at h
            exact h.all HS.out HCC.out HWR.out.ms
          have HWL := Lib.hid hwl
          have HO0 : Hid (WO X w g n b0 (.slice none 0 0) 0 0 wr) := Lib.hid ⟨HWR.out.bi, rfl, World.ownsRow_nil _ _ _ _, HWR.out.bel⟩
          have HGW := Lib.hid HWR.out.ge
          clear ern hwl HWR
          obtain ⟨ii, hi, hz0, hz1, hz2⟩ := info_parts Tryz.infoStr
          have Hi := Lib.hid hi
          have Hz0 := Lib.hid hz0
          have Hz1 := Lib.hid hz1
          have Hz2 := Lib.hid hz2
          clear hi hz0 hz1 hz2
          go_wp2_with (fail)
          go_loopw [9, 10] (fun v s wr => ∃ (i m : Nat) (a' : Option Addr) (c' : Nat), i ≤ n ∧ m ≤ i ∧ s = .int .i64 i ∧ v = .slice a' m c' ∧ Hid (WO X w g n b0 (.slice a' m c') i m wr)) (fun _ s _ => n - (intOf s).toNat)
          case atStart => exact ⟨0, 0, none, 0, by omega, by omega, rfl, rfl, HO0⟩
          case round =>
            clear HO0
            obtain ⟨i, m, a', c', hin, hmi, rfl, rfl, HWO⟩ := hrel
            by_cases hli : i < n
            · have t2 : decide ((i : Int) < (n : Int)) = true := by simp; omega
              have f2 : IntKind.i64.wrap ((i : Int) + 1) = ((i + 1 : Nat) : Int) := by rw [wrap_in (by omega) (by omega)]; omega
              have q0 : (0 : Int) ≤ (i : Int) := by omega
              have q1 : (i : Int) < (n : Int) := by omega
              have hcell := HWO.out.1.cell (i := i) hli
              have hbel := HWO.out.2.2.2
              obtain ⟨xb, xo, ha, hxB, hok, c0, -, -, -⟩ := (HR.out.below (hbel.mono hB)).item (i := i) hli
              subst ha
              unfold encStr at c0
              cases hbi : b0 (cd X i) with
              | false =>
                rw [hbi] at hcell
                have HNX := Lib.hid (HWO.out.skip (by rw [← HN.out]; exact hli) hbi)
                clear hbi hok
                go_wp2_with (fail)
                go_roundw
                case rel => exact ⟨i + 1, m, a', c', by omega, by omega, by go_num, rfl, HNX⟩
                case measure => simp [intOf]; omega
              | true =>
                rw [hbi] at hcell
                have HPUT := Lib.hid (fun v' w' => HWO.out.put (v' := v') (w' := w') (o := #[encStr (cd X i)]) (t := 9) (by rw [← HN.out]; exact hli) hbi)
                obtain ⟨s, hs⟩ : ∃ s, s = (X.getD i default).code := ⟨_, rfl⟩
                rw [← hs] at c0
                rw [show cd X i = s from hs.symm] at HPUT
                have O3 := Lib.hid (Tx.rows_below HWO.out.2.2.1 ((Below.refl _ wr).alloc (Nat.le_refl _) (.cells #[.string ⟨s.toArray⟩] 9)))
                have HSZ := Lib.hid hbel.size
                clear hbi hok hs hbel
                go_wp2_with (first | (at_builtin; refine Tx.wpList_append_keepC rfl _ _ 30 rfl 9 ii _ (Q := [encStr s]) (m := 1) (cs := 1) Tryz.underlying30 Hi.out Hz0.out Hz1.out rfl rfl O3.out _ 1 rfl ⟨_, rfl, one_text wr s _⟩ (fun u hu => by rw [List.mem_singleton] at hu; subst hu; rfl) rfl (by decide) (by rw [World.size_alloc]; have := HSZ.out; omega) (by rw [Hz2.out]; omega) (by omega) ?_; intro g4 c4 w4 hown4 _ hg4 _; have HNX := Lib.hid (HPUT.out _ w4 hown4 hg4); clear hown4 hg4))
                go_roundw
                case rel => exact ⟨i + 1, m + 1, _, _, by omega, by omega, by go_num, rfl, HNX⟩
                case measure => simp [intOf]; omega
            · have t2 : decide ((i : Int) < (n : Int)) = false := by simp; omega
              have ein : i = n := by omega
              have hfin := HWO.out
              unfold WO at hfin
              have htk : (codes X).take i = codes X := List.take_of_length_le (by unfold codes; rw [List.length_map, ← HN.out]; omega)
              rw [htk, HWL.out] at hfin
              have HFIN := Lib.hid hfin
              clear hfin htk ein
              go_wp2_with (fail)
              go_ret
              obtain ⟨-, h2, h3, h4⟩ := HFIN.out
              refine ⟨h4, _, rfl, fun h => absurd ⟨H0.out, HCC.out⟩ h, fun _ _ => ?_⟩
              rw [← h2]
              exact h3
    · rw [fI_out hcc] at HFW
      have HNC := Lib.hid (show ¬ (chkE X = 0 ∧ c ∈ codes X) from fun h => hcc h.2)
      clear hcc
      go_wp2_with (first | (go_at_call 40; refine HFW.out.mono ?_; rintro e w9 ⟨rfl, rfl⟩))
      go_ret
      exact ⟨HB1.out, _, rfl, fun _ => rfl, fun h1 h2 => absurd ⟨h1, h2⟩ HNC.out⟩
  · obtain ⟨r, hr⟩ : ∃ r, r = chkE X := ⟨_, rfl⟩
    have H0 := Lib.hid h0
    rw [← hr] at h0 ⊢
    have e1 : (r != 0) = true := by simpa using h0
    clear h0 hr
    go_wp2_with (fail)
    go_ret
    exact ⟨HB1.out, _, rfl, fun _ => rfl, fun h1 _ => absurd h1 H0.out⟩
end Go.Proofs.YthlmnoggeggpkaaGreat
namespace Go.Proofs.YthlmnoggeggpkaaGreat
open Go.RowKit

set_option maxHeartbeats 4000000 in
set_option maxRecDepth 100000 in
theorem rDeepTop_any (B : Nat) (a : Option Addr) (n cp : Nat) (X : List It) (c : List UInt8) (w : World) (hr : RI B w a n cp X) (hB : B ≤ w.heap.size) (hc : c.length ≤ 9223372036854775807) :
    Calls Tryz.prog 17 #[.slice a n cp, .string ⟨c.toArray⟩] w fun e w' => e = .returned (.int .i64 (deepX X c)) ∧ Below w.heap.size w w' := by
  have HR := Lib.hid hr
  have HCK := Lib.hid (rCheck_any B a n cp X w hr hB)
  have HFD := Lib.hid (Find_any B a n cp X c w hr hB hc)
  have HN := Lib.hid hr.len
  have hle := hr.le
  have hmx := hr.mx
  clear hr hc
  go_enter Tryz.func17, Tryz.ntmps17
  go_wp2_with (fail)
  go_at_call 40
  refine HFD.out.mono ?_
  rintro e w0 ⟨rfl, rfl⟩
  go_wp2_with (fail)
  go_at_call 38
  refine HCK.out.mono ?_
  rintro e w1 ⟨rfl, hb1⟩
  have HB1 := Lib.hid hb1
  clear hb1 HCK HFD
  by_cases h0 : chkE X = 0
  · rw [h0]
    by_cases hcc : c ∈ codes X
    · have hs := sound_of h0
      obtain ⟨i, hi, hfi, hci⟩ := there hcc
      rw [hfi]
      have hdx : deepX X c = (tellX X c : Int) := by unfold deepX; rw [if_pos ⟨h0, hcc⟩]
      have HDX := Lib.hid hdx
      have HDP := Lib.hid (rDeep_any B a n cp X w1 (HR.out.below (HB1.out.mono hB)) (Nat.le_trans hB HB1.out.size) hs.nd hs.kids hs.len)
      have HCI := Lib.hid hci
      have HCC := Lib.hid hcc
      have i0 : decide ((i : Int) < 0) = false := decide_eq_false (by omega)
      have i1 : (0 : Int) ≤ (i : Int) := by omega
      have i2 : (i : Int) < (n : Int) := by rw [HN.out]; omega
      clear h0 hcc hs hi hfi hci hdx
      go_wp2_with (fail)
      go_at_call 42
      refine HDP.out.mono ?_
      rintro e w2 ⟨g, o, rfl, hoi, hge, hb2, ho⟩
      have hcell := hoi.cell (i := i) (by omega)
      have hoc : (o (cd X i) : Int) = (tellX X c : Int) := by rw [HCI.out, ho c HCC.out]; rfl
      rw [hoc] at hcell
      have HB2 := Lib.hid (HB1.out.trans (hb2.mono HB1.out.size))
      obtain ⟨d, hd⟩ : ∃ d : Int, d = (tellX X c : Int) := ⟨_, rfl⟩
      rw [← hd] at hcell HDX
      clear hoi hge hb2 ho hoc HDP hd
      go_wp2_with (fail)
      go_ret
      exact ⟨by rw [HDX.out]; rfl, HB2.out⟩
    · have hdx : deepX X c = 0 := by unfold deepX; rw [if_neg (fun h => hcc h.2)]
      rw [fI_out hcc]
      have HDX := Lib.hid hdx
      clear h0 hcc hdx
      go_wp2_with (fail)
      go_ret
      exact ⟨by rw [HDX.out]; rfl, HB1.out⟩
  · have hdx : deepX X c = 0 := by unfold deepX; rw [if_neg (fun h => h0 h.1)]
    have HDX := Lib.hid hdx
    obtain ⟨r, hr⟩ : ∃ r, r = chkE X := ⟨_, rfl⟩
    rw [← hr] at h0 ⊢
    have e1 : (r != 0) = true := by simpa using h0
    generalize fI X c = fi
    clear h0 hr hdx
    go_wp2_with (fail)
    go_ret
    exact ⟨by rw [HDX.out]; rfl, HB1.out⟩
end Go.Proofs.YthlmnoggeggpkaaGreat
