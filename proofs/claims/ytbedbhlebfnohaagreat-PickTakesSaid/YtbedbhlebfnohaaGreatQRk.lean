/- storemanref07.Parts, storemanref07.Deep: their walks. The document's Pick: the line, its parts. (Printed by gen/rpk.py.) The document's Pick: its walk. (Printed by gen/rpk.py.) -/
import Derived.Test.YtbedbhlebfnohaaGreatKRefEnd
import Derived.Test.YtbedbhlebfnohaaGreatQRkC
namespace Go.Proofs.YtbedbhlebfnohaaGreat
open Go.RowKit

theorem fI_out {X : List It} {c : List UInt8} (h : c ∉ codes X) : fI X c = -1 := fI_none fun _j hj e => h (List.mem_map.2 ⟨_, getD_mem hj, e⟩)
set_option maxHeartbeats 4000000 in
set_option maxRecDepth 100000 in
theorem rParts_any (B : Nat) (a : Option Addr) (n cp : Nat) (X : List It) (c : List UInt8) (q : Int) (w : World) (hr : RI B w a n cp X) (hB : B ≤ w.heap.size) (hc : c.length ≤ 9223372036854775807) :
    Calls Tryz.prog 28 #[.slice a n cp, .string ⟨c.toArray⟩, .int .i64 q] w fun e w' => Below w.heap.size w w' ∧ ∃ v, e = .returned (.tuple #[v, .int .i64 (partsE X c q)]) ∧ (partsE X c q ≠ 0 → v = .slice none 0 0) ∧ (partsE X c q = 0 → ∃ a c' S, v = .slice a S.length c' ∧ endL X c q = some S ∧ PS X S ∧ OP w.heap.size w' v S) := by
  have HR := Lib.hid hr
  have HCK := Lib.hid (rCheck_any B a n cp X w hr hB)
  have HFD := Lib.hid (fun w' (hb : Below w.heap.size w w') => Find_any B a n cp X c w' (hr.below (hb.mono hB)) (Nat.le_trans hB hb.size) hc)
  have HRT := Lib.hid (fun w => rRight_any q w)
  clear hr hc
  go_enter Tryz.func28, Tryz.ntmps28
  go_wp2_with (fail)
  go_at_call 56
  refine HCK.out.mono ?_
  rintro e w1 ⟨rfl, hb1⟩
  have HB1 := Lib.hid hb1
  clear hb1
  by_cases h0 : chkE X = 0
  · rw [h0]
    have H0 := Lib.hid h0
    have HS := Lib.hid (sound_of h0)
    clear h0
    by_cases hq1 : 1 ≤ q
    · have q1 : decide (q < 1) = false := decide_eq_false (by omega)
      cases hk : okA q with
      | false =>
        rw [hk] at HRT
        have HE : Hid (partsE X c q = 2) := Lib.hid (by unfold partsE; rw [if_neg (by simp [H0.out]), if_pos (by simp [hk])])
        clear hk
        go_wp2_with (first | (go_at_call 57; refine (HRT.out _).mono ?_; rintro e w9 ⟨rfl, rfl⟩))
        go_ret2
        exact ⟨HB1.out, _, by rw [HE.out]; rfl, fun _ => rfl, fun h => by rw [HE.out] at h; cases h⟩
      | true =>
        rw [hk] at HRT
        have hkk := okA_iff.1 hk
        have HKK := Lib.hid hk
        clear hk
        by_cases hcc : c ∈ codes X
        · obtain ⟨i, hi, hfi, hci⟩ := there hcc
          have HFW := Lib.hid (HFD.out w1 HB1.out)
          rw [hfi] at HFW
          have HEN := Lib.hid (rEnd_any B a n cp X HS.out 8 c q w1 _ (HR.out.below (HB1.out.mono hB)) (Nat.le_trans hB HB1.out.size) hcc (HS.out.hgt8 hcc) hq1 (by unfold mostA; omega))
          rw [← end_leaves HS.out hcc hq1 (by unfold mostA; omega), hfi] at HEN
          have HCC := Lib.hid hcc
          have i0 : decide ((i : Int) < 0) = false := decide_eq_false (by omega)
          clear hi hfi hci hcc hkk
          go_wp2_with (first | (go_at_call 57; refine (HRT.out _).mono ?_; rintro e w9 ⟨rfl, rfl⟩) | (go_at_call 58; refine HFW.out.mono ?_; rintro e w9 ⟨rfl, rfl⟩))
          go_at_call 59
          refine HEN.out.mono ?_
          rintro e w3 ⟨hb3, hpost⟩
          have HB3 := Lib.hid (HB1.out.trans (hb3.mono HB1.out.size))
          cases hU : endL X c q with
          | none =>
            rw [hU] at hpost
            obtain rfl := hpost
            have HE : Hid (partsE X c q = 3) := Lib.hid (by unfold partsE; rw [if_neg (by simp [H0.out]), if_neg (by simp [hq1, HKK.out]), if_neg (by simp [HCC.out]), hU])
            clear hU hb3 HEN
            go_wp2_with (fail)
            go_ret2
            exact ⟨HB3.out, _, by rw [HE.out]; rfl, fun _ => rfl, fun h => by rw [HE.out] at h; cases h⟩
          | some S =>
            rw [hU] at hpost
            obtain ⟨a3, c3, rfl, hop⟩ := hpost
            have HE : Hid (partsE X c q = 0) := Lib.hid (by unfold partsE; rw [if_neg (by simp [H0.out]), if_neg (by simp [hq1, HKK.out]), if_neg (by simp [HCC.out]), hU])
            have hps : PS X S := by
              have hl := hU
              rw [end_leaves HS.out HCC.out hq1 (by have := okA_iff.1 HKK.out; unfold mostA; omega)] at hl
              refine ps_of HS.out (joinL_up Up.nil hl) fun p hp => ?_
              exact (end_mem HS.out HCC.out hq1 (by have := okA_iff.1 HKK.out; unfold mostA; omega) hU p hp).2.1
            have HPS := Lib.hid hps
            have HOP := Lib.hid (hop.mono HB1.out.size)
            have HU := Lib.hid hU
            clear hU hb3 HEN hop hps
            go_wp2_with (fail)
            go_ret2
            exact ⟨HB3.out, _, by rw [HE.out]; rfl, fun h => absurd HE.out h, fun _ => ⟨a3, c3, S, rfl, HU.out, HPS.out, HOP.out⟩⟩
        · have HFW := Lib.hid (HFD.out w1 HB1.out)
          rw [fI_out hcc] at HFW
          have HE : Hid (partsE X c q = 150) := Lib.hid (by unfold partsE; rw [if_neg (by simp [H0.out]), if_neg (by simp [hq1, HKK.out]), if_pos hcc])
          clear hcc
          go_wp2_with (first | (go_at_call 57; refine (HRT.out _).mono ?_; rintro e w9 ⟨rfl, rfl⟩) | (go_at_call 58; refine HFW.out.mono ?_; rintro e w9 ⟨rfl, rfl⟩))
          go_ret2
          exact ⟨HB1.out, _, by rw [HE.out]; rfl, fun _ => rfl, fun h => by rw [HE.out] at h; cases h⟩
    · have q1 : decide (q < 1) = true := decide_eq_true (by omega)
      have HE : Hid (partsE X c q = 2) := Lib.hid (by unfold partsE; rw [if_neg (by simp [H0.out]), if_pos (by simp [hq1])])
      clear hq1
      go_wp2_with (fail)
      go_ret2
      exact ⟨HB1.out, _, by rw [HE.out]; rfl, fun _ => rfl, fun h => by rw [HE.out] at h; cases h⟩
  · have HE : Hid (partsE X c q = chkE X) := Lib.hid (by unfold partsE; rw [if_pos h0])
    obtain ⟨r, hr⟩ : ∃ r, r = chkE X := ⟨_, rfl⟩
    rw [← hr] at h0 HE ⊢
    have e1 : (r != 0) = true := by simpa using h0
    have H0 := Lib.hid h0
    clear h0 hr
    go_wp2_with (fail)
    go_ret2
    exact ⟨HB1.out, _, by rw [HE.out]; rfl, fun _ => rfl, fun h => absurd (by rw [← HE.out]; exact h) H0.out⟩
end Go.Proofs.YtbedbhlebfnohaaGreat
namespace Go.Proofs.YtbedbhlebfnohaaGreat
open Go.RowKit Go.Sort Go.Lib Go.Shelf

set_option maxHeartbeats 8000000 in
set_option maxRecDepth 100000 in
theorem rk_line (B p q i : Nat) (now nl nx : Int) (a1 : Option Addr) (n1 c1 : Nat) (X1 : List It) (a2 : Option Addr) (n2 c2 : Nat) (L : List LotV) (a3 : Option Addr) (n3 c3 : Nat) (N : List LineV) (W : World) (R : Ending → World → Prop) (h : StIn B W a1 n1 c1 X1 a2 n2 c2 L a3 n3 c3 N) (hB : B ≤ W.heap.size)
    (hp : W.heap[p]? = some (stObj now nl nx (.slice a1 n1 c1) (.slice a2 n2 c2) (.slice a3 n3 c3))) (hq : W.heap[q]? = some (stObj 0 0 0 (.slice none 0 0) (.slice none 0 0) (.slice none 0 0))) (hi : i < N.length) (hnow : -9223372036854775808 ≤ now ∧ now ≤ 9223372036854775807)
    (hR0 : (N.getD i default).day ≠ now → ∀ w', (∀ B0 w0, Below B0 w0 W → B0 ≤ q → Below B0 w0 w') → R (.returned (.tuple #[.agg #[.int .i64 0, .int .i64 0, .int .i64 0, .slice none 0 0, .slice none 0 0, .slice none 0 0], .slice none 0 0, .int .i64 158])) w')
    (hR1 : (N.getD i default).day = now → partsE X1 (N.getD i default).code (N.getD i default).qty ≠ 0 ∨ fillX (hereL L) (wantsX now ((endL X1 (N.getD i default).code (N.getD i default).qty).getD [])) = none → ∀ w', (∀ B0 w0, Below B0 w0 W → B0 ≤ q → Below B0 w0 w') → R (.returned (.tuple #[.agg #[.int .i64 0, .int .i64 0, .int .i64 0, .slice none 0 0, .slice none 0 0, .slice none 0 0], .slice none 0 0, .int .i64 159])) w')
    (hR2 : ∀ U f, (N.getD i default).day = now → partsE X1 (N.getD i default).code (N.getD i default).qty = 0 → fillX (hereL L) (wantsX now ((endL X1 (N.getD i default).code (N.getD i default).qty).getD [])) = some (U, f) → ∀ va vc g c' ua uc w', (∀ B0 w0, Below B0 w0 W → B0 ≤ q → Below B0 w0 w') → lotE.Own W.heap.size w' (.slice va (leftL (usum U) L).length vc) (leftL (usum U) L) → lineE.Own W.heap.size w' (.slice (some ⟨g, 0, none⟩) N.length c') (N.set i { N.getD i default with st := 2 }) → useE.Own W.heap.size w' (.slice ua U.length uc) U →
      R (.returned (.tuple #[.agg #[.int .i64 now, .int .i64 nl, .int .i64 nx, .slice a1 n1 c1, .slice va (leftL (usum U) L).length vc, .slice (some ⟨g, 0, none⟩) N.length c'], .slice ua U.length uc, .int .i64 0])) w') (s0 s1 s3 s5 s6 s8 s9 s10 s11 s12 s13 s14 s15 s16 s17 s18 s19 s20 s21 s22 s23 s24 s25 s26 s27 s28 s29 s30 s31 s32 s33 s34 s35 s36 s37 s38 s39 s40 s41 s42 s43 s44 s45 s46 s47 s48 s49 s50 s51 s52 s53 s54 s55 s56 s57 s58 s59 s60 s61 s62 s63 s64 s65 s66 s67 s68 s69 s70 s71 s72 s73 s74 s75 s76 s77 s78 s79 s80 s81 s82 s83 s84 s85 s86 s87 s88 s89 s90 s91 s92 s93 s94 s95 s96 s97 s98 s99 s100 s101 s102 s103 s104 s105 s106 s107 s108 s109 s110 s111 s112 s113 s114 s115 s116 s117 s118 s119 s120 s121 s122 s123 s124 s125 s126 s127 s128 s129 s130 s131 s132 s133 s134 s135 s136 s137 s138 s139 s140 s141 s142 s143 s144 s145 s146 s147 s148 s149 s150 s151 s152 s153 s154 s155 s156 s157 s158 s159 s160 s161 s162 s163 s164 s165 s166 s167 s168 s169 s170 s171 s172 s173 s174 s175 s176 s177 s178 s179 s180 s181 s182 s183 s184 s185 s186 s187 s188 s189 s190 s191 s192 s193 s194 s195 s196 s197 s198 s199 : Value) :
    Code.wp Tryz.prog (dropQ 5 (Tryz.f9.body.getD .skip)) (bodyPost Tryz.prog Tryz.f9 R) ⟨List.toArray (s0 :: s1 :: (.pointer (some ⟨p, 0, none⟩)) :: s3 :: (.pointer (some ⟨q, 0, none⟩)) :: s5 :: s6 :: (.int .i64 i) :: s8 :: s9 :: s10 :: s11 :: s12 :: s13 :: s14 :: s15 :: s16 :: s17 :: s18 :: s19 :: s20 :: s21 :: s22 :: s23 :: s24 :: s25 :: s26 :: s27 :: s28 :: s29 :: s30 :: s31 :: s32 :: s33 :: s34 :: s35 :: s36 :: s37 :: s38 :: s39 :: s40 :: s41 :: s42 :: s43 :: s44 :: s45 :: s46 :: s47 :: s48 :: s49 :: s50 :: s51 :: s52 :: s53 :: s54 :: s55 :: s56 :: s57 :: s58 :: s59 :: s60 :: s61 :: s62 :: s63 :: s64 :: s65 :: s66 :: s67 :: s68 :: s69 :: s70 :: s71 :: s72 :: s73 :: s74 :: s75 :: s76 :: s77 :: s78 :: s79 :: s80 :: s81 :: s82 :: s83 :: s84 :: s85 :: s86 :: s87 :: s88 :: s89 :: s90 :: s91 :: s92 :: s93 :: s94 :: s95 :: s96 :: s97 :: s98 :: s99 :: s100 :: s101 :: s102 :: s103 :: s104 :: s105 :: s106 :: s107 :: s108 :: s109 :: s110 :: s111 :: s112 :: s113 :: s114 :: s115 :: s116 :: s117 :: s118 :: s119 :: s120 :: s121 :: s122 :: s123 :: s124 :: s125 :: s126 :: s127 :: s128 :: s129 :: s130 :: s131 :: s132 :: s133 :: s134 :: s135 :: s136 :: s137 :: s138 :: s139 :: s140 :: s141 :: s142 :: s143 :: s144 :: s145 :: s146 :: s147 :: s148 :: s149 :: s150 :: s151 :: s152 :: s153 :: s154 :: s155 :: s156 :: s157 :: s158 :: s159 :: s160 :: s161 :: s162 :: s163 :: s164 :: s165 :: s166 :: s167 :: s168 :: s169 :: s170 :: s171 :: s172 :: s173 :: s174 :: s175 :: s176 :: s177 :: s178 :: s179 :: s180 :: s181 :: s182 :: s183 :: s184 :: s185 :: s186 :: s187 :: s188 :: s189 :: s190 :: s191 :: s192 :: s193 :: s194 :: s195 :: s196 :: s197 :: s198 :: s199 :: []), []⟩ W := by
  have hpl : p < W.heap.size := (Array.getElem?_eq_some_iff.1 hp).1
  have hql : q < W.heap.size := (Array.getElem?_eq_some_iff.1 hq).1
  have hin : i < n3 := by rw [h.lines.len]; exact hi
  obtain ⟨b3, o3, rfl, hb3, hc⟩ := lineE_at h.lines (by have := h.lines.le; omega)
  obtain ⟨g0, g1, g2, g3, g4, g5, g6, g7⟩ := hc i hin
  have hok := h.lines.ok_at hin
  have HP := Lib.hid (fun (V : World) (hb : Below W.heap.size W V) => rParts_any B a1 n1 c1 X1 (N.getD i default).code (N.getD i default).qty V (h.items.below (hb.mono hB)) (Nat.le_trans hB hb.size) hok.2.2.2.2.2.2.2)
  obtain ⟨y0, y1, y2, y3, y4, y5⟩ := stObj_cells hp
  have HQ := Lib.hid (fun (V : World) (hb : Below W.heap.size W V) => (hb.block q hql).trans hq)
  have HR0 := Lib.hid hR0
  have HR1 := Lib.hid hR1
  have HR2 := Lib.hid hR2
  have H := Lib.hid h
  have HPP := Lib.hid hp
  have HNOW := Lib.hid hnow
  have HI := Lib.hid hi
  have h3le := h.lines.le
  have h3mx := h.lines.mx
  have hiNL := hi
  clear hc hok hR0 hR1 hR2 h hp hq hnow hi
  generalize hx : N.getD i default = x at g0 g1 g2 g3 g4 g5 g6 g7 HP HR0 HR1 HR2
  obtain ⟨x1, x2, xq, x4, x5, x6, x7, xc⟩ := x
  simp only at g0 g1 g2 g3 g4 g5 g6 g7 HP HR0 HR1 HR2
  simp only [encStr] at g1 g7
  have HXX := Lib.hid hx
  obtain ⟨W1, hW1⟩ : ∃ V, V = W.alloc (.cells #[.int .i64 x1, .string ⟨x2.toArray⟩, .int .i64 xq, .int .i64 x4, .int .i64 x5, .int .u8 x6, .int .i64 x7, .string ⟨xc.toArray⟩] 49) := ⟨_, rfl⟩
  have B1 : Hid (Below W.heap.size W W1) := Lib.hid (by rw [hW1]; exact below_alloc _ _)
  have k2 : W1.cell? ⟨W.heap.size, 2, none⟩ = some (.int .i64 xq) := by rw [hW1]; simp
  have k6 : W1.cell? ⟨W.heap.size, 6, none⟩ = some (.int .i64 x7) := by rw [hW1]; simp
  have k7 : W1.cell? ⟨W.heap.size, 7, none⟩ = some (.string ⟨xc.toArray⟩) := by rw [hW1]; simp
  have z0 : W1.cell? ⟨p, 0, none⟩ = some (.int .i64 now) := (B1.out.cell (p := ⟨p, 0, none⟩) hpl).trans y0
  have z3 : W1.cell? ⟨p, 3, none⟩ = some (.slice a1 n1 c1) := (B1.out.cell (p := ⟨p, 3, none⟩) hpl).trans y3
  have HW1 := Lib.hid hW1
  have HP1 := Lib.hid (HP.out W1 B1.out)
  clear hW1 hx HP
  by_cases hd : x7 = now
  · have HR1' := Lib.hid (HR1.out hd)
    have HR2' := Lib.hid (fun U f => HR2.out U f hd)
    subst hd
    by_cases hE : partsE X1 xc xq = 0
    · have HE := Lib.hid hE
      have HR1'' := Lib.hid (fun h => HR1'.out (.inr h))
      have HR2'' := Lib.hid (fun U f => HR2'.out U f hE)
      rw [hE] at HP1
      clear HR0 HR1 HR2 HR1' HR2' hE
      conv => arg 2; whnf
      go_upto_region 12 with (fail)
      rw [← HW1.out]
      clear g0 g1 g2 g3 g4 g5 g6 g7 y0 y1 y2 y3 y4 y5
      go_upto_if 75 with (go_at_call 28; refine HP1.out.mono ?_; rintro e wP ⟨hbP, vP, rfl, -, hoP⟩; obtain ⟨pa, pc, S, rfl, hend, hPS, hop⟩ := hoP rfl; have HBP : Hid (Below W.heap.size W wP) := Lib.hid (B1.out.trans (hbP.mono B1.out.size)); have HND := Lib.hid hend; have HPS := Lib.hid hPS; have HOP := Lib.hid hop; clear hbP hoP hend hPS hop)
      iterate 4 go_step
      have hfn := fine_ps (fun x hx => (H.out.items.ok x hx).code) HPS.out
      obtain ⟨pa', pc', e9, hrp⟩ := HOP.out.rp hfn
      injection e9 with e7 e8 e9
      subst e7; subst e9
      have hSl : S.length ≤ 100000000 := by have e1 := HPS.out.len; have e2 := H.out.nI; have e3 := H.out.items.len; omega
      have hnd := HND.out
      refine rk_fill B p q i x7 nl nx a1 n1 c1 X1 a2 n2 c2 L (some ⟨b3, o3, none⟩) n3 c3 N pa pc S wP R (H.out.below (HBP.out.mono hB)) (Nat.le_trans hB HBP.out.size) ((HBP.out.block p hpl).trans HPP.out) (HQ.out wP HBP.out) hiNL HNOW.out hrp hSl hfn ?_ ?_ _ _ _ _ _ _ _ _ _ _ _ _ _ _ _ _ _ _ _ _ _ _ _ _ _ _ _ _ _ _ _ _ _ _ _ _ _ _ _ _ _ _ _ _ _ _ _ _ _ _ _ _ _ _ _ _ _ _ _ _ _ _ _ _ _ _ _ _ _ _ _ _ _ _ _ _ _ _ _ _ _ _ _ _ _ _ _ _ _ _ _ _ _ _ _ _ _ _ _ _ _ _ _ _ _ _ _ _ _ _ _ _ _ _ _ _ _ _ _ _ _ _ _ _ _ _ _ _ _ _ _ _ _ _ _ _ _ _ _ _ _ _ _ _ _ _ _ _ _ _ _ _ _ _ _ _ _ _ _ _ _ _ _ _ _ _ _ _ _ _ _ _ _ _ _ _ _ _ _ _ _ _ _ _ _ _ _ _ _ _ _ _ _ _ _ _
      · intro hn w' h1
        refine HR1''.out ?_ w' (fun B0 w0 hb hbq => h1 B0 w0 (hb.trans (HBP.out.mono (by omega))) hbq)
        rw [hnd]
        exact hn
      · intro U f hf va vc g c' ua uc w' h1 h2 h3 h4
        rw [HXX.out] at h3
        refine HR2''.out U f ?_ va vc g c' ua uc w' (fun B0 w0 hb hbq => h1 B0 w0 (hb.trans (HBP.out.mono (by omega))) hbq) (h2.mono HBP.out.size) (h3.mono HBP.out.size) (h4.mono HBP.out.size)
        rw [hnd]
        exact hf
    · have HE := Lib.hid (HR1'.out (.inl hE))
      generalize partsE X1 xc xq = er at hE HP1
      clear HR0 HR1 HR2 HR1' HR2'
      conv => arg 2; whnf
      go_upto_region 12 with (fail)
      rw [← HW1.out]
      clear g0 g1 g2 g3 g4 g5 g6 g7 y0 y1 y2 y3 y4 y5
      go_wp2_with (go_at_call 28; refine HP1.out.mono ?_; rintro e wP ⟨hbP, vP, rfl, hv, -⟩; have hv' := hv hE; subst hv'; have HBP : Hid (Below W.heap.size W wP) := Lib.hid (B1.out.trans (hbP.mono B1.out.size)); have hqT := HQ.out wP HBP.out; obtain ⟨f0, f1, f2, f3, f4, f5⟩ := st_frozen6 hqT; obtain ⟨r0, r1, r2, r3, r4, r5⟩ := stObj_cells hqT; clear hbP hv hqT)
      have hput := st_put (HQ.out wP HBP.out) 0 0 0 (.slice none 0 0) (.slice none 0 0) (.slice none 0 0)
      obtain ⟨W9, hW9⟩ : ∃ V, V = put6 wP q 0 0 0 (.slice none 0 0) (.slice none 0 0) (.slice none 0 0) := ⟨_, rfl⟩
      have HW9 := Lib.hid hW9
      unfold put6 at hW9
      rw [← hW9] at hput ⊢
      clear hW9
      refine bodyPost_ret (results_cell_tmp2 (P := Tryz.prog) (fn := Tryz.f9) (p := 4) (u := 5) (v := 6) (ty := 26) rfl _ W9 q 26 _ (0, 0) _ rfl hput Tryz.underlying26 rfl (by kernel_rfl)) rfl ?_
      rw [HW9.out]
      exact HE.out _ (fun B0 w0 hb hbq => put6_below (hb.trans (HBP.out.mono (by omega))) _ _ _ _ _ _ _ hbq)
  · have HE := Lib.hid (HR0.out hd)
    clear HR0 HR1 HR2 HP1
    have hqT := HQ.out W1 B1.out
    obtain ⟨f0, f1, f2, f3, f4, f5⟩ := st_frozen6 hqT
    obtain ⟨r0, r1, r2, r3, r4, r5⟩ := stObj_cells hqT
    clear hqT
    conv => arg 2; whnf
    go_upto_region 12 with (fail)
    rw [← HW1.out]
    clear g0 g1 g2 g3 g4 g5 g6 g7 y0 y1 y2 y3 y4 y5
    go_wp2_with (fail)
    have hput := st_put (HQ.out W1 B1.out) 0 0 0 (.slice none 0 0) (.slice none 0 0) (.slice none 0 0)
    obtain ⟨W9, hW9⟩ : ∃ V, V = put6 W1 q 0 0 0 (.slice none 0 0) (.slice none 0 0) (.slice none 0 0) := ⟨_, rfl⟩
    have HW9 := Lib.hid hW9
    unfold put6 at hW9
    rw [← hW9] at hput ⊢
    clear hW9
    refine bodyPost_ret (results_cell_tmp2 (P := Tryz.prog) (fn := Tryz.f9) (p := 4) (u := 5) (v := 6) (ty := 26) rfl _ W9 q 26 _ (0, 0) _ rfl hput Tryz.underlying26 rfl (by kernel_rfl)) rfl ?_
    rw [HW9.out]
    exact HE.out _ (fun B0 w0 hb hbq => put6_below (hb.trans (B1.out.mono (by omega))) _ _ _ _ _ _ _ hbq)
end Go.Proofs.YtbedbhlebfnohaaGreat
namespace Go.Proofs.YtbedbhlebfnohaaGreat
open Go.RowKit Go.Sort Go.Lib Go.Shelf

/-- The rounds over the lines. -/
def CntR (N : List LineV) (id : Int) (j n : Nat) (at_ : Int) : Prop := n = cntL (N.take j) id ∧ (n = 0 ∧ at_ = -1 ∨ ∃ k : Nat, k < j ∧ at_ = k ∧ (N.getD k default).id = id)
theorem CntR.start (N : List LineV) (id : Int) : CntR N id 0 0 (-1) := ⟨by simp [cntL], .inl ⟨rfl, rfl⟩⟩
theorem CntR.yes {N : List LineV} {id : Int} {j n : Nat} {at_ : Int} (h : CntR N id j n at_) (hj : j < N.length) (he : (N.getD j default).id = id) : CntR N id (j + 1) (n + 1) j := ⟨by rw [cntL_succ hj, if_pos he, h.1], .inr ⟨j, by omega, rfl, he⟩⟩
theorem CntR.no {N : List LineV} {id : Int} {j n : Nat} {at_ : Int} (h : CntR N id j n at_) (hj : j < N.length) (he : (N.getD j default).id ≠ id) : CntR N id (j + 1) n at_ := ⟨by rw [cntL_succ hj, if_neg he, h.1]; rfl, by
  rcases h.2 with h2 | ⟨k, h2, h3, h4⟩
  · exact .inl h2
  · exact .inr ⟨k, by omega, h3, h4⟩⟩
theorem CntR.le {N : List LineV} {id : Int} {j n : Nat} {at_ : Int} (h : CntR N id j n at_) : n ≤ j := by
  have := cntL_le (N.take j) id
  rw [List.length_take] at this
  rw [h.1]
  omega
theorem CntR.done {N : List LineV} {id : Int} {n : Nat} {at_ : Int} (h : CntR N id N.length n at_) : (n ≠ 1 ∧ lineX N id = (0, false)) ∨ (n = 1 ∧ ∃ k : Nat, k < N.length ∧ at_ = k ∧ lineX N id = ((k : Int), decide ((N.getD k default).st = 1))) := by
  have h1 := h.1
  rw [List.take_length] at h1
  by_cases hn : n = 1
  · rcases h.2 with h2 | ⟨k, h2, h3, h4⟩
    · omega
    · exact .inr ⟨hn, k, h2, h3, lineX_yes (by omega) h2 h4⟩
  · exact .inl ⟨hn, lineX_no (by omega)⟩
/-- What the document's Pick ends with. -/
def RPickPost (w : World) (now nl nx : Int) (a1 : Option Addr) (n1 c1 : Nat) (X : List It) (L : List LotV) (N : List LineV) (id : Int) (e : Ending) (w' : World) : Prop := Below w.heap.size w w' ∧ match pickX now X L N id with
  | .error er => e = .returned (.tuple #[.agg #[.int .i64 0, .int .i64 0, .int .i64 0, .slice none 0 0, .slice none 0 0, .slice none 0 0], .slice none 0 0, .int .i64 er])
  | .ok (L', N', U) => ∃ va vc g c' ua uc, e = .returned (.tuple #[.agg #[.int .i64 now, .int .i64 nl, .int .i64 nx, .slice a1 n1 c1, .slice va L'.length vc, .slice (some ⟨g, 0, none⟩) N'.length c'], .slice ua U.length uc, .int .i64 0]) ∧ lotE.Own w.heap.size w' (.slice va L'.length vc) L' ∧ lineE.Own w.heap.size w' (.slice (some ⟨g, 0, none⟩) N'.length c') N' ∧ useE.Own w.heap.size w' (.slice ua U.length uc) U
theorem pickX_no {now : Int} {X : List It} {L : List LotV} {N : List LineV} {id at_ : Int} (h : lineX N id = (at_, false)) : pickX now X L N id = .error 157 := by
  unfold pickX
  rw [h, if_pos rfl]
theorem pickX_day {now : Int} {X : List It} {L : List LotV} {N : List LineV} {id : Int} {i : Nat} (h : lineX N id = ((i : Int), true)) (hd : (N.getD i default).day ≠ now) : pickX now X L N id = .error 158 := by
  unfold pickX
  rw [h]
  simp only [Int.toNat_natCast]
  rw [if_neg (by decide), if_pos hd]
theorem pickX_err {now : Int} {X : List It} {L : List LotV} {N : List LineV} {id : Int} {i : Nat} (h : lineX N id = ((i : Int), true)) (hd : (N.getD i default).day = now) (hor : partsE X (N.getD i default).code (N.getD i default).qty ≠ 0 ∨ fillX (hereL L) (wantsX now ((endL X (N.getD i default).code (N.getD i default).qty).getD [])) = none) : pickX now X L N id = .error 159 := by
  unfold pickX
  rw [h]
  simp only [Int.toNat_natCast]
  rw [if_neg (by decide), if_neg (fun h => h hd)]
  rcases hor with h1 | h1
  · rw [if_pos h1]
  · by_cases h2 : partsE X (N.getD i default).code (N.getD i default).qty = 0
    · rw [if_neg (fun h => h h2), h1]
    · rw [if_pos h2]
theorem pickX_ok {now : Int} {X : List It} {L : List LotV} {N : List LineV} {id : Int} {i : Nat} (h : lineX N id = ((i : Int), true)) (hd : (N.getD i default).day = now) (h2 : partsE X (N.getD i default).code (N.getD i default).qty = 0) {U : List UseV} {f : Int → Int} (hf : fillX (hereL L) (wantsX now ((endL X (N.getD i default).code (N.getD i default).qty).getD [])) = some (U, f)) : pickX now X L N id = .ok (leftL (usum U) L, (N.set i { N.getD i default with st := 2 }), U) := by
  unfold pickX
  rw [h]
  simp only [Int.toNat_natCast]
  rw [if_neg (by decide), if_neg (fun h => h hd), if_neg (fun h => h h2), hf]
set_option maxHeartbeats 8000000 in
set_option maxRecDepth 100000 in
theorem rpick_any (B : Nat) (now nl nx id : Int) (a1 : Option Addr) (n1 c1 : Nat) (X1 : List It) (a2 : Option Addr) (n2 c2 : Nat) (L : List LotV) (a3 : Option Addr) (n3 c3 : Nat) (N : List LineV) (w : World) (h : StIn B w a1 n1 c1 X1 a2 n2 c2 L a3 n3 c3 N) (hB : B ≤ w.heap.size) (hnow : -9223372036854775808 ≤ now ∧ now ≤ 9223372036854775807) :
    Calls Tryz.prog 9 #[.agg #[.int .i64 now, .int .i64 nl, .int .i64 nx, .slice a1 n1 c1, .slice a2 n2 c2, .slice a3 n3 c3], .int .i64 id] w fun e w' => RPickPost w now nl nx a1 n1 c1 X1 L N id e w' := by
  obtain ⟨W0, hW0⟩ : ∃ V, V = (w.alloc (.cells #[.int .i64 now, .int .i64 nl, .int .i64 nx, .slice a1 n1 c1, .slice a2 n2 c2, .slice a3 n3 c3] 26)).alloc (.cells #[.int .i64 0, .int .i64 0, .int .i64 0, .slice none 0 0, .slice none 0 0, .slice none 0 0] 26) := ⟨_, rfl⟩
  have HB0 : Hid (Below w.heap.size w W0) := Lib.hid (by rw [hW0]; exact ((Below.refl _ w).alloc (Nat.le_refl _) _).alloc (by rw [World.size_alloc]; omega) _)
  have hs0 : W0.heap.size = w.heap.size + 2 := by rw [hW0, World.size_alloc, World.size_alloc]
  have hp0 : W0.heap[w.heap.size]? = some (stObj now nl nx (.slice a1 n1 c1) (.slice a2 n2 c2) (.slice a3 n3 c3)) := by
    rw [hW0, ((Below.refl (w.heap.size + 1) (w.alloc _)).alloc (by rw [World.size_alloc]; omega) _).block w.heap.size (by omega)]
    exact heap_alloc_new _ _
  have hq0 : W0.heap[w.heap.size + 1]? = some (stObj 0 0 0 (.slice none 0 0) (.slice none 0 0) (.slice none 0 0)) := by
    rw [hW0]
    have := heap_alloc_new (w.alloc (.cells #[.int .i64 now, .int .i64 nl, .int .i64 nx, .slice a1 n1 c1, .slice a2 n2 c2, .slice a3 n3 c3] 26)) (stObj 0 0 0 (.slice none 0 0) (.slice none 0 0) (.slice none 0 0))
    rw [World.size_alloc] at this
    exact this
  have y5 := (stObj_cells hp0).2.2.2.2.2
  obtain ⟨f0, f1, f2, f3, f4, f5⟩ := st_frozen6 hq0
  obtain ⟨r0, r1, r2, r3, r4, r5⟩ := stObj_cells hq0
  have H := Lib.hid h
  have HP0 := Lib.hid hp0
  have HQ0 := Lib.hid hq0
  have HNOW := Lib.hid hnow
  have HW0 := Lib.hid hW0
  have hle3 := h.lines.le; have hmx3 := h.lines.mx
  have HN3 := Lib.hid h.lines.len
  have hn3 := h.nN
  clear hW0 h hp0 hq0 hnow
  go_enter Tryz.func9, Tryz.ntmps9
  go_upto_region 1 with (fail)
  rw [← HW0.out]
  go_wp2_with (fail)
  go_loopw [7, 8, 9] (fun s7 s8 s9 wr => ∃ (j n : Nat) (at_ : Int), s7 = .int .i64 at_ ∧ s8 = .int .i64 n ∧ s9 = .int .i64 j ∧ j ≤ n3 ∧ Hid (CntR N id j n at_) ∧ W0 = wr) (fun _ _ s9 _ => n3 - (intOf s9).toNat)
  case atStart => exact ⟨0, 0, -1, rfl, rfl, rfl, Nat.zero_le _, Lib.hid (CntR.start N id), rfl⟩
  case round =>
    obtain ⟨j, n, at_, rfl, rfl, rfl, hj, HC, rfl⟩ := hrel
    by_cases hlt : j < n3
    · obtain ⟨b3, o3, rfl, hb3, hc⟩ := lineE_at (H.out.lines.below (HB0.out.mono hB)) (by omega)
      obtain ⟨g0, -⟩ := hc j hlt
      have hjN := Lib.hid (show j < N.length by rw [← HN3.out]; exact hlt)
      have HYs := Lib.hid (HC.out.yes hjN.out)
      have HNs := Lib.hid (HC.out.no hjN.out)
      have hnj := HC.out.le
      clear hc
      generalize (N.getD j default).id = dj at g0 HYs HNs
      by_cases he : dj = id
      · have HC2 := Lib.hid (HYs.out he)
        subst he
        go_wp2_with (fail)
        go_roundw
        case rel => exact ⟨j + 1, n + 1, j, by first | rfl | go_num, by go_num, by go_num, by omega, HC2, by first | rfl | trivial⟩
        case measure => simp [intOf]; omega
      · have HC2 := Lib.hid (HNs.out he)
        go_wp2_with (fail)
        go_roundw
        case rel => exact ⟨j + 1, n, at_, by first | rfl | go_num, by first | rfl | go_num, by go_num, by omega, HC2, by first | rfl | trivial⟩
        case measure => simp [intOf]; omega
    · have hjn : n3 = j := by omega
      have hcd := HC.out
      rw [← hjn, HN3.out] at hcd
      have hge : ¬ (j : Int) < (n3 : Int) := by omega
      rcases hcd.done with ⟨hn1, hlx⟩ | ⟨hn1, k, hk, hat, hlx⟩
      · have E := Lib.hid (pickX_no (now := now) (X := X1) (L := L) hlx)
        have hn1i : ¬ (n : Int) = 1 := by omega
        clear hcd hlx hjn HC hn1
        go_wp2_with (fail)
        have hput := st_put HQ0.out 0 0 0 (.slice none 0 0) (.slice none 0 0) (.slice none 0 0)
        obtain ⟨W9, hW9⟩ : ∃ V, V = put6 W0 (w.heap.size + 1) 0 0 0 (.slice none 0 0) (.slice none 0 0) (.slice none 0 0) := ⟨_, rfl⟩
        have HW9 := Lib.hid hW9
        unfold put6 at hW9
        rw [← hW9] at hput ⊢
        clear hW9
        refine bodyPost_ret (results_cell_tmp2 (P := Tryz.prog) (fn := Tryz.f9) (p := 4) (u := 5) (v := 6) (ty := 26) rfl _ W9 (w.heap.size + 1) 26 _ (0, 0) _ rfl hput Tryz.underlying26 rfl (by kernel_rfl)) rfl ?_
        rw [HW9.out]
        unfold RPickPost
        rw [E.out]
        exact ⟨put6_below HB0.out _ _ _ _ _ _ _ (by omega), rfl⟩
      · have hn1i : (n : Int) = 1 := by omega
        have hk3 : k < n3 := by rw [HN3.out]; exact hk
        subst hat
        obtain ⟨b3, o3, rfl, hb3, hc⟩ := lineE_at (H.out.lines.below (HB0.out.mono hB)) (by omega)
        have g5 := (hc k hk3).2.2.2.2.2.1
        have HLX := Lib.hid hlx
        have HK := Lib.hid hk
        clear hcd hlx hjn HC hn1 hc hk
        by_cases hst : (N.getD k default).st = 1
        · have HL1 : Hid (lineX N id = ((k : Int), true)) := Lib.hid (by rw [HLX.out, decide_eq_true hst])
          rw [hst] at g5
          clear hst
          go_upto_if 51 with (fail)
          iterate 4 go_step
          refine rk_line B w.heap.size (w.heap.size + 1) k now nl nx a1 n1 c1 X1 a2 n2 c2 L (some ⟨b3, o3, none⟩) n3 c3 N W0 _ (H.out.below (HB0.out.mono hB)) (Nat.le_trans hB HB0.out.size) HP0.out HQ0.out HK.out HNOW.out ?_ ?_ ?_ _ _ _ _ _ _ _ _ _ _ _ _ _ _ _ _ _ _ _ _ _ _ _ _ _ _ _ _ _ _ _ _ _ _ _ _ _ _ _ _ _ _ _ _ _ _ _ _ _ _ _ _ _ _ _ _ _ _ _ _ _ _ _ _ _ _ _ _ _ _ _ _ _ _ _ _ _ _ _ _ _ _ _ _ _ _ _ _ _ _ _ _ _ _ _ _ _ _ _ _ _ _ _ _ _ _ _ _ _ _ _ _ _ _ _ _ _ _ _ _ _ _ _ _ _ _ _ _ _ _ _ _ _ _ _ _ _ _ _ _ _ _ _ _ _ _ _ _ _ _ _ _ _ _ _ _ _ _ _ _ _ _ _ _ _ _ _ _ _ _ _ _ _ _ _ _ _ _ _ _ _ _ _ _ _ _ _ _ _ _ _ _ _ _ _ _ _
          · intro hd w' h1
            unfold RPickPost
            rw [pickX_day HL1.out hd]
            exact ⟨h1 _ _ HB0.out (by omega), rfl⟩
          · intro hd hor w' h1
            unfold RPickPost
            rw [pickX_err HL1.out hd hor]
            exact ⟨h1 _ _ HB0.out (by omega), rfl⟩
          · intro U f hd h2 hf va vc g c' ua uc w' h1 h3 h4 h5
            unfold RPickPost
            rw [pickX_ok HL1.out hd h2 hf]
            refine ⟨h1 _ _ HB0.out (by omega), va, vc, g, c', ua, uc, ?_, h3.mono (by omega), ?_, h5.mono (by omega)⟩
            · rw [show ((N.set k { N.getD k default with st := 2 })).length = N.length by simp]
            · rw [show ((N.set k { N.getD k default with st := 2 })).length = N.length by simp]
              exact h4.mono (by omega)
        · have E := Lib.hid (pickX_no (now := now) (X := X1) (L := L) (by rw [HLX.out, decide_eq_false hst]))
          generalize (N.getD k default).st = sk at g5 hst
          go_wp2_with (fail)
          have hput := st_put HQ0.out 0 0 0 (.slice none 0 0) (.slice none 0 0) (.slice none 0 0)
          obtain ⟨W9, hW9⟩ : ∃ V, V = put6 W0 (w.heap.size + 1) 0 0 0 (.slice none 0 0) (.slice none 0 0) (.slice none 0 0) := ⟨_, rfl⟩
          have HW9 := Lib.hid hW9
          unfold put6 at hW9
          rw [← hW9] at hput ⊢
          clear hW9
          refine bodyPost_ret (results_cell_tmp2 (P := Tryz.prog) (fn := Tryz.f9) (p := 4) (u := 5) (v := 6) (ty := 26) rfl _ W9 (w.heap.size + 1) 26 _ (0, 0) _ rfl hput Tryz.underlying26 rfl (by kernel_rfl)) rfl ?_
          rw [HW9.out]
          unfold RPickPost
          rw [E.out]
          exact ⟨put6_below HB0.out _ _ _ _ _ _ _ (by omega), rfl⟩
end Go.Proofs.YtbedbhlebfnohaaGreat
