/- The document's Pick: the lots that are here, what is wanted, the filling. (Printed by gen/rpk.py.) -/
import Derived.Test.YtbedbhlebfnohaaGreatQRkB
import Derived.Test.YtbedbhlebfnohaaGreatQRefF
namespace Go.Proofs.YtbedbhlebfnohaaGreat
open Go.RowKit Go.Sort Go.Lib Go.Shelf

theorem hereL_succ {X : List LotV} {j : Nat} (h : j < X.length) : hereL (X.take (j + 1)) = hereL (X.take j) ++ if (X.getD j default).arr then [X.getD j default] else [] := by
  have e : X.getD j default = X[j] := by rw [List.getD_eq_getElem?_getD, List.getElem?_eq_getElem h]; rfl
  unfold hereL
  rw [List.take_succ_eq_append_getElem h, List.filter_append, e, List.filter_cons, List.filter_nil]
theorem hereL_len (X : List LotV) : (hereL X).length ≤ X.length := by
  unfold hereL
  exact List.length_filter_le _ _
theorem fill_bounds2 {L : List LotV} {V0 : List WantV} {U : List UseV} {f : Int → Int} (h : fillX (hereL L) V0 = some (U, f)) : ∀ x ∈ L, x.arr = true → ∀ k, k ≤ U.length → -9223372036854775808 ≤ x.qty - usum (U.take k) x.id ∧ x.qty - usum (U.take k) x.id ≤ 9223372036854775807 := by
  obtain ⟨hm, h1, h2⟩ := fillX_sum h
  obtain ⟨m1, m2, m3, m4, m5⟩ := mayB_iff.1 hm
  have hq : ∀ u ∈ U, 0 < u.qty := fun u hu => (h2 u hu).1
  intro x hx ha k hk
  have hin : x ∈ hereL L := by unfold hereL; rw [List.mem_filter]; exact ⟨hx, ha⟩
  have e1 := h1 x hin
  have e2 := lotOk_iff.1 (m3 x hin)
  have e3 := usum_take hq x.id k
  omega
set_option maxHeartbeats 8000000 in
set_option maxRecDepth 100000 in
theorem rk_fill (B p q i : Nat) (now nl nx : Int) (a1 : Option Addr) (n1 c1 : Nat) (X1 : List It) (a2 : Option Addr) (n2 c2 : Nat) (L : List LotV) (a3 : Option Addr) (n3 c3 : Nat) (N : List LineV) (pa : Option Addr) (pc : Nat) (S : List Pt) (W : World) (R : Ending → World → Prop) (h : StIn B W a1 n1 c1 X1 a2 n2 c2 L a3 n3 c3 N) (hB : B ≤ W.heap.size)
    (hp : W.heap[p]? = some (stObj now nl nx (.slice a1 n1 c1) (.slice a2 n2 c2) (.slice a3 n3 c3))) (hq : W.heap[q]? = some (stObj 0 0 0 (.slice none 0 0) (.slice none 0 0) (.slice none 0 0))) (hi : i < N.length) (hnow : -9223372036854775808 ≤ now ∧ now ≤ 9223372036854775807)
    (hS : RP W.heap.size W pa S.length pc S) (hSl : S.length ≤ 100000000) (hSf : Fine S)
    (hR1 : fillX (hereL L) (wantsX now S) = none → ∀ w', (∀ B0 w0, Below B0 w0 W → B0 ≤ q → Below B0 w0 w') → R (.returned (.tuple #[.agg #[.int .i64 0, .int .i64 0, .int .i64 0, .slice none 0 0, .slice none 0 0, .slice none 0 0], .slice none 0 0, .int .i64 159])) w')
    (hR2 : ∀ U f, fillX (hereL L) (wantsX now S) = some (U, f) → ∀ va vc g c' ua uc w', (∀ B0 w0, Below B0 w0 W → B0 ≤ q → Below B0 w0 w') → lotE.Own W.heap.size w' (.slice va (leftL (usum U) L).length vc) (leftL (usum U) L) → lineE.Own W.heap.size w' (.slice (some ⟨g, 0, none⟩) N.length c') (N.set i { N.getD i default with st := 2 }) → useE.Own W.heap.size w' (.slice ua U.length uc) U →
      R (.returned (.tuple #[.agg #[.int .i64 now, .int .i64 nl, .int .i64 nx, .slice a1 n1 c1, .slice va (leftL (usum U) L).length vc, .slice (some ⟨g, 0, none⟩) N.length c'], .slice ua U.length uc, .int .i64 0])) w') (s0 s1 s3 s5 s6 s8 s9 s10 s12 s13 s14 s15 s16 s17 s18 s19 s20 s21 s22 s23 s24 s25 s26 s27 s28 s29 s30 s31 s32 s33 s34 s35 s36 s37 s38 s39 s40 s41 s42 s43 s44 s45 s46 s47 s48 s49 s50 s51 s52 s53 s54 s55 s56 s57 s58 s59 s60 s61 s62 s63 s64 s65 s66 s67 s68 s69 s70 s71 s72 s73 s74 s75 s76 s77 s78 s79 s80 s81 s82 s83 s84 s85 s86 s87 s88 s89 s90 s91 s92 s93 s94 s95 s96 s97 s98 s99 s100 s101 s102 s103 s104 s105 s106 s107 s108 s109 s110 s111 s112 s113 s114 s115 s116 s117 s118 s119 s120 s121 s122 s123 s124 s125 s126 s127 s128 s129 s130 s131 s132 s133 s134 s135 s136 s137 s138 s139 s140 s141 s142 s143 s144 s145 s146 s147 s148 s149 s150 s151 s152 s153 s154 s155 s156 s157 s158 s159 s160 s161 s162 s163 s164 s165 s166 s167 s168 s169 s170 s171 s172 s173 s174 s175 s176 s177 s178 s179 s180 s181 s182 s183 s184 s185 s186 s187 s188 s189 s190 s191 s192 s193 s194 s195 s196 s197 s198 s199 : Value) :
    Code.wp Tryz.prog (dropQ 9 (Tryz.f9.body.getD .skip)) (bodyPost Tryz.prog Tryz.f9 R) ⟨List.toArray (s0 :: s1 :: (.pointer (some ⟨p, 0, none⟩)) :: s3 :: (.pointer (some ⟨q, 0, none⟩)) :: s5 :: s6 :: (.int .i64 i) :: s8 :: s9 :: s10 :: (.slice pa S.length pc) :: s12 :: s13 :: s14 :: s15 :: s16 :: s17 :: s18 :: s19 :: s20 :: s21 :: s22 :: s23 :: s24 :: s25 :: s26 :: s27 :: s28 :: s29 :: s30 :: s31 :: s32 :: s33 :: s34 :: s35 :: s36 :: s37 :: s38 :: s39 :: s40 :: s41 :: s42 :: s43 :: s44 :: s45 :: s46 :: s47 :: s48 :: s49 :: s50 :: s51 :: s52 :: s53 :: s54 :: s55 :: s56 :: s57 :: s58 :: s59 :: s60 :: s61 :: s62 :: s63 :: s64 :: s65 :: s66 :: s67 :: s68 :: s69 :: s70 :: s71 :: s72 :: s73 :: s74 :: s75 :: s76 :: s77 :: s78 :: s79 :: s80 :: s81 :: s82 :: s83 :: s84 :: s85 :: s86 :: s87 :: s88 :: s89 :: s90 :: s91 :: s92 :: s93 :: s94 :: s95 :: s96 :: s97 :: s98 :: s99 :: s100 :: s101 :: s102 :: s103 :: s104 :: s105 :: s106 :: s107 :: s108 :: s109 :: s110 :: s111 :: s112 :: s113 :: s114 :: s115 :: s116 :: s117 :: s118 :: s119 :: s120 :: s121 :: s122 :: s123 :: s124 :: s125 :: s126 :: s127 :: s128 :: s129 :: s130 :: s131 :: s132 :: s133 :: s134 :: s135 :: s136 :: s137 :: s138 :: s139 :: s140 :: s141 :: s142 :: s143 :: s144 :: s145 :: s146 :: s147 :: s148 :: s149 :: s150 :: s151 :: s152 :: s153 :: s154 :: s155 :: s156 :: s157 :: s158 :: s159 :: s160 :: s161 :: s162 :: s163 :: s164 :: s165 :: s166 :: s167 :: s168 :: s169 :: s170 :: s171 :: s172 :: s173 :: s174 :: s175 :: s176 :: s177 :: s178 :: s179 :: s180 :: s181 :: s182 :: s183 :: s184 :: s185 :: s186 :: s187 :: s188 :: s189 :: s190 :: s191 :: s192 :: s193 :: s194 :: s195 :: s196 :: s197 :: s198 :: s199 :: []), []⟩ W := by
  have hpl : p < W.heap.size := (Array.getElem?_eq_some_iff.1 hp).1
  have hql : q < W.heap.size := (Array.getElem?_eq_some_iff.1 hq).1
  have HPC := Lib.hid (fun (V : World) (hb : Below W.heap.size W V) => (stObj_cells ((hb.block p hpl).trans hp)).2.2.2.2.1)
  have HPN := Lib.hid (fun (V : World) (hb : Below W.heap.size W V) => (stObj_cells ((hb.block p hpl).trans hp)).1)
  have HQ := Lib.hid (fun (V : World) (hb : Below W.heap.size W V) => (hb.block q hql).trans hq)
  have HPP := Lib.hid hp
  have HR1 := Lib.hid hR1
  have HR2 := Lib.hid hR2
  have H := Lib.hid h
  have HS := Lib.hid hS
  have HSF := Lib.hid hSf
  have HI := Lib.hid hi
  have HNOW := Lib.hid hnow
  have hle2 := h.lots.le; have hmx2 := h.lots.mx; have hleS := hS.le; have hmxS := hS.mx
  have HLn := Lib.hid h.lots.len
  have hn2 := h.nL
  clear hp hq hR1 hR2 h hS hSf hi hnow
  conv => arg 2; whnf
  go_wp2_with (fail)
  go_loopw [13, 14] (fun s13 s14 wr => ∃ (j : Nat) (va : Option Addr) (vn vc : Nat), s13 = .slice va vn vc ∧ s14 = .int .i64 j ∧ j ≤ n2 ∧ Hid (lotE.Own W.heap.size wr (.slice va vn vc) (hereL (L.take j))) ∧ Hid (Below W.heap.size W wr)) (fun _ s14 _ => n2 - (intOf s14).toNat)
  case atStart => exact ⟨0, none, 0, 0, rfl, rfl, Nat.zero_le _, Lib.hid (El.Own.nil _ _ _), Lib.hid (Below.refl _ _)⟩
  case round =>
    obtain ⟨j, va, vn, vc, rfl, rfl, hj, HO, Hb⟩ := hrel
    have pc4 := HPC.out _ Hb.out
    by_cases hlt : j < n2
    · obtain ⟨b, o2, rfl, hbB, hc⟩ := lotE_at (H.out.lots.below (Hb.out.mono hB)) (by omega)
      obtain ⟨g0, g1, g2, g3, g4, g5⟩ := hc j hlt
      have hjL := Lib.hid (show j < L.length by rw [← HLn.out]; exact hlt)
      have Hsucc := Lib.hid (hereL_succ hjL.out)
      have hNN := Lib.hid (show vn = (hereL (L.take j)).length ∧ vn ≤ 100000000 from by
        have h1 : vn = (hereL (L.take j)).length := by obtain ⟨a9, c9, e9, -⟩ := HO.out.form; injection e9
        have h2 := hereL_len (L.take j)
        rw [List.length_take] at h2
        exact ⟨h1, by omega⟩)
      clear hc
      generalize L.getD j default = x at g0 g1 g2 g3 g4 g5 Hsucc
      obtain ⟨id, item, fr, ut, qty, arr⟩ := x
      simp only at g0 g1 g2 g3 g4 g5 Hsucc
      simp only [encStr] at g1
      cases arr with
      | true =>
        have HS2 : Hid (hereL (L.take (j + 1)) = hereL (L.take j) ++ [⟨id, item, fr, ut, qty, true⟩]) := Lib.hid (by rw [Hsucc.out, if_pos rfl])
        have hOA : Hid (lotE.Own W.heap.size (wr.alloc (.cells #[.int .i64 id, .string ⟨item.toArray⟩, .int .i64 fr, .int .i64 ut, .int .i64 qty, .bool true] 46)) (.slice va vn vc) (hereL (L.take j))) := Lib.hid (HO.out.below (below_alloc _ _))
        have hBA : Hid (Below W.heap.size W (wr.alloc (.cells #[.int .i64 id, .string ⟨item.toArray⟩, .int .i64 fr, .int .i64 ut, .int .i64 qty, .bool true] 46))) := Lib.hid (Hb.out.trans ((below_alloc _ _).mono Hb.out.size))
        go_wp2_with (at_builtin; refine El.wpList_append1 lotE rfl _ _ rfl W.heap.size (.slice va vn vc) (hereL (L.take j)) ⟨id, item, fr, ut, qty, true⟩ (vn + 1) (by rw [← hNN.out.1]) rfl hOA.out _ 1 rfl (lotE_lit _ ⟨id, item, fr, ut, qty, true⟩ _) hBA.out.size (by have := hNN.out; omega) ?_; intro g9 c9 w9 hown9 hg9 hgg9; have O9 : Hid (lotE.Own W.heap.size w9 (.slice (some ⟨g9, 0, none⟩) (vn + 1) c9) (hereL (L.take (j + 1)))) := Lib.hid (by rw [HS2.out]; exact hown9); have B9 := Lib.hid (hBA.out.grown hg9 hBA.out.size (fun k e => (hOA.out.ge k e).1)); clear hown9 hg9 hgg9)
        go_roundw
        case rel => exact ⟨j + 1, some ⟨g9, 0, none⟩, vn + 1, c9, by go_num, by go_num, by omega, O9, B9⟩
        case measure => simp [intOf]; omega
      | false =>
        have HS2 : Hid (hereL (L.take (j + 1)) = hereL (L.take j)) := Lib.hid (by rw [Hsucc.out, if_neg (by decide), List.append_nil])
        go_wp2_with (fail)
        go_roundw
        case rel => exact ⟨j + 1, va, vn, vc, by go_num, by go_num, by omega, Lib.hid (by rw [HS2.out]; exact HO.out), Hb⟩
        case measure => simp [intOf]; omega
    · have hjn : n2 = j := by omega
      have hO := HO.out
      rw [List.take_of_length_le (by rw [← HLn.out]; omega)] at hO
      obtain ⟨ha, hc, e9, hinH⟩ := hO.in_ (fun x hx => by unfold hereL at hx; exact H.out.lots.fine x (List.mem_filter.1 hx).1)
      injection e9 with e1 e2 e3
      subst e1; subst e2; subst e3
      obtain ⟨wh, hwh⟩ : ∃ V, V = wr := ⟨_, rfl⟩
      rw [← hwh] at hinH Hb pc4 ⊢
      have HIN := Lib.hid hinH
      have hHl := Lib.hid (hereL_len L)
      clear hwh hO hinH HO
      go_wp2_with (fail)
      go_loopw [15, 16] (fun s15 s16 wr => ∃ (j : Nat) (va : Option Addr) (vn vc : Nat), s15 = .slice va vn vc ∧ s16 = .int .i64 j ∧ j ≤ S.length ∧ Hid (wantE.Own wh.heap.size wr (.slice va vn vc) (wantsX now (S.take j))) ∧ Hid (Below wh.heap.size wh wr)) (fun _ s16 _ => S.length - (intOf s16).toNat)
      case atStart => exact ⟨0, none, 0, 0, rfl, rfl, Nat.zero_le _, Lib.hid (El.Own.nil _ _ _), Lib.hid (Below.refl _ _)⟩
      case round =>
        obtain ⟨k, wa, wn, wc, rfl, rfl, hk, HO, Hbw⟩ := hrel
        have HBW := Lib.hid (Hb.out.trans (Hbw.out.mono Hb.out.size))
        by_cases hlk : k < S.length
        · obtain ⟨b, o, rfl, hbb, g0, g1⟩ := (HS.out.below HBW.out).part hlk
          have Hsucc := Lib.hid (wantsX_succ (now := now) hlk)
          have n0 := HPN.out _ HBW.out
          generalize S.getD k default = pt at g0 g1 Hsucc
          obtain ⟨pi, pq⟩ := pt
          simp only at g0 g1 Hsucc
          simp only [encStr] at g0
          have d0 : wr.drew.cell? ⟨b, o + k * 2, none⟩ = some (.string ⟨pi.toArray⟩) := g0
          have d1 : wr.drew.cell? ⟨b, o + k * 2 + 1, none⟩ = some (.int .i64 pq) := g1
          have d2 : wr.drew.cell? ⟨p, 0, none⟩ = some (.int .i64 now) := n0
          have hOA : Hid (wantE.Own wh.heap.size (wr.drew.alloc (.cells #[.string ⟨pi.toArray⟩, .int .i64 now, .int .i64 pq] 62)) (.slice wa wn wc) (wantsX now (S.take k))) := Lib.hid ((El.Own.drew HO.out).below (below_alloc _ _))
          have hBA : Hid (Below wh.heap.size wh (wr.drew.alloc (.cells #[.string ⟨pi.toArray⟩, .int .i64 now, .int .i64 pq] 62))) := Lib.hid ((below_drew Hbw.out).trans ((below_alloc _ _).mono Hbw.out.size))
          have hVN : Hid (wn = (wantsX now (S.take k)).length ∧ wn ≤ 100000000) := Lib.hid (by
            obtain ⟨a9, c9, e9, -⟩ := HO.out.form
            injection e9 with e1 e2 e3
            refine ⟨e2, ?_⟩
            rw [e2]
            unfold wantsX
            rw [List.length_map, List.length_take]
            omega)
          go_wp2_with (fail)
          go_region_law (first | (refine El.step_append1 wantE rfl _ _ rfl wh.heap.size (.slice wa wn wc) (wantsX now (S.take k)) ⟨pi, now, pq⟩ (wn + 1) (by rw [← hVN.out.1]) rfl hOA.out _ 1 rfl (wantE_lit _ ⟨pi, now, pq⟩ _) hBA.out.size (by have := hVN.out; omega) ?_; intro g9 c9 w9 hown9 hg9 hgg9; have O9 : Hid (wantE.Own wh.heap.size w9 (.slice (some ⟨g9, 0, none⟩) (wn + 1) c9) (wantsX now (S.take (k + 1)))) := Lib.hid (by rw [Hsucc.out]; exact hown9); have B9 := Lib.hid (hBA.out.grown hg9 hBA.out.size (fun k e => (hOA.out.ge k e).1)); clear hown9 hg9 hgg9))
          all_goals (
            clear d0 d1 d2
            go_wp2_with (fail)
            go_roundw
            case rel => exact ⟨k + 1, some ⟨g9, 0, none⟩, wn + 1, c9, by go_num, by go_num, by omega, O9, B9⟩
            case measure => simp [intOf]; omega)
        · have hkn : S.length = k := by omega
          have hO := HO.out
          rw [List.take_of_length_le (by omega)] at hO
          obtain ⟨wa', wc', e9, hin2⟩ := hO.in_ (fun x hx => by
            unfold wantsX at hx
            obtain ⟨pt, hpt, rfl⟩ := List.mem_map.1 hx
            have := HSF.out pt hpt
            have hn := HNOW.out
            exact ⟨this.1, hn, this.2⟩)
          have hwl : (wantsX now S).length = S.length := by unfold wantsX; rw [List.length_map]
          rw [hwl] at e9 hin2
          injection e9 with e1 e2 e3
          subst e1; subst e2; subst e3
          have HF := Lib.hid (rFill_any wr.heap.size va _ (hereL L).length vc _ _ (hereL L) (wantsX now S) wr ((HIN.out.below Hbw.out).mono Hbw.out.size) hin2 (Nat.le_refl _))
          have hge : ¬ (k : Int) < (S.length : Int) := by omega
          clear hO hin2 HO hkn
          cases hX : fillX (hereL L) (wantsX now S) with
          | none =>
            have HE := Lib.hid (HR1.out hX)
            unfold FlPost at HF
            rw [hX] at HF
            simp only at HF
            clear hX HR1 HR2
            go_wp2_with (go_at_call 29; refine HF.out.mono ?_; rintro e w3 ⟨hb3, rfl⟩; have B3 := Lib.hid (HBW.out.trans (hb3.mono HBW.out.size)); have hqT := HQ.out w3 B3.out; obtain ⟨f0, f1, f2, f3, f4, f5⟩ := st_frozen6 hqT; obtain ⟨z0, z1, z2, z3, z4, z5⟩ := stObj_cells hqT; clear hqT hb3)
            have hput := st_put (HQ.out w3 B3.out) 0 0 0 (.slice none 0 0) (.slice none 0 0) (.slice none 0 0)
            obtain ⟨W9, hW9⟩ : ∃ V, V = put6 w3 q 0 0 0 (.slice none 0 0) (.slice none 0 0) (.slice none 0 0) := ⟨_, rfl⟩
            have HW9 := Lib.hid hW9
            unfold put6 at hW9
            rw [← hW9] at hput ⊢
            clear hW9
            refine bodyPost_ret (results_cell_tmp2 (P := Tryz.prog) (fn := Tryz.f9) (p := 4) (u := 5) (v := 6) (ty := 26) rfl _ W9 q 26 _ (0, 0) _ rfl hput Tryz.underlying26 rfl (by kernel_rfl)) rfl ?_
            rw [HW9.out]
            exact HE.out _ (fun B0 w0 hb hbq => put6_below (hb.trans (B3.out.mono (by omega))) _ _ _ _ _ _ _ hbq)
          | some T =>
            obtain ⟨U, f⟩ := T
            have HBD := Lib.hid (fill_bounds2 hX)
            have HOK := Lib.hid (fill_bounds H.out.lots.fine hX).2.2.1
            have HE := Lib.hid (HR2.out U f hX)
            unfold FlPost at HF
            rw [hX] at HF
            simp only at HF
            clear hX HR1 HR2
            go_upto_if 127 with (go_at_call 29; refine HF.out.mono ?_; rintro e w3 ⟨hb3, v, rfl, ho3⟩; obtain ⟨ua, uc, rfl, hinU⟩ := ho3.in_ HOK.out; have HO3 := Lib.hid (El.Own.mono ho3 HBW.out.size); have B3 := Lib.hid (HBW.out.trans (hb3.mono HBW.out.size)); have HIU := Lib.hid hinU; clear hb3 ho3 hinU)
            iterate 4 go_step
            exact rk_left B p q i now nl nx a1 n1 c1 a2 n2 c2 L a3 n3 c3 N ua U.length uc U w3 R ((B3.out.block p hpl).trans HPP.out) (HQ.out w3 B3.out) (H.out.lots.below (B3.out.mono hB)) (H.out.lines.below (B3.out.mono hB)) HIU.out (Nat.le_trans hB B3.out.size) HI.out hn2 H.out.nN HBD.out (fun va vc g c' w' h1 h2 h3 h4 => HE.out va vc g c' ua uc w' (fun B0 w0 hb hbq => h1 B0 w0 (hb.trans (B3.out.mono (by omega))) hbq) (h3.mono B3.out.size) (h4.mono B3.out.size) (HO3.out.keep fun b e => h2 b (HO3.out.ge b e).2 (by have := (HO3.out.ge b e).1; omega))) _ _ _ _ _ _ _ _ _ _ _ _ _ _ _ _ _ _ _ _ _ _ _ _ _ _ _ _ _ _ _ _ _ _ _ _ _ _ _ _ _ _ _ _ _ _ _ _ _ _ _ _ _ _ _ _ _ _ _ _ _ _ _ _ _ _ _ _ _ _ _ _ _ _ _ _ _ _ _ _ _ _ _ _ _ _ _ _ _ _ _ _ _ _ _ _ _ _ _ _ _ _ _ _ _ _ _ _ _ _ _ _ _ _ _ _ _ _ _ _ _ _ _ _ _ _ _ _ _ _ _ _ _ _ _ _ _ _ _ _ _ _ _ _ _ _ _ _ _ _ _ _ _ _ _ _ _ _ _ _ _ _ _ _ _ _ _ _ _ _ _ _ _ _ _ _ _ _ _ _ _ _ _ _ _ _ _ _ _ _ _ _ _ _ _ _
end Go.Proofs.YtbedbhlebfnohaaGreat
