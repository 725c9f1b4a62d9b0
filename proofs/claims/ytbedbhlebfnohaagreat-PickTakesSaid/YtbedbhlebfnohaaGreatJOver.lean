/- pick.Pick: the parts, and what is wanted. (Printed by gen/pk.py.) Plain Lean: where the document's Join lays a part. Lists of lists of parts that a call lays; parts of a list. A part set in own memory; the walk of storemankit.OverParts. -/
import Derived.Test.YtbedbhlebfnohaaGreatKLeaf
import Derived.Test.YtbedbhlebfnohaaGreatKZ
import Derived.Test.YtbedbhlebfnohaaGreatJBase
import Derived.Test.YtbedbhlebfnohaaGreatJPureB
import Derived.Test.YtbedbhlebfnohaaGreatKLentI
import Derived.Test.YtbedbhlebfnohaaGreatKMark
namespace Go.Proofs.YtbedbhlebfnohaaGreat
open Go.RowKit Go.Sort Go.Lib Go.Shelf

theorem wantsX_succ {now : Int} {S : List Pt} {j : Nat} (hj : j < S.length) : wantsX now (S.take (j + 1)) = wantsX now (S.take j) ++ [⟨(S.getD j default).1, now, (S.getD j default).2⟩] := by
  unfold wantsX
  rw [List.take_succ_eq_append_getElem hj, List.map_append, List.getD_eq_getElem?_getD, List.getElem?_eq_getElem hj]
  rfl
set_option maxHeartbeats 8000000 in
set_option maxRecDepth 100000 in
theorem pk_parts (B p q r i : Nat) (now nl nx : Int) (a1 : Option Addr) (n1 c1 : Nat) (X : List It) (a2 : Option Addr) (n2 c2 : Nat) (L : List LotV) (a3 : Option Addr) (n3 c3 : Nat) (N : List LineV) (W : World) (R : Ending → World → Prop) (h : StIn B W a1 n1 c1 X a2 n2 c2 L a3 n3 c3 N) (hB : B ≤ W.heap.size)
    (hp : W.heap[p]? = some (stObj now nl nx (.slice a1 n1 c1) (.slice a2 n2 c2) (.slice a3 n3 c3))) (hq : W.heap[q]? = some (stObj 0 0 0 (.slice none 0 0) (.slice none 0 0) (.slice none 0 0))) (hr : W.cell? ⟨r, 0, none⟩ = some (.int .i64 i)) (hrl : r < W.heap.size) (hi : i < N.length) (hnow : -9223372036854775808 ≤ now ∧ now ≤ 9223372036854775807)
    (hR1 : partsE X (N.getD i default).code (N.getD i default).qty ≠ 0 ∨ fillX (hereL L) (wantsX now ((endL X (N.getD i default).code (N.getD i default).qty).getD [])) = none → ∀ wT, Below W.heap.size W wT → R (.returned (.tuple #[.agg #[.int .i64 0, .int .i64 0, .int .i64 0, .slice none 0 0, .slice none 0 0, .slice none 0 0], .slice none 0 0, .int .i64 159])) (put6 wT q 0 0 0 (.slice none 0 0) (.slice none 0 0) (.slice none 0 0)))
    (hR2 : ∀ U f, partsE X (N.getD i default).code (N.getD i default).qty = 0 → fillX (hereL L) (wantsX now ((endL X (N.getD i default).code (N.getD i default).qty).getD [])) = some (U, f) → ∀ a1 c1 Y a2 c2 a3 c3 ua uc wT, Below W.heap.size W wT → StOwn W.heap.size wT (.slice a1 X.length c1) (.slice a2 (leftL (usum U) L).length c2) (.slice a3 (N.set i { N.getD i default with st := 2 }).length c3) X Y (leftL (usum U) L) (N.set i { N.getD i default with st := 2 }) → useE.Own W.heap.size wT (.slice ua U.length uc) U →
      R (.returned (.tuple #[.agg #[.int .i64 now, .int .i64 nl, .int .i64 nx, .slice a1 X.length c1, .slice a2 (leftL (usum U) L).length c2, .slice a3 (N.set i { N.getD i default with st := 2 }).length c3], .slice ua U.length uc, .int .i64 0])) (put6 wT q now nl nx (.slice a1 X.length c1) (.slice a2 (leftL (usum U) L).length c2) (.slice a3 (N.set i { N.getD i default with st := 2 }).length c3))) (s0 s1 s3 s5 s6 s8 s9 s10 s11 s12 s13 s14 s15 s16 s17 s18 s19 s20 s21 s22 s23 s24 s25 s26 s27 s28 s29 s30 s31 s32 s33 s34 s35 s36 s37 s38 s39 s40 s41 s42 s43 s44 s45 s46 s47 s48 s49 s50 s51 s52 s53 s54 s55 s56 s57 s58 s59 s60 s61 s62 s63 s64 s65 s66 s67 s68 s69 s70 s71 s72 s73 s74 s75 s76 s77 s78 s79 s80 s81 s82 s83 s84 s85 s86 s87 s88 s89 s90 s91 s92 s93 s94 s95 s96 s97 s98 s99 s100 s101 s102 s103 s104 s105 s106 s107 s108 s109 s110 s111 : Value) :
    Code.wp Tryz.prog (dropQ 3 (Tryz.f8.body.getD .skip)) (bodyPost Tryz.prog Tryz.f8 R) ⟨List.toArray (s0 :: s1 :: (.pointer (some ⟨p, 0, none⟩)) :: s3 :: (.pointer (some ⟨q, 0, none⟩)) :: s5 :: s6 :: (.pointer (some ⟨r, 0, none⟩)) :: s8 :: s9 :: s10 :: s11 :: s12 :: s13 :: s14 :: s15 :: s16 :: s17 :: s18 :: s19 :: s20 :: s21 :: s22 :: s23 :: s24 :: s25 :: s26 :: s27 :: s28 :: s29 :: s30 :: s31 :: s32 :: s33 :: s34 :: s35 :: s36 :: s37 :: s38 :: s39 :: s40 :: s41 :: s42 :: s43 :: s44 :: s45 :: s46 :: s47 :: s48 :: s49 :: s50 :: s51 :: s52 :: s53 :: s54 :: s55 :: s56 :: s57 :: s58 :: s59 :: s60 :: s61 :: s62 :: s63 :: s64 :: s65 :: s66 :: s67 :: s68 :: s69 :: s70 :: s71 :: s72 :: s73 :: s74 :: s75 :: s76 :: s77 :: s78 :: s79 :: s80 :: s81 :: s82 :: s83 :: s84 :: s85 :: s86 :: s87 :: s88 :: s89 :: s90 :: s91 :: s92 :: s93 :: s94 :: s95 :: s96 :: s97 :: s98 :: s99 :: s100 :: s101 :: s102 :: s103 :: s104 :: s105 :: s106 :: s107 :: s108 :: s109 :: s110 :: s111 :: []), []⟩ W := by
  have hpl : p < W.heap.size := (Array.getElem?_eq_some_iff.1 hp).1
  have hql : q < W.heap.size := (Array.getElem?_eq_some_iff.1 hq).1
  have hin : i < n3 := by rw [h.lines.len]; exact hi
  obtain ⟨b3, o3, rfl, hb3, hc⟩ := lineE_at h.lines (by have := h.lines.le; omega)
  obtain ⟨-, -, g2, -, -, -, -, g7⟩ := hc i hin
  have hok := h.lines.ok_at hin
  have HP := Lib.hid (fun (V : World) (hb : Below W.heap.size W V) => Parts_any B a1 n1 c1 X (N.getD i default).code (N.getD i default).qty V (h.items.below (hb.mono hB)) (Nat.le_trans hB hb.size) hok.2.2.2.2.2.2.2 hok.2.2.1.1 hok.2.2.1.2)
  obtain ⟨y0, y1, y2, y3, y4, y5⟩ := stObj_cells hp
  have HQ := Lib.hid (fun (V : World) (hb : Below W.heap.size W V) => (hb.block q hql).trans hq)
  have HR1 := Lib.hid hR1
  have HR2 := Lib.hid hR2
  have H := Lib.hid h
  have HPP := Lib.hid hp
  have HRR := Lib.hid hr
  have HNOW := Lib.hid hnow
  have HI := Lib.hid hi
  have h3le := h.lines.le
  have h3mx := h.lines.mx
  have hb3W : b3 < W.heap.size := Nat.lt_of_lt_of_le hb3 hB
  clear hc hok hR1 hR2 h hp hq hi hnow
  generalize hx : N.getD i default = x at g2 g7 HP HR1 HR2
  obtain ⟨x1, x2, xq, x4, x5, x6, x7, xc⟩ := x
  simp only at g2 g7 HP HR1 HR2
  simp only [encStr] at g7
  conv => arg 2; whnf
  go_wp2_with (fail)
  go_region_held3 (fun w' => (w'.cell? ⟨p, 3, none⟩ = some (.slice a1 n1 c1) ∧ w'.cell? ⟨p, 5, none⟩ = some (.slice (some ⟨b3, o3, none⟩) n3 c3)) ∧ (w'.cell? ⟨r, 0, none⟩ = some (.int .i64 i) ∧ w'.cell? ⟨b3, o3 + i * 8 + 7, none⟩ = some (.string ⟨xc.toArray⟩)) ∧ (w'.cell? ⟨b3, o3 + i * 8 + 2, none⟩ = some (.int .i64 xq) ∧ Hid (Below W.heap.size W w'))) (first | exact ⟨⟨by assumption, by assumption⟩, ⟨by assumption, by assumption⟩, ⟨by assumption, Lib.hid (below_drew (Below.refl _ _))⟩⟩ | exact ⟨⟨by assumption, by assumption⟩, ⟨by assumption, by assumption⟩, ⟨by assumption, by assumption⟩⟩ | go_keep | exact ⟨⟨by assumption, by assumption⟩, ⟨by assumption, by assumption⟩, ⟨by assumption, Lib.hid (below_drew (Hid.out (by assumption)))⟩⟩) (first | (go_at_call 20; refine (HP.out _ (below_drew (Below.refl _ _))).mono ?_; rintro e wP ⟨hbP, vP, rfl, hne, hoP⟩; have d0 := (hbP.cell (p := ⟨p, 3, none⟩) hpl).trans y3; have d1 := (hbP.cell (p := ⟨p, 5, none⟩) hpl).trans y5; have d2 := (hbP.cell (p := ⟨r, 0, none⟩) hrl).trans hr; have d3 := (hbP.cell (p := ⟨b3, o3 + i * 8 + 7, none⟩) hb3W).trans g7; have d4 := (hbP.cell (p := ⟨b3, o3 + i * 8 + 2, none⟩) hb3W).trans g2; have HBP : Hid (Below W.heap.size W wP) := Lib.hid ((below_drew (Below.refl _ _)).trans hbP); have HNE := Lib.hid hne; have HOP := Lib.hid hoP; clear hbP hne hoP))
  clear d0 d1 d2 d3 d4 g2 g7 y0 y1 y2 y3 y4 y5 HP
  by_cases hE : partsE X xc xq = 0
  · obtain ⟨pa, pc, S, rfl, hend, hPS, hop⟩ := HOP.out hE
    obtain ⟨pa', pc', e9, hrp⟩ := hop.rp (fine_ps (fun x hx => (H.out.items.ok x hx).code) hPS)
    injection e9 with e7 e8 e9
    subst e7; subst e9
    have HRP := Lib.hid hrp
    have hple := hrp.le; have hpmx := hrp.mx
    have HPS := Lib.hid hPS
    have HFN := Lib.hid (fine_ps (fun x hx => (H.out.items.ok x hx).code) hPS)
    rw [hend] at HR1 HR2
    simp only [Option.getD_some] at HR1 HR2
    have HR1' := Lib.hid (fun h => HR1.out (.inr h))
    have HR2' := Lib.hid (fun U f => HR2.out U f hE)
    have HSL : Hid (S.length ≤ 100000000) := Lib.hid (by have e1 := hPS.len; have e2 := H.out.nI; have e3 := H.out.items.len; omega)
    rw [hE]
    clear hE hop hrp hPS hend HR1 HR2 HOP HNE
    have hpB := HBP.out.size
    have HFILL := Lib.hid (fun (V : World) (hbV : Below wP.heap.size wP V) (wa : Option Addr) (wc : Nat) (ho : wantE.Own wP.heap.size V (.slice wa S.length wc) (wantsX now S)) (hin2 : wantE.In V.heap.size V wa S.length wc (wantsX now S)) => let hWV := HBP.out.trans (hbV.mono hpB); pk_fill B p q r i now nl nx a1 n1 c1 X a2 n2 c2 L (some ⟨b3, o3, none⟩) n3 c3 N wa S.length wc (wantsX now S) V R (H.out.below (hWV.mono hB)) (Nat.le_trans hB hWV.size) ((hWV.block p hpl).trans HPP.out) (HQ.out V hWV) ((hWV.cell (p := ⟨r, 0, none⟩) hrl).trans HRR.out) (Nat.lt_of_lt_of_le hrl hWV.size) HI.out hin2 (fun hn wT hbT => HR1'.out hn wT (hWV.trans (hbT.mono hWV.size))) (fun U f hf b1 d1 Y b2 d2 b3 d3 ua uc wT hbT hso huo => by rw [hx] at hso ⊢; exact HR2'.out U f hf b1 d1 Y b2 d2 b3 d3 ua uc wT (hWV.trans (hbT.mono hWV.size)) (hso.mono hWV.size) (huo.mono hWV.size)))
    have cnow : ∀ V, Below wP.heap.size wP V → V.cell? ⟨p, 0, none⟩ = some (.int .i64 now) := fun V hbV => ((HBP.out.trans (hbV.mono hpB)).cell (p := ⟨p, 0, none⟩) hpl).trans (stObj_cells HPP.out).1
    have HCN := Lib.hid cnow
    clear cnow
    go_wp2_with (fail)
    go_loopw [11, 63] (fun s11 s63 wr => ∃ (j : Nat) (va : Option Addr) (vn vc : Nat), s11 = .slice va vn vc ∧ s63 = .int .i64 j ∧ j ≤ S.length ∧ Hid (wantE.Own wP.heap.size wr (.slice va vn vc) (wantsX now (S.take j))) ∧ Hid (Below wP.heap.size wP wr)) (fun _ s63 _ => S.length - (intOf s63).toNat)
    case atStart => exact ⟨0, none, 0, 0, rfl, rfl, Nat.zero_le _, Lib.hid (El.Own.nil _ _ _), Lib.hid (Below.refl _ _)⟩
    case round =>
      obtain ⟨j, va, vn, vc, rfl, rfl, hj, HO, Hb⟩ := hrel
      by_cases hlt : j < S.length
      · obtain ⟨b, o, rfl, hbb, g0, g1⟩ := (HRP.out.below Hb.out).part hlt
        have Hsucc := Lib.hid (wantsX_succ (now := now) hlt)
        generalize S.getD j default = pt at g0 g1 Hsucc
        obtain ⟨pi, pq⟩ := pt
        simp only at g0 g1 Hsucc
        simp only [encStr] at g0
        obtain ⟨W3, hW3⟩ : ∃ V, V = wr.alloc (.cells #[.string ⟨pi.toArray⟩, .int .i64 pq] 60) := ⟨_, rfl⟩
        have bW3 : Hid (Below wr.heap.size wr W3) := Lib.hid (by rw [hW3]; exact below_alloc _ _)
        have z0 : W3.cell? ⟨wr.heap.size, 0, none⟩ = some (.string ⟨pi.toArray⟩) := by rw [hW3]; simp
        have z1 : W3.cell? ⟨wr.heap.size, 1, none⟩ = some (.int .i64 pq) := by rw [hW3]; simp
        have z2 := HCN.out W3 (Hb.out.trans (bW3.out.mono Hb.out.size))
        have HW3 := Lib.hid hW3
        have hB3 := Lib.hid (Hb.out.trans (bW3.out.mono Hb.out.size))
        have hOA : Hid (wantE.Own wP.heap.size (W3.alloc (.cells #[.string ⟨pi.toArray⟩, .int .i64 now, .int .i64 pq] 62)) (.slice va vn vc) (wantsX now (S.take j))) := Lib.hid ((HO.out.below bW3.out).below (below_alloc _ _))
        have hBA : Hid (Below wP.heap.size wP (W3.alloc (.cells #[.string ⟨pi.toArray⟩, .int .i64 now, .int .i64 pq] 62))) := Lib.hid (hB3.out.trans ((below_alloc _ _).mono hB3.out.size))
        have hVN : Hid (vn = (wantsX now (S.take j)).length ∧ vn ≤ 100000000) := Lib.hid (by
          obtain ⟨a9, c9, e9, -⟩ := HO.out.form
          injection e9 with e1 e2 e3
          refine ⟨e2, ?_⟩
          rw [e2]
          unfold wantsX
          rw [List.length_map, List.length_take]
          have := HSL.out
          omega)
        clear hW3
        go_upto_region 13 with (fail)
        rw [← HW3.out]
        go_wp2_with (at_builtin; refine El.wpList_append1 wantE rfl _ _ rfl wP.heap.size (.slice va vn vc) (wantsX now (S.take j)) ⟨pi, now, pq⟩ (vn + 1) (by rw [← hVN.out.1]) rfl hOA.out _ 1 rfl (wantE_lit _ ⟨pi, now, pq⟩ _) hBA.out.size (by have := hVN.out; omega) ?_; intro g9 c9 w9 hown9 hg9 hgg9; have O9 : Hid (wantE.Own wP.heap.size w9 (.slice (some ⟨g9, 0, none⟩) (vn + 1) c9) (wantsX now (S.take (j + 1)))) := Lib.hid (by rw [Hsucc.out]; exact hown9); have B9 := Lib.hid (hBA.out.grown hg9 hBA.out.size (fun k e => (hOA.out.ge k e).1)); clear hown9 hg9 hgg9)
        go_roundw
        case rel => exact ⟨j + 1, some ⟨g9, 0, none⟩, vn + 1, c9, by go_num, by go_num, by omega, O9, B9⟩
        case measure => simp [intOf]; omega
      · have hjs : S.length = j := by omega
        have hO := HO.out
        rw [List.take_of_length_le (by omega)] at hO
        obtain ⟨wa, wc, e9, hin2⟩ := hO.in_ (fun x hx => by
          unfold wantsX at hx
          obtain ⟨pt, hpt, rfl⟩ := List.mem_map.1 hx
          have := HFN.out pt hpt
          have hn := HNOW.out
          exact ⟨this.1, hn, this.2⟩)
        have hwl : (wantsX now S).length = S.length := by unfold wantsX; rw [List.length_map]
        rw [hwl] at e9 hin2
        injection e9 with e1 e2 e3
        subst e1; subst e2; subst e3
        have HX := Lib.hid (HFILL.out wr Hb.out _ _ hO hin2)
        have hge : ¬ (j : Int) < (S.length : Int) := by omega
        clear hO hin2 hjs
        go_upto_region 11 with (fail)
        iterate 14 go_step
        exact HX.out _ _ _ _ _ _ _ _ _ _ _ _ _ _ _ _ _ _ _ _ _ _ _ _ _ _ _ _ _ _ _ _ _ _ _ _ _ _ _ _ _ _ _ _ _ _ _ _ _ _ _ _ _ _ _ _ _ _ _ _ _ _ _ _ _ _ _ _ _ _ _ _ _ _ _ _ _ _ _ _ _ _ _ _ _ _ _ _ _ _ _ _ _ _ _ _ _ _ _ _ _ _ _ _ _ _ _ _
  · have hqT := HQ.out wP HBP.out
    obtain ⟨f0, f1, f2, f3, f4, f5⟩ := st_frozen6 hqT
    obtain ⟨z0, z1, z2, z3, z4, z5⟩ := stObj_cells hqT
    have HER := Lib.hid (HR1.out (.inl hE) wP HBP.out)
    have hv := HNE.out hE
    subst hv
    clear hqT HR1 HR2 HOP HNE
    generalize partsE X xc xq = er at hE
    go_wp2_with (fail)
    have hput := st_put (HQ.out wP HBP.out) 0 0 0 (.slice none 0 0) (.slice none 0 0) (.slice none 0 0)
    obtain ⟨W9, hW9⟩ : ∃ V, V = put6 wP q 0 0 0 (.slice none 0 0) (.slice none 0 0) (.slice none 0 0) := ⟨_, rfl⟩
    have HW9 := Lib.hid hW9
    unfold put6 at hW9
    rw [← hW9] at hput ⊢
    clear hW9
    refine bodyPost_ret (results_cell_tmp2 (P := Tryz.prog) (fn := Tryz.f8) (p := 4) (u := 5) (v := 6) (ty := 26) rfl _ W9 q 26 _ (0, 0) _ rfl hput Tryz.underlying26 rfl (by kernel_rfl)) rfl ?_
    rw [HW9.out]
    exact HER.out
end Go.Proofs.YtbedbhlebfnohaaGreat
namespace Go.Proofs.YtbedbhlebfnohaaGreat

theorem setAt_found : ∀ {S : List Pt} {x : List UInt8} {at_ : Nat} (n : Int), at_ < S.length → (∀ j, j < at_ → (S.getD j default).1 < x) → (S.getD at_ default).1 = x → setAt S x n = S.set at_ (x, n) ∧ sumAt S x = (S.getD at_ default).2
  | [], x, at_, n, h, _, _ => by simp at h
  | p :: S, x, 0, n, _, _, he => by
    have he' : p.1 = x := he
    have hlt : ¬ p.1 < x := fun h => by rw [he'] at h; exact List.lt_irrefl _ h
    unfold setAt sumAt
    rw [if_neg hlt, if_pos he', if_pos he']
    exact ⟨rfl, rfl⟩
  | p :: S, x, at_ + 1, n, h, hl, he => by
    have h0 : p.1 < x := hl 0 (by omega)
    have ih := setAt_found (S := S) (x := x) (at_ := at_) n (by simpa using h) (fun j hj => hl (j + 1) (by omega)) he
    have hne : ¬ p.1 = x := fun e => by rw [e] at h0; exact List.lt_irrefl _ h0
    unfold setAt sumAt
    rw [if_pos h0, if_neg hne, ih.1, ih.2]
    exact ⟨rfl, rfl⟩
theorem setAt_ins : ∀ {S : List Pt} {x : List UInt8} {at_ : Nat} (n : Int), Up S → at_ ≤ S.length → (∀ j, j < at_ → (S.getD j default).1 < x) → (at_ < S.length → x < (S.getD at_ default).1) → setAt S x n = S.take at_ ++ (x, n) :: S.drop at_ ∧ sumAt S x = 0
  | [], x, at_, n, _, h, _, _ => by
    obtain rfl : at_ = 0 := by simpa using h
    exact ⟨rfl, rfl⟩
  | p :: S, x, 0, n, hu, _, _, hg => by
    have h0 : x < p.1 := hg (by simp)
    have hlt : ¬ p.1 < x := fun h => lt_asymm' h h0
    have hne : ¬ p.1 = x := fun e => by rw [e] at h0; exact List.lt_irrefl _ h0
    have hno : x ∉ S.map (·.1) := fun hk => by
      obtain ⟨q, hq, e⟩ := List.mem_map.1 hk
      have h1 := (List.pairwise_cons.1 hu.1).1 q hq
      have e' : q.1 = x := e
      rw [e'] at h1
      exact lt_asymm' h1 h0
    unfold setAt sumAt
    rw [if_neg hlt, if_neg hne, if_neg hne, sumAt_none hno]
    exact ⟨rfl, rfl⟩
  | p :: S, x, at_ + 1, n, hu, h, hl, hg => by
    have h0 : p.1 < x := hl 0 (by omega)
    have ih := setAt_ins (S := S) (x := x) (at_ := at_) n hu.tail (by simpa using h) (fun j hj => hl (j + 1) (by omega)) (fun hh => hg (by simpa using hh))
    have hne : ¬ p.1 = x := fun e => by rw [e] at h0; exact List.lt_irrefl _ h0
    unfold setAt sumAt
    rw [if_pos h0, if_neg hne, ih.1, ih.2]
    exact ⟨rfl, rfl⟩
theorem ins_at (S : List Pt) (x : List UInt8) (at_ : Nat) (h : at_ ≤ S.length) : (S.take at_ ++ [(x, 0)] ++ S.drop at_).length = S.length + 1 ∧ (S.take at_ ++ [(x, 0)] ++ S.drop at_).getD at_ default = (x, 0) ∧ ∀ n : Int, (S.take at_ ++ [(x, 0)] ++ S.drop at_).set at_ (x, n) = S.take at_ ++ (x, n) :: S.drop at_ := by
  have hl : (S.take at_).length = at_ := by rw [List.length_take]; omega
  refine ⟨by simp; omega, ?_, fun n => ?_⟩
  · rw [List.append_assoc, List.getD_eq_getElem?_getD, List.getElem?_append_right (by omega), hl, Nat.sub_self]
    simp
  · rw [List.append_assoc, List.set_append_right _ _ (by omega), hl, Nat.sub_self]
    simp
end Go.Proofs.YtbedbhlebfnohaaGreat
namespace Go.Proofs.YtbedbhlebfnohaaGreat
open Go.RowKit

theorem RP.nil (B : Nat) (w : World) : RP B w none 0 0 [] := ⟨rfl, Nat.le_refl _, by omega, (fun p hp => by cases hp), fun h => by omega⟩
theorem RP.emp (B : Nat) (w : World) (a : Option Addr) : RP B w a 0 0 [] := ⟨rfl, Nat.le_refl _, by omega, (fun p hp => by cases hp), fun h => by omega⟩
theorem RP.drop {B : Nat} {w : World} {b o n c : Nat} {P : List Pt} (h : RP B w (some ⟨b, o, none⟩) n c P) {k : Nat} (hk : k ≤ n) : RP B w (some ⟨b, if k = c then o else o + k * 2, none⟩) (n - k) (c - k) (P.drop k) := by
  refine ⟨by rw [List.length_drop, ← h.len], by have := h.le; omega, by have := h.mx; omega, fun p hp => h.fine p (List.mem_of_mem_drop hp), fun hc => ?_⟩
  obtain ⟨b', o', e, hB, hcell⟩ := h.at_ (by omega)
  cases e
  have hne : k ≠ c := by omega
  rw [if_neg hne]
  refine ⟨b, o + k * 2, rfl, hB, fun i hi => ?_⟩
  have := hcell (k + i) (by omega)
  have e2 : (P.drop k).getD i default = P.getD (k + i) default := by
    rw [List.getD_eq_getElem?_getD, List.getElem?_drop, List.getD_eq_getElem?_getD]
  rw [e2, show o + k * 2 + i * 2 = o + (k + i) * 2 by omega]
  exact this
theorem RP.drop' {B : Nat} {w : World} {b o n c : Nat} {P : List Pt} (h : RP B w (some ⟨b, o, none⟩) n c P) {k : Nat} (hk : k ≤ n) : RP B w (if c = k then some ⟨b, o, none⟩ else some ⟨b, o + k * 2, none⟩) (n - k) (c - k) (P.drop k) := by
  have := h.drop hk
  rw [show (if c = k then some (⟨b, o, none⟩ : Addr) else some ⟨b, o + k * 2, none⟩) = some ⟨b, if k = c then o else o + k * 2, none⟩ by
    by_cases e : c = k
    · rw [if_pos e, if_pos e.symm]
    · rw [if_neg e, if_neg (fun e2 => e e2.symm)]]
  exact this
theorem RV.one {B : Nat} {W : World} {a : Option Addr} {n c : Nat} {P : List Pt} (h : RP B W a n c P) (hB : B ≤ W.heap.size) : RV (W.heap.size + 1) (W.alloc (.cells #[.slice a n c] 55)) (some ⟨W.heap.size, 0, none⟩) 1 1 [⟨a, n, c, P⟩] := by
  refine ⟨rfl, Nat.le_refl _, by omega, fun _ => ⟨W.heap.size, 0, rfl, by omega, fun i hi => ?_⟩, fun i hi => ?_⟩
  · obtain rfl : i = 0 := by omega
    simp only [World.cell?, (Go.MapKept.heap_alloc W _).1]; rfl
  · obtain rfl : i = 0 := by omega
    exact (h.below ((Below.refl _ W).alloc hB _)).mono (by omega)
theorem RV.three {B : Nat} {W : World} {a0 a1 a2 : Option Addr} {n0 n1 n2 c0 c1 c2 : Nat} {P0 P1 P2 : List Pt} (h0 : RP B W a0 n0 c0 P0) (h1 : RP B W a1 n1 c1 P1) (h2 : RP B W a2 n2 c2 P2) (hB : B ≤ W.heap.size) :
    RV (W.heap.size + 1) (W.alloc (.cells #[.slice a0 n0 c0, .slice a1 n1 c1, .slice a2 n2 c2] 55)) (some ⟨W.heap.size, 0, none⟩) 3 3 [⟨a0, n0, c0, P0⟩, ⟨a1, n1, c1, P1⟩, ⟨a2, n2, c2, P2⟩] := by
  refine ⟨rfl, Nat.le_refl _, by omega, fun _ => ⟨W.heap.size, 0, rfl, by omega, fun i hi => ?_⟩, fun i hi => ?_⟩
  · rcases (show i = 0 ∨ i = 1 ∨ i = 2 by omega) with rfl | rfl | rfl <;> simp only [World.cell?, (Go.MapKept.heap_alloc W _).1] <;> rfl
  · rcases (show i = 0 ∨ i = 1 ∨ i = 2 by omega) with rfl | rfl | rfl
    · exact (h0.below ((Below.refl _ W).alloc hB _)).mono (by omega)
    · exact (h1.below ((Below.refl _ W).alloc hB _)).mono (by omega)
    · exact (h2.below ((Below.refl _ W).alloc hB _)).mono (by omega)
theorem JoinPost.shift {W W1 w' : World} {T : Option (List Pt)} {e : Ending} (h : JoinPost W1 T e w') (hb : Below W.heap.size W W1) : JoinPost W T e w' := by
  cases T with
  | none => exact ⟨hb.trans (h.1.mono hb.size), h.2⟩
  | some S =>
    obtain ⟨h1, a', c', he, ho⟩ := h
    exact ⟨hb.trans (h1.mono hb.size), a', c', he, ho.mono hb.size⟩
/-- Join of one list, of three. -/
theorem join_one {B : Nat} {W : World} {a : Option Addr} {n c : Nat} {P : List Pt} (h : RP B W a n c P) (hB : B ≤ W.heap.size) (ht : P.length ≤ 1048576) :
    Calls Tryz.prog 51 #[.slice (some ⟨W.heap.size, 0, none⟩) 1 1] (W.alloc (.cells #[.slice a n c] 55)) fun e w' => JoinPost W (joinL [] P) e w' := by
  have e : flatV [⟨a, n, c, P⟩] = P := by simp [flatV]
  have := Join_any (H := Unit) _ _ _ _ _ _ (RV.one h hB) (by simp) (by rw [e]; exact ht)
  rw [e] at this
  exact this.mono fun e w' h => h.shift ((Below.refl _ W).alloc (Nat.le_refl _) _)
theorem join_three {B : Nat} {W : World} {a0 a1 a2 : Option Addr} {n0 n1 n2 c0 c1 c2 : Nat} {P0 P1 P2 : List Pt} (h0 : RP B W a0 n0 c0 P0) (h1 : RP B W a1 n1 c1 P1) (h2 : RP B W a2 n2 c2 P2) (hB : B ≤ W.heap.size) (ht : (P0 ++ P1 ++ P2).length ≤ 1048576) :
    Calls Tryz.prog 51 #[.slice (some ⟨W.heap.size, 0, none⟩) 3 3] (W.alloc (.cells #[.slice a0 n0 c0, .slice a1 n1 c1, .slice a2 n2 c2] 55)) fun e w' => JoinPost W (joinL [] (P0 ++ P1 ++ P2)) e w' := by
  have e : flatV [⟨a0, n0, c0, P0⟩, ⟨a1, n1, c1, P1⟩, ⟨a2, n2, c2, P2⟩] = P0 ++ P1 ++ P2 := by simp [flatV]
  have := Join_any (H := Unit) _ _ _ _ _ _ (RV.three h0 h1 h2 hB) (by simp) (by rw [e]; exact ht)
  rw [e] at this
  exact this.mono fun e w' h => h.shift ((Below.refl _ W).alloc (Nat.le_refl _) _)
end Go.Proofs.YtbedbhlebfnohaaGreat
namespace Go.Proofs.YtbedbhlebfnohaaGreat
open Go.RowKit

theorem OP.at_ {base g n c : Nat} {w : World} {P : List Pt} (h : OP base w (.slice (some ⟨g, 0, none⟩) n c) P) {i : Nat} (hi : i < P.length) :
    (w.cell? ⟨g, i * 2, none⟩ = some (encStr (P.getD i default).1) ∧ w.cell? ⟨g, i * 2 + 1, none⟩ = some (.int .i64 (P.getD i default).2)) ∧ w.frozen? ⟨g, i * 2, none⟩ = false ∧ w.frozen? ⟨g, i * 2 + 1, none⟩ = false := by
  obtain ⟨h1, ⟨h2, -⟩ | ⟨g', cap, cur, hv, hg, hh, hle, hcap, hsz, htk⟩⟩ := h
  · cases h2
  · cases hv
    have hat := cellsP_at P i hi
    rw [← htk] at hat
    rw [List.getElem?_take, if_pos (by omega), List.getElem?_take, if_pos (by omega)] at hat
    refine ⟨?_, ?_, ?_⟩
    · simp only [World.cell?, hh, Option.isSome_none, Bool.false_eq_true, if_false]
      simpa using hat
    · simp [World.frozen?, hh]
    · simp [World.frozen?, hh]
theorem cellsP_set : ∀ (P : List Pt) (i : Nat) (p : Pt), i < P.length → cellsP (P.set i p) = ((cellsP P).set (i * 2) (encStr p.1)).set (i * 2 + 1) (.int .i64 p.2)
  | [], i, p, h => by simp at h
  | q :: P, 0, p, _ => by simp [cellsP, encP]
  | q :: P, i + 1, p, h => by
    have ih := cellsP_set P i p (by simpa using h)
    have e : ∀ (r : Pt) (R : List Pt), cellsP (r :: R) = encStr r.1 :: Value.int .i64 r.2 :: cellsP R := fun r R => rfl
    rw [List.set_cons_succ, e, e, ih, show (i + 1) * 2 = i * 2 + 1 + 1 by omega]
    simp
theorem OP.set {base g n c : Nat} {w : World} {P : List Pt} (h : OP base w (.slice (some ⟨g, 0, none⟩) n c) P) {i : Nat} (hi : i < P.length) (p : Pt) :
    OP base ((w.setCell ⟨g, i * 2, none⟩ (encStr p.1)).setCell ⟨g, i * 2 + 1, none⟩ (.int .i64 p.2)) (.slice (some ⟨g, 0, none⟩) n c) (P.set i p) := by
  obtain ⟨h1, ⟨h2, -⟩ | ⟨g', cap, cur, hv, hg, hh, hle, hcap, hsz, htk⟩⟩ := h
  · cases h2
  · cases hv
    have e1 := heap_setCell_same w g (i * 2) cur 60 (encStr p.1) hh
    have e2 := heap_setCell_same _ g (i * 2 + 1) _ 60 (.int .i64 p.2) e1
    refine ⟨by rw [cellsP_len], .inr ⟨g, _, _, by rw [List.length_set], hg, e2, by rw [List.length_set]; exact hle, hcap, by simp [hsz], ?_⟩⟩
    rw [cellsP_set P i p hi, List.length_set, ← htk]
    simp only [Array.toList_setIfInBounds]
    rw [List.take_set, List.take_set]
theorem OP.some_len {base g n c : Nat} {w : World} {P : List Pt} (h : OP base w (.slice (some ⟨g, 0, none⟩) n c) P) : n = P.length ∧ n ≤ c ∧ c ≤ 9223372036854775807 := by
  obtain ⟨g', vc, e, hle, hmx⟩ := h.form (fun e => by cases e)
  cases e
  exact ⟨rfl, hle, hmx⟩
theorem grown_set (w : World) (g i j : Nat) (u v : Value) : w.grownBy ((w.setCell ⟨g, i, none⟩ u).setCell ⟨g, j, none⟩ v) (some g) :=
  ⟨rfl, rfl, rfl, by simp [World.setCell], fun k _ hne => by
    have h : k ≠ g := fun e => hne (by rw [e])
    rw [Below.heap_setCell _ _ _ _ h, Below.heap_setCell _ _ _ _ h]⟩

end Go.Proofs.YtbedbhlebfnohaaGreat
