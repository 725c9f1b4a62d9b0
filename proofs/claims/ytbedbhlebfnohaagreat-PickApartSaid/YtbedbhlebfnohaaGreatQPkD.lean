/- pick.Pick: the lots that are here, and the filling. (Printed by gen/pk.py.) What is in so many of an item in the end: its leaves, joined. Plain Lean. Small lemmas on items and lists in memory. pick.Pick: the parts, and what is wanted. (Printed by gen/pk.py.) -/
import Derived.Test.YtbedbhlebfnohaaGreatQRefP
import Derived.Test.YtbedbhlebfnohaaGreatQIdxLine
import Derived.Test.YtbedbhlebfnohaaGreatQItC
import Derived.Test.YtbedbhlebfnohaaGreatTxA
namespace Go.Proofs.YtbedbhlebfnohaaGreat
open Go.RowKit Go.Sort Go.Lib Go.Shelf

theorem getD_memU {U : List UseV} {j : Nat} (hj : j < U.length) : U.getD j default ∈ U := by
  rw [List.getD_eq_getElem?_getD, List.getElem?_eq_getElem hj]; exact List.getElem_mem _
theorem fill_bounds {L : List LotV} {V0 : List WantV} {U : List UseV} {f : Int → Int} (hf : ∀ x ∈ L, okLot x) (h : fillX (hereL L) V0 = some (U, f)) : (∀ x ∈ L, x.arr = true → -9223372036854775808 ≤ x.qty - usum U x.id ∧ x.qty - usum U x.id ≤ 9223372036854775807) ∧ (∀ j, j < U.length → -4611686018427387904 ≤ usum (U.take j) (U.getD j default).lot ∧ usum (U.take j) (U.getD j default).lot ≤ 4611686018427387903 ∧ 0 ≤ (U.getD j default).qty ∧ (U.getD j default).qty ≤ 4611686018427387903) ∧ (∀ u ∈ U, okUse u) ∧ (∀ u ∈ U, 0 < u.qty) := by
  obtain ⟨hm, h1, h2⟩ := fillX_sum h
  obtain ⟨m1, m2, m3, m4, m5⟩ := mayB_iff.1 hm
  have hq : ∀ u ∈ U, 0 < u.qty := fun u hu => (h2 u hu).1
  have hle : ∀ a ∈ hereL L, usum U a.id ≤ 1073741824 ∧ 1 ≤ a.id ∧ a.id ≤ a.id := fun a ha => by
    have e1 := h1 a ha
    have e2 := lotOk_iff.1 (m3 a ha)
    omega
  have hone : ∀ j, j < U.length → (U.getD j default).qty ≤ usum U (U.getD j default).lot := fun j hj => by
    have e1 := usum_succ hj (U.getD j default).lot
    rw [if_pos rfl] at e1
    have e2 := (usum_take hq (U.getD j default).lot (j + 1)).2
    have e3 := (usum_take hq (U.getD j default).lot j).1
    omega
  refine ⟨fun x hx ha => ?_, fun j hj => ?_, fun u hu => ?_, hq⟩
  · have hin : x ∈ hereL L := by unfold hereL; rw [List.mem_filter]; exact ⟨hx, ha⟩
    have e1 := h1 x hin
    have e2 := lotOk_iff.1 (m3 x hin)
    have e3 := usum_nonneg hq x.id
    omega
  · obtain ⟨a, ha, hid⟩ := (h2 _ (getD_memU hj)).2.1
    have e1 := hle a ha
    rw [hid] at e1
    have e2 := usum_take hq (U.getD j default).lot j
    have e3 := hq _ (getD_memU hj)
    have e4 := hone j hj
    omega
  · obtain ⟨j, hj, rfl⟩ : ∃ j, j < U.length ∧ U.getD j default = u := by
      obtain ⟨j, hj, rfl⟩ := List.mem_iff_getElem.1 hu
      exact ⟨j, hj, by rw [List.getD_eq_getElem?_getD, List.getElem?_eq_getElem hj]; rfl⟩
    obtain ⟨e5, ⟨a, ha, hid⟩, k, hk, hw⟩ := h2 _ hu
    have e1 := hle a ha
    rw [hid] at e1
    have e4 := hone j hj
    have e6 := (hf a (by unfold hereL at ha; exact (List.mem_filter.1 ha).1)).1
    rw [hid] at e6
    obtain ⟨m2, m3⟩ := And.intro m1 m2
    unfold okUse
    omega
theorem fillF_len (S : List LotV) (V0 : List WantV) : ∀ (os : List Nat) (f : Int → Int) (out U : List UseV) (f' : Int → Int), fillF S V0 os f out = some (U, f') → U.length ≤ out.length + os.length * S.length
  | [], f, out, U, f', h => by
    unfold fillF at h
    cases h
    simp
  | o :: os, f, out, U, f', h => by
    unfold fillF at h
    split at h
    · cases h
    · have e1 := fillF_len S V0 os _ _ U f' h
      have e2 := pass_len (V0.getD o default).day o (S.filter fun l => decide (l.item = (V0.getD o default).item)) f (V0.getD o default).qty
      have e3 := List.length_filter_le (fun l : LotV => decide (l.item = (V0.getD o default).item)) S
      rw [List.length_append] at e1
      rw [List.length_cons, Nat.add_mul, Nat.one_mul]
      omega
theorem fillX_len {L : List LotV} {V0 : List WantV} {U : List UseV} {f : Int → Int} (h : fillX L V0 = some (U, f)) : U.length ≤ 6000000 := by
  have hm := (fillX_sum h).1
  obtain ⟨m1, m2, -⟩ := mayB_iff.1 hm
  unfold fillX at h
  rw [if_pos hm] at h
  have e1 := fillF_len _ _ _ _ _ _ _ h
  rw [dayO_len, (srt_perm L).length_eq, List.length_nil] at e1
  have e2 : V0.length * L.length ≤ 20000 * 300 := Nat.mul_le_mul m2 m1
  omega
set_option maxHeartbeats 8000000 in
set_option maxRecDepth 100000 in
theorem pk_fill (B p q r i : Nat) (now nl nx : Int) (a1 : Option Addr) (n1 c1 : Nat) (X : List It) (a2 : Option Addr) (n2 c2 : Nat) (L : List LotV) (a3 : Option Addr) (n3 c3 : Nat) (N : List LineV) (wa : Option Addr) (wn wc : Nat) (V0 : List WantV) (W : World) (R : Ending → World → Prop) (h : StIn B W a1 n1 c1 X a2 n2 c2 L a3 n3 c3 N) (hB : B ≤ W.heap.size)
    (hp : W.heap[p]? = some (stObj now nl nx (.slice a1 n1 c1) (.slice a2 n2 c2) (.slice a3 n3 c3))) (hq : W.heap[q]? = some (stObj 0 0 0 (.slice none 0 0) (.slice none 0 0) (.slice none 0 0))) (hr : W.cell? ⟨r, 0, none⟩ = some (.int .i64 i)) (hrl : r < W.heap.size) (hi : i < N.length)
    (hV : wantE.In W.heap.size W wa wn wc V0)
    (hR1 : fillX (hereL L) V0 = none → ∀ wT, Below W.heap.size W wT → R (.returned (.tuple #[.agg #[.int .i64 0, .int .i64 0, .int .i64 0, .slice none 0 0, .slice none 0 0, .slice none 0 0], .slice none 0 0, .int .i64 159])) (put6 wT q 0 0 0 (.slice none 0 0) (.slice none 0 0) (.slice none 0 0)))
    (hR2 : ∀ U f, fillX (hereL L) V0 = some (U, f) → ∀ a1 c1 Y a2 c2 a3 c3 ua uc wT, Below W.heap.size W wT → StOwn W.heap.size wT (.slice a1 X.length c1) (.slice a2 (leftL (usum U) L).length c2) (.slice a3 (N.set i { N.getD i default with st := 2 }).length c3) X Y (leftL (usum U) L) (N.set i { N.getD i default with st := 2 }) → useE.Own W.heap.size wT (.slice ua U.length uc) U →
      R (.returned (.tuple #[.agg #[.int .i64 now, .int .i64 nl, .int .i64 nx, .slice a1 X.length c1, .slice a2 (leftL (usum U) L).length c2, .slice a3 (N.set i { N.getD i default with st := 2 }).length c3], .slice ua U.length uc, .int .i64 0])) (put6 wT q now nl nx (.slice a1 X.length c1) (.slice a2 (leftL (usum U) L).length c2) (.slice a3 (N.set i { N.getD i default with st := 2 }).length c3))) (s0 s1 s3 s5 s6 s8 s9 s10 s12 s13 s14 s15 s16 s17 s18 s19 s20 s21 s22 s23 s24 s25 s26 s27 s28 s29 s30 s31 s32 s33 s34 s35 s36 s37 s38 s39 s40 s41 s42 s43 s44 s45 s46 s47 s48 s49 s50 s51 s52 s53 s54 s55 s56 s57 s58 s59 s60 s61 s62 s63 s64 s65 s66 s67 s68 s69 s70 s71 s72 s73 s74 s75 s76 s77 s78 s79 s80 s81 s82 s83 s84 s85 s86 s87 s88 s89 s90 s91 s92 s93 s94 s95 s96 s97 s98 s99 s100 s101 s102 s103 s104 s105 s106 s107 s108 s109 s110 s111 : Value) :
    Code.wp Tryz.prog (dropQ 7 (Tryz.f8.body.getD .skip)) (bodyPost Tryz.prog Tryz.f8 R) ⟨List.toArray (s0 :: s1 :: (.pointer (some ⟨p, 0, none⟩)) :: s3 :: (.pointer (some ⟨q, 0, none⟩)) :: s5 :: s6 :: (.pointer (some ⟨r, 0, none⟩)) :: s8 :: s9 :: s10 :: (.slice wa wn wc) :: s12 :: s13 :: s14 :: s15 :: s16 :: s17 :: s18 :: s19 :: s20 :: s21 :: s22 :: s23 :: s24 :: s25 :: s26 :: s27 :: s28 :: s29 :: s30 :: s31 :: s32 :: s33 :: s34 :: s35 :: s36 :: s37 :: s38 :: s39 :: s40 :: s41 :: s42 :: s43 :: s44 :: s45 :: s46 :: s47 :: s48 :: s49 :: s50 :: s51 :: s52 :: s53 :: s54 :: s55 :: s56 :: s57 :: s58 :: s59 :: s60 :: s61 :: s62 :: s63 :: s64 :: s65 :: s66 :: s67 :: s68 :: s69 :: s70 :: s71 :: s72 :: s73 :: s74 :: s75 :: s76 :: s77 :: s78 :: s79 :: s80 :: s81 :: s82 :: s83 :: s84 :: s85 :: s86 :: s87 :: s88 :: s89 :: s90 :: s91 :: s92 :: s93 :: s94 :: s95 :: s96 :: s97 :: s98 :: s99 :: s100 :: s101 :: s102 :: s103 :: s104 :: s105 :: s106 :: s107 :: s108 :: s109 :: s110 :: s111 :: []), []⟩ W := by
  have hpl : p < W.heap.size := (Array.getElem?_eq_some_iff.1 hp).1
  have hql : q < W.heap.size := (Array.getElem?_eq_some_iff.1 hq).1
  have HCL := Lib.hid (cloneLot_any B a2 n2 c2 L W h.lots hB h.nL)
  have HDL := Lib.hid (fun (v : Value) (w1 : World) (ho : lotE.Own W.heap.size w1 v L) (hb : Below W.heap.size W w1) => delLot_any W.heap.size v L w1 ho h.lots.fine (by have := h.lots.len; have := h.nL; omega) hb.size)
  have hhl : (hereL L).length ≤ 100000000 := by
    have e1 := List.length_filter_le (fun x : LotV => x.arr) L
    have e2 := h.lots.len
    have e3 := h.nL
    unfold hereL
    omega
  have HFL := Lib.hid (fun (a : Option Addr) (c : Nat) (w2 : World) (ho : lotE.In w2.heap.size w2 a (hereL L).length c (hereL L)) (hb : Below W.heap.size W w2) => flFill_any w2.heap.size a wa (hereL L).length c wn wc (hereL L) V0 w2 ho ((hV.below hb).mono hb.size) (Nat.le_refl _) hhl)
  obtain ⟨y0, y1, y2, y3, y4, y5⟩ := stObj_cells hp
  cases hF : fillX (hereL L) V0 with
  | none =>
    have HR1 := Lib.hid (hR1 hF)
    have HQ := Lib.hid (fun (V : World) (hb : Below W.heap.size W V) => (hb.block q hql).trans hq)
    unfold FlPost at HFL
    rw [hF] at HFL
    clear hF hR1 hR2 h hp hq hr hi hV
    conv => arg 2; whnf
    go_wp2_with (first | (go_at_call 22; refine HCL.out.mono ?_; rintro e w1 ⟨⟨b', d', rfl, -, ho1⟩, hb1⟩; have HD1 := Lib.hid (HDL.out _ w1 ho1 hb1); have B1 := Lib.hid hb1; clear ho1 hb1) | (go_at_call 21; refine HD1.out.mono ?_; rintro e w2 ⟨b2, d2, rfl, ho2, hb2⟩; have B2 := Lib.hid (B1.out.trans hb2); have HF2 := Lib.hid (HFL.out b2 d2 w2 ho2 B2.out); clear ho2 hb2) | (go_at_call 24; refine HF2.out.mono ?_; rintro e w3 ⟨hb3, rfl⟩; have B3 := Lib.hid (B2.out.trans (hb3.mono B2.out.size)); have hqT := HQ.out w3 B3.out; obtain ⟨f0, f1, f2, f3, f4, f5⟩ := st_frozen6 hqT; obtain ⟨z0, z1, z2, z3, z4, z5⟩ := stObj_cells hqT; clear hqT hb3))
    have hput := st_put (HQ.out w3 B3.out) 0 0 0 (.slice none 0 0) (.slice none 0 0) (.slice none 0 0)
    obtain ⟨W9, hW9⟩ : ∃ V, V = put6 w3 q 0 0 0 (.slice none 0 0) (.slice none 0 0) (.slice none 0 0) := ⟨_, rfl⟩
    have HW9 := Lib.hid hW9
    unfold put6 at hW9
    rw [← hW9] at hput ⊢
    clear hW9
    refine bodyPost_ret (results_cell_tmp2 (P := Tryz.prog) (fn := Tryz.f8) (p := 4) (u := 5) (v := 6) (ty := 26) rfl _ W9 q 26 _ (0, 0) _ rfl hput Tryz.underlying26 rfl (by kernel_rfl)) rfl ?_
    rw [HW9.out]
    exact HR1.out w3 B3.out
  | some T =>
    obtain ⟨U, f⟩ := T
    obtain ⟨hov, hus, hok, hpos⟩ := fill_bounds h.lots.fine hF
    have HUL := Lib.hid (fillX_len hF)
    have HMAP := Lib.hid (fun (V : World) (hbV : Below W.heap.size W V) (ua : Option Addr) (uc : Nat) (ho : useE.Own W.heap.size V (.slice ua U.length uc) U) (hin : useE.In V.heap.size V ua U.length uc U) (hul : U.length ≤ 100000000) => pk_map B p q r i now nl nx a1 n1 c1 X a2 n2 c2 L a3 n3 c3 N ua U.length uc U V R (h.below (hbV.mono hB)) (Nat.le_trans hB hbV.size) ((hbV.block p hpl).trans hp) ((hbV.block q hql).trans hq) ((hbV.cell (p := ⟨r, 0, none⟩) hrl).trans hr) (Nat.lt_of_lt_of_le hrl hbV.size) hi hin hul hov hus (fun b1 d1 Y b2 d2 b3 d3 wT hbT hso => hR2 U f hF b1 d1 Y b2 d2 b3 d3 ua uc wT (hbV.trans (hbT.mono hbV.size)) (hso.mono hbV.size) (ho.keep fun b e => hbT.block b (ho.ge b e).2)))
    unfold FlPost at HFL
    rw [hF] at HFL
    have HOK := Lib.hid hok
    clear hF hR1 hR2 h hp hq hr hi hV hov hus hok hpos
    conv => arg 2; whnf
    go_upto_if 89 with (first | (go_at_call 22; refine HCL.out.mono ?_; rintro e w1 ⟨⟨b', d', rfl, -, ho1⟩, hb1⟩; have HD1 := Lib.hid (HDL.out _ w1 ho1 hb1); have B1 := Lib.hid hb1; clear ho1 hb1) | (go_at_call 21; refine HD1.out.mono ?_; rintro e w2 ⟨b2, d2, rfl, ho2, hb2⟩; have B2 := Lib.hid (B1.out.trans hb2); have HF2 := Lib.hid (HFL.out b2 d2 w2 ho2 B2.out); clear ho2 hb2) | (go_at_call 24; refine HF2.out.mono ?_; rintro e w3 ⟨hb3, v, rfl, ho3⟩; obtain ⟨ua, uc, rfl, hin⟩ := ho3.in_ HOK.out; have HO3 := Lib.hid (El.Own.mono ho3 B2.out.size); have B3 := Lib.hid (B2.out.trans (hb3.mono B2.out.size)); have HIN := Lib.hid hin; clear hb3 ho3 hin))
    iterate 4 go_step
    exact HMAP.out w3 B3.out ua uc HO3.out HIN.out (by have := HUL.out; omega) _ _ _ _ _ _ _ _ _ _ _ _ _ _ _ _ _ _ _ _ _ _ _ _ _ _ _ _ _ _ _ _ _ _ _ _ _ _ _ _ _ _ _ _ _ _ _ _ _ _ _ _ _ _ _ _ _ _ _ _ _ _ _ _ _ _ _ _ _ _ _ _ _ _ _ _ _ _ _ _ _ _ _ _ _ _ _ _ _ _ _ _ _ _ _ _ _ _ _ _ _ _ _ _ _ _ _ _
end Go.Proofs.YtbedbhlebfnohaaGreat
namespace Go.Proofs.YtbedbhlebfnohaaGreat
open Go.RowKit

def leaves (X : List It) : Nat → List UInt8 → Int → List Pt
  | 0, _, _ => []
  | k + 1, c, q => if (partsX X c).length = 0 then [(c, q)] else (partsX X c).flatMap fun p => leaves X k p.1 (q * p.2)
end Go.Proofs.YtbedbhlebfnohaaGreat
namespace Go.Proofs.YtbedbhlebfnohaaGreat
open Go.RowKit

theorem fine_ps {X : List It} {S : List Pt} (hok : ∀ x ∈ X, x.code.length ≤ 9223372036854775807) (h : PS X S) : Fine S := fun p hp => by
  refine ⟨?_, ?_⟩
  · obtain ⟨y, hy, hye⟩ := List.mem_map.1 (h.sub p hp)
    rw [← hye]; exact hok y hy
  · have := okA_iff.1 (h.up.2 p hp)
    omega
end Go.Proofs.YtbedbhlebfnohaaGreat
namespace Go.Proofs.YtbedbhlebfnohaaGreat
open Go.RowKit Go.Sort Go.Lib Go.Shelf

theorem wantsX_succ {now : Int} {S : List Pt} {j : Nat} (hj : j < S.length) : wantsX now (S.take (j + 1)) = wantsX now (S.take j) ++ [⟨(S.getD j default).1, now, (S.getD j default).2⟩] := by
  unfold wantsX
  rw [List.take_succ_eq_append_getElem hj, List.map_append, List.getD_eq_getElem?_getD, List.getElem?_eq_getElem hj]
  rfl
set_option maxHeartbeats 8000000 in
set_option maxRecDepth 100000 in
theorem pk_parts (B p q r i : Nat) (now nl nx : Int) (a1 : Option Addr) (n1 c1 : Nat) (X : List It) (a2 : Option Addr) (n2 c2 : Nat) (L : List LotV) (a3 : Option Addr) (n3 c3 : Nat) (N : List LineV) (W : World) (R : Ending → World → Prop) (h : StIn B W a1 n1 c1 X a2 n2 c2 L a3 n3 c3 N) (hB : B ≤ W.heap.size)
    (hp : W.heap[p]? = some (stObj now nl nx (.slice a1 n1 c1) (.slice a2 n2 c2) (.slice a3 n3 c3))) (hq : W.heap[q]? = some (stObj 0 0 0 (.slice none 0 0) (.slice none 0 0) (.slice none 0 0))) (hr : W.cell? ⟨r, 0, none⟩ = some (.int .i64 i)) (hrl : r < W.heap.size) (hi : i < N.length) (hnow : -9223372036854775808 ≤ now ∧ now ≤ 9223372036854775807)
    (hR1 : partsE X (N.getD i default).code (N.getD i default).qty ≠ 0 ∨ fillX (hereL L) (wantsX now ((endL X (N.getD i default).code (N.getD i default).qty).getD [])) = none → ∀ wT, Below W.heap.size W wT → R (.returned (.tuple #[.agg #[.int .i64 0, .int .i64 0, .int .i64 0, .slice none 0 0, .slice none 0 0, .slice none 0 0], .slice none 0 0, .int .i64 159])) (put6 wT q 0 0 0 (.slice none 0 0) (.slice none 0 0) (.slice none 0 0)))
    (hR2 : ∀ U f, partsE X (N.getD i default).code (N.getD i default).qty = 0 → fillX (hereL L) (wantsX now ((endL X (N.getD i default).code (N.getD i default).qty).getD [])) = some (U, f) → ∀ a1 c1 Y a2 c2 a3 c3 ua uc wT, Below W.heap.size W wT → StOwn W.heap.size wT (.slice a1 X.length c1) (.slice a2 (leftL (usum U) L).length c2) (.slice a3 (N.set i { N.getD i default with st := 2 }).length c3) X Y (leftL (usum U) L) (N.set i { N.getD i default with st := 2 }) → useE.Own W.heap.size wT (.slice ua U.length uc) U →
      R (.returned (.tuple #[.agg #[.int .i64 now, .int .i64 nl, .int .i64 nx, .slice a1 X.length c1, .slice a2 (leftL (usum U) L).length c2, .slice a3 (N.set i { N.getD i default with st := 2 }).length c3], .slice ua U.length uc, .int .i64 0])) (put6 wT q now nl nx (.slice a1 X.length c1) (.slice a2 (leftL (usum U) L).length c2) (.slice a3 (N.set i { N.getD i default with st := 2 }).length c3))) (s0 s1 s3 s5 s6 s8 s9 s10 s11 s12 s13 s14 s15 s16 s17 s18 s19 s20 s21 s22 s23 s24 s25 s26 s27 s28 s29 s30 s31 s32 s33 s34 s35 s36 s37 s38 s39 s40 s41 s42 s43 s44 s45 s46 s47 s48 s49 s50 s51 s52 s53 s54 s55 s56 s57 s58 s59 s60 s61 s62 s63 s64 s65 s66 s67 s68 s69 s70 s71 s72 s73 s74 s75 s76 s77 s78 s79 s80 s81 s82 s83 s84 s85 s86 s87 s88 s89 s90 s91 s92 s93 s94 s95 s96 s97 s98 s99 s100 s101 s102 s103 s104 s105 s106 s107 s108 s109 s110 s111 : Value) :
    Code.wp Tryz.prog (dropQ 3 (Tryz.f8.body.getD .skip)) (bodyPost Tryz.prog Tryz.f8 R) ⟨List.toArray (s0 :: s1 :: (.pointer (some ⟨p, 0, none⟩)) :: s3 :: (.pointer (some ⟨q, 0, none⟩)) :: s5 :: s6 :: (.pointer (some ⟨r, 0, none⟩)) :: s8 :: s9 :: s10 :: s11 :: s12 :: s13 :: s14 :: s15 :: s16 :: s17 :: s18 :: s19 :: s20 :: s21 :: s22 :: s23 :: s24 :: s25 :: s26 :: s27 :: s28 :: s29 :: s30 :: s31 :: s32 :: s33 :: s34 :: s35 :: s36 :: s37 :: s38 :: s39 :: s40 :: s41 :: s42 :: s43 :: s44 :: s45 :: s46 :: s47 :: s48 :: s49 :: s50 :: s51 :: s52 :: s53 :: s54 :: s55 :: s56 :: s57 :: s58 :: s59 :: s60 :: s61 :: s62 :: s63 :: s64 :: s65 :: s66 :: s67 :: s68 :: s69 :: s70 :: s71 :: s72 :: s73 :: s74 :: s75 :: s76 :: s77 :: s78 :: s79 :: s80 :: s81 :: s82 :: s83 :: s84 :: s85 :: s86 :: s87 :: s88 :: s89 :: s90 :: s91 :: s92 :: s93 :: s94 :: s95 :: s96 :: s97 :: s98 :: s99 :: s100 :: s101 :: s102 :: s103 :: s104 :: s105 :: s106 :: s107 :: s108 :: s109 :: s110 :: s111 :: []), []⟩ W := by
  have hpl : p < W.heap.size := (Array.getElem?_eq_some_iff.1 hp).1
  have hql : q < W.heap.size := (Array.getElem?_eq_some_iff.1 hq).1
  have hin : i < n3 := by rw [h.lines.len]; exact hi
  obtain ⟨b3, o3, rfl, hb3, hc⟩ := lineE_at h.lines (by have := h.lines.le; omega)
  obtain ⟨-, -, g2, -, -, -, -, g7⟩ := hc i hin
  have hok := h.lines.ok_at hin
  have HP := Lib.hid (fun (V : World) (hb : Below W.heap.size W V) => Parts_any B a1 n1 c1 X (N.getD i default).code (N.getD i default).qty V (h.items.below (hb.mono hB)) (Nat.le_trans hB hb.size) hok.2.2.2.2.2.2.2 hok.2.2.1.1 hok.2.2.1.2)
  obtain ⟨y0, y1, y2, y3, y4, y5⟩ := stObj_cells hp
  have HQ := Lib.hid (fun (V : World) (hb : Below W.heap.size W V) => (hb.block q hql).trans hq)
  have HR1 := Lib.hid hR1
  have HR2 := Lib.hid hR2
  have H := Lib.hid h
  have HPP := Lib.hid hp
  have HRR := Lib.hid hr
  have HNOW := Lib.hid hnow
  have HI := Lib.hid hi
  have h3le := h.lines.le
  have h3mx := h.lines.mx
  have hb3W : b3 < W.heap.size := Nat.lt_of_lt_of_le hb3 hB
  clear hc hok hR1 hR2 h hp hq hi hnow
  generalize hx : N.getD i default = x at g2 g7 HP HR1 HR2
  obtain ⟨x1, x2, xq, x4, x5, x6, x7, xc⟩ := x
  simp only at g2 g7 HP HR1 HR2
  simp only [encStr] at g7
  conv => arg 2; whnf
  go_wp2_with (fail)
  go_region_held3 (fun w' => (w'.cell? ⟨p, 3, none⟩ = some (.slice a1 n1 c1) ∧ w'.cell? ⟨p, 5, none⟩ = some (.slice (some ⟨b3, o3, none⟩) n3 c3)) ∧ (w'.cell? ⟨r, 0, none⟩ = some (.int .i64 i) ∧ w'.cell? ⟨b3, o3 + i * 8 + 7, none⟩ = some (.string ⟨xc.toArray⟩)) ∧ (w'.cell? ⟨b3, o3 + i * 8 + 2, none⟩ = some (.int .i64 xq) ∧ Hid (Below W.heap.size W w'))) (first | exact ⟨⟨by assumption, by assumption⟩, ⟨by assumption, by assumption⟩, ⟨by assumption, Lib.hid (below_drew (Below.refl _ _))⟩⟩ | exact ⟨⟨by assumption, by assumption⟩, ⟨by assumption, by assumption⟩, ⟨by assumption, by assumption⟩⟩ | go_keep | exact ⟨⟨by assumption, by assumption⟩, ⟨by assumption, by assumption⟩, ⟨by assumption, Lib.hid (below_drew (Hid.out (by assumption)))⟩⟩) (first | (go_at_call 20; refine (HP.out _ (below_drew (Below.refl _ _))).mono ?_; rintro e wP ⟨hbP, vP, rfl, hne, hoP⟩; have d0 := (hbP.cell (p := ⟨p, 3, none⟩) hpl).trans y3; have d1 := (hbP.cell (p := ⟨p, 5, none⟩) hpl).trans y5; have d2 := (hbP.cell (p := ⟨r, 0, none⟩) hrl).trans hr; have d3 := (hbP.cell (p := ⟨b3, o3 + i * 8 + 7, none⟩) hb3W).trans g7; have d4 := (hbP.cell (p := ⟨b3, o3 + i * 8 + 2, none⟩) hb3W).trans g2; have HBP : Hid (Below W.heap.size W wP) := Lib.hid ((below_drew (Below.refl _ _)).trans hbP); have HNE := Lib.hid hne; have HOP := Lib.hid hoP; clear hbP hne hoP))
  clear d0 d1 d2 d3 d4 g2 g7 y0 y1 y2 y3 y4 y5 HP
  by_cases hE : partsE X xc xq = 0
  · obtain ⟨pa, pc, S, rfl, hend, hPS, hop⟩ := HOP.out hE
    obtain ⟨pa', pc', e9, hrp⟩ := hop.rp (fine_ps (fun x hx => (H.out.items.ok x hx).code) hPS)
    injection e9 with e7 e8 e9
    subst e7; subst e9
    have HRP := Lib.hid hrp
    have hple := hrp.le; have hpmx := hrp.mx
    have HPS := Lib.hid hPS
    have HFN := Lib.hid (fine_ps (fun x hx => (H.out.items.ok x hx).code) hPS)
    rw [hend] at HR1 HR2
    simp only [Option.getD_some] at HR1 HR2
    have HR1' := Lib.hid (fun h => HR1.out (.inr h))
    have HR2' := Lib.hid (fun U f => HR2.out U f hE)
    have HSL : Hid (S.length ≤ 100000000) := Lib.hid (by have e1 := hPS.len; have e2 := H.out.nI; have e3 := H.out.items.len; omega)
    rw [hE]
    clear hE hop hrp hPS hend HR1 HR2 HOP HNE
    have hpB := HBP.out.size
    have HFILL := Lib.hid (fun (V : World) (hbV : Below wP.heap.size wP V) (wa : Option Addr) (wc : Nat) (ho : wantE.Own wP.heap.size V (.slice wa S.length wc) (wantsX now S)) (hin2 : wantE.In V.heap.size V wa S.length wc (wantsX now S)) => let hWV := HBP.out.trans (hbV.mono hpB); pk_fill B p q r i now nl nx a1 n1 c1 X a2 n2 c2 L (some ⟨b3, o3, none⟩) n3 c3 N wa S.length wc (wantsX now S) V R (H.out.below (hWV.mono hB)) (Nat.le_trans hB hWV.size) ((hWV.block p hpl).trans HPP.out) (HQ.out V hWV) ((hWV.cell (p := ⟨r, 0, none⟩) hrl).trans HRR.out) (Nat.lt_of_lt_of_le hrl hWV.size) HI.out hin2 (fun hn wT hbT => HR1'.out hn wT (hWV.trans (hbT.mono hWV.size))) (fun U f hf b1 d1 Y b2 d2 b3 d3 ua uc wT hbT hso huo => by rw [hx] at hso ⊢; exact HR2'.out U f hf b1 d1 Y b2 d2 b3 d3 ua uc wT (hWV.trans (hbT.mono hWV.size)) (hso.mono hWV.size) (huo.mono hWV.size)))
    have cnow : ∀ V, Below wP.heap.size wP V → V.cell? ⟨p, 0, none⟩ = some (.int .i64 now) := fun V hbV => ((HBP.out.trans (hbV.mono hpB)).cell (p := ⟨p, 0, none⟩) hpl).trans (stObj_cells HPP.out).1
    have HCN := Lib.hid cnow
    clear cnow
    go_wp2_with (fail)
    go_loopw [11, 63] (fun s11 s63 wr => ∃ (j : Nat) (va : Option Addr) (vn vc : Nat), s11 = .slice va vn vc ∧ s63 = .int .i64 j ∧ j ≤ S.length ∧ Hid (wantE.Own wP.heap.size wr (.slice va vn vc) (wantsX now (S.take j))) ∧ Hid (Below wP.heap.size wP wr)) (fun _ s63 _ => S.length - (intOf s63).toNat)
    case atStart => exact ⟨0, none, 0, 0, rfl, rfl, Nat.zero_le _, Lib.hid (El.Own.nil _ _ _), Lib.hid (Below.refl _ _)⟩
    case round =>
      obtain ⟨j, va, vn, vc, rfl, rfl, hj, HO, Hb⟩ := hrel
      by_cases hlt : j < S.length
      · obtain ⟨b, o, rfl, hbb, g0, g1⟩ := (HRP.out.below Hb.out).part hlt
        have Hsucc := Lib.hid (wantsX_succ (now := now) hlt)
        generalize S.getD j default = pt at g0 g1 Hsucc
        obtain ⟨pi, pq⟩ := pt
        simp only at g0 g1 Hsucc
        simp only [encStr] at g0
        obtain ⟨W3, hW3⟩ : ∃ V, V = wr.alloc (.cells #[.string ⟨pi.toArray⟩, .int .i64 pq] 60) := ⟨_, rfl⟩
        have bW3 : Hid (Below wr.heap.size wr W3) := Lib.hid (by rw [hW3]; exact below_alloc _ _)
        have z0 : W3.cell? ⟨wr.heap.size, 0, none⟩ = some (.string ⟨pi.toArray⟩) := by rw [hW3]; simp
        have z1 : W3.cell? ⟨wr.heap.size, 1, none⟩ = some (.int .i64 pq) := by rw [hW3]; simp
        have z2 := HCN.out W3 (Hb.out.trans (bW3.out.mono Hb.out.size))
        have HW3 := Lib.hid hW3
        have hB3 := Lib.hid (Hb.out.trans (bW3.out.mono Hb.out.size))
        have hOA : Hid (wantE.Own wP.heap.size (W3.alloc (.cells #[.string ⟨pi.toArray⟩, .int .i64 now, .int .i64 pq] 62)) (.slice va vn vc) (wantsX now (S.take j))) := Lib.hid ((HO.out.below bW3.out).below (below_alloc _ _))
        have hBA : Hid (Below wP.heap.size wP (W3.alloc (.cells #[.string ⟨pi.toArray⟩, .int .i64 now, .int .i64 pq] 62))) := Lib.hid (hB3.out.trans ((below_alloc _ _).mono hB3.out.size))
        have hVN : Hid (vn = (wantsX now (S.take j)).length ∧ vn ≤ 100000000) := Lib.hid (by
          obtain ⟨a9, c9, e9, -⟩ := HO.out.form
          injection e9 with e1 e2 e3
          refine ⟨e2, ?_⟩
          rw [e2]
          unfold wantsX
          rw [List.length_map, List.length_take]
          have := HSL.out
          omega)
        clear hW3
        go_upto_region 13 with (fail)
        rw [← HW3.out]
        go_wp2_with (at_builtin; refine El.wpList_append1 wantE rfl _ _ rfl wP.heap.size (.slice va vn vc) (wantsX now (S.take j)) ⟨pi, now, pq⟩ (vn + 1) (by rw [← hVN.out.1]) rfl hOA.out _ 1 rfl (wantE_lit _ ⟨pi, now, pq⟩ _) hBA.out.size (by have := hVN.out; omega) ?_; intro g9 c9 w9 hown9 hg9 hgg9; have O9 : Hid (wantE.Own wP.heap.size w9 (.slice (some ⟨g9, 0, none⟩) (vn + 1) c9) (wantsX now (S.take (j + 1)))) := Lib.hid (by rw [Hsucc.out]; exact hown9); have B9 := Lib.hid (hBA.out.grown hg9 hBA.out.size (fun k e => (hOA.out.ge k e).1)); clear hown9 hg9 hgg9)
        go_roundw
        case rel => exact ⟨j + 1, some ⟨g9, 0, none⟩, vn + 1, c9, by go_num, by go_num, by omega, O9, B9⟩
        case measure => simp [intOf]; omega
      · have hjs : S.length = j := by omega
        have hO := HO.out
        rw [List.take_of_length_le (by omega)] at hO
        obtain ⟨wa, wc, e9, hin2⟩ := hO.in_ (fun x hx => by
          unfold wantsX at hx
          obtain ⟨pt, hpt, rfl⟩ := List.mem_map.1 hx
          have := HFN.out pt hpt
          have hn := HNOW.out
          exact ⟨this.1, hn, this.2⟩)
        have hwl : (wantsX now S).length = S.length := by unfold wantsX; rw [List.length_map]
        rw [hwl] at e9 hin2
        injection e9 with e1 e2 e3
        subst e1; subst e2; subst e3
        have HX := Lib.hid (HFILL.out wr Hb.out _ _ hO hin2)
        have hge : ¬ (j : Int) < (S.length : Int) := by omega
        clear hO hin2 hjs
        go_upto_region 11 with (fail)
        iterate 14 go_step
        exact HX.out _ _ _ _ _ _ _ _ _ _ _ _ _ _ _ _ _ _ _ _ _ _ _ _ _ _ _ _ _ _ _ _ _ _ _ _ _ _ _ _ _ _ _ _ _ _ _ _ _ _ _ _ _ _ _ _ _ _ _ _ _ _ _ _ _ _ _ _ _ _ _ _ _ _ _ _ _ _ _ _ _ _ _ _ _ _ _ _ _ _ _ _ _ _ _ _ _ _ _ _ _ _ _ _ _ _ _ _
  · have hqT := HQ.out wP HBP.out
    obtain ⟨f0, f1, f2, f3, f4, f5⟩ := st_frozen6 hqT
    obtain ⟨z0, z1, z2, z3, z4, z5⟩ := stObj_cells hqT
    have HER := Lib.hid (HR1.out (.inl hE) wP HBP.out)
    have hv := HNE.out hE
    subst hv
    clear hqT HR1 HR2 HOP HNE
    generalize partsE X xc xq = er at hE
    go_wp2_with (fail)
    have hput := st_put (HQ.out wP HBP.out) 0 0 0 (.slice none 0 0) (.slice none 0 0) (.slice none 0 0)
    obtain ⟨W9, hW9⟩ : ∃ V, V = put6 wP q 0 0 0 (.slice none 0 0) (.slice none 0 0) (.slice none 0 0) := ⟨_, rfl⟩
    have HW9 := Lib.hid hW9
    unfold put6 at hW9
    rw [← hW9] at hput ⊢
    clear hW9
    refine bodyPost_ret (results_cell_tmp2 (P := Tryz.prog) (fn := Tryz.f8) (p := 4) (u := 5) (v := 6) (ty := 26) rfl _ W9 q 26 _ (0, 0) _ rfl hput Tryz.underlying26 rfl (by kernel_rfl)) rfl ?_
    rw [HW9.out]
    exact HER.out
end Go.Proofs.YtbedbhlebfnohaaGreat
