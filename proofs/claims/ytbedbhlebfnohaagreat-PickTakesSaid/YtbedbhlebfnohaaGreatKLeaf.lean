/- pick.Pick: the lots that are here, and the filling. (Printed by gen/pk.py.) What is told of items hangs on what they say, not on where they lie: plain Lean. What is in so many of an item in the end: its leaves, joined. Plain Lean. -/
import Derived.Test.YtbedbhlebfnohaaGreatQPkB
import Derived.Test.YtbedbhlebfnohaaGreatQIdxLine
import Derived.Test.YtbedbhlebfnohaaGreatQRefP
import Derived.Test.YtbedbhlebfnohaaGreatKLentI
namespace Go.Proofs.YtbedbhlebfnohaaGreat
open Go.RowKit Go.Sort Go.Lib Go.Shelf

theorem getD_memU {U : List UseV} {j : Nat} (hj : j < U.length) : U.getD j default ∈ U := by
  rw [List.getD_eq_getElem?_getD, List.getElem?_eq_getElem hj]; exact List.getElem_mem _
theorem usum_other {U : List UseV} {i : Int} (h : ∀ u ∈ U, u.lot ≠ i) : usum U i = 0 := by
  induction U with
  | nil => rfl
  | cons u U ih =>
    simp only [usum]
    rw [if_neg (h u List.mem_cons_self), ih fun x hx => h x (List.mem_cons_of_mem _ hx)]
    rfl
/-- What a filling takes, in bounds. -/
theorem fill_bounds {L : List LotV} {V0 : List WantV} {U : List UseV} {f : Int → Int} (hf : ∀ x ∈ L, okLot x) (h : fillX (hereL L) V0 = some (U, f)) : (∀ x ∈ L, x.arr = true → -9223372036854775808 ≤ x.qty - usum U x.id ∧ x.qty - usum U x.id ≤ 9223372036854775807) ∧ (∀ j, j < U.length → -4611686018427387904 ≤ usum (U.take j) (U.getD j default).lot ∧ usum (U.take j) (U.getD j default).lot ≤ 4611686018427387903 ∧ 0 ≤ (U.getD j default).qty ∧ (U.getD j default).qty ≤ 4611686018427387903) ∧ (∀ u ∈ U, okUse u) ∧ (∀ u ∈ U, 0 < u.qty) := by
  obtain ⟨hm, h1, h2⟩ := fillX_sum h
  obtain ⟨m1, m2, m3, m4, m5⟩ := mayB_iff.1 hm
  have hq : ∀ u ∈ U, 0 < u.qty := fun u hu => (h2 u hu).1
  have hle : ∀ a ∈ hereL L, usum U a.id ≤ 1073741824 ∧ 1 ≤ a.id ∧ a.id ≤ a.id := fun a ha => by
    have e1 := h1 a ha
    have e2 := lotOk_iff.1 (m3 a ha)
    omega
  have hone : ∀ j, j < U.length → (U.getD j default).qty ≤ usum U (U.getD j default).lot := fun j hj => by
    have e1 := usum_succ hj (U.getD j default).lot
    rw [if_pos rfl] at e1
    have e2 := (usum_take hq (U.getD j default).lot (j + 1)).2
    have e3 := (usum_take hq (U.getD j default).lot j).1
    omega
  refine ⟨fun x hx ha => ?_, fun j hj => ?_, fun u hu => ?_, hq⟩
  · have hin : x ∈ hereL L := by unfold hereL; rw [List.mem_filter]; exact ⟨hx, ha⟩
    have e1 := h1 x hin
    have e2 := lotOk_iff.1 (m3 x hin)
    have e3 := usum_nonneg hq x.id
    omega
  · obtain ⟨a, ha, hid⟩ := (h2 _ (getD_memU hj)).2.1
    have e1 := hle a ha
    rw [hid] at e1
    have e2 := usum_take hq (U.getD j default).lot j
    have e3 := hq _ (getD_memU hj)
    have e4 := hone j hj
    omega
  · obtain ⟨j, hj, rfl⟩ : ∃ j, j < U.length ∧ U.getD j default = u := by
      obtain ⟨j, hj, rfl⟩ := List.mem_iff_getElem.1 hu
      exact ⟨j, hj, by rw [List.getD_eq_getElem?_getD, List.getElem?_eq_getElem hj]; rfl⟩
    obtain ⟨e5, ⟨a, ha, hid⟩, k, hk, hw⟩ := h2 _ hu
    have e1 := hle a ha
    rw [hid] at e1
    have e4 := hone j hj
    have e6 := (hf a (by unfold hereL at ha; exact (List.mem_filter.1 ha).1)).1
    rw [hid] at e6
    obtain ⟨m2, m3⟩ := And.intro m1 m2
    unfold okUse
    omega
theorem fillF_len (S : List LotV) (V0 : List WantV) : ∀ (os : List Nat) (f : Int → Int) (out U : List UseV) (f' : Int → Int), fillF S V0 os f out = some (U, f') → U.length ≤ out.length + os.length * S.length
  | [], f, out, U, f', h => by
    unfold fillF at h
    cases h
    simp
  | o :: os, f, out, U, f', h => by
    unfold fillF at h
    split at h
    · cases h
    · have e1 := fillF_len S V0 os _ _ U f' h
      have e2 := pass_len (V0.getD o default).day o (S.filter fun l => decide (l.item = (V0.getD o default).item)) f (V0.getD o default).qty
      have e3 := List.length_filter_le (fun l : LotV => decide (l.item = (V0.getD o default).item)) S
      rw [List.length_append] at e1
      rw [List.length_cons, Nat.add_mul, Nat.one_mul]
      omega
theorem fillX_len {L : List LotV} {V0 : List WantV} {U : List UseV} {f : Int → Int} (h : fillX L V0 = some (U, f)) : U.length ≤ 6000000 := by
  have hm := (fillX_sum h).1
  obtain ⟨m1, m2, -⟩ := mayB_iff.1 hm
  unfold fillX at h
  rw [if_pos hm] at h
  have e1 := fillF_len _ _ _ _ _ _ _ h
  rw [dayO_len, (srt_perm L).length_eq, List.length_nil] at e1
  have e2 : V0.length * L.length ≤ 20000 * 300 := Nat.mul_le_mul m2 m1
  omega
set_option maxHeartbeats 8000000 in
set_option maxRecDepth 100000 in
theorem pk_fill (B p q r i : Nat) (now nl nx : Int) (a1 : Option Addr) (n1 c1 : Nat) (X : List It) (a2 : Option Addr) (n2 c2 : Nat) (L : List LotV) (a3 : Option Addr) (n3 c3 : Nat) (N : List LineV) (wa : Option Addr) (wn wc : Nat) (V0 : List WantV) (W : World) (R : Ending → World → Prop) (h : StIn B W a1 n1 c1 X a2 n2 c2 L a3 n3 c3 N) (hB : B ≤ W.heap.size)
    (hp : W.heap[p]? = some (stObj now nl nx (.slice a1 n1 c1) (.slice a2 n2 c2) (.slice a3 n3 c3))) (hq : W.heap[q]? = some (stObj 0 0 0 (.slice none 0 0) (.slice none 0 0) (.slice none 0 0))) (hr : W.cell? ⟨r, 0, none⟩ = some (.int .i64 i)) (hrl : r < W.heap.size) (hi : i < N.length)
    (hV : wantE.In W.heap.size W wa wn wc V0)
    (hR1 : fillX (hereL L) V0 = none → ∀ wT, Below W.heap.size W wT → R (.returned (.tuple #[.agg #[.int .i64 0, .int .i64 0, .int .i64 0, .slice none 0 0, .slice none 0 0, .slice none 0 0], .slice none 0 0, .int .i64 159])) (put6 wT q 0 0 0 (.slice none 0 0) (.slice none 0 0) (.slice none 0 0)))
    (hR2 : ∀ U f, fillX (hereL L) V0 = some (U, f) → ∀ a1 c1 Y a2 c2 a3 c3 ua uc wT, Below W.heap.size W wT → StOwn W.heap.size wT (.slice a1 X.length c1) (.slice a2 (leftL (usum U) L).length c2) (.slice a3 (N.set i { N.getD i default with st := 2 }).length c3) X Y (leftL (usum U) L) (N.set i { N.getD i default with st := 2 }) → useE.Own W.heap.size wT (.slice ua U.length uc) U →
      R (.returned (.tuple #[.agg #[.int .i64 now, .int .i64 nl, .int .i64 nx, .slice a1 X.length c1, .slice a2 (leftL (usum U) L).length c2, .slice a3 (N.set i { N.getD i default with st := 2 }).length c3], .slice ua U.length uc, .int .i64 0])) (put6 wT q now nl nx (.slice a1 X.length c1) (.slice a2 (leftL (usum U) L).length c2) (.slice a3 (N.set i { N.getD i default with st := 2 }).length c3))) (s0 s1 s3 s5 s6 s8 s9 s10 s12 s13 s14 s15 s16 s17 s18 s19 s20 s21 s22 s23 s24 s25 s26 s27 s28 s29 s30 s31 s32 s33 s34 s35 s36 s37 s38 s39 s40 s41 s42 s43 s44 s45 s46 s47 s48 s49 s50 s51 s52 s53 s54 s55 s56 s57 s58 s59 s60 s61 s62 s63 s64 s65 s66 s67 s68 s69 s70 s71 s72 s73 s74 s75 s76 s77 s78 s79 s80 s81 s82 s83 s84 s85 s86 s87 s88 s89 s90 s91 s92 s93 s94 s95 s96 s97 s98 s99 s100 s101 s102 s103 s104 s105 s106 s107 s108 s109 s110 s111 : Value) :
    Code.wp Tryz.prog (dropQ 7 (Tryz.f8.body.getD .skip)) (bodyPost Tryz.prog Tryz.f8 R) ⟨List.toArray (s0 :: s1 :: (.pointer (some ⟨p, 0, none⟩)) :: s3 :: (.pointer (some ⟨q, 0, none⟩)) :: s5 :: s6 :: (.pointer (some ⟨r, 0, none⟩)) :: s8 :: s9 :: s10 :: (.slice wa wn wc) :: s12 :: s13 :: s14 :: s15 :: s16 :: s17 :: s18 :: s19 :: s20 :: s21 :: s22 :: s23 :: s24 :: s25 :: s26 :: s27 :: s28 :: s29 :: s30 :: s31 :: s32 :: s33 :: s34 :: s35 :: s36 :: s37 :: s38 :: s39 :: s40 :: s41 :: s42 :: s43 :: s44 :: s45 :: s46 :: s47 :: s48 :: s49 :: s50 :: s51 :: s52 :: s53 :: s54 :: s55 :: s56 :: s57 :: s58 :: s59 :: s60 :: s61 :: s62 :: s63 :: s64 :: s65 :: s66 :: s67 :: s68 :: s69 :: s70 :: s71 :: s72 :: s73 :: s74 :: s75 :: s76 :: s77 :: s78 :: s79 :: s80 :: s81 :: s82 :: s83 :: s84 :: s85 :: s86 :: s87 :: s88 :: s89 :: s90 :: s91 :: s92 :: s93 :: s94 :: s95 :: s96 :: s97 :: s98 :: s99 :: s100 :: s101 :: s102 :: s103 :: s104 :: s105 :: s106 :: s107 :: s108 :: s109 :: s110 :: s111 :: []), []⟩ W := by
  have hpl : p < W.heap.size := (Array.getElem?_eq_some_iff.1 hp).1
  have hql : q < W.heap.size := (Array.getElem?_eq_some_iff.1 hq).1
  have HCL := Lib.hid (cloneLot_any B a2 n2 c2 L W h.lots hB h.nL)
  have HDL := Lib.hid (fun (v : Value) (w1 : World) (ho : lotE.Own W.heap.size w1 v L) (hb : Below W.heap.size W w1) => delLot_any W.heap.size v L w1 ho h.lots.fine (by have := h.lots.len; have := h.nL; omega) hb.size)
  have hhl : (hereL L).length ≤ 100000000 := by
    have e1 := List.length_filter_le (fun x : LotV => x.arr) L
    have e2 := h.lots.len
    have e3 := h.nL
    unfold hereL
    omega
  have HFL := Lib.hid (fun (a : Option Addr) (c : Nat) (w2 : World) (ho : lotE.In w2.heap.size w2 a (hereL L).length c (hereL L)) (hb : Below W.heap.size W w2) => flFill_any w2.heap.size a wa (hereL L).length c wn wc (hereL L) V0 w2 ho ((hV.below hb).mono hb.size) (Nat.le_refl _) hhl)
  obtain ⟨y0, y1, y2, y3, y4, y5⟩ := stObj_cells hp
  cases hF : fillX (hereL L) V0 with
  | none =>
    have HR1 := Lib.hid (hR1 hF)
    have HQ := Lib.hid (fun (V : World) (hb : Below W.heap.size W V) => (hb.block q hql).trans hq)
    unfold FlPost at HFL
    rw [hF] at HFL
    clear hF hR1 hR2 h hp hq hr hi hV
    conv => arg 2; whnf
    go_wp2_with (first | (go_at_call 22; refine HCL.out.mono ?_; rintro e w1 ⟨⟨b', d', rfl, -, ho1⟩, hb1⟩; have HD1 := Lib.hid (HDL.out _ w1 ho1 hb1); have B1 := Lib.hid hb1; clear ho1 hb1) | (go_at_call 21; refine HD1.out.mono ?_; rintro e w2 ⟨b2, d2, rfl, ho2, hb2⟩; have B2 := Lib.hid (B1.out.trans hb2); have HF2 := Lib.hid (HFL.out b2 d2 w2 ho2 B2.out); clear ho2 hb2) | (go_at_call 24; refine HF2.out.mono ?_; rintro e w3 ⟨hb3, rfl⟩; have B3 := Lib.hid (B2.out.trans (hb3.mono B2.out.size)); have hqT := HQ.out w3 B3.out; obtain ⟨f0, f1, f2, f3, f4, f5⟩ := st_frozen6 hqT; obtain ⟨z0, z1, z2, z3, z4, z5⟩ := stObj_cells hqT; clear hqT hb3))
    have hput := st_put (HQ.out w3 B3.out) 0 0 0 (.slice none 0 0) (.slice none 0 0) (.slice none 0 0)
    obtain ⟨W9, hW9⟩ : ∃ V, V = put6 w3 q 0 0 0 (.slice none 0 0) (.slice none 0 0) (.slice none 0 0) := ⟨_, rfl⟩
    have HW9 := Lib.hid hW9
    unfold put6 at hW9
    rw [← hW9] at hput ⊢
    clear hW9
    refine bodyPost_ret (results_cell_tmp2 (P := Tryz.prog) (fn := Tryz.f8) (p := 4) (u := 5) (v := 6) (ty := 26) rfl _ W9 q 26 _ (0, 0) _ rfl hput Tryz.underlying26 rfl (by kernel_rfl)) rfl ?_
    rw [HW9.out]
    exact HR1.out w3 B3.out
  | some T =>
    obtain ⟨U, f⟩ := T
    obtain ⟨hov, hus, hok, hpos⟩ := fill_bounds h.lots.fine hF
    have HUL := Lib.hid (fillX_len hF)
    have HMAP := Lib.hid (fun (V : World) (hbV : Below W.heap.size W V) (ua : Option Addr) (uc : Nat) (ho : useE.Own W.heap.size V (.slice ua U.length uc) U) (hin : useE.In V.heap.size V ua U.length uc U) (hul : U.length ≤ 100000000) => pk_map B p q r i now nl nx a1 n1 c1 X a2 n2 c2 L a3 n3 c3 N ua U.length uc U V R (h.below (hbV.mono hB)) (Nat.le_trans hB hbV.size) ((hbV.block p hpl).trans hp) ((hbV.block q hql).trans hq) ((hbV.cell (p := ⟨r, 0, none⟩) hrl).trans hr) (Nat.lt_of_lt_of_le hrl hbV.size) hi hin hul hov hus (fun b1 d1 Y b2 d2 b3 d3 wT hbT hso => hR2 U f hF b1 d1 Y b2 d2 b3 d3 ua uc wT (hbV.trans (hbT.mono hbV.size)) (hso.mono hbV.size) (ho.keep fun b e => hbT.block b (ho.ge b e).2)))
    unfold FlPost at HFL
    rw [hF] at HFL
    have HOK := Lib.hid hok
    clear hF hR1 hR2 h hp hq hr hi hV hov hus hok hpos
    conv => arg 2; whnf
    go_upto_if 89 with (first | (go_at_call 22; refine HCL.out.mono ?_; rintro e w1 ⟨⟨b', d', rfl, -, ho1⟩, hb1⟩; have HD1 := Lib.hid (HDL.out _ w1 ho1 hb1); have B1 := Lib.hid hb1; clear ho1 hb1) | (go_at_call 21; refine HD1.out.mono ?_; rintro e w2 ⟨b2, d2, rfl, ho2, hb2⟩; have B2 := Lib.hid (B1.out.trans hb2); have HF2 := Lib.hid (HFL.out b2 d2 w2 ho2 B2.out); clear ho2 hb2) | (go_at_call 24; refine HF2.out.mono ?_; rintro e w3 ⟨hb3, v, rfl, ho3⟩; obtain ⟨ua, uc, rfl, hin⟩ := ho3.in_ HOK.out; have HO3 := Lib.hid (El.Own.mono ho3 B2.out.size); have B3 := Lib.hid (B2.out.trans (hb3.mono B2.out.size)); have HIN := Lib.hid hin; clear hb3 ho3 hin))
    iterate 4 go_step
    exact HMAP.out w3 B3.out ua uc HO3.out HIN.out (by have := HUL.out; omega) _ _ _ _ _ _ _ _ _ _ _ _ _ _ _ _ _ _ _ _ _ _ _ _ _ _ _ _ _ _ _ _ _ _ _ _ _ _ _ _ _ _ _ _ _ _ _ _ _ _ _ _ _ _ _ _ _ _ _ _ _ _ _ _ _ _ _ _ _ _ _ _ _ _ _ _ _ _ _ _ _ _ _ _ _ _ _ _ _ _ _ _ _ _ _ _ _ _ _ _ _ _ _ _ _ _ _ _
end Go.Proofs.YtbedbhlebfnohaaGreat
namespace Go.Proofs.YtbedbhlebfnohaaGreat
open Go.RowKit

/-- What an item says. -/
def strip (x : It) : It := ⟨x.code, x.life, none, 0, x.ps, none, 0, x.os⟩
theorem getD_strip (X : List It) (i : Nat) : (X.map strip).getD i default = strip (X.getD i default) := by
  rw [List.getD_eq_getElem?_getD, List.getD_eq_getElem?_getD, List.getElem?_map]
  cases X[i]? <;> rfl
theorem cd_strip (X : List It) (i : Nat) : cd (X.map strip) i = cd X i := by unfold cd; rw [getD_strip]; rfl
theorem codes_strip (X : List It) : codes (X.map strip) = codes X := by
  unfold codes
  rw [List.map_map]; rfl
theorem itF_strip (X : List It) (c : List UInt8) : itF (X.map strip) c = (itF X c).map strip := by
  unfold itF
  rw [List.find?_map]
  rfl
theorem partsX_strip (X : List It) (c : List UInt8) : partsX (X.map strip) c = partsX X c := by
  unfold partsX
  rw [itF_strip]
  cases itF X c <;> rfl
theorem kidsX_strip (X : List It) : kidsX (X.map strip) = kidsX X := by
  funext c
  rw [kids_parts, kids_parts, partsX_strip]
theorem tellX_strip (X : List It) (c : List UInt8) : tellX (X.map strip) c = tellX X c := by
  unfold tellX
  rw [kidsX_strip, List.length_map]
theorem okIt_strip (X : List It) (i : Nat) : okIt (X.map strip) i = okIt X i := by
  unfold okIt
  rw [cd_strip, cd_strip, getD_strip]
  rfl
theorem chkE_strip (X : List It) : chkE (X.map strip) = chkE X := by
  have h1 : allOk (X.map strip) = allOk X := by unfold allOk; simp only [okIt_strip, List.length_map]
  have h2 : found (X.map strip) = found X := by
    unfold found
    simp only [getD_strip, List.length_map, codes_strip]
    rfl
  have h3 : roundX (X.map strip) = roundX X := by unfold roundX; simp only [tellX_strip, cd_strip, List.length_map]
  have h4 : tooDeep (X.map strip) = tooDeep X := by unfold tooDeep; simp only [tellX_strip, cd_strip, List.length_map]
  unfold chkE
  rw [h1, h2, h3, h4, List.length_map]
theorem deepX_strip (X : List It) (c : List UInt8) : deepX (X.map strip) c = deepX X c := by
  unfold deepX
  rw [chkE_strip, codes_strip, tellX_strip]
theorem putL_strip (X : List It) : ∀ (k : Nat) (S : List Pt) (c : List UInt8) (q : Int), putL (X.map strip) k S c q = putL X k S c q
  | 0, _, _, _ => rfl
  | k + 1, S, c, q => by
    have h : putL (X.map strip) k = putL X k := by funext S c q; exact putL_strip X k S c q
    unfold putL
    rw [partsX_strip, h]
theorem endL_strip (X : List It) (c : List UInt8) (q : Int) : endL (X.map strip) c q = endL X c q := putL_strip X 8 [] c q
/-- Like lists. -/
theorem strip_like {X Y : List It} (hl : Y.length = X.length) (h : ∀ i, i < X.length → LikeI (Y.getD i default) (X.getD i default)) : Y.map strip = X.map strip := by
  apply List.ext_getElem (by rw [List.length_map, List.length_map, hl])
  intro i h1 h2
  rw [List.length_map] at h1 h2
  have := h i h2
  rw [List.getD_eq_getElem?_getD, List.getElem?_eq_getElem h1, List.getD_eq_getElem?_getD, List.getElem?_eq_getElem h2] at this
  obtain ⟨e1, e2, e3, e4⟩ := this
  simp only [Option.getD_some] at e1 e2 e3 e4
  rw [List.getElem_map, List.getElem_map]
  unfold strip
  rw [e1, e2, e3, e4]
theorem chkE_like {X Y : List It} (hl : Y.length = X.length) (h : ∀ i, i < X.length → LikeI (Y.getD i default) (X.getD i default)) : chkE Y = chkE X := by
  rw [← chkE_strip Y, strip_like hl h, chkE_strip]
end Go.Proofs.YtbedbhlebfnohaaGreat
namespace Go.Proofs.YtbedbhlebfnohaaGreat
open Go.RowKit

/-- The kept items within so many of one, one by one. -/
def leaves (X : List It) : Nat → List UInt8 → Int → List Pt
  | 0, _, _ => []
  | k + 1, c, q => if (partsX X c).length = 0 then [(c, q)] else (partsX X c).flatMap fun p => leaves X k p.1 (q * p.2)
theorem leaves_leaf {X : List It} {k : Nat} {c : List UInt8} {q : Int} (h : (partsX X c).length = 0) : leaves X (k + 1) c q = [(c, q)] := by
  show (if _ then _ else _) = _
  rw [if_pos h]
theorem leaves_kit {X : List It} {k : Nat} {c : List UInt8} {q : Int} (h : (partsX X c).length ≠ 0) : leaves X (k + 1) c q = (partsX X c).flatMap fun p => leaves X k p.1 (q * p.2) := by
  show (if _ then _ else _) = _
  rw [if_neg h]
theorem Sound.parts {X : List It} (hs : Sound X) {c : List UInt8} (hc : c ∈ codes X) : ∀ p ∈ partsX X c, p.1 ∈ codes X ∧ 1 ≤ p.2 ∧ p.2 ≤ 1073741824 := fun p hp => by
  refine ⟨hs.kids c hc p.1 (by rw [kids_parts]; exact List.mem_map.2 ⟨p, hp, rfl⟩), ?_⟩
  obtain ⟨i, hi, -, rfl⟩ := there hc
  have hsh := (okIt_parts (hs.ok i hi)).2.2
  unfold partsX at hp
  rw [itF_cd hs.nd hi] at hp
  have hp : p ∈ (X.getD i default).ps := hp
  obtain ⟨k, hk, rfl⟩ := List.getElem_of_mem hp
  unfold okShape at hsh
  rw [if_neg (by omega), Bool.and_eq_true, decide_eq_true_eq, decide_eq_true_eq] at hsh
  have h1 := hsh.2 k hk
  unfold okPart at h1
  rw [Bool.and_eq_true, decide_eq_true_eq, decide_eq_true_eq, List.getD_eq_getElem?_getD, List.getElem?_eq_getElem hk] at h1
  exact h1.1
theorem hgt_parts {X : List It} {k : Nat} {c : List UInt8} {d : Nat} (h : hgt (kidsX X) (k + 1) c = some d) : ∀ p ∈ partsX X c, ∃ d', hgt (kidsX X) k p.1 = some d' := fun p hp => by
  rw [hgt_succ] at h
  obtain ⟨d', h1, -⟩ := (foldH_some h).2 p.1 (by rw [kids_parts]; exact List.mem_map.2 ⟨p, hp, rfl⟩)
  exact ⟨d', h1⟩
theorem leaves_ge {X : List It} (hs : Sound X) : ∀ (k : Nat) {c : List UInt8} {q : Int}, c ∈ codes X → 1 ≤ q → ∀ p ∈ leaves X k c q, q ≤ p.2 ∧ p.1 ∈ codes X ∧ (partsX X p.1).length = 0
  | 0, _, _, _, _, p, hp => by cases hp
  | k + 1, c, q, hc, hq, p, hp => by
    by_cases h0 : (partsX X c).length = 0
    · rw [leaves_leaf h0, List.mem_singleton] at hp
      subst hp
      exact ⟨Int.le_refl _, hc, h0⟩
    · rw [leaves_kit h0, List.mem_flatMap] at hp
      obtain ⟨r, hr, hp⟩ := hp
      obtain ⟨h1, h2, -⟩ := hs.parts hc r hr
      have hqr : q ≤ q * r.2 := by
        have := Int.mul_le_mul_of_nonneg_left h2 (show 0 ≤ q by omega)
        omega
      obtain ⟨h3, h4, h5⟩ := leaves_ge hs k h1 (show 1 ≤ q * r.2 by omega) p hp
      exact ⟨by omega, h4, h5⟩
theorem leaves_some {X : List It} : ∀ (k : Nat) {c : List UInt8} {q : Int} {d : Nat}, hgt (kidsX X) k c = some d → ∃ p, p ∈ leaves X k c q
  | 0, _, _, _, h => by cases h
  | k + 1, c, q, d, h => by
    by_cases h0 : (partsX X c).length = 0
    · exact ⟨(c, q), by rw [leaves_leaf h0]; simp⟩
    · rw [leaves_kit h0]
      obtain ⟨r, hr⟩ : ∃ r, r ∈ partsX X c := by
        cases hp : partsX X c with
        | nil => rw [hp] at h0; exact absurd rfl h0
        | cons r l => exact ⟨r, by simp⟩
      obtain ⟨d', hd'⟩ := hgt_parts h r hr
      obtain ⟨p, hp⟩ := leaves_some k (q := q * r.2) hd'
      exact ⟨p, List.mem_flatMap.2 ⟨r, hr, hp⟩⟩
theorem joinL_big {S L : List Pt} (hS : Up S) {p : Pt} (hp : p ∈ L) (hb : mostA < p.2) : joinL S L = none := by
  cases h : joinL S L with
  | none => rfl
  | some R =>
    have h1 := ((joinL_iff hS).1 (by rw [h]; rfl)).1 p hp
    have := okA_iff.1 h1
    unfold mostA at hb
    omega
theorem times_fine {a b : Int} (ha : 1 ≤ a) (hb : 1 ≤ b) (hb2 : b ≤ 1073741824) (ha2 : a ≤ mostA) : timesA a b = if a * b ≤ mostA then some (a * b) else none := by
  unfold timesA
  unfold mostA at ha2
  rw [okA_iff.2 (by omega), okA_iff.2 (by omega)]
  simp
theorem put_list {f : List Pt → List UInt8 → Int → Option (List Pt)} {g : Pt → List Pt} {q : Int} : ∀ {L : List Pt} {S : List Pt}, Up S → (∀ p ∈ L, ∀ S', Up S' → putStep f q (some S') p = joinL S' (g p)) → L.foldl (putStep f q) (some S) = joinL S (L.flatMap g)
  | [], S, _, _ => rfl
  | p :: L, S, hS, h => by
    rw [List.foldl_cons, List.flatMap_cons, joinL_append, h p (List.mem_cons_self ..) S hS]
    cases hj : joinL S (g p) with
    | none => exact put_none f q L
    | some S' => exact put_list (joinL_up hS hj) fun r hr => h r (List.mem_cons_of_mem _ hr)
/-- What is put is the leaves, joined. -/
theorem putL_leaves {X : List It} (hs : Sound X) : ∀ (k : Nat) {c : List UInt8} {q : Int} {d : Nat} {S : List Pt}, c ∈ codes X → hgt (kidsX X) k c = some d → 1 ≤ q → q ≤ mostA → Up S → putL X k S c q = joinL S (leaves X k c q)
  | 0, _, _, _, _, _, h, _, _, _ => by cases h
  | k + 1, c, q, d, S, hc, h, hq, hq2, hS => by
    by_cases h0 : (partsX X c).length = 0
    · rw [leaves_leaf h0]
      show (if _ then _ else _) = _
      rw [if_pos h0]
    · rw [leaves_kit h0]
      show (if _ then _ else _) = _
      rw [if_neg h0]
      refine put_list hS fun p hp S' hS' => ?_
      obtain ⟨h1, h2, h3⟩ := hs.parts hc p hp
      obtain ⟨d', hd'⟩ := hgt_parts h p hp
      have hge : 1 ≤ q * p.2 := by
        have := Int.mul_le_mul_of_nonneg_left h2 (show 0 ≤ q by omega)
        omega
      show (timesA q p.2).bind (fun n => putL X k S' p.1 n) = _
      rw [times_fine hq h2 h3 hq2]
      by_cases hle : q * p.2 ≤ mostA
      · rw [if_pos hle]
        exact putL_leaves hs k h1 hd' hge hle hS'
      · rw [if_neg hle]
        obtain ⟨r, hr⟩ := leaves_some (X := X) k (q := q * p.2) hd'
        have := (leaves_ge hs k h1 hge r hr).1
        exact (joinL_big hS' hr (by omega)).symm
theorem leaves_fuel {X : List It} : ∀ (k : Nat) {c : List UInt8} {q : Int} {d : Nat}, hgt (kidsX X) k c = some d → leaves X (k + 1) c q = leaves X k c q
  | 0, _, _, _, h => by cases h
  | k + 1, c, q, d, h => by
    by_cases h0 : (partsX X c).length = 0
    · rw [leaves_leaf h0, leaves_leaf h0]
    · rw [leaves_kit h0, leaves_kit h0]
      have key : ∀ L : List Pt, (∀ p ∈ L, ∃ d', hgt (kidsX X) k p.1 = some d') → L.flatMap (fun p => leaves X (k + 1) p.1 (q * p.2)) = L.flatMap (fun p => leaves X k p.1 (q * p.2)) := fun L => by
        induction L with
        | nil => intro _; rfl
        | cons p L ih =>
          intro hL
          obtain ⟨d', hd'⟩ := hL p (List.mem_cons_self ..)
          rw [List.flatMap_cons, List.flatMap_cons, leaves_fuel k hd', ih fun r hr => hL r (List.mem_cons_of_mem _ hr)]
      exact key _ (hgt_parts h)
def scaleP (a : Int) (p : Pt) : Pt := (p.1, a * p.2)
theorem leaves_scale {X : List It} : ∀ (k : Nat) (c : List UInt8) (a q : Int), leaves X k c (a * q) = (leaves X k c q).map (scaleP a)
  | 0, _, _, _ => rfl
  | k + 1, c, a, q => by
    by_cases h0 : (partsX X c).length = 0
    · rw [leaves_leaf h0, leaves_leaf h0]; rfl
    · rw [leaves_kit h0, leaves_kit h0, List.map_flatMap]
      congr 1
      funext p
      rw [Int.mul_assoc]
      exact leaves_scale k p.1 a (q * p.2)
theorem tot_scale (a : Int) (s : List UInt8) : ∀ L : List Pt, tot s (L.map (scaleP a)) = a * tot s L
  | [] => by show (0 : Int) = a * 0; omega
  | p :: L => by
    show (if p.1 = s then a * p.2 else 0) + tot s (L.map (scaleP a)) = a * ((if p.1 = s then p.2 else 0) + tot s L)
    rw [tot_scale a s L, Int.mul_add]
    split
    · rfl
    · omega
theorem keys_scale (a : Int) (L : List Pt) : (L.map (scaleP a)).map (·.1) = L.map (·.1) := by
  rw [List.map_map]; rfl
theorem way_head {α : Type} {kids : α → List α} {a b c : α} (h : b ∈ kids a) (w : Way kids b c) : Way kids a c := by
  induction w with
  | one hb => exact .more (.one h) hb
  | more _ hc ih => exact .more ih hc
theorem in_step {X : List It} {c p s : List UInt8} (h : p ∈ kidsX X c) (hi : inX X p s) : inX X c s := by
  rcases hi with rfl | hw
  · exact .inr (.one h)
  · exact .inr (way_head h hw)
/-- Each leaf is the item itself, or within it. -/
theorem leaves_in {X : List It} : ∀ (k : Nat) {c : List UInt8} {q : Int}, ∀ p ∈ leaves X k c q, inX X c p.1
  | 0, _, _, p, hp => by cases hp
  | k + 1, c, q, p, hp => by
    by_cases h0 : (partsX X c).length = 0
    · rw [leaves_leaf h0, List.mem_singleton] at hp
      subst hp
      exact .inl rfl
    · rw [leaves_kit h0, List.mem_flatMap] at hp
      obtain ⟨r, hr, hp⟩ := hp
      have hk : r.1 ∈ kidsX X c := by rw [kids_parts]; exact List.mem_map.2 ⟨r, hr, rfl⟩
      exact in_step hk (leaves_in k p hp)
end Go.Proofs.YtbedbhlebfnohaaGreat
