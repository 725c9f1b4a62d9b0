/- storemankit.CopyState: its walk. (Printed by gen/copyst.py out of LentState_any.) Items of one's own are items in memory (beside XQTakes, which says it too: no text imports both). Three states of one's own lie apart: plain part of PickApart. pick.Pick on a state of one's own: what is handed out is a state of one's own. -/
import Derived.Test.YtbedbhlebfnohaaGreatQStK
import Derived.Test.YtbedbhlebfnohaaGreatKCopy
import Derived.Test.YtbedbhlebfnohaaGreatQTurn
import Derived.Test.YtbedbhlebfnohaaGreatQRefP
namespace Go.Proofs.YtbedbhlebfnohaaGreat
open Go.RowKit

theorem oit_own {B : Nat} {w : World} {v : Value} {Y : List It} (h : OIt B w v Y) : itE.Own B w v Y := h
theorem op_own {B : Nat} {w : World} {v : Value} {Y : List Pt} (h : OP B w v Y) : ptE.Own B w v Y := h
theorem ot_own {B : Nat} {w : World} {v : Value} {Y : List (List UInt8)} (h : OT B w v Y) : txE.Own B w v Y := by
  have e : txE.cells Y = Y.map encStr := List.map_eq_flatMap.symm
  unfold El.Own
  rw [e]
  exact h
theorem ci_ti {B : Nat} {w : World} {x y : It} (h : CI B w x y) : TI B w x y := ⟨h.like.code, h.like.life, h.like.ps, h.like.os, op_own h.op, ot_own h.ot⟩
set_option maxHeartbeats 4000000 in
set_option maxRecDepth 100000 in
theorem CopyState_any (B : Nat) (now nl nx : Int) (a1 : Option Addr) (n1 c1 : Nat) (X : List It) (a2 : Option Addr) (n2 c2 : Nat) (L : List LotV) (a3 : Option Addr) (n3 c3 : Nat) (N : List LineV) (w : World) (h : StIn B w a1 n1 c1 X a2 n2 c2 L a3 n3 c3 N) (hB : B ≤ w.heap.size) (m1 : n1 ≤ 100000) :
    Calls Tryz.prog 13 #[.agg #[.int .i64 now, .int .i64 nl, .int .i64 nx, .slice a1 n1 c1, .slice a2 n2 c2, .slice a3 n3 c3]] w fun e w' => Below w.heap.size w w' ∧ ∃ g1 d1 g2 d2 g3 d3 Y, e = .returned (.agg #[.int .i64 now, .int .i64 nl, .int .i64 nx, .slice g1 n1 d1, .slice g2 n2 d2, .slice g3 n3 d3]) ∧ StOwn w.heap.size w' (.slice g1 n1 d1) (.slice g2 n2 d2) (.slice g3 n3 d3) X Y L N := by
  have e1 := h.items.len; have e2 := h.lots.len; have e3 := h.lines.len
  subst e1; subst e2; subst e3
  obtain ⟨W0, hW0, hB0, hs00, hp0, hq0⟩ := two_st w #[.int .i64 now, .int .i64 nl, .int .i64 nx, .slice a1 X.length c1, .slice a2 L.length c2, .slice a3 N.length c3] #[.int .i64 0, .int .i64 0, .int .i64 0, .slice none 0 0, .slice none 0 0, .slice none 0 0]
  have HI := Lib.hid (CopyItems_any B a1 X.length c1 X W0 (h.items.below (hB0.mono hB)) (Nat.le_trans hB hB0.size) m1 h.sz)
  have HL := Lib.hid (fun (V : World) (hb : Below w.heap.size w V) => CopyLots_any B a2 L.length c2 L V (h.lots.below (hb.mono hB)) (by have := h.nL; omega))
  have HN := Lib.hid (fun (V : World) (hb : Below w.heap.size w V) => CopyLines_any B a3 N.length c3 N V (h.lines.below (hb.mono hB)) (by have := h.nN; omega))
  obtain ⟨y0, y1, y2, y3, y4, y5⟩ := stObj_cells hp0
  have HP0 : Hid (W0.heap[w.heap.size]? = some (stObj now nl nx (.slice a1 X.length c1) (.slice a2 L.length c2) (.slice a3 N.length c3))) := Lib.hid hp0
  have HQ0 : Hid (W0.heap[w.heap.size + 1]? = some (stObj 0 0 0 (.slice none 0 0) (.slice none 0 0) (.slice none 0 0))) := Lib.hid hq0
  have HB0 := Lib.hid hB0
  have HW0 := Lib.hid hW0
  have hs1 : W0.heap.size ≤ w.heap.size + 2 ∧ w.heap.size + 2 ≤ W0.heap.size := by omega
  have q1 := h.items.le; have q2 := h.lots.le; have q3 := h.lines.le
  clear hW0 hB0 hp0 hq0 h hs00
  go_enter Tryz.func13, Tryz.ntmps13
  go_upto_region 1 with (fail)
  rw [← HW0.out]
  go_upto_region 2 with (go_at_call 36; refine HI.out.mono ?_; rintro e w1 ⟨Y, g1, d1, rfl, hY, hO, hE, hb1, hA⟩; have HA := Lib.hid hA; have hp1 := (hb1.block w.heap.size (by omega)).trans HP0.out; have hq1 := (hb1.block (w.heap.size + 1) (by omega)).trans HQ0.out; have f3 := st_frozen hp1 3; have t3 := (stObj_cells hp1).2.2.2.1; have HO := Lib.hid hO; have HE := Lib.hid hE; have HY := Lib.hid hY; have B1 := Lib.hid hb1; have P1 := Lib.hid hp1; have Q1 := Lib.hid hq1; clear hb1 hp1 hq1 hO hE hY hA)
  obtain ⟨V1, hV1⟩ : ∃ V, V = w1.setCell ⟨w.heap.size, 3, none⟩ (.slice g1 X.length d1) := ⟨_, rfl⟩
  rw [← hV1]
  have hP1 := st_set3 P1.out (.slice g1 X.length d1)
  rw [← hV1] at hP1
  have hn1 : ∀ b, b ≠ w.heap.size → V1.heap[b]? = w1.heap[b]? := fun b hb => by rw [hV1, setCell_block _ _ _ _ hb]
  have hz1 : V1.heap.size = w1.heap.size := by rw [hV1, size_setCell]
  have hV1b : Hid (Below w.heap.size w V1) := Lib.hid (by rw [hV1]; exact below_set (HB0.out.trans (B1.out.mono HB0.out.size)) _ _ _ (Nat.le_refl _))
  have hP1c := (stObj_cells hP1).2.2.2.2.1
  have HP1 := Lib.hid hP1
  have HN1 := Lib.hid hn1
  have HL1 := Lib.hid (HL.out V1 hV1b.out)
  have s1 := B1.out.size
  clear hV1 hP1 hn1 f3 t3 y0 y1 y2 y3 y4 y5
  go_upto_region 3 with (go_at_call 37; refine HL1.out.mono ?_; rintro e w2 ⟨⟨g2, d2, rfl, hO2⟩, hb2⟩; have hp2 := (hb2.block w.heap.size (by omega)).trans HP1.out; have f4 := st_frozen hp2 4; have t4 := (stObj_cells hp2).2.2.2.2.1; have HO2 := Lib.hid hO2; have B2 := Lib.hid hb2; have P2 := Lib.hid hp2; clear hb2 hp2 hO2)
  obtain ⟨V2, hV2⟩ : ∃ V, V = w2.setCell ⟨w.heap.size, 4, none⟩ (.slice g2 L.length d2) := ⟨_, rfl⟩
  rw [← hV2]
  have hP2 := st_set4 P2.out (.slice g2 L.length d2)
  rw [← hV2] at hP2
  have hn2 : ∀ b, b ≠ w.heap.size → V2.heap[b]? = w2.heap[b]? := fun b hb => by rw [hV2, setCell_block _ _ _ _ hb]
  have hz2 : V2.heap.size = w2.heap.size := by rw [hV2, size_setCell]
  have hV2b : Hid (Below w.heap.size w V2) := Lib.hid (by rw [hV2]; exact below_set (hV1b.out.trans (B2.out.mono hV1b.out.size)) _ _ _ (Nat.le_refl _))
  have hP2c := (stObj_cells hP2).2.2.2.2.2
  have HP2 := Lib.hid hP2
  have HN2 := Lib.hid hn2
  have HL2 := Lib.hid (HN.out V2 hV2b.out)
  have s2 := B2.out.size
  clear hV2 hP2 hn2 f4 t4 hP1c
  go_upto_region 4 with (go_at_call 38; refine HL2.out.mono ?_; rintro e w3 ⟨⟨g3, d3, rfl, hO3⟩, hb3⟩; have hp3 := (hb3.block w.heap.size (by omega)).trans HP2.out; have f5 := st_frozen hp3 5; have t5 := (stObj_cells hp3).2.2.2.2.2; have HO3 := Lib.hid hO3; have B3 := Lib.hid hb3; have P3 := Lib.hid hp3; clear hb3 hp3 hO3)
  obtain ⟨V3, hV3⟩ : ∃ V, V = w3.setCell ⟨w.heap.size, 5, none⟩ (.slice g3 N.length d3) := ⟨_, rfl⟩
  rw [← hV3]
  have hP3 := st_set5 P3.out (.slice g3 N.length d3)
  rw [← hV3] at hP3
  have hn3 : ∀ b, b ≠ w.heap.size → V3.heap[b]? = w3.heap[b]? := fun b hb => by rw [hV3, setCell_block _ _ _ _ hb]
  have hz3 : V3.heap.size = w3.heap.size := by rw [hV3, size_setCell]
  have hV3b : Hid (Below w.heap.size w V3) := Lib.hid (by rw [hV3]; exact below_set (hV2b.out.trans (B3.out.mono hV2b.out.size)) _ _ _ (Nat.le_refl _))
  have s3 := B3.out.size
  have hq3 : V3.heap[w.heap.size + 1]? = some (stObj 0 0 0 (.slice none 0 0) (.slice none 0 0) (.slice none 0 0)) := by
    rw [hn3 _ (by omega), B3.out.block _ (by omega), HN2.out _ (by omega), B2.out.block _ (by omega), HN1.out _ (by omega)]
    exact Q1.out
  have HST : Hid (∀ w', (∀ b, w.heap.size + 2 ≤ b → w'.heap[b]? = V3.heap[b]?) → StOwn w.heap.size w' (.slice g1 X.length d1) (.slice g2 L.length d2) (.slice g3 N.length d3) X Y L N) := Lib.hid fun w' hk => by
    have k1 : ∀ b, W0.heap.size ≤ b → b < w1.heap.size → w'.heap[b]? = w1.heap[b]? := fun b hb hl => by
      rw [hk b (by omega), hn3 _ (by omega), B3.out.block _ (by omega), HN2.out _ (by omega), B2.out.block _ (by omega), HN1.out _ (by omega)]
    have k2 : ∀ b, V1.heap.size ≤ b → b < w2.heap.size → w'.heap[b]? = w2.heap[b]? := fun b hb hl => by
      rw [hk b (by omega), hn3 _ (by omega), B3.out.block _ (by omega), HN2.out _ (by omega)]
    have k3 : ∀ b, V2.heap.size ≤ b → b < w3.heap.size → w'.heap[b]? = w3.heap[b]? := fun b hb hl => by
      rw [hk b (by omega), hn3 _ (by omega)]
    exact ⟨⟨((oit_own HO.out).keep fun b e => k1 b (HO.out.ge b e).1 (HO.out.ge b e).2).mono (by omega), HY.out, fun i hi => (((ci_ti (HE.out i hi)).keep fun b hb hl => k1 b (by omega) hl).mono (by omega)), HA.out⟩, (HO2.out.keep fun b e => k2 b (HO2.out.ge b e).1 (HO2.out.ge b e).2).mono (by omega), (HO3.out.keep fun b e => k3 b (HO3.out.ge b e).1 (HO3.out.ge b e).2).mono (by omega)⟩
  obtain ⟨x0, x1, x2, x3, x4, x5⟩ := stObj_cells hP3
  obtain ⟨f0, f1, f2, f3, f4, f5'⟩ := st_frozen6 hq3
  obtain ⟨z0, z1, z2, z3, z4, z5⟩ := stObj_cells hq3
  have hput := st_put hq3 now nl nx (.slice g1 X.length d1) (.slice g2 L.length d2) (.slice g3 N.length d3)
  clear hV3 hP3 hn3 f5 t5 hP2c hq3
  go_wp2_with (fail)
  obtain ⟨W9, hW9⟩ : ∃ V, V = put6 V3 (w.heap.size + 1) now nl nx (.slice g1 X.length d1) (.slice g2 L.length d2) (.slice g3 N.length d3) := ⟨_, rfl⟩
  have HW9 := Lib.hid hW9
  unfold put6 at hW9
  rw [← hW9] at hput ⊢
  clear hW9
  refine bodyPost_ret (results_cell_row (P := Tryz.prog) (fn := Tryz.f13) (p := 2) (ty := 26) rfl _ W9 (w.heap.size + 1) 26 _ (0, 0) _ rfl hput Tryz.underlying26 rfl (by kernel_rfl)) rfl ?_
  rw [HW9.out]
  exact ⟨put6_below hV3b.out _ _ _ _ _ _ _ (by omega), _, _, _, _, _, _, Y, rfl, HST.out _ fun b hb => put6_block _ _ _ _ _ _ _ _ (by omega)⟩
end Go.Proofs.YtbedbhlebfnohaaGreat
namespace Go.Proofs.YtbedbhlebfnohaaGreat
open Go.RowKit Go.Sort Go.Lib Go.Shelf

theorem IOwn.ri {B M : Nat} {w w0 : World} {a : Option Addr} {n c : Nat} {X Y : List It} (h : IOwn B w (.slice a n c) X Y) (hx : ∀ x ∈ X, ItOk M w0 x) : RI w.heap.size w a n c Y := by
  have hok : ∀ y ∈ Y, ItOk w.heap.size w y := fun y hy => by
    obtain ⟨i, hi, rfl⟩ := List.mem_iff_getElem.1 hy
    have hiX : i < X.length := by rw [← h.len]; exact hi
    have T := h.each i hiX
    have hxo := hx (X.getD i default) (getD_mem hiX)
    rw [List.getD_eq_getElem?_getD (l := Y), List.getElem?_eq_getElem hi] at T
    simp only [Option.getD_some] at T
    generalize X.getD i default = x at T hxo
    generalize Y[i] = y at T
    obtain ⟨pa, pc, ep, hp⟩ := T.op.in_ (fun p hp => by rw [T.ps] at hp; exact hxo.rp.fine p hp)
    obtain ⟨oa, oc, eo, ho⟩ := T.oo.in_ (fun p hp => by rw [T.os] at hp; exact hxo.rt.fine p hp)
    unfold It.pv at ep
    unfold It.ov at eo
    injection ep with e1 e2 e3
    injection eo with e4 e5 e6
    subst e1; subst e3; subst e4; subst e6
    exact ⟨by rw [T.code]; exact hxo.code, by rw [T.life]; exact hxo.lo, by rw [T.life]; exact hxo.hi, ptE_rp hp, txE_rt ho⟩
  obtain ⟨a', c', e, hin⟩ := h.own.in_ (fun y hy => ⟨(hok y hy).code, (hok y hy).lo, (hok y hy).hi⟩)
  injection e with e1 e2 e3
  subst e1; subst e2; subst e3
  refine ⟨hin.len, hin.le, hin.mx, hok, fun hc => ?_⟩
  obtain ⟨b, o, e, hb, hcell⟩ := hin.at_ hc
  exact ⟨b, o, e, hb, fun i hi => ⟨hcell i hi 0 (by decide), hcell i hi 1 (by decide), hcell i hi 2 (by decide), hcell i hi 3 (by decide)⟩⟩
end Go.Proofs.YtbedbhlebfnohaaGreat
namespace Go.Proofs.YtbedbhlebfnohaaGreat
open Go.RowKit Tx

structure SO (C : Nat) (w : World) (s : SV) : Prop where
  ri : RI w.heap.size w s.a1 s.n1 s.c1 s.X
  it : itE.Own C w (.slice s.a1 s.n1 s.c1) s.X
  pa : Apl 60 2 (fun n => n * 24 ≤ 140737488355328) C w.heap.size w (s.X.map It.pv)
  tx : Apl 9 1 (fun n => n * 16 ≤ 140737488355328) C w.heap.size w (s.X.map It.ov)
  lo : ∃ L, lotE.Own C w (.slice s.a2 s.n2 s.c2) L ∧ L.length ≤ 1000
  li : ∃ L, lineE.Own C w (.slice s.a3 s.n3 s.c3) L ∧ L.length ≤ 1000
  len : s.X.length ≤ 1000
theorem SO.of {C M : Nat} {w w0 : World} {now nl nx : Int} {a1 : Option Addr} {c1 : Nat} {X Y : List It} {a2 : Option Addr} {c2 : Nat} {L : List LotV} {a3 : Option Addr} {c3 : Nat} {N : List LineV} (g : Nat) (h : StOwn C w (.slice a1 X.length c1) (.slice a2 L.length c2) (.slice a3 N.length c3) X Y L N)
    (hx : ∀ x ∈ X, ItOk M w0 x) (hsz : ∀ x ∈ X, x.ps.length * 24 ≤ 140737488355328 ∧ x.os.length * 16 ≤ 140737488355328) (m1 : X.length ≤ 1000) (m2 : L.length ≤ 1000) (m3 : N.length ≤ 1000) : SO C w ⟨g, now, nl, nx, a1, X.length, c1, Y, a2, L.length, c2, a3, N.length, c3⟩ := by
  have hlen := h.items.len
  have hat : ∀ i (hi : i < Y.length), TI C w (X.getD i default) Y[i] := fun i hi => by
    have T := h.items.each i (by omega)
    rwa [List.getD_eq_getElem?_getD (l := Y), List.getElem?_eq_getElem hi] at T
  have hs : ∀ i (hi : i < Y.length), Y[i].ps.length * 24 ≤ 140737488355328 ∧ Y[i].os.length * 16 ≤ 140737488355328 := fun i hi => by
    have T := hat i hi
    rw [T.ps, T.os]
    exact hsz _ (getD_mem (by omega))
  have hap : ∀ i k (hi : i < Y.length) (hk : k < Y.length), i < k → (∀ b b', Y[i].pv.ownBlock = some b → Y[k].pv.ownBlock = some b' → b < b') ∧ (∀ b b', Y[i].ov.ownBlock = some b → Y[k].ov.ownBlock = some b' → b < b') := fun i k hi hk hik => by
    have T := h.items.ap i k hik (by omega)
    rwa [List.getD_eq_getElem?_getD (l := Y), List.getElem?_eq_getElem hi, List.getD_eq_getElem?_getD (l := Y), List.getElem?_eq_getElem hk] at T
  refine ⟨h.items.ri hx, h.items.own, ⟨fun v hv => ?_, fun v hv b hb => ?_, ?_⟩, ⟨fun v hv => ?_, fun v hv b hb => ?_, ?_⟩, ⟨L, h.lots, m2⟩, ⟨N, h.lines, m3⟩, by show Y.length ≤ 1000; omega⟩
  · obtain ⟨y, hy, rfl⟩ := List.mem_map.1 hv
    obtain ⟨i, hi, rfl⟩ := List.mem_iff_getElem.1 hy
    exact ⟨_, _, (hat i hi).op, (hs i hi).1⟩
  · obtain ⟨y, hy, rfl⟩ := List.mem_map.1 hv
    obtain ⟨i, hi, rfl⟩ := List.mem_iff_getElem.1 hy
    exact ((hat i hi).op.ge b hb).2
  · refine List.pairwise_map.2 (List.pairwise_iff_getElem.2 fun i k hi hk hik b e1 e2 => ?_)
    exact Nat.lt_irrefl _ ((hap i k hi hk hik).1 b b e1 e2)
  · obtain ⟨y, hy, rfl⟩ := List.mem_map.1 hv
    obtain ⟨i, hi, rfl⟩ := List.mem_iff_getElem.1 hy
    exact ⟨_, _, (hat i hi).oo, (hs i hi).2⟩
  · obtain ⟨y, hy, rfl⟩ := List.mem_map.1 hv
    obtain ⟨i, hi, rfl⟩ := List.mem_iff_getElem.1 hy
    exact ((hat i hi).oo.ge b hb).2
  · refine List.pairwise_map.2 (List.pairwise_iff_getElem.2 fun i k hi hk hik b e1 e2 => ?_)
    exact Nat.lt_irrefl _ ((hap i k hi hk hik).2 b b e1 e2)
theorem Tx.Apl.limit {e : TypeId} {cs : Nat} {Pn : Nat → Prop} {B N N' : Nat} {w : World} {Vs : List Value} (h : Apl e cs Pn B N w Vs) (hN : N ≤ N') : Apl e cs Pn B N' w Vs := ⟨h.own, fun v hv b e => Nat.lt_of_lt_of_le (h.lt v hv b e) hN, h.ap⟩
theorem Tx.Apl.three {e : TypeId} {cs : Nat} {Pn : Nat → Prop} {C0 C1 C2 N : Nat} {W0 W1 W2 W : World} {A D E : List Value} (h0 : Apl e cs Pn C0 W0.heap.size W0 A) (h1 : Apl e cs Pn C1 W1.heap.size W1 D) (h2 : Apl e cs Pn C2 W2.heap.size W2 E) (k1 : W0.heap.size ≤ C1) (k2 : W1.heap.size ≤ C2) (k3 : W2.heap.size ≤ N)
    (c1 : C1 ≤ W1.heap.size) (c2 : C2 ≤ W2.heap.size) (c0 : C0 ≤ W0.heap.size) (b0 : Below W0.heap.size W0 W) (b1 : Below W1.heap.size W1 W) (b2 : Below W2.heap.size W2 W) : Apl e cs Pn C0 N W ((([] ++ A) ++ D) ++ E) := by
  rw [List.nil_append]
  exact (((h0.below b0).limit k1).append ((h1.below b1).limit k2) (by omega) (by omega)).append ((h2.below b2).limit k3) (by omega) (by omega)
def mkS (s0 s1 s2 : SV) : Nat → SV | 0 => s0 | 1 => s1 | _ => s2
theorem own_st {B g : Nat} {w : World} {cs : Array Value} (h : w.heap[g]? = some (.cells cs 26)) (hc : cs.size = 6) (hB : B ≤ g) : w.ownsRow B 26 6 (.slice (some ⟨g, 0, none⟩) 1 1) 1 cs.toList :=
  ⟨by simp [hc], .inr ⟨g, 1, cs, rfl, hB, h, Nat.le_refl _, by decide, by omega, by rw [List.take_of_length_le (by simp [hc])]⟩⟩
def Tx.SV.cells (s : SV) : Array Value := #[.int .i64 s.now, .int .i64 s.nl, .int .i64 s.nx, .slice s.a1 s.n1 s.c1, .slice s.a2 s.n2 s.c2, .slice s.a3 s.n3 s.c3]
theorem SO.st1 {C N : Nat} {w W : World} {s : SV} (h : SO C w s) (hb : Below w.heap.size w W) (hN : w.heap.size ≤ N) (hg : W.heap[s.g]? = some (.cells s.cells 26)) (hgN : s.g < N) : St1 N W s.g s.now s.nl s.nx s.a1 s.n1 s.c1 s.X (.slice s.a2 s.n2 s.c2) (.slice s.a3 s.n3 s.c3) :=
  ⟨hg, (h.ri.below hb).mono hN, hgN⟩
set_option maxHeartbeats 1000000 in
set_option maxRecDepth 100000 in
theorem apart3_any (lb C0 C1 C2 G : Nat) (s0 s1 s2 : SV) (W0 W1 W2 W : World) (h0 : SO C0 W0 s0) (h1 : SO C1 W1 s1) (h2 : SO C2 W2 s2) (k1 : W0.heap.size ≤ C1) (k2 : W1.heap.size ≤ C2) (k3 : W2.heap.size ≤ G) (c0 : C0 ≤ W0.heap.size) (c1 : C1 ≤ W1.heap.size) (c2 : C2 ≤ W2.heap.size)
    (b0 : Below W0.heap.size W0 W) (b1 : Below W1.heap.size W1 W) (b2 : Below W2.heap.size W2 W) (g0 : W.heap[s0.g]? = some (.cells s0.cells 26)) (g1 : W.heap[s1.g]? = some (.cells s1.cells 26)) (g2 : W.heap[s2.g]? = some (.cells s2.cells 26))
    (q0 : G ≤ s0.g) (q1 : G ≤ s1.g) (q2 : G ≤ s2.g) (d01 : s0.g ≠ s1.g) (d02 : s0.g ≠ s2.g) (d12 : s1.g ≠ s2.g)
    (l0 : W.cell? ⟨lb, 0, none⟩ = some (.slice (some ⟨s0.g, 0, none⟩) 1 1)) (l1 : W.cell? ⟨lb, 1, none⟩ = some (.slice (some ⟨s1.g, 0, none⟩) 1 1)) (l2 : W.cell? ⟨lb, 2, none⟩ = some (.slice (some ⟨s2.g, 0, none⟩) 1 1)) (hlb : lb < W.heap.size) :
    Calls Tryz.prog 14 #[.slice (some ⟨lb, 0, none⟩) 3 3] W fun e w' => e = .returned (.bool true) ∧ Below C0 W w' := by
  have z0 := (Array.getElem?_eq_some_iff.1 g0).1
  have z1 := (Array.getElem?_eq_some_iff.1 g1).1
  have z2 := (Array.getElem?_eq_some_iff.1 g2).1
  have s02 := b2.size
  obtain ⟨Lo0, lo0, lp0⟩ := h0.lo
  obtain ⟨Lo1, lo1, lp1⟩ := h1.lo
  obtain ⟨Lo2, lo2, lp2⟩ := h2.lo
  obtain ⟨Li0, li0, ip0⟩ := h0.li
  obtain ⟨Li1, li1, ip1⟩ := h1.li
  obtain ⟨Li2, li2, ip2⟩ := h2.li
  have e0 := h0.len
  have e1 := h1.len
  have e2 := h2.len
  have hst : Apl 26 6 (fun n => n ≤ 1000000) C0 W.heap.size W ((([] ++ [.slice (some ⟨s0.g, 0, none⟩) 1 1]) ++ [.slice (some ⟨s1.g, 0, none⟩) 1 1]) ++ [.slice (some ⟨s2.g, 0, none⟩) 1 1]) := by
    refine ⟨fun v hv => ?_, fun v hv b hb => ?_, ?_⟩
    · simp only [List.nil_append, List.cons_append, List.mem_cons, List.not_mem_nil, or_false] at hv
      rcases hv with rfl | rfl | rfl
      · exact ⟨1, _, own_st g0 rfl (by omega), by decide⟩
      · exact ⟨1, _, own_st g1 rfl (by omega), by decide⟩
      · exact ⟨1, _, own_st g2 rfl (by omega), by decide⟩
    · simp only [List.nil_append, List.cons_append, List.mem_cons, List.not_mem_nil, or_false] at hv
      rcases hv with rfl | rfl | rfl <;> cases hb <;> assumption
    · simp only [List.nil_append, List.cons_append, List.pairwise_cons, List.mem_cons, List.not_mem_nil, or_false]
      refine ⟨fun v hv => ?_, fun v hv => ?_, fun v hv => absurd hv id, .nil⟩
      · rcases hv with rfl | rfl <;> intro b x1 x2 <;> cases x1 <;> injection x2 with x2
        · exact d01 x2.symm
        · exact d02 x2.symm
      · subst hv
        intro b x1 x2
        cases x1
        injection x2 with x2
        exact d12 x2.symm
  have one : ∀ {e : TypeId} {cs n : Nat} {C : Nat} {w : World} {v : Value} {X : List Value}, w.ownsRow C e cs v n X → n ≤ 1000 → Apl e cs (fun n => n ≤ 1000000) C w.heap.size w [v] := fun h hn => Apl.one h (by show _ ≤ 1000000; omega) (Nat.le_refl _)
  refine ApartStates_any C0 lb (mkS s0 s1 s2) W (by omega) hlb (fun k hk => ?_) (fun k => ?_) (fun k hk => ?_) ?_ ?_ ?_ ?_ ?_ hst
  · rcases (show k = 0 ∨ k = 1 ∨ k = 2 by omega) with rfl | rfl | rfl
    · exact l0
    · exact l1
    · exact l2
  · unfold mkS
    split <;> assumption
  · rcases (show k = 0 ∨ k = 1 ∨ k = 2 by omega) with rfl | rfl | rfl
    · exact h0.st1 b0 (by omega) g0 z0
    · exact h1.st1 b1 (by omega) g1 z1
    · exact h2.st1 b2 (by omega) g2 z2
  · exact Apl.three h0.tx h1.tx h2.tx k1 k2 (by omega) c1 c2 c0 b0 b1 b2
  · exact Apl.three (one lo0 lp0) (one lo1 lp1) (one lo2 lp2) k1 k2 (by omega) c1 c2 c0 b0 b1 b2
  · exact Apl.three h0.pa h1.pa h2.pa k1 k2 (by omega) c1 c2 c0 b0 b1 b2
  · exact Apl.three (one h0.it h0.len) (one h1.it h1.len) (one h2.it h2.len) k1 k2 (by omega) c1 c2 c0 b0 b1 b2
  · exact Apl.three (one li0 ip0) (one li1 ip1) (one li2 ip2) k1 k2 (by omega) c1 c2 c0 b0 b1 b2
end Go.Proofs.YtbedbhlebfnohaaGreat
namespace Go.Proofs.YtbedbhlebfnohaaGreat
open Go.RowKit Tx

theorem pickX_len {now : Int} {X : List It} {L : List LotV} {N : List LineV} {id : Int} {L' : List LotV} {N' : List LineV} {U : List UseV} (h : pickX now X L N id = .ok (L', N', U)) : L'.length ≤ L.length ∧ N'.length = N.length := by
  unfold pickX at h
  split at h
  · cases h
  · split at h
    · cases h
    · split at h
      · cases h
      · split at h
        · cases h
        · cases h
          exact ⟨leftL_len _ _, List.length_set ..⟩
theorem StOwn.stin {C M : Nat} {w w0 : World} {a1 : Option Addr} {c1 : Nat} {X Y : List It} {a2 : Option Addr} {c2 : Nat} {L : List LotV} {a3 : Option Addr} {c3 : Nat} {N : List LineV} (h : StOwn C w (.slice a1 X.length c1) (.slice a2 L.length c2) (.slice a3 N.length c3) X Y L N)
    (hx : ∀ x ∈ X, ItOk M w0 x) (hsz : ∀ x ∈ X, x.ps.length * 24 ≤ 140737488355328 ∧ x.os.length * 16 ≤ 140737488355328) (hl : ∀ x ∈ L, okLot x) (hn : ∀ x ∈ N, okLine x) (m1 : X.length ≤ 1000) (m2 : L.length ≤ 1000) (m3 : N.length ≤ 1000) :
    StIn w.heap.size w a1 X.length c1 Y a2 L.length c2 L a3 N.length c3 N ∧ (∀ y ∈ Y, ItOk w.heap.size w y) ∧ (∀ y ∈ Y, y.ps.length * 24 ≤ 140737488355328 ∧ y.os.length * 16 ≤ 140737488355328) ∧ Y.length = X.length := by
  have hri := h.items.ri hx
  have hs : ∀ y ∈ Y, y.ps.length * 24 ≤ 140737488355328 ∧ y.os.length * 16 ≤ 140737488355328 := fun y hy => by
    obtain ⟨i, hi, rfl⟩ := List.mem_iff_getElem.1 hy
    have hl := h.items.len
    have T := h.items.each i (by omega)
    rw [List.getD_eq_getElem?_getD (l := Y), List.getElem?_eq_getElem hi] at T
    simp only [Option.getD_some] at T
    rw [T.ps, T.os]
    exact hsz _ (getD_mem (by omega))
  obtain ⟨b2, d2, e2, k2⟩ := h.lots.in_ hl
  obtain ⟨b3, d3, e3, k3⟩ := h.lines.in_ hn
  injection e2 with x1 x2 x3
  injection e3 with y1 y2 y3
  subst x1; subst x3; subst y1; subst y3
  exact ⟨⟨hri, k2, k3, by omega, by omega, by omega, hs⟩, hri.ok, hs, h.items.len⟩
def PF (w : World) (e : Ending) (w' : World) : Prop := Below w.heap.size w w' ∧ ∃ (now nl nx : Int) (a1 : Option Addr) (n1 c1 : Nat) (Y : List It) (a2 : Option Addr) (n2 c2 : Nat) (a3 : Option Addr) (n3 c3 : Nat) (ua : Option Addr) (un uc : Nat) (er : Int),
  e = .returned (.tuple #[.agg #[.int .i64 now, .int .i64 nl, .int .i64 nx, .slice a1 n1 c1, .slice a2 n2 c2, .slice a3 n3 c3], .slice ua un uc, .int .i64 er]) ∧ ∀ g, SO w.heap.size w' ⟨g, now, nl, nx, a1, n1, c1, Y, a2, n2, c2, a3, n3, c3⟩
theorem SO.nil (C : Nat) (w : World) (g : Nat) (_hC : C ≤ w.heap.size) : SO C w ⟨g, 0, 0, 0, none, 0, 0, [], none, 0, 0, none, 0, 0⟩ :=
  ⟨⟨rfl, Nat.le_refl _, Nat.zero_le _, fun x hx => (by cases hx), fun h => absurd h (Nat.lt_irrefl _)⟩, El.Own.nil itE _ _, Apl.nil, Apl.nil, ⟨[], El.Own.nil lotE _ _, by decide⟩, ⟨[], El.Own.nil lineE _ _, by decide⟩, Nat.zero_le _⟩
theorem pick_pf (B : Nat) (now nl nx id : Int) (a1 : Option Addr) (n1 c1 : Nat) (X : List It) (a2 : Option Addr) (n2 c2 : Nat) (L : List LotV) (a3 : Option Addr) (n3 c3 : Nat) (N : List LineV) (w : World) (h : StIn B w a1 n1 c1 X a2 n2 c2 L a3 n3 c3 N) (hB : B ≤ w.heap.size) (hnow : -9223372036854775808 ≤ now ∧ now ≤ 9223372036854775807)
    (m1 : X.length ≤ 1000) (m2 : L.length ≤ 1000) (m3 : N.length ≤ 1000) :
    Calls Tryz.prog 8 #[.agg #[.int .i64 now, .int .i64 nl, .int .i64 nx, .slice a1 n1 c1, .slice a2 n2 c2, .slice a3 n3 c3], .int .i64 id] w fun e w' => PF w e w' := by
  refine (pick_any B now nl nx id a1 n1 c1 X a2 n2 c2 L a3 n3 c3 N w h hB hnow).mono fun e w' hp => ?_
  obtain ⟨hb, hp⟩ := hp
  refine ⟨hb, ?_⟩
  split at hp
  · exact ⟨0, 0, 0, none, 0, 0, [], none, 0, 0, none, 0, 0, none, 0, 0, _, hp, fun g => SO.nil _ _ _ hb.size⟩
  · rename_i L' N' U hpx
    obtain ⟨b1, d1, Y, b2, d2, b3, d3, ua, uc, rfl, hst, -⟩ := hp
    obtain ⟨q1, q2⟩ := pickX_len hpx
    exact ⟨now, nl, nx, b1, X.length, d1, Y, b2, L'.length, d2, b3, N'.length, d3, ua, U.length, uc, 0, rfl, fun g => SO.of g hst h.items.ok h.sz m1 (by omega) (by omega)⟩
end Go.Proofs.YtbedbhlebfnohaaGreat
