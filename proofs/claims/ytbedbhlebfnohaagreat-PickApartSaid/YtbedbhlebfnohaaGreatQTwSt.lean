/- twin.State: its walk. -/
import Derived.Test.YtbedbhlebfnohaaGreatSteps
namespace Go.Proofs.YtbedbhlebfnohaaGreat
open Go.RowKit Go.Sort Go.Lib Go.Shelf

theorem step_call {P : Program} {w : World} {ops : Array Oper} {o : Oper} {a : Act} {K : Act → World → Prop} {Q : Exit → Act → World → Prop} {Z : Prop} {f : FuncId} {args : Array Value} (hgd : o.guard = none) (hrun : (execOp a.eval o).run P w = .ok (.enter f args) w)
    (h : Calls P f args w fun e w' => ∃ v, e = .returned v ∧ K (a.put o.dst v) w') : if Region.wanted o (yielded ops a.tmps) = true then Oper.wp P o a w K Q else Z := by
  have hw : Region.wanted o (yielded ops a.tmps) = true := by simp [Region.wanted, hgd]
  rw [if_pos hw]
  unfold Oper.wp
  rw [hrun]
  refine Calls.mono h ?_
  rintro e w' ⟨v, rfl, h'⟩
  exact h'
theorem below_drew {B : Nat} {w w' : World} (h : Below B w w') : Below B w w'.drew := h.trans ⟨rfl, rfl, rfl, Nat.le_refl _, fun _ _ => rfl⟩
theorem ent_twin : Enters Tryz.prog 107 := enters_of Tryz.func107 (by kernel_rfl) rfl
theorem ent_clots : Enters Tryz.prog 22 := enters_of Tryz.func22 (by kernel_rfl) rfl
theorem ent_clines : Enters Tryz.prog 108 := enters_of Tryz.func108 (by kernel_rfl) rfl
structure StIn (B : Nat) (w : World) (a1 : Option Addr) (n1 c1 : Nat) (X1 : List It) (a2 : Option Addr) (n2 c2 : Nat) (X2 : List LotV) (a3 : Option Addr) (n3 c3 : Nat) (X3 : List LineV) : Prop where
  items : RI B w a1 n1 c1 X1
  lots : lotE.In B w a2 n2 c2 X2
  lines : lineE.In B w a3 n3 c3 X3
  nI : n1 ≤ 100000000
  nL : n2 ≤ 100000000
  nN : n3 ≤ 100000000
  sz : ∀ x ∈ X1, x.ps.length * 24 ≤ 140737488355328 ∧ x.os.length * 16 ≤ 140737488355328
theorem StIn.below {B : Nat} {w w' : World} {a1 : Option Addr} {n1 c1 : Nat} {X1 : List It} {a2 : Option Addr} {n2 c2 : Nat} {X2 : List LotV} {a3 : Option Addr} {n3 c3 : Nat} {X3 : List LineV} (h : StIn B w a1 n1 c1 X1 a2 n2 c2 X2 a3 n3 c3 X3) (hb : Below B w w') : StIn B w' a1 n1 c1 X1 a2 n2 c2 X2 a3 n3 c3 X3 := ⟨h.items.below hb, h.lots.below hb, h.lines.below hb, h.nI, h.nL, h.nN, h.sz⟩
theorem st_put {W : World} {q : Nat} {d0 d1 d2 : Int} {u1 u2 u3 : Value} (hq : W.heap[q]? = some (stObj d0 d1 d2 u1 u2 u3)) (now nl nx : Int) (v1 v2 v3 : Value) : ((((((W.setCell ⟨q, 0, none⟩ (.int .i64 now)).setCell ⟨q, 1, none⟩ (.int .i64 nl)).setCell ⟨q, 2, none⟩ (.int .i64 nx)).setCell ⟨q, 3, none⟩ v1).setCell ⟨q, 4, none⟩ v2).setCell ⟨q, 5, none⟩ v3).heap[q]? = some (stObj now nl nx v1 v2 v3) := by
  unfold stObj at *
  simp [setCell_eq, mapBlock, Array.getElem?_modify, hq, onCells]
set_option maxHeartbeats 4000000 in
set_option maxRecDepth 100000 in
/-- twin.State behind its second statement. -/
theorem tw_tail (p q : Nat) (now nl nx : Int) (a1 : Option Addr) (n1 c1 : Nat) (a2 : Option Addr) (n2 c2 : Nat) (a3 : Option Addr) (n3 c3 : Nat) (W : World) (R : Ending → World → Prop) (hp : W.heap[p]? = some (stObj now nl nx (.slice a1 n1 c1) (.slice a2 n2 c2) (.slice a3 n3 c3))) (hq : W.heap[q]? = some (stObj 0 0 0 (.slice none 0 0) (.slice none 0 0) (.slice none 0 0)))
    (hR : ∀ w', (∀ b, b ≠ q → w'.heap[b]? = W.heap[b]?) → w'.heap.size = W.heap.size → (∀ B w, Below B w W → B ≤ q → Below B w w') → R (.returned (.agg #[.int .i64 now, .int .i64 nl, .int .i64 nx, .slice a1 n1 c1, .slice a2 n2 c2, .slice a3 n3 c3])) w') (s0 s3 s4 s5 s6 s7 s8 s9 s10 s11 s12 s13 s14 s15 : Value) :
    Code.wp Tryz.prog (dropQ 2 (Tryz.f55.body.getD .skip)) (bodyPost Tryz.prog Tryz.f55 R) ⟨List.toArray (s0 :: .pointer (some ⟨p, 0, none⟩) :: .pointer (some ⟨q, 0, none⟩) :: s3 :: s4 :: s5 :: s6 :: s7 :: s8 :: s9 :: s10 :: s11 :: s12 :: s13 :: s14 :: s15 :: []), []⟩ W := by
  have f := st_frozen hq
  have f0 := f 0; have f1 := f 1; have f2 := f 2; have f3 := f 3; have f4 := f 4; have f5 := f 5
  obtain ⟨y0, y1, y2, y3, y4, y5⟩ := stObj_cells hp
  obtain ⟨z0, z1, z2, z3, z4, z5⟩ := stObj_cells hq
  have HR := Lib.hid hR
  have HQ := Lib.hid hq
  clear hR hp hq f
  conv => arg 2; whnf
  go_wp2_with (fail)
  have hput := st_put HQ.out now nl nx (.slice a1 n1 c1) (.slice a2 n2 c2) (.slice a3 n3 c3)
  obtain ⟨W9, hW9⟩ : ∃ V, V = ((((((W.setCell ⟨q, 0, none⟩ (.int .i64 now)).setCell ⟨q, 1, none⟩ (.int .i64 nl)).setCell ⟨q, 2, none⟩ (.int .i64 nx)).setCell ⟨q, 3, none⟩ (.slice a1 n1 c1)).setCell ⟨q, 4, none⟩ (.slice a2 n2 c2)).setCell ⟨q, 5, none⟩ (.slice a3 n3 c3)) := ⟨_, rfl⟩
  rw [← hW9] at hput ⊢
  obtain ⟨x0, x1, x2, x3, x4, x5⟩ := stObj_cells hput
  have HW9 := Lib.hid hW9
  have HPUT := Lib.hid hput
  clear hW9 hput
  refine bodyPost_ret (results_cell_row (P := Tryz.prog) (fn := Tryz.f55) (p := 2) (ty := 26) rfl _ W9 q 26 _ (0, 0) _ rfl HPUT.out Tryz.underlying26 rfl (by kernel_rfl)) rfl ?_
  rw [HW9.out]
  exact HR.out _ (fun b hb => by simp only [setCell_block _ _ _ _ hb]) (by simp only [size_setCell]) (fun B w h hB => below_set (below_set (below_set (below_set (below_set (below_set h _ _ _ hB) _ _ _ hB) _ _ _ hB) _ _ _ hB) _ _ _ hB) _ _ _ hB)
def StP (w : World) (now nl nx : Int) (X1 : List It) (X2 : List LotV) (X3 : List LineV) (n1 n2 n3 : Nat) (e : Ending) (w' : World) : Prop :=
  ∃ a1 c1 Y a2 c2 a3 c3 V0 V1 V2 V3, e = .returned (.agg #[.int .i64 now, .int .i64 nl, .int .i64 nx, .slice a1 n1 c1, .slice a2 n2 c2, .slice a3 n3 c3]) ∧ V0.heap.size = w.heap.size + 2 ∧ TwP V0 X1 (.slice a1 n1 c1) Y V1 ∧ lotE.Own V1.heap.size V2 (.slice a2 n2 c2) X2 ∧ Below V1.heap.size V1 V2 ∧ lineE.Own V2.heap.size V3 (.slice a3 n3 c3) X3 ∧ Below V2.heap.size V2 V3 ∧ Below w.heap.size w w' ∧ (∀ b, b ≠ w.heap.size → b ≠ w.heap.size + 1 → w'.heap[b]? = V3.heap[b]?) ∧ w'.heap.size = V3.heap.size
theorem st_put3 {W : World} {q : Nat} {now nl nx : Int} {u1 u2 u3 : Value} (hq : W.heap[q]? = some (stObj now nl nx u1 u2 u3)) (v1 v2 v3 : Value) : (((W.setCell ⟨q, 3, none⟩ v1).setCell ⟨q, 4, none⟩ v2).setCell ⟨q, 5, none⟩ v3).heap[q]? = some (stObj now nl nx v1 v2 v3) := by
  unfold stObj at *
  simp [setCell_eq, mapBlock, Array.getElem?_modify, hq, onCells]
theorem tw_fin {w V0 V1 V2 V3 : World} {now nl nx : Int} {X1 Y : List It} {X2 : List LotV} {X3 : List LineV} {a1 a2 a3 : Option Addr} {n1 c1 n2 c2 n3 c3 : Nat} {u1 u2 u3 : Value} (hs : V0.heap.size = w.heap.size + 2) (T1 : TwP V0 X1 (.slice a1 n1 c1) Y V1) (T2 : lotE.Own V1.heap.size V2 (.slice a2 n2 c2) X2) (B2 : Below V1.heap.size V1 V2) (T3 : lineE.Own V2.heap.size V3 (.slice a3 n3 c3) X3) (B3 : Below V2.heap.size V2 V3) (hB : Below w.heap.size w V3)
    (P3 : V3.heap[w.heap.size]? = some (stObj now nl nx u1 u2 u3)) (Q3 : V3.heap[w.heap.size + 1]? = some (stObj 0 0 0 (.slice none 0 0) (.slice none 0 0) (.slice none 0 0))) (s0 s3 s4 s5 s6 s7 s8 s9 s10 s11 s12 s13 s14 s15 : Value) :
    Code.wp Tryz.prog (dropQ 2 (Tryz.f55.body.getD .skip)) (bodyPost Tryz.prog Tryz.f55 fun e w' => StP w now nl nx X1 X2 X3 n1 n2 n3 e w') ⟨List.toArray (s0 :: .pointer (some ⟨w.heap.size, 0, none⟩) :: .pointer (some ⟨w.heap.size + 1, 0, none⟩) :: s3 :: s4 :: s5 :: s6 :: s7 :: s8 :: s9 :: s10 :: s11 :: s12 :: s13 :: s14 :: s15 :: []), []⟩ (((V3.setCell ⟨w.heap.size, 3, none⟩ (.slice a1 n1 c1)).setCell ⟨w.heap.size, 4, none⟩ (.slice a2 n2 c2)).setCell ⟨w.heap.size, 5, none⟩ (.slice a3 n3 c3)) := by
  refine tw_tail w.heap.size (w.heap.size + 1) now nl nx a1 n1 c1 a2 n2 c2 a3 n3 c3 _ _ (st_put3 P3 _ _ _) ?_ ?_ s0 s3 s4 s5 s6 s7 s8 s9 s10 s11 s12 s13 s14 s15
  · rw [setCell_block _ _ _ _ (by omega), setCell_block _ _ _ _ (by omega), setCell_block _ _ _ _ (by omega)]
    exact Q3
  · intro w' h1 h2 h3
    refine ⟨a1, c1, Y, a2, c2, a3, c3, V0, V1, V2, V3, rfl, hs, T1, T2, B2, T3, B3, ?_, fun b hb hb1 => ?_, ?_⟩
    · exact h3 _ _ (below_set (below_set (below_set hB _ _ _ (Nat.le_refl _)) _ _ _ (Nat.le_refl _)) _ _ _ (Nat.le_refl _)) (by omega)
    · rw [h1 b hb1, setCell_block _ _ _ _ hb, setCell_block _ _ _ _ hb, setCell_block _ _ _ _ hb]
    · rw [h2, size_setCell, size_setCell, size_setCell]
set_option maxHeartbeats 8000000 in
set_option maxRecDepth 100000 in
theorem twinState_any (B : Nat) (now nl nx : Int) (a1 : Option Addr) (n1 c1 : Nat) (X1 : List It) (a2 : Option Addr) (n2 c2 : Nat) (X2 : List LotV) (a3 : Option Addr) (n3 c3 : Nat) (X3 : List LineV) (w : World) (h : StIn B w a1 n1 c1 X1 a2 n2 c2 X2 a3 n3 c3 X3) (hB : B ≤ w.heap.size) :
    Calls Tryz.prog 55 #[.agg #[.int .i64 now, .int .i64 nl, .int .i64 nx, .slice a1 n1 c1, .slice a2 n2 c2, .slice a3 n3 c3]] w fun e w' => StP w now nl nx X1 X2 X3 n1 n2 n3 e w' := by
  have mixed : Tryz.prog.follows Departure.mixedOrders = true := by kernel_rfl
  have late : Tryz.prog.follows Departure.lateStores = true := by kernel_rfl
  have unsure : Tryz.prog.follows Departure.lateStoresUnsure = true := by kernel_rfl
  obtain ⟨W0, hW0⟩ : ∃ V, V = (w.alloc (.cells #[.int .i64 now, .int .i64 nl, .int .i64 nx, .slice a1 n1 c1, .slice a2 n2 c2, .slice a3 n3 c3] 26)).alloc (.cells #[.int .i64 0, .int .i64 0, .int .i64 0, .slice none 0 0, .slice none 0 0, .slice none 0 0] 26) := ⟨_, rfl⟩
  have HB0 : Hid (Below w.heap.size w W0) := Lib.hid (by rw [hW0]; exact ((Below.refl _ w).alloc (Nat.le_refl _) _).alloc (by rw [World.size_alloc]; omega) _)
  have hs0 : W0.heap.size = w.heap.size + 2 := by rw [hW0, World.size_alloc, World.size_alloc]
  have hp0 : Hid (W0.heap[w.heap.size]? = some (stObj now nl nx (.slice a1 n1 c1) (.slice a2 n2 c2) (.slice a3 n3 c3))) := Lib.hid (by
    rw [hW0, ((Below.refl (w.heap.size + 1) (w.alloc _)).alloc (by rw [World.size_alloc]; omega) _).block w.heap.size (by omega)]
    exact heap_alloc_new _ _)
  have hq0 : Hid (W0.heap[w.heap.size + 1]? = some (stObj 0 0 0 (.slice none 0 0) (.slice none 0 0) (.slice none 0 0))) := Lib.hid (by
    rw [hW0]
    have := heap_alloc_new (w.alloc (.cells #[.int .i64 now, .int .i64 nl, .int .i64 nx, .slice a1 n1 c1, .slice a2 n2 c2, .slice a3 n3 c3] 26)) (stObj 0 0 0 (.slice none 0 0) (.slice none 0 0) (.slice none 0 0))
    rw [World.size_alloc] at this
    exact this)
  have HQ := Lib.hid (fun (V : World) (hb : Below W0.heap.size W0 V) => (hb.block (w.heap.size + 1) (by omega)).trans hq0.out)
  have HS := Lib.hid (fun (V : World) (hb : Below w.heap.size w V) => h.below (hb.mono hB))
  have HT := Lib.hid (fun (V : World) (hb : Below w.heap.size w V) => let q := (h.below (hb.mono hB)); twinItems_any B a1 n1 c1 X1 V q.items (Nat.le_trans hB hb.size) q.nI q.sz)
  have HL := Lib.hid (fun (V : World) (hb : Below w.heap.size w V) => let q := (h.below (hb.mono hB)); cloneLot_any B a2 n2 c2 X2 V q.lots (Nat.le_trans hB hb.size) q.nL)
  have HN := Lib.hid (fun (V : World) (hb : Below w.heap.size w V) => let q := (h.below (hb.mono hB)); cloneLine_any B a3 n3 c3 X3 V q.lines (Nat.le_trans hB hb.size) q.nN)
  have HP := Lib.hid (fun (V : World) (hb : Below W0.heap.size W0 V) => (hb.block w.heap.size (by omega)).trans hp0.out)
  have hV0 : Hid (W0.drew.heap.size = w.heap.size + 2) := Lib.hid hs0
  have HC := Lib.hid (fun (V : World) (hb : Below W0.heap.size W0 V) => stObj_cells (HP.out V hb))
  have hle1 := h.items.le; have hmx1 := h.items.mx; have hle2 := h.lots.le; have hmx2 := h.lots.mx; have hle3 := h.lines.le; have hmx3 := h.lines.mx
  have hb0 := Lib.hid (below_drew (Below.refl W0.heap.size W0))
  obtain ⟨y0, y1, y2, y3, y4, y5⟩ := HC.out _ hb0.out
  have HW0 := Lib.hid hW0
  clear hW0 h
  go_enter Tryz.func55, Tryz.ntmps55
  go_upto_region 1 with (fail)
  rw [← HW0.out]
  go_region_law (first | (refine step_call (f := 107) (args := #[.slice a1 n1 c1]) rfl (run_fn1 rfl rfl ent_twin _ rfl) ?_; refine (HT.out _ (HB0.out.trans (hb0.out.mono (by omega)))).mono ?_; rintro e V1 ⟨a', c', Y, rfl, T⟩; have hb1 := Lib.hid (hb0.out.trans (T.below.mono hb0.out.size)); have T1 := Lib.hid T; obtain ⟨z0, z1, z2, z3, z4, z5⟩ := HC.out _ hb1.out; clear T; refine ⟨_, rfl, ?_⟩) | (refine step_call (f := 22) (args := #[.slice a2 n2 c2]) rfl (run_fn1 rfl rfl ent_clots _ rfl) ?_; refine (HL.out _ (HB0.out.trans (hb1.out.mono (by omega)))).mono ?_; rintro e V2 ⟨⟨al, cl, rfl, -, O⟩, hb⟩; have hb2 := Lib.hid (hb1.out.trans (hb.mono hb1.out.size)); have T2 := Lib.hid O; have B2 := Lib.hid hb; obtain ⟨k0, k1, k2, k3, k4, k5⟩ := HC.out _ hb2.out; clear O hb; refine ⟨_, rfl, ?_⟩) | (refine step_call (f := 108) (args := #[.slice a3 n3 c3]) rfl (run_fn1 rfl rfl ent_clines _ rfl) ?_; refine (HN.out _ (HB0.out.trans (hb2.out.mono (by omega)))).mono ?_; rintro e V3 ⟨⟨an, cn, rfl, -, O⟩, hb⟩; have hb3 := Lib.hid (hb2.out.trans (hb.mono hb2.out.size)); have T3 := Lib.hid O; have B3 := Lib.hid hb; have P3 := HP.out _ hb3.out; obtain ⟨l0, l1, l2, l3, l4, l5⟩ := stObj_cells P3; have fr := st_frozen P3; have fr3 := fr 3; have fr4 := fr 4; have fr5 := fr 5; clear O hb P3 fr; refine ⟨_, rfl, ?_⟩))
  all_goals iterate 2 go_step
  all_goals exact tw_fin hV0.out T1.out T2.out B2.out T3.out B3.out (HB0.out.trans (hb3.out.mono (by omega))) (HP.out _ hb3.out) (HQ.out _ hb3.out) _ _ _ _ _ _ _ _ _ _ _ _ _ _
end Go.Proofs.YtbedbhlebfnohaaGreat
