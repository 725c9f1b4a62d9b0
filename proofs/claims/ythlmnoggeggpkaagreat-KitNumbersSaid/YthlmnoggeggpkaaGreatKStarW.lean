/- Kits of many parts: what their lists say. Kits of many parts: append of a part in a region that draws its order. -/
import Derived.Test.YthlmnoggeggpkaaGreatKNumT
namespace Go.Proofs.YthlmnoggeggpkaaGreat
open Go.RowKit

theorem stL_len (n : Nat) : (stL n).length = n := by simp [stL]
theorem stP_len (n : Nat) : (stP n).length = n := by simp [stP]
theorem stL_succ (n : Nat) : stL (n + 1) = stL n ++ [stI n] := by simp [stL, List.range_succ]
theorem stP_succ (n : Nat) : stP (n + 1) = stP n ++ [((stI n).code, 1)] := by simp [stP, List.range_succ, stI]
theorem stL_at {n i : Nat} (h : i < n) : (stL n).getD i default = stI i := by simp [stL, List.getD_eq_getElem?_getD, h]
theorem st_sm (n : Nat) (hn : n ≤ 1000) : ∀ x ∈ stL n ++ [stK n], SmI x := by
  intro x hx
  rcases List.mem_append.1 hx with hx | hx
  · unfold stL at hx
    obtain ⟨i, -, rfl⟩ := List.mem_map.1 hx
    exact ⟨(show 2 ≤ 1000 by decide), (show (-9223372036854775808 : Int) ≤ 1 ∧ (1 : Int) ≤ 9223372036854775807 by decide), (show 0 ≤ 1000 by decide), fun p hp => by cases hp⟩
  · rw [List.mem_singleton] at hx
    subst hx
    refine ⟨(show 1 ≤ 1000 by decide), (show (-9223372036854775808 : Int) ≤ 0 ∧ (0 : Int) ≤ 9223372036854775807 by decide), (show (stP n).length ≤ 1000 by rw [stP_len]; exact hn), fun p hp => ?_⟩
    have hp2 : p ∈ stP n := hp
    unfold stP at hp2
    obtain ⟨i, -, rfl⟩ := List.mem_map.1 hp2
    exact ⟨(show 2 ≤ 1000 by decide), (show (-9223372036854775808 : Int) ≤ 1 ∧ (1 : Int) ≤ 9223372036854775807 by decide)⟩
theorem star_kp {base n : Nat} {w : World} {v : Value} {Y : List It} (h : MY base w v (stL n ++ [stK n]) Y) (hn : n ≤ 1000) : KP w v (chkE (stL n ++ [stK n])) := h.kp rfl (st_sm n hn)
theorem conv1d (w : World) (g : Nat) (a : UInt8) (h0 : w.cell? ⟨g, 0, none⟩ = some (.int .u8 a.toNat)) : (convert 48 9 (.slice (some ⟨g, 0, none⟩) 1 1)).run Tryz.prog w = .ok (.string ⟨#[a]⟩) w := by
  refine run_convert_bytes_back (P := Tryz.prog) _ _ _ 5 ⟨g, 0, none⟩ 1 [a] Tryz.underlying48 Tryz.underlying5 Tryz.underlying9 fun j hj => ?_
  have e1 : (⟨g, 0, none⟩ : Addr).add j = ⟨g, j, none⟩ := by unfold Addr.add; split <;> simp_all
  rw [e1]
  have hj2 : j < 1 := hj
  obtain rfl : j = 0 := by omega
  exact h0
theorem conv1e (w : World) (a : UInt8) : (convert 48 9 (.slice (some ⟨w.heap.size, 0, none⟩) 1 1)).run Tryz.prog (w.alloc (.cells #[.int .u8 a.toNat] 5)) = .ok (.string ⟨#[a]⟩) (w.alloc (.cells #[.int .u8 a.toNat] 5)) :=
  conv1d _ _ a (by rw [World.cell?_alloc_new]; rfl)
end Go.Proofs.YthlmnoggeggpkaaGreat
namespace Go.Proofs.YthlmnoggeggpkaaGreat
open Go.RowKit Tx

set_option maxRecDepth 100000 in
theorem step_append_part {w : World} {ops : Array Oper} {o : Oper} {a : Act} {K : Act → World → Prop} {Q : Exit → Act → World → Prop} {E : Prop} (hgd : o.guard = none) (s x : Operand)
    (ho : o.op = .call { callee := .builtin .append, args := #[s, x], argTypes := #[26, 26] }) (base : Nat) (v : Value) (P : List Pt) (p : Pt) (m : Nat) (hm : m = P.length + 1) (hs : a.eval s = v) (h : OP base w v P) (ad : Addr) (c : Nat)
    (hx : a.eval x = .slice (some ad) 1 c) (hsrc : ∀ j u, (cellsP [p])[j]? = some u → w.cell? (ad.add j) = some u) (hbase : base ≤ w.heap.size) (hl : P.length ≤ 1000000)
    (hK : ∀ g cap w', OP base w' (.slice (some ⟨g, 0, none⟩) m cap) (P ++ [p]) → w.grownBy w' v.ownBlock → (v.ownBlock = some g ∨ g = w.heap.size) → K (a.put o.dst (.slice (some ⟨g, 0, none⟩) m cap)) w') :
    if Region.wanted o (yielded ops a.tmps) = true then Oper.wp Tryz.prog o a w K Q else E := by
  have hw : Region.wanted o (yielded ops a.tmps) = true := by simp [Region.wanted, hgd]
  rw [if_pos hw]
  subst hm
  obtain ⟨i0, hi, hz0, hz1, hz2⟩ := info_parts Tryz.infoPart
  obtain ⟨g, cap, w', hr, h1, h2, h3, h4⟩ := append_keepC (P := Tryz.prog) (m := 1) (cs := 2) (Q := cellsP [p]) 26 o.type 45 i0 _ Tryz.underlying26 hi hz0 hz1 rfl h (some ad) c ⟨ad, rfl, hsrc⟩ cellsP_one (cellsP_len [p]) (by decide) hbase (by rw [hz2]; omega) (by omega)
  unfold Oper.wp execOp
  simp only [ho, resolve, invoke, builtin, Sem.run_bind, Sem.run_pure, Result.andThen_ok, List.map_toArray, List.map_cons, List.map_nil, hs, hx, hr]
  refine hK g cap w' ?_ h3 h4
  unfold OP
  rw [List.length_append, cellsP_append]
  exact h1
theorem wpList_append_item3 {w : World} {ops : Array Oper} {rest : List Oper} {o : Oper} {a : Act} {K : Exit → Act → World → Prop} (hgd : o.guard = none) (s x : Operand)
    (ho : o.op = .call { callee := .builtin .append, args := #[s, x], argTypes := #[22, 22] }) (base : Nat) (v : Value) (Y : List It) (y : It) (m : Nat) (hm : m = Y.length + 1) (hs : a.eval s = v) (h : OIt base w v Y) (ad : Addr) (c : Nat)
    (hx : a.eval x = .slice (some ad) 1 c) (hsrc : ∀ j u, (cellsI [y])[j]? = some u → w.cell? (ad.add j) = some u) (hbase : base ≤ w.heap.size) (hl : Y.length ≤ 1000000)
    (hK : ∀ g cap w', OIt base w' (.slice (some ⟨g, 0, none⟩) m cap) (Y ++ [y]) → w.grownBy w' v.ownBlock → (v.ownBlock = some g ∨ g = w.heap.size) → wpList Tryz.prog ops K rest (a.put o.dst (.slice (some ⟨g, 0, none⟩) m cap)) w') : wpList Tryz.prog ops K (o :: rest) a w := by
  subst hm
  exact wpList_append_item2 hgd s x ho base v Y y hs h ad c hx hsrc hbase hl fun g cap w' h1 _ h3 h4 => hK g cap w' h1 h3 h4
theorem one_partD (W : World) (p : Pt) : ∀ j u, (cellsP [p])[j]? = some u → (W.alloc (.cells #[.string ⟨p.1.toArray⟩, .int .i64 p.2] 45)).drew.cell? ((⟨W.heap.size, 0, none⟩ : Addr).add j) = some u := by
  intro j u hu
  have e : (⟨W.heap.size, 0, none⟩ : Addr).add j = ⟨W.heap.size, 0 + j, none⟩ := by unfold Addr.add; split <;> simp_all
  rw [e]
  show (W.alloc _).cell? _ = _
  simp only [World.cell?, (Go.MapKept.heap_alloc W _).1]
  simpa [cellsP, encP] using hu
/-- What stands in the inner loop: the list and the parts so far, and the block of the kit. -/
structure StR (w : World) (kb : Nat) (v pv : Value) (j : Nat) (W : World) : Prop where
  ov : OIt w.heap.size W v (stL j)
  op : OP w.heap.size W pv (stP j)
  kc : W.heap[kb]? = some (.cells #[.string ⟨#[90]⟩, .int .i64 0, pv, .slice none 0 0] 43)
  kv : ∀ b, v.ownBlock = some b → kb < b
  kw : w.heap.size ≤ kb
  bl : Below w.heap.size w W
theorem StR.start {w wr : World} (h : Below w.heap.size w wr) : StR w wr.heap.size (.slice none 0 0) (.slice none 0 0) 0 (wr.alloc (.cells #[.string ⟨#[90]⟩, .int .i64 0, .slice none 0 0, .slice none 0 0] 43)) := by
  refine ⟨OIt.nil _ _, OP.nil _ _, ?_, fun b e => (by cases e), h.size, h.alloc h.size _⟩
  rw [(Go.MapKept.heap_alloc wr _).1]
theorem StR.cell {w W : World} {kb : Nat} {v pv : Value} {j : Nat} (h : StR w kb v pv j W) : W.cell? ⟨kb, 2, none⟩ = some pv ∧ W.frozen? ⟨kb, 2, none⟩ = false := by
  unfold World.cell? World.frozen?
  simp only [h.kc]
  exact ⟨rfl, rfl⟩
/-- One more item. -/
theorem StR.item {w W W2 w4 : World} {kb : Nat} {v pv : Value} {j g c m : Nat} (h : StR w kb v pv j W) (hb : Below W.heap.size W W2) (hm : m = j + 1) (ho : OIt w.heap.size w4 (.slice (some ⟨g, 0, none⟩) m c) (stL j ++ [stI j])) (hg : W2.grownBy w4 v.ownBlock) (hn : v.ownBlock = some g ∨ g = W2.heap.size) :
    OIt w.heap.size w4 (.slice (some ⟨g, 0, none⟩) m c) (stL m) ∧ OP w.heap.size w4 pv (stP j) ∧ w4.heap[kb]? = some (.cells #[.string ⟨#[90]⟩, .int .i64 0, pv, .slice none 0 0] 43) ∧ kb < g ∧ Below w.heap.size w w4 ∧ w4.cell? ⟨g, j * 4, none⟩ = some (encStr (stI j).code) := by
  have hk : kb < W.heap.size := (Array.getElem?_eq_some_iff.1 h.kc).1
  subst hm
  have ho' := ho
  rw [← stL_succ] at ho'
  refine ⟨ho', rows_grown (by decide) (h.op.below hb) (h.ov.below hb) hg, ?_, ?_, (h.bl.trans (hb.mono h.bl.size)).grown hg (Nat.le_trans h.bl.size hb.size) (fun b e => (rows_ge h.ov b e).1), ?_⟩
  · rw [hg.block kb (Nat.lt_of_lt_of_le hk hb.size) (fun e => absurd (h.kv kb e.symm) (Nat.lt_irrefl _)), hb.block kb hk]
    exact h.kc
  · rcases hn with hn | rfl
    · exact h.kv g hn
    · exact Nat.lt_of_lt_of_le hk hb.size
  · obtain ⟨-, -, -, -, hc⟩ := OIt.cells ho'
    have := (hc j (by omega)).1
    rw [stL_at (Nat.lt_succ_self j)] at this
    exact this
/-- One more part. -/
theorem StR.part {w w4 W3 w5 : World} {kb : Nat} {v pv : Value} {j g g5 c5 c m : Nat} (hm : m = j + 1) (hv : v = .slice (some ⟨g, 0, none⟩) m c) (ho : OIt w.heap.size w4 v (stL m)) (hp : OP w.heap.size w4 pv (stP j)) (hk : w4.heap[kb]? = some (.cells #[.string ⟨#[90]⟩, .int .i64 0, pv, .slice none 0 0] 43)) (hlt : kb < g) (hkw : w.heap.size ≤ kb) (hbl : Below w.heap.size w w4)
    (hb : Below w4.heap.size w4 W3) (hg : W3.grownBy w5 pv.ownBlock) (hq : OP w.heap.size w5 (.slice (some ⟨g5, 0, none⟩) m c5) (stP j ++ [((stI j).code, 1)])) :
    w5.cell? ⟨kb, 2, none⟩ = some pv ∧ w5.frozen? ⟨kb, 2, none⟩ = false ∧ StR w kb v (.slice (some ⟨g5, 0, none⟩) m c5) m (w5.setCell ⟨kb, 2, none⟩ (.slice (some ⟨g5, 0, none⟩) m c5)) := by
  have hks : kb < w4.heap.size := (Array.getElem?_eq_some_iff.1 hk).1
  subst hm
  rw [← stP_succ] at hq
  have hk3 : W3.heap[kb]? = some (.cells #[.string ⟨#[90]⟩, .int .i64 0, pv, .slice none 0 0] 43) := (hb.block kb hks).trans hk
  have hne : some kb ≠ pv.ownBlock := fun e => by
    obtain ⟨c1, h1⟩ := row_is (hp.below hb) e.symm
    rw [hk3] at h1
    injection h1 with h1
    injection h1 with _ h1 _
    exact absurd h1 (by decide)
  have hk5 : w5.heap[kb]? = some (.cells #[.string ⟨#[90]⟩, .int .i64 0, pv, .slice none 0 0] 43) := (hg.block kb (Nat.lt_of_lt_of_le hks hb.size) hne).trans hk3
  have ho5 : OIt w.heap.size w5 v (stL (j + 1)) := rows_grown (by decide) (ho.below hb) (hp.below hb) hg
  have hb5 : Below w.heap.size w w5 := (hbl.trans (hb.mono hbl.size)).grown hg (Nat.le_trans hbl.size hb.size) (fun b e => (rows_ge hp b e).1)
  refine ⟨?_, ?_, rows_keep ho5 (fun b e => heap_setCell_other _ _ _ _ ?_), rows_keep hq (fun b e => heap_setCell_other _ _ _ _ ?_), ?_, fun b e => ?_, hkw, hb5.setCell hkw _⟩
  · unfold World.cell?; simp only [hk5]; rfl
  · unfold World.frozen?; simp only [hk5]; rfl
  · rw [hv] at e
    cases e
    exact Nat.ne_of_gt hlt
  · intro eb
    obtain ⟨c1, h1⟩ := row_is hq e
    rw [show b = kb from eb, hk5] at h1
    injection h1 with h1
    injection h1 with _ h1 _
    exact absurd h1 (by decide)
  · rw [heap_setCell_same _ _ _ _ _ _ hk5]
    rfl
  · rw [hv] at e
    cases e
    exact hlt
/-- The list with the kit behind. -/
theorem StR.last {w W W2 w7 : World} {kb : Nat} {v : Value} {g7 n m c7 pc : Nat} {pa : Option Addr} (h : StR w kb v (.slice pa n pc) n W) (hb : Below W.heap.size W W2) (hg : W2.grownBy w7 v.ownBlock)
    (ho : OIt w.heap.size w7 (.slice (some ⟨g7, 0, none⟩) m c7) (stL n ++ [⟨[90], 0, pa, pc, stP n, none, 0, []⟩])) (hn : n ≤ 1000) :
    KP w7 (.slice (some ⟨g7, 0, none⟩) m c7) (chkE (stL n ++ [stK n])) ∧ Below w.heap.size w w7 := by
  refine ⟨star_kp (base := w.heap.size) (Y := stL n ++ [⟨[90], 0, pa, pc, stP n, none, 0, []⟩]) ⟨?_, ho, fun y hy => ?_⟩ hn, (h.bl.trans (hb.mono h.bl.size)).grown hg (Nat.le_trans h.bl.size hb.size) (fun b e => (rows_ge h.ov b e).1)⟩
  · rw [List.map_append]
    have e : (stL n).map strip = stL n := by
      unfold stL
      rw [List.map_map]
      rfl
    rw [e]
    rfl
  · rcases List.mem_append.1 hy with hy | hy
    · unfold stL at hy
      obtain ⟨i, -, rfl⟩ := List.mem_map.1 hy
      exact ⟨rfl, rfl, rfl, OP.nil _ _⟩
    · rw [List.mem_singleton] at hy
      subst hy
      refine ⟨rfl, rfl, rfl, ?_⟩
      have hp : OP w.heap.size w7 (.slice pa n pc) (stP n) := rows_grown (by decide) (h.op.below hb) (h.ov.below hb) hg
      unfold It.pv
      rw [stP_len]
      exact hp
theorem st_chk8 (n : Nat) (h : 7 ≤ n) (h2 : n ≤ 8) : chkE (stL n ++ [stK n]) = 0 := by
  rcases (show n = 7 ∨ n = 8 by omega) with rfl | rfl <;> kernel_rfl
theorem st_chk9 (n : Nat) (h : 9 ≤ n) (h2 : n ≤ 10) : chkE (stL n ++ [stK n]) = 4 := by
  rcases (show n = 9 ∨ n = 10 by omega) with rfl | rfl <;> kernel_rfl
end Go.Proofs.YthlmnoggeggpkaaGreat
