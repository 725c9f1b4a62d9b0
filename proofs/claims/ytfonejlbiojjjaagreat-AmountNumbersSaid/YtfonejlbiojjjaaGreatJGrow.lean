/- append to a slice of the call's own parts: the new slice reads longer, the old one reads as it did; an element set. -/
import Derived.Test.YtfonejlbiojjjaaGreatJBase
namespace Go.Proofs.YtfonejlbiojjjaaGreat
open Go.RowKit

theorem append_keep {w : World} {base : Nat} {v : Value} {P Q : List Pt} (h : OP base w v P) (ty : TypeId) (sa : Option Addr) (c : Nat) (hsrc : ∃ ad, sa = some ad ∧ ∀ j u, (cellsP Q)[j]? = some u → w.cell? (ad.add j) = some u)
    (hQ : 0 < Q.length) (hbase : base ≤ w.heap.size) (hsize : (P.length + Q.length) * 24 ≤ 140737488355328) :
    ∃ g cap w', (Builtin.append_ #[22, 22] ty #[v, .slice sa Q.length c]).run Tryz.prog w = .ok (.slice (some ⟨g, 0, none⟩) (P.length + Q.length) cap) w' ∧ OP base w' (.slice (some ⟨g, 0, none⟩) (P.length + Q.length) cap) (P ++ Q) ∧ OP base w' v P ∧
      w.grownBy w' v.ownBlock ∧ (v.ownBlock = some g ∨ g = w.heap.size) := by
  obtain ⟨i0, hi, hz0, hz1, hz2⟩ := info_parts Tryz.infoPart
  obtain ⟨ad, rfl, hcell⟩ := hsrc
  have hlP := cellsP_len P
  have hlQ := cellsP_len Q
  have hlen : (cellsP (P ++ Q)).length = (P.length + Q.length) * 2 := by rw [cellsP_len, List.length_append]
  have hsz : (Value.agg #[.string ByteArray.empty, .int .i64 0]).cells.size = 2 := rfl
  have hnews : (cellsP Q).length = Q.length * i0.size := by rw [hz1]; exact hlQ
  have hb' : (P.length + Q.length) * i0.bytes ≤ 140737488355328 := by rw [hz2]; exact hsize
  have grown : ∀ old, old < P.length + Q.length → OP base (w.drew.alloc (.cells ((cellsP P).toArray ++ (cellsP Q).toArray ++ Builtin.zeroCells (Value.agg #[.string ByteArray.empty, .int .i64 0]).cells (grownCap w (P.length + Q.length) old 38 - (P.length + Q.length))) 38))
      (.slice (some ⟨w.heap.size, 0, none⟩) (P.length + Q.length) (grownCap w (P.length + Q.length) old 38)) (P ++ Q) := by
    intro old ho
    have hge := grownCap_ge w (P.length + Q.length) old 38
    have hcm : grownCap w (P.length + Q.length) old 38 ≤ maxLen := grownCap_le_maxLen w (P.length + Q.length) old 38 (by simp only [maxLen]; omega)
    refine ⟨by rw [cellsP_len], .inr ⟨w.heap.size, _, _, by rw [List.length_append], hbase, heap_alloc_new w.drew _, by rw [List.length_append]; exact hge, hcm, ?_, ?_⟩⟩
    · simp only [Array.size_append, List.size_toArray, size_zeroCells, hsz, hlP, hlQ]
      omega
    · rw [cellsP_append, List.length_append]
      simp only [Array.toList_append, List.append_assoc]
      rw [← List.append_assoc]
      have : (cellsP P ++ cellsP Q).length = (P.length + Q.length) * 2 := by rw [List.length_append, hlP, hlQ]; omega
      rw [← this]
      exact List.take_left
  have hkeep : ∀ o, OP base (w.drew.alloc o) v P := fun o => h.below ((Below.refl _ w).drew.alloc (Nat.le_refl _) o)
  have hgrw : ∀ o row, w.grownBy (w.drew.alloc o) row := fun o row => ⟨rfl, rfl, rfl, by simp, fun k hk _ => ((Below.refl w.heap.size w).drew.alloc (Nat.le_refl _) o).block k hk⟩
  obtain ⟨h1, ⟨rfl, h0⟩ | ⟨g, cap, cur, rfl, hg, hh, hle, hcap, hcs, htk⟩⟩ := id h
  · have hP : P = [] := List.eq_nil_of_length_eq_zero h0
    subst hP
    have hr := run_append_nil (P := Tryz.prog) w 22 ty 38 i0 _ Tryz.underlying22 hi hz0 ad Q.length c (cellsP Q) hnews hcell hQ (by omega) (by simp only [List.length_nil, Nat.zero_add] at hb'; omega)
    have hgr := grown 0 (by simpa using hQ)
    simp only [List.length_nil, Nat.zero_add, List.nil_append, show (cellsP []).toArray = (#[] : Array Value) from rfl, Array.empty_append] at hgr ⊢
    exact ⟨_, _, _, hr, hgr, OP.nil _ _, hgrw _ _, .inr rfl⟩
  · by_cases hroom : P.length + Q.length ≤ cap
    · have hfit : P.length * i0.size + (cellsP Q).length ≤ cur.size := by rw [hz1, hcs, hlQ, ← Nat.add_mul]; exact Nat.mul_le_mul_right _ hroom
      have hr := run_append_room (P := Tryz.prog) w 22 ty 38 i0 Tryz.underlying22 hi g P.length cap cur hh ad Q.length c (cellsP Q) hnews hcell cellsP_one hroom hfit
      rw [hz1, htk] at hr
      have hnew := setRow_heap w g cur (cellsP P ++ cellsP Q ++ cur.toList.drop (P.length * 2 + (cellsP Q).length)).toArray 38 (0, 0) hh
      have hsz2 : (cellsP P ++ cellsP Q ++ cur.toList.drop (P.length * 2 + (cellsP Q).length)).toArray.size = cap * 2 := by
        simp only [List.size_toArray, List.length_append, List.length_drop, Array.length_toList, hlP, hlQ, hcs]
        omega
      refine ⟨g, cap, _, hr, ⟨by rw [cellsP_len], .inr ⟨g, cap, _, by rw [List.length_append], hg, hnew, by rw [List.length_append]; exact hroom, hcap, hsz2, ?_⟩⟩, ⟨h1, .inr ⟨g, cap, _, rfl, hg, hnew, hle, hcap, hsz2, ?_⟩⟩, ⟨rfl, rfl, rfl, by simp, fun k _ hk => setRow_other w g k _ (fun e => hk (by simp [Value.ownBlock, e]))⟩, .inl rfl⟩
      · rw [cellsP_append, List.length_append]
        have : (cellsP P ++ cellsP Q).length = (P.length + Q.length) * 2 := by rw [List.length_append, hlP, hlQ]; omega
        rw [← this]
        exact List.take_left
      · show (cellsP P ++ cellsP Q ++ _).take (P.length * 2) = cellsP P
        rw [List.append_assoc, ← hlP]
        exact List.take_left
    · have holds : ∀ j u, (cellsP P)[j]? = some u → w.cell? ((⟨g, 0, none⟩ : Addr).add j) = some u := World.ownsRow.cells (g := g) h rfl
      have hr := run_append_grow (P := Tryz.prog) w 22 ty 38 i0 _ Tryz.underlying22 hi hz0 ⟨g, 0, none⟩ P.length cap (cellsP P) (by rw [hz1]; exact hlP) holds ad Q.length c (cellsP Q) hnews hcell (by omega) (by omega) (growslice_fits (by omega) hb')
      exact ⟨_, _, _, hr, grown cap (by omega), hkeep _, hgrw _ _, .inr rfl⟩
theorem wpList_append_keep {w : World} {ops : Array Oper} {rest : List Oper} {o : Oper} {a : Act} {K : Exit → Act → World → Prop} (hgd : o.guard = none) (s x : Operand)
    (ho : o.op = .call { callee := .builtin .append, args := #[s, x], argTypes := #[22, 22] }) (base : Nat) (v : Value) (P R : List Pt) (hs : a.eval s = v) (h : OP base w v P) (sa : Option Addr) (m c : Nat)
    (hx : a.eval x = .slice sa m c) (hm : m = R.length) (hsrc : ∃ ad, sa = some ad ∧ ∀ j u, (cellsP R)[j]? = some u → w.cell? (ad.add j) = some u) (hR : 0 < R.length) (hbase : base ≤ w.heap.size) (hsize : (P.length + R.length) * 24 ≤ 140737488355328)
    (hK : ∀ g cap w', OP base w' (.slice (some ⟨g, 0, none⟩) (P.length + R.length) cap) (P ++ R) → OP base w' v P → w.grownBy w' v.ownBlock → (v.ownBlock = some g ∨ g = w.heap.size) → wpList Tryz.prog ops K rest (a.put o.dst (.slice (some ⟨g, 0, none⟩) (P.length + R.length) cap)) w') : wpList Tryz.prog ops K (o :: rest) a w := by
  subst hm
  obtain ⟨g, cap, w', hr, h1, h2, h3, h4⟩ := append_keep h o.type sa c hsrc hR hbase hsize
  refine wpList_plain hgd fun K' hK' => ?_
  unfold Oper.wp execOp
  simp only [ho, resolve, invoke, builtin, Sem.run_bind, Sem.run_pure, Result.andThen_ok, List.map_toArray, List.map_cons, List.map_nil, hs, hx, hr]
  exact hK' _ _ (hK g cap w' h1 h2 h3 h4)
end Go.Proofs.YtfonejlbiojjjaaGreat
