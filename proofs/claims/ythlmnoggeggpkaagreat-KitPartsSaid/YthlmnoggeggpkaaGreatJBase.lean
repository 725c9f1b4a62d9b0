/- Parts and numbers in memory: slices that came in, and slices of the call's own. -/
import Derived.Test.YthlmnoggeggpkaaGreatBase
import Derived.Test.YthlmnoggeggpkaaGreatJPure
import Derived.OwnWalk
import Derived.Sort.EncStr
namespace Go.Proofs.YthlmnoggeggpkaaGreat
open Go.RowKit

/-- The number in a slot. -/
def intOf : Value → Int | .int _ x => x | _ => 0
theorem wrap_in {x : Int} (h : -9223372036854775808 ≤ x) (h' : x ≤ 9223372036854775807) : IntKind.i64.wrap x = x := IntWalk.i64_in _ (by omega)
theorem wrap64_in {x : Int} (h : -9223372036854775808 ≤ x) (h' : x ≤ 9223372036854775807) : wrap64 x = x := by
  unfold wrap64; omega
/-- A part's two cells. -/
def encP (p : Pt) : List Value := [encStr p.1, .int .i64 p.2]
instance : Inhabited Pt := ⟨([], 0)⟩
def cellsP (P : List Pt) : List Value := P.flatMap encP
theorem cellsP_len : ∀ P : List Pt, (cellsP P).length = P.length * 2
  | [] => rfl
  | p :: P => by
    have := cellsP_len P
    unfold cellsP at *
    rw [List.flatMap_cons, List.length_append, this]
    simp [encP]; omega
theorem cellsP_append (P Q : List Pt) : cellsP (P ++ Q) = cellsP P ++ cellsP Q := by simp [cellsP]
theorem cellsP_one {P : List Pt} : ∀ u ∈ cellsP P, u.oneCell' = true := by
  intro u hu
  obtain ⟨p, _, hp⟩ := List.mem_flatMap.1 hu
  simp only [encP, List.mem_cons, List.not_mem_nil, or_false] at hp
  rcases hp with rfl | rfl <;> rfl
theorem cellsP_at : ∀ (P : List Pt) (i : Nat), i < P.length → (cellsP P)[i * 2]? = some (encStr (P.getD i default).1) ∧ (cellsP P)[i * 2 + 1]? = some (.int .i64 (P.getD i default).2)
  | [], i, h => by simp at h
  | p :: P, 0, _ => by simp [cellsP, encP]
  | p :: P, i + 1, h => by
    have ih := cellsP_at P i (by simpa using h)
    have e : cellsP (p :: P) = encStr p.1 :: Value.int .i64 p.2 :: cellsP P := rfl
    rw [e, show (i + 1) * 2 = i * 2 + 1 + 1 by omega]
    simpa using ih

/-- Texts and numbers that a machine holds. -/
def Fine (P : List Pt) : Prop := ∀ p ∈ P, p.1.length ≤ 9223372036854775807 ∧ -9223372036854775808 ≤ p.2 ∧ p.2 ≤ 9223372036854775807
theorem Fine.at_ {P : List Pt} (h : Fine P) {i : Nat} (hi : i < P.length) : (P.getD i default).1.length ≤ 9223372036854775807 ∧ -9223372036854775808 ≤ (P.getD i default).2 ∧ (P.getD i default).2 ≤ 9223372036854775807 :=
  h _ (by rw [List.getD_eq_getElem?_getD, List.getElem?_eq_getElem hi]; exact List.getElem_mem hi)
/-- The slice (a, n, c) reads as the parts P; its memory lies below block B. -/
structure RP (B : Nat) (w : World) (a : Option Addr) (n c : Nat) (P : List Pt) : Prop where
  len : n = P.length
  le : n ≤ c
  mx : c ≤ 9223372036854775807
  fine : Fine P
  at_ : 0 < c → ∃ b o, a = some ⟨b, o, none⟩ ∧ b < B ∧ ∀ i, i < n → w.cell? ⟨b, o + i * 2, none⟩ = some (encStr (P.getD i default).1) ∧ w.cell? ⟨b, o + i * 2 + 1, none⟩ = some (.int .i64 (P.getD i default).2)
theorem RP.below {B : Nat} {w w' : World} {a : Option Addr} {n c : Nat} {P : List Pt} (h : RP B w a n c P) (hb : Below B w w') : RP B w' a n c P := by
  refine ⟨h.len, h.le, h.mx, h.fine, fun hc => ?_⟩
  obtain ⟨b, o, e, hB, hcell⟩ := h.at_ hc
  exact ⟨b, o, e, hB, fun i hi => ⟨(hb.cell hB).trans (hcell i hi).1, (hb.cell hB).trans (hcell i hi).2⟩⟩
theorem RP.mono {B B' : Nat} {w : World} {a : Option Addr} {n c : Nat} {P : List Pt} (h : RP B w a n c P) (hb : B ≤ B') : RP B' w a n c P := by
  refine ⟨h.len, h.le, h.mx, h.fine, fun hc => ?_⟩
  obtain ⟨b, o, e, hB, hcell⟩ := h.at_ hc
  exact ⟨b, o, e, Nat.lt_of_lt_of_le hB hb, hcell⟩
theorem RP.cells {B : Nat} {w : World} {b o n c : Nat} {P : List Pt} (h : RP B w (some ⟨b, o, none⟩) n c P) (hc : 0 < c) : ∀ j u, (cellsP P)[j]? = some u → w.cell? ((⟨b, o, none⟩ : Addr).add j) = some u := by
  intro j u hu
  obtain ⟨b', o', e, -, hcell⟩ := h.at_ hc
  cases e
  have hj : j < P.length * 2 := by
    rw [← cellsP_len]
    rcases Nat.lt_or_ge j (cellsP P).length with h1 | h1
    · exact h1
    · rw [List.getElem?_eq_none h1] at hu; cases hu
  have hat := cellsP_at P (j / 2) (by omega)
  have hcell' := hcell (j / 2) (by rw [h.len]; omega)
  have e : (⟨b, o, none⟩ : Addr).add j = ⟨b, o + j, none⟩ := by unfold Addr.add; split <;> simp_all
  rw [e]
  rcases (show j = j / 2 * 2 ∨ j = j / 2 * 2 + 1 by omega) with hj2 | hj2
  · rw [hj2] at hu ⊢
    rw [hat.1] at hu
    cases hu
    exact hcell'.1
  · rw [hj2] at hu ⊢
    rw [hat.2] at hu
    cases hu
    rw [← Nat.add_assoc]
    exact hcell'.2

theorem RP.src {B : Nat} {w : World} {a : Option Addr} {n c : Nat} {P : List Pt} (h : RP B w a n c P) : 0 < P.length → ∃ ad, a = some ad ∧ ∀ j u, (cellsP P)[j]? = some u → w.cell? (ad.add j) = some u := by
  intro h0
  have hc : 0 < c := by have := h.le; have := h.len; omega
  obtain ⟨b, o, rfl, -⟩ := h.at_ hc
  exact ⟨_, rfl, h.cells hc⟩

/-- The slice value v leads to memory of the call's own, from block base on, and reads as the parts P; or it is nil, and P is empty. -/
def OP (base : Nat) (w : World) (v : Value) (P : List Pt) : Prop := w.ownsRow base 45 2 v P.length (cellsP P)
theorem Tryz.infoPart : (Tryz.prog.info? 45).map (fun i => (i.zero, i.size, i.bytes)) = some (some (.agg #[.string ByteArray.empty, .int .i64 0]), 2, 24) := by kernel_rfl
theorem OP.nil (base : Nat) (w : World) : OP base w (.slice none 0 0) [] := World.ownsRow_nil _ _ _ _
theorem OP.mono {B B' : Nat} {w : World} {v : Value} {P : List Pt} (h : OP B w v P) (hb : B' ≤ B) : OP B' w v P := by
  obtain ⟨h1, h2 | ⟨g, cap, cur, hv, hg, r⟩⟩ := h
  · exact ⟨h1, .inl h2⟩
  · exact ⟨h1, .inr ⟨g, cap, cur, hv, Nat.le_trans hb hg, r⟩⟩
theorem OP.keep {base : Nat} {W W' : World} {v : Value} {P : List Pt} (h : OP base W v P) (hk : ∀ b, v.ownBlock = some b → W'.heap[b]? = W.heap[b]?) : OP base W' v P := by
  obtain ⟨e1, h3 | ⟨g, cap, cur, hv, hg, hh, r⟩⟩ := h
  · exact ⟨e1, .inl h3⟩
  · exact ⟨e1, .inr ⟨g, cap, cur, hv, hg, (hk g (by rw [hv]; rfl)).trans hh, r⟩⟩
theorem OP.ge {base : Nat} {W : World} {v : Value} {P : List Pt} (h : OP base W v P) : ∀ b, v.ownBlock = some b → base ≤ b ∧ b < W.heap.size := by
  intro b hb
  obtain ⟨e1, ⟨rfl, -⟩ | ⟨g, cap, cur, rfl, hg, hh, r⟩⟩ := h
  · cases hb
  · cases hb
    exact ⟨hg, (Array.getElem?_eq_some_iff.1 hh).1⟩
theorem OP.below {base : Nat} {W W' : World} {v : Value} {P : List Pt} (h : OP base W v P) (hb : Below W.heap.size W W') : OP base W' v P :=
  h.keep fun b e => hb.block b (h.ge b e).2
theorem OP.rp {base : Nat} {w : World} {v : Value} {P : List Pt} (h : OP base w v P) (ht : Fine P) : ∃ a c, v = .slice a P.length c ∧ RP w.heap.size w a P.length c P := by
  obtain ⟨h1, ⟨rfl, h0⟩ | ⟨g, cap, cur, rfl, hg, hh, hle, hcap, hsz, htk⟩⟩ := h
  · have : P = [] := List.eq_nil_of_length_eq_zero h0
    subst this
    exact ⟨none, 0, rfl, ⟨rfl, Nat.le_refl _, by omega, ht, fun h => by omega⟩⟩
  · refine ⟨some ⟨g, 0, none⟩, cap, rfl, ⟨rfl, hle, by simpa [maxLen] using hcap, ht, fun _ => ⟨g, 0, rfl, (Array.getElem?_eq_some_iff.1 hh).1, fun i hi => ?_⟩⟩⟩
    have hat := cellsP_at P i hi
    rw [← htk] at hat
    simp only [World.cell?, hh, Nat.zero_add, Option.isSome_none, Bool.false_eq_true, if_false]
    rw [List.getElem?_take, if_pos (by omega), List.getElem?_take, if_pos (by omega)] at hat
    simpa using hat

theorem run_append_nothing {P : Program} (w : World) (t ty e : TypeId) (i : TypeInfo) (ht : P.underlying t = some (.slice e)) (hi : P.info? e = some i) (sa xa : Option Addr) (n c d : Nat) (hnc : n ≤ c) :
    (Builtin.append_ #[t, t] ty #[.slice sa n c, .slice xa 0 d]).run P w = .ok (.slice sa n c) w := by
  have hn : n + 0 ≤ c := by omega
  have hl : ∀ a, (loadCells a 0).run P w = .ok #[] w := fun a => by simpa using run_loadCells_list (P := P) w a [] (by simp)
  cases sa <;> cases xa <;> simp [Builtin.append_, run_underlying ht, sizeOf, typeInfo, hi, Builtin.lenOf, Builtin.firstCells, hn, hnc, hl, storeCells]
/-- append of parts, wherever they lie. -/
theorem run_append_parts {w : World} {base : Nat} {v : Value} {P Q : List Pt} (h : OP base w v P) (ty : TypeId) (sa : Option Addr) (c : Nat) (hsrc : 0 < Q.length → ∃ ad, sa = some ad ∧ ∀ j u, (cellsP Q)[j]? = some u → w.cell? (ad.add j) = some u)
    (hbase : base ≤ w.heap.size) (hsize : (P.length + Q.length) * 24 ≤ 140737488355328) :
    ∃ v' w', (Builtin.append_ #[26, 26] ty #[v, .slice sa Q.length c]).run Tryz.prog w = .ok v' w' ∧ OP base w' v' (P ++ Q) ∧ w.grownBy w' v.ownBlock := by
  obtain ⟨i0, hi, hz0, hz1, hz2⟩ := info_parts Tryz.infoPart
  by_cases h0 : Q.length = 0
  · obtain rfl : Q = [] := List.eq_nil_of_length_eq_zero h0
    have hv : ∃ va vc, v = .slice va P.length vc ∧ P.length ≤ vc := by
      obtain ⟨h1, ⟨rfl, h0⟩ | ⟨g, cap, cur, rfl, hg, hh, hle, r⟩⟩ := h
      · exact ⟨none, 0, by rw [h0], by omega⟩
      · exact ⟨_, _, rfl, hle⟩
    obtain ⟨va, vc, rfl, hle⟩ := hv
    have hrun := run_append_nothing (P := Tryz.prog) w 26 ty 45 i0 Tryz.underlying26 hi va sa P.length vc c hle
    exact ⟨_, w, hrun, by simpa using h, ⟨rfl, rfl, rfl, Nat.le_refl _, fun _ _ _ => rfl⟩⟩
  · obtain ⟨ad, rfl, hcell⟩ := hsrc (by omega)
    obtain ⟨v', w', hrun, hown, hg, -⟩ := run_append_own (P := Tryz.prog) w base 26 ty 45 i0 _ 2 24 Tryz.underlying26 hi hz0 hz1 hz2 rfl (by decide) v P.length (cellsP P) h ad Q.length c (cellsP Q) (cellsP_len Q) hcell
      cellsP_one (by simp only [maxLen]; omega) hsize hbase
    refine ⟨v', w', hrun, ?_, hg⟩
    unfold OP
    rw [List.length_append, cellsP_append]
    exact hown
theorem wpList_append_parts {w : World} {ops : Array Oper} {rest : List Oper} {o : Oper} {a : Act} {Q : Exit → Act → World → Prop} (hgd : o.guard = none) (s x : Operand)
    (ho : o.op = .call { callee := .builtin .append, args := #[s, x], argTypes := #[26, 26] }) (base : Nat) (v : Value) (P R : List Pt) (hs : a.eval s = v) (h : OP base w v P) (sa : Option Addr) (c : Nat)
    (hx : a.eval x = .slice sa R.length c) (hsrc : 0 < R.length → ∃ ad, sa = some ad ∧ ∀ j u, (cellsP R)[j]? = some u → w.cell? (ad.add j) = some u) (hbase : base ≤ w.heap.size) (hsize : (P.length + R.length) * 24 ≤ 140737488355328)
    (hK : ∀ a' c' w', OP base w' (.slice a' (P ++ R).length c') (P ++ R) → w.grownBy w' v.ownBlock → wpList Tryz.prog ops Q rest (a.put o.dst (.slice a' (P ++ R).length c')) w') : wpList Tryz.prog ops Q (o :: rest) a w := by
  obtain ⟨v', w', hr, hq, hg⟩ := run_append_parts h o.type sa c hsrc hbase hsize
  have hv : ∃ a' c', v' = .slice a' (P ++ R).length c' := by
    obtain ⟨h1, ⟨rfl, h0⟩ | ⟨g, cap, cur, rfl, r⟩⟩ := hq
    · exact ⟨none, 0, by rw [h0]⟩
    · exact ⟨_, _, rfl⟩
  obtain ⟨a', c', rfl⟩ := hv
  refine wpList_plain hgd fun K hK' => ?_
  unfold Oper.wp execOp
  simp only [ho, resolve, invoke, builtin, Sem.run_bind, Sem.run_pure, Result.andThen_ok, List.map_toArray, List.map_cons, List.map_nil, hs, hx, hr]
  exact hK' _ _ (hK a' c' w' hq hg)

/-- The slice (a, n, c) reads as the numbers L. -/
structure RL (B : Nat) (w : World) (a : Option Addr) (n c : Nat) (L : List Int) : Prop where
  len : n = L.length
  le : n ≤ c
  mx : c ≤ 9223372036854775807
  wf : ∀ x ∈ L, -9223372036854775808 ≤ x ∧ x ≤ 9223372036854775807
  at_ : 0 < c → ∃ b o, a = some ⟨b, o, none⟩ ∧ b < B ∧ ∀ i, i < n → w.cell? ⟨b, o + i, none⟩ = some (.int .i64 (L.getD i 0))
theorem RL.below {B : Nat} {w w' : World} {a : Option Addr} {n c : Nat} {L : List Int} (h : RL B w a n c L) (hb : Below B w w') : RL B w' a n c L := by
  refine ⟨h.len, h.le, h.mx, h.wf, fun hc => ?_⟩
  obtain ⟨b, o, e, hB, hcell⟩ := h.at_ hc
  exact ⟨b, o, e, hB, fun i hi => (hb.cell hB).trans (hcell i hi)⟩
end Go.Proofs.YthlmnoggeggpkaaGreat
