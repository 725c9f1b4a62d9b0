/- Elements of any kind in memory: slices that came in, slices of one's own. The walks of amount's Right, Sum, Add, Times, and of the document's. Marks; lists of numbers that are lent, and kept. The walk of storemankit.SameParts. -/
import Derived.Test.YtbedbhlebfnohaaGreatTxA
import Derived.Test.YtbedbhlebfnohaaGreatJBase
import Derived.Laws.StructEq
namespace Go.Proofs.YtbedbhlebfnohaaGreat
open Go.RowKit Tx

structure El (α : Type) where
  e : TypeId
  t : TypeId
  k : Nat
  bytes : Nat
  z : Value
  enc : α → List Value
  ok : α → Prop
  len : ∀ x, (enc x).length = k
  one : ∀ x, ∀ u ∈ enc x, u.oneCell' = true
  kpos : 0 < k
  under : Tryz.prog.underlying t = some (.slice e)
  info : (Tryz.prog.info? e).map (fun i => (i.zero, i.size, i.bytes)) = some (some z, k, bytes)
  zc : z.cells.size = k
  small : bytes ≤ 100
namespace El
section
variable {α : Type} (E : El α)
def cells (X : List α) : List Value := X.flatMap E.enc
theorem cells_len : ∀ X : List α, (E.cells X).length = X.length * E.k
  | [] => by simp [cells]
  | x :: X => by
    have := cells_len X
    unfold cells at *
    rw [List.flatMap_cons, List.length_append, this, E.len, List.length_cons, Nat.add_mul]
    omega
theorem cells_append (X Y : List α) : E.cells (X ++ Y) = E.cells X ++ E.cells Y := by simp [cells]
theorem cells_one {X : List α} : ∀ u ∈ E.cells X, u.oneCell' = true := by
  intro u hu
  obtain ⟨x, -, hx⟩ := List.mem_flatMap.1 hu
  exact E.one x u hx
theorem cells_sing (x : α) : E.cells [x] = E.enc x := by simp [cells]
def Own (base : Nat) (w : World) (v : Value) (X : List α) : Prop := w.ownsRow base E.e E.k v X.length (E.cells X)
theorem Own.nil (base : Nat) (w : World) : E.Own base w (.slice none 0 0) [] := World.ownsRow_nil _ _ _ _
variable {E}
theorem Own.mono {B B' : Nat} {w : World} {v : Value} {X : List α} (h : E.Own B w v X) (hb : B' ≤ B) : E.Own B' w v X := Tx.rows_mono h hb
theorem Own.keep {base : Nat} {W W' : World} {v : Value} {X : List α} (h : E.Own base W v X) (hk : ∀ b, v.ownBlock = some b → W'.heap[b]? = W.heap[b]?) : E.Own base W' v X := Tx.rows_keep h hk
theorem Own.ge {base : Nat} {W : World} {v : Value} {X : List α} (h : E.Own base W v X) : ∀ b, v.ownBlock = some b → base ≤ b ∧ b < W.heap.size := Tx.rows_ge h
theorem Own.below {base : Nat} {W W' : World} {v : Value} {X : List α} (h : E.Own base W v X) (hb : Below W.heap.size W W') : E.Own base W' v X := Tx.rows_below h hb
theorem Own.form {base : Nat} {W : World} {v : Value} {X : List α} (h : E.Own base W v X) : ∃ a c, v = .slice a X.length c ∧ X.length ≤ c ∧ c ≤ 9223372036854775807 ∧ (0 < X.length → ∃ g, a = some ⟨g, 0, none⟩) := Tx.rows_form h
theorem one_lit (W : World) (x : α) (cs : Array Value) (t : TypeId) (hcs : cs = (E.enc x).toArray) : ∀ j u, (E.cells [x])[j]? = some u → (W.alloc (.cells cs t)).cell? ((⟨W.heap.size, 0, none⟩ : Addr).add j) = some u := by
  intro j u hu
  have e : (⟨W.heap.size, 0, none⟩ : Addr).add j = ⟨W.heap.size, 0 + j, none⟩ := by unfold Addr.add; split <;> simp_all
  rw [e]
  simp only [World.cell?, (Go.MapKept.heap_alloc W _).1]
  rw [E.cells_sing] at hu
  subst hcs
  simpa using hu
theorem info' (E : El α) : ∃ i0, Tryz.prog.info? E.e = some i0 ∧ i0.zero = some E.z ∧ i0.size = E.k ∧ i0.bytes = E.bytes := by
  obtain ⟨i, hi, hzz⟩ := Option.map_eq_some_iff.1 E.info
  simp only [Prod.mk.injEq] at hzz
  exact ⟨i, hi, hzz⟩
theorem run_append {w : World} {base : Nat} {v : Value} {X Y : List α} (h : E.Own base w v X) (ty : TypeId) (sa : Option Addr) (c : Nat) (hsrc : ∃ ad, sa = some ad ∧ ∀ j u, (E.cells Y)[j]? = some u → w.cell? (ad.add j) = some u) (hY : 0 < Y.length)
    (hbase : base ≤ w.heap.size) (hl : X.length + Y.length ≤ 1000000000) :
    ∃ g cap w', (Builtin.append_ #[E.t, E.t] ty #[v, .slice sa Y.length c]).run Tryz.prog w = .ok (.slice (some ⟨g, 0, none⟩) (X.length + Y.length) cap) w' ∧ E.Own base w' (.slice (some ⟨g, 0, none⟩) (X.length + Y.length) cap) (X ++ Y) ∧ E.Own base w' v X ∧ w.grownBy w' v.ownBlock ∧ (v.ownBlock = some g ∨ g = w.heap.size) := by
  obtain ⟨i0, hi, hz0, hz1, hz2⟩ := E.info'
  have hsm := E.small
  obtain ⟨g, cap, w', hr, h1, h2, h3, h4⟩ := append_keepC (P := Tryz.prog) (m := Y.length) (cs := E.k) (Q := E.cells Y) E.t ty E.e i0 E.z E.under hi hz0 hz1 E.zc h sa c hsrc E.cells_one (E.cells_len Y) hY hbase
    (by
      rw [hz2]
      calc (X.length + Y.length) * E.bytes ≤ 1000000000 * 100 := Nat.mul_le_mul hl hsm
        _ ≤ 140737488355328 := by decide) (by omega)
  refine ⟨g, cap, w', hr, ?_, h2, h3, h4⟩
  unfold Own
  rw [List.length_append, E.cells_append]
  exact h1
theorem wpList_append1 {w : World} {ops : Array Oper} {rest : List Oper} {o : Oper} {a : Act} {K : Exit → Act → World → Prop} (E : El α) (hgd : o.guard = none) (s x : Operand)
    (ho : o.op = .call { callee := .builtin .append, args := #[s, x], argTypes := #[E.t, E.t] }) (base : Nat) (v : Value) (X : List α) (y : α) (m : Nat) (hm : m = X.length + 1) (hs : a.eval s = v) (h : E.Own base w v X) (ad : Addr) (c : Nat)
    (hx : a.eval x = .slice (some ad) 1 c) (hsrc : ∀ j u, (E.cells [y])[j]? = some u → w.cell? (ad.add j) = some u) (hbase : base ≤ w.heap.size) (hl : X.length ≤ 100000000)
    (hK : ∀ g cap w', E.Own base w' (.slice (some ⟨g, 0, none⟩) m cap) (X ++ [y]) → w.grownBy w' v.ownBlock → (v.ownBlock = some g ∨ g = w.heap.size) → wpList Tryz.prog ops K rest (a.put o.dst (.slice (some ⟨g, 0, none⟩) m cap)) w') : wpList Tryz.prog ops K (o :: rest) a w := by
  subst hm
  obtain ⟨g, cap, w', hr, h1, h2, h3, h4⟩ := run_append h o.type (some ad) c ⟨ad, rfl, hsrc⟩ (Y := [y]) (by simp) hbase (by simp; omega)
  refine wpList_plain hgd fun K' hK' => ?_
  unfold Oper.wp execOp
  simp only [List.length_singleton] at hr
  simp only [ho, resolve, invoke, builtin, Sem.run_bind, Sem.run_pure, Result.andThen_ok, List.map_toArray, List.map_cons, List.map_nil, hs, hx, hr]
  exact hK' _ _ (hK g cap w' h1 h3 h4)
theorem step_append1 {w : World} {ops : Array Oper} {o : Oper} {a : Act} {K : Act → World → Prop} {Q : Exit → Act → World → Prop} {Z : Prop} (E : El α) (hgd : o.guard = none) (s x : Operand)
    (ho : o.op = .call { callee := .builtin .append, args := #[s, x], argTypes := #[E.t, E.t] }) (base : Nat) (v : Value) (X : List α) (y : α) (m : Nat) (hm : m = X.length + 1) (hs : a.eval s = v) (h : E.Own base w v X) (ad : Addr) (c : Nat)
    (hx : a.eval x = .slice (some ad) 1 c) (hsrc : ∀ j u, (E.cells [y])[j]? = some u → w.cell? (ad.add j) = some u) (hbase : base ≤ w.heap.size) (hl : X.length ≤ 100000000)
    (hK : ∀ g cap w', E.Own base w' (.slice (some ⟨g, 0, none⟩) m cap) (X ++ [y]) → w.grownBy w' v.ownBlock → (v.ownBlock = some g ∨ g = w.heap.size) → K (a.put o.dst (.slice (some ⟨g, 0, none⟩) m cap)) w') :
    if Region.wanted o (yielded ops a.tmps) = true then Oper.wp Tryz.prog o a w K Q else Z := by
  have hw : Region.wanted o (yielded ops a.tmps) = true := by simp [Region.wanted, hgd]
  rw [if_pos hw]
  subst hm
  obtain ⟨g, cap, w', hr, h1, h2, h3, h4⟩ := run_append h o.type (some ad) c ⟨ad, rfl, hsrc⟩ (Y := [y]) (by simp) hbase (by simp; omega)
  unfold Oper.wp execOp
  simp only [List.length_singleton] at hr
  simp only [ho, resolve, invoke, builtin, Sem.run_bind, Sem.run_pure, Result.andThen_ok, List.map_toArray, List.map_cons, List.map_nil, hs, hx, hr]
  exact hK g cap w' h1 h3 h4
theorem wpList_append0 {w : World} {ops : Array Oper} {rest : List Oper} {o : Oper} {a : Act} {K : Exit → Act → World → Prop} (E : El α) (hgd : o.guard = none) (s x : Operand)
    (ho : o.op = .call { callee := .builtin .append, args := #[s, x], argTypes := #[E.t, E.t] }) (Y : List α) (hs : a.eval s = .slice none 0 0) (sa : Option Addr) (m c : Nat)
    (hx : a.eval x = .slice sa m c) (hm : m = Y.length) (hsrc : 0 < Y.length → ∃ ad, sa = some ad ∧ ∀ j u, (E.cells Y)[j]? = some u → w.cell? (ad.add j) = some u) (hl : Y.length ≤ 1000000000)
    (hK : ∀ a' c' w', E.Own w.heap.size w' (.slice a' m c') Y → Below w.heap.size w w' → wpList Tryz.prog ops K rest (a.put o.dst (.slice a' m c')) w') : wpList Tryz.prog ops K (o :: rest) a w := by
  subst hm
  by_cases h0 : Y.length = 0
  · obtain rfl : Y = [] := List.eq_nil_of_length_eq_zero h0
    obtain ⟨i0, hi, -⟩ := E.info'
    have hr := run_append_nothing (P := Tryz.prog) w E.t o.type E.e i0 E.under hi none sa 0 0 c (Nat.le_refl _)
    refine wpList_plain hgd fun K' hK' => ?_
    unfold Oper.wp execOp
    simp only [List.length_nil] at hx
    simp only [ho, resolve, invoke, builtin, Sem.run_bind, Sem.run_pure, Result.andThen_ok, List.map_toArray, List.map_cons, List.map_nil, hs, hx, hr]
    exact hK' _ _ (hK none 0 w (Own.nil E _ _) (Below.refl _ _))
  · obtain ⟨g, cap, w', hr, h1, h2, h3, h4⟩ := run_append (Own.nil E w.heap.size w) o.type sa c (hsrc (by omega)) (by omega) (Nat.le_refl _) (by simpa using hl)
    refine wpList_plain hgd fun K' hK' => ?_
    unfold Oper.wp execOp
    simp only [List.length_nil, Nat.zero_add, List.nil_append] at hr h1
    simp only [ho, resolve, invoke, builtin, Sem.run_bind, Sem.run_pure, Result.andThen_ok, List.map_toArray, List.map_cons, List.map_nil, hs, hx, hr]
    exact hK' _ _ (hK _ cap w' h1 ((Below.refl _ w).grown h3 (Nat.le_refl _) (fun k e => by cases e)))
end
section
variable {α : Type} [Inhabited α] (E : El α)
theorem cells_at : ∀ (X : List α) (i j : Nat), i < X.length → j < E.k → (E.cells X)[i * E.k + j]? = (E.enc (X.getD i default))[j]?
  | [], i, j, h, _ => by simp at h
  | x :: X, 0, j, _, hj => by
    unfold cells
    rw [List.flatMap_cons, List.getElem?_append_left (by rw [E.len]; omega)]
    simp
  | x :: X, i + 1, j, h, hj => by
    have ih := cells_at X i j (by simpa using h) hj
    unfold cells at *
    rw [List.flatMap_cons, List.getElem?_append_right (by rw [E.len, Nat.add_mul]; omega), E.len, Nat.add_mul, Nat.one_mul]
    rw [show i * E.k + E.k + j - E.k = i * E.k + j by omega, ih]
    rfl
structure In (B : Nat) (w : World) (a : Option Addr) (n c : Nat) (X : List α) : Prop where
  len : n = X.length
  le : n ≤ c
  mx : c ≤ 9223372036854775807
  fine : ∀ x ∈ X, E.ok x
  at_ : 0 < c → ∃ b o, a = some ⟨b, o, none⟩ ∧ b < B ∧ ∀ i, i < n → ∀ j, j < E.k → w.cell? ⟨b, o + i * E.k + j, none⟩ = (E.enc (X.getD i default))[j]?
variable {E}
theorem In.below {B : Nat} {w w' : World} {a : Option Addr} {n c : Nat} {X : List α} (h : E.In B w a n c X) (hb : Below B w w') : E.In B w' a n c X := by
  refine ⟨h.len, h.le, h.mx, h.fine, fun hc => ?_⟩
  obtain ⟨b, o, e, hB, hcell⟩ := h.at_ hc
  exact ⟨b, o, e, hB, fun i hi j hj => (hb.cell hB).trans (hcell i hi j hj)⟩
theorem In.mono {B B' : Nat} {w : World} {a : Option Addr} {n c : Nat} {X : List α} (h : E.In B w a n c X) (hb : B ≤ B') : E.In B' w a n c X := by
  refine ⟨h.len, h.le, h.mx, h.fine, fun hc => ?_⟩
  obtain ⟨b, o, e, hB, hcell⟩ := h.at_ hc
  exact ⟨b, o, e, Nat.lt_of_lt_of_le hB hb, hcell⟩
theorem In.ok_at {B : Nat} {w : World} {a : Option Addr} {n c : Nat} {X : List α} (h : E.In B w a n c X) {i : Nat} (hi : i < n) : E.ok (X.getD i default) := by
  rw [h.len] at hi
  rw [List.getD_eq_getElem?_getD, List.getElem?_eq_getElem hi]
  exact h.fine _ (List.getElem_mem hi)
theorem In.src {B : Nat} {w : World} {a : Option Addr} {n c : Nat} {X : List α} (h : E.In B w a n c X) : 0 < X.length → ∃ ad, a = some ad ∧ ∀ j u, (E.cells X)[j]? = some u → w.cell? (ad.add j) = some u := by
  intro h0
  have hc : 0 < c := by have := h.le; have := h.len; omega
  obtain ⟨b, o, rfl, -, hcell⟩ := h.at_ hc
  refine ⟨_, rfl, fun j u hu => ?_⟩
  have hj : j < X.length * E.k := by
    rw [← E.cells_len]
    rcases Nat.lt_or_ge j (E.cells X).length with h1 | h1
    · exact h1
    · rw [List.getElem?_eq_none h1] at hu; cases hu
  have hk := E.kpos
  have hi : j / E.k < X.length := Nat.div_lt_of_lt_mul (by rw [Nat.mul_comm]; exact hj)
  have hm : j % E.k < E.k := Nat.mod_lt _ hk
  have e1 : j / E.k * E.k + j % E.k = j := Nat.div_add_mod' j E.k
  have hat := E.cells_at X (j / E.k) (j % E.k) hi hm
  rw [e1, hu] at hat
  have e : (⟨b, o, none⟩ : Addr).add j = ⟨b, o + j / E.k * E.k + j % E.k, none⟩ := by
    unfold Addr.add
    rw [Nat.add_assoc, e1]
    split <;> simp_all
  rw [e, hcell _ (by rw [h.len]; exact hi) _ hm]
  exact hat.symm
theorem In.nil (B : Nat) (w : World) : E.In B w none 0 0 [] := ⟨rfl, Nat.le_refl _, by omega, fun x hx => (by cases hx), fun h => absurd h (Nat.lt_irrefl _)⟩
theorem In.take {B : Nat} {w : World} {a : Option Addr} {n c : Nat} {X : List α} (h : E.In B w a n c X) (m : Nat) (hm : m ≤ n) : E.In B w a m c (X.take m) := by
  refine ⟨by rw [List.length_take]; have := h.len; omega, Nat.le_trans hm h.le, h.mx, fun x hx => h.fine x (List.mem_of_mem_take hx), fun hc => ?_⟩
  obtain ⟨b, o, e, hB, hcell⟩ := h.at_ hc
  refine ⟨b, o, e, hB, fun i hi j hj => ?_⟩
  rw [hcell i (by omega) j hj, List.getD_eq_getElem?_getD, List.getD_eq_getElem?_getD, List.getElem?_take, if_pos hi]
theorem Own.cell {base g n c : Nat} {W : World} {X : List α} (h : E.Own base W (.slice (some ⟨g, 0, none⟩) n c) X) : n = X.length ∧ n ≤ c ∧ c ≤ 9223372036854775807 ∧ base ≤ g ∧ g < W.heap.size ∧ ∀ i, i < n → ∀ j, j < E.k → W.cell? ⟨g, i * E.k + j, none⟩ = (E.enc (X.getD i default))[j]? := by
  obtain ⟨h1, ⟨h2, -⟩ | ⟨g', cap, cur, hv, hg, hh, hle, hcap, hsz, htk⟩⟩ := id h
  · cases h2
  · cases hv
    refine ⟨rfl, hle, by simpa [maxLen] using hcap, hg, (Array.getElem?_eq_some_iff.1 hh).1, fun i hi j hj => ?_⟩
    have hat := E.cells_at X i j hi hj
    rw [← htk] at hat
    have hlt : i * E.k + j < X.length * E.k := by
      have : (i + 1) * E.k ≤ X.length * E.k := Nat.mul_le_mul_right _ hi
      rw [Nat.add_mul] at this
      omega
    rw [List.getElem?_take, if_pos hlt] at hat
    rw [← hat]
    simp [World.cell?, hh]
theorem Own.in_ {base : Nat} {W : World} {v : Value} {X : List α} (h : E.Own base W v X) (hf : ∀ x ∈ X, E.ok x) : ∃ a c, v = .slice a X.length c ∧ E.In W.heap.size W a X.length c X := by
  obtain ⟨a, c, rfl, hle, hmx, ha⟩ := h.form
  by_cases h0 : 0 < X.length
  · obtain ⟨g, rfl⟩ := ha h0
    obtain ⟨-, -, -, -, hg, hcell⟩ := h.cell
    exact ⟨_, c, rfl, ⟨rfl, hle, hmx, hf, fun _ => ⟨g, 0, rfl, hg, fun i hi j hj => by rw [Nat.zero_add]; exact hcell i hi j hj⟩⟩⟩
  · obtain ⟨h1, ⟨h2, h3⟩ | ⟨g', cap, cur, hv, hg, hh, -⟩⟩ := id h
    · injection h2 with e1 e2 e3
      subst e1
      exact ⟨none, c, rfl, ⟨rfl, hle, hmx, hf, fun h => by omega⟩⟩
    · injection hv with e1 e2 e3
      subst e1
      exact ⟨_, c, rfl, ⟨rfl, hle, hmx, hf, fun _ => ⟨g', 0, rfl, (Array.getElem?_eq_some_iff.1 hh).1, fun i hi => by omega⟩⟩⟩
theorem wpList_append2 {w : World} {ops : Array Oper} {rest : List Oper} {o : Oper} {a : Act} {K : Exit → Act → World → Prop} (E : El α) (hgd : o.guard = none) (s x : Operand)
    (ho : o.op = .call { callee := .builtin .append, args := #[s, x], argTypes := #[E.t, E.t] }) (base g0 n0 c0 : Nat) (X Y : List α) (hs : a.eval s = .slice (some ⟨g0, 0, none⟩) n0 c0) (h : E.Own base w (.slice (some ⟨g0, 0, none⟩) n0 c0) X) (sa : Option Addr) (m c : Nat)
    (hx : a.eval x = .slice sa m c) (hm : m = Y.length) (hsrc : 0 < Y.length → ∃ ad, sa = some ad ∧ ∀ j u, (E.cells Y)[j]? = some u → w.cell? (ad.add j) = some u) (hbase : base ≤ w.heap.size) (hl : X.length + Y.length ≤ 1000000000)
    (hK : ∀ g' c' w', (n0 + m ≤ c' ∧ c' ≤ 9223372036854775807) → E.Own base w' (.slice (some ⟨g', 0, none⟩) (n0 + m) c') (X ++ Y) → w.grownBy w' (some g0) → wpList Tryz.prog ops K rest (a.put o.dst (.slice (some ⟨g', 0, none⟩) (n0 + m) c')) w') : wpList Tryz.prog ops K (o :: rest) a w := by
  subst hm
  obtain ⟨hn0, hle, hmx, -⟩ := h.cell
  subst hn0
  by_cases h0 : Y.length = 0
  · obtain rfl : Y = [] := List.eq_nil_of_length_eq_zero h0
    obtain ⟨i0, hi, -⟩ := E.info'
    have hr := run_append_nothing (P := Tryz.prog) w E.t o.type E.e i0 E.under hi (some ⟨g0, 0, none⟩) sa X.length c0 c hle
    refine wpList_plain hgd fun K' hK' => ?_
    unfold Oper.wp execOp
    simp only [List.length_nil] at hx
    simp only [ho, resolve, invoke, builtin, Sem.run_bind, Sem.run_pure, Result.andThen_ok, List.map_toArray, List.map_cons, List.map_nil, hs, hx, hr]
    exact hK' _ _ (hK g0 c0 w (by simpa using ⟨hle, hmx⟩) (by simpa using h) ⟨rfl, rfl, rfl, Nat.le_refl _, fun _ _ _ => rfl⟩)
  · obtain ⟨g, cap, w', hr, h1, h2, h3, h4⟩ := run_append h o.type sa c (hsrc (by omega)) (by omega) hbase hl
    refine wpList_plain hgd fun K' hK' => ?_
    unfold Oper.wp execOp
    simp only [ho, resolve, invoke, builtin, Sem.run_bind, Sem.run_pure, Result.andThen_ok, List.map_toArray, List.map_cons, List.map_nil, hs, hx, hr]
    have hc := h1.cell
    exact hK' _ _ (hK g cap w' ⟨hc.2.1, hc.2.2.1⟩ h1 h3)
end
end El
end Go.Proofs.YtbedbhlebfnohaaGreat
namespace Go.Proofs.YtbedbhlebfnohaaGreat
open Go.RowKit

set_option maxHeartbeats 1000000 in
theorem Right_any (n : Int) (w : World) : Calls Tryz.prog 49 #[.int .i64 n] w fun e w' => e = .returned (.bool (okA n)) ∧ w = w' := by
  have hr : okA n = (decide (0 ≤ n) && decide (n ≤ 1125899906842624)) := rfl
  rw [hr]; clear hr
  by_cases h1 : 0 ≤ n
  · by_cases h2 : n ≤ 1125899906842624
    · go_enter Tryz.func49, Tryz.ntmps49
      go_wp2
      go_ret
      simp [h1, h2]
    · go_enter Tryz.func49, Tryz.ntmps49
      go_wp2
      go_ret
      simp [h2]
  · go_enter Tryz.func49, Tryz.ntmps49
    go_wp2
    go_ret
    simp
    omega
def ansV : Option Int → Int
  | some n => n
  | none => 0
theorem sumL_take {L : List Int} {i : Nat} (h : i < L.length) (n : Int) : sumL n (L.drop i) = if okA (L.getD i 0) && decide (n + L.getD i 0 ≤ mostA) then sumL (n + L.getD i 0) (L.drop (i + 1)) else none := by
  rw [List.drop_eq_getElem_cons h]
  conv => lhs; unfold sumL
  rw [List.getD_eq_getElem?_getD, List.getElem?_eq_getElem h, Option.getD_some]

set_option maxHeartbeats 2000000 in
theorem Sum_any (B : Nat) (a : Option Addr) (n c : Nat) (L : List Int) (w : World) (hl : RL B w a n c L) :
    Calls Tryz.prog 152 #[.slice a n c] w fun e w' => e = .returned (.tuple #[.int .i64 (ansV (sumL 0 L)), .bool (sumL 0 L).isSome]) ∧ w = w' := by
  have hle := hl.le; have hmx := hl.mx; have hln := hl.len
  have Hwf := Lib.hid hl.wf
  have Hln := Lib.hid hln; clear hln
  obtain ⟨T, hT⟩ : ∃ T, T = sumL 0 L := ⟨_, rfl⟩
  rw [← hT]
  have HT := Lib.hid hT
  clear hT
  go_enter Tryz.func152, Tryz.ntmps152
  go_wp2
  go_loop [4, 9] (fun t s => ∃ (m : Int) (i : Nat), t = .int .i64 m ∧ s = .int .i64 i ∧ i ≤ n ∧ 0 ≤ m ∧ m ≤ 1125899906842624 ∧ Hid (T = sumL m (L.drop i))) (fun _ s => n - (intOf s).toNat)
  case atStart => exact ⟨0, 0, rfl, rfl, by omega, by omega, by omega, HT⟩
  case round =>
    obtain ⟨m, i, rfl, rfl, hi, h0, h1, ht⟩ := hrel
    by_cases hin : i < n
    · obtain ⟨b, o, rfl, hB, hc⟩ := hl.at_ (by omega)
      have g := hc i hin
      clear hc
      have hx := Hwf.out (L.getD i 0) (by rw [List.getD_eq_getElem?_getD, List.getElem?_eq_getElem (by have := Hln.out; omega)]; exact List.getElem_mem (by have := Hln.out; omega))
      have hs := sumL_take (L := L) (i := i) (by have := Hln.out; omega) m
      rw [← ht.out] at hs
      have HS := Lib.hid hs
      clear hs
      obtain ⟨x, hxe⟩ : ∃ x, x = L.getD i 0 := ⟨_, rfl⟩
      rw [← hxe] at g hx HS
      clear hxe
      by_cases hk : okA x = true
      · have hk' := okA_iff.1 hk
        have hw := wrap_in (x := m + x) (by omega) (by omega)
        have hw2 := wrap64_in (x := m + x) (by omega) (by omega)
        have hr := fun w => Right_any x w
        rw [hk] at hr
        by_cases hm : m + x ≤ 1125899906842624
        · go_wp2_with (go_at_call 49; refine (hr _).mono ?_; rintro e w' ⟨rfl, rfl⟩)
          go_round
          case rel =>
            refine ⟨m + x, i + 1, rfl, rfl, by omega, by omega, hm, ?_⟩
            show _ = _
            have e : decide (m + x ≤ mostA) = true := decide_eq_true (show m + x ≤ 1125899906842624 from hm)
            rw [HS.out, hk, e]; rfl
          case measure => simp [intOf]; omega
        · go_wp2_with (go_at_call 49; refine (hr _).mono ?_; rintro e w' ⟨rfl, rfl⟩)
          go_ret2
          have e : decide (m + x ≤ mostA) = false := decide_eq_false (show ¬ m + x ≤ 1125899906842624 by omega)
          rw [HS.out, hk, e]
          exact ⟨rfl, rfl⟩
      · have hk0 : okA x = false := by simpa using hk
        have hr := fun w => Right_any x w
        rw [hk0] at hr
        go_wp2_with (go_at_call 49; refine (hr _).mono ?_; rintro e w' ⟨rfl, rfl⟩)
        go_ret2
        rw [HS.out, hk0]
        exact ⟨rfl, rfl⟩
    · go_wp2_with (fail)
      go_ret2
      have e : i = L.length := by have := Hln.out; omega
      rw [ht.out, e, List.drop_length]
      exact ⟨rfl, rfl⟩

set_option maxHeartbeats 2000000 in
theorem Add_any (a b : Int) (w : World) (ha : -9223372036854775808 ≤ a ∧ a ≤ 9223372036854775807) (hb : -9223372036854775808 ≤ b ∧ b ≤ 9223372036854775807) :
    Calls Tryz.prog 98 #[.int .i64 a, .int .i64 b] w fun e w' => e = .returned (.tuple #[.int .i64 (ansV (addA a b)), .bool (addA a b).isSome]) ∧ Below w.heap.size w w' := by
  have hl : RL (w.heap.size + 1) (w.alloc (.cells #[.int .i64 a, .int .i64 b] 2)) (some ⟨w.heap.size, 0, none⟩) 2 2 [a, b] := by
    refine ⟨rfl, by omega, by omega, fun x hx => ?_, fun _ => ⟨w.heap.size, 0, rfl, by omega, fun i hi => ?_⟩⟩
    · simp at hx
      rcases hx with rfl | rfl
      · exact ha
      · exact hb
    · have hb := (Go.MapKept.heap_alloc w (.cells #[.int .i64 a, .int .i64 b] 2)).1
      rcases (show i = 0 ∨ i = 1 by omega) with rfl | rfl <;> simp only [World.cell?, hb] <;> rfl
  have hs := Sum_any _ _ _ _ _ _ hl
  rw [sumL_two] at hs
  have Hs := Lib.hid hs
  clear hs
  have HB := Lib.hid (show Below w.heap.size w (w.alloc (.cells #[.int .i64 a, .int .i64 b] 2)) from (Below.refl _ w).alloc (Nat.le_refl _) _)
  go_enter Tryz.func98, Tryz.ntmps98
  go_wp2_with (go_at_call 152; refine Hs.out.mono ?_; rintro e w' ⟨rfl, rfl⟩)
  go_ret2
  exact ⟨rfl, HB.out⟩

end Go.Proofs.YtbedbhlebfnohaaGreat
namespace Go.Proofs.YtbedbhlebfnohaaGreat
open Go.RowKit

def markN (k i : Nat) : Nat := 1000003 * (k + 7) + i
theorem mark_any (k i : Nat) (w : World) (hk : k ≤ 1000000) (hi : i ≤ 1000000000) :
    Calls Tryz.prog 92 #[.int .i64 k, .int .i64 i] w fun e w' => e = .returned (.int .i64 (markN k i : Nat)) ∧ w = w' := by
  have hf : ((markN k i : Nat) : Int) = 1000003 * ((k : Int) + 7) + (i : Int) := by unfold markN; omega
  have Hf := Lib.hid hf
  clear hf
  go_enter Tryz.func92, Tryz.ntmps92
  go_wp2_with (fail)
  go_ret
  exact ⟨by rw [Hf.out]; rfl, rfl⟩
theorem markN_bd (k i : Nat) (hk : k ≤ 1000000) (hi : i ≤ 1000000000) : markN k i ≤ 2000000000000 := by unfold markN; omega

def lv (x : Int) : Value := .int .i64 x
def OL (base : Nat) (w : World) (v : Value) (L : List Int) : Prop := w.ownsRow base 2 1 v L.length (L.map lv)
end Go.Proofs.YtbedbhlebfnohaaGreat
namespace Go.Proofs.YtbedbhlebfnohaaGreat
open Go.RowKit

def eqP (p q : Pt) : Bool := decide (p.1 = q.1) && decide (p.2 = q.2)
theorem eqP_iff {p q : Pt} : eqP p q = true ↔ p = q := by
  unfold eqP
  rw [Bool.and_eq_true, decide_eq_true_eq, decide_eq_true_eq]
  exact ⟨fun h => Prod.ext h.1 h.2, fun h => by rw [h]; exact ⟨rfl, rfl⟩⟩

theorem eqPart (x y : List UInt8) (u v : Int) (w : World) : (Op.equalIn 10000 60 (.agg #[encStr x, .int .i64 u]) (.agg #[encStr y, .int .i64 v])).run Tryz.prog w = .ok (eqP (x, u) (y, v)) w := by
  have u2 := Tryz.underlying2
  have a2 := Tryz.isAgg2
  have z2 := Tryz.sizeOf2
  have u9 := Tryz.underlying9
  have a9 := Tryz.isAgg9
  have z9 := Tryz.sizeOf9
  have hS : Tryz.prog.underlying 60 = some (.struct (Tryz.prog.fieldsOf 60)) := by kernel_rfl
  have hp : Tryz.prog.stoodInHeld 60 = false := by kernel_rfl
  rw [show (10000 : Nat) = 9999 + 1 from rfl, run_equalIn_agg w 9999 60 _ _ hS hp]
  simp only [Program.fieldsOf, Tryz.underlying60]
  go_simp
  unfold eqP
  by_cases h1 : x = y <;> by_cases h2 : u = v <;> simp [h1, h2]

theorem takeP_succ {P Q : List Pt} {k : Nat} (hk : k < P.length) (hk2 : k < Q.length) (h : P.take k = Q.take k) (he : P.getD k default = Q.getD k default) : P.take (k+1) = Q.take (k+1) := by
  rw [List.take_succ_eq_append_getElem hk, List.take_succ_eq_append_getElem hk2, h]
  simp only [List.getD, List.getElem?_eq_getElem hk, List.getElem?_eq_getElem hk2, Option.getD_some] at he
  rw [he]

set_option maxHeartbeats 4000000 in
theorem SameParts_any (B : Nat) (a b : Option Addr) (n m c d : Nat) (P Q : List Pt) (w : World) (hp : RP B w a n c P) (hq : RP B w b m d Q) :
    Calls Tryz.prog 117 #[.slice a n c, .slice b m d] w fun e w' => e = .returned (.bool (decide (P = Q))) ∧ ∃ q, w' = w.drewN q := by
  have hle := hp.le; have hmx := hp.mx; have hle2 := hq.le; have hmx2 := hq.mx
  have Hln := Lib.hid hp.len
  have Hln2 := Lib.hid hq.len
  by_cases hnm : n = m
  · subst hnm
    go_enter Tryz.func117, Tryz.ntmps117
    go_wp2_with (fail)
    go_loopw [5] (fun i wr => ∃ j : Nat, j ≤ n ∧ i = .int .i64 j ∧ Hid (P.take j = Q.take j) ∧ ∃ q, wr = w.drewN q) (fun i _ => n - (intOf i).toNat)
    case atStart => exact ⟨0, Nat.zero_le _, rfl, Lib.hid rfl, 0, rfl⟩
    case round =>
      obtain ⟨j, hj, rfl, ht, q, rfl⟩ := hrel
      by_cases hlt : j < n
      · obtain ⟨b1, o1, rfl, -, hc1⟩ := hp.at_ (by omega)
        obtain ⟨b2, o2, rfl, -, hc2⟩ := hq.at_ (by omega)
        obtain ⟨g1, g2⟩ := hc1 j hlt
        obtain ⟨k1, k2⟩ := hc2 j hlt
        clear hc1 hc2
        have Hsucc := Lib.hid (fun he => takeP_succ (by rw [← Hln.out]; exact hlt) (by rw [← Hln2.out]; exact hlt) ht.out he)
        have Hno := Lib.hid (show P.getD j default ≠ Q.getD j default → decide (P = Q) = false from fun hne => decide_eq_false fun e => hne (by rw [e]))
        generalize P.getD j default = p at g1 g2 Hsucc Hno
        generalize Q.getD j default = p' at k1 k2 Hsucc Hno
        obtain ⟨x, u⟩ := p
        obtain ⟨y, v⟩ := p'
        simp only at g1 g2 k1 k2
        cases he : eqP (x, u) (y, v) with
        | true =>
          have Hs := Lib.hid (Hsucc.out (eqP_iff.1 he))
          have heq : ∀ w, (Op.equalIn 10000 60 (.agg #[encStr x, .int .i64 u]) (.agg #[encStr y, .int .i64 v])).run Tryz.prog w = .ok true w := fun w => by rw [eqPart, he]
          clear he Hno
          go_wp2_with (fail)
          go_quiet (fail)
          go_wp2_with (fail)
          go_roundw
          case rel => exact ⟨j + 1, by omega, by go_num, Hs, _, rfl⟩
          case measure => simp [intOf]; omega
        | false =>
          have Hn := Lib.hid (Hno.out (fun e => by rw [eqP_iff.2 e] at he; cases he))
          have heq : ∀ w, (Op.equalIn 10000 60 (.agg #[encStr x, .int .i64 u]) (.agg #[encStr y, .int .i64 v])).run Tryz.prog w = .ok false w := fun w => by rw [eqPart, he]
          clear he Hsucc
          go_wp2_with (fail)
          go_quiet (fail)
          go_wp2_with (fail)
          go_ret
          rw [Hn.out]
          exact ⟨rfl, _, World.drewN_drewN _ _ _⟩
      · have hge : n ≤ j := by omega
        go_wp2_with (fail)
        go_ret
        have : P = Q := by
          have := ht.out
          rwa [List.take_of_length_le (by rw [← Hln.out]; exact hge), List.take_of_length_le (by rw [← Hln2.out]; exact hge)] at this
        rw [decide_eq_true this]
        exact ⟨rfl, _, rfl⟩
  · have hne : decide (P = Q) = false := decide_eq_false fun e => hnm (by rw [Hln.out, Hln2.out, e])
    rw [hne]
    go_enter Tryz.func117, Tryz.ntmps117
    go_wp2_with (fail)
    go_ret
    exact ⟨rfl, 0, rfl⟩
end Go.Proofs.YtbedbhlebfnohaaGreat
