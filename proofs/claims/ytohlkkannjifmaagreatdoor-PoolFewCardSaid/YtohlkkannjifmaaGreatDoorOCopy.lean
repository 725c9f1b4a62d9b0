/- Elements of any kind in memory: slices that came in, slices of one's own. storemankit's copy of a record: its walk. -/
import Derived.Test.YtohlkkannjifmaaGreatDoorTxA
import Derived.Test.YtohlkkannjifmaaGreatDoorPageF
import Derived.Test.YtohlkkannjifmaaGreatDoorOLog6
namespace Go.Proofs.YtohlkkannjifmaaGreatDoor
open Go.RowKit Tx
structure Ek (α : Type) where
  e : TypeId
  t : TypeId
  k : Nat
  bytes : Nat
  z : Value
  enc : α → List Value
  ok : α → Prop
  len : ∀ x, (enc x).length = k
  one : ∀ x, ∀ u ∈ enc x, u.oneCell' = true
  kpos : 0 < k
  under : Tryz.prog.underlying t = some (.slice e)
  info : (Tryz.prog.info? e).map (fun i => (i.zero, i.size, i.bytes)) = some (some z, k, bytes)
  zc : z.cells.size = k
  small : bytes ≤ 100
namespace Ek
section
variable {α : Type} (E : Ek α)
def cells (X : List α) : List Value := X.flatMap E.enc
theorem cells_len : ∀ X : List α, (E.cells X).length = X.length * E.k
  | [] => by simp [cells]
  | x :: X => by
    have := cells_len X
    unfold cells at *
    rw [List.flatMap_cons, List.length_append, this, E.len, List.length_cons, Nat.add_mul]
    omega
theorem cells_append (X Y : List α) : E.cells (X ++ Y) = E.cells X ++ E.cells Y := by simp [cells]
theorem cells_one {X : List α} : ∀ u ∈ E.cells X, u.oneCell' = true := by
  intro u hu
  obtain ⟨x, -, hx⟩ := List.mem_flatMap.1 hu
  exact E.one x u hx
def Own (base : Nat) (w : World) (v : Value) (X : List α) : Prop := w.ownsRow base E.e E.k v X.length (E.cells X)
theorem Own.nil (base : Nat) (w : World) : E.Own base w (.slice none 0 0) [] := World.ownsRow_nil _ _ _ _
variable {E}
theorem Own.mono {B B' : Nat} {w : World} {v : Value} {X : List α} (h : E.Own B w v X) (hb : B' ≤ B) : E.Own B' w v X := Tx.rows_mono h hb
theorem Own.form {base : Nat} {W : World} {v : Value} {X : List α} (h : E.Own base W v X) : ∃ a c, v = .slice a X.length c ∧ X.length ≤ c ∧ c ≤ 9223372036854775807 ∧ (0 < X.length → ∃ g, a = some ⟨g, 0, none⟩) := Tx.rows_form h
theorem info' (E : Ek α) : ∃ i0, Tryz.prog.info? E.e = some i0 ∧ i0.zero = some E.z ∧ i0.size = E.k ∧ i0.bytes = E.bytes := by
  obtain ⟨i, hi, hzz⟩ := Option.map_eq_some_iff.1 E.info
  simp only [Prod.mk.injEq] at hzz
  exact ⟨i, hi, hzz⟩
theorem run_append {w : World} {base : Nat} {v : Value} {X Y : List α} (h : E.Own base w v X) (ty : TypeId) (sa : Option Addr) (c : Nat) (hsrc : ∃ ad, sa = some ad ∧ ∀ j u, (E.cells Y)[j]? = some u → w.cell? (ad.add j) = some u) (hY : 0 < Y.length)
    (hbase : base ≤ w.heap.size) (hl : X.length + Y.length ≤ 1000000000) :
    ∃ g cap w', (Builtin.append_ #[E.t, E.t] ty #[v, .slice sa Y.length c]).run Tryz.prog w = .ok (.slice (some ⟨g, 0, none⟩) (X.length + Y.length) cap) w' ∧ E.Own base w' (.slice (some ⟨g, 0, none⟩) (X.length + Y.length) cap) (X ++ Y) ∧ E.Own base w' v X ∧ w.grownBy w' v.ownBlock ∧ (v.ownBlock = some g ∨ g = w.heap.size) := by
  obtain ⟨i0, hi, hz0, hz1, hz2⟩ := E.info'
  have hsm := E.small
  obtain ⟨g, cap, w', hr, h1, h2, h3, h4⟩ := append_keepC (P := Tryz.prog) (m := Y.length) (cs := E.k) (Q := E.cells Y) E.t ty E.e i0 E.z E.under hi hz0 hz1 E.zc h sa c hsrc E.cells_one (E.cells_len Y) hY hbase
    (by
      rw [hz2]
      calc (X.length + Y.length) * E.bytes ≤ 1000000000 * 100 := Nat.mul_le_mul hl hsm
        _ ≤ 140737488355328 := by decide) (by omega)
  refine ⟨g, cap, w', hr, ?_, h2, h3, h4⟩
  unfold Own
  rw [List.length_append, E.cells_append]
  exact h1
theorem wpList_append0 {w : World} {ops : Array Oper} {rest : List Oper} {o : Oper} {a : Act} {K : Exit → Act → World → Prop} (E : Ek α) (hgd : o.guard = none) (s x : Operand)
    (ho : o.op = .call { callee := .builtin .append, args := #[s, x], argTypes := #[E.t, E.t] }) (Y : List α) (hs : a.eval s = .slice none 0 0) (sa : Option Addr) (m c : Nat)
    (hx : a.eval x = .slice sa m c) (hm : m = Y.length) (hsrc : 0 < Y.length → ∃ ad, sa = some ad ∧ ∀ j u, (E.cells Y)[j]? = some u → w.cell? (ad.add j) = some u) (hl : Y.length ≤ 1000000000)
    (hK : ∀ a' c' w', E.Own w.heap.size w' (.slice a' m c') Y → Below w.heap.size w w' → wpList Tryz.prog ops K rest (a.put o.dst (.slice a' m c')) w') : wpList Tryz.prog ops K (o :: rest) a w := by
  subst hm
  by_cases h0 : Y.length = 0
  · obtain rfl : Y = [] := List.eq_nil_of_length_eq_zero h0
    obtain ⟨i0, hi, -⟩ := E.info'
    have hr := run_append_nothing (P := Tryz.prog) w E.t o.type E.e i0 E.under hi none sa 0 0 c (Nat.le_refl _)
    refine wpList_plain hgd fun K' hK' => ?_
    unfold Oper.wp execOp
    simp only [List.length_nil] at hx
    simp only [ho, resolve, invoke, builtin, Sem.run_bind, Sem.run_pure, Result.andThen_ok, List.map_toArray, List.map_cons, List.map_nil, hs, hx, hr]
    exact hK' _ _ (hK none 0 w (Own.nil E _ _) (Below.refl _ _))
  · obtain ⟨g, cap, w', hr, h1, h2, h3, h4⟩ := run_append (Own.nil E w.heap.size w) o.type sa c (hsrc (by omega)) (by omega) (Nat.le_refl _) (by simpa using hl)
    refine wpList_plain hgd fun K' hK' => ?_
    unfold Oper.wp execOp
    simp only [List.length_nil, Nat.zero_add, List.nil_append] at hr h1
    simp only [ho, resolve, invoke, builtin, Sem.run_bind, Sem.run_pure, Result.andThen_ok, List.map_toArray, List.map_cons, List.map_nil, hs, hx, hr]
    exact hK' _ _ (hK _ cap w' h1 ((Below.refl _ w).grown h3 (Nat.le_refl _) (fun k e => by cases e)))
end
section
variable {α : Type} [Inhabited α] (E : Ek α)
theorem cells_at : ∀ (X : List α) (i j : Nat), i < X.length → j < E.k → (E.cells X)[i * E.k + j]? = (E.enc (X.getD i default))[j]?
  | [], i, j, h, _ => by simp at h
  | x :: X, 0, j, _, hj => by
    unfold cells
    rw [List.flatMap_cons, List.getElem?_append_left (by rw [E.len]; omega)]
    simp
  | x :: X, i + 1, j, h, hj => by
    have ih := cells_at X i j (by simpa using h) hj
    unfold cells at *
    rw [List.flatMap_cons, List.getElem?_append_right (by rw [E.len, Nat.add_mul]; omega), E.len, Nat.add_mul, Nat.one_mul]
    rw [show i * E.k + E.k + j - E.k = i * E.k + j by omega, ih]
    rfl
structure In (B : Nat) (w : World) (a : Option Addr) (n c : Nat) (X : List α) : Prop where
  len : n = X.length
  le : n ≤ c
  mx : c ≤ 9223372036854775807
  fine : ∀ x ∈ X, E.ok x
  at_ : 0 < c → ∃ b o, a = some ⟨b, o, none⟩ ∧ b < B ∧ ∀ i, i < n → ∀ j, j < E.k → w.cell? ⟨b, o + i * E.k + j, none⟩ = (E.enc (X.getD i default))[j]?
variable {E}
theorem In.below {B : Nat} {w w' : World} {a : Option Addr} {n c : Nat} {X : List α} (h : E.In B w a n c X) (hb : Below B w w') : E.In B w' a n c X := by
  refine ⟨h.len, h.le, h.mx, h.fine, fun hc => ?_⟩
  obtain ⟨b, o, e, hB, hcell⟩ := h.at_ hc
  exact ⟨b, o, e, hB, fun i hi j hj => (hb.cell hB).trans (hcell i hi j hj)⟩
theorem In.src {B : Nat} {w : World} {a : Option Addr} {n c : Nat} {X : List α} (h : E.In B w a n c X) : 0 < X.length → ∃ ad, a = some ad ∧ ∀ j u, (E.cells X)[j]? = some u → w.cell? (ad.add j) = some u := by
  intro h0
  have hc : 0 < c := by have := h.le; have := h.len; omega
  obtain ⟨b, o, rfl, -, hcell⟩ := h.at_ hc
  refine ⟨_, rfl, fun j u hu => ?_⟩
  have hj : j < X.length * E.k := by
    rw [← E.cells_len]
    rcases Nat.lt_or_ge j (E.cells X).length with h1 | h1
    · exact h1
    · rw [List.getElem?_eq_none h1] at hu; cases hu
  have hk := E.kpos
  have hi : j / E.k < X.length := Nat.div_lt_of_lt_mul (by rw [Nat.mul_comm]; exact hj)
  have hm : j % E.k < E.k := Nat.mod_lt _ hk
  have e1 : j / E.k * E.k + j % E.k = j := Nat.div_add_mod' j E.k
  have hat := E.cells_at X (j / E.k) (j % E.k) hi hm
  rw [e1, hu] at hat
  have e : (⟨b, o, none⟩ : Addr).add j = ⟨b, o + j / E.k * E.k + j % E.k, none⟩ := by
    unfold Addr.add
    rw [Nat.add_assoc, e1]
    split <;> simp_all
  rw [e, hcell _ (by rw [h.len]; exact hi) _ hm]
  exact hat.symm
theorem In.nil (B : Nat) (w : World) : E.In B w none 0 0 [] := ⟨rfl, Nat.le_refl _, by omega, fun x hx => (by cases hx), fun h => absurd h (Nat.lt_irrefl _)⟩
theorem Own.cell {base g n c : Nat} {W : World} {X : List α} (h : E.Own base W (.slice (some ⟨g, 0, none⟩) n c) X) : n = X.length ∧ n ≤ c ∧ c ≤ 9223372036854775807 ∧ base ≤ g ∧ g < W.heap.size ∧ ∀ i, i < n → ∀ j, j < E.k → W.cell? ⟨g, i * E.k + j, none⟩ = (E.enc (X.getD i default))[j]? := by
  obtain ⟨h1, ⟨h2, -⟩ | ⟨g', cap, cur, hv, hg, hh, hle, hcap, hsz, htk⟩⟩ := id h
  · cases h2
  · cases hv
    refine ⟨rfl, hle, by simpa [maxLen] using hcap, hg, (Array.getElem?_eq_some_iff.1 hh).1, fun i hi j hj => ?_⟩
    have hat := E.cells_at X i j hi hj
    rw [← htk] at hat
    have hlt : i * E.k + j < X.length * E.k := by
      have : (i + 1) * E.k ≤ X.length * E.k := Nat.mul_le_mul_right _ hi
      rw [Nat.add_mul] at this
      omega
    rw [List.getElem?_take, if_pos hlt] at hat
    rw [← hat]
    simp [World.cell?, hh]
theorem Own.in_ {base : Nat} {W : World} {v : Value} {X : List α} (h : E.Own base W v X) (hf : ∀ x ∈ X, E.ok x) : ∃ a c, v = .slice a X.length c ∧ E.In W.heap.size W a X.length c X := by
  obtain ⟨a, c, rfl, hle, hmx, ha⟩ := h.form
  by_cases h0 : 0 < X.length
  · obtain ⟨g, rfl⟩ := ha h0
    obtain ⟨-, -, -, -, hg, hcell⟩ := h.cell
    exact ⟨_, c, rfl, ⟨rfl, hle, hmx, hf, fun _ => ⟨g, 0, rfl, hg, fun i hi j hj => by rw [Nat.zero_add]; exact hcell i hi j hj⟩⟩⟩
  · obtain ⟨h1, ⟨h2, h3⟩ | ⟨g', cap, cur, hv, hg, hh, -⟩⟩ := id h
    · injection h2 with e1 e2 e3
      subst e1
      exact ⟨none, c, rfl, ⟨rfl, hle, hmx, hf, fun h => by omega⟩⟩
    · injection hv with e1 e2 e3
      subst e1
      exact ⟨_, c, rfl, ⟨rfl, hle, hmx, hf, fun _ => ⟨g', 0, rfl, (Array.getElem?_eq_some_iff.1 hh).1, fun i hi => by omega⟩⟩⟩
end
end Ek
end Go.Proofs.YtohlkkannjifmaaGreatDoor
namespace Go.Proofs.YtohlkkannjifmaaGreatDoor
open Go.RowKit
def encPr (x : Int × Int) : List Value := [.int .i64 x.1, .int .i64 x.2]
def okPr (x : Int × Int) : Prop := (-9223372036854775808 ≤ x.1 ∧ x.1 ≤ 9223372036854775807) ∧ (-9223372036854775808 ≤ x.2 ∧ x.2 ≤ 9223372036854775807)
theorem dirtyE_info : (Tryz.prog.info? 80).map (fun i => (i.zero, i.size, i.bytes)) = some (some (.agg #[.int .i64 0, .int .i64 0]), 2, 16) := by kernel_rfl
theorem openE_info : (Tryz.prog.info? 200).map (fun i => (i.zero, i.size, i.bytes)) = some (some (.agg #[.int .i64 0, .int .i64 0]), 2, 16) := by kernel_rfl
set_option maxRecDepth 100000 in
def dirtyE : Ek (Int × Int) where
  e := 80
  t := 30
  k := 2
  bytes := 16
  z := .agg #[.int .i64 0, .int .i64 0]
  enc := encPr
  ok := okPr
  len := fun _ => rfl
  one := fun x u hu => by
    unfold encPr at hu
    simp only [List.mem_cons, List.not_mem_nil, or_false] at hu
    rcases hu with rfl | rfl <;> rfl
  kpos := by decide
  under := Tryz.underlying30
  info := dirtyE_info
  zc := rfl
  small := by decide
set_option maxRecDepth 100000 in
def openE : Ek (Int × Int) where
  e := 200
  t := 31
  k := 2
  bytes := 16
  z := .agg #[.int .i64 0, .int .i64 0]
  enc := encPr
  ok := okPr
  len := fun _ => rfl
  one := fun x u hu => by
    unfold encPr at hu
    simp only [List.mem_cons, List.not_mem_nil, or_false] at hu
    rcases hu with rfl | rfl <;> rfl
  kpos := by decide
  under := Tryz.underlying31
  info := openE_info
  zc := rfl
  small := by decide
theorem dirtyE_pi {B : Nat} {w : World} {a : Option Addr} {n c : Nat} {X : List (Int × Int)} (h : dirtyE.In B w a n c X) (hn : n ≤ 1000000000) : PI B w a n c X :=
  ⟨h.len, h.le, h.mx, hn, fun hc => by
    obtain ⟨b, o, e, hb, hcell⟩ := h.at_ hc
    exact ⟨b, o, e, hb, fun i hi => ⟨hcell i hi 0 (by decide), hcell i hi 1 (by decide)⟩⟩⟩
theorem openE_pi {B : Nat} {w : World} {a : Option Addr} {n c : Nat} {X : List (Int × Int)} (h : openE.In B w a n c X) (hn : n ≤ 1000000000) : PI B w a n c X :=
  ⟨h.len, h.le, h.mx, hn, fun hc => by
    obtain ⟨b, o, e, hb, hcell⟩ := h.at_ hc
    exact ⟨b, o, e, hb, fun i hi => ⟨hcell i hi 0 (by decide), hcell i hi 1 (by decide)⟩⟩⟩
set_option maxHeartbeats 1000000 in
set_option maxRecDepth 100000 in
theorem CopyDirties_any (N : Nat) (a : Option Addr) (n c : Nat) (L : List (Int × Int)) (w : World) (hr : dirtyE.In N w a n c L) (hs : n ≤ 1000000000) :
    Calls Tryz.prog 39 #[.slice a n c] w fun e w' => (∃ a' c', e = .returned (.slice a' n c') ∧ dirtyE.Own w.heap.size w' (.slice a' n c') L) ∧ Below w.heap.size w w' := by
  have hln := hr.len
  have Hln := Lib.hid hln
  have Hr := Lib.hid hr
  clear hr hln
  go_enter Tryz.func39, Tryz.ntmps39
  go_wp2_with (at_builtin; refine Ek.wpList_append0 dirtyE rfl _ _ rfl L rfl _ n _ rfl Hln.out (Hr.out).src (by have := Hln.out; omega) ?_; intro a2 c2 w2 hown2 hb2)
  go_ret
  exact ⟨⟨_, _, rfl, hown2⟩, hb2⟩
set_option maxHeartbeats 1000000 in
set_option maxRecDepth 100000 in
theorem CopyOpens_any (N : Nat) (a : Option Addr) (n c : Nat) (L : List (Int × Int)) (w : World) (hr : openE.In N w a n c L) (hs : n ≤ 1000000000) :
    Calls Tryz.prog 40 #[.slice a n c] w fun e w' => (∃ a' c', e = .returned (.slice a' n c') ∧ openE.Own w.heap.size w' (.slice a' n c') L) ∧ Below w.heap.size w w' := by
  have hln := hr.len
  have Hln := Lib.hid hln
  have Hr := Lib.hid hr
  clear hr hln
  go_enter Tryz.func40, Tryz.ntmps40
  go_wp2_with (at_builtin; refine Ek.wpList_append0 openE rfl _ _ rfl L rfl _ n _ rfl Hln.out (Hr.out).src (by have := Hln.out; omega) ?_; intro a2 c2 w2 hown2 hb2)
  go_ret
  exact ⟨⟨_, _, rfl, hown2⟩, hb2⟩
end Go.Proofs.YtohlkkannjifmaaGreatDoor
