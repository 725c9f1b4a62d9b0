/- Own lists that grow: of items, of lists of parts. -/
import Derived.Test.YthlmnoggeggpkaaKLentI
import Derived.Test.YthlmnoggeggpkaaJConcat
import Derived.Test.YthlmnoggeggpkaaFlA
namespace Go.Proofs.Ythlmnoggeggpkaa
open Go.RowKit

def encV (v : PV) : Value := .slice v.a v.n v.c
/-- The slice value v leads to memory of the call's own, from block base on, and reads as the lists V. -/
def OV (base : Nat) (w : World) (v : Value) (V : List PV) : Prop := w.ownsRow base 29 1 v V.length (V.map encV)
theorem Try.infoV : (Try.prog.info? 29).map (fun i => (i.zero, i.size, i.bytes)) = some (some (.slice none 0 0), 1, 24) := by kernel_rfl
theorem OV.nil (base : Nat) (w : World) : OV base w (.slice none 0 0) [] := World.ownsRow_nil _ _ _ _
theorem OIt.nil (base : Nat) (w : World) : OIt base w (.slice none 0 0) [] := World.ownsRow_nil _ _ _ _
theorem OV.below {base : Nat} {W W' : World} {v : Value} {V : List PV} (h : OV base W v V) (hb : Below W.heap.size W W') : OV base W' v V := rows_below h hb
/-- Own rows of two kinds lie in two blocks. -/
theorem rows_apart {W : World} {base base' size size' n n' : Nat} {e e' : TypeId} {v v' : Value} {xs xs' : List Value} (hne : e ≠ e') (h : W.ownsRow base e size v n xs) (h' : W.ownsRow base' e' size' v' n' xs') {b : Nat} (hb : v.ownBlock = some b) : v'.ownBlock ≠ some b := fun hb' => by
  obtain ⟨c1, h1⟩ := row_is h hb
  obtain ⟨c2, h2⟩ := row_is h' hb'
  rw [h1] at h2
  injection h2 with h2
  injection h2 with _ h2 _
  exact hne h2
/-- An own row stands while one of another kind grows. -/
theorem rows_grown {W W' : World} {base base' size size' n n' : Nat} {e e' : TypeId} {v v' : Value} {xs xs' : List Value} (hne : e ≠ e') (h : W.ownsRow base e size v n xs) (h' : W.ownsRow base' e' size' v' n' xs') (hg : W.grownBy W' v'.ownBlock) : W'.ownsRow base e size v n xs :=
  rows_keep h fun b hb => hg.block b (rows_ge h b hb).2 (fun e => (rows_apart hne h h' hb) (by rw [e]))
theorem OV.rv {base : Nat} {w : World} {v : Value} {V : List PV} (h : OV base w v V) (hp : ∀ i, i < V.length → RP w.heap.size w (V.getD i default).a (V.getD i default).n (V.getD i default).c (V.getD i default).P) : ∃ a c, v = .slice a V.length c ∧ RV w.heap.size w a V.length c V := by
  obtain ⟨a, c, rfl, hle, hmx, ha⟩ := rows_form h
  refine ⟨a, c, rfl, ⟨rfl, hle, hmx, fun hc => ?_, hp⟩⟩
  obtain ⟨h1, ⟨h2, h3⟩ | ⟨g, cap, cur, hv, hg, hh, -, -, -, ht⟩⟩ := id h
  · injection h2 with e1 e2 e3
    omega
  · injection hv with e1 e2 e3
    subst e1
    refine ⟨g, 0, rfl, (Array.getElem?_eq_some_iff.1 hh).1, fun i hi => ?_⟩
    have hcell := World.ownsRow.cells (g := g) h rfl i (encV (V.getD i default)) (by
      rw [List.getElem?_map, List.getD_eq_getElem?_getD, List.getElem?_eq_getElem hi]; rfl)
    have e : (⟨g, 0, none⟩ : Addr).add i = ⟨g, 0 + i, none⟩ := by unfold Addr.add; split <;> simp_all
    rw [e] at hcell
    exact hcell
set_option maxRecDepth 100000 in
theorem wpList_append_v {w : World} {ops : Array Oper} {rest : List Oper} {o : Oper} {a : Act} {K : Exit → Act → World → Prop} (hgd : o.guard = none) (s x : Operand)
    (ho : o.op = .call { callee := .builtin .append, args := #[s, x], argTypes := #[43, 43] }) (base : Nat) (v : Value) (V : List PV) (p : PV) (hs : a.eval s = v) (h : OV base w v V) (ad : Addr) (c : Nat)
    (hx : a.eval x = .slice (some ad) 1 c) (hsrc : w.cell? ad = some (encV p)) (hbase : base ≤ w.heap.size) (hl : V.length ≤ 1000000)
    (hK : ∀ g cap w', OV base w' (.slice (some ⟨g, 0, none⟩) (V.length + 1) cap) (V ++ [p]) → w.grownBy w' v.ownBlock → (v.ownBlock = some g ∨ g = w.heap.size) → wpList Try.prog ops K rest (a.put o.dst (.slice (some ⟨g, 0, none⟩) (V.length + 1) cap)) w') : wpList Try.prog ops K (o :: rest) a w := by
  obtain ⟨i0, hi, hz0, hz1, hz2⟩ := info_parts Try.infoV
  refine wpList_append_keepC (P := Try.prog) hgd s x 43 ho 29 i0 _ (Q := [encV p]) (m := 1) (cs := 1) Try.underlying43 hi hz0 hz1 rfl hs h (some ad) c hx ⟨ad, rfl, fun j u hu => ?_⟩ (fun u hu => ?_) rfl (by decide) hbase (by rw [hz2]; omega) (by omega) ?_
  · obtain rfl : j = 0 := by
      cases j with
      | zero => rfl
      | succ j => cases hu
    injection hu with hu
    subst hu
    have e : ad.add 0 = ad := by unfold Addr.add; split <;> simp_all
    rw [e]; exact hsrc
  · rw [List.mem_singleton] at hu
    subst hu; rfl
  · intro g cap w' h1 h2 h3 h4
    refine hK g cap w' ?_ h3 h4
    unfold OV
    rw [List.length_append, List.map_append]
    exact h1
set_option maxRecDepth 100000 in
theorem wpList_append_item2 {w : World} {ops : Array Oper} {rest : List Oper} {o : Oper} {a : Act} {K : Exit → Act → World → Prop} (hgd : o.guard = none) (s x : Operand)
    (ho : o.op = .call { callee := .builtin .append, args := #[s, x], argTypes := #[22, 22] }) (base : Nat) (v : Value) (Y : List It) (y : It) (hs : a.eval s = v) (h : OIt base w v Y) (ad : Addr) (c : Nat)
    (hx : a.eval x = .slice (some ad) 1 c) (hsrc : ∀ j u, (cellsI [y])[j]? = some u → w.cell? (ad.add j) = some u) (hbase : base ≤ w.heap.size) (hl : Y.length ≤ 1000000)
    (hK : ∀ g cap w', OIt base w' (.slice (some ⟨g, 0, none⟩) (Y.length + 1) cap) (Y ++ [y]) → OIt base w' v Y → w.grownBy w' v.ownBlock → (v.ownBlock = some g ∨ g = w.heap.size) → wpList Try.prog ops K rest (a.put o.dst (.slice (some ⟨g, 0, none⟩) (Y.length + 1) cap)) w') : wpList Try.prog ops K (o :: rest) a w := by
  obtain ⟨i0, hi, hz0, hz1, hz2⟩ := info_parts Try.infoItem
  refine wpList_append_keepC (P := Try.prog) hgd s x 22 ho 32 i0 _ (Q := cellsI [y]) (m := 1) (cs := 4) Try.underlying22 hi hz0 hz1 rfl hs h (some ad) c hx ⟨ad, rfl, hsrc⟩ cellsI_one (cellsI_len [y]) (by decide) hbase (by rw [hz2]; omega) (by omega) ?_
  intro g cap w' h1 h2 h3 h4
  refine hK g cap w' ?_ h2 h3 h4
  unfold OIt
  rw [List.length_append, cellsI_append]
  exact h1
/-- What stands behind the first n statements. -/
def dropC : Nat → Code → Code
  | n + 1, .seq _ b => dropC n b
  | _, c => c
theorem less_facts {a b : List UInt8} (h : a < b) : Op.bytesLess a b = true ∧ Op.bytesLess b a = false ∧ (a == b) = false ∧ (b == a) = false := by
  have hne : a ≠ b := fun e => by rw [e] at h; exact List.lt_irrefl _ h
  refine ⟨by rw [less_iff, decide_eq_true h], ?_, by simpa using hne, by simpa using fun e => hne e.symm⟩
  rw [less_iff]
  exact decide_eq_false fun h2 => lt_asymm' h h2
end Go.Proofs.Ythlmnoggeggpkaa
