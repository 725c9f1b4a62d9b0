/- append of bytes onto a slice that the call itself has made. -/
import Derived.Test.YtbinikbgbgggaaaGreatDoorBytes
import Derived.OwnWalk
namespace Go.Proofs.YtbinikbgbgggaaaGreatDoor
open Go.RowKit

/-- The slice value v leads to memory of the call's own, from block base on, and reads as the bytes l; or it is nil, and l is empty. -/
def OB (base : Nat) (w : World) (v : Value) (l : List UInt8) : Prop := w.ownsRow base 5 1 v l.length (l.map bv)
theorem Tryz.infoU8 : (Tryz.prog.info? 5).map (fun i => (i.zero, i.size, i.bytes)) = some (some (.int .u8 0), 1, 1) := by kernel_rfl

theorem OB.nil (base : Nat) (w : World) : OB base w (.slice none 0 0) [] := World.ownsRow_nil _ _ _ _
theorem OB.mono {B B' : Nat} {w : World} {v : Value} {l : List UInt8} (h : OB B w v l) (hb : B' ≤ B) : OB B' w v l := by
  obtain ⟨h1, h2 | ⟨g, cap, cur, hv, hg, r⟩⟩ := h
  · exact ⟨h1, .inl h2⟩
  · exact ⟨h1, .inr ⟨g, cap, cur, hv, Nat.le_trans hb hg, r⟩⟩
theorem OB.rb {base : Nat} {w : World} {v : Value} {l : List UInt8} (h : OB base w v l) (hmx : l.length ≤ 140737488355328) : ∃ a c, v = .slice a l.length c ∧ RB w.heap.size w a l.length c l := by
  have hl := h.lt
  obtain ⟨h1, ⟨rfl, h0⟩ | ⟨g, cap, cur, rfl, hg, hh, hle, hcap, hsz, ht⟩⟩ := h
  · have : l = [] := List.eq_nil_of_length_eq_zero h0
    subst this
    exact ⟨none, 0, rfl, RB.emp _⟩
  · refine ⟨some ⟨g, 0, none⟩, cap, rfl, ⟨rfl, hle, by simpa [maxLen] using hcap, hmx, fun _ => ⟨g, 0, rfl, (Array.getElem?_eq_some_iff.1 hh).1, fun i hi => ?_⟩⟩⟩
    have hb := bv_getD l i hi
    rw [← ht] at hb
    simp only [World.cell?, hh, Nat.zero_add, Option.isSome_none, Bool.false_eq_true, if_false]
    rw [List.getElem?_take, if_pos (by omega)] at hb
    simpa using hb

theorem run_append_nothing {P : Program} (w : World) (t ty e : TypeId) (i : TypeInfo) (ht : P.underlying t = some (.slice e)) (hi : P.info? e = some i) (sa xa : Option Addr) (n c d : Nat) (hnc : n ≤ c) :
    (Builtin.append_ #[t, t] ty #[.slice sa n c, .slice xa 0 d]).run P w = .ok (.slice sa n c) w := by
  have hn : n + 0 ≤ c := by omega
  have hl : ∀ a, (loadCells a 0).run P w = .ok #[] w := fun a => by simpa using run_loadCells_list (P := P) w a [] (by simp)
  cases sa <;> cases xa <;> simp [Builtin.append_, run_underlying ht, sizeOf, typeInfo, hi, Builtin.lenOf, Builtin.firstCells, hn, hnc, hl, storeCells]


theorem wpList_append_bytes {w : World} {ops : Array Oper} {rest : List Oper} {o : Oper} {a : Act} {Q : Exit → Act → World → Prop} (hgd : o.guard = none) (s x : Operand)
    (ho : o.op = .call { callee := .builtin .append, args := #[s, x], argTypes := #[22, 22] })
    (base B : Nat) (v : Value) (l : List UInt8) (hs : a.eval s = v) (hown : OB base w v l) (sa : Option Addr) (m c : Nat) (k : List UInt8) (hx : a.eval x = .slice sa m c) (hsrc : RB B w sa m c k)
    (hlen : l.length + k.length ≤ 140737488355328) (hbase : base ≤ w.heap.size)
    (h : ∀ v' w', OB base w' v' (l ++ k) → w.grownBy w' v.ownBlock → (v' = .slice none 0 0 ↔ v = .slice none 0 0 ∧ k = []) → wpList Tryz.prog ops Q rest (a.put o.dst v') w') : wpList Tryz.prog ops Q (o :: rest) a w := by
  obtain ⟨i0, hi, hz0, hz1, hz2⟩ := info_parts Tryz.infoU8
  have hm := hsrc.len
  by_cases h0 : m = 0
  · subst h0
    obtain rfl : k = [] := List.eq_nil_of_length_eq_zero hm.symm
    obtain ⟨va, vc, rfl, hrb⟩ := hown.rb (by simpa using hlen)
    refine wpList_plain hgd fun K hK => ?_
    have hrun := run_append_nothing (P := Tryz.prog) w 22 o.type 5 i0 Tryz.underlying22 hi va sa l.length vc c hrb.le
    unfold Oper.wp execOp
    simp only [ho, resolve, invoke, builtin, Sem.run_bind, Sem.run_pure, Result.andThen_ok, List.map_toArray, List.map_cons, List.map_nil, hs, hx, hrun]
    exact hK _ _ (h _ _ (by simpa using hown) ⟨rfl, rfl, rfl, Nat.le_refl _, fun _ _ _ => rfl⟩ (by simp))
  · have hle := hsrc.le
    obtain ⟨b, o', rfl, hB, hc⟩ := hsrc.at_ (by omega)
    refine wpList_append_own w hgd s x 22 ho base 5 i0 _ 1 1 Tryz.underlying22 hi hz0 hz1 hz2 rfl (by decide) v l.length (l.map bv) hs hown ⟨b, o', none⟩ m c (k.map bv) hx (by simp [hm]) hsrc.cells
      (fun u hu => by obtain ⟨y, _, rfl⟩ := List.mem_map.1 hu; rfl) (by simp only [maxLen]; omega) (by omega) hbase ?_
    intro v' w' hown' hg hn
    refine h v' w' ?_ hg ?_
    · unfold OB
      rw [List.length_append, List.map_append, ← hm]
      exact hown'
    · rw [hn]
      have : k ≠ [] := fun e => h0 (by rw [hm, e]; rfl)
      simp [h0, this]
end Go.Proofs.YtbinikbgbgggaaaGreatDoor
