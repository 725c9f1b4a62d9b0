/- The law's own functions: turn, long. -/
import Derived.Test.YtbinikbgbgggaaaDoorTurn
import Derived.Laws.IdiomStrings
namespace Go.Proofs.YtbinikbgbgggaaaDoor
open Go.RowKit Go.Shelf

theorem bytesRow_get (s : ByteArray) (c i : Nat) (hi : i < s.size) : (bytesRow s c)[i]? = some (.int .u8 (bt s.data.toList i)) := by
  have hi' : i < s.data.size := hi
  unfold bytesRow
  rw [Array.getElem?_append_left (by simpa using hi')]
  simp only [Array.getElem?_map, Array.getElem?_eq_getElem hi', Option.map_some]
  unfold bt
  simp [List.getD_eq_getElem?_getD, Array.getElem?_eq_getElem hi']

set_option maxRecDepth 100000 in
theorem wpList_str_bytes {w : World} {ops : Array Oper} {rest : List Oper} {o : Oper} {a : Act} {Q : Exit → Act → World → Prop} (hgd : o.guard = none) (x : Operand)
    (ho : o.op = .convert 9 23 x) (s : ByteArray) (hx : a.eval x = .string s) (hlm : s.size ≤ 140737488355328)
    (h : ∀ c w', Below w.heap.size w w' → RB w'.heap.size w' (some ⟨w.heap.size, 0, none⟩) s.size c s.data.toList → w'.heap.size = w.heap.size + 1 → wpList Tryd.prog ops Q rest (a.put o.dst (.slice (some ⟨w.heap.size, 0, none⟩) s.size c)) w') : wpList Tryd.prog ops Q (o :: rest) a w := by
  refine wpList_plain hgd fun K hK => ?_
  have hrun := run_bytes_of_string (P := Tryd.prog) w 9 23 5 s Tryd.underlying9 Tryd.underlying23 Tryd.underlying5
  unfold Oper.wp execOp
  simp only [ho, hx]
  rw [Sem.run_bind, hrun]
  simp only [Result.andThen_ok, Sem.run_pure]
  refine hK _ _ (h _ _ ?_ ?_ ?_)
  · exact ((Below.refl _ w).drew).alloc (Nat.le_refl _) _
  · have hc := grownCap_ge w s.size 0 5
    have hm := grownCap_le_maxLen w s.size 0 5 (by unfold maxLen; omega)
    refine ⟨Array.length_toList.symm, hc, by simpa [maxLen] using hm, hlm, fun _ => ⟨_, _, rfl, by simp, fun i hi => ?_⟩⟩
    have hh := heap_alloc_new w.drew (.cells (bytesRow s (grownCap w s.size 0 5)) 5 ((bytesRow s (grownCap w s.size 0 5)).size, (bytesRow s (grownCap w s.size 0 5)).size + 1))
    have hd : w.drew.heap.size = w.heap.size := rfl
    rw [hd] at hh
    simp only [World.cell?, hh, Nat.zero_add, Option.isSome_none, Bool.false_eq_true, if_false]
    exact bytesRow_get s _ i hi
  · simp

theorem T3.frozen {W : World} {z : Nat} {v0 v1 v2 : Value} (h : T3 W z v0 v1 v2) : W.frozen? ⟨z, 0, none⟩ = false ∧ W.frozen? ⟨z, 1, none⟩ = false ∧ W.frozen? ⟨z, 2, none⟩ = false := by
  unfold T3 at h; simp [World.frozen?, h]

set_option maxRecDepth 100000 in
/-- The law's turn: of three strings. -/
theorem turn_any (s0 s1 s2 : ByteArray) (w : World) (h0 : s0.size ≤ 140737488355328) (h1 : s1.size ≤ 140737488355328) (h2 : s2.size ≤ 140737488355328) :
    Calls Tryd.prog 25 #[.string s0, .string s1, .string s2] w fun e w' => (∃ b0 b1 b2 c0 c1 c2, e = .returned (.agg #[.slice (some ⟨b0, 0, none⟩) s0.size c0, .slice (some ⟨b1, 0, none⟩) s1.size c1, .slice (some ⟨b2, 0, none⟩) s2.size c2]) ∧
      w.heap.size ≤ b0 ∧ w.heap.size ≤ b1 ∧ w.heap.size ≤ b2 ∧
      RB w'.heap.size w' (some ⟨b0, 0, none⟩) s0.size c0 s0.data.toList ∧ RB w'.heap.size w' (some ⟨b1, 0, none⟩) s1.size c1 s1.data.toList ∧ RB w'.heap.size w' (some ⟨b2, 0, none⟩) s2.size c2 s2.data.toList) ∧ Below w.heap.size w w' := by
  go_enter Tryd.func25, Tryd.ntmps25
  go_wp2_with (with_reducible refine wpList_str_bytes rfl _ rfl s0 rfl h0 ?_)
  intro c0 w1 hb1 hr1 hs1
  have h30 := heap_alloc_new w (.cells #[.slice none 0 0, .slice none 0 0, .slice none 0 0] 30)
  have hA : (w.alloc (.cells #[.slice none 0 0, .slice none 0 0, .slice none 0 0] 30)).heap.size = w.heap.size + 1 := by simp
  have Hb0 := Lib.hid ((Below.refl _ w).alloc (Nat.le_refl _) (.cells #[.slice none 0 0, .slice none 0 0, .slice none 0 0] 30))
  have ht1 : T3 w1 w.heap.size _ _ _ := (hb1.block w.heap.size (by omega)).trans h30
  have Hb1 := Lib.hid (Hb0.out.trans (hb1.mono (by omega)))
  have Ht1 := Lib.hid ht1
  have Hr1 := Lib.hid hr1
  have Hs1 := Lib.hid hs1
  clear hb1 hr1 hs1 ht1
  go_wp2_with (with_reducible refine wpList_str_bytes rfl _ rfl s1 rfl h1 ?_)
  intro c1 w2 hb2 hr2 hs2
  have Hb2 := Lib.hid (Hb1.out.trans (hb2.mono (by have := Hs1.out; omega)))
  have Ht2 := Lib.hid (Ht1.out.below hb2 (by have := Hs1.out; omega))
  have Hr1' := Lib.hid (Hr1.out.below hb2)
  have Hr2 := Lib.hid hr2
  have Hs2 := Lib.hid hs2
  clear hb2 hr2 hs2
  go_wp2_with (with_reducible refine wpList_str_bytes rfl _ rfl s2 rfl h2 ?_)
  intro c2 w3 hb3 hr3 hs3
  have Hb3 := Lib.hid (Hb2.out.trans (hb3.mono (by have := Hs1.out; have := Hs2.out; omega)))
  have ht3 := Ht2.out.below hb3 (by have := Hs1.out; have := Hs2.out; omega)
  have Hr1'' := Lib.hid (Hr1'.out.below (hb3.mono (by have := Hs2.out; omega)))
  have Hn3 := Lib.hid (show w3.heap.size = w2.heap.size + 1 from hs3)
  have Hr2' := Lib.hid (Hr2.out.below hb3)
  have Hr3 := Lib.hid hr3
  have Hs3 := Lib.hid hs3
  clear hb3 hr3 hs3
  obtain ⟨z0, z1, z2⟩ := ht3.cells
  obtain ⟨f0, f1, f2⟩ := ht3.frozen
  go_wp2
  refine bodyPost_ret (v := .agg #[.slice (some ⟨w.heap.size + 1, 0, none⟩) s0.size c0, .slice (some ⟨w1.heap.size, 0, none⟩) s1.size c1, .slice (some ⟨w2.heap.size, 0, none⟩) s2.size c2]) (by simp [results, Tryd.f25, go_sem, z0, z1, z2]) rfl ?_
  have hs1 := Hs1.out
  have hs2 := Hs2.out
  have hs3 := Hn3.out
  have hbw := ((((Hb3.out.setCell (p := ⟨w.heap.size, 0, none⟩) (Nat.le_refl _) (.slice (some ⟨w.heap.size + 1, 0, none⟩) s0.size c0)).setCell (p := ⟨w.heap.size, 1, none⟩) (Nat.le_refl _) (.slice (some ⟨w1.heap.size, 0, none⟩) s1.size c1)).setCell (p := ⟨w.heap.size, 2, none⟩) (Nat.le_refl _) (.slice (some ⟨w2.heap.size, 0, none⟩) s2.size c2)))
  have hm := ((Mod.set w.heap.size ((Mod.set w.heap.size ((Mod.set w.heap.size (Mod.refl w.heap.size w3) 0 (.slice (some ⟨w.heap.size + 1, 0, none⟩) s0.size c0))) 1 (.slice (some ⟨w1.heap.size, 0, none⟩) s1.size c1))) 2 (.slice (some ⟨w2.heap.size, 0, none⟩) s2.size c2)))
  refine ⟨⟨_, _, _, _, _, _, rfl, by omega, by omega, by omega, ?_, ?_, ?_⟩, hbw⟩
  · exact (RBn.mod (B := w3.heap.size) ⟨Hr1''.out.mono (by omega), fun _ b o s e => by cases e; omega⟩ hm (Nat.le_refl _)).rb.mono hm.size
  · exact (RBn.mod (B := w3.heap.size) ⟨Hr2'.out.mono (by omega), fun _ b o s e => by cases e; omega⟩ hm (Nat.le_refl _)).rb.mono hm.size
  · exact (RBn.mod (B := w3.heap.size) ⟨Hr3.out, fun _ b o s e => by cases e; omega⟩ hm (Nat.le_refl _)).rb.mono hm.size

def longB (k o n : Nat) : Bool := decide (5000 < k + o + n)
set_option maxRecDepth 100000 in
theorem long_any (v0 v1 v2 v6 : Value) (ka oa na : Option Addr) (kn kc on oc nn nc : Nat) (w : World) (hk : kn ≤ 140737488355328) (ho : on ≤ 140737488355328) (hn : nn ≤ 140737488355328) :
    Calls Tryd.prog 8 #[.agg #[v0, v1, v2, .slice ka kn kc, .slice oa on oc, .slice na nn nc, v6]] w fun e w' => e = .returned (.bool (longB kn on nn)) ∧ Below w.heap.size w w' := by
  go_enter Tryd.func8, Tryd.ntmps8
  go_wp2
  go_ret
  exact ⟨by unfold longB; congr 2; simp; omega, (Below.refl _ w).alloc (Nat.le_refl _) _⟩
end Go.Proofs.YtbinikbgbgggaaaDoor
