/- Maps keyed by texts, as functions. -/
import Derived.Test.YthlmnoggeggpkaaBase
import Derived.Test.YthlmnoggeggpkaaKLook
import Derived.Maps.OwnSet
import Derived.Maps.Views
import Derived.WideKeyArgs2
import Derived.OwnWalk
import Derived.Sort.EncStr
namespace Go.Proofs.Ythlmnoggeggpkaa
open Go.RowKit Go.Maps

/-- Each element reads as itself. -/
def RVal (v : Value) : Option (DataW Value × List MemPlace) := some (.held v, [])
/-- Block b is a map keyed by texts, of at most n entries: at each text it gives f (z: what it gives where there is nothing). -/
def MF (w : World) (b n : Nat) (z : Value) (f : List UInt8 → Value) : Prop := ∃ D, w.ownsMap Try.prog 9 RVal b n D ∧ (∀ s, D.atKey (.string s) (.held z) = .held (f s)) ∧ ∀ s, Maps.has D (.string s) = true ↔ f s ≠ z
theorem skey : Keyed Try.prog 9 := string_keyed Try.underlying9
theorem skey_of (s : List UInt8) (hs : s.length ≤ 9223372036854775807) : keyOf Try.prog 9 (.string ⟨s.toArray⟩) = some (.string s) := by
  have h := WideMaps.keyOf_string_mk (s := ⟨s.toArray⟩) Try.underlying9 (by simpa [ByteArray.size, maxLen] using hs)
  simpa using h
theorem MF.made (w : World) (z : Value) : MF (w.alloc (.map #[] 0)) w.heap.size 0 z (fun _ => z) := ⟨_, World.ownsMap_made _ _ _ _, fun _ => rfl, fun s => Iff.intro (fun h => by simp [Maps.has] at h) (fun h => absurd rfl h)⟩
section
variable {w w' : World} {b n : Nat} {z : Value} {f : List UInt8 → Value}
theorem MF.lt (h : MF w b n z f) : b < w.heap.size := by
  obtain ⟨D, h1, -⟩ := h
  exact h1.lt
theorem MF.kept (h : MF w b n z f) {row : Option Nat} (hg : w.grownBy w' row) (hne : some b ≠ row) : MF w' b n z f := by
  obtain ⟨D, h1, h2⟩ := h
  exact ⟨D, h1.kept hg hne, h2⟩
theorem MF.block (h : MF w b n z f) (hb : w'.heap[b]? = w.heap[b]?) : MF w' b n z f := by
  obtain ⟨D, ⟨es, clock, h1, h2⟩, h3⟩ := h
  exact ⟨D, ⟨es, clock, hb.trans h1, h2⟩, h3⟩
theorem MF.below (h : MF w b n z f) {B : Nat} (hb : Below B w w') (hB : b < B) : MF w' b n z f := h.block (hb.block b hB)
theorem MF.mono (h : MF w b n z f) {n' : Nat} (hn : n ≤ n') : MF w b n' z f := by
  obtain ⟨D, h1, h2⟩ := h
  exact ⟨D, h1.mono hn, h2⟩
theorem MF.look (h : MF w b n z f) {t e : TypeId} (ht : Try.prog.underlying t = some (.map 9 e)) (hz : (zeroValue e).run Try.prog w = .ok z w) (s : List UInt8) (hs : s.length ≤ 9223372036854775807) :
    (Instr.lookup t (.map (some b)) (.string ⟨s.toArray⟩) false).run Try.prog w = .ok (f s) w := by
  obtain ⟨D, h1, h2, -⟩ := h
  obtain ⟨v, ps, hrun, hv⟩ := h1.lookup skey ht hz (zd := .held z) (zp := []) rfl (skey_of s hs)
  rw [h2 s] at hv
  cases hv
  exact hrun
theorem MF.put (h : MF w b n z f) {t e : TypeId} (ht : Try.prog.underlying t = some (.map 9 e)) (hn : n < 9223372036854775807) (s : List UInt8) (hs : s.length ≤ 9223372036854775807) (v : Value) (hne : v ≠ z) :
    ∃ w', (Instr.mapUpdate t (.map (some b)) (.string ⟨s.toArray⟩) v).run Try.prog w = .ok () w' ∧ MF w' b (n + 1) z (setO f s v) ∧ w.grownBy w' (some b) := by
  obtain ⟨D, h1, h2, h3⟩ := h
  obtain ⟨w', hrun, r1, r2⟩ := h1.update skey ht (by simpa [maxLen] using hn) (skey_of s hs) (val := v) (d := .held v) (ps := []) rfl
  refine ⟨w', hrun, ⟨_, r1, fun x => ?_, fun x => ?_⟩, r2⟩
  · by_cases e : x = s
    · subst e
      rw [atKey_put_same h1.isMap (show WideAt.IsKeyLit (.string x) by trivial), setO_same]
    · rw [atKey_put_other (fun e2 => e (by cases e2; rfl)), h2, setO_other _ e]
  · by_cases e : x = s
    · subst e
      rw [has_put_same h1.isMap (show WideAt.IsKeyLit (.string x) by trivial), setO_same]
      exact ⟨fun _ => hne, fun _ => rfl⟩
    · rw [has_put_other (fun e2 => e (by cases e2; rfl)), h3, setO_other _ e]
end
theorem wpList_put_mf {w : World} {ops : Array Oper} {rest : List Oper} {o : Oper} {a : Act} {Q : Exit → Act → World → Prop} (hgd : o.guard = none) (m x v : Operand) (t : TypeId) (ho : o.op = .mapUpdate t m x v) {e : TypeId}
    (ht : Try.prog.underlying t = some (.map 9 e)) {b n : Nat} {z : Value} {f : List UInt8 → Value} (h : MF w b n z f) (hn : n < 9223372036854775807) (s : List UInt8) (val : Value) (hm : a.eval m = .map (some b)) (hx : a.eval x = .string ⟨s.toArray⟩) (hv : a.eval v = val) (hs : s.length ≤ 9223372036854775807) (hne : val ≠ z)
    (hK : ∀ w', MF w' b (n + 1) z (setO f s val) → w.grownBy w' (some b) → wpList Try.prog ops Q rest (a.put o.dst undef) w') : wpList Try.prog ops Q (o :: rest) a w := by
  refine wpList_plain hgd fun K' hK' => ?_
  obtain ⟨w', hrun, r1, r2⟩ := h.put ht hn s hs val hne
  unfold Oper.wp
  simp [execOp, ho, hm, hx, hv, hrun, Result.andThen]
  exact hK' _ _ (hK w' r1 r2)
theorem zeroInt (w : World) : (zeroValue 3).run Try.prog w = .ok (.int .i64 0) w := by kernel_rfl
def zItem : Value := .agg #[.string ⟨#[]⟩, .int .i64 0, .slice none 0 0, .slice none 0 0]
theorem zeroItem (w : World) : (zeroValue 32).run Try.prog w = .ok zItem w := by kernel_rfl
end Go.Proofs.Ythlmnoggeggpkaa
