/- Maps keyed by numbers, as functions, and what they have; struck, cleared, gone through. The disk: what it has, what its operations make of it (plain), and how it stands in memory. -/
import Derived.Test.YtohlkkannjifmaaGreatDoorPageA
import Derived.Maps.RangeWalk
import Derived.WideKeyArgs2
import Derived.OwnWalk
import Derived.Deep.MidRow
import Derived.Deep.WholeRow
namespace Go.Proofs.YtohlkkannjifmaaGreatDoor
open Go.RowKit Go.Maps Go.ChangeMaps Go.MapKept Go.WideShapes

/-- Each element reads as itself. -/
def RVal (v : Value) : Option (DataW Value × List MemPlace) := some (.held v, [])
def updV (f : Int → Value) (i : Int) (v : Value) : Int → Value := fun j => if j = i then v else f j
theorem ikey : Keyed Tryz.prog 3 := int_keyed Tryz.underlying3
theorem ikey_of (s : Int) (h1 : -9223372036854775808 ≤ s) (h2 : s ≤ 9223372036854775807) : keyOf Tryz.prog 3 (.int .i64 s) = some (.int .i64 s) :=
  keyOf_int_mk Tryz.underlying3 (by
    have e1 : IntKind.i64.min = -9223372036854775808 := by decide
    have e2 : IntKind.i64.max = 9223372036854775807 := by decide
    simp only [Lit.wf, Bool.and_eq_true, decide_eq_true_eq, e1, e2]
    exact ⟨h1, h2⟩)
theorem sameKey_int (s x : Int) : (Lit.int .i64 s).sameKey (.int .i64 x) = decide (s = x) := decide_eq_decide.2 ⟨And.right, fun h => ⟨rfl, h⟩⟩
/-- Block b is a map keyed by numbers, of at most n entries: it gives f (z where there is nothing), and has what g says. -/
def MH (w : World) (b n : Nat) (z : Value) (f : Int → Value) (g : Int → Bool) : Prop := ∃ D, w.ownsMap Tryz.prog 3 RVal b n D ∧ (∀ s, D.atKey (.int .i64 s) (.held z) = .held (f s)) ∧ ∀ s, Maps.has D (.int .i64 s) = g s
theorem MH.made (w : World) (z : Value) : MH (w.alloc (.map #[] 0)) w.heap.size 0 z (fun _ => z) (fun _ => false) := ⟨_, World.ownsMap_made _ _ _ _, fun _ => rfl, fun _ => rfl⟩
section
variable {w w' : World} {b n : Nat} {z : Value} {f : Int → Value} {g : Int → Bool}
theorem MH.lt (h : MH w b n z f g) : b < w.heap.size := by
  obtain ⟨D, h1, -⟩ := h
  exact h1.lt
theorem MH.block (h : MH w b n z f g) (hb : w'.heap[b]? = w.heap[b]?) : MH w' b n z f g := by
  obtain ⟨D, ⟨es, clock, h1, h2⟩, h3⟩ := h
  exact ⟨D, ⟨es, clock, hb.trans h1, h2⟩, h3⟩
theorem MH.mono (h : MH w b n z f g) {n' : Nat} (hn : n ≤ n') : MH w b n' z f g := by
  obtain ⟨D, h1, h2⟩ := h
  exact ⟨D, h1.mono hn, h2⟩
theorem MH.off (h : MH w b n z f g) {s : Int} (hs : g s = false) : f s = z := by
  obtain ⟨D, h1, h2, h3⟩ := h
  have e := atKey_of_not_has ((h3 s).trans hs) (.held z)
  rw [h2] at e
  exact DataW.held.inj e
theorem MH.lookOk (h : MH w b n z f g) {t e : TypeId} (ht : Tryz.prog.underlying t = some (.map 3 e)) (hz : (zeroValue e).run Tryz.prog w = .ok z w) (s : Int) (h1 : -9223372036854775808 ≤ s) (h2 : s ≤ 9223372036854775807) :
    (Instr.lookup t (.map (some b)) (.int .i64 s) true).run Tryz.prog w = .ok (.tuple #[f s, .bool (g s)]) w := by
  obtain ⟨D, h3, h4, h5⟩ := h
  obtain ⟨v, ps, hrun, hv⟩ := h3.look_ok ikey ht hz (zd := .held z) (zp := []) rfl (ikey_of s h1 h2)
  rw [h4 s] at hv
  cases hv
  rw [h5 s] at hrun
  exact hrun
theorem MH.look (h : MH w b n z f g) {t e : TypeId} (ht : Tryz.prog.underlying t = some (.map 3 e)) (hz : (zeroValue e).run Tryz.prog w = .ok z w) (s : Int) (h1 : -9223372036854775808 ≤ s) (h2 : s ≤ 9223372036854775807) :
    (Instr.lookup t (.map (some b)) (.int .i64 s) false).run Tryz.prog w = .ok (f s) w := by
  obtain ⟨D, h3, h4, -⟩ := h
  obtain ⟨v, ps, hrun, hv⟩ := h3.lookup ikey ht hz (zd := .held z) (zp := []) rfl (ikey_of s h1 h2)
  rw [h4 s] at hv
  cases hv
  exact hrun
theorem MH.put (h : MH w b n z f g) {t e : TypeId} (ht : Tryz.prog.underlying t = some (.map 3 e)) (hn : n < 9223372036854775807) (s : Int) (h1 : -9223372036854775808 ≤ s) (h2 : s ≤ 9223372036854775807) (v : Value) :
    ∃ w', (Instr.mapUpdate t (.map (some b)) (.int .i64 s) v).run Tryz.prog w = .ok () w' ∧ MH w' b (n + 1) z (updV f s v) (fun x => if x = s then true else g x) ∧ w.grownBy w' (some b) := by
  obtain ⟨D, h3, h4, h5⟩ := h
  obtain ⟨w', hrun, r1, r2⟩ := h3.update ikey ht (by simpa [maxLen] using hn) (ikey_of s h1 h2) (val := v) (d := .held v) (ps := []) rfl
  refine ⟨w', hrun, ⟨_, r1, fun x => ?_, fun x => ?_⟩, r2⟩
  · by_cases e : x = s
    · subst e
      rw [atKey_put_same h3.isMap (show WideAt.IsKeyLit (.int .i64 x) by trivial)]
      simp [updV]
    · rw [atKey_put_other (fun e2 => e (by cases e2; rfl)), h4]
      simp [updV, e]
  · by_cases e : x = s
    · subst e
      rw [has_put_same h3.isMap (show WideAt.IsKeyLit (.int .i64 x) by trivial)]
      exact (if_pos rfl).symm
    · rw [has_put_other (fun e2 => e (by cases e2; rfl)), h5]
      exact (if_neg e).symm
theorem MH.del (h : MH w b n z f g) {t e : TypeId} (ht : Tryz.prog.underlying t = some (.map 3 e)) (s : Int) (h1 : -9223372036854775808 ≤ s) (h2 : s ≤ 9223372036854775807) (ty : TypeId) :
    ∃ w', (Builtin.delete_ #[t, 3] ty #[.map (some b), .int .i64 s]).run Tryz.prog w = .ok (.tuple #[]) w' ∧ MH w' b n z (updV f s z) (fun x => if x = s then false else g x) ∧ w.grownBy w' (some b) := by
  obtain ⟨D, h3, h4, h5⟩ := h
  obtain ⟨w', hrun, r1, r2⟩ := h3.drop ikey ht (ikey_of s h1 h2) ty
  refine ⟨w', hrun, ⟨_, r1, fun x => ?_, fun x => ?_⟩, r2.grown⟩
  · by_cases e : x = s
    · subst e
      rw [atKey_del_same]
      simp [updV]
    · rw [atKey_del_other (fun e2 => e (by cases e2; rfl)), h4]
      simp [updV, e]
  · by_cases e : x = s
    · subst e
      rw [has_del_same]
      exact (if_pos rfl).symm
    · rw [has_del_other (fun e2 => e (by cases e2; rfl)), h5]
      exact (if_neg e).symm
theorem MH.clear (h : MH w b n z f g) {t e : TypeId} (ht : Tryz.prog.underlying t = some (.map 3 e)) (ty : TypeId) :
    ∃ w', (Builtin.clear_ #[t] ty #[.map (some b)]).run Tryz.prog w = .ok (.tuple #[]) w' ∧ MH w' b 0 z (fun _ => z) (fun _ => false) ∧ w.grownBy w' (some b) := by
  obtain ⟨D, ⟨es, clock, hb, F, hs, rfl⟩, h4, h5⟩ := h
  have hrun : (Builtin.clear_ #[t] ty #[.map (some b)]).run Tryz.prog w = .ok (.tuple #[]) (setBlock w b (.map #[] clock)) := by
    simp [Builtin.clear_, run_underlying ht, Go.MapKept.run_getObj_map hb, Go.MapKept.run_setObj_map _ hb, Result.andThen, setBlock]
  refine ⟨_, hrun, ⟨_, ⟨#[], clock, heap_setBlock_same hb _, ⟨by simp, stamped_empty _, by simp⟩, Nat.le_refl _, rfl⟩, fun _ => rfl, fun _ => rfl⟩, ⟨rfl, rfl, rfl, by simp [setBlock], fun i _ hi => heap_setBlock_other hb _ (fun e => hi (by rw [e]))⟩⟩
end
/-- A loop over the map in block b is under way, its place kept in block r: what is still to come is told by lf. -/
def MR (w : World) (b r n : Nat) (z : Value) (f : Int → Value) (g lf : Int → Bool) (cnt : Nat) : Prop :=
  ∃ D left, w.ranges Tryz.prog 3 RVal b r n D left cnt ∧ (∀ s, D.atKey (.int .i64 s) (.held z) = .held (f s)) ∧ (∀ s, Maps.has D (.int .i64 s) = g s) ∧ ∀ s, left (.int .i64 s) = lf s
section
variable {w w' : World} {b r n cnt : Nat} {z : Value} {f : Int → Value} {g lf : Int → Bool}
theorem MR.left_eq (h : MR w b r n z f g lf cnt) : w.rangeLeft b r = cnt := by
  obtain ⟨D, left, h1, -⟩ := h
  exact h1.left_eq
theorem MR.next (h : MR w b r n z f g lf cnt) (ty : TypeId) :
    ((∀ s, lf s = false) ∧ (Instr.next (.pointer (some ⟨r, 0, none⟩)) false ty).run Tryz.prog w = .ok (.tuple #[.bool false]) w) ∨
    ∃ x w' cnt', -9223372036854775808 ≤ x ∧ x ≤ 9223372036854775807 ∧ lf x = true ∧ (Instr.next (.pointer (some ⟨r, 0, none⟩)) false ty).run Tryz.prog w = .ok (.tuple #[.bool true, .int .i64 x, f x]) w' ∧
      MR w' b r n z f g (fun s => lf s && !decide (s = x)) cnt' ∧ cnt' < cnt ∧ w.grownBy w' (some r) ∧ w'.heap.size = w.heap.size ∧ (Instr.entry (.pointer (some ⟨r, 0, none⟩))).run Tryz.prog w' = .ok (.tuple #[.int .i64 x, f x]) w' := by
  obtain ⟨D, left, h1, h2, h3, h4⟩ := h
  rcases h1.next ikey ty with ⟨-, hl, hrun⟩ | ⟨key, v, kl, y, w', cnt', hkey, hlk, hv, hat, hrun, hrg, hlt, hg, hs, hen⟩
  · exact .inl ⟨fun s => by rw [← h4]; exact hl _, hrun⟩
  · obtain ⟨x, rfl, rfl, hw⟩ := Maps.keyOf_int_inv Tryz.underlying3 hkey
    cases hv
    have e2 := hat (.held z)
    rw [h2] at e2
    cases e2
    have e3 : IntKind.i64.min = -9223372036854775808 := by decide
    have e4 : IntKind.i64.max = 9223372036854775807 := by decide
    simp only [Lit.wf, Bool.and_eq_true, decide_eq_true_eq, e3, e4] at hw
    exact .inr ⟨x, w', cnt', hw.1, hw.2, by rw [← h4]; exact hlk, hrun, ⟨D, _, hrg, h2, h3, fun s => by
      show (left (.int .i64 s) && !(Lit.int .i64 s).sameKey (.int .i64 x)) = _
      rw [h4, sameKey_int]⟩, hlt, hg, hs, hen⟩
theorem MR.mh (h : MR w b r n z f g lf cnt) : MH w b n z f g := by
  obtain ⟨D, left, h1, h2, h3, -⟩ := h
  exact ⟨D, h1.owns, h2, h3⟩
theorem MR.kept (h : MR w b r n z f g lf cnt) {row : Option Nat} (hg : w.grownBy w' row) (hb : some b ≠ row) (hr : some r ≠ row) : MR w' b r n z f g lf cnt := by
  obtain ⟨D, left, h1, h2⟩ := h
  exact ⟨D, left, h1.kept hg hb hr, h2⟩
theorem MR.alloc (h : MR w b r n z f g lf cnt) (o : Obj) : MR (w.alloc o) b r n z f g lf cnt := h.kept (World.grownBy_alloc w o none) (by simp) (by simp)
theorem MR.lt (h : MR w b r n z f g lf cnt) : r < w.heap.size := by
  obtain ⟨D, left, h1, -⟩ := h
  exact h1.lt
theorem MR.ne (h : MR w b r n z f g lf cnt) : r ≠ b := by
  obtain ⟨D, left, h1, -⟩ := h
  exact h1.ne
end
section
variable {w : World} {ops : Array Oper} {rest : List Oper} {o : Oper} {a : Act} {Q : Exit → Act → World → Prop}
theorem wpList_range_mh (hgd : o.guard = none) (m : Operand) (t : TypeId) (ho : o.op = .range t m) {e : TypeId} (ht : Tryz.prog.underlying t = some (.map 3 e)) {b n : Nat} {z : Value} {f : Int → Value} {g : Int → Bool}
    (h : MH w b n z f g) (hm : a.eval m = .map (some b))
    (hK : ∀ w' cnt, cnt ≤ n → MR w' b w.heap.size n z f g g cnt → w.grownBy w' none → w'.heap.size = w.heap.size + 1 → wpList Tryz.prog ops Q rest (a.put o.dst (.pointer (some ⟨w.heap.size, 0, none⟩))) w') : wpList Tryz.prog ops Q (o :: rest) a w := by
  obtain ⟨D, h3, h4, h5⟩ := h
  exact wpList_range_own w hgd m t ho _ e ikey ht RVal b n D hm h3 fun w' hr hg hs => hK w' _ h3.size_le ⟨D, _, hr, h4, h5, h5⟩ hg hs
theorem wpList_put_mh (hgd : o.guard = none) (m x v : Operand) (t : TypeId) (ho : o.op = .mapUpdate t m x v) {e : TypeId}
    (ht : Tryz.prog.underlying t = some (.map 3 e)) {b n : Nat} {z : Value} {f : Int → Value} {g : Int → Bool} (h : MH w b n z f g) (hn : n < 9223372036854775807) (s : Int) (val : Value) (hm : a.eval m = .map (some b)) (hx : a.eval x = .int .i64 s) (hv : a.eval v = val) (h1 : -9223372036854775808 ≤ s) (h2 : s ≤ 9223372036854775807)
    (hK : ∀ w', MH w' b (n + 1) z (updV f s val) (fun x => if x = s then true else g x) → w.grownBy w' (some b) → wpList Tryz.prog ops Q rest (a.put o.dst undef) w') : wpList Tryz.prog ops Q (o :: rest) a w := by
  refine wpList_plain hgd fun K' hK' => ?_
  obtain ⟨w', hrun, r1, r2⟩ := h.put ht hn s h1 h2 val
  unfold Oper.wp
  simp [execOp, ho, hm, hx, hv, hrun, Result.andThen]
  exact hK' _ _ (hK w' r1 r2)
end
end Go.Proofs.YtohlkkannjifmaaGreatDoor
namespace Go.Proofs.YtohlkkannjifmaaGreatDoor
open Go.RowKit

/-- Nothing that lay has turned, but for the blocks that S tells. -/
structure Trn (S : Nat → Prop) (w w' : World) : Prop where
  os : w'.os = w.os
  tape : w'.tape = w.tape
  output : w'.output = w.output
  size : w.heap.size ≤ w'.heap.size
  block : ∀ k, k < w.heap.size → ¬ S k → w'.heap[k]? = w.heap[k]?
theorem Trn.refl (S : Nat → Prop) (w : World) : Trn S w w := ⟨rfl, rfl, rfl, Nat.le_refl _, fun _ _ _ => rfl⟩
theorem Trn.trans {S T : Nat → Prop} {a b c : World} (h : Trn S a b) (k : Trn T b c) (hT : ∀ i, T i → S i ∨ a.heap.size ≤ i) : Trn S a c :=
  ⟨k.os.trans h.os, k.tape.trans h.tape, k.output.trans h.output, Nat.le_trans h.size k.size, fun i hi hn => (k.block i (Nat.lt_of_lt_of_le hi h.size) (fun ht => by rcases hT i ht with h1 | h1; exact hn h1; omega)).trans (h.block i hi hn)⟩
theorem Trn.mono {S T : Nat → Prop} {a b : World} (h : Trn S a b) (hS : ∀ i, S i → T i ∨ a.heap.size ≤ i) : Trn T a b :=
  ⟨h.os, h.tape, h.output, h.size, fun i hi hn => h.block i hi (fun hs => by rcases hS i hs with h1 | h1; exact hn h1; omega)⟩
theorem Trn.then {S : Nat → Prop} {a b c : World} (h : Trn S a b) (k : Trn S b c) : Trn S a c := h.trans k fun _ hi => .inl hi
theorem Trn.grown {S : Nat → Prop} {a b c : World} {row : Option Nat} (h : Trn S a b) (k : b.grownBy c row) (hr : ∀ i, row = some i → S i ∨ a.heap.size ≤ i) : Trn S a c :=
  h.trans (T := fun i => row = some i) ⟨k.os, k.tape, k.output, k.size, fun i hi hn => k.block i hi (fun e => hn e.symm)⟩ hr
theorem Trn.below {S : Nat → Prop} {a b c : World} {B : Nat} (h : Trn S a b) (k : Below B b c) (hB : a.heap.size ≤ B) : Trn S a c :=
  h.trans (T := fun i => B ≤ i) ⟨k.os, k.tape, k.output, k.size, fun i _ hn => k.block i (by simpa using hn)⟩ fun _ hi => .inr (Nat.le_trans hB hi)
theorem Trn.alloc {S : Nat → Prop} {a b : World} (h : Trn S a b) (o : Obj) : Trn S a (b.alloc o) := h.grown (World.grownBy_alloc b o none) (by simp)
theorem Trn.drew {S : Nat → Prop} {a b : World} (h : Trn S a b) : Trn S a b.drew := ⟨h.os, h.tape, h.output, h.size, h.block⟩
theorem Trn.drewN {S : Nat → Prop} {a b : World} (h : Trn S a b) (q : Nat) : Trn S a (b.drewN q) := ⟨h.os, h.tape, h.output, h.size, h.block⟩
theorem Trn.set {S : Nat → Prop} {a b : World} (h : Trn S a b) (g i : Nat) (v : Value) (hg : S g ∨ a.heap.size ≤ g) : Trn S a (b.setCell ⟨g, i, none⟩ v) :=
  h.grown (row := some g) ⟨rfl, rfl, rfl, by simp [World.setCell], fun k hk hne => Below.heap_setCell b ⟨g, i, none⟩ v k (fun e => hne (by rw [e]))⟩ (fun j e => by cases e; exact hg)
theorem Trn.out {S : Nat → Prop} {a b : World} (h : Trn S a b) {B : Nat} (hB : ∀ i, S i → B ≤ i) (hs : B ≤ a.heap.size) : Below B a b := ⟨h.os, h.tape, h.output, h.size, fun i hi => h.block i (by omega) (fun hS => by have := hB i hS; omega)⟩
theorem RB.of_block {B : Nat} {w w' : World} {a : Option Addr} {n c : Nat} {l : List UInt8} (h : RB B w a n c l) (hb : ∀ b o s, a = some ⟨b, o, s⟩ → 0 < c → b < B → w'.heap[b]? = w.heap[b]?) : RB B w' a n c l :=
  ⟨h.len, h.le, h.mx, h.lm, fun hc => by
    obtain ⟨b, o, rfl, hB, hcell⟩ := h.at_ hc
    exact ⟨b, o, rfl, hB, fun i hi => (World.cell?_of_block (w := w) (hb b o none rfl hc hB)).trans (hcell i hi)⟩⟩

/-- A sector of noughts. -/
def zB : List UInt8 := List.replicate 512 0
theorem zB_len : zB.length = 512 := List.length_replicate ..
/-- A sector's bytes, as cells, as a value. -/
def cellsB (l : List UInt8) : Array Value := (l.map bv).toArray
theorem cellsB_size (l : List UInt8) : (cellsB l).size = l.length := by unfold cellsB; rw [List.size_toArray, List.length_map]
def arrV (l : List UInt8) : Value := .agg (cellsB l)
theorem Tryz.infoSector : (Tryz.prog.info? 163).map (fun i => (i.zero, i.size)) = some (some (arrV zB), 512) := by kernel_rfl
theorem zero_sector (w : World) : (zeroValue 163).run Tryz.prog w = .ok (arrV zB) w := (zero_of_info Tryz.infoSector).1 w
theorem size_sector : (Tryz.prog.info? 163).map (·.size) = some 512 := (zero_of_info Tryz.infoSector).2

/-- What a disk has: its sectors' safe bytes, those that are open, when it crashes, whether it is down. -/
structure DK where
  n : Int
  sf : Int → List UInt8
  op : Int → Option (List UInt8)
  armed : Int
  down : Bool
def DK.latest (K : DK) (i : Int) : List UInt8 := (K.op i).getD (K.sf i)
def DK.may (K : DK) (i : Int) : Int := if K.down then 8 else if i < 0 ∨ K.n ≤ i then 6 else 0
def DK.crash (K : DK) : DK := if 0 < K.armed then { K with armed := K.armed - 1, down := decide (K.armed - 1 = 0) } else K
def DK.put (K : DK) (i : Int) (b : List UInt8) : DK := { K with op := fun j => if j = i then some b else K.op j }
def DK.shut (K : DK) : DK := { K with sf := K.latest, op := fun _ => none }
def DK.write (K : DK) (i : Int) (b : List UInt8) : Int × DK :=
  if K.may i ≠ 0 then (K.may i, K) else if b.length ≠ 512 then (2, K) else (if (K.put i b).crash.down then 8 else 0, (K.put i b).crash)
def DK.sync (K : DK) : Int × DK := if K.may 0 ≠ 0 then (K.may 0, K) else if K.crash.down then (8, K.crash) else (0, K.crash.shut)
def DK.fresh (n : Int) : DK := ⟨n, fun _ => zB, fun _ => none, 0, false⟩
structure DK.Ok (K : DK) : Prop where
  n1 : 1 ≤ K.n
  n2 : K.n ≤ 8192
  a1 : 0 ≤ K.armed
  a2 : K.armed ≤ 9223372036854775807
  sl : ∀ i, (K.sf i).length = 512
  ol : ∀ i l, K.op i = some l → l.length = 512
theorem DK.Ok.latest {K : DK} (h : K.Ok) (i : Int) : (K.latest i).length = 512 := by
  unfold DK.latest
  cases e : K.op i with
  | none => exact h.sl i
  | some l => exact h.ol i l e
theorem DK.Ok.crash {K : DK} (h : K.Ok) : K.crash.Ok := by
  have := h.a1
  have := h.a2
  unfold DK.crash
  split
  · exact ⟨h.n1, h.n2, by show 0 ≤ K.armed - 1; omega, by show K.armed - 1 ≤ _; omega, h.sl, h.ol⟩
  · exact h
theorem DK.Ok.put {K : DK} (h : K.Ok) (i : Int) {b : List UInt8} (hb : b.length = 512) : (K.put i b).Ok :=
  ⟨h.n1, h.n2, h.a1, h.a2, h.sl, fun j l e => by
    simp only [DK.put] at e
    split at e
    · cases e; exact hb
    · exact h.ol j l e⟩
theorem DK.Ok.shut {K : DK} (h : K.Ok) : K.shut.Ok := ⟨h.n1, h.n2, h.a1, h.a2, h.latest, fun i l e => by cases e⟩
theorem DK.Ok.fresh {n : Int} (h1 : 1 ≤ n) (h2 : n ≤ 8192) : (DK.fresh n).Ok := ⟨h1, h2, Int.le_refl _, by show (0 : Int) ≤ _; omega, fun _ => zB_len, fun i l e => by cases e⟩
theorem DK.put_latest (K : DK) (i : Int) (b : List UInt8) (j : Int) : (K.put i b).latest j = if j = i then b else K.latest j := by
  unfold DK.latest DK.put
  by_cases e : j = i <;> simp [e]
theorem DK.shut_latest (K : DK) : K.shut.latest = K.latest := by funext i; rfl

/-- The disk in block d, its maps in blocks s and o, which have at most k entries together. -/
structure DiskR (w : World) (d s o k : Nat) (K : DK) : Prop where
  blk : w.heap[d]? = some (.cells #[.int .i64 K.n, .map (some s), .map (some o), .int .i64 K.armed, .bool K.down] 150 (0, 0))
  mm : ∃ ks ko f g f' g', ks + ko ≤ k ∧ MH w s ks (arrV zB) f g ∧ (∀ i, f i = arrV (K.sf i)) ∧ MH w o ko (arrV zB) f' g' ∧ (∀ i, (K.op i).isSome = g' i) ∧ ∀ i l, K.op i = some l → f' i = arrV l
  ok : K.Ok
  sd : s ≠ d
  od : o ≠ d
  so : s ≠ o
/-- The blocks of a disk. -/
def DB (d s o : Nat) (i : Nat) : Prop := i = d ∨ i = s ∨ i = o
theorem DiskR.keep {w w' : World} {d s o k : Nat} {K : DK} (h : DiskR w d s o k K) (hb : ∀ i, DB d s o i → w'.heap[i]? = w.heap[i]?) : DiskR w' d s o k K := by
  obtain ⟨ks, ko, f, g, f', g', h0, h1, h2, h3, h4⟩ := h.mm
  exact ⟨(hb d (.inl rfl)).trans h.blk, ⟨ks, ko, f, g, f', g', h0, h1.block (hb s (.inr (.inl rfl))), h2, h3.block (hb o (.inr (.inr rfl))), h4⟩, h.ok, h.sd, h.od, h.so⟩
theorem DiskR.lt {w : World} {d s o k : Nat} {K : DK} (h : DiskR w d s o k K) {i : Nat} (hi : DB d s o i) : i < w.heap.size := by
  obtain ⟨ks, ko, f, g, f', g', h0, h1, h2, h3, h4⟩ := h.mm
  rcases hi with rfl | rfl | rfl
  · exact (Array.getElem?_eq_some_iff.1 h.blk).1
  · exact h1.lt
  · exact h3.lt
theorem DiskR.mono {w : World} {d s o k k' : Nat} {K : DK} (h : DiskR w d s o k K) (hk : k ≤ k') : DiskR w d s o k' K := by
  obtain ⟨ks, ko, f, g, f', g', h0, h1⟩ := h.mm
  exact ⟨h.blk, ⟨ks, ko, f, g, f', g', by omega, h1⟩, h.ok, h.sd, h.od, h.so⟩
theorem DiskR.cell {w : World} {d s o k : Nat} {K : DK} (h : DiskR w d s o k K) {i : Nat} {v : Value} (hi : (#[Value.int .i64 K.n, .map (some s), .map (some o), .int .i64 K.armed, .bool K.down])[i]? = some v) : w.cell? ⟨d, i, none⟩ = some v := by
  simp [World.cell?, h.blk, hi]
end Go.Proofs.YtohlkkannjifmaaGreatDoor
