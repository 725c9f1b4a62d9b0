/- A region that draws its order, by what stands at each step. Literal lists, laid in whatever order: what stands in each slot. Literal lists, laid in whatever order: one law for each kind of operation. -/
import Derived.Test.YthlmnoggeggpkaaGreatKNumD
import Derived.Orders
import Derived.Great.BuildSlice
namespace Go.Proofs.YthlmnoggeggpkaaGreat
open Go.RowKit

theorem wpAny_inv {P : Program} {md : Region.Mode} {ops : Array Oper} {Q : Exit → Act → World → Prop} {I : Nat → Array Bool → Act → World → Prop}
    (h0 : ∀ listed a w, I 0 listed a w → Region.ready md ops listed = []) (hdone : ∀ n listed a w, I n listed a w → Region.ready md ops listed = [] → Q .normal a w)
    (hstep : ∀ n listed a w i, I (n + 1) listed a w → i ∈ Region.ready md ops listed → wpOp P ops Q i (I n (listed.setIfInBounds i true)) a w) :
    ∀ (n : Nat) (listed : Array Bool) (a : Act) (w : World), I n listed a w → wpAny P md ops Q n listed a w
  | 0, _, _, _, h => ⟨h0 _ _ _ h, hdone _ _ _ _ h (h0 _ _ _ h)⟩
  | n + 1, _, _, _, h => ⟨fun hr => hdone _ _ _ _ h hr, fun i hi => wpOp_mono (fun a' w' h' => wpAny_inv h0 hdone hstep n _ a' w' h') (hstep n _ _ _ i h hi)⟩
end Go.Proofs.YthlmnoggeggpkaaGreat
namespace Go.Proofs.YthlmnoggeggpkaaGreat
open Go.RowKit Tx

/-- What a slot is to hold. -/
inductive LS where
  | none
  | part (p : Pt)
  | parts (P : List Pt)
  | item (x : It)
  | items (X : List It)
  | bad
/-- What a value is: a part, own parts, an item, own items, the block of lists. -/
def LS.Sat (base : Nat) (w : World) (v : Value) : LS → Prop
  | .none => True
  | .part p => v = .agg (encP p).toArray
  | .parts P => OP base w v P
  | .item x => ∃ y, v = .agg (encI y).toArray ∧ strip y = x ∧ MI base w y
  | .items X => ∃ Y, MY base w v X Y
  | .bad => ∃ g, v = .slice (some ⟨g, 0, Option.none⟩) 19 19 ∧ BB g w
theorem LS.Sat.below {base : Nat} {w w' : World} {v : Value} {s : LS} (h : LS.Sat base w v s) (hb : Below w.heap.size w w') : LS.Sat base w' v s := by
  cases s with
  | none => trivial
  | part p => exact h
  | parts P => exact OP.below h hb
  | item x =>
    obtain ⟨y, h1, h2, h3⟩ := h
    exact ⟨y, h1, h2, h3.below hb⟩
  | items X =>
    obtain ⟨Y, h1⟩ := h
    exact ⟨Y, h1.below hb⟩
  | bad =>
    obtain ⟨g, h1, h2⟩ := h
    exact ⟨g, h1, h2.below hb⟩

def lsD : LS := .none
/-- What stands while the operations are done one by one, in whatever order. -/
structure LitI (ops : Array Oper) (specs : List LS) (N : Nat) (w0 : World) (n : Nat) (listed : Array Bool) (a : Act) (w : World) : Prop where
  sz : listed.size = ops.size
  cnt : listed.toList.count false = n
  tm : a.tmps.size = N
  df : a.defers = []
  bl : Below w0.heap.size w0 w
  st : ∀ j o d, listed.getD j false = true → ops[j]? = some o → o.dst = some d → (specs.getD j lsD).Sat w0.heap.size w (a.tmps.getD d undef)

/-- No two operations write the same slot, each writes one below N, and each waits for earlier ones alone. -/
def litOk (N : Nat) (ops : Array Oper) : Bool :=
  decide ((ops.toList.map (·.dst)).Nodup) && ops.toList.all (fun o => o.guard.isNone && match o.dst with | some d => decide (d < N) | none => false) &&
  (List.range ops.size).all fun i => ((ops[i]?).map fun o => o.after.all fun e => decide (e.on < i)).getD false
theorem litOk.dst {N : Nat} {ops : Array Oper} (h : litOk N ops = true) {i j d : Nat} {o o' : Oper} (ho : ops[i]? = some o) (ho' : ops[j]? = some o') (hd : o.dst = some d) (hd' : o'.dst = some d) : i = j := by
  unfold litOk at h
  simp only [Bool.and_eq_true, decide_eq_true_eq] at h
  have hn := h.1.1
  have hi : i < (ops.toList.map (·.dst)).length := by simpa using (Array.getElem?_eq_some_iff.1 ho).1
  refine (List.getElem?_inj hi hn).1 ?_
  rw [List.getElem?_map, List.getElem?_map, Array.getElem?_toList, Array.getElem?_toList, ho, ho']
  simp [hd, hd']
theorem litOk.fine {N : Nat} {ops : Array Oper} (h : litOk N ops = true) {i : Nat} {o : Oper} (ho : ops[i]? = some o) : o.guard = none ∧ (∃ d, o.dst = some d ∧ d < N) ∧ ∀ e ∈ o.after, e.on < i := by
  unfold litOk at h
  simp only [Bool.and_eq_true, decide_eq_true_eq] at h
  obtain ⟨⟨-, h2⟩, h3⟩ := h
  have h2 := List.all_eq_true.1 h2 o (by simpa using Array.mem_of_getElem? ho)
  have h3 := List.all_eq_true.1 h3 i (List.mem_range.2 (Array.getElem?_eq_some_iff.1 ho).1)
  rw [ho] at h3
  simp only [Option.map_some, Option.getD_some] at h3
  simp only [Bool.and_eq_true] at h2
  refine ⟨by simpa using h2.1, ?_, fun e he => by simpa using Array.all_eq_true_iff_forall_mem.1 h3 e he⟩
  cases hd : o.dst with
  | none => rw [hd] at h2; exact absurd h2.2 (by simp)
  | some d => rw [hd] at h2; exact ⟨d, rfl, by simpa using h2.2⟩

section
variable {P : Program} {md : Region.Mode} {ops : Array Oper} {specs : List LS} {N : Nat} {w0 : World} {n : Nat} {listed : Array Bool} {a : Act} {w : World}
/-- While one is not done, one may be done. -/
theorem LitI.full (hok : litOk N ops = true) (h : LitI ops specs N w0 n listed a w) (hr : Region.ready md ops listed = []) : ∀ i, i < ops.size → listed.getD i false = true := by
  intro i
  induction i using Nat.strongRecOn with
  | ind i ih =>
    intro hi
    cases hl : listed.getD i false with
    | true => rfl
    | false =>
      have ho : ops[i]? = some ops[i] := Array.getElem?_eq_getElem hi
      have : i ∈ Region.ready md ops listed := mem_ready.2 ⟨by
        have hi2 : i < listed.size := by rw [h.sz]; exact hi
        rw [Array.getD_eq_getD_getElem?, Array.getElem?_eq_getElem hi2] at hl ⊢
        exact hl, _, ho, fun e he _ => by
        have := (litOk.fine hok ho).2.2 e he
        exact ih _ this (by omega)⟩
      rw [hr] at this
      cases this
theorem LitI.none_ (h : LitI ops specs N w0 0 listed a w) : Region.ready md ops listed = [] := by
  rw [List.eq_nil_iff_forall_not_mem]
  intro i hi
  have h1 := (mem_ready.1 hi).1
  obtain ⟨-, o, ho, -⟩ := mem_ready.1 hi
  have hi2 : i < listed.size := by rw [h.sz]; exact (Array.getElem?_eq_some_iff.1 ho).1
  have hc := h.cnt
  rw [Array.getD_eq_getD_getElem?, Array.getElem?_eq_getElem hi2] at h1
  have : false ∈ listed.toList := by
    have e : listed[i] = false := h1
    rw [← e]
    exact Array.mem_toList_iff.2 (Array.getElem_mem hi2)
  exact absurd hc (by have := List.count_pos_iff.2 this; omega)
/-- One operation done. -/
theorem LitI.step {Q : Exit → Act → World → Prop} (hok : litOk N ops = true) (h : LitI ops specs N w0 (n + 1) listed a w) {i : Nat} (hr : i ∈ Region.ready md ops listed) {o : Oper} (ho : ops[i]? = some o)
    {v : Value} {w' : World} (hrun : (execOp a.eval o).run P w = .ok (.value v) w') (hb : Below w.heap.size w w') (hv : (specs.getD i lsD).Sat w0.heap.size w' v) :
    wpOp P ops Q i (LitI ops specs N w0 n (listed.setIfInBounds i true)) a w := by
  obtain ⟨hg, ⟨d, hd, hdN⟩, -⟩ := litOk.fine hok ho
  obtain ⟨hl, -⟩ := mem_ready.1 hr
  have hi : i < ops.size := (Array.getElem?_eq_some_iff.1 ho).1
  have hi2 : i < listed.size := by rw [h.sz]; exact hi
  unfold wpOp
  rw [ho]
  simp only [Region.wanted, hg]
  refine Or.inl ?_
  unfold Oper.wp
  rw [hrun]
  show LitI ops specs N w0 n (listed.setIfInBounds i true) (a.put o.dst v) w'
  rw [hd]
  refine ⟨by rw [Array.size_setIfInBounds]; exact h.sz, ?_, ?_, h.df, h.bl.trans (hb.mono h.bl.size), ?_⟩
  · have hc := h.cnt
    rw [Array.getD_eq_getD_getElem?, Array.getElem?_eq_getElem hi2] at hl
    have e : listed.toList[i]'(by simpa using hi2) = false := by simpa using hl
    rw [Array.toList_setIfInBounds, List.count_set (by simpa using hi2), e, hc]
    simp
  · show (a.tmps.setIfInBounds d v).size = N
    rw [Array.size_setIfInBounds]; exact h.tm
  · intro j o' d' hj ho' hd'
    show LS.Sat _ _ ((a.tmps.setIfInBounds d v).getD d' undef) _
    by_cases hij : i = j
    · subst hij
      rw [ho] at ho'
      obtain rfl := Option.some.inj ho'
      rw [hd] at hd'
      obtain rfl := Option.some.inj hd'
      have e : (a.tmps.setIfInBounds d v).getD d undef = v := by
        rw [Array.getD_eq_getD_getElem?, Array.getElem?_setIfInBounds_self_of_lt (by rw [h.tm]; exact hdN)]; rfl
      rw [e]
      exact hv
    · have hne : d ≠ d' := fun e => hij (litOk.dst hok ho ho' hd (by rw [e]; exact hd'))
      have e : (a.tmps.setIfInBounds d v).getD d' undef = a.tmps.getD d' undef := by
        rw [Array.getD_eq_getD_getElem?, Array.getElem?_setIfInBounds_ne hne, Array.getD_eq_getD_getElem?]
      rw [e]
      rw [getD_set_ne false hij] at hj
      exact (h.st j o' d' hj ho' hd').below hb
/-- What a slot holds that the operation waits for. -/
theorem LitI.arg (h : LitI ops specs N w0 n listed a w) {i : Nat} (hr : i ∈ Region.ready md ops listed) (j t : Nat)
    (hdep : ((ops[i]?).map fun o => o.after.any fun e => e.on == j && Region.binds md e) = some true) (hj : (ops[j]?).map (·.dst) = some (some t)) (s : LS) (hs : specs.getD j lsD = s) : s.Sat w0.heap.size w (a.tmps.getD t undef) := by
  obtain ⟨-, o, ho, hall⟩ := mem_ready.1 hr
  rw [ho] at hdep
  simp only [Option.map_some, Option.some.injEq] at hdep
  obtain ⟨e, he, hb⟩ := Array.any_eq_true'.1 hdep
  simp only [Bool.and_eq_true, beq_iff_eq] at hb
  cases hoj : ops[j]? with
  | none => rw [hoj] at hj; cases hj
  | some oj =>
    rw [hoj] at hj
    simp only [Option.map_some, Option.some.injEq] at hj
    subst hs
    exact h.st j oj t (by rw [← hb.1]; exact hall e he hb.2) hoj hj
end
end Go.Proofs.YthlmnoggeggpkaaGreat
namespace Go.Proofs.YthlmnoggeggpkaaGreat
open Go.RowKit Tx

theorem exec_build {P : Program} {o : Oper} {a : Act} {w : World} (t : TypeId) (ps : List (Nat × Operand)) (cells : Array Value) (hop : o.op = .build t ps.toArray) (h : P.built t (ps.map fun q => (q.1, a.eval q.2)) = some cells) :
    (execOp a.eval o).run P w = .ok (.value (.agg cells)) w := by
  have h' : P.built t (ps.toArray.map fun (i, x) => (i, a.eval x)).toList = some cells := by rw [Array.toList_map]; exact h
  unfold execOp
  simp only [hop, Sem.run_bind, run_build w t _ cells h', Result.andThen_ok]
  rfl
theorem exec_slice {P : Program} {o : Oper} {a : Act} {w : World} (t e : TypeId) (len : Nat) (ps : List (Nat × Operand)) (cells : Array Value) (z : Value) (sz bytes : Nat) (hop : o.op = .buildSlice t len ps.toArray) (hu : P.underlying t = some (.slice e))
    (hinfo : (P.info? e).map (fun i => (i.zero, i.size, i.bytes)) = some (some z, sz, bytes)) (hsmall : ¬ len * sz > 2 ^ 24) (hpos : ¬ len * sz = 0)
    (h : Instr.fill (fun i => some (i * sz, sz)) ((Array.range (len * sz)).map (z.cells[· % z.cells.size]!)) (ps.map fun q => (q.1, a.eval q.2)) = some cells) :
    (execOp a.eval o).run P w = .ok (.value (.slice (some ⟨w.heap.size, 0, none⟩) len len)) (w.alloc (.cells cells e)) := by
  obtain ⟨i, hi, hzz⟩ := Option.map_eq_some_iff.1 hinfo
  simp only [Prod.mk.injEq] at hzz
  obtain ⟨hz, rfl, -⟩ := hzz
  have h' : Instr.fill (fun j => some (j * i.size, i.size)) ((Array.range (len * i.size)).map (z.cells[· % z.cells.size]!)) (ps.toArray.map fun (i, x) => (i, a.eval x)).toList = some cells := by rw [Array.toList_map]; exact h
  unfold execOp
  simp only [hop, Sem.run_bind, run_buildSlice w t e len _ cells i z hu hi hz hsmall hpos h', Result.andThen_ok]
  rfl
theorem exec_make {P : Program} {o : Oper} {a : Act} {w : World} (base : Nat) (t e : TypeId) (z : Value) (size bytes n : Nat) (x y : Operand) (kl kc : IntKind) (hop : o.op = .makeSlice t x y) (hx : a.eval x = .int kl (n : Int)) (hy : a.eval y = .int kc (n : Int)) (ht : P.underlying t = some (.slice e))
    (hinfo : (P.info? e).map (fun i => (i.zero, i.size, i.bytes)) = some (some z, size, bytes)) (hbytes : bytes * n ≤ 281474976710656) (h63 : n ≤ maxLen) (hbase : base ≤ w.heap.size) :
    ∃ w', (execOp a.eval o).run P w = .ok (.value (.slice (some ⟨w.heap.size, 0, none⟩) n n)) w' ∧ w'.ownsRow base e size (.slice (some ⟨w.heap.size, 0, none⟩) n n) n (madeCells z.cells (n * size)).toList ∧ w.grownBy w' none := by
  obtain ⟨i, hi, hzz⟩ := Option.map_eq_some_iff.1 hinfo
  simp only [Prod.mk.injEq] at hzz
  obtain ⟨hz, hs, hb⟩ := hzz
  obtain ⟨w', h1, h2, h3⟩ := run_make_full (P := P) w base t e i z size ht hi hz hs kl kc n (by rw [hb]; exact hbytes) h63 hbase
  refine ⟨w', ?_, h2, h3⟩
  unfold execOp
  simp only [hop, hx, hy, Sem.run_bind, h1, Result.andThen_ok]
  rfl
theorem below_none {w w' : World} (h : w.grownBy w' none) : Below w.heap.size w w' := (Below.refl w.heap.size w).grown h (Nat.le_refl _) (fun b e => by cases e)
theorem Tryz.infoItems : (Tryz.prog.info? 22).map (fun i => (i.zero, i.size, i.bytes)) = some (some (.slice none 0 0), 1, 24) := by kernel_rfl

section
variable {ops : Array Oper} {specs : List LS} {N : Nat} {w0 : World} {n : Nat} {listed : Array Bool} {a : Act} {w : World} {Q : Exit → Act → World → Prop} {md : Region.Mode} {i : Nat} {P : Program}

theorem lit_part (hok : litOk N ops = true) (h : LitI ops specs N w0 (n + 1) listed a w) (hr : i ∈ Region.ready md ops listed) (ps : List (Nat × Operand)) (p : Pt)
    (hop : (ops[i]?).map (·.op) = some (.build 45 ps.toArray)) (hb : Tryz.prog.built 45 (ps.map fun q => (q.1, a.eval q.2)) = some (encP p).toArray) (hs : specs.getD i lsD = .part p) :
    wpOp Tryz.prog ops Q i (LitI ops specs N w0 n (listed.setIfInBounds i true)) a w := by
  obtain ⟨-, o, ho, -⟩ := mem_ready.1 hr
  rw [ho] at hop
  simp only [Option.map_some, Option.some.injEq] at hop
  exact h.step hok hr ho (exec_build _ ps _ hop hb) (Below.refl _ _) (by rw [hs]; exact rfl)
theorem lit_item0 (hok : litOk N ops = true) (h : LitI ops specs N w0 (n + 1) listed a w) (hr : i ∈ Region.ready md ops listed) (ps : List (Nat × Operand)) (code : List UInt8) (life : Int)
    (hop : (ops[i]?).map (·.op) = some (.build 43 ps.toArray)) (hb : Tryz.prog.built 43 (ps.map fun q => (q.1, a.eval q.2)) = some (encI (bA code life [])).toArray) (hs : specs.getD i lsD = .item (bA code life [])) :
    wpOp Tryz.prog ops Q i (LitI ops specs N w0 n (listed.setIfInBounds i true)) a w := by
  obtain ⟨-, o, ho, -⟩ := mem_ready.1 hr
  rw [ho] at hop
  simp only [Option.map_some, Option.some.injEq] at hop
  exact h.step hok hr ho (exec_build _ ps _ hop hb) (Below.refl _ _) (by rw [hs]; exact ⟨_, rfl, rfl, rfl, rfl, rfl, OP.nil _ _⟩)
theorem lit_item1 (hok : litOk N ops = true) (h : LitI ops specs N w0 (n + 1) listed a w) (hr : i ∈ Region.ready md ops listed) (ps : List (Nat × Operand)) (code : List UInt8) (life : Int) (P : List Pt) (j t : Nat) (vs : Value → List (Nat × Value))
    (hop : (ops[i]?).map (·.op) = some (.build 43 ps.toArray)) (hdep : ((ops[i]?).map fun o => o.after.any fun e => e.on == j && Region.binds md e) = some true) (hj : (ops[j]?).map (·.dst) = some (some t)) (hsj : specs.getD j lsD = .parts P)
    (hev : (ps.map fun q => (q.1, a.eval q.2)) = vs (a.tmps.getD t undef)) (hb : ∀ g m c, Tryz.prog.built 43 (vs (.slice g m c)) = some #[encStr code, .int .i64 life, .slice g m c, .slice none 0 0]) (hs : specs.getD i lsD = .item (bA code life P)) :
    wpOp Tryz.prog ops Q i (LitI ops specs N w0 n (listed.setIfInBounds i true)) a w := by
  have hop' := hop
  obtain ⟨-, o, ho, -⟩ := mem_ready.1 hr
  rw [ho] at hop
  simp only [Option.map_some, Option.some.injEq] at hop
  have hP : OP w0.heap.size w (a.tmps.getD t undef) P := h.arg hr j t hdep hj _ hsj
  obtain ⟨g, c, hv, -, -, -⟩ := Tx.rows_form hP
  rw [hv] at hev hP
  refine h.step hok hr ho (exec_build _ ps _ hop (by rw [hev]; exact hb _ _ _)) (Below.refl _ _) ?_
  rw [hs]
  exact ⟨⟨code, life, g, c, P, none, 0, []⟩, rfl, rfl, rfl, rfl, rfl, hP⟩
theorem lit_parts1 (hok : litOk N ops = true) (h : LitI ops specs N w0 (n + 1) listed a w) (hr : i ∈ Region.ready md ops listed) (p : Pt) (j t : Nat)
    (hop : (ops[i]?).map (·.op) = some (.buildSlice 26 1 [(0, Operand.tmp t)].toArray)) (hdep : ((ops[i]?).map fun o => o.after.any fun e => e.on == j && Region.binds md e) = some true) (hj : (ops[j]?).map (·.dst) = some (some t)) (hsj : specs.getD j lsD = .part p)
    (hs : specs.getD i lsD = .parts [p]) :
    wpOp Tryz.prog ops Q i (LitI ops specs N w0 n (listed.setIfInBounds i true)) a w := by
  have hP : a.tmps.getD t undef = .agg (encP p).toArray := h.arg hr j t hdep hj _ hsj
  obtain ⟨-, o, ho, -⟩ := mem_ready.1 hr
  rw [ho] at hop
  simp only [Option.map_some, Option.some.injEq] at hop
  refine h.step hok hr ho (exec_slice _ 45 1 _ (cellsP [p]).toArray _ _ _ hop Tryz.underlying26 Tryz.infoPart (by decide) (by decide) ?_) ((Below.refl _ w).alloc (Nat.le_refl _) _) ?_
  · show Instr.fill _ _ [(0, a.tmps.getD t undef)] = _
    rw [hP]
    kernel_rfl
  · rw [hs]
    exact OP.lit w [p] _ rfl h.bl.size (show 1 ≤ 1000 by decide)
theorem lit_parts2 (hok : litOk N ops = true) (h : LitI ops specs N w0 (n + 1) listed a w) (hr : i ∈ Region.ready md ops listed) (p q : Pt) (j t j' t' : Nat)
    (hop : (ops[i]?).map (·.op) = some (.buildSlice 26 2 [(0, Operand.tmp t), (1, Operand.tmp t')].toArray)) (hdep : ((ops[i]?).map fun o => o.after.any fun e => e.on == j && Region.binds md e) = some true) (hj : (ops[j]?).map (·.dst) = some (some t)) (hsj : specs.getD j lsD = .part p)
    (hdep' : ((ops[i]?).map fun o => o.after.any fun e => e.on == j' && Region.binds md e) = some true) (hj' : (ops[j']?).map (·.dst) = some (some t')) (hsj' : specs.getD j' lsD = .part q)
    (hs : specs.getD i lsD = .parts [p, q]) :
    wpOp Tryz.prog ops Q i (LitI ops specs N w0 n (listed.setIfInBounds i true)) a w := by
  have hP : a.tmps.getD t undef = .agg (encP p).toArray := h.arg hr j t hdep hj _ hsj
  have hP' : a.tmps.getD t' undef = .agg (encP q).toArray := h.arg hr j' t' hdep' hj' _ hsj'
  obtain ⟨-, o, ho, -⟩ := mem_ready.1 hr
  rw [ho] at hop
  simp only [Option.map_some, Option.some.injEq] at hop
  refine h.step hok hr ho (exec_slice _ 45 2 _ (cellsP [p, q]).toArray _ _ _ hop Tryz.underlying26 Tryz.infoPart (by decide) (by decide) ?_) ((Below.refl _ w).alloc (Nat.le_refl _) _) ?_
  · show Instr.fill _ _ [(0, a.tmps.getD t undef), (1, a.tmps.getD t' undef)] = _
    rw [hP, hP']
    kernel_rfl
  · rw [hs]
    exact OP.lit w [p, q] _ rfl h.bl.size (show 2 ≤ 1000 by decide)
theorem lit_items1 (hok : litOk N ops = true) (h : LitI ops specs N w0 (n + 1) listed a w) (hr : i ∈ Region.ready md ops listed) (x : It) (j t : Nat)
    (hop : (ops[i]?).map (·.op) = some (.buildSlice 22 1 [(0, Operand.tmp t)].toArray)) (hdep : ((ops[i]?).map fun o => o.after.any fun e => e.on == j && Region.binds md e) = some true) (hj : (ops[j]?).map (·.dst) = some (some t)) (hsj : specs.getD j lsD = .item x)
    (hs : specs.getD i lsD = .items [x]) :
    wpOp Tryz.prog ops Q i (LitI ops specs N w0 n (listed.setIfInBounds i true)) a w := by
  obtain ⟨y, hP, hy, hm⟩ : ∃ y, a.tmps.getD t undef = .agg (encI y).toArray ∧ strip y = x ∧ MI w0.heap.size w y := h.arg hr j t hdep hj _ hsj
  obtain ⟨-, o, ho, -⟩ := mem_ready.1 hr
  rw [ho] at hop
  simp only [Option.map_some, Option.some.injEq] at hop
  have hb := (Below.refl w.heap.size w).alloc (Nat.le_refl _) (.cells (cellsI [y]).toArray 43)
  refine h.step hok hr ho (exec_slice _ 43 1 _ (cellsI [y]).toArray _ _ _ hop Tryz.underlying22 Tryz.infoItem (by decide) (by decide) ?_) hb ?_
  · show Instr.fill _ _ [(0, a.tmps.getD t undef)] = _
    rw [hP]
    kernel_rfl
  · rw [hs]
    refine ⟨[y], by rw [← hy]; rfl, OIt.lit w [y] _ rfl h.bl.size (show 1 ≤ 1000 by decide), fun z hz => ?_⟩
    rw [List.mem_singleton] at hz
    subst hz
    exact hm.below hb
theorem lit_items2 (hok : litOk N ops = true) (h : LitI ops specs N w0 (n + 1) listed a w) (hr : i ∈ Region.ready md ops listed) (x x' : It) (j t j' t' : Nat)
    (hop : (ops[i]?).map (·.op) = some (.buildSlice 22 2 [(0, Operand.tmp t), (1, Operand.tmp t')].toArray)) (hdep : ((ops[i]?).map fun o => o.after.any fun e => e.on == j && Region.binds md e) = some true) (hj : (ops[j]?).map (·.dst) = some (some t)) (hsj : specs.getD j lsD = .item x)
    (hdep' : ((ops[i]?).map fun o => o.after.any fun e => e.on == j' && Region.binds md e) = some true) (hj' : (ops[j']?).map (·.dst) = some (some t')) (hsj' : specs.getD j' lsD = .item x')
    (hs : specs.getD i lsD = .items [x, x']) :
    wpOp Tryz.prog ops Q i (LitI ops specs N w0 n (listed.setIfInBounds i true)) a w := by
  obtain ⟨y, hP, hy, hm⟩ : ∃ y, a.tmps.getD t undef = .agg (encI y).toArray ∧ strip y = x ∧ MI w0.heap.size w y := h.arg hr j t hdep hj _ hsj
  obtain ⟨y', hP', hy', hm'⟩ : ∃ y, a.tmps.getD t' undef = .agg (encI y).toArray ∧ strip y = x' ∧ MI w0.heap.size w y := h.arg hr j' t' hdep' hj' _ hsj'
  obtain ⟨-, o, ho, -⟩ := mem_ready.1 hr
  rw [ho] at hop
  simp only [Option.map_some, Option.some.injEq] at hop
  have hb := (Below.refl w.heap.size w).alloc (Nat.le_refl _) (.cells (cellsI [y, y']).toArray 43)
  refine h.step hok hr ho (exec_slice _ 43 2 _ (cellsI [y, y']).toArray _ _ _ hop Tryz.underlying22 Tryz.infoItem (by decide) (by decide) ?_) hb ?_
  · show Instr.fill _ _ [(0, a.tmps.getD t undef), (1, a.tmps.getD t' undef)] = _
    rw [hP, hP']
    kernel_rfl
  · rw [hs]
    refine ⟨[y, y'], by rw [← hy, ← hy']; rfl, OIt.lit w [y, y'] _ rfl h.bl.size (show 2 ≤ 1000 by decide), fun z hz => ?_⟩
    simp only [List.mem_cons, List.not_mem_nil, or_false] at hz
    rcases hz with rfl | rfl
    · exact hm.below hb
    · exact hm'.below hb
theorem lit_items3 (hok : litOk N ops = true) (h : LitI ops specs N w0 (n + 1) listed a w) (hr : i ∈ Region.ready md ops listed) (x x' x2 : It) (j t j' t' j2 t2 : Nat)
    (hop : (ops[i]?).map (·.op) = some (.buildSlice 22 3 [(0, Operand.tmp t), (1, Operand.tmp t'), (2, Operand.tmp t2)].toArray)) (hdep : ((ops[i]?).map fun o => o.after.any fun e => e.on == j && Region.binds md e) = some true) (hj : (ops[j]?).map (·.dst) = some (some t)) (hsj : specs.getD j lsD = .item x)
    (hdep' : ((ops[i]?).map fun o => o.after.any fun e => e.on == j' && Region.binds md e) = some true) (hj' : (ops[j']?).map (·.dst) = some (some t')) (hsj' : specs.getD j' lsD = .item x')
    (hdep2 : ((ops[i]?).map fun o => o.after.any fun e => e.on == j2 && Region.binds md e) = some true) (hj2 : (ops[j2]?).map (·.dst) = some (some t2)) (hsj2 : specs.getD j2 lsD = .item x2)
    (hs : specs.getD i lsD = .items [x, x', x2]) :
    wpOp Tryz.prog ops Q i (LitI ops specs N w0 n (listed.setIfInBounds i true)) a w := by
  obtain ⟨y, hP, hy, hm⟩ : ∃ y, a.tmps.getD t undef = .agg (encI y).toArray ∧ strip y = x ∧ MI w0.heap.size w y := h.arg hr j t hdep hj _ hsj
  obtain ⟨y', hP', hy', hm'⟩ : ∃ y, a.tmps.getD t' undef = .agg (encI y).toArray ∧ strip y = x' ∧ MI w0.heap.size w y := h.arg hr j' t' hdep' hj' _ hsj'
  obtain ⟨y2, hP2, hy2, hm2⟩ : ∃ y, a.tmps.getD t2 undef = .agg (encI y).toArray ∧ strip y = x2 ∧ MI w0.heap.size w y := h.arg hr j2 t2 hdep2 hj2 _ hsj2
  obtain ⟨-, o, ho, -⟩ := mem_ready.1 hr
  rw [ho] at hop
  simp only [Option.map_some, Option.some.injEq] at hop
  have hb := (Below.refl w.heap.size w).alloc (Nat.le_refl _) (.cells (cellsI [y, y', y2]).toArray 43)
  refine h.step hok hr ho (exec_slice _ 43 3 _ (cellsI [y, y', y2]).toArray _ _ _ hop Tryz.underlying22 Tryz.infoItem (by decide) (by decide) ?_) hb ?_
  · show Instr.fill _ _ [(0, a.tmps.getD t undef), (1, a.tmps.getD t' undef), (2, a.tmps.getD t2 undef)] = _
    rw [hP, hP', hP2]
    kernel_rfl
  · rw [hs]
    refine ⟨[y, y', y2], by rw [← hy, ← hy', ← hy2]; rfl, OIt.lit w [y, y', y2] _ rfl h.bl.size (show 3 ≤ 1000 by decide), fun z hz => ?_⟩
    simp only [List.mem_cons, List.not_mem_nil, or_false] at hz
    rcases hz with rfl | rfl | rfl
    · exact hm.below hb
    · exact hm'.below hb
    · exact hm2.below hb
theorem lit_assign (hok : litOk N ops = true) (h : LitI ops specs N w0 (n + 1) listed a w) (hr : i ∈ Region.ready md ops listed) (j t : Nat)
    (hop : (ops[i]?).map (·.op) = some (.assign (.tmp t))) (hdep : ((ops[i]?).map fun o => o.after.any fun e => e.on == j && Region.binds md e) = some true) (hj : (ops[j]?).map (·.dst) = some (some t)) (s : LS) (hsj : specs.getD j lsD = s) (hs : specs.getD i lsD = s) :
    wpOp P ops Q i (LitI ops specs N w0 n (listed.setIfInBounds i true)) a w := by
  have hv := h.arg hr j t hdep hj _ hsj
  obtain ⟨-, o, ho, -⟩ := mem_ready.1 hr
  rw [ho] at hop
  simp only [Option.map_some, Option.some.injEq] at hop
  refine h.step (v := a.tmps.getD t undef) (w' := w) hok hr ho ?_ (Below.refl _ _) (by rw [hs]; exact hv)
  unfold execOp
  simp only [hop]
  rfl
theorem lit_make9 (hok : litOk N ops = true) (h : LitI ops specs N w0 (n + 1) listed a w) (hr : i ∈ Region.ready md ops listed)
    (hop : (ops[i]?).map (·.op) = some (.makeSlice 26 (.const (.int .i64 9)) (.const (.int .i64 9)))) (hs : specs.getD i lsD = .parts (List.replicate 9 ([], 0))) :
    wpOp Tryz.prog ops Q i (LitI ops specs N w0 n (listed.setIfInBounds i true)) a w := by
  obtain ⟨-, o, ho, -⟩ := mem_ready.1 hr
  rw [ho] at hop
  simp only [Option.map_some, Option.some.injEq] at hop
  obtain ⟨w', h1, h2, h3⟩ := exec_make (P := Tryz.prog) w0.heap.size _ 45 _ _ _ 9 _ _ .i64 .i64 hop rfl rfl Tryz.underlying26 Tryz.infoPart (by decide) (by decide) h.bl.size
  refine h.step hok hr ho h1 (below_none h3) ?_
  rw [hs]
  have e : (madeCells (Value.agg #[.string ByteArray.empty, .int .i64 0]).cells (9 * 2)).toList = cellsP (List.replicate 9 ([], 0)) := by kernel_rfl
  rw [e] at h2
  exact h2
theorem lit_make61 (hok : litOk N ops = true) (h : LitI ops specs N w0 (n + 1) listed a w) (hr : i ∈ Region.ready md ops listed)
    (hop : (ops[i]?).map (·.op) = some (.makeSlice 22 (.const (.int .i64 61)) (.const (.int .i64 61)))) (hs : specs.getD i lsD = .items (List.replicate 61 (bA [] 0 []))) :
    wpOp Tryz.prog ops Q i (LitI ops specs N w0 n (listed.setIfInBounds i true)) a w := by
  obtain ⟨-, o, ho, -⟩ := mem_ready.1 hr
  rw [ho] at hop
  simp only [Option.map_some, Option.some.injEq] at hop
  obtain ⟨w', h1, h2, h3⟩ := exec_make (P := Tryz.prog) w0.heap.size _ 43 _ _ _ 61 _ _ .i64 .i64 hop rfl rfl Tryz.underlying22 Tryz.infoItem (by decide) (by decide) h.bl.size
  refine h.step hok hr ho h1 (below_none h3) ?_
  rw [hs]
  have e : (madeCells (Value.agg #[.string ByteArray.empty, .int .i64 0, .slice none 0 0, .slice none 0 0]).cells (61 * 4)).toList = cellsI (List.replicate 61 (bA [] 0 [])) := by kernel_rfl
  rw [e] at h2
  refine ⟨List.replicate 61 (bA [] 0 []), by kernel_rfl, h2, fun y hy => ?_⟩
  obtain ⟨-, rfl⟩ := List.mem_replicate.1 hy
  exact ⟨rfl, rfl, rfl, OP.nil _ _⟩
def smB (x : It) : Bool := decide (x.code.length ≤ 1000) && decide (-9223372036854775808 ≤ x.life) && decide (x.life ≤ 9223372036854775807) && decide (x.ps.length ≤ 1000) && x.ps.all fun p => decide (p.1.length ≤ 1000) && decide (-9223372036854775808 ≤ p.2) && decide (p.2 ≤ 9223372036854775807)
theorem smB_of {x : It} (h : smB x = true) : SmI x := by
  unfold smB at h
  simp only [Bool.and_eq_true, decide_eq_true_eq, List.all_eq_true] at h
  obtain ⟨⟨⟨⟨h1, h2⟩, h3⟩, h4⟩, h5⟩ := h
  exact ⟨h1, ⟨h2, h3⟩, h4, fun p hp => ⟨(h5 p hp).1.1, (h5 p hp).1.2, (h5 p hp).2⟩⟩
theorem bad_sm0 : ((List.range 19).all fun k => (badL.getD k []).all smB) = true := by kernel_rfl
theorem bad_sm {k : Nat} (h : k < 19) : ∀ x ∈ badL.getD k [], SmI x := fun x hx => smB_of (List.all_eq_true.1 (List.all_eq_true.1 bad_sm0 k (List.mem_range.2 h)) x hx)
theorem lit_bad (hok : litOk N ops = true) (h : LitI ops specs N w0 (n + 1) listed a w) (hr : i ∈ Region.ready md ops listed) (xs : List Operand) (hx : xs.length = 19)
    (hop : (ops[i]?).map (·.op) = some (.buildSlice 46 19 ((xs.zipIdx 0).map fun q => (q.2, q.1)).toArray))
    (hall : ∀ k, k < 19 → ∃ Y, MY w0.heap.size w (a.eval (xs.getD k (.tmp 0))) (badL.getD k []) Y) (hs : specs.getD i lsD = .bad) :
    wpOp Tryz.prog ops Q i (LitI ops specs N w0 n (listed.setIfInBounds i true)) a w := by
  obtain ⟨-, o, ho, -⟩ := mem_ready.1 hr
  rw [ho] at hop
  simp only [Option.map_some, Option.some.injEq] at hop
  have hb := (Below.refl w.heap.size w).alloc (Nat.le_refl _) (.cells (xs.map a.eval).toArray 22)
  have hat : ∀ k, k < 19 → (xs.map a.eval)[k]? = some (a.eval (xs.getD k (.tmp 0))) := fun k hk => by
    rw [List.getElem?_map, List.getD_eq_getElem?_getD, List.getElem?_eq_getElem (by omega)]
    rfl
  refine h.step hok hr ho (exec_slice _ 22 19 _ (xs.map a.eval).toArray _ _ _ hop Tryz.underlying46 Tryz.infoItems (by decide) (by decide) ?_) hb ?_
  · have e : (((xs.zipIdx 0).map fun q => (q.2, q.1)).map fun q => (q.1, a.eval q.2)) = ((xs.map a.eval).zipIdx 0).map fun x => (x.2, x.1) := by
      rw [List.zipIdx_map, List.map_map, List.map_map]
      rfl
    rw [e]
    refine Great.fill_flat _ _ (fun v hv => ?_) (by rw [List.length_map, hx]; kernel_rfl)
    obtain ⟨k, hk, hkv⟩ := List.getElem_of_mem hv
    have hk2 : k < 19 := by rw [List.length_map, hx] at hk; exact hk
    obtain ⟨Y, hm⟩ := hall k hk2
    obtain ⟨g, c, hv, -, -, -⟩ := Tx.rows_form hm.own
    have e2 := hat k hk2
    rw [List.getElem?_eq_getElem hk, hkv] at e2
    rw [Option.some.inj e2, hv]
    rfl
  · rw [hs]
    refine ⟨_, rfl, by rw [World.size_alloc]; omega, fun k hk => ?_⟩
    obtain ⟨Y, hm⟩ := hall k hk
    refine ⟨_, (hm.kp rfl (bad_sm hk)).below hb, ?_⟩
    rw [World.cell?_alloc_new]
    have e2 := hat k hk
    simpa using e2
end
end Go.Proofs.YthlmnoggeggpkaaGreat
