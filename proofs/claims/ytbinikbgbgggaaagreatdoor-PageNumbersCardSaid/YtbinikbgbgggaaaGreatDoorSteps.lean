/- Steps of a region that draws its order, each by one law: a call of a function, an operation that runs to a value. -/
import Derived.Test.YtbinikbgbgggaaaGreatDoorRound
import Derived.Deep.RegionHeld3
import Derived.Deep.AppendLies
namespace Go.Proofs.YtbinikbgbgggaaaGreatDoor
open Go.RowKit Go.Shelf

section
variable {P : Program} {ops : Array Oper} {Q : Exit → Act → World → Prop} {md : Region.Mode} {S : World → Prop} {fuel : Nat} {listed : Array Bool} {a : Act} {w : World} {i : Nat} {o : Oper} {rs : List Nat}

theorem step_val {w' : World} {v : Value} (ho : ops[i]? = some o) (hgd : o.guard = none) (hrun : (execOp a.eval o).run P w = .ok (.value v) w') (hS : S w')
    (h : wpAnyH P md ops Q S fuel (listed.setIfInBounds i true) (a.put o.dst v) w') (hs : AllReadyH P md ops Q S fuel listed a w rs) : AllReadyH P md ops Q S fuel listed a w (i :: rs) :=
  AllReadyH.cons ho (fun K hK => by
    have hw : Region.wanted o (yielded ops a.tmps) = true := by simp [Region.wanted, hgd]
    rw [if_pos hw]
    unfold Oper.wp
    rw [hrun]
    exact hK.out _ _ hS (fun _ => h)) hs
theorem step_fn {f : FuncId} {args : Array Value} (ho : ops[i]? = some o) (hgd : o.guard = none) (hrun : (execOp a.eval o).run P w = .ok (.enter f args) w)
    (h : Calls P f args w fun e w' => ∃ v, e = .returned v ∧ S w' ∧ wpAnyH P md ops Q S fuel (listed.setIfInBounds i true) (a.put o.dst v) w') (hs : AllReadyH P md ops Q S fuel listed a w rs) : AllReadyH P md ops Q S fuel listed a w (i :: rs) :=
  AllReadyH.cons ho (fun K hK => by
    have hw : Region.wanted o (yielded ops a.tmps) = true := by simp [Region.wanted, hgd]
    rw [if_pos hw]
    unfold Oper.wp
    rw [hrun]
    refine Calls.mono h ?_
    rintro e w' ⟨v, rfl, hS, h'⟩
    exact hK.out _ _ hS (fun _ => h')) hs
theorem step_skip {w' : World} (ho : ops[i]? = some o) (hgd : o.guard = none) (hrun : (execOp a.eval o).run P w = .ok .skip w') (hS : S w')
    (h : wpAnyH P md ops Q S fuel (listed.setIfInBounds i true) (a.put o.dst undef) w') (hs : AllReadyH P md ops Q S fuel listed a w rs) : AllReadyH P md ops Q S fuel listed a w (i :: rs) :=
  AllReadyH.cons ho (fun K hK => by
    have hw : Region.wanted o (yielded ops a.tmps) = true := by simp [Region.wanted, hgd]
    rw [if_pos hw]
    unfold Oper.wp
    rw [hrun]
    exact hK.out _ _ hS (fun _ => h)) hs
/-- Any other law at a step. -/
theorem step_law (ho : ops[i]? = some o) (hgd : o.guard = none)
    (h : ∀ K : Act → World → Prop, (∀ a w, S w → wpAnyH P md ops Q S fuel (listed.setIfInBounds i true) a w → K a w) → Oper.wp P o a w K Q) (hs : AllReadyH P md ops Q S fuel listed a w rs) : AllReadyH P md ops Q S fuel listed a w (i :: rs) :=
  AllReadyH.cons ho (fun K hK => by
    have hw : Region.wanted o (yielded ops a.tmps) = true := by simp [Region.wanted, hgd]
    rw [if_pos hw]
    exact h K (fun a w hS hh => hK.out a w hS (fun _ => hh))) hs
theorem run_fn {ev : Operand → Value} {f : FuncId} {x : Operand} {args : Array Operand} {T : Array TypeId} (ho : o.op = .call { callee := .value x, args := args, argTypes := T }) (hx : ev x = .func (.func f) #[] #[]) (he : Enters P f) (w : World) {vs : Array Value} (hv : args.map ev = vs) :
    (execOp ev o).run P w = .ok (.enter f vs) w := by
  subst hv
  simp [execOp, ho, resolve, Deferred.ofValue, hx, invoke, he _ w]
theorem run_fn1 {ev : Operand → Value} {f : FuncId} {x x0 : Operand} {T : Array TypeId} {v0 : Value} (ho : o.op = .call { callee := .value x, args := #[x0], argTypes := T }) (hx : ev x = .func (.func f) #[] #[]) (he : Enters P f) (w : World) (h0 : ev x0 = v0) :
    (execOp ev o).run P w = .ok (.enter f #[v0]) w := run_fn ho hx he w (by simp [h0])
theorem run_fn2 {ev : Operand → Value} {f : FuncId} {x x0 x1 : Operand} {T : Array TypeId} {v0 v1 : Value} (ho : o.op = .call { callee := .value x, args := #[x0, x1], argTypes := T }) (hx : ev x = .func (.func f) #[] #[]) (he : Enters P f) (w : World) (h0 : ev x0 = v0) (h1 : ev x1 = v1) :
    (execOp ev o).run P w = .ok (.enter f #[v0, v1]) w := run_fn ho hx he w (by simp [h0, h1])
theorem run_fn3 {ev : Operand → Value} {f : FuncId} {x x0 x1 x2 : Operand} {T : Array TypeId} {v0 v1 v2 : Value} (ho : o.op = .call { callee := .value x, args := #[x0, x1, x2], argTypes := T }) (hx : ev x = .func (.func f) #[] #[]) (he : Enters P f) (w : World) (h0 : ev x0 = v0) (h1 : ev x1 = v1) (h2 : ev x2 = v2) :
    (execOp ev o).run P w = .ok (.enter f #[v0, v1, v2]) w := run_fn ho hx he w (by simp [h0, h1, h2])
/-- A load of a slice. -/
theorem run_load1 {ev : Operand → Value} {t e : TypeId} {x : Operand} {y j : Nat} {v : Value} (ho : o.op = .load t x) (hx : ev x = .pointer (some ⟨y, j, none⟩)) (ht : P.underlying t = some (.slice e)) (hc : w.cell? ⟨y, j, none⟩ = some v) :
    (execOp ev o).run P w = .ok (.value v) w := by
  have h1 := run_isAgg_plain ht rfl w
  simp [execOp, ho, hx, Instr.loadAt, go_sem, h1, hc]
end
theorem run_store_rows {ev : Operand → Value} {o : Oper} {x u : Operand} {y j : Nat} {sa : Option Addr} {n c : Nat} {v0 : Value} {w : World} (ho : o.op = .store 28 x u) (hx : ev x = .pointer (some ⟨y, j, none⟩)) (hu : ev u = .slice sa n c) (hc : w.cell? ⟨y, j, none⟩ = some v0) (hf : w.frozen? ⟨y, j, none⟩ = false) :
    (execOp ev o).run Tryz.prog w = .ok .skip (w.setCell ⟨y, j, none⟩ (.slice sa n c)) := by
  simp [execOp, ho, hx, hu, go_sem, hc, hf]
theorem run_build_row {ev : Operand → Value} {o : Oper} {x0 x1 : Operand} {ka va : Option Addr} {kn kc vn vc : Nat} (ho : o.op = .build 60 #[(0, x0), (1, x1)]) (h0 : ev x0 = .slice ka kn kc) (h1 : ev x1 = .slice va vn vc) (w : World) :
    (execOp ev o).run Tryz.prog w = .ok (.value (.agg #[.slice ka kn kc, .slice va vn vc])) w := by
  simp [execOp, ho, h0, h1, go_sem]
theorem run_buildSlice_row {ev : Operand → Value} {o : Oper} {x : Operand} {k v : Value} (ho : o.op = .buildSlice 28 1 #[(0, x)]) (hx : ev x = .agg #[k, v]) (w : World) :
    (execOp ev o).run Tryz.prog w = .ok (.value (.slice (some ⟨w.heap.size, 0, none⟩) 1 1)) (w.alloc (.cells #[k, v] 60)) := by
  simp [execOp, ho, hx, go_sem]
end Go.Proofs.YtbinikbgbgggaaaGreatDoor
