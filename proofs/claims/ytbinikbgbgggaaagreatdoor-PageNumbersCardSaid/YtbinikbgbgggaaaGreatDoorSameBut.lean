/- The region of PageKeeps that puts the rows but one together. Acts that are alike but for some slots: a region that draws its order, node by node, whatever order has led there. -/
import Derived.Test.YtbinikbgbgggaaaGreatDoorKeepP
namespace Go.Proofs.YtbinikbgbgggaaaGreatDoor
open Go.RowKit Go.Shelf

theorem eval_put_same {a : Act} {d : Nat} {v : Value} (h : d < a.tmps.size) : (a.put (some d) v).eval (.tmp d) = v := by
  simp [Act.put, Act.eval, Array.getD, h]
theorem eval_put_ne {a : Act} {d t : Nat} {v : Value} (h : d ≠ t) : (a.put (some d) v).eval (.tmp t) = a.eval (.tmp t) := by
  simp only [Act.put, Act.eval, Array.getD_eq_getD_getElem?, Array.getElem?_setIfInBounds_ne h]
theorem size_put (a : Act) (d : Nat) (v : Value) : (a.put (some d) v).tmps.size = a.tmps.size := by
  simp [Act.put]
theorem run_add_one {P : Program} {w : World} {ev : Operand → Value} {o : Oper} {x : Operand} {t t' : TypeId} {i : Nat} (ho : o.op = .binOp .add t x (.const (.int .i64 1)) t') (hx : ev x = .int .i64 (i : Int)) (hc : ev (.const (.int .i64 1)) = .int .i64 1) (hi : i < 1000000) :
    (execOp ev o).run P w = .ok (.value (.int .i64 ((i + 1 : Nat) : Int))) w := by
  have h1 : IntKind.i64.wrap ((i : Int) + 1) = (i : Int) + 1 := IntWalk.i64_in _ (by omega)
  simp [execOp, ho, hx, hc, go_sem, h1]

def er0 : Oper := ⟨some 89, .buildSlice 28 0 #[], 28, "outright.go:67", #[], none⟩
def er1 : Oper := ⟨some 90, .move (.tmp 4), 28, "outright.go:67", #[], none⟩
def er2 : Oper := ⟨some 91, .move (.tmp 10), 3, "outright.go:67", #[], none⟩
def er3 : Oper := ⟨some 92, .slice 28 (.tmp 90) none (some (.tmp 91)) none, 28, "outright.go:67", #[⟨1, .data⟩, ⟨2, .data⟩], none⟩
def er4 : Oper := ⟨some 93, .call { callee := .builtin .append, args := #[.tmp 89, .tmp 92], argTypes := #[28, 28] }, 28, "outright.go:67", #[⟨0, .data⟩, ⟨3, .data⟩], none⟩
def er5 : Oper := ⟨some 94, .move (.tmp 4), 28, "outright.go:67", #[], none⟩
def er6 : Oper := ⟨some 95, .move (.tmp 10), 3, "outright.go:67", #[], none⟩
def er7 : Oper := ⟨some 96, .binOp .add 3 (.tmp 95) (.const (.int .i64 1)) 3, 3, "outright.go:67", #[⟨6, .data⟩], none⟩
def er8 : Oper := ⟨some 97, .slice 28 (.tmp 94) (some (.tmp 96)) none none, 28, "outright.go:67", #[⟨5, .data⟩, ⟨7, .data⟩], none⟩
def er9 : Oper := ⟨some 98, .call { callee := .builtin .append, args := #[.tmp 93, .tmp 97], argTypes := #[28, 28] }, 28, "outright.go:67", #[⟨4, .data⟩, ⟨8, .data⟩, ⟨4, .chain⟩], none⟩
def er10 : Oper := ⟨some 4, .assign (.tmp 98), 28, "outright.go:67", #[⟨9, .data⟩, ⟨9, .chain⟩, ⟨0, .phase⟩, ⟨1, .phase⟩, ⟨2, .phase⟩, ⟨3, .phase⟩, ⟨4, .phase⟩, ⟨5, .phase⟩, ⟨6, .phase⟩, ⟨7, .phase⟩, ⟨8, .phase⟩, ⟨9, .phase⟩], none⟩
def erOps : Array Oper := #[er0, er1, er2, er3, er4, er5, er6, er7, er8, er9, er10]

theorem erase_region {Q : Exit → Act → World → Prop} {a : Act} {W0 : World} {base gb i rc : Nat} {L : List Rw} (h4 : a.eval (.tmp 4) = .slice (some ⟨gb, 0, none⟩) L.length rc) (h10 : a.eval (.tmp 10) = .int .i64 (i : Int)) (hsz : 98 < a.tmps.size)
    (hq : OQ base W0 (.slice (some ⟨gb, 0, none⟩) L.length rc) L) (hi : i < L.length) (hL : L.length < 256) (hb : base ≤ W0.heap.size) (hlc : L.length ≤ rc) (hrc : rc ≤ 9223372036854775807)
    (hQ : ∀ c a (d : Nat) v w, Q (.panic c) (a.put (some d) v) w → Q (.panic c) a w)
    (hK : ∀ v0 v1 v2 v3 v4 v5 v6 v7 v8 a2 c2 w2, OQ base w2 (.slice a2 (L.take i ++ L.drop (i + 1)).length c2) (L.take i ++ L.drop (i + 1)) → Below W0.heap.size W0 w2 → (∀ r, (Value.slice a2 (L.take i ++ L.drop (i + 1)).length c2).ownBlock = some r → W0.heap.size ≤ r) →
      Q .normal (((((((((((a.put (some 90) v0).put (some 91) v1).put (some 92) v2).put (some 94) v3).put (some 95) v4).put (some 96) v5).put (some 97) v6).put (some 89) v7).put (some 93) v8).put (some 98) (.slice a2 (L.take i ++ L.drop (i + 1)).length c2)).put (some 4) (.slice a2 (L.take i ++ L.drop (i + 1)).length c2)) w2) :
    (Code.region 29 erOps true).wp Tryz.prog Q a W0 := by
  refine wp_region_held_drew (S := fun _ => True) (by kernel_rfl) trivial (fun hHeld => ?_)
  refine wpAnyH_take (i := 1) (oi := er1) (v := .slice (some ⟨gb, 0, none⟩) L.length rc) rfl (by kernel_rfl) (by kernel_rfl) (by kernel_rfl) (fun _ _ _ h => hQ _ _ _ _ _ h) (Or.inl ⟨by rfl, fun w' _ => by rw [BigFrame.run_move (.tmp 4) rfl w', h4]⟩) hHeld ?_
  change wpAnyH _ _ _ _ _ _ _ (Act.put _ (some 90) _) _
  refine wpAnyH_take (i := 2) (oi := er2) (v := .int .i64 (i : Int)) rfl (by kernel_rfl) (by kernel_rfl) (by kernel_rfl) (fun _ _ _ h => hQ _ _ _ _ _ h) (Or.inl ⟨by rfl, fun w' _ => by rw [BigFrame.run_move (.tmp 10) rfl w', eval_put_ne (by decide), h10]⟩) hHeld ?_
  change wpAnyH _ _ _ _ _ _ _ (Act.put _ (some 91) _) _
  refine wpAnyH_take (i := 3) (oi := er3) (v := .slice (some ⟨gb, 0, none⟩) i rc) rfl (by kernel_rfl) (by kernel_rfl) (by kernel_rfl) (fun _ _ _ h => hQ _ _ _ _ _ h) (Or.inl ⟨by rfl, fun w' _ => run_slice_to (x := .tmp 90) (hi := .tmp 91) rfl (by rw [eval_put_ne (by decide), eval_put_same (by omega)]) (by rw [eval_put_same (by rw [size_put]; omega)]) (by omega) hrc w'⟩) hHeld ?_
  change wpAnyH _ _ _ _ _ _ _ (Act.put _ (some 92) _) _
  refine wpAnyH_take (i := 5) (oi := er5) (v := .slice (some ⟨gb, 0, none⟩) L.length rc) rfl (by kernel_rfl) (by kernel_rfl) (by kernel_rfl) (fun _ _ _ h => hQ _ _ _ _ _ h) (Or.inl ⟨by rfl, fun w' _ => by rw [BigFrame.run_move (.tmp 4) rfl w', eval_put_ne (by decide), eval_put_ne (by decide), eval_put_ne (by decide), h4]⟩) hHeld ?_
  change wpAnyH _ _ _ _ _ _ _ (Act.put _ (some 94) _) _
  refine wpAnyH_take (i := 6) (oi := er6) (v := .int .i64 (i : Int)) rfl (by kernel_rfl) (by kernel_rfl) (by kernel_rfl) (fun _ _ _ h => hQ _ _ _ _ _ h) (Or.inl ⟨by rfl, fun w' _ => by rw [BigFrame.run_move (.tmp 10) rfl w', eval_put_ne (by decide), eval_put_ne (by decide), eval_put_ne (by decide), eval_put_ne (by decide), h10]⟩) hHeld ?_
  change wpAnyH _ _ _ _ _ _ _ (Act.put _ (some 95) _) _
  refine wpAnyH_take (i := 7) (oi := er7) (v := .int .i64 ((i + 1 : Nat) : Int)) rfl (by kernel_rfl) (by kernel_rfl) (by kernel_rfl) (fun _ _ _ h => hQ _ _ _ _ _ h) (Or.inl ⟨by rfl, fun w' _ => run_add_one (x := .tmp 95) rfl (by rw [eval_put_same (by simp only [size_put]; omega)]) rfl (by omega)⟩) hHeld ?_
  change wpAnyH _ _ _ _ _ _ _ (Act.put _ (some 96) _) _
  refine wpAnyH_take (i := 8) (oi := er8) (v := .slice (some ⟨gb, if i + 1 = rc then 0 else (i + 1) * 2, none⟩) (L.length - (i + 1)) (rc - (i + 1))) rfl (by kernel_rfl) (by kernel_rfl) (by kernel_rfl) (fun _ _ _ h => hQ _ _ _ _ _ h) (Or.inl ⟨by rfl, fun w' _ => run_slice_from (x := .tmp 94) (lo := .tmp 96) rfl (by rw [eval_put_ne (by decide), eval_put_ne (by decide), eval_put_same (by simp only [size_put]; omega)]) (by rw [eval_put_same (by simp only [size_put]; omega)]) (by omega) hlc hrc w'⟩) hHeld ?_
  change wpAnyH _ _ _ _ _ _ _ (Act.put _ (some 97) _) _
  have hqd : OQ base W0.drew (.slice (some ⟨gb, 0, none⟩) L.length rc) L := hq.below ((Below.refl _ W0).drew)
  obtain ⟨gb', gc, cs, e', -, hgb2, -, -, hcs, hfar, hcell⟩ := hqd.cells (by omega)
  cases e'
  obtain ⟨v1, w1, hr1, a2, c2, w2, hr2, hq2, hb2, ho2⟩ := erase_append (w := W0) (base := base) (W0 := W0.drew) hqd hgb2 hcs hfar hcell hi hL hb hlc rfl 28 28
  refine wpAnyH_ready (rs := [0]) (by kernel_rfl) (by simp) ?_
  refine step_val (o := er0) (v := .slice (some ⟨W0.drew.heap.size, 0, none⟩) 0 0) rfl rfl (run_buildSlice0 rfl _) trivial ?_ AllReadyH.nil
  change wpAnyH _ _ _ _ _ _ _ (Act.put _ (some 89) _) _
  refine wpAnyH_ready (rs := [4]) (by kernel_rfl) (by simp) ?_
  refine step_val (o := er4) (v := v1) rfl rfl (run_append_op (s := .tmp 89) (x := .tmp 92) rfl (by rw [eval_put_same (by simp only [size_put]; omega)]) (by rw [eval_put_ne (by decide), eval_put_ne (by decide), eval_put_ne (by decide), eval_put_ne (by decide), eval_put_ne (by decide), eval_put_same (by simp only [size_put]; omega)]) hr1) trivial ?_ AllReadyH.nil
  change wpAnyH _ _ _ _ _ _ _ (Act.put _ (some 93) _) _
  refine wpAnyH_ready (rs := [9]) (by kernel_rfl) (by simp) ?_
  refine step_val (o := er9) (v := .slice a2 (L.take i ++ L.drop (i + 1)).length c2) rfl rfl (run_append_op (s := .tmp 93) (x := .tmp 97) rfl (by rw [eval_put_same (by simp only [size_put]; omega)]) (by rw [eval_put_ne (by decide), eval_put_ne (by decide), eval_put_same (by simp only [size_put]; omega)]) hr2) trivial ?_ AllReadyH.nil
  change wpAnyH _ _ _ _ _ _ _ (Act.put _ (some 98) _) _
  refine wpAnyH_ready (rs := [10]) (by kernel_rfl) (by simp) ?_
  refine step_val (o := er10) (v := .slice a2 (L.take i ++ L.drop (i + 1)).length c2) rfl rfl ((BigFrame.run_assign (.tmp 98) rfl _).trans (by rw [eval_put_same (by simp only [size_put]; omega)])) trivial ?_ AllReadyH.nil
  change wpAnyH _ _ _ _ _ _ _ (Act.put _ (some 4) _) _
  refine wpAnyH_done (by kernel_rfl) ?_ _
  exact hK _ _ _ _ _ _ _ _ _ a2 c2 w2 hq2 (((Below.refl _ W0).drew).trans hb2) ho2
end Go.Proofs.YtbinikbgbgggaaaGreatDoor
namespace Go.Proofs.YtbinikbgbgggaaaGreatDoor
open Go.RowKit Go.Shelf

/-- A is as a, but for the slots of l. -/
structure SameBut (a A : Act) (l : List Nat) : Prop where
  df : A.defers = a.defers
  sz : A.tmps.size = a.tmps.size
  at_ : ∀ t, t ∉ l → A.tmps[t]? = a.tmps[t]?
theorem SameBut.refl (a : Act) (l : List Nat) : SameBut a a l := ⟨rfl, rfl, fun _ _ => rfl⟩
theorem SameBut.put {a A : Act} {l : List Nat} (h : SameBut a A l) {t : Nat} (ht : t ∈ l) (v : Value) : SameBut a (A.put (some t) v) l :=
  ⟨h.df, by rw [size_put]; exact h.sz, fun u hu => by
    have : t ≠ u := fun e => hu (e ▸ ht)
    simp only [Act.put, Array.getElem?_setIfInBounds_ne this]
    exact h.at_ u hu⟩
theorem SameBut.eval {a A : Act} {l : List Nat} (h : SameBut a A l) {t : Nat} (ht : t ∉ l) : A.eval (.tmp t) = a.eval (.tmp t) := by
  simp only [Act.eval, Array.getD_eq_getD_getElem?, h.at_ t ht]
theorem fold_put (f : Nat → Value) : ∀ (l : List Nat) (a : Act), (l.foldl (fun x t => x.put (some t) (f t)) a).defers = a.defers ∧ (l.foldl (fun x t => x.put (some t) (f t)) a).tmps.size = a.tmps.size ∧
    ∀ t, (l.foldl (fun x t => x.put (some t) (f t)) a).tmps[t]? = if t ∈ l ∧ t < a.tmps.size then some (f t) else a.tmps[t]?
  | [], a => ⟨rfl, rfl, fun t => by simp⟩
  | u :: l, a => by
    obtain ⟨h1, h2, h3⟩ := fold_put f l (a.put (some u) (f u))
    rw [List.foldl_cons]
    refine ⟨h1, by rw [h2, size_put], fun t => ?_⟩
    rw [h3, size_put]
    by_cases ht : t ∈ l
    · by_cases hs : t < a.tmps.size
      · rw [if_pos ⟨ht, hs⟩, if_pos ⟨List.mem_cons_of_mem _ ht, hs⟩]
      · rw [if_neg (fun h => hs h.2), if_neg (fun h => hs h.2)]
        simp only [Act.put]
        rw [Array.getElem?_eq_none (by simpa using hs), Array.getElem?_eq_none (by simpa using hs)]
    · rw [if_neg (fun h => ht h.1)]
      simp only [Act.put]
      by_cases hu : u = t
      · subst hu
        by_cases hs : u < a.tmps.size
        · rw [if_pos ⟨List.mem_cons_self, hs⟩, Array.getElem?_setIfInBounds_self_of_lt hs]
        · rw [if_neg (fun h => hs h.2)]
          rw [Array.getElem?_eq_none (by simpa using hs), Array.getElem?_eq_none (by simpa using hs)]
      · rw [if_neg (fun h => by rcases List.mem_cons.1 h.1 with e | e; exact hu e.symm; exact ht e), Array.getElem?_setIfInBounds_ne hu]
theorem SameBut.eq {a A : Act} {l : List Nat} (h : SameBut a A l) : A = l.foldl (fun x t => x.put (some t) (A.eval (.tmp t))) a := by
  obtain ⟨h1, h2, h3⟩ := fold_put (fun t => A.eval (.tmp t)) l a
  have ht : A.tmps = (l.foldl (fun x t => x.put (some t) (A.eval (.tmp t))) a).tmps := by
    apply Array.ext_getElem?
    intro t
    rw [h3]
    by_cases hm : t ∈ l ∧ t < a.tmps.size
    · rw [if_pos hm]
      have hs : t < A.tmps.size := by rw [h.sz]; exact hm.2
      rw [Array.getElem?_eq_getElem hs]
      simp only [Act.eval, Array.getD_eq_getD_getElem?, Array.getElem?_eq_getElem hs, Option.getD_some]
    · rw [if_neg hm]
      by_cases hl : t ∈ l
      · have hs : ¬ t < a.tmps.size := fun h' => hm ⟨hl, h'⟩
        rw [Array.getElem?_eq_none (by rw [h.sz]; omega), Array.getElem?_eq_none (by omega)]
      · exact h.at_ t hl
  have hd : A.defers = (l.foldl (fun x t => x.put (some t) (A.eval (.tmp t))) a).defers := h.df.trans h1.symm
  generalize l.foldl (fun x t => x.put (some t) (A.eval (.tmp t))) a = B at ht hd
  cases A; cases B
  simp only at ht hd
  rw [ht, hd]
end Go.Proofs.YtbinikbgbgggaaaGreatDoor
