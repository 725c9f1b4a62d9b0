/- The law: what awake's records do to a log. Plain; no program in sight. The law: a record of awake's is done once. Plain; no program in sight. Steps of a region that draws its order, each by one law: a call of a function, an operation that runs to a value. -/
import Derived.Test.YtohlkkannjifmaaGreatDoorOPool8
import Derived.Test.YtohlkkannjifmaaGreatDoorOLaw
import Derived.Test.YtohlkkannjifmaaGreatDoorRound
import Derived.Deep.RegionHeld3
import Derived.Deep.AppendLies
namespace Go.Proofs.YtohlkkannjifmaaGreatDoor
open Go.RowKit Go.Shelf

theorem grow_last (L : LK) (b : List UInt8) : (L.grow b).last = { L.last with body := L.last.body ++ b } := by
  unfold LK.grow
  show (_ ++ [_]).getLastD sh0 = _
  simp
theorem grow_end (L : LK) (b : List UInt8) : (L.grow b).end_ = L.end_ + b.length := by
  unfold LK.end_
  rw [grow_last]
  unfold ShV.at_
  simp only [List.length_append]
  omega
theorem aw_right {i : Int} (h0 : 0 ≤ i) (h1 : i < 9) : rightB (rowR i awK awV) = true ∧ (putB (rowR i awK awV)).length ≤ 40 := by
  rcases (by omega : i = 0 ∨ i = 1 ∨ i = 2 ∨ i = 3 ∨ i = 4 ∨ i = 5 ∨ i = 6 ∨ i = 7 ∨ i = 8) with rfl | rfl | rfl | rfl | rfl | rfl | rfl | rfl | rfl <;> decide +kernel
/-- A record of awake's goes behind the others, if the last sheet has room. -/
theorem aw_append {L : LK} {i : Int} (h0 : 0 ≤ i) (h1 : i < 9) (hr : L.last.body.length ≤ 400) : L.append (rowR i awK awV) = (L.end_, 0, L.grow (putB (rowR i awK awV))) ∧ (L.grow (putB (rowR i awK awV))).last.body.length ≤ L.last.body.length + 40 ∧ L.end_ < (L.grow (putB (rowR i awK awV))).end_ := by
  obtain ⟨hR, hL⟩ := aw_right h0 h1
  have hp := putB_pos (rowR i awK awV)
  refine ⟨?_, ?_, ?_⟩
  · unfold LK.append
    rw [if_neg (by rw [hR]; simp; omega), if_pos (by omega)]
  · rw [grow_last]
    simp only [List.length_append]
    omega
  · rw [grow_end]
    omega
theorem aw_fit (i : Int) (h1 : i < 9) : (rowR i awK awV).Fit := ⟨by simp [rowR], by simp [rowR], by simp [rowR], by show i ≤ _; omega, by simp [rowR], by simp [rowR]⟩
end Go.Proofs.YtohlkkannjifmaaGreatDoor
namespace Go.Proofs.YtohlkkannjifmaaGreatDoor
open Go.RowKit Go.Shelf

theorem Well.log {D : DK} {L L' : LK} {P : PK} (h : Well D L P) (hok : ∃ k, L'.Ok k) (hf : L'.first = L.first) (hc : L'.count = L.count) : Well D L' P :=
  ⟨h.up, hok, by rw [hf, hc]; exact h.fc, h.dn, h.pc, h.dis, h.rng, h.cl, h.sz⟩
def rowN (i n : Int) : RecV := { rowR i awK awV with lsn := n }
theorem aw_do {D : DK} {L : LK} {P : PK} {i n : Int} (h0 : 0 ≤ i) (h1 : i < P.count) (hn : 1 ≤ n) (hn2 : n < L.end_) {x : Bool × Int × PK × LK × DK} (hx : DoP P (rowN i n) L D x) : DoneP P i n (actTurn awK [] awV) L D x := by
  have hk : (rowN i n).kind = 1 := rfl
  have hl : (rowN i n).lsn = n := rfl
  have hp : (rowN i n).page = i := rfl
  have ha : ¬ argBad (rowN i n) L := by
    rintro (h | h | h)
    · exact h.2.1 hk
    · rw [hl] at h; omega
    · rw [hl] at h; omega
  have hb : ¬ pageBad (rowN i n) P.count := by
    rintro (h | h)
    · rw [hp] at h; exact h ⟨h0, h1⟩
    · have := h.1; rw [hk] at this; omega
  cases hx with
  | arg h => exact absurd h ha
  | none h h2 => exact absurd h2 hb
  | one x h2 h3 h4 h5 => exact h5
  | bad x h2 h3 h4 => rw [hk] at h4; omega
  | two x y h2 h3 h4 => rw [hk] at h4; omega
theorem aw_twice {q : List UInt8} (hp : PageOf q [(awK, awV)]) : turnL (mkP q [(awK, awV)]) awK [] awV = (6, mkP q [(awK, awV)]) := by
  have h1 : ¬ turnedB awK.length ([] : List UInt8).length awV.length = false := by decide
  have h2 : got [(awK, awV)] awK ≠ (if ([] : List UInt8) = [] then none else some []) := by decide
  rw [turnL_mk hp, if_neg h1, if_pos h2]
theorem aw_len {n : Int} (h0 : 0 ≤ n) (h1 : n ≤ 9223372036854775807) : (setLsnL awP0 n).length = 512 := by
  obtain ⟨h, e, hp, -⟩ := aw_page h0 h1
  rw [e]
  exact mkP_len hp
/-- Done the first time: the page is turned. -/
theorem aw_first {D : DK} {L : LK} {P : PK} (h : Well D L P) {i n : Int} (h0 : 0 ≤ i) (h1 : i < P.count) (hn : 1 ≤ n) (hn2 : n < L.end_) (hm : n ≤ 9223372036854775807) (hb : Cont P D i (List.replicate 512 0)) {x : Bool × Int × PK × LK × DK} (hx : DoP P (rowN i n) L D x) :
    x.1 = true ∧ x.2.1 = 0 ∧ Well x.2.2.2.2 x.2.2.2.1 x.2.2.1 ∧ CoreEq x.2.2.2.1 L ∧ x.2.2.1.first = P.first ∧ x.2.2.1.count = P.count ∧ x.2.2.1.most = P.most ∧ P.frames.length ≤ x.2.2.1.frames.length ∧
    (∀ m c, 0 ≤ m → m ≠ i → Cont P D m c → Cont x.2.2.1 x.2.2.2.2 m c) ∧ Cont x.2.2.1 x.2.2.2.2 i (setLsnL awP0 n) ∧
    ((∀ f ∈ P.frames, f.page ≠ i) → P.frames.length < P.most → x.2.2.1.frames.length = P.frames.length + 1) ∧ (∀ f ∈ x.2.2.1.frames, f.page = i ∨ ∃ g ∈ P.frames, g.page = f.page) := by
  obtain ⟨g1, g2, g3, g4, g5, g6, g7, g8, g9, g10, g11, g12⟩ := done_well h h0 h1 hb (fun _ => by rw [aw_turn]; exact aw_len (by omega) hm) (aw_do h0 h1 hn hn2 hx)
  rw [aw_lsn0, aw_turn] at g7 g8
  have e1 : x.1 = true := by rw [g7, decide_eq_true (show ((0 : Nat) : Int) < n by omega)]; rfl
  rw [e1, if_pos rfl, aw_turn] at g10
  exact ⟨e1, by rw [g8, if_pos (show ((0 : Nat) : Int) < n by omega)], g1, g2, g3, g4, g5, g6, g9, g10, g11, g12⟩
set_option maxRecDepth 100000 in
/-- Done a second time: nothing. -/
theorem aw_second {D : DK} {L : LK} {P : PK} (h : Well D L P) {i n : Int} (h0 : 0 ≤ i) (h1 : i < P.count) (hn : 1 ≤ n) (hn2 : n < L.end_) (hm : n ≤ 9223372036854775807) (hb : Cont P D i (setLsnL awP0 n)) {x : Bool × Int × PK × LK × DK} (hx : DoP P (rowN i n) L D x) :
    x.1 = false ∧ x.2.1 = 0 ∧ Well x.2.2.2.2 x.2.2.2.1 x.2.2.1 ∧ CoreEq x.2.2.2.1 L ∧ x.2.2.1.first = P.first ∧ x.2.2.1.count = P.count ∧ x.2.2.1.most = P.most ∧ P.frames.length ≤ x.2.2.1.frames.length ∧
    (∀ m c, 0 ≤ m → m ≠ i → Cont P D m c → Cont x.2.2.1 x.2.2.2.2 m c) ∧ Cont x.2.2.1 x.2.2.2.2 i (setLsnL awP0 n) ∧ (∀ f ∈ x.2.2.1.frames, f.page = i ∨ ∃ g ∈ P.frames, g.page = f.page) := by
  obtain ⟨q, e0, hp, hl⟩ := aw_page (n := n) (by omega) hm
  have hlt : ¬ ((lsnL (setLsnL awP0 n) : Nat) : Int) < n := by rw [hl]; omega
  have hd := aw_do h0 h1 hn hn2 hx
  have ha : (actTurn awK [] awV (setLsnL awP0 n)).1 = 0 → (setLsnL (actTurn awK [] awV (setLsnL awP0 n)).2 n).length = 512 := by
    intro hz
    have e6 := aw_twice hp
    rw [e0] at hz
    rw [show (actTurn awK [] awV (mkP q [(awK, awV)])).1 = ((turnL (mkP q [(awK, awV)]) awK [] awV).1 : Int) from rfl, e6] at hz
    exact absurd hz (by show ¬ ((6 : Nat) : Int) = 0; omega)
  obtain ⟨g1, g2, g3, g4, g5, g6, g7, g8, g9, g10, g11, g12⟩ := done_well h h0 h1 hb ha hd
  have e1 : x.1 = false := by rw [g7, decide_eq_false hlt]; rfl
  rw [e1] at g10
  exact ⟨e1, by rw [g8, if_neg hlt], g1, g2, g3, g4, g5, g6, g9, g10, g12⟩
end Go.Proofs.YtohlkkannjifmaaGreatDoor
namespace Go.Proofs.YtohlkkannjifmaaGreatDoor
open Go.RowKit Go.Shelf

section
variable {P : Program} {ops : Array Oper} {Q : Exit → Act → World → Prop} {md : Region.Mode} {S : World → Prop} {fuel : Nat} {listed : Array Bool} {a : Act} {w : World} {i : Nat} {o : Oper} {rs : List Nat}

theorem step_val {w' : World} {v : Value} (ho : ops[i]? = some o) (hgd : o.guard = none) (hrun : (execOp a.eval o).run P w = .ok (.value v) w') (hS : S w')
    (h : wpAnyH P md ops Q S fuel (listed.setIfInBounds i true) (a.put o.dst v) w') (hs : AllReadyH P md ops Q S fuel listed a w rs) : AllReadyH P md ops Q S fuel listed a w (i :: rs) :=
  AllReadyH.cons ho (fun K hK => by
    have hw : Region.wanted o (yielded ops a.tmps) = true := by simp [Region.wanted, hgd]
    rw [if_pos hw]
    unfold Oper.wp
    rw [hrun]
    exact hK.out _ _ hS (fun _ => h)) hs
theorem step_fn {f : FuncId} {args : Array Value} (ho : ops[i]? = some o) (hgd : o.guard = none) (hrun : (execOp a.eval o).run P w = .ok (.enter f args) w)
    (h : Calls P f args w fun e w' => ∃ v, e = .returned v ∧ S w' ∧ wpAnyH P md ops Q S fuel (listed.setIfInBounds i true) (a.put o.dst v) w') (hs : AllReadyH P md ops Q S fuel listed a w rs) : AllReadyH P md ops Q S fuel listed a w (i :: rs) :=
  AllReadyH.cons ho (fun K hK => by
    have hw : Region.wanted o (yielded ops a.tmps) = true := by simp [Region.wanted, hgd]
    rw [if_pos hw]
    unfold Oper.wp
    rw [hrun]
    refine Calls.mono h ?_
    rintro e w' ⟨v, rfl, hS, h'⟩
    exact hK.out _ _ hS (fun _ => h')) hs
theorem step_skip {w' : World} (ho : ops[i]? = some o) (hgd : o.guard = none) (hrun : (execOp a.eval o).run P w = .ok .skip w') (hS : S w')
    (h : wpAnyH P md ops Q S fuel (listed.setIfInBounds i true) (a.put o.dst undef) w') (hs : AllReadyH P md ops Q S fuel listed a w rs) : AllReadyH P md ops Q S fuel listed a w (i :: rs) :=
  AllReadyH.cons ho (fun K hK => by
    have hw : Region.wanted o (yielded ops a.tmps) = true := by simp [Region.wanted, hgd]
    rw [if_pos hw]
    unfold Oper.wp
    rw [hrun]
    exact hK.out _ _ hS (fun _ => h)) hs
/-- Any other law at a step. -/
theorem step_law (ho : ops[i]? = some o) (hgd : o.guard = none)
    (h : ∀ K : Act → World → Prop, (∀ a w, S w → wpAnyH P md ops Q S fuel (listed.setIfInBounds i true) a w → K a w) → Oper.wp P o a w K Q) (hs : AllReadyH P md ops Q S fuel listed a w rs) : AllReadyH P md ops Q S fuel listed a w (i :: rs) :=
  AllReadyH.cons ho (fun K hK => by
    have hw : Region.wanted o (yielded ops a.tmps) = true := by simp [Region.wanted, hgd]
    rw [if_pos hw]
    exact h K (fun a w hS hh => hK.out a w hS (fun _ => hh))) hs
theorem run_fn {ev : Operand → Value} {f : FuncId} {x : Operand} {args : Array Operand} {T : Array TypeId} (ho : o.op = .call { callee := .value x, args := args, argTypes := T }) (hx : ev x = .func (.func f) #[] #[]) (he : Enters P f) (w : World) {vs : Array Value} (hv : args.map ev = vs) :
    (execOp ev o).run P w = .ok (.enter f vs) w := by
  subst hv
  simp [execOp, ho, resolve, Deferred.ofValue, hx, invoke, he _ w]
theorem run_fn1 {ev : Operand → Value} {f : FuncId} {x x0 : Operand} {T : Array TypeId} {v0 : Value} (ho : o.op = .call { callee := .value x, args := #[x0], argTypes := T }) (hx : ev x = .func (.func f) #[] #[]) (he : Enters P f) (w : World) (h0 : ev x0 = v0) :
    (execOp ev o).run P w = .ok (.enter f #[v0]) w := run_fn ho hx he w (by simp [h0])
theorem run_fn2 {ev : Operand → Value} {f : FuncId} {x x0 x1 : Operand} {T : Array TypeId} {v0 v1 : Value} (ho : o.op = .call { callee := .value x, args := #[x0, x1], argTypes := T }) (hx : ev x = .func (.func f) #[] #[]) (he : Enters P f) (w : World) (h0 : ev x0 = v0) (h1 : ev x1 = v1) :
    (execOp ev o).run P w = .ok (.enter f #[v0, v1]) w := run_fn ho hx he w (by simp [h0, h1])
theorem run_fn3 {ev : Operand → Value} {f : FuncId} {x x0 x1 x2 : Operand} {T : Array TypeId} {v0 v1 v2 : Value} (ho : o.op = .call { callee := .value x, args := #[x0, x1, x2], argTypes := T }) (hx : ev x = .func (.func f) #[] #[]) (he : Enters P f) (w : World) (h0 : ev x0 = v0) (h1 : ev x1 = v1) (h2 : ev x2 = v2) :
    (execOp ev o).run P w = .ok (.enter f #[v0, v1, v2]) w := run_fn ho hx he w (by simp [h0, h1, h2])
/-- A load of a slice. -/
theorem run_load1 {ev : Operand → Value} {t e : TypeId} {x : Operand} {y j : Nat} {v : Value} (ho : o.op = .load t x) (hx : ev x = .pointer (some ⟨y, j, none⟩)) (ht : P.underlying t = some (.slice e)) (hc : w.cell? ⟨y, j, none⟩ = some v) :
    (execOp ev o).run P w = .ok (.value v) w := by
  have h1 := run_isAgg_plain ht rfl w
  simp [execOp, ho, hx, Instr.loadAt, go_sem, h1, hc]
end
theorem run_store_rows {ev : Operand → Value} {o : Oper} {x u : Operand} {y j : Nat} {sa : Option Addr} {n c : Nat} {v0 : Value} {w : World} (ho : o.op = .store 94 x u) (hx : ev x = .pointer (some ⟨y, j, none⟩)) (hu : ev u = .slice sa n c) (hc : w.cell? ⟨y, j, none⟩ = some v0) (hf : w.frozen? ⟨y, j, none⟩ = false) :
    (execOp ev o).run Tryz.prog w = .ok .skip (w.setCell ⟨y, j, none⟩ (.slice sa n c)) := by
  simp [execOp, ho, hx, hu, go_sem, hc, hf]
theorem run_build_row {ev : Operand → Value} {o : Oper} {x0 x1 : Operand} {ka va : Option Addr} {kn kc vn vc : Nat} (ho : o.op = .build 185 #[(0, x0), (1, x1)]) (h0 : ev x0 = .slice ka kn kc) (h1 : ev x1 = .slice va vn vc) (w : World) :
    (execOp ev o).run Tryz.prog w = .ok (.value (.agg #[.slice ka kn kc, .slice va vn vc])) w := by
  simp [execOp, ho, h0, h1, go_sem]
theorem run_buildSlice_row {ev : Operand → Value} {o : Oper} {x : Operand} {k v : Value} (ho : o.op = .buildSlice 94 1 #[(0, x)]) (hx : ev x = .agg #[k, v]) (w : World) :
    (execOp ev o).run Tryz.prog w = .ok (.value (.slice (some ⟨w.heap.size, 0, none⟩) 1 1)) (w.alloc (.cells #[k, v] 185)) := by
  simp [execOp, ho, hx, go_sem]
end Go.Proofs.YtohlkkannjifmaaGreatDoor
