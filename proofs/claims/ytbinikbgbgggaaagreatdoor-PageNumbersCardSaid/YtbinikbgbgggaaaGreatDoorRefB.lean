/- storemanref21: what Of steps through, in plain Lean; row. storemanref21.Of: the region that copies a row's key and value, in whatever order. -/
import Derived.Test.YtbinikbgbgggaaaGreatDoorParse
import Derived.Test.YtbinikbgbgggaaaGreatDoorKeepC
import Derived.Test.YtbinikbgbgggaaaGreatDoorSameBut
namespace Go.Proofs.YtbinikbgbgggaaaGreatDoor
open Go.RowKit Go.Shelf

/-- Where Of stands behind j rows. -/
def stO (p : List UInt8) (j : Nat) : Option (Nat × Nat) := walkB p (11, 0) ((scan p (bt p 10).toNat 11).take j)
theorem scan_get (p : List UInt8) : ∀ (c q f j : Nat) (s : Nat × Nat), walkB p (q, f) ((scan p c q).take j) = some s → j < c → (scan p c q)[j]? = some (s.1, endOf p s.1)
  | 0, q, f, j, s, _, hj => by omega
  | c + 1, q, f, 0, s, h, _ => by
    simp only [List.take_zero, walkB, Option.some.injEq] at h
    subst h
    simp [scan]
  | c + 1, q, f, j + 1, s, h, hj => by
    simp only [scan, List.take_succ_cons, walkB] at h
    by_cases hok : okRow p f q (endOf p q) = true
    · rw [if_pos hok] at h
      have hle : ¬ p.length < endOf p q := by
        unfold okRow at hok
        simp only [Bool.and_eq_true, decide_eq_true_eq] at hok
        omega
      rw [if_neg hle] at h
      have ih := scan_get p c (endOf p q) q j s h (by omega)
      simp only [scan]
      rw [if_neg hle, List.getElem?_cons_succ]
      exact ih
    · rw [if_neg hok] at h; cases h
theorem st_zero (p : List UInt8) : stO p 0 = some (11, 0) := rfl
theorem st_next {p : List UInt8} {j : Nat} {s : Nat × Nat} (h : stO p j = some s) (hj : j < (bt p 10).toNat) :
    (scan p (bt p 10).toNat 11)[j]? = some (s.1, endOf p s.1) ∧ stO p (j + 1) = if okRow p s.2 s.1 (endOf p s.1) = true then some (endOf p s.1, s.1) else none := by
  have hg := scan_get p _ 11 0 j s h hj
  refine ⟨hg, ?_⟩
  unfold stO
  obtain ⟨hlt, he⟩ := List.getElem?_eq_some_iff.1 hg
  rw [List.take_succ_eq_append_getElem hlt, he]
  exact walkB_snoc p _ (s.1, endOf p s.1) (11, 0) s h
theorem st_fail {p : List UInt8} {j : Nat} (h : stO p j = none) : behindL p = 0 := by
  have hw := walkB_prefix p _ (scan p (bt p 10).toNat 11) (11, 0) (List.take_prefix j _) h
  unfold behindL
  split
  · rfl
  · rw [hw]
theorem st_done {p : List UInt8} {s : Nat × Nat} (h : stO p (bt p 10).toNat = some s) (h512 : p.length = 512) (h0 : bt p 0 ≤ 127) (h8 : bt p 8 < 32) : behindL p = if 0 < trimLen (p.drop s.1) then 0 else s.1 := by
  unfold stO at h
  rw [List.take_of_length_le (scan_len _ _ _)] at h
  unfold behindL
  rw [if_neg (by omega), h]
/-- The rows that stand ahead. -/
def rowsO (p : List UInt8) (j : Nat) : List Rw := ((scan p (bt p 10).toNat 11).take j).map (rowAt p)
theorem rowsO_len {p : List UInt8} {j : Nat} {s : Nat × Nat} (h : stO p j = some s) (hj : j ≤ (bt p 10).toNat) : (rowsO p j).length = j := by
  unfold rowsO
  rw [List.length_map, List.length_take]
  rcases Nat.eq_zero_or_pos j with rfl | hpos
  · omega
  · cases h' : stO p (j - 1) with
    | none =>
      have hpre := List.take_prefix (j - 1) ((scan p (bt p 10).toNat 11).take j)
      rw [List.take_take, Nat.min_eq_left (by omega)] at hpre
      have := walkB_prefix p _ _ (11, 0) hpre h'
      unfold stO at h
      rw [this] at h; cases h
    | some s' =>
      have h1 := (st_next h' (by omega)).1
      have h2 := (List.getElem?_eq_some_iff.1 h1).1
      omega
theorem rowsO_snoc {p : List UInt8} {j : Nat} {s : Nat × Nat} (h : stO p j = some s) (hj : j < (bt p 10).toNat) : rowsO p (j + 1) = rowsO p j ++ [(keyOf p s.1, valOf p s.1 (endOf p s.1))] := by
  obtain ⟨hlt, he⟩ := List.getElem?_eq_some_iff.1 (st_next h hj).1
  unfold rowsO
  rw [List.take_succ_eq_append_getElem hlt, he, List.map_append]
  rfl

def rowB (k v : Nat) : Bool := decide (1 ≤ k) && decide (k ≤ 40) && decide (1 ≤ v) && decide (k + v ≤ 220)
set_option maxRecDepth 100000 in
theorem row_any (ka va : Option Addr) (kn kc vn vc : Nat) (w : World) (hk : kn ≤ 140737488355328) (hv : vn ≤ 140737488355328) :
    Calls Tryz.prog 85 #[.agg #[.slice ka kn kc, .slice va vn vc]] w fun e w' => e = .returned (.bool (rowB kn vn)) ∧ Below w.heap.size w w' := by
  have Hb := Lib.hid ((Below.refl _ w).alloc (Nat.le_refl _) (.cells #[.slice ka kn kc, .slice va vn vc] 60))
  by_cases h1 : 1 ≤ kn
  · by_cases h2 : kn ≤ 40
    · by_cases h3 : 1 ≤ vn
      · by_cases h4 : kn + vn ≤ 220
        · have hf : rowB kn vn = true := by unfold rowB; simp; omega
          have Hf := Lib.hid hf
          have i1 : (1 : Int) ≤ (kn : Int) := by omega
          have i2 : (kn : Int) ≤ 40 := by omega
          have i3 : (1 : Int) ≤ (vn : Int) := by omega
          have i4 : (kn : Int) + (vn : Int) ≤ 220 := by omega
          clear hf
          go_enter Tryz.func85, Tryz.ntmps85
          go_wp2_with (fail)
          go_ret
          exact ⟨by rw [Hf.out]; rfl, Hb.out⟩
        · have hf : rowB kn vn = false := by unfold rowB; simp; omega
          have Hf := Lib.hid hf
          have i1 : (1 : Int) ≤ (kn : Int) := by omega
          have i2 : (kn : Int) ≤ 40 := by omega
          have i3 : (1 : Int) ≤ (vn : Int) := by omega
          have i4 : ¬ (kn : Int) + (vn : Int) ≤ 220 := by omega
          clear hf
          go_enter Tryz.func85, Tryz.ntmps85
          go_wp2_with (fail)
          go_ret
          exact ⟨by rw [Hf.out]; rfl, Hb.out⟩
      · have hf : rowB kn vn = false := by unfold rowB; simp; omega
        have Hf := Lib.hid hf
        have i1 : (1 : Int) ≤ (kn : Int) := by omega
        have i2 : (kn : Int) ≤ 40 := by omega
        have i3 : ¬ (1 : Int) ≤ (vn : Int) := by omega
        clear hf
        go_enter Tryz.func85, Tryz.ntmps85
        go_wp2_with (fail)
        go_ret
        exact ⟨by rw [Hf.out]; rfl, Hb.out⟩
    · have hf : rowB kn vn = false := by unfold rowB; simp; omega
      have Hf := Lib.hid hf
      have i1 : (1 : Int) ≤ (kn : Int) := by omega
      have i2 : ¬ (kn : Int) ≤ 40 := by omega
      clear hf
      go_enter Tryz.func85, Tryz.ntmps85
      go_wp2_with (fail)
      go_ret
      exact ⟨by rw [Hf.out]; rfl, Hb.out⟩
  · have hf : rowB kn vn = false := by unfold rowB; simp; omega
    have Hf := Lib.hid hf
    have i1 : ¬ (1 : Int) ≤ (kn : Int) := by omega
    clear hf
    go_enter Tryz.func85, Tryz.ntmps85
    go_wp2_with (fail)
    go_ret
    exact ⟨by rw [Hf.out]; rfl, Hb.out⟩
theorem ok_row {p : List UInt8} {f q : Nat} (hin : q + 2 + (bt p q).toNat + (bt p (q + 1)).toNat ≤ p.length) : okRow p f q (endOf p q) = (rowB (bt p q).toNat (bt p (q + 1)).toNat && (decide (f = 0) || decide (cb (keyOf p f) (keyOf p q) < 0))) := by
  have he := endOf_in (show q + 2 ≤ p.length by omega)
  have h0 := bt_bd p q
  have h1 := bt_bd p (q + 1)
  unfold okRow rowB
  rw [Bool.eq_iff_iff]
  simp only [Bool.and_eq_true, Bool.or_eq_true, decide_eq_true_eq]
  constructor
  · rintro ⟨⟨⟨⟨⟨a, b⟩, c⟩, d⟩, e⟩, f⟩
    exact ⟨⟨⟨⟨by omega, by omega⟩, by omega⟩, by omega⟩, f⟩
  · rintro ⟨⟨⟨⟨a, b⟩, c⟩, d⟩, e⟩
    exact ⟨⟨⟨⟨⟨by omega, by omega⟩, by omega⟩, by omega⟩, by omega⟩, e⟩
end Go.Proofs.YtbinikbgbgggaaaGreatDoor
namespace Go.Proofs.YtbinikbgbgggaaaGreatDoor
open Go.RowKit Go.Shelf

theorem run_append_bytes {w : World} {base N : Nat} {v : Value} {l k : List UInt8} {sa : Option Addr} {m c : Nat} (hown : OB base w v l) (hsrc : RB N w sa m c k) (hlen : l.length + k.length ≤ 140737488355328) (hbase : base ≤ w.heap.size) (ty : TypeId) :
    ∃ v' w', (Builtin.append_ #[22, 22] ty #[v, .slice sa m c]).run Tryz.prog w = .ok v' w' ∧ OB base w' v' (l ++ k) ∧ w.grownBy w' v.ownBlock ∧ (v'.ownBlock = v.ownBlock ∨ v'.ownBlock = some w.heap.size) := by
  obtain ⟨i0, hi, hz0, hz1, hz2⟩ := info_parts Tryz.infoU8
  have hm := hsrc.len
  by_cases h0 : m = 0
  · subst h0
    obtain rfl : k = [] := List.eq_nil_of_length_eq_zero hm.symm
    obtain ⟨va, vc, rfl, hrb⟩ := hown.rb (by simpa using hlen)
    have hrun := run_append_nothing (P := Tryz.prog) w 22 ty 5 i0 Tryz.underlying22 hi va sa l.length vc c hrb.le
    exact ⟨_, w, hrun, by simpa using hown, ⟨rfl, rfl, rfl, Nat.le_refl _, fun _ _ _ => rfl⟩, .inl rfl⟩
  · have hle := hsrc.le
    obtain ⟨b, o', rfl, hB, hc⟩ := hsrc.at_ (by omega)
    obtain ⟨v', w', hr, h2, h3, -, h5⟩ := run_append_own_at (P := Tryz.prog) w base 22 ty 5 i0 _ 1 1 Tryz.underlying22 hi hz0 hz1 hz2 rfl (by decide) v l.length (l.map bv) hown ⟨b, o', none⟩ m c (k.map bv) (by simp [hm]) hsrc.cells
      (fun u hu => by obtain ⟨y, _, rfl⟩ := List.mem_map.1 hu; rfl) (by simp only [maxLen]; omega) (by omega) hbase
    refine ⟨v', w', hr, ?_, h3, h5⟩
    unfold OB
    rw [List.length_append, List.map_append, ← hm]
    exact h2
theorem run_buildBytes0 {ev : Operand → Value} {o : Oper} (ho : o.op = .buildSlice 22 0 #[]) (w : World) :
    (execOp ev o).run Tryz.prog w = .ok (.value (.slice (some ⟨w.heap.size, 0, none⟩) 0 0)) (w.alloc (.cells #[] 5)) := by
  simp [execOp, ho, go_sem]
theorem run_allocRow {ev : Operand → Value} {o : Oper} (ho : o.op = .alloc 60) (w : World) :
    (execOp ev o).run Tryz.prog w = .ok (.value (.pointer (some ⟨w.heap.size, 0, none⟩))) (w.alloc (.cells #[.slice none 0 0, .slice none 0 0] 60)) := by
  simp [execOp, ho, go_sem]
theorem run_storeRow {ev : Operand → Value} {o : Oper} {x u : Operand} {y : Nat} {a0 a1 : Option Addr} {n0 c0 n1 c1 : Nat} {v0 v1 : Value} {w : World} (ho : o.op = .store 60 x u) (hx : ev x = .pointer (some ⟨y, 0, none⟩)) (hu : ev u = .agg #[.slice a0 n0 c0, .slice a1 n1 c1]) (ht : T2 w y v0 v1) :
    (execOp ev o).run Tryz.prog w = .ok .skip ((w.setCell ⟨y, 0, none⟩ (.slice a0 n0 c0)).setCell ⟨y, 1, none⟩ (.slice a1 n1 c1)) := by
  obtain ⟨t0, t1⟩ := ht.cells
  obtain ⟨f0, f1⟩ := ht.frozen
  obtain ⟨t2, t3⟩ := (ht.set0 (.slice a0 n0 c0)).cells
  obtain ⟨f2, f3⟩ := (ht.set0 (.slice a0 n0 c0)).frozen
  simp [execOp, ho, hx, hu, go_sem, t0, t1, f0, f1, t2, t3, f2, f3]
theorem OB.made {W : World} {base : Nat} (hb : base ≤ W.heap.size) : OB base (W.alloc (.cells #[] 5)) (.slice (some ⟨W.heap.size, 0, none⟩) 0 0) [] := by
  have h := World.ownsRow_made (e := 5) (size := 1) W #[] 0 (Nat.le_refl _) (by simp) rfl
  obtain ⟨e, ⟨h1, -⟩ | ⟨g, cap, cur, hv, hg, r⟩⟩ := h
  · cases h1
  · exact ⟨rfl, .inr ⟨g, cap, cur, hv, Nat.le_trans hb hg, r⟩⟩
theorem OB.own {base : Nat} {W : World} {v : Value} {l : List UInt8} (h : OB base W v l) : ∀ b, v.ownBlock = some b → base ≤ b ∧ b < W.heap.size := fun b hb => by
  obtain ⟨e, ⟨rfl, -⟩ | ⟨g, cap, cur, rfl, hg, hh, -⟩⟩ := h
  · cases hb
  · have : g = b := by simpa [Value.ownBlock] using hb
    subst this
    exact ⟨hg, (Array.getElem?_eq_some_iff.1 hh).1⟩
theorem OB.grow {base : Nat} {W W' : World} {v : Value} {l : List UInt8} {row : Option Nat} (h : OB base W v l) (hg : W.grownBy W' row) (hne : ∀ b, v.ownBlock = some b → some b ≠ row) : OB base W' v l :=
  own_keep h (fun b e => hg.block b (h.own b e).2 (hne b e))
theorem OB.set_ne {base : Nat} {W : World} {v : Value} {l : List UInt8} (h : OB base W v l) {y j : Nat} (hne : v.ownBlock ≠ some y) (u : Value) : OB base (W.setCell ⟨y, j, none⟩ u) v l :=
  own_keep h (fun b e => Below.heap_setCell W ⟨y, j, none⟩ u b (fun e2 => hne (by rw [e]; exact congrArg some e2)))
theorem T2.grow {W W' : World} {row : Option Nat} {z : Nat} {v0 v1 : Value} (h : T2 W z v0 v1) (hg : W.grownBy W' row) (hne : some z ≠ row) : T2 W' z v0 v1 := (hg.block z h.lt hne).trans h

def ro0 : Oper := ⟨some 97, .buildSlice 22 0 #[], 22, "ref.go:71", #[], none⟩
def ro1 : Oper := ⟨some 98, .move (.tmp 0), 22, "ref.go:71", #[], none⟩
def ro2 : Oper := ⟨some 99, .move (.tmp 7), 3, "ref.go:71", #[], none⟩
def ro3 : Oper := ⟨some 100, .binOp .add 3 (.tmp 99) (.const (.int .i64 2)) 3, 3, "ref.go:71", #[⟨2, .data⟩], none⟩
def ro4 : Oper := ⟨some 101, .move (.tmp 9), 3, "ref.go:71", #[], none⟩
def ro5 : Oper := ⟨some 102, .slice 22 (.tmp 98) (some (.tmp 100)) (some (.tmp 101)) none, 22, "ref.go:71", #[⟨1, .data⟩, ⟨3, .data⟩, ⟨4, .data⟩], none⟩
def ro6 : Oper := ⟨some 103, .call { callee := .builtin .append, args := #[.tmp 97, .tmp 102], argTypes := #[22, 22] }, 22, "ref.go:71", #[⟨0, .data⟩, ⟨5, .data⟩], none⟩
def ro7 : Oper := ⟨some 104, .buildSlice 22 0 #[], 22, "ref.go:71", #[], none⟩
def ro8 : Oper := ⟨some 105, .move (.tmp 0), 22, "ref.go:71", #[], none⟩
def ro9 : Oper := ⟨some 106, .move (.tmp 9), 3, "ref.go:71", #[], none⟩
def ro10 : Oper := ⟨some 107, .move (.tmp 10), 3, "ref.go:71", #[], none⟩
def ro11 : Oper := ⟨some 108, .slice 22 (.tmp 105) (some (.tmp 106)) (some (.tmp 107)) none, 22, "ref.go:71", #[⟨8, .data⟩, ⟨9, .data⟩, ⟨10, .data⟩], none⟩
def ro12 : Oper := ⟨some 109, .call { callee := .builtin .append, args := #[.tmp 104, .tmp 108], argTypes := #[22, 22] }, 22, "ref.go:71", #[⟨7, .data⟩, ⟨11, .data⟩, ⟨6, .chain⟩], none⟩
def ro13 : Oper := ⟨some 110, .build 60 #[(0, .tmp 103), (1, .tmp 109)], 60, "ref.go:71", #[⟨6, .data⟩, ⟨12, .data⟩], none⟩
def ro14 : Oper := ⟨some 11, .alloc 60, 0, "ref.go:71", #[], none⟩
def ro15 : Oper := ⟨none, .store 60 (.tmp 11) (.tmp 110), 0, "ref.go:71", #[⟨14, .data⟩, ⟨13, .data⟩, ⟨12, .chain⟩, ⟨0, .phase⟩, ⟨1, .phase⟩, ⟨2, .phase⟩, ⟨3, .phase⟩, ⟨4, .phase⟩, ⟨5, .phase⟩, ⟨6, .phase⟩, ⟨7, .phase⟩, ⟨8, .phase⟩, ⟨9, .phase⟩, ⟨10, .phase⟩, ⟨11, .phase⟩, ⟨12, .phase⟩, ⟨13, .phase⟩, ⟨14, .phase⟩], none⟩
def roOps : Array Oper := #[ro0, ro1, ro2, ro3, ro4, ro5, ro6, ro7, ro8, ro9, ro10, ro11, ro12, ro13, ro14, ro15]

def roL : List Nat := [97, 98, 99, 100, 101, 102, 103, 104, 105, 106, 107, 108, 109, 110, 11]

section
variable {Q : Exit → Act → World → Prop} {a0 : Act} {W0 : World} {K V : List UInt8} {sA sB : Option Addr} {nA cA nB cB : Nat}
set_option maxRecDepth 100000 in
theorem node221 (hsz : 110 < a0.tmps.size) (hKs : K.length ≤ 100000) (hVs : V.length ≤ 100000) (srA : RB W0.heap.size W0 sA nA cA K) (srB : RB W0.heap.size W0 sB nB cB V)
    (hQ : ∀ c a (d : Nat) v w, Q (.panic c) (a.put (some d) v) w → Q (.panic c) a w)
    (hK : ∀ A w a1 n1 c1 a2 n2 c2 gr, SameBut a0 A roL → A.eval (.tmp 11) = .pointer (some ⟨gr, 0, none⟩) → OB W0.heap.size w (.slice a1 n1 c1) K → OB W0.heap.size w (.slice a2 n2 c2) V → T2 w gr (.slice a1 n1 c1) (.slice a2 n2 c2) → Below W0.heap.size W0 w → W0.heap.size ≤ gr → Q .normal A w)
    {A : Act} {w : World} {vA : Value} {vB : Value} {gr : Nat} (sb : SameBut a0 A roL) (e102 : A.eval (.tmp 102) = .slice sA nA cA) (e108 : A.eval (.tmp 108) = .slice sB nB cB) (bl : Below W0.heap.size W0 w) (eA : A.eval (.tmp 103) = vA) (oA : OB W0.heap.size w vA K) (gA : ∃ g, vA.ownBlock = some g) (eB : A.eval (.tmp 109) = vB) (oB : OB W0.heap.size w vB V) (gB : ∃ g, vB.ownBlock = some g) (eR : A.eval (.tmp 11) = .pointer (some ⟨gr, 0, none⟩)) (tR : T2 w gr (.slice none 0 0) (.slice none 0 0)) (lR : W0.heap.size ≤ gr) (dAB : vA.ownBlock ≠ vB.ownBlock) (dAR : vA.ownBlock ≠ some gr) (dBR : vB.ownBlock ≠ some gr) (e110 : A.eval (.tmp 110) = .agg #[vA, vB]) : wpAnyH Tryz.prog .any roOps Q (fun _ => True) 1 #[true, true, true, true, true, true, true, true, true, true, true, true, true, true, true, false] A w := by
  have hszA : A.tmps.size = a0.tmps.size := sb.sz
  refine wpAnyH_ready (rs := [15]) (by kernel_rfl) (by simp) ?_
  obtain ⟨ga, hga⟩ := gA
  obtain ⟨gb, hgb⟩ := gB
  have la := oA.own ga hga
  have lb := oB.own gb hgb
  have lr := tR.lt
  obtain ⟨a1, c1, rfl, -⟩ := oA.rb (by omega)
  obtain ⟨a2, c2, rfl, -⟩ := oB.rb (by omega)
  refine step_skip (o := ro15) rfl rfl (run_storeRow (x := .tmp 11) (u := .tmp 110) rfl eR e110 tR) trivial ?_ ?_
  · refine wpAnyH_done (by kernel_rfl) ?_ _
    exact hK A _ a1 _ c1 a2 _ c2 gr sb eR ((oA.set_ne dAR _).set_ne dAR _) ((oB.set_ne dBR _).set_ne dBR _) ((tR.set0 _).set1 _) ((bl.setCell (p := ⟨gr, 0, none⟩) lR _).setCell (p := ⟨gr, 1, none⟩) lR _) lR
  exact AllReadyH.nil
set_option maxRecDepth 100000 in
theorem node211 (hsz : 110 < a0.tmps.size) (hKs : K.length ≤ 100000) (hVs : V.length ≤ 100000) (srA : RB W0.heap.size W0 sA nA cA K) (srB : RB W0.heap.size W0 sB nB cB V)
    (hQ : ∀ c a (d : Nat) v w, Q (.panic c) (a.put (some d) v) w → Q (.panic c) a w)
    (hK : ∀ A w a1 n1 c1 a2 n2 c2 gr, SameBut a0 A roL → A.eval (.tmp 11) = .pointer (some ⟨gr, 0, none⟩) → OB W0.heap.size w (.slice a1 n1 c1) K → OB W0.heap.size w (.slice a2 n2 c2) V → T2 w gr (.slice a1 n1 c1) (.slice a2 n2 c2) → Below W0.heap.size W0 w → W0.heap.size ≤ gr → Q .normal A w)
    {A : Act} {w : World} {vA : Value} {vB : Value} {gr : Nat} (sb : SameBut a0 A roL) (e102 : A.eval (.tmp 102) = .slice sA nA cA) (e108 : A.eval (.tmp 108) = .slice sB nB cB) (bl : Below W0.heap.size W0 w) (eA : A.eval (.tmp 103) = vA) (oA : OB W0.heap.size w vA K) (gA : ∃ g, vA.ownBlock = some g) (eB : A.eval (.tmp 104) = vB) (oB : OB W0.heap.size w vB []) (gB : ∃ g, vB.ownBlock = some g) (eR : A.eval (.tmp 11) = .pointer (some ⟨gr, 0, none⟩)) (tR : T2 w gr (.slice none 0 0) (.slice none 0 0)) (lR : W0.heap.size ≤ gr) (dAB : vA.ownBlock ≠ vB.ownBlock) (dAR : vA.ownBlock ≠ some gr) (dBR : vB.ownBlock ≠ some gr) : wpAnyH Tryz.prog .any roOps Q (fun _ => True) 3 #[true, true, true, true, true, true, true, true, true, true, true, true, false, false, true, false] A w := by
  have hszA : A.tmps.size = a0.tmps.size := sb.sz
  refine wpAnyH_ready (rs := [12]) (by kernel_rfl) (by simp) ?_
  obtain ⟨ga, hga⟩ := gA
  obtain ⟨gb, hgb⟩ := gB
  have la := oA.own ga hga
  have lb := oB.own gb hgb
  have lr := tR.lt
  obtain ⟨v1, w1, hr, h1, h2, h3⟩ := run_append_bytes oB (srB.below bl) (by simp; omega) bl.size 22
  refine step_val (o := ro12) (v := v1) rfl rfl (run_append_op (s := .tmp 104) (x := .tmp 108) rfl eB e108 hr) trivial ?_ ?_
  · rw [List.nil_append] at h1
    obtain ⟨a1, c1, ev1, -⟩ := oA.rb (by omega)
    obtain ⟨a2, c2, ev2, -⟩ := h1.rb (by omega)
    have eA1 : (A.put (some 109) v1).eval (.tmp 103) = .slice a1 K.length c1 := (eval_put_ne (by decide)).trans (eA.trans ev1)
    have eB1 : (A.put (some 109) v1).eval (.tmp 109) = .slice a2 V.length c2 := (eval_put_same (by omega)).trans ev2
    refine wpAnyH_take (i := 13) (oi := ro13) (v := .agg #[.slice a1 K.length c1, .slice a2 V.length c2]) rfl (by kernel_rfl) (by kernel_rfl) (by kernel_rfl) (fun _ _ _ h => hQ _ _ _ _ _ h) (Or.inl ⟨by rfl, fun w' _ => run_build_row (x0 := .tmp 103) (x1 := .tmp 109) rfl eA1 eB1 w'⟩) trivial ?_
    exact node221 hsz hKs hVs srA srB hQ hK ((sb.put (by decide) _).put (by decide) _) ((eval_put_ne (by decide)).trans ((eval_put_ne (by decide)).trans e102)) ((eval_put_ne (by decide)).trans ((eval_put_ne (by decide)).trans e108)) (bl.grown h2 bl.size (fun r e => by rw [hgb] at e; cases e; exact lb.1)) ((eval_put_ne (by decide)).trans (eA1.trans ev1.symm)) (oA.grow h2 (fun r e e2 => dAB (e.trans e2))) (⟨_, hga⟩) ((eval_put_ne (by decide)).trans (eB1.trans ev2.symm)) (h1) ((by rcases h3 with h | h; exact ⟨_, h.trans hgb⟩; exact ⟨_, h⟩)) ((eval_put_ne (by decide)).trans ((eval_put_ne (by decide)).trans eR)) (tR.grow h2 (fun e => dBR e.symm)) (lR) ((by rcases h3 with h | h; (rw [h]; exact dAB); (rw [h, hga]; intro e; cases e; omega))) (dAR) ((by rcases h3 with h | h; (rw [h]; exact dBR); (rw [h]; intro e; cases e; omega))) ((eval_put_same (by show 110 < (A.put (some 109) v1).tmps.size; rw [size_put]; omega)).trans (by rw [ev1, ev2]))
  exact AllReadyH.nil
set_option maxRecDepth 100000 in
theorem node111 (hsz : 110 < a0.tmps.size) (hKs : K.length ≤ 100000) (hVs : V.length ≤ 100000) (srA : RB W0.heap.size W0 sA nA cA K) (srB : RB W0.heap.size W0 sB nB cB V)
    (hQ : ∀ c a (d : Nat) v w, Q (.panic c) (a.put (some d) v) w → Q (.panic c) a w)
    (hK : ∀ A w a1 n1 c1 a2 n2 c2 gr, SameBut a0 A roL → A.eval (.tmp 11) = .pointer (some ⟨gr, 0, none⟩) → OB W0.heap.size w (.slice a1 n1 c1) K → OB W0.heap.size w (.slice a2 n2 c2) V → T2 w gr (.slice a1 n1 c1) (.slice a2 n2 c2) → Below W0.heap.size W0 w → W0.heap.size ≤ gr → Q .normal A w)
    {A : Act} {w : World} {vA : Value} {vB : Value} {gr : Nat} (sb : SameBut a0 A roL) (e102 : A.eval (.tmp 102) = .slice sA nA cA) (e108 : A.eval (.tmp 108) = .slice sB nB cB) (bl : Below W0.heap.size W0 w) (eA : A.eval (.tmp 97) = vA) (oA : OB W0.heap.size w vA []) (gA : ∃ g, vA.ownBlock = some g) (eB : A.eval (.tmp 104) = vB) (oB : OB W0.heap.size w vB []) (gB : ∃ g, vB.ownBlock = some g) (eR : A.eval (.tmp 11) = .pointer (some ⟨gr, 0, none⟩)) (tR : T2 w gr (.slice none 0 0) (.slice none 0 0)) (lR : W0.heap.size ≤ gr) (dAB : vA.ownBlock ≠ vB.ownBlock) (dAR : vA.ownBlock ≠ some gr) (dBR : vB.ownBlock ≠ some gr) : wpAnyH Tryz.prog .any roOps Q (fun _ => True) 4 #[true, true, true, true, true, true, false, true, true, true, true, true, false, false, true, false] A w := by
  have hszA : A.tmps.size = a0.tmps.size := sb.sz
  refine wpAnyH_ready (rs := [6]) (by kernel_rfl) (by simp) ?_
  obtain ⟨ga, hga⟩ := gA
  obtain ⟨gb, hgb⟩ := gB
  have la := oA.own ga hga
  have lb := oB.own gb hgb
  have lr := tR.lt
  obtain ⟨v1, w1, hr, h1, h2, h3⟩ := run_append_bytes oA (srA.below bl) (by simp; omega) bl.size 22
  refine step_val (o := ro6) (v := v1) rfl rfl (run_append_op (s := .tmp 97) (x := .tmp 102) rfl eA e102 hr) trivial ?_ ?_
  · exact node211 hsz hKs hVs srA srB hQ hK (sb.put (by decide) _) ((eval_put_ne (by decide)).trans e102) ((eval_put_ne (by decide)).trans e108) (bl.grown h2 bl.size (fun r e => by rw [hga] at e; cases e; exact la.1)) (eval_put_same (by omega)) ((by rw [List.nil_append] at h1; exact h1)) ((by rcases h3 with h | h; exact ⟨_, h.trans hga⟩; exact ⟨_, h⟩)) ((eval_put_ne (by decide)).trans eB) (oB.grow h2 (fun r e e2 => dAB (e2.symm.trans e.symm))) (⟨_, hgb⟩) ((eval_put_ne (by decide)).trans eR) (tR.grow h2 (fun e => dAR e.symm)) (lR) ((by rcases h3 with h | h; (rw [h]; exact dAB); (rw [h, hgb]; intro e; cases e; omega))) ((by rcases h3 with h | h; (rw [h]; exact dAR); (rw [h]; intro e; cases e; omega))) (dBR)
  exact AllReadyH.nil
set_option maxRecDepth 100000 in
theorem node201 (hsz : 110 < a0.tmps.size) (hKs : K.length ≤ 100000) (hVs : V.length ≤ 100000) (srA : RB W0.heap.size W0 sA nA cA K) (srB : RB W0.heap.size W0 sB nB cB V)
    (hQ : ∀ c a (d : Nat) v w, Q (.panic c) (a.put (some d) v) w → Q (.panic c) a w)
    (hK : ∀ A w a1 n1 c1 a2 n2 c2 gr, SameBut a0 A roL → A.eval (.tmp 11) = .pointer (some ⟨gr, 0, none⟩) → OB W0.heap.size w (.slice a1 n1 c1) K → OB W0.heap.size w (.slice a2 n2 c2) V → T2 w gr (.slice a1 n1 c1) (.slice a2 n2 c2) → Below W0.heap.size W0 w → W0.heap.size ≤ gr → Q .normal A w)
    {A : Act} {w : World} {vA : Value} {gr : Nat} (sb : SameBut a0 A roL) (e102 : A.eval (.tmp 102) = .slice sA nA cA) (e108 : A.eval (.tmp 108) = .slice sB nB cB) (bl : Below W0.heap.size W0 w) (eA : A.eval (.tmp 103) = vA) (oA : OB W0.heap.size w vA K) (gA : ∃ g, vA.ownBlock = some g) (eR : A.eval (.tmp 11) = .pointer (some ⟨gr, 0, none⟩)) (tR : T2 w gr (.slice none 0 0) (.slice none 0 0)) (lR : W0.heap.size ≤ gr) (dAR : vA.ownBlock ≠ some gr) : wpAnyH Tryz.prog .any roOps Q (fun _ => True) 4 #[true, true, true, true, true, true, true, false, true, true, true, true, false, false, true, false] A w := by
  have hszA : A.tmps.size = a0.tmps.size := sb.sz
  refine wpAnyH_ready (rs := [7]) (by kernel_rfl) (by simp) ?_
  obtain ⟨ga, hga⟩ := gA
  have la := oA.own ga hga
  have lr := tR.lt
  refine step_val (o := ro7) (v := .slice (some ⟨w.heap.size, 0, none⟩) 0 0) rfl rfl (run_buildBytes0 rfl _) trivial ?_ ?_
  · exact node211 hsz hKs hVs srA srB hQ hK (sb.put (by decide) _) ((eval_put_ne (by decide)).trans e102) ((eval_put_ne (by decide)).trans e108) (bl.trans ((((Below.refl _ w).alloc (Nat.le_refl _) (.cells #[] 5))).mono bl.size)) ((eval_put_ne (by decide)).trans eA) (oA.below (((Below.refl _ w).alloc (Nat.le_refl _) (.cells #[] 5)))) (⟨_, hga⟩) (eval_put_same (by omega)) (OB.made bl.size) (⟨_, rfl⟩) ((eval_put_ne (by decide)).trans eR) (tR.alloc _) (lR) (by rw [hga]; exact fun e => by have e2 : ga = w.heap.size := Option.some.inj e; omega) (dAR) (fun e => by have e2 : w.heap.size = gr := Option.some.inj e; omega)
  exact AllReadyH.nil
set_option maxRecDepth 100000 in
theorem node011 (hsz : 110 < a0.tmps.size) (hKs : K.length ≤ 100000) (hVs : V.length ≤ 100000) (srA : RB W0.heap.size W0 sA nA cA K) (srB : RB W0.heap.size W0 sB nB cB V)
    (hQ : ∀ c a (d : Nat) v w, Q (.panic c) (a.put (some d) v) w → Q (.panic c) a w)
    (hK : ∀ A w a1 n1 c1 a2 n2 c2 gr, SameBut a0 A roL → A.eval (.tmp 11) = .pointer (some ⟨gr, 0, none⟩) → OB W0.heap.size w (.slice a1 n1 c1) K → OB W0.heap.size w (.slice a2 n2 c2) V → T2 w gr (.slice a1 n1 c1) (.slice a2 n2 c2) → Below W0.heap.size W0 w → W0.heap.size ≤ gr → Q .normal A w)
    {A : Act} {w : World} {vB : Value} {gr : Nat} (sb : SameBut a0 A roL) (e102 : A.eval (.tmp 102) = .slice sA nA cA) (e108 : A.eval (.tmp 108) = .slice sB nB cB) (bl : Below W0.heap.size W0 w) (eB : A.eval (.tmp 104) = vB) (oB : OB W0.heap.size w vB []) (gB : ∃ g, vB.ownBlock = some g) (eR : A.eval (.tmp 11) = .pointer (some ⟨gr, 0, none⟩)) (tR : T2 w gr (.slice none 0 0) (.slice none 0 0)) (lR : W0.heap.size ≤ gr) (dBR : vB.ownBlock ≠ some gr) : wpAnyH Tryz.prog .any roOps Q (fun _ => True) 5 #[false, true, true, true, true, true, false, true, true, true, true, true, false, false, true, false] A w := by
  have hszA : A.tmps.size = a0.tmps.size := sb.sz
  refine wpAnyH_ready (rs := [0]) (by kernel_rfl) (by simp) ?_
  obtain ⟨gb, hgb⟩ := gB
  have lb := oB.own gb hgb
  have lr := tR.lt
  refine step_val (o := ro0) (v := .slice (some ⟨w.heap.size, 0, none⟩) 0 0) rfl rfl (run_buildBytes0 rfl _) trivial ?_ ?_
  · exact node111 hsz hKs hVs srA srB hQ hK (sb.put (by decide) _) ((eval_put_ne (by decide)).trans e102) ((eval_put_ne (by decide)).trans e108) (bl.trans ((((Below.refl _ w).alloc (Nat.le_refl _) (.cells #[] 5))).mono bl.size)) (eval_put_same (by omega)) (OB.made bl.size) (⟨_, rfl⟩) ((eval_put_ne (by decide)).trans eB) (oB.below (((Below.refl _ w).alloc (Nat.le_refl _) (.cells #[] 5)))) (⟨_, hgb⟩) ((eval_put_ne (by decide)).trans eR) (tR.alloc _) (lR) (by rw [hgb]; exact fun e => by have e2 : w.heap.size = gb := Option.some.inj e; omega) (fun e => by have e2 : w.heap.size = gr := Option.some.inj e; omega) (dBR)
  exact AllReadyH.nil
set_option maxRecDepth 100000 in
theorem node101 (hsz : 110 < a0.tmps.size) (hKs : K.length ≤ 100000) (hVs : V.length ≤ 100000) (srA : RB W0.heap.size W0 sA nA cA K) (srB : RB W0.heap.size W0 sB nB cB V)
    (hQ : ∀ c a (d : Nat) v w, Q (.panic c) (a.put (some d) v) w → Q (.panic c) a w)
    (hK : ∀ A w a1 n1 c1 a2 n2 c2 gr, SameBut a0 A roL → A.eval (.tmp 11) = .pointer (some ⟨gr, 0, none⟩) → OB W0.heap.size w (.slice a1 n1 c1) K → OB W0.heap.size w (.slice a2 n2 c2) V → T2 w gr (.slice a1 n1 c1) (.slice a2 n2 c2) → Below W0.heap.size W0 w → W0.heap.size ≤ gr → Q .normal A w)
    {A : Act} {w : World} {vA : Value} {gr : Nat} (sb : SameBut a0 A roL) (e102 : A.eval (.tmp 102) = .slice sA nA cA) (e108 : A.eval (.tmp 108) = .slice sB nB cB) (bl : Below W0.heap.size W0 w) (eA : A.eval (.tmp 97) = vA) (oA : OB W0.heap.size w vA []) (gA : ∃ g, vA.ownBlock = some g) (eR : A.eval (.tmp 11) = .pointer (some ⟨gr, 0, none⟩)) (tR : T2 w gr (.slice none 0 0) (.slice none 0 0)) (lR : W0.heap.size ≤ gr) (dAR : vA.ownBlock ≠ some gr) : wpAnyH Tryz.prog .any roOps Q (fun _ => True) 5 #[true, true, true, true, true, true, false, false, true, true, true, true, false, false, true, false] A w := by
  have hszA : A.tmps.size = a0.tmps.size := sb.sz
  refine wpAnyH_ready (rs := [6, 7]) (by kernel_rfl) (by simp) ?_
  obtain ⟨ga, hga⟩ := gA
  have la := oA.own ga hga
  have lr := tR.lt
  obtain ⟨v1, w1, hr, h1, h2, h3⟩ := run_append_bytes oA (srA.below bl) (by simp; omega) bl.size 22
  refine step_val (o := ro6) (v := v1) rfl rfl (run_append_op (s := .tmp 97) (x := .tmp 102) rfl eA e102 hr) trivial ?_ ?_
  · exact node201 hsz hKs hVs srA srB hQ hK (sb.put (by decide) _) ((eval_put_ne (by decide)).trans e102) ((eval_put_ne (by decide)).trans e108) (bl.grown h2 bl.size (fun r e => by rw [hga] at e; cases e; exact la.1)) (eval_put_same (by omega)) ((by rw [List.nil_append] at h1; exact h1)) ((by rcases h3 with h | h; exact ⟨_, h.trans hga⟩; exact ⟨_, h⟩)) ((eval_put_ne (by decide)).trans eR) (tR.grow h2 (fun e => dAR e.symm)) (lR) ((by rcases h3 with h | h; (rw [h]; exact dAR); (rw [h]; intro e; cases e; omega)))
  refine step_val (o := ro7) (v := .slice (some ⟨w.heap.size, 0, none⟩) 0 0) rfl rfl (run_buildBytes0 rfl _) trivial ?_ ?_
  · exact node111 hsz hKs hVs srA srB hQ hK (sb.put (by decide) _) ((eval_put_ne (by decide)).trans e102) ((eval_put_ne (by decide)).trans e108) (bl.trans ((((Below.refl _ w).alloc (Nat.le_refl _) (.cells #[] 5))).mono bl.size)) ((eval_put_ne (by decide)).trans eA) (oA.below (((Below.refl _ w).alloc (Nat.le_refl _) (.cells #[] 5)))) (⟨_, hga⟩) (eval_put_same (by omega)) (OB.made bl.size) (⟨_, rfl⟩) ((eval_put_ne (by decide)).trans eR) (tR.alloc _) (lR) (by rw [hga]; exact fun e => by have e2 : ga = w.heap.size := Option.some.inj e; omega) (dAR) (fun e => by have e2 : w.heap.size = gr := Option.some.inj e; omega)
  exact AllReadyH.nil
set_option maxRecDepth 100000 in
theorem node001 (hsz : 110 < a0.tmps.size) (hKs : K.length ≤ 100000) (hVs : V.length ≤ 100000) (srA : RB W0.heap.size W0 sA nA cA K) (srB : RB W0.heap.size W0 sB nB cB V)
    (hQ : ∀ c a (d : Nat) v w, Q (.panic c) (a.put (some d) v) w → Q (.panic c) a w)
    (hK : ∀ A w a1 n1 c1 a2 n2 c2 gr, SameBut a0 A roL → A.eval (.tmp 11) = .pointer (some ⟨gr, 0, none⟩) → OB W0.heap.size w (.slice a1 n1 c1) K → OB W0.heap.size w (.slice a2 n2 c2) V → T2 w gr (.slice a1 n1 c1) (.slice a2 n2 c2) → Below W0.heap.size W0 w → W0.heap.size ≤ gr → Q .normal A w)
    {A : Act} {w : World} {gr : Nat} (sb : SameBut a0 A roL) (e102 : A.eval (.tmp 102) = .slice sA nA cA) (e108 : A.eval (.tmp 108) = .slice sB nB cB) (bl : Below W0.heap.size W0 w) (eR : A.eval (.tmp 11) = .pointer (some ⟨gr, 0, none⟩)) (tR : T2 w gr (.slice none 0 0) (.slice none 0 0)) (lR : W0.heap.size ≤ gr) : wpAnyH Tryz.prog .any roOps Q (fun _ => True) 6 #[false, true, true, true, true, true, false, false, true, true, true, true, false, false, true, false] A w := by
  have hszA : A.tmps.size = a0.tmps.size := sb.sz
  refine wpAnyH_ready (rs := [0, 7]) (by kernel_rfl) (by simp) ?_
  have lr := tR.lt
  refine step_val (o := ro0) (v := .slice (some ⟨w.heap.size, 0, none⟩) 0 0) rfl rfl (run_buildBytes0 rfl _) trivial ?_ ?_
  · exact node101 hsz hKs hVs srA srB hQ hK (sb.put (by decide) _) ((eval_put_ne (by decide)).trans e102) ((eval_put_ne (by decide)).trans e108) (bl.trans ((((Below.refl _ w).alloc (Nat.le_refl _) (.cells #[] 5))).mono bl.size)) (eval_put_same (by omega)) (OB.made bl.size) (⟨_, rfl⟩) ((eval_put_ne (by decide)).trans eR) (tR.alloc _) (lR) (fun e => by have e2 : w.heap.size = gr := Option.some.inj e; omega)
  refine step_val (o := ro7) (v := .slice (some ⟨w.heap.size, 0, none⟩) 0 0) rfl rfl (run_buildBytes0 rfl _) trivial ?_ ?_
  · exact node011 hsz hKs hVs srA srB hQ hK (sb.put (by decide) _) ((eval_put_ne (by decide)).trans e102) ((eval_put_ne (by decide)).trans e108) (bl.trans ((((Below.refl _ w).alloc (Nat.le_refl _) (.cells #[] 5))).mono bl.size)) (eval_put_same (by omega)) (OB.made bl.size) (⟨_, rfl⟩) ((eval_put_ne (by decide)).trans eR) (tR.alloc _) (lR) (fun e => by have e2 : w.heap.size = gr := Option.some.inj e; omega)
  exact AllReadyH.nil
set_option maxRecDepth 100000 in
theorem node220 (hsz : 110 < a0.tmps.size) (hKs : K.length ≤ 100000) (hVs : V.length ≤ 100000) (srA : RB W0.heap.size W0 sA nA cA K) (srB : RB W0.heap.size W0 sB nB cB V)
    (hQ : ∀ c a (d : Nat) v w, Q (.panic c) (a.put (some d) v) w → Q (.panic c) a w)
    (hK : ∀ A w a1 n1 c1 a2 n2 c2 gr, SameBut a0 A roL → A.eval (.tmp 11) = .pointer (some ⟨gr, 0, none⟩) → OB W0.heap.size w (.slice a1 n1 c1) K → OB W0.heap.size w (.slice a2 n2 c2) V → T2 w gr (.slice a1 n1 c1) (.slice a2 n2 c2) → Below W0.heap.size W0 w → W0.heap.size ≤ gr → Q .normal A w)
    {A : Act} {w : World} {vA : Value} {vB : Value} (sb : SameBut a0 A roL) (e102 : A.eval (.tmp 102) = .slice sA nA cA) (e108 : A.eval (.tmp 108) = .slice sB nB cB) (bl : Below W0.heap.size W0 w) (eA : A.eval (.tmp 103) = vA) (oA : OB W0.heap.size w vA K) (gA : ∃ g, vA.ownBlock = some g) (eB : A.eval (.tmp 109) = vB) (oB : OB W0.heap.size w vB V) (gB : ∃ g, vB.ownBlock = some g) (dAB : vA.ownBlock ≠ vB.ownBlock) (e110 : A.eval (.tmp 110) = .agg #[vA, vB]) : wpAnyH Tryz.prog .any roOps Q (fun _ => True) 2 #[true, true, true, true, true, true, true, true, true, true, true, true, true, true, false, false] A w := by
  have hszA : A.tmps.size = a0.tmps.size := sb.sz
  refine wpAnyH_ready (rs := [14]) (by kernel_rfl) (by simp) ?_
  obtain ⟨ga, hga⟩ := gA
  obtain ⟨gb, hgb⟩ := gB
  have la := oA.own ga hga
  have lb := oB.own gb hgb
  refine step_val (o := ro14) (v := .pointer (some ⟨w.heap.size, 0, none⟩)) rfl rfl (run_allocRow rfl _) trivial ?_ ?_
  · exact node221 hsz hKs hVs srA srB hQ hK (sb.put (by decide) _) ((eval_put_ne (by decide)).trans e102) ((eval_put_ne (by decide)).trans e108) (bl.trans ((((Below.refl _ w).alloc (Nat.le_refl _) (.cells #[.slice none 0 0, .slice none 0 0] 60))).mono bl.size)) ((eval_put_ne (by decide)).trans eA) (oA.below (((Below.refl _ w).alloc (Nat.le_refl _) (.cells #[.slice none 0 0, .slice none 0 0] 60)))) (⟨_, hga⟩) ((eval_put_ne (by decide)).trans eB) (oB.below (((Below.refl _ w).alloc (Nat.le_refl _) (.cells #[.slice none 0 0, .slice none 0 0] 60)))) (⟨_, hgb⟩) (eval_put_same (by omega)) (T2.new w _ _) (bl.size) (dAB) ((by rw [hga]; intro e; cases e; omega)) ((by rw [hgb]; intro e; cases e; omega)) ((eval_put_ne (by decide)).trans e110)
  exact AllReadyH.nil
set_option maxRecDepth 100000 in
theorem node210 (hsz : 110 < a0.tmps.size) (hKs : K.length ≤ 100000) (hVs : V.length ≤ 100000) (srA : RB W0.heap.size W0 sA nA cA K) (srB : RB W0.heap.size W0 sB nB cB V)
    (hQ : ∀ c a (d : Nat) v w, Q (.panic c) (a.put (some d) v) w → Q (.panic c) a w)
    (hK : ∀ A w a1 n1 c1 a2 n2 c2 gr, SameBut a0 A roL → A.eval (.tmp 11) = .pointer (some ⟨gr, 0, none⟩) → OB W0.heap.size w (.slice a1 n1 c1) K → OB W0.heap.size w (.slice a2 n2 c2) V → T2 w gr (.slice a1 n1 c1) (.slice a2 n2 c2) → Below W0.heap.size W0 w → W0.heap.size ≤ gr → Q .normal A w)
    {A : Act} {w : World} {vA : Value} {vB : Value} (sb : SameBut a0 A roL) (e102 : A.eval (.tmp 102) = .slice sA nA cA) (e108 : A.eval (.tmp 108) = .slice sB nB cB) (bl : Below W0.heap.size W0 w) (eA : A.eval (.tmp 103) = vA) (oA : OB W0.heap.size w vA K) (gA : ∃ g, vA.ownBlock = some g) (eB : A.eval (.tmp 104) = vB) (oB : OB W0.heap.size w vB []) (gB : ∃ g, vB.ownBlock = some g) (dAB : vA.ownBlock ≠ vB.ownBlock) : wpAnyH Tryz.prog .any roOps Q (fun _ => True) 4 #[true, true, true, true, true, true, true, true, true, true, true, true, false, false, false, false] A w := by
  have hszA : A.tmps.size = a0.tmps.size := sb.sz
  refine wpAnyH_ready (rs := [12, 14]) (by kernel_rfl) (by simp) ?_
  obtain ⟨ga, hga⟩ := gA
  obtain ⟨gb, hgb⟩ := gB
  have la := oA.own ga hga
  have lb := oB.own gb hgb
  obtain ⟨v1, w1, hr, h1, h2, h3⟩ := run_append_bytes oB (srB.below bl) (by simp; omega) bl.size 22
  refine step_val (o := ro12) (v := v1) rfl rfl (run_append_op (s := .tmp 104) (x := .tmp 108) rfl eB e108 hr) trivial ?_ ?_
  · rw [List.nil_append] at h1
    obtain ⟨a1, c1, ev1, -⟩ := oA.rb (by omega)
    obtain ⟨a2, c2, ev2, -⟩ := h1.rb (by omega)
    have eA1 : (A.put (some 109) v1).eval (.tmp 103) = .slice a1 K.length c1 := (eval_put_ne (by decide)).trans (eA.trans ev1)
    have eB1 : (A.put (some 109) v1).eval (.tmp 109) = .slice a2 V.length c2 := (eval_put_same (by omega)).trans ev2
    refine wpAnyH_take (i := 13) (oi := ro13) (v := .agg #[.slice a1 K.length c1, .slice a2 V.length c2]) rfl (by kernel_rfl) (by kernel_rfl) (by kernel_rfl) (fun _ _ _ h => hQ _ _ _ _ _ h) (Or.inl ⟨by rfl, fun w' _ => run_build_row (x0 := .tmp 103) (x1 := .tmp 109) rfl eA1 eB1 w'⟩) trivial ?_
    exact node220 hsz hKs hVs srA srB hQ hK ((sb.put (by decide) _).put (by decide) _) ((eval_put_ne (by decide)).trans ((eval_put_ne (by decide)).trans e102)) ((eval_put_ne (by decide)).trans ((eval_put_ne (by decide)).trans e108)) (bl.grown h2 bl.size (fun r e => by rw [hgb] at e; cases e; exact lb.1)) ((eval_put_ne (by decide)).trans (eA1.trans ev1.symm)) (oA.grow h2 (fun r e e2 => dAB (e.trans e2))) (⟨_, hga⟩) ((eval_put_ne (by decide)).trans (eB1.trans ev2.symm)) (h1) ((by rcases h3 with h | h; exact ⟨_, h.trans hgb⟩; exact ⟨_, h⟩)) ((by rcases h3 with h | h; (rw [h]; exact dAB); (rw [h, hga]; intro e; cases e; omega))) ((eval_put_same (by show 110 < (A.put (some 109) v1).tmps.size; rw [size_put]; omega)).trans (by rw [ev1, ev2]))
  refine step_val (o := ro14) (v := .pointer (some ⟨w.heap.size, 0, none⟩)) rfl rfl (run_allocRow rfl _) trivial ?_ ?_
  · exact node211 hsz hKs hVs srA srB hQ hK (sb.put (by decide) _) ((eval_put_ne (by decide)).trans e102) ((eval_put_ne (by decide)).trans e108) (bl.trans ((((Below.refl _ w).alloc (Nat.le_refl _) (.cells #[.slice none 0 0, .slice none 0 0] 60))).mono bl.size)) ((eval_put_ne (by decide)).trans eA) (oA.below (((Below.refl _ w).alloc (Nat.le_refl _) (.cells #[.slice none 0 0, .slice none 0 0] 60)))) (⟨_, hga⟩) ((eval_put_ne (by decide)).trans eB) (oB.below (((Below.refl _ w).alloc (Nat.le_refl _) (.cells #[.slice none 0 0, .slice none 0 0] 60)))) (⟨_, hgb⟩) (eval_put_same (by omega)) (T2.new w _ _) (bl.size) (dAB) ((by rw [hga]; intro e; cases e; omega)) ((by rw [hgb]; intro e; cases e; omega))
  exact AllReadyH.nil
set_option maxRecDepth 100000 in
theorem node110 (hsz : 110 < a0.tmps.size) (hKs : K.length ≤ 100000) (hVs : V.length ≤ 100000) (srA : RB W0.heap.size W0 sA nA cA K) (srB : RB W0.heap.size W0 sB nB cB V)
    (hQ : ∀ c a (d : Nat) v w, Q (.panic c) (a.put (some d) v) w → Q (.panic c) a w)
    (hK : ∀ A w a1 n1 c1 a2 n2 c2 gr, SameBut a0 A roL → A.eval (.tmp 11) = .pointer (some ⟨gr, 0, none⟩) → OB W0.heap.size w (.slice a1 n1 c1) K → OB W0.heap.size w (.slice a2 n2 c2) V → T2 w gr (.slice a1 n1 c1) (.slice a2 n2 c2) → Below W0.heap.size W0 w → W0.heap.size ≤ gr → Q .normal A w)
    {A : Act} {w : World} {vA : Value} {vB : Value} (sb : SameBut a0 A roL) (e102 : A.eval (.tmp 102) = .slice sA nA cA) (e108 : A.eval (.tmp 108) = .slice sB nB cB) (bl : Below W0.heap.size W0 w) (eA : A.eval (.tmp 97) = vA) (oA : OB W0.heap.size w vA []) (gA : ∃ g, vA.ownBlock = some g) (eB : A.eval (.tmp 104) = vB) (oB : OB W0.heap.size w vB []) (gB : ∃ g, vB.ownBlock = some g) (dAB : vA.ownBlock ≠ vB.ownBlock) : wpAnyH Tryz.prog .any roOps Q (fun _ => True) 5 #[true, true, true, true, true, true, false, true, true, true, true, true, false, false, false, false] A w := by
  have hszA : A.tmps.size = a0.tmps.size := sb.sz
  refine wpAnyH_ready (rs := [6, 14]) (by kernel_rfl) (by simp) ?_
  obtain ⟨ga, hga⟩ := gA
  obtain ⟨gb, hgb⟩ := gB
  have la := oA.own ga hga
  have lb := oB.own gb hgb
  obtain ⟨v1, w1, hr, h1, h2, h3⟩ := run_append_bytes oA (srA.below bl) (by simp; omega) bl.size 22
  refine step_val (o := ro6) (v := v1) rfl rfl (run_append_op (s := .tmp 97) (x := .tmp 102) rfl eA e102 hr) trivial ?_ ?_
  · exact node210 hsz hKs hVs srA srB hQ hK (sb.put (by decide) _) ((eval_put_ne (by decide)).trans e102) ((eval_put_ne (by decide)).trans e108) (bl.grown h2 bl.size (fun r e => by rw [hga] at e; cases e; exact la.1)) (eval_put_same (by omega)) ((by rw [List.nil_append] at h1; exact h1)) ((by rcases h3 with h | h; exact ⟨_, h.trans hga⟩; exact ⟨_, h⟩)) ((eval_put_ne (by decide)).trans eB) (oB.grow h2 (fun r e e2 => dAB (e2.symm.trans e.symm))) (⟨_, hgb⟩) ((by rcases h3 with h | h; (rw [h]; exact dAB); (rw [h, hgb]; intro e; cases e; omega)))
  refine step_val (o := ro14) (v := .pointer (some ⟨w.heap.size, 0, none⟩)) rfl rfl (run_allocRow rfl _) trivial ?_ ?_
  · exact node111 hsz hKs hVs srA srB hQ hK (sb.put (by decide) _) ((eval_put_ne (by decide)).trans e102) ((eval_put_ne (by decide)).trans e108) (bl.trans ((((Below.refl _ w).alloc (Nat.le_refl _) (.cells #[.slice none 0 0, .slice none 0 0] 60))).mono bl.size)) ((eval_put_ne (by decide)).trans eA) (oA.below (((Below.refl _ w).alloc (Nat.le_refl _) (.cells #[.slice none 0 0, .slice none 0 0] 60)))) (⟨_, hga⟩) ((eval_put_ne (by decide)).trans eB) (oB.below (((Below.refl _ w).alloc (Nat.le_refl _) (.cells #[.slice none 0 0, .slice none 0 0] 60)))) (⟨_, hgb⟩) (eval_put_same (by omega)) (T2.new w _ _) (bl.size) (dAB) ((by rw [hga]; intro e; cases e; omega)) ((by rw [hgb]; intro e; cases e; omega))
  exact AllReadyH.nil
set_option maxRecDepth 100000 in
theorem node200 (hsz : 110 < a0.tmps.size) (hKs : K.length ≤ 100000) (hVs : V.length ≤ 100000) (srA : RB W0.heap.size W0 sA nA cA K) (srB : RB W0.heap.size W0 sB nB cB V)
    (hQ : ∀ c a (d : Nat) v w, Q (.panic c) (a.put (some d) v) w → Q (.panic c) a w)
    (hK : ∀ A w a1 n1 c1 a2 n2 c2 gr, SameBut a0 A roL → A.eval (.tmp 11) = .pointer (some ⟨gr, 0, none⟩) → OB W0.heap.size w (.slice a1 n1 c1) K → OB W0.heap.size w (.slice a2 n2 c2) V → T2 w gr (.slice a1 n1 c1) (.slice a2 n2 c2) → Below W0.heap.size W0 w → W0.heap.size ≤ gr → Q .normal A w)
    {A : Act} {w : World} {vA : Value} (sb : SameBut a0 A roL) (e102 : A.eval (.tmp 102) = .slice sA nA cA) (e108 : A.eval (.tmp 108) = .slice sB nB cB) (bl : Below W0.heap.size W0 w) (eA : A.eval (.tmp 103) = vA) (oA : OB W0.heap.size w vA K) (gA : ∃ g, vA.ownBlock = some g) : wpAnyH Tryz.prog .any roOps Q (fun _ => True) 5 #[true, true, true, true, true, true, true, false, true, true, true, true, false, false, false, false] A w := by
  have hszA : A.tmps.size = a0.tmps.size := sb.sz
  refine wpAnyH_ready (rs := [7, 14]) (by kernel_rfl) (by simp) ?_
  obtain ⟨ga, hga⟩ := gA
  have la := oA.own ga hga
  refine step_val (o := ro7) (v := .slice (some ⟨w.heap.size, 0, none⟩) 0 0) rfl rfl (run_buildBytes0 rfl _) trivial ?_ ?_
  · exact node210 hsz hKs hVs srA srB hQ hK (sb.put (by decide) _) ((eval_put_ne (by decide)).trans e102) ((eval_put_ne (by decide)).trans e108) (bl.trans ((((Below.refl _ w).alloc (Nat.le_refl _) (.cells #[] 5))).mono bl.size)) ((eval_put_ne (by decide)).trans eA) (oA.below (((Below.refl _ w).alloc (Nat.le_refl _) (.cells #[] 5)))) (⟨_, hga⟩) (eval_put_same (by omega)) (OB.made bl.size) (⟨_, rfl⟩) (by rw [hga]; exact fun e => by have e2 : ga = w.heap.size := Option.some.inj e; omega)
  refine step_val (o := ro14) (v := .pointer (some ⟨w.heap.size, 0, none⟩)) rfl rfl (run_allocRow rfl _) trivial ?_ ?_
  · exact node201 hsz hKs hVs srA srB hQ hK (sb.put (by decide) _) ((eval_put_ne (by decide)).trans e102) ((eval_put_ne (by decide)).trans e108) (bl.trans ((((Below.refl _ w).alloc (Nat.le_refl _) (.cells #[.slice none 0 0, .slice none 0 0] 60))).mono bl.size)) ((eval_put_ne (by decide)).trans eA) (oA.below (((Below.refl _ w).alloc (Nat.le_refl _) (.cells #[.slice none 0 0, .slice none 0 0] 60)))) (⟨_, hga⟩) (eval_put_same (by omega)) (T2.new w _ _) (bl.size) ((by rw [hga]; intro e; cases e; omega))
  exact AllReadyH.nil
set_option maxRecDepth 100000 in
theorem node010 (hsz : 110 < a0.tmps.size) (hKs : K.length ≤ 100000) (hVs : V.length ≤ 100000) (srA : RB W0.heap.size W0 sA nA cA K) (srB : RB W0.heap.size W0 sB nB cB V)
    (hQ : ∀ c a (d : Nat) v w, Q (.panic c) (a.put (some d) v) w → Q (.panic c) a w)
    (hK : ∀ A w a1 n1 c1 a2 n2 c2 gr, SameBut a0 A roL → A.eval (.tmp 11) = .pointer (some ⟨gr, 0, none⟩) → OB W0.heap.size w (.slice a1 n1 c1) K → OB W0.heap.size w (.slice a2 n2 c2) V → T2 w gr (.slice a1 n1 c1) (.slice a2 n2 c2) → Below W0.heap.size W0 w → W0.heap.size ≤ gr → Q .normal A w)
    {A : Act} {w : World} {vB : Value} (sb : SameBut a0 A roL) (e102 : A.eval (.tmp 102) = .slice sA nA cA) (e108 : A.eval (.tmp 108) = .slice sB nB cB) (bl : Below W0.heap.size W0 w) (eB : A.eval (.tmp 104) = vB) (oB : OB W0.heap.size w vB []) (gB : ∃ g, vB.ownBlock = some g) : wpAnyH Tryz.prog .any roOps Q (fun _ => True) 6 #[false, true, true, true, true, true, false, true, true, true, true, true, false, false, false, false] A w := by
  have hszA : A.tmps.size = a0.tmps.size := sb.sz
  refine wpAnyH_ready (rs := [0, 14]) (by kernel_rfl) (by simp) ?_
  obtain ⟨gb, hgb⟩ := gB
  have lb := oB.own gb hgb
  refine step_val (o := ro0) (v := .slice (some ⟨w.heap.size, 0, none⟩) 0 0) rfl rfl (run_buildBytes0 rfl _) trivial ?_ ?_
  · exact node110 hsz hKs hVs srA srB hQ hK (sb.put (by decide) _) ((eval_put_ne (by decide)).trans e102) ((eval_put_ne (by decide)).trans e108) (bl.trans ((((Below.refl _ w).alloc (Nat.le_refl _) (.cells #[] 5))).mono bl.size)) (eval_put_same (by omega)) (OB.made bl.size) (⟨_, rfl⟩) ((eval_put_ne (by decide)).trans eB) (oB.below (((Below.refl _ w).alloc (Nat.le_refl _) (.cells #[] 5)))) (⟨_, hgb⟩) (by rw [hgb]; exact fun e => by have e2 : w.heap.size = gb := Option.some.inj e; omega)
  refine step_val (o := ro14) (v := .pointer (some ⟨w.heap.size, 0, none⟩)) rfl rfl (run_allocRow rfl _) trivial ?_ ?_
  · exact node011 hsz hKs hVs srA srB hQ hK (sb.put (by decide) _) ((eval_put_ne (by decide)).trans e102) ((eval_put_ne (by decide)).trans e108) (bl.trans ((((Below.refl _ w).alloc (Nat.le_refl _) (.cells #[.slice none 0 0, .slice none 0 0] 60))).mono bl.size)) ((eval_put_ne (by decide)).trans eB) (oB.below (((Below.refl _ w).alloc (Nat.le_refl _) (.cells #[.slice none 0 0, .slice none 0 0] 60)))) (⟨_, hgb⟩) (eval_put_same (by omega)) (T2.new w _ _) (bl.size) ((by rw [hgb]; intro e; cases e; omega))
  exact AllReadyH.nil
set_option maxRecDepth 100000 in
theorem node100 (hsz : 110 < a0.tmps.size) (hKs : K.length ≤ 100000) (hVs : V.length ≤ 100000) (srA : RB W0.heap.size W0 sA nA cA K) (srB : RB W0.heap.size W0 sB nB cB V)
    (hQ : ∀ c a (d : Nat) v w, Q (.panic c) (a.put (some d) v) w → Q (.panic c) a w)
    (hK : ∀ A w a1 n1 c1 a2 n2 c2 gr, SameBut a0 A roL → A.eval (.tmp 11) = .pointer (some ⟨gr, 0, none⟩) → OB W0.heap.size w (.slice a1 n1 c1) K → OB W0.heap.size w (.slice a2 n2 c2) V → T2 w gr (.slice a1 n1 c1) (.slice a2 n2 c2) → Below W0.heap.size W0 w → W0.heap.size ≤ gr → Q .normal A w)
    {A : Act} {w : World} {vA : Value} (sb : SameBut a0 A roL) (e102 : A.eval (.tmp 102) = .slice sA nA cA) (e108 : A.eval (.tmp 108) = .slice sB nB cB) (bl : Below W0.heap.size W0 w) (eA : A.eval (.tmp 97) = vA) (oA : OB W0.heap.size w vA []) (gA : ∃ g, vA.ownBlock = some g) : wpAnyH Tryz.prog .any roOps Q (fun _ => True) 6 #[true, true, true, true, true, true, false, false, true, true, true, true, false, false, false, false] A w := by
  have hszA : A.tmps.size = a0.tmps.size := sb.sz
  refine wpAnyH_ready (rs := [6, 7, 14]) (by kernel_rfl) (by simp) ?_
  obtain ⟨ga, hga⟩ := gA
  have la := oA.own ga hga
  obtain ⟨v1, w1, hr, h1, h2, h3⟩ := run_append_bytes oA (srA.below bl) (by simp; omega) bl.size 22
  refine step_val (o := ro6) (v := v1) rfl rfl (run_append_op (s := .tmp 97) (x := .tmp 102) rfl eA e102 hr) trivial ?_ ?_
  · exact node200 hsz hKs hVs srA srB hQ hK (sb.put (by decide) _) ((eval_put_ne (by decide)).trans e102) ((eval_put_ne (by decide)).trans e108) (bl.grown h2 bl.size (fun r e => by rw [hga] at e; cases e; exact la.1)) (eval_put_same (by omega)) ((by rw [List.nil_append] at h1; exact h1)) ((by rcases h3 with h | h; exact ⟨_, h.trans hga⟩; exact ⟨_, h⟩))
  refine step_val (o := ro7) (v := .slice (some ⟨w.heap.size, 0, none⟩) 0 0) rfl rfl (run_buildBytes0 rfl _) trivial ?_ ?_
  · exact node110 hsz hKs hVs srA srB hQ hK (sb.put (by decide) _) ((eval_put_ne (by decide)).trans e102) ((eval_put_ne (by decide)).trans e108) (bl.trans ((((Below.refl _ w).alloc (Nat.le_refl _) (.cells #[] 5))).mono bl.size)) ((eval_put_ne (by decide)).trans eA) (oA.below (((Below.refl _ w).alloc (Nat.le_refl _) (.cells #[] 5)))) (⟨_, hga⟩) (eval_put_same (by omega)) (OB.made bl.size) (⟨_, rfl⟩) (by rw [hga]; exact fun e => by have e2 : ga = w.heap.size := Option.some.inj e; omega)
  refine step_val (o := ro14) (v := .pointer (some ⟨w.heap.size, 0, none⟩)) rfl rfl (run_allocRow rfl _) trivial ?_ ?_
  · exact node101 hsz hKs hVs srA srB hQ hK (sb.put (by decide) _) ((eval_put_ne (by decide)).trans e102) ((eval_put_ne (by decide)).trans e108) (bl.trans ((((Below.refl _ w).alloc (Nat.le_refl _) (.cells #[.slice none 0 0, .slice none 0 0] 60))).mono bl.size)) ((eval_put_ne (by decide)).trans eA) (oA.below (((Below.refl _ w).alloc (Nat.le_refl _) (.cells #[.slice none 0 0, .slice none 0 0] 60)))) (⟨_, hga⟩) (eval_put_same (by omega)) (T2.new w _ _) (bl.size) ((by rw [hga]; intro e; cases e; omega))
  exact AllReadyH.nil
set_option maxRecDepth 100000 in
theorem node000 (hsz : 110 < a0.tmps.size) (hKs : K.length ≤ 100000) (hVs : V.length ≤ 100000) (srA : RB W0.heap.size W0 sA nA cA K) (srB : RB W0.heap.size W0 sB nB cB V)
    (hQ : ∀ c a (d : Nat) v w, Q (.panic c) (a.put (some d) v) w → Q (.panic c) a w)
    (hK : ∀ A w a1 n1 c1 a2 n2 c2 gr, SameBut a0 A roL → A.eval (.tmp 11) = .pointer (some ⟨gr, 0, none⟩) → OB W0.heap.size w (.slice a1 n1 c1) K → OB W0.heap.size w (.slice a2 n2 c2) V → T2 w gr (.slice a1 n1 c1) (.slice a2 n2 c2) → Below W0.heap.size W0 w → W0.heap.size ≤ gr → Q .normal A w)
    {A : Act} {w : World} (sb : SameBut a0 A roL) (e102 : A.eval (.tmp 102) = .slice sA nA cA) (e108 : A.eval (.tmp 108) = .slice sB nB cB) (bl : Below W0.heap.size W0 w) : wpAnyH Tryz.prog .any roOps Q (fun _ => True) 7 #[false, true, true, true, true, true, false, false, true, true, true, true, false, false, false, false] A w := by
  have hszA : A.tmps.size = a0.tmps.size := sb.sz
  refine wpAnyH_ready (rs := [0, 7, 14]) (by kernel_rfl) (by simp) ?_
  refine step_val (o := ro0) (v := .slice (some ⟨w.heap.size, 0, none⟩) 0 0) rfl rfl (run_buildBytes0 rfl _) trivial ?_ ?_
  · exact node100 hsz hKs hVs srA srB hQ hK (sb.put (by decide) _) ((eval_put_ne (by decide)).trans e102) ((eval_put_ne (by decide)).trans e108) (bl.trans ((((Below.refl _ w).alloc (Nat.le_refl _) (.cells #[] 5))).mono bl.size)) (eval_put_same (by omega)) (OB.made bl.size) (⟨_, rfl⟩)
  refine step_val (o := ro7) (v := .slice (some ⟨w.heap.size, 0, none⟩) 0 0) rfl rfl (run_buildBytes0 rfl _) trivial ?_ ?_
  · exact node010 hsz hKs hVs srA srB hQ hK (sb.put (by decide) _) ((eval_put_ne (by decide)).trans e102) ((eval_put_ne (by decide)).trans e108) (bl.trans ((((Below.refl _ w).alloc (Nat.le_refl _) (.cells #[] 5))).mono bl.size)) (eval_put_same (by omega)) (OB.made bl.size) (⟨_, rfl⟩)
  refine step_val (o := ro14) (v := .pointer (some ⟨w.heap.size, 0, none⟩)) rfl rfl (run_allocRow rfl _) trivial ?_ ?_
  · exact node001 hsz hKs hVs srA srB hQ hK (sb.put (by decide) _) ((eval_put_ne (by decide)).trans e102) ((eval_put_ne (by decide)).trans e108) (bl.trans ((((Below.refl _ w).alloc (Nat.le_refl _) (.cells #[.slice none 0 0, .slice none 0 0] 60))).mono bl.size)) (eval_put_same (by omega)) (T2.new w _ _) (bl.size)
  exact AllReadyH.nil
end
end Go.Proofs.YtbinikbgbgggaaaGreatDoor
