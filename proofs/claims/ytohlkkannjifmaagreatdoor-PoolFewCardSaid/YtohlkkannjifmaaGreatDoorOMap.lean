/- The plain law of PageKeeps: the law's rows (in no order) beside the page's rows; heads set; a turn turned back. Maps keyed by numbers, as functions, and what they have; struck, cleared, gone through. -/
import Derived.Test.YtohlkkannjifmaaGreatDoorNums
import Derived.Test.YtohlkkannjifmaaGreatDoorPageA
import Derived.Maps.RangeWalk
import Derived.WideKeyArgs2
import Derived.OwnWalk
namespace Go.Proofs.YtohlkkannjifmaaGreatDoor
open Go.RowKit Go.Shelf
def fidx (L : List Rw) (k : List UInt8) : Option Nat := L.findIdx? fun r => decide (r.1 = k)
def fint (o : Option Nat) : Int := match o with | some i => (i : Int) | none => -1
theorem fidx_some {L : List Rw} {k : List UInt8} {i : Nat} (h : fidx L k = some i) : ∃ v, L[i]? = some (k, v) ∧ i < L.length := by
  unfold fidx at h
  rw [List.findIdx?_eq_some_iff_getElem] at h
  obtain ⟨hi, h1, -⟩ := h
  simp only [decide_eq_true_eq] at h1
  exact ⟨L[i].2, by rw [List.getElem?_eq_getElem hi, ← h1], hi⟩
theorem fidx_none {L : List Rw} {k : List UInt8} (h : fidx L k = none) : ∀ r ∈ L, r.1 ≠ k := by
  unfold fidx at h
  rw [List.findIdx?_eq_none_iff] at h
  intro r hr e
  have := h r hr
  simp [e] at this
theorem got_of_mem : ∀ {R : List Rw} (_ : Up R) {k v : List UInt8}, (k, v) ∈ R → got R k = some v
  | [], _, k, v, h => by simp at h
  | r :: R, hup, k, v, h => by
    unfold Up at hup
    rw [List.pairwise_cons] at hup
    unfold got
    rcases List.mem_cons.1 h with h | h
    · subst h; simp
    · have h1 := hup.1 _ h
      have hne : r.1 ≠ k := by intro e; rw [e] at h1; exact cb_lt_irrefl _ h1
      rw [List.find?_cons_of_neg (by simpa using hne)]
      exact got_of_mem hup.2 h
theorem got_mem {R : List Rw} {k v : List UInt8} (h : got R k = some v) : (k, v) ∈ R := by
  unfold got at h
  rw [Option.map_eq_some_iff] at h
  obtain ⟨r, hr, rfl⟩ := h
  have h1 := List.find?_some hr
  simp only [decide_eq_true_eq] at h1
  have := List.mem_of_find?_eq_some hr
  rw [← h1]; exact this
theorem up_keys {R : List Rw} (hup : Up R) {a b : Rw} (ha : a ∈ R) (hb : b ∈ R) (h : a.1 = b.1) : a = b := by
  obtain ⟨k, v⟩ := a
  obtain ⟨k', v'⟩ := b
  dsimp only at h
  subst h
  have h1 := got_of_mem hup ha
  have h2 := got_of_mem hup hb
  rw [h1] at h2
  cases h2; rfl
theorem fidx_in {L R : List Rw} (hp : L.Perm R) (hup : Up R) {k v : List UInt8} (h : (k, v) ∈ R) : ∃ i, fidx L k = some i ∧ L[i]? = some (k, v) ∧ i < L.length := by
  have hm : (k, v) ∈ L := hp.mem_iff.2 h
  cases hf : fidx L k with
  | none => exact absurd rfl (fidx_none hf _ hm)
  | some i =>
    obtain ⟨v', h1, h2⟩ := fidx_some hf
    have hm' : (k, v') ∈ R := hp.mem_iff.1 (List.mem_of_getElem? h1)
    have := up_keys hup hm' h rfl
    cases this
    exact ⟨i, rfl, h1, h2⟩
theorem fidx_out {L R : List Rw} (hp : L.Perm R) {k : List UInt8} (h : got R k = none) : fidx L k = none := by
  cases hf : fidx L k with
  | none => rfl
  | some i =>
    obtain ⟨v', h1, h2⟩ := fidx_some hf
    have hm' : (k, v') ∈ R := hp.mem_iff.1 (List.mem_of_getElem? h1)
    unfold got at h
    rw [Option.map_eq_none_iff, List.find?_eq_none] at h
    exact absurd (by simp) (h _ hm')
theorem erase_perm {L : List Rw} {i : Nat} {r : Rw} {A B : List Rw} (hi : L[i]? = some r) (hp : L.Perm (A ++ r :: B)) : (L.take i ++ L.drop (i + 1)).Perm (A ++ B) := by
  have hlt : i < L.length := (List.getElem?_eq_some_iff.1 hi).1
  have hr : L[i] = r := (List.getElem?_eq_some_iff.1 hi).2
  have e : L = L.take i ++ r :: L.drop (i + 1) := by
    rw [← hr, ← List.drop_eq_getElem_cons hlt, List.take_append_drop]
  rw [e] at hp
  have h1 : (r :: (L.take i ++ L.drop (i + 1))).Perm (r :: (A ++ B)) := (List.perm_middle.symm.trans hp).trans List.perm_middle
  exact h1.cons_inv
def rowsTo (L : List Rw) (k n : List UInt8) : List Rw := (match fidx L k with | some i => L.take i ++ L.drop (i + 1) | none => L) ++ sel k n
theorem turn_no {h : List UInt8} {R : List Rw} (H : PageOf h R) (k o n : List UInt8) (h0 : (turnL (mkP h R) k o n).1 ≠ 0) : (turnL (mkP h R) k o n).2 = mkP h R := by
  rw [turnL_mk H] at h0 ⊢
  by_cases h1 : turnedB k.length o.length n.length = false
  · rw [if_pos h1]
  by_cases h2 : got R k ≠ (if o = [] then none else some o)
  · rw [if_neg h1, if_pos h2]
  by_cases h3 : 501 < (enc (put R k n)).length
  · rw [if_neg h1, if_neg h2, if_pos h3]
  rw [if_neg h1, if_neg h2, if_neg h3] at h0
  exact absurd rfl h0
theorem turned_swap (k o n : List UInt8) (h : turnedB k.length o.length n.length = true) : turnedB k.length n.length o.length = true := by
  rw [turned_iff] at h ⊢
  obtain ⟨a, b, c, d, e⟩ := h
  exact ⟨a, b, c.symm, e, d⟩
theorem turn_ok {h : List UInt8} {L R : List Rw} (H : PageOf h R) (hp : L.Perm R) (k o n : List UInt8) (h0 : (turnL (mkP h R) k o n).1 = 0) :
    (turnL (mkP h R) k o n).2 = mkP h (put R k n) ∧ PageOf h (put R k n) ∧ (rowsTo L k n).Perm (put R k n) ∧ turnL (mkP h (put R k n)) k n o = (0, mkP h R) ∧
    ((o = [] ∧ fidx L k = none) ∨ (o ≠ [] ∧ ∃ i, fidx L k = some i ∧ L[i]? = some (k, o) ∧ i < L.length)) := by
  rw [turnL_mk H] at h0 ⊢
  by_cases c1 : turnedB k.length o.length n.length = false
  · rw [if_pos c1] at h0; cases h0
  rw [if_neg c1] at h0 ⊢
  by_cases c2 : got R k ≠ (if o = [] then none else some o)
  · rw [if_pos c2] at h0; cases h0
  rw [if_neg c2] at h0 ⊢
  by_cases c3 : 501 < (enc (put R k n)).length
  · rw [if_pos c3] at h0; cases h0
  rw [if_neg c3]
  have c1' : turnedB k.length o.length n.length = true := by simpa using c1
  have c2' : got R k = (if o = [] then none else some o) := by simpa using c2
  obtain ⟨t1, t2, t3, t4, t5⟩ := (turned_iff k o n).1 c1'
  have H' : PageOf h (put R k n) := put_page H (fun hN => ⟨t1, t2, List.length_pos_iff.2 hN, t5⟩) (by omega)
  refine ⟨rfl, H', ?_, ?_, ?_⟩
  · by_cases ho : o = []
    · rw [if_pos ho] at c2'
      have hf := fidx_out hp c2'
      unfold rowsTo
      rw [hf]
      dsimp only
      rcases split_at H.up k with ⟨-, hR⟩ | ⟨v, hg, -⟩
      · unfold put
        rw [hR] at hp
        rw [List.append_assoc]
        refine (hp.append_right _).trans ?_
        rw [List.append_assoc]
        exact List.perm_append_comm.append_left _
      · rw [c2'] at hg; cases hg
    · rw [if_neg ho] at c2'
      obtain ⟨i, hf, hi, -⟩ := fidx_in hp H.up (got_mem c2')
      unfold rowsTo
      rw [hf]
      dsimp only
      rcases split_at H.up k with ⟨hg, -⟩ | ⟨v, hg, hR⟩
      · rw [c2'] at hg; cases hg
      · rw [c2'] at hg; cases hg
        rw [hR] at hp
        have he := erase_perm hi hp
        unfold put
        rw [List.append_assoc (bef R k)]
        refine (he.append_right _).trans ?_
        rw [List.append_assoc]
        exact List.perm_append_comm.append_left _
  · rw [turnL_mk H', if_neg (by rw [turned_swap k o n c1']; simp), if_neg (by rw [got_put]; simp), put_put]
    have hb : put R k o = R := by
      by_cases ho : o = []
      · rw [if_pos ho] at c2'; rw [ho]; exact put_none H.up c2'
      · rw [if_neg ho] at c2'; exact put_some H.up c2' ho
    rw [hb, if_neg (by have := H.fit; omega)]
  · by_cases ho : o = []
    · rw [if_pos ho] at c2'
      exact .inl ⟨ho, fidx_out hp c2'⟩
    · rw [if_neg ho] at c2'
      obtain ⟨i, hf, hi, hl⟩ := fidx_in hp H.up (got_mem c2')
      exact .inr ⟨ho, i, hf, hi, hl⟩
/-! ### Heads -/
theorem mkP_take8 {h : List UInt8} {R : List Rw} (H : PageOf h R) : (mkP h R).take 8 = h.take 8 := by
  unfold mkP
  have := H.hl
  rw [List.append_assoc, List.take_append_of_le_length (by omega)]
theorem lsn_mk {h : List UInt8} {R : List Rw} (H : PageOf h R) : lsnL (mkP h R) = numL (h.take 8) := by
  unfold lsnL
  rw [behind_mk H, if_neg (by omega), mkP_take8 H]
theorem numL_be8 (x : Nat) (hx : x < 18446744073709551616) : numL (be8 x) = x := by
  have hr : List.range 8 = [0, 1, 2, 3, 4, 5, 6, 7] := rfl
  unfold numL be8
  rw [hr]
  simp only [List.map_cons, List.map_nil, List.foldl_cons, List.foldl_nil, UInt8.toNat_ofNat']
  simp only [Nat.reduceMul, Nat.reduceSub, Nat.reducePow]
  omega
theorem be8_bt0 (x : Nat) : bt (be8 x) 0 = (x / 72057594037927936 % 256 : Nat) := by
  unfold bt
  rw [List.getD_eq_getElem?_getD, be8_get x 0 (by decide)]
  simp
def headLsn (h : List UInt8) (x : Nat) : List UInt8 := be8 x ++ h.drop 8
theorem setLsn_mk {h : List UInt8} {R : List Rw} (H : PageOf h R) {x : Int} (h0 : 0 ≤ x) (h1 : x ≤ 9223372036854775807) :
    setLsnL (mkP h R) x = mkP (headLsn h x.toNat) R ∧ PageOf (headLsn h x.toNat) R ∧ numL ((headLsn h x.toNat).take 8) = x.toNat ∧ (bt (headLsn h x.toNat) 8) = bt h 8 ∧ bt (headLsn h x.toNat) 9 = bt h 9 := by
  have hl := H.hl
  have h8 : bt (headLsn h x.toNat) 8 = bt h 8 := by
    unfold headLsn
    rw [bt_right' (i := 0) (by rw [be8_len])]
    unfold bt
    simp [List.getD_eq_getElem?_getD]
  have h9 : bt (headLsn h x.toNat) 9 = bt h 9 := by
    unfold headLsn
    rw [bt_right' (i := 1) (by rw [be8_len])]
    unfold bt
    simp [List.getD_eq_getElem?_getD]
  refine ⟨?_, ⟨?_, ?_, ?_, H.fit, H.ok, H.up⟩, ?_, h8, h9⟩
  · unfold setLsnL
    rw [if_pos ⟨by rw [behind_mk H]; omega, h0⟩]
    unfold mkP headLsn
    simp only [List.append_assoc]
    rw [List.drop_append_of_le_length (by omega)]
  · unfold headLsn; simp [be8_len, hl]
  · unfold headLsn
    rw [bt_left (by rw [be8_len]; omega), be8_bt0]
    omega
  · rw [h8]; exact H.h8
  · unfold headLsn
    rw [List.take_append_of_le_length (by rw [be8_len]; omega), List.take_of_length_le (by rw [be8_len]; omega), numL_be8 _ (by omega)]
theorem setLsn_no (p : List UInt8) {x : Int} (h : x < 0) : setLsnL p x = p := by
  unfold setLsnL; rw [if_neg (by omega)]
theorem bt_set (l : List UInt8) (i j : Nat) (v : UInt8) (h : i < l.length) : bt (l.set i v) j = if i = j then (v.toNat : Int) else bt l j := by
  unfold bt
  rw [List.getD_eq_getElem?_getD, List.getElem?_set]
  by_cases e : i = j
  · rw [if_pos e, if_pos e, if_pos (by omega)]; rfl
  · rw [if_neg e, if_neg e, List.getD_eq_getElem?_getD]
def headNext (h : List UInt8) (x : Nat) : List UInt8 := (h.set 8 (UInt8.ofNat (x / 256))).set 9 (UInt8.ofNat x)
theorem setNext_mk {h : List UInt8} {R : List Rw} (H : PageOf h R) {x : Int} (h0 : 0 ≤ x) (h1 : x < 8192) :
    setNextL (mkP h R) x = mkP (headNext h x.toNat) R ∧ PageOf (headNext h x.toNat) R ∧ numL ((headNext h x.toNat).take 8) = numL (h.take 8) ∧ (bt (headNext h x.toNat) 8).toNat * 256 + (bt (headNext h x.toNat) 9).toNat = x.toNat := by
  have hl := H.hl
  have hb : ∀ j, bt (headNext h x.toNat) j = if 9 = j then ((UInt8.ofNat x.toNat).toNat : Int) else if 8 = j then ((UInt8.ofNat (x.toNat / 256)).toNat : Int) else bt h j := fun j => by
    unfold headNext
    rw [bt_set _ _ _ _ (by simp [hl]), bt_set _ _ _ _ (by omega)]
  have hb8 : bt (headNext h x.toNat) 8 = (x.toNat / 256 : Nat) := by
    rw [hb, if_neg (by omega), if_pos rfl, UInt8.toNat_ofNat', Nat.mod_eq_of_lt (by omega)]
  have hb9 : bt (headNext h x.toNat) 9 = (x.toNat % 256 : Nat) := by
    rw [hb, if_pos rfl, UInt8.toNat_ofNat']
  refine ⟨?_, ⟨?_, ?_, ?_, H.fit, H.ok, H.up⟩, ?_, ?_⟩
  · unfold setNextL
    rw [if_pos ⟨by rw [behind_mk H]; omega, h0, h1⟩]
    unfold mkP headNext
    simp only [List.append_assoc]
    rw [List.set_append_left _ _ (by omega), List.set_append_left _ _ (by simp; omega)]
  · unfold headNext; simp [hl]
  · rw [hb, if_neg (by omega), if_neg (by omega)]; exact H.h0
  · rw [hb8]; omega
  · unfold headNext
    rw [List.take_set_of_le (by omega), List.take_set_of_le (by omega)]
  · rw [hb8, hb9]; omega
theorem setNext_no (p : List UInt8) {x : Int} (h : ¬ (0 ≤ x ∧ x < 8192)) : setNextL p x = p := by
  unfold setNextL; rw [if_neg (by omega)]
/-! ### The room, row by row -/
end Go.Proofs.YtohlkkannjifmaaGreatDoor
namespace Go.Proofs.YtohlkkannjifmaaGreatDoor
open Go.RowKit Go.Maps Go.ChangeMaps Go.MapKept Go.WideShapes
def RVal (v : Value) : Option (DataW Value × List MemPlace) := some (.held v, [])
def updV (f : Int → Value) (i : Int) (v : Value) : Int → Value := fun j => if j = i then v else f j
theorem ikey : Keyed Tryz.prog 3 := int_keyed Tryz.underlying3
theorem ikey_of (s : Int) (h1 : -9223372036854775808 ≤ s) (h2 : s ≤ 9223372036854775807) : keyOf Tryz.prog 3 (.int .i64 s) = some (.int .i64 s) :=
  keyOf_int_mk Tryz.underlying3 (by
    have e1 : IntKind.i64.min = -9223372036854775808 := by decide
    have e2 : IntKind.i64.max = 9223372036854775807 := by decide
    simp only [Lit.wf, Bool.and_eq_true, decide_eq_true_eq, e1, e2]
    exact ⟨h1, h2⟩)
theorem sameKey_int (s x : Int) : (Lit.int .i64 s).sameKey (.int .i64 x) = decide (s = x) := decide_eq_decide.2 ⟨And.right, fun h => ⟨rfl, h⟩⟩
def MH (w : World) (b n : Nat) (z : Value) (f : Int → Value) (g : Int → Bool) : Prop := ∃ D, w.ownsMap Tryz.prog 3 RVal b n D ∧ (∀ s, D.atKey (.int .i64 s) (.held z) = .held (f s)) ∧ ∀ s, Maps.has D (.int .i64 s) = g s
theorem MH.made (w : World) (z : Value) : MH (w.alloc (.map #[] 0)) w.heap.size 0 z (fun _ => z) (fun _ => false) := ⟨_, World.ownsMap_made _ _ _ _, fun _ => rfl, fun _ => rfl⟩
section
variable {w w' : World} {b n : Nat} {z : Value} {f : Int → Value} {g : Int → Bool}
theorem MH.lt (h : MH w b n z f g) : b < w.heap.size := by
  obtain ⟨D, h1, -⟩ := h
  exact h1.lt
theorem MH.block (h : MH w b n z f g) (hb : w'.heap[b]? = w.heap[b]?) : MH w' b n z f g := by
  obtain ⟨D, ⟨es, clock, h1, h2⟩, h3⟩ := h
  exact ⟨D, ⟨es, clock, hb.trans h1, h2⟩, h3⟩
theorem MH.off (h : MH w b n z f g) {s : Int} (hs : g s = false) : f s = z := by
  obtain ⟨D, h1, h2, h3⟩ := h
  have e := atKey_of_not_has ((h3 s).trans hs) (.held z)
  rw [h2] at e
  exact DataW.held.inj e
theorem MH.lookOk (h : MH w b n z f g) {t e : TypeId} (ht : Tryz.prog.underlying t = some (.map 3 e)) (hz : (zeroValue e).run Tryz.prog w = .ok z w) (s : Int) (h1 : -9223372036854775808 ≤ s) (h2 : s ≤ 9223372036854775807) :
    (Instr.lookup t (.map (some b)) (.int .i64 s) true).run Tryz.prog w = .ok (.tuple #[f s, .bool (g s)]) w := by
  obtain ⟨D, h3, h4, h5⟩ := h
  obtain ⟨v, ps, hrun, hv⟩ := h3.look_ok ikey ht hz (zd := .held z) (zp := []) rfl (ikey_of s h1 h2)
  rw [h4 s] at hv
  cases hv
  rw [h5 s] at hrun
  exact hrun
theorem MH.look (h : MH w b n z f g) {t e : TypeId} (ht : Tryz.prog.underlying t = some (.map 3 e)) (hz : (zeroValue e).run Tryz.prog w = .ok z w) (s : Int) (h1 : -9223372036854775808 ≤ s) (h2 : s ≤ 9223372036854775807) :
    (Instr.lookup t (.map (some b)) (.int .i64 s) false).run Tryz.prog w = .ok (f s) w := by
  obtain ⟨D, h3, h4, -⟩ := h
  obtain ⟨v, ps, hrun, hv⟩ := h3.lookup ikey ht hz (zd := .held z) (zp := []) rfl (ikey_of s h1 h2)
  rw [h4 s] at hv
  cases hv
  exact hrun
theorem MH.put (h : MH w b n z f g) {t e : TypeId} (ht : Tryz.prog.underlying t = some (.map 3 e)) (hn : n < 9223372036854775807) (s : Int) (h1 : -9223372036854775808 ≤ s) (h2 : s ≤ 9223372036854775807) (v : Value) :
    ∃ w', (Instr.mapUpdate t (.map (some b)) (.int .i64 s) v).run Tryz.prog w = .ok () w' ∧ MH w' b (n + 1) z (updV f s v) (fun x => if x = s then true else g x) ∧ w.grownBy w' (some b) := by
  obtain ⟨D, h3, h4, h5⟩ := h
  obtain ⟨w', hrun, r1, r2⟩ := h3.update ikey ht (by simpa [maxLen] using hn) (ikey_of s h1 h2) (val := v) (d := .held v) (ps := []) rfl
  refine ⟨w', hrun, ⟨_, r1, fun x => ?_, fun x => ?_⟩, r2⟩
  · by_cases e : x = s
    · subst e
      rw [atKey_put_same h3.isMap (show WideAt.IsKeyLit (.int .i64 x) by trivial)]
      simp [updV]
    · rw [atKey_put_other (fun e2 => e (by cases e2; rfl)), h4]
      simp [updV, e]
  · by_cases e : x = s
    · subst e
      rw [has_put_same h3.isMap (show WideAt.IsKeyLit (.int .i64 x) by trivial)]
      exact (if_pos rfl).symm
    · rw [has_put_other (fun e2 => e (by cases e2; rfl)), h5]
      exact (if_neg e).symm
theorem MH.del (h : MH w b n z f g) {t e : TypeId} (ht : Tryz.prog.underlying t = some (.map 3 e)) (s : Int) (h1 : -9223372036854775808 ≤ s) (h2 : s ≤ 9223372036854775807) (ty : TypeId) :
    ∃ w', (Builtin.delete_ #[t, 3] ty #[.map (some b), .int .i64 s]).run Tryz.prog w = .ok (.tuple #[]) w' ∧ MH w' b n z (updV f s z) (fun x => if x = s then false else g x) ∧ w.grownBy w' (some b) := by
  obtain ⟨D, h3, h4, h5⟩ := h
  obtain ⟨w', hrun, r1, r2⟩ := h3.drop ikey ht (ikey_of s h1 h2) ty
  refine ⟨w', hrun, ⟨_, r1, fun x => ?_, fun x => ?_⟩, r2.grown⟩
  · by_cases e : x = s
    · subst e
      rw [atKey_del_same]
      simp [updV]
    · rw [atKey_del_other (fun e2 => e (by cases e2; rfl)), h4]
      simp [updV, e]
  · by_cases e : x = s
    · subst e
      rw [has_del_same]
      exact (if_pos rfl).symm
    · rw [has_del_other (fun e2 => e (by cases e2; rfl)), h5]
      exact (if_neg e).symm
theorem MH.clear (h : MH w b n z f g) {t e : TypeId} (ht : Tryz.prog.underlying t = some (.map 3 e)) (ty : TypeId) :
    ∃ w', (Builtin.clear_ #[t] ty #[.map (some b)]).run Tryz.prog w = .ok (.tuple #[]) w' ∧ MH w' b 0 z (fun _ => z) (fun _ => false) ∧ w.grownBy w' (some b) := by
  obtain ⟨D, ⟨es, clock, hb, F, hs, rfl⟩, h4, h5⟩ := h
  have hrun : (Builtin.clear_ #[t] ty #[.map (some b)]).run Tryz.prog w = .ok (.tuple #[]) (setBlock w b (.map #[] clock)) := by
    simp [Builtin.clear_, run_underlying ht, Go.MapKept.run_getObj_map hb, Go.MapKept.run_setObj_map _ hb, Result.andThen, setBlock]
  refine ⟨_, hrun, ⟨_, ⟨#[], clock, heap_setBlock_same hb _, ⟨by simp, stamped_empty _, by simp⟩, Nat.le_refl _, rfl⟩, fun _ => rfl, fun _ => rfl⟩, ⟨rfl, rfl, rfl, by simp [setBlock], fun i _ hi => heap_setBlock_other hb _ (fun e => hi (by rw [e]))⟩⟩
end
def MR (w : World) (b r n : Nat) (z : Value) (f : Int → Value) (g lf : Int → Bool) (cnt : Nat) : Prop :=
  ∃ D left, w.ranges Tryz.prog 3 RVal b r n D left cnt ∧ (∀ s, D.atKey (.int .i64 s) (.held z) = .held (f s)) ∧ (∀ s, Maps.has D (.int .i64 s) = g s) ∧ ∀ s, left (.int .i64 s) = lf s
section
variable {w w' : World} {b r n cnt : Nat} {z : Value} {f : Int → Value} {g lf : Int → Bool}
theorem MR.left_eq (h : MR w b r n z f g lf cnt) : w.rangeLeft b r = cnt := by
  obtain ⟨D, left, h1, -⟩ := h
  exact h1.left_eq
theorem MR.next (h : MR w b r n z f g lf cnt) (ty : TypeId) :
    ((∀ s, lf s = false) ∧ (Instr.next (.pointer (some ⟨r, 0, none⟩)) false ty).run Tryz.prog w = .ok (.tuple #[.bool false]) w) ∨
    ∃ x w' cnt', -9223372036854775808 ≤ x ∧ x ≤ 9223372036854775807 ∧ lf x = true ∧ (Instr.next (.pointer (some ⟨r, 0, none⟩)) false ty).run Tryz.prog w = .ok (.tuple #[.bool true, .int .i64 x, f x]) w' ∧
      MR w' b r n z f g (fun s => lf s && !decide (s = x)) cnt' ∧ cnt' < cnt ∧ w.grownBy w' (some r) ∧ w'.heap.size = w.heap.size ∧ (Instr.entry (.pointer (some ⟨r, 0, none⟩))).run Tryz.prog w' = .ok (.tuple #[.int .i64 x, f x]) w' := by
  obtain ⟨D, left, h1, h2, h3, h4⟩ := h
  rcases h1.next ikey ty with ⟨-, hl, hrun⟩ | ⟨key, v, kl, y, w', cnt', hkey, hlk, hv, hat, hrun, hrg, hlt, hg, hs, hen⟩
  · exact .inl ⟨fun s => by rw [← h4]; exact hl _, hrun⟩
  · obtain ⟨x, rfl, rfl, hw⟩ := Maps.keyOf_int_inv Tryz.underlying3 hkey
    cases hv
    have e2 := hat (.held z)
    rw [h2] at e2
    cases e2
    have e3 : IntKind.i64.min = -9223372036854775808 := by decide
    have e4 : IntKind.i64.max = 9223372036854775807 := by decide
    simp only [Lit.wf, Bool.and_eq_true, decide_eq_true_eq, e3, e4] at hw
    exact .inr ⟨x, w', cnt', hw.1, hw.2, by rw [← h4]; exact hlk, hrun, ⟨D, _, hrg, h2, h3, fun s => by
      show (left (.int .i64 s) && !(Lit.int .i64 s).sameKey (.int .i64 x)) = _
      rw [h4, sameKey_int]⟩, hlt, hg, hs, hen⟩
theorem MR.mh (h : MR w b r n z f g lf cnt) : MH w b n z f g := by
  obtain ⟨D, left, h1, h2, h3, -⟩ := h
  exact ⟨D, h1.owns, h2, h3⟩
theorem MR.kept (h : MR w b r n z f g lf cnt) {row : Option Nat} (hg : w.grownBy w' row) (hb : some b ≠ row) (hr : some r ≠ row) : MR w' b r n z f g lf cnt := by
  obtain ⟨D, left, h1, h2⟩ := h
  exact ⟨D, left, h1.kept hg hb hr, h2⟩
theorem MR.alloc (h : MR w b r n z f g lf cnt) (o : Obj) : MR (w.alloc o) b r n z f g lf cnt := h.kept (World.grownBy_alloc w o none) (by simp) (by simp)
end
section
variable {w : World} {ops : Array Oper} {rest : List Oper} {o : Oper} {a : Act} {Q : Exit → Act → World → Prop}
theorem wpList_range_mh (hgd : o.guard = none) (m : Operand) (t : TypeId) (ho : o.op = .range t m) {e : TypeId} (ht : Tryz.prog.underlying t = some (.map 3 e)) {b n : Nat} {z : Value} {f : Int → Value} {g : Int → Bool}
    (h : MH w b n z f g) (hm : a.eval m = .map (some b))
    (hK : ∀ w' cnt, cnt ≤ n → MR w' b w.heap.size n z f g g cnt → w.grownBy w' none → w'.heap.size = w.heap.size + 1 → wpList Tryz.prog ops Q rest (a.put o.dst (.pointer (some ⟨w.heap.size, 0, none⟩))) w') : wpList Tryz.prog ops Q (o :: rest) a w := by
  obtain ⟨D, h3, h4, h5⟩ := h
  exact wpList_range_own w hgd m t ho _ e ikey ht RVal b n D hm h3 fun w' hr hg hs => hK w' _ h3.size_le ⟨D, _, hr, h4, h5, h5⟩ hg hs
theorem wpList_put_mh (hgd : o.guard = none) (m x v : Operand) (t : TypeId) (ho : o.op = .mapUpdate t m x v) {e : TypeId}
    (ht : Tryz.prog.underlying t = some (.map 3 e)) {b n : Nat} {z : Value} {f : Int → Value} {g : Int → Bool} (h : MH w b n z f g) (hn : n < 9223372036854775807) (s : Int) (val : Value) (hm : a.eval m = .map (some b)) (hx : a.eval x = .int .i64 s) (hv : a.eval v = val) (h1 : -9223372036854775808 ≤ s) (h2 : s ≤ 9223372036854775807)
    (hK : ∀ w', MH w' b (n + 1) z (updV f s val) (fun x => if x = s then true else g x) → w.grownBy w' (some b) → wpList Tryz.prog ops Q rest (a.put o.dst undef) w') : wpList Tryz.prog ops Q (o :: rest) a w := by
  refine wpList_plain hgd fun K' hK' => ?_
  obtain ⟨w', hrun, r1, r2⟩ := h.put ht hn s h1 h2 val
  unfold Oper.wp
  simp [execOp, ho, hm, hx, hv, hrun, Result.andThen]
  exact hK' _ _ (hK w' r1 r2)
end
end Go.Proofs.YtohlkkannjifmaaGreatDoor
