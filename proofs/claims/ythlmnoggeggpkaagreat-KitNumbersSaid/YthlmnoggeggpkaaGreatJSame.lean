/- Marks; lists of numbers that are lent, and kept. The walk of storemankit.SameParts. -/
import Derived.Test.YthlmnoggeggpkaaGreatJAdd
import Derived.Laws.StructEq
namespace Go.Proofs.YthlmnoggeggpkaaGreat
open Go.RowKit

/-- The mark's number. -/
def markN (k i : Nat) : Nat := 1000003 * (k + 7) + i
theorem mark_any (k i : Nat) (w : World) (hk : k ≤ 1000000) (hi : i ≤ 1000000000) :
    Calls Tryz.prog 48 #[.int .i64 k, .int .i64 i] w fun e w' => e = .returned (.int .i64 (markN k i : Nat)) ∧ w = w' := by
  have hf : ((markN k i : Nat) : Int) = 1000003 * ((k : Int) + 7) + (i : Int) := by unfold markN; omega
  have Hf := Lib.hid hf
  clear hf
  go_enter Tryz.func48, Tryz.ntmps48
  go_wp2_with (fail)
  go_ret
  exact ⟨by rw [Hf.out]; rfl, rfl⟩
theorem markN_bd (k i : Nat) (hk : k ≤ 1000000) (hi : i ≤ 1000000000) : markN k i ≤ 2000000000000 := by unfold markN; omega

/-- A number as a cell. -/
def lv (x : Int) : Value := .int .i64 x
/-- The slice value v leads to memory of the call's own, from block base on, and reads as the numbers L. -/
def OL (base : Nat) (w : World) (v : Value) (L : List Int) : Prop := w.ownsRow base 2 1 v L.length (L.map lv)
theorem Tryz.infoI64 : (Tryz.prog.info? 2).map (fun i => (i.zero, i.size, i.bytes)) = some (some (.int .i64 0), 1, 8) := by kernel_rfl
theorem OL.keep {base : Nat} {W W' : World} {v : Value} {L : List Int} (h : OL base W v L) (hk : ∀ b, v.ownBlock = some b → W'.heap[b]? = W.heap[b]?) : OL base W' v L := by
  obtain ⟨e1, h3 | ⟨g, cap, cur, hv, hg, hh, r⟩⟩ := h
  · exact ⟨e1, .inl h3⟩
  · exact ⟨e1, .inr ⟨g, cap, cur, hv, hg, (hk g (by rw [hv]; rfl)).trans hh, r⟩⟩
theorem OL.ge {base : Nat} {W : World} {v : Value} {L : List Int} (h : OL base W v L) : ∀ b, v.ownBlock = some b → base ≤ b ∧ b < W.heap.size := by
  intro b hb
  obtain ⟨e1, ⟨rfl, -⟩ | ⟨g, cap, cur, rfl, hg, hh, r⟩⟩ := h
  · cases hb
  · cases hb
    exact ⟨hg, (Array.getElem?_eq_some_iff.1 hh).1⟩
theorem OL.below {base : Nat} {W W' : World} {v : Value} {L : List Int} (h : OL base W v L) (hb : Below W.heap.size W W') : OL base W' v L :=
  h.keep fun b e => hb.block b (h.ge b e).2
/-- It reads; so do its first m. -/
theorem OL.rl {base : Nat} {w : World} {g n c : Nat} {L : List Int} (h : OL base w (.slice (some ⟨g, 0, none⟩) n c) L) (hf : ∀ x ∈ L, -9223372036854775808 ≤ x ∧ x ≤ 9223372036854775807) (m : Nat) (hm : m ≤ n) : RL w.heap.size w (some ⟨g, 0, none⟩) m c (L.take m) ∧ base ≤ g := by
  obtain ⟨h1, ⟨h2, -⟩ | ⟨g', cap, cur, hv, hg, hh, hle, hcap, hsz, htk⟩⟩ := h
  · cases h2
  · cases hv
    refine ⟨⟨by rw [List.length_take]; omega, by omega, by simpa [maxLen] using hcap, fun x hx => hf x (List.mem_of_mem_take hx), fun _ => ⟨g, 0, rfl, (Array.getElem?_eq_some_iff.1 hh).1, fun i hi => ?_⟩⟩, hg⟩
    have e := congrArg (fun l : List Value => l[i]?) htk
    simp only [List.getElem?_take, List.getElem?_map] at e
    rw [if_pos (by omega), List.getElem?_eq_getElem (l := L) (by omega)] at e
    simp only [World.cell?, hh, Nat.zero_add, Option.isSome_none, Bool.false_eq_true, if_false]
    rw [List.getD_eq_getElem?_getD, List.getElem?_take, if_pos hi, List.getElem?_eq_getElem (by omega)]
    simpa [lv] using e

theorem run_append_longs {w : World} {base : Nat} {v : Value} {L M : List Int} (h : OL base w v L) (ty : TypeId) (sa : Option Addr) (c : Nat) (hsrc : 0 < M.length → ∃ ad, sa = some ad ∧ ∀ j u, (M.map lv)[j]? = some u → w.cell? (ad.add j) = some u)
    (hbase : base ≤ w.heap.size) (hsize : (L.length + M.length) * 8 ≤ 140737488355328) :
    ∃ v' w', (Builtin.append_ #[50, 50] ty #[v, .slice sa M.length c]).run Tryz.prog w = .ok v' w' ∧ OL base w' v' (L ++ M) ∧ w.grownBy w' v.ownBlock ∧ (v' = .slice none 0 0 → v = .slice none 0 0) := by
  obtain ⟨i0, hi, hz0, hz1, hz2⟩ := info_parts Tryz.infoI64
  by_cases h0 : M.length = 0
  · obtain rfl : M = [] := List.eq_nil_of_length_eq_zero h0
    have hv : ∃ va vc, v = .slice va L.length vc ∧ L.length ≤ vc := by
      obtain ⟨h1, ⟨rfl, h0⟩ | ⟨g, cap, cur, rfl, hg, hh, hle, r⟩⟩ := h
      · exact ⟨none, 0, by rw [h0], by omega⟩
      · exact ⟨_, _, rfl, hle⟩
    obtain ⟨va, vc, rfl, hle⟩ := hv
    have hrun := run_append_nothing (P := Tryz.prog) w 50 ty 2 i0 Tryz.underlying50 hi va sa L.length vc c hle
    exact ⟨_, w, hrun, by simpa using h, ⟨rfl, rfl, rfl, Nat.le_refl _, fun _ _ _ => rfl⟩, id⟩
  · obtain ⟨ad, rfl, hcell⟩ := hsrc (by omega)
    obtain ⟨v', w', hrun, hown, hg, hn⟩ := run_append_own (P := Tryz.prog) w base 50 ty 2 i0 _ 1 8 Tryz.underlying50 hi hz0 hz1 hz2 rfl (by decide) v L.length (L.map lv) h ad M.length c (M.map lv) (by simp) hcell
      (fun u hu => by obtain ⟨y, _, rfl⟩ := List.mem_map.1 hu; rfl) (by simp only [maxLen]; omega) hsize hbase
    refine ⟨v', w', hrun, ?_, hg, fun e => (hn.1 e).1⟩
    unfold OL
    rw [List.length_append, List.map_append]
    exact hown
theorem OL.form {base : Nat} {W : World} {v : Value} {l : List Int} (h : OL base W v l) (hv : v ≠ .slice none 0 0) : ∃ g c, v = .slice (some ⟨g, 0, none⟩) l.length c ∧ l.length ≤ c ∧ c ≤ 9223372036854775807 := by
  obtain ⟨e, ⟨h1, -⟩ | ⟨g, cap, cur, h1, -, -, h3, h4, -⟩⟩ := h
  · exact absurd h1 hv
  · exact ⟨g, cap, h1, h3, by simpa [maxLen] using h4⟩
theorem wpList_append_longs {w : World} {ops : Array Oper} {rest : List Oper} {o : Oper} {a : Act} {Q : Exit → Act → World → Prop} (hgd : o.guard = none) (s x : Operand)
    (ho : o.op = .call { callee := .builtin .append, args := #[s, x], argTypes := #[50, 50] }) (base : Nat) (g0 n0 c0 : Nat) (L M : List Int) (hs : a.eval s = .slice (some ⟨g0, 0, none⟩) n0 c0) (h : OL base w (.slice (some ⟨g0, 0, none⟩) n0 c0) L) (sa : Option Addr) (m c : Nat)
    (hx : a.eval x = .slice sa m c) (hm : m = M.length) (hsrc : 0 < M.length → ∃ ad, sa = some ad ∧ ∀ j u, (M.map lv)[j]? = some u → w.cell? (ad.add j) = some u) (hbase : base ≤ w.heap.size) (hsize : (L.length + M.length) * 8 ≤ 140737488355328)
    (hK : ∀ g' c' w', (n0 + m ≤ c' ∧ c' ≤ 9223372036854775807) → OL base w' (.slice (some ⟨g', 0, none⟩) (n0 + m) c') (L ++ M) → w.grownBy w' (some g0) → wpList Tryz.prog ops Q rest (a.put o.dst (.slice (some ⟨g', 0, none⟩) (n0 + m) c')) w') : wpList Tryz.prog ops Q (o :: rest) a w := by
  subst hm
  have hn0 : n0 = L.length := by
    obtain ⟨e, ⟨h1, -⟩ | ⟨g, cap, cur, h1, -⟩⟩ := h
    · cases h1
    · cases h1; rfl
  subst hn0
  obtain ⟨v', w', hr, hq, hg, hn⟩ := run_append_longs h o.type sa c hsrc hbase hsize
  obtain ⟨g', c', rfl, hc1, hc2⟩ := hq.form (fun e => by have := hn e; cases this)
  refine wpList_plain hgd fun K hK' => ?_
  unfold Oper.wp execOp
  simp only [ho, resolve, invoke, builtin, Sem.run_bind, Sem.run_pure, Result.andThen_ok, List.map_toArray, List.map_cons, List.map_nil, hs, hx, hr]
  rw [List.length_append] at hc1 hq
  rw [List.length_append]
  exact hK' _ _ (hK g' c' w' ⟨hc1, hc2⟩ hq hg)
theorem RL.src {B : Nat} {w : World} {a : Option Addr} {n c : Nat} {L : List Int} (h : RL B w a n c L) : 0 < L.length → ∃ ad, a = some ad ∧ ∀ j u, (L.map lv)[j]? = some u → w.cell? (ad.add j) = some u := by
  intro h0
  have hc : 0 < c := by have := h.le; have := h.len; omega
  obtain ⟨b, o, rfl, -, hcell⟩ := h.at_ hc
  refine ⟨_, rfl, fun j u hu => ?_⟩
  have e : (⟨b, o, none⟩ : Addr).add j = ⟨b, o + j, none⟩ := by unfold Addr.add; split <;> simp_all
  rw [e]
  rw [List.getElem?_map] at hu
  rcases Nat.lt_or_ge j L.length with hj | hj
  · rw [List.getElem?_eq_getElem hj] at hu
    cases hu
    have := hcell j (by have := h.len; omega)
    rw [List.getD_eq_getElem?_getD, List.getElem?_eq_getElem hj] at this
    exact this
  · rw [List.getElem?_eq_none hj] at hu; cases hu

def lentT : List Int := (List.range 12).map fun i => (markN 1 i : Int)
theorem lentT_len : lentT.length = 12 := by simp [lentT]
theorem lentT_at (j : Nat) (h : j < 12) : lentT[j]'(by rw [lentT_len]; exact h) = (markN 1 j : Int) := by simp [lentT]
theorem lentT_take (j : Nat) (h : j < 12) : lentT.take (j + 1) = lentT.take j ++ [(markN 1 j : Int)] := by
  rw [List.take_succ_eq_append_getElem (by rw [lentT_len]; exact h), lentT_at j h]
theorem one_long (W : World) (x : Int) (t : TypeId) : ∀ j u, ([x].map lv)[j]? = some u → (W.alloc (.cells #[.int .i64 x] t)).cell? ((⟨W.heap.size, 0, none⟩ : Addr).add j) = some u := by
  intro j u hu
  have e : (⟨W.heap.size, 0, none⟩ : Addr).add j = ⟨W.heap.size, 0 + j, none⟩ := by unfold Addr.add; split <;> simp_all
  rw [e]
  simp only [World.cell?, (Go.MapKept.heap_alloc W _).1]
  simpa [lv] using hu
end Go.Proofs.YthlmnoggeggpkaaGreat
namespace Go.Proofs.YthlmnoggeggpkaaGreat
open Go.RowKit

def eqP (p q : Pt) : Bool := decide (p.1 = q.1) && decide (p.2 = q.2)
theorem eqP_iff {p q : Pt} : eqP p q = true ↔ p = q := by
  unfold eqP
  rw [Bool.and_eq_true, decide_eq_true_eq, decide_eq_true_eq]
  exact ⟨fun h => Prod.ext h.1 h.2, fun h => by rw [h]; exact ⟨rfl, rfl⟩⟩

theorem eqPart (x y : List UInt8) (u v : Int) (w : World) : (Op.equalIn 10000 45 (.agg #[encStr x, .int .i64 u]) (.agg #[encStr y, .int .i64 v])).run Tryz.prog w = .ok (eqP (x, u) (y, v)) w := by
  have u2 := Tryz.underlying2
  have a2 := Tryz.isAgg2
  have z2 := Tryz.sizeOf2
  have u9 := Tryz.underlying9
  have a9 := Tryz.isAgg9
  have z9 := Tryz.sizeOf9
  have hS : Tryz.prog.underlying 45 = some (.struct (Tryz.prog.fieldsOf 45)) := by kernel_rfl
  have hp : Tryz.prog.stoodInHeld 45 = false := by kernel_rfl
  rw [show (10000 : Nat) = 9999 + 1 from rfl, run_equalIn_agg w 9999 45 _ _ hS hp]
  simp only [Program.fieldsOf, Tryz.underlying45]
  go_simp
  unfold eqP
  by_cases h1 : x = y <;> by_cases h2 : u = v <;> simp [h1, h2]

theorem takeP_succ {P Q : List Pt} {k : Nat} (hk : k < P.length) (hk2 : k < Q.length) (h : P.take k = Q.take k) (he : P.getD k default = Q.getD k default) : P.take (k+1) = Q.take (k+1) := by
  rw [List.take_succ_eq_append_getElem hk, List.take_succ_eq_append_getElem hk2, h]
  simp only [List.getD, List.getElem?_eq_getElem hk, List.getElem?_eq_getElem hk2, Option.getD_some] at he
  rw [he]

set_option maxHeartbeats 4000000 in
theorem SameParts_any (B : Nat) (a b : Option Addr) (n m c d : Nat) (P Q : List Pt) (w : World) (hp : RP B w a n c P) (hq : RP B w b m d Q) :
    Calls Tryz.prog 14 #[.slice a n c, .slice b m d] w fun e w' => e = .returned (.bool (decide (P = Q))) ∧ ∃ q, w' = w.drewN q := by
  have hle := hp.le; have hmx := hp.mx; have hle2 := hq.le; have hmx2 := hq.mx
  have Hln := Lib.hid hp.len
  have Hln2 := Lib.hid hq.len
  by_cases hnm : n = m
  · subst hnm
    go_enter Tryz.func14, Tryz.ntmps14
    go_wp2_with (fail)
    go_loopw [5] (fun i wr => ∃ j : Nat, j ≤ n ∧ i = .int .i64 j ∧ Hid (P.take j = Q.take j) ∧ ∃ q, wr = w.drewN q) (fun i _ => n - (intOf i).toNat)
    case atStart => exact ⟨0, Nat.zero_le _, rfl, Lib.hid rfl, 0, rfl⟩
    case round =>
      obtain ⟨j, hj, rfl, ht, q, rfl⟩ := hrel
      by_cases hlt : j < n
      · obtain ⟨b1, o1, rfl, -, hc1⟩ := hp.at_ (by omega)
        obtain ⟨b2, o2, rfl, -, hc2⟩ := hq.at_ (by omega)
        obtain ⟨g1, g2⟩ := hc1 j hlt
        obtain ⟨k1, k2⟩ := hc2 j hlt
        clear hc1 hc2
        have Hsucc := Lib.hid (fun he => takeP_succ (by rw [← Hln.out]; exact hlt) (by rw [← Hln2.out]; exact hlt) ht.out he)
        have Hno := Lib.hid (show P.getD j default ≠ Q.getD j default → decide (P = Q) = false from fun hne => decide_eq_false fun e => hne (by rw [e]))
        generalize P.getD j default = p at g1 g2 Hsucc Hno
        generalize Q.getD j default = p' at k1 k2 Hsucc Hno
        obtain ⟨x, u⟩ := p
        obtain ⟨y, v⟩ := p'
        simp only at g1 g2 k1 k2
        cases he : eqP (x, u) (y, v) with
        | true =>
          have Hs := Lib.hid (Hsucc.out (eqP_iff.1 he))
          have heq : ∀ w, (Op.equalIn 10000 45 (.agg #[encStr x, .int .i64 u]) (.agg #[encStr y, .int .i64 v])).run Tryz.prog w = .ok true w := fun w => by rw [eqPart, he]
          clear he Hno
          go_wp2_with (fail)
          go_quiet (fail)
          go_wp2_with (fail)
          go_roundw
          case rel => exact ⟨j + 1, by omega, by go_num, Hs, _, rfl⟩
          case measure => simp [intOf]; omega
        | false =>
          have Hn := Lib.hid (Hno.out (fun e => by rw [eqP_iff.2 e] at he; cases he))
          have heq : ∀ w, (Op.equalIn 10000 45 (.agg #[encStr x, .int .i64 u]) (.agg #[encStr y, .int .i64 v])).run Tryz.prog w = .ok false w := fun w => by rw [eqPart, he]
          clear he Hsucc
          go_wp2_with (fail)
          go_quiet (fail)
          go_wp2_with (fail)
          go_ret
          rw [Hn.out]
          exact ⟨rfl, _, World.drewN_drewN _ _ _⟩
      · have hge : n ≤ j := by omega
        go_wp2_with (fail)
        go_ret
        have : P = Q := by
          have := ht.out
          rwa [List.take_of_length_le (by rw [← Hln.out]; exact hge), List.take_of_length_le (by rw [← Hln2.out]; exact hge)] at this
        rw [decide_eq_true this]
        exact ⟨rfl, _, rfl⟩
  · have hne : decide (P = Q) = false := decide_eq_false fun e => hnm (by rw [Hln.out, Hln2.out, e])
    rw [hne]
    go_enter Tryz.func14, Tryz.ntmps14
    go_wp2_with (fail)
    go_ret
    exact ⟨rfl, 0, rfl⟩
end Go.Proofs.YthlmnoggeggpkaaGreat
