/- Lists of texts that are lent. The document's Find; what an item may be. -/
import Derived.Test.YthlmnoggeggpkaaGreatKMark
import Derived.Test.YthlmnoggeggpkaaGreatKItem
import Derived.Deep.DeepCutAuto
namespace Go.Proofs.YthlmnoggeggpkaaGreat
open Go.RowKit

/-- The slice value v leads to memory of the call's own, from block base on, and reads as the texts L. -/
def OT (base : Nat) (w : World) (v : Value) (L : List (List UInt8)) : Prop := w.ownsRow base 9 1 v L.length (L.map encStr)
theorem Tryz.infoStr : (Tryz.prog.info? 9).map (fun i => (i.zero, i.size, i.bytes)) = some (some (.string ByteArray.empty), 1, 16) := by kernel_rfl
theorem OT.mono {B B' : Nat} {w : World} {v : Value} {L : List (List UInt8)} (h : OT B w v L) (hb : B' ≤ B) : OT B' w v L := by
  obtain ⟨h1, h2 | ⟨g, cap, cur, hv, hg, r⟩⟩ := h
  · exact ⟨h1, .inl h2⟩
  · exact ⟨h1, .inr ⟨g, cap, cur, hv, Nat.le_trans hb hg, r⟩⟩
theorem OT.keep {base : Nat} {W W' : World} {v : Value} {L : List (List UInt8)} (h : OT base W v L) (hk : ∀ b, v.ownBlock = some b → W'.heap[b]? = W.heap[b]?) : OT base W' v L := by
  obtain ⟨e1, h3 | ⟨g, cap, cur, hv, hg, hh, r⟩⟩ := h
  · exact ⟨e1, .inl h3⟩
  · exact ⟨e1, .inr ⟨g, cap, cur, hv, hg, (hk g (by rw [hv]; rfl)).trans hh, r⟩⟩
theorem OT.ge {base : Nat} {W : World} {v : Value} {L : List (List UInt8)} (h : OT base W v L) : ∀ b, v.ownBlock = some b → base ≤ b ∧ b < W.heap.size := by
  intro b hb
  obtain ⟨e1, ⟨rfl, -⟩ | ⟨g, cap, cur, rfl, hg, hh, r⟩⟩ := h
  · cases hb
  · cases hb
    exact ⟨hg, (Array.getElem?_eq_some_iff.1 hh).1⟩
theorem OT.below {base : Nat} {W W' : World} {v : Value} {L : List (List UInt8)} (h : OT base W v L) (hb : Below W.heap.size W W') : OT base W' v L :=
  h.keep fun b e => hb.block b (h.ge b e).2
/-- It reads; so do its first m. -/
theorem OT.rt {base : Nat} {w : World} {g n c : Nat} {L : List (List UInt8)} (h : OT base w (.slice (some ⟨g, 0, none⟩) n c) L) (hf : ∀ x ∈ L, x.length ≤ 9223372036854775807) (m : Nat) (hm : m ≤ n) : RT w.heap.size w (some ⟨g, 0, none⟩) m c (L.take m) ∧ base ≤ g := by
  obtain ⟨h1, ⟨h2, -⟩ | ⟨g', cap, cur, hv, hg, hh, hle, hcap, hsz, htk⟩⟩ := h
  · cases h2
  · cases hv
    refine ⟨⟨by rw [List.length_take]; omega, by omega, by simpa [maxLen] using hcap, fun x hx => hf x (List.mem_of_mem_take hx), fun _ => ⟨g, 0, rfl, (Array.getElem?_eq_some_iff.1 hh).1, fun i hi => ?_⟩⟩, hg⟩
    have e := congrArg (fun l : List Value => l[i]?) htk
    simp only [List.getElem?_take, List.getElem?_map] at e
    rw [if_pos (by omega), List.getElem?_eq_getElem (l := L) (by omega)] at e
    simp only [World.cell?, hh, Nat.zero_add, Option.isSome_none, Bool.false_eq_true, if_false]
    rw [List.getD_eq_getElem?_getD, List.getElem?_take, if_pos hi, List.getElem?_eq_getElem (by omega)]
    simpa [lv] using e

theorem run_append_texts {w : World} {base : Nat} {v : Value} {L M : List (List UInt8)} (h : OT base w v L) (ty : TypeId) (sa : Option Addr) (c : Nat) (hsrc : 0 < M.length → ∃ ad, sa = some ad ∧ ∀ j u, (M.map encStr)[j]? = some u → w.cell? (ad.add j) = some u)
    (hbase : base ≤ w.heap.size) (hsize : (L.length + M.length) * 16 ≤ 140737488355328) :
    ∃ v' w', (Builtin.append_ #[30, 30] ty #[v, .slice sa M.length c]).run Tryz.prog w = .ok v' w' ∧ OT base w' v' (L ++ M) ∧ w.grownBy w' v.ownBlock ∧ (v' = .slice none 0 0 → v = .slice none 0 0) := by
  obtain ⟨i0, hi, hz0, hz1, hz2⟩ := info_parts Tryz.infoStr
  by_cases h0 : M.length = 0
  · obtain rfl : M = [] := List.eq_nil_of_length_eq_zero h0
    have hv : ∃ va vc, v = .slice va L.length vc ∧ L.length ≤ vc := by
      obtain ⟨h1, ⟨rfl, h0⟩ | ⟨g, cap, cur, rfl, hg, hh, hle, r⟩⟩ := h
      · exact ⟨none, 0, by rw [h0], by omega⟩
      · exact ⟨_, _, rfl, hle⟩
    obtain ⟨va, vc, rfl, hle⟩ := hv
    have hrun := run_append_nothing (P := Tryz.prog) w 30 ty 9 i0 Tryz.underlying30 hi va sa L.length vc c hle
    exact ⟨_, w, hrun, by simpa using h, ⟨rfl, rfl, rfl, Nat.le_refl _, fun _ _ _ => rfl⟩, id⟩
  · obtain ⟨ad, rfl, hcell⟩ := hsrc (by omega)
    obtain ⟨v', w', hrun, hown, hg, hn⟩ := run_append_own (P := Tryz.prog) w base 30 ty 9 i0 _ 1 16 Tryz.underlying30 hi hz0 hz1 hz2 rfl (by decide) v L.length (L.map encStr) h ad M.length c (M.map encStr) (by simp) hcell
      (fun u hu => by obtain ⟨y, _, rfl⟩ := List.mem_map.1 hu; rfl) (by simp only [maxLen]; omega) hsize hbase
    refine ⟨v', w', hrun, ?_, hg, fun e => (hn.1 e).1⟩
    unfold OT
    rw [List.length_append, List.map_append]
    exact hown
theorem OT.form {base : Nat} {W : World} {v : Value} {l : List (List UInt8)} (h : OT base W v l) (hv : v ≠ .slice none 0 0) : ∃ g c, v = .slice (some ⟨g, 0, none⟩) l.length c ∧ l.length ≤ c ∧ c ≤ 9223372036854775807 := by
  obtain ⟨e, ⟨h1, -⟩ | ⟨g, cap, cur, h1, -, -, h3, h4, -⟩⟩ := h
  · exact absurd h1 hv
  · exact ⟨g, cap, h1, h3, by simpa [maxLen] using h4⟩
theorem wpList_append_texts {w : World} {ops : Array Oper} {rest : List Oper} {o : Oper} {a : Act} {Q : Exit → Act → World → Prop} (hgd : o.guard = none) (s x : Operand)
    (ho : o.op = .call { callee := .builtin .append, args := #[s, x], argTypes := #[30, 30] }) (base : Nat) (g0 n0 c0 : Nat) (L M : List (List UInt8)) (hs : a.eval s = .slice (some ⟨g0, 0, none⟩) n0 c0) (h : OT base w (.slice (some ⟨g0, 0, none⟩) n0 c0) L) (sa : Option Addr) (m c : Nat)
    (hx : a.eval x = .slice sa m c) (hm : m = M.length) (hsrc : 0 < M.length → ∃ ad, sa = some ad ∧ ∀ j u, (M.map encStr)[j]? = some u → w.cell? (ad.add j) = some u) (hbase : base ≤ w.heap.size) (hsize : (L.length + M.length) * 16 ≤ 140737488355328)
    (hK : ∀ g' c' w', (n0 + m ≤ c' ∧ c' ≤ 9223372036854775807) → OT base w' (.slice (some ⟨g', 0, none⟩) (n0 + m) c') (L ++ M) → w.grownBy w' (some g0) → wpList Tryz.prog ops Q rest (a.put o.dst (.slice (some ⟨g', 0, none⟩) (n0 + m) c')) w') : wpList Tryz.prog ops Q (o :: rest) a w := by
  subst hm
  have hn0 : n0 = L.length := by
    obtain ⟨e, ⟨h1, -⟩ | ⟨g, cap, cur, h1, -⟩⟩ := h
    · cases h1
    · cases h1; rfl
  subst hn0
  obtain ⟨v', w', hr, hq, hg, hn⟩ := run_append_texts h o.type sa c hsrc hbase hsize
  obtain ⟨g', c', rfl, hc1, hc2⟩ := hq.form (fun e => by have := hn e; cases this)
  refine wpList_plain hgd fun K hK' => ?_
  unfold Oper.wp execOp
  simp only [ho, resolve, invoke, builtin, Sem.run_bind, Sem.run_pure, Result.andThen_ok, List.map_toArray, List.map_cons, List.map_nil, hs, hx, hr]
  rw [List.length_append] at hc1 hq
  rw [List.length_append]
  exact hK' _ _ (hK g' c' w' ⟨hc1, hc2⟩ hq hg)
theorem RT.src {B : Nat} {w : World} {a : Option Addr} {n c : Nat} {L : List (List UInt8)} (h : RT B w a n c L) : 0 < L.length → ∃ ad, a = some ad ∧ ∀ j u, (L.map encStr)[j]? = some u → w.cell? (ad.add j) = some u := by
  intro h0
  have hc : 0 < c := by have := h.le; have := h.len; omega
  obtain ⟨b, o, rfl, -, hcell⟩ := h.at_ hc
  refine ⟨_, rfl, fun j u hu => ?_⟩
  have e : (⟨b, o, none⟩ : Addr).add j = ⟨b, o + j, none⟩ := by unfold Addr.add; split <;> simp_all
  rw [e]
  rw [List.getElem?_map] at hu
  rcases Nat.lt_or_ge j L.length with hj | hj
  · rw [List.getElem?_eq_getElem hj] at hu
    cases hu
    have := hcell j (by have := h.len; omega)
    rw [List.getD_eq_getElem?_getD, List.getElem?_eq_getElem hj] at this
    exact this
  · rw [List.getElem?_eq_none hj] at hu; cases hu

def lentX : List (List UInt8) := (List.range 12).map mkTx
theorem lentX_len : lentX.length = 12 := by simp [lentX]
theorem lentX_at (j : Nat) (h : j < 12) : lentX[j]'(by rw [lentX_len]; exact h) = mkTx j := by simp [lentX]
theorem lentX_take (j : Nat) (h : j < 12) : lentX.take (j + 1) = lentX.take j ++ [mkTx j] := by
  rw [List.take_succ_eq_append_getElem (by rw [lentX_len]; exact h), lentX_at j h]
theorem one_text (W : World) (x : List UInt8) (t : TypeId) : ∀ j u, ([x].map encStr)[j]? = some u → (W.alloc (.cells #[encStr x] t)).cell? ((⟨W.heap.size, 0, none⟩ : Addr).add j) = some u := by
  intro j u hu
  have e : (⟨W.heap.size, 0, none⟩ : Addr).add j = ⟨W.heap.size, 0 + j, none⟩ := by unfold Addr.add; split <;> simp_all
  rw [e]
  simp only [World.cell?, (Go.MapKept.heap_alloc W _).1]
  simpa using hu
set_option maxHeartbeats 2000000 in
set_option maxRecDepth 100000 in
theorem LentTexts_any (N : Nat) (a : Option Addr) (n c : Nat) (L : List (List UInt8)) (w : World) (hr : RT N w a n c L) (hN : N ≤ w.heap.size) (hs : n ≤ 100000) :
    Calls Tryz.prog 47 #[.slice a n c] w fun e w' => (∃ g c', e = .returned (.slice (some ⟨g, 0, none⟩) n c') ∧ (n + 12 ≤ c' ∧ c' ≤ 9223372036854775807) ∧ OT w.heap.size w' (.slice (some ⟨g, 0, none⟩) (n + 12) c') (L ++ lentX)) ∧ Below w.heap.size w w' := by
  obtain ⟨i0, hi, hz0, hz1, hz2⟩ := info_parts Tryz.infoStr
  have hln := hr.len
  have hle := hr.le
  have hmx := hr.mx
  have Hln := Lib.hid hln
  have Hr := Lib.hid hr
  have Hi := Lib.hid hi
  have Hz0 := Lib.hid hz0
  have Hz1 := Lib.hid hz1
  have Hz2 := Lib.hid hz2
  have hb0 : i0.bytes * (n + 12) ≤ 281474976710656 := by rw [hz2]; omega
  have Hb0 := Lib.hid hb0
  clear hi hz0 hz1 hz2 hr hln hb0
  go_enter Tryz.func47, Tryz.ntmps47
  go_wp2_with (first
    | (refine wpList_make_own _ rfl _ _ 30 rfl w.heap.size 9 i0 _ 1 Tryz.underlying30 Hi.out Hz0.out Hz1.out .i64 .i64 _ (n + 12) rfl rfl (by omega) Hb0.out (by simp only [maxLen]; omega) (Nat.le_refl _) ?_; intro w1 hown1 hg1; have O1 : Hid (OT w.heap.size w1 (.slice (some ⟨w.heap.size, 0, none⟩) 0 (n + 12)) []) := Lib.hid hown1; have B1 : Hid (Below w.heap.size w w1) := Lib.hid ((Below.refl _ w).grown hg1 (Nat.le_refl _) (fun r e => by cases e)); clear hown1 hg1)
    | (at_builtin; refine wpList_append_texts rfl _ _ rfl w.heap.size w.heap.size 0 (n + 12) [] L rfl O1.out _ _ _ rfl Hln.out (Hr.out.below (B1.out.mono hN)).src B1.out.size (by have := Hln.out; simp; omega) ?_; intro g2 c2 w2 hc2 hown2 hg2))
  rw [List.nil_append, Nat.zero_add] at hown2
  have O2 := Lib.hid hown2
  have B2 : Hid (Below w.heap.size w w2) := Lib.hid (B1.out.grown hg2 B1.out.size (fun r e => by cases e; exact Nat.le_refl _))
  clear hown2 hg2
  try rw [Nat.zero_add] at hc2
  try rw [Nat.zero_add]
  go_wp2_with (fail)
  go_loopw [3, 4] (fun v i wr => ∃ (j g c' : Nat), j ≤ 12 ∧ i = .int .i64 j ∧ v = .slice (some ⟨g, 0, none⟩) (n + j) c' ∧ Hid (n + j ≤ c' ∧ c' ≤ 9223372036854775807) ∧ Hid (OT w.heap.size wr (.slice (some ⟨g, 0, none⟩) (n + j) c') (L ++ lentX.take j)) ∧ Hid (Below w.heap.size w wr)) (fun _ i _ => 12 - (intOf i).toNat)
  case atStart => exact ⟨0, g2, c2, by omega, rfl, rfl, Lib.hid hc2, by simpa using O2, B2⟩
  case round =>
    obtain ⟨j, g, c', hj, rfl, rfl, hcc, Ho, Hb⟩ := hrel
    by_cases hlt : j < 12
    · have hmk := fun W => markText_any j W hlt
      have hsz := Hb.out.size
      have htk := lentX_take j hlt
      obtain ⟨m, hm⟩ : ∃ m, m = mkTx j := ⟨_, rfl⟩
      rw [← hm] at hmk htk
      unfold encStr at hmk
      have HM := Lib.hid hmk
      have Htk := Lib.hid htk
      clear hm htk hmk
      go_wp2_with (first | (go_at_call 94; refine (HM.out _).mono ?_; rintro e wm ⟨rfl, hbm⟩; have O3 := Lib.hid ((Ho.out.below hbm).below ((Below.refl _ wm).alloc (Nat.le_refl _) (.cells #[.string ⟨m.toArray⟩] 9))); have Bm := Lib.hid (Hb.out.trans (hbm.mono hsz)); clear hbm) | (at_builtin; refine wpList_append_texts rfl _ _ rfl w.heap.size g (n + j) c' (L ++ lentX.take j) [m] rfl O3.out _ 1 _ rfl rfl (fun _ => ⟨_, rfl, one_text _ m _⟩) (by have := Bm.out.size; simp; omega) (by have := Hln.out; simp; omega) ?_; intro g4 c4 w4 hc4 hown4 hg4))
      have O4 := Lib.hid (show OT w.heap.size w4 (.slice (some ⟨g4, 0, none⟩) (n + (j + 1)) c4) (L ++ lentX.take (j + 1)) from by rw [Htk.out, ← List.append_assoc]; exact hown4)
      have B4 : Hid (Below w.heap.size w w4) := Lib.hid ((Bm.out.alloc Bm.out.size _).grown hg4 (by have := Bm.out.size; simp; omega) (fun r e => by cases e; exact (Ho.out.ge _ rfl).1))
      have C4 := Lib.hid hc4
      clear hown4 hg4 hc4
      go_roundw
      case rel => exact ⟨j + 1, g4, c4, by omega, by go_num, by go_num, C4, O4, B4⟩
      case measure => simp [intOf]; omega
    · have hge : j = 12 := by omega
      subst hge
      obtain ⟨q1, q2⟩ := hcc.out
      have q4 : (n : Int) ≤ (c' : Int) := by omega
      go_wp2_with (fail)
      go_ret
      refine ⟨⟨g, c', rfl, ⟨q1, q2⟩, ?_⟩, Hb.out⟩
      have h := Ho.out
      rw [List.take_of_length_le (Nat.le_of_eq lentX_len)] at h
      exact h
end Go.Proofs.YthlmnoggeggpkaaGreat
namespace Go.Proofs.YthlmnoggeggpkaaGreat
open Go.RowKit

/-- The place of a code. -/
def fI (X : List It) (c : List UInt8) : Int := if X.findIdx (fun x => decide (x.code = c)) < X.length then (X.findIdx (fun x => decide (x.code = c)) : Int) else -1

theorem idx_is {X : List It} {c : List UInt8} {i : Nat} (hi : i < X.length) (hc : (X.getD i default).code = c) (hn : ∀ j, j < i → (X.getD j default).code ≠ c) : X.findIdx (fun x => decide (x.code = c)) = i := by
  have e : ∀ j, j < X.length → ∀ h, (X[j]'h) = X.getD j default := fun j hj h => by rw [List.getD_eq_getElem?_getD, List.getElem?_eq_getElem hj]; rfl
  rw [List.findIdx_eq hi]
  refine ⟨?_, fun j hj => ?_⟩
  · rw [e i hi]; exact decide_eq_true hc
  · rw [e j (by omega)]; exact decide_eq_false (hn j hj)
theorem fI_is {X : List It} {c : List UInt8} {i : Nat} (hi : i < X.length) (hc : (X.getD i default).code = c) (hn : ∀ j, j < i → (X.getD j default).code ≠ c) : fI X c = (i : Int) := by
  unfold fI
  rw [idx_is hi hc hn, if_pos hi]
theorem idx_none {X : List It} {c : List UInt8} (hn : ∀ j, j < X.length → (X.getD j default).code ≠ c) : X.findIdx (fun x => decide (x.code = c)) = X.length := by
  rw [List.findIdx_eq_length]
  intro x hx
  obtain ⟨j, hj, rfl⟩ := List.getElem_of_mem hx
  have := hn j hj
  rw [List.getD_eq_getElem?_getD, List.getElem?_eq_getElem hj] at this
  exact decide_eq_false this
theorem fI_none {X : List It} {c : List UInt8} (hn : ∀ j, j < X.length → (X.getD j default).code ≠ c) : fI X c = -1 := by
  unfold fI
  rw [idx_none hn, if_neg (Nat.lt_irrefl _)]
/-- A code that is there. -/
theorem fI_there {X : List It} {c : List UInt8} (h : ∃ j, j < X.length ∧ (X.getD j default).code = c) : ∃ i, i < X.length ∧ fI X c = (i : Int) ∧ (X.getD i default).code = c := by
  obtain ⟨j, hj, hc⟩ := h
  have hlt : X.findIdx (fun x => decide (x.code = c)) < X.length := by
    rw [List.findIdx_lt_length]
    exact ⟨_, getD_mem hj, decide_eq_true hc⟩
  refine ⟨_, hlt, by unfold fI; rw [if_pos hlt], ?_⟩
  have := List.findIdx_getElem (w := hlt)
  rw [List.getD_eq_getElem?_getD, List.getElem?_eq_getElem hlt]
  exact of_decide_eq_true this
theorem fI_neg {X : List It} {c : List UInt8} (h : fI X c < 0) : ∀ j, j < X.length → (X.getD j default).code ≠ c := fun j hj hc => by
  obtain ⟨i, -, e, -⟩ := fI_there ⟨j, hj, hc⟩
  omega

set_option maxRecDepth 100000 in
theorem Find_any (B : Nat) (a : Option Addr) (n cp : Nat) (X : List It) (c : List UInt8) (w : World) (hr : RI B w a n cp X) (hB : B ≤ w.heap.size) (hc : c.length ≤ 9223372036854775807) : Calls Tryz.prog 40 #[.slice a n cp, .string ⟨c.toArray⟩] w fun e w' => e = .returned (.int .i64 (fI X c)) ∧ w = w' := by
  have hm := hr.mx
  have hle := hr.le
  have HR := Lib.hid hr
  clear hr
  go_enter Tryz.func40, Tryz.ntmps40
  go_wp2_with (fail)
  go_loopw [5] (fun s3 wr => ∃ i : Nat, s3 = .int .i64 i ∧ i ≤ n ∧ wr = w ∧ Hid (∀ j, j < i → (X.getD j default).code ≠ c)) (fun s3 _ => n - (intOf s3).toNat)
  case atStart => exact ⟨0, rfl, by omega, rfl, Lib.hid (fun j hj => absurd hj (Nat.not_lt_zero _))⟩
  case round =>
    obtain ⟨i, rfl, hi, rfl, hok⟩ := hrel
    by_cases hin : i < n
    · have t1 : decide ((i : Int) < (n : Int)) = true := by simp; omega
      have i0 : (0 : Int) ≤ (i : Int) := by omega
      have i1 : (i : Int) < (n : Int) := by omega
      have f1 : IntKind.i64.wrap ((i : Int) + 1) = ((i + 1 : Nat) : Int) := by rw [wrap_in (by omega) (by omega)]; omega
      obtain ⟨b, o, rfl, hbB, hok1, c0, c1, c2, c3⟩ := HR.out.item hin
      unfold encStr at c0
      obtain ⟨x, hx⟩ : ∃ x, x = X.getD i default := ⟨_, rfl⟩
      rw [← hx] at c0 c1 c2 c3
      have HX := Lib.hid hx
      clear hx
      by_cases hcc : x.code = c
      · have e1 : (x.code == c) = true := by simpa using hcc
        have ho := Lib.hid (fI_is (X := X) (c := c) (i := i) (by rw [← HR.out.len]; exact hin) (by rw [← HX.out]; exact hcc) hok.out)
        clear hcc
        go_wp2_with (fail)
        go_ret
        exact ⟨by rw [ho.out]; rfl, rfl⟩
      · have e1 : (x.code == c) = false := by simpa using hcc
        have hno := Lib.hid (show (X.getD i default).code ≠ c by rw [← HX.out]; exact hcc)
        clear hcc
        go_wp2_with (fail)
        go_roundw
        case rel => exact ⟨i + 1, rfl, by omega, trivial, Lib.hid (fun j hj => if e : j < i then hok.out j e else by rw [show j = i by omega]; exact hno.out)⟩
        case measure => simp only [intOf]; omega
    · have t1 : decide ((i : Int) < (n : Int)) = false := by simp; omega
      have ho := Lib.hid (fI_none (X := X) (c := c) (fun j hj => hok.out j (by have := HR.out.len; omega)))
      go_wp2_with (fail)
      go_ret
      exact ⟨by rw [ho.out]; rfl, rfl⟩
end Go.Proofs.YthlmnoggeggpkaaGreat
