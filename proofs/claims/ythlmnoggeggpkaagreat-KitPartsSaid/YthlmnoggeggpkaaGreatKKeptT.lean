/- Lists of texts that are lent. The walk of storemankit.KeptTexts. -/
import Derived.Test.YthlmnoggeggpkaaGreatKMark
import Derived.Test.YthlmnoggeggpkaaGreatBelowQ
namespace Go.Proofs.YthlmnoggeggpkaaGreat
open Go.RowKit

/-- The slice value v leads to memory of the call's own, from block base on, and reads as the texts L. -/
def OT (base : Nat) (w : World) (v : Value) (L : List (List UInt8)) : Prop := w.ownsRow base 9 1 v L.length (L.map encStr)
theorem Tryz.infoStr : (Tryz.prog.info? 9).map (fun i => (i.zero, i.size, i.bytes)) = some (some (.string ByteArray.empty), 1, 16) := by kernel_rfl
theorem OT.mono {B B' : Nat} {w : World} {v : Value} {L : List (List UInt8)} (h : OT B w v L) (hb : B' ≤ B) : OT B' w v L := by
  obtain ⟨h1, h2 | ⟨g, cap, cur, hv, hg, r⟩⟩ := h
  · exact ⟨h1, .inl h2⟩
  · exact ⟨h1, .inr ⟨g, cap, cur, hv, Nat.le_trans hb hg, r⟩⟩
theorem OT.keep {base : Nat} {W W' : World} {v : Value} {L : List (List UInt8)} (h : OT base W v L) (hk : ∀ b, v.ownBlock = some b → W'.heap[b]? = W.heap[b]?) : OT base W' v L := by
  obtain ⟨e1, h3 | ⟨g, cap, cur, hv, hg, hh, r⟩⟩ := h
  · exact ⟨e1, .inl h3⟩
  · exact ⟨e1, .inr ⟨g, cap, cur, hv, hg, (hk g (by rw [hv]; rfl)).trans hh, r⟩⟩
theorem OT.ge {base : Nat} {W : World} {v : Value} {L : List (List UInt8)} (h : OT base W v L) : ∀ b, v.ownBlock = some b → base ≤ b ∧ b < W.heap.size := by
  intro b hb
  obtain ⟨e1, ⟨rfl, -⟩ | ⟨g, cap, cur, rfl, hg, hh, r⟩⟩ := h
  · cases hb
  · cases hb
    exact ⟨hg, (Array.getElem?_eq_some_iff.1 hh).1⟩
theorem OT.below {base : Nat} {W W' : World} {v : Value} {L : List (List UInt8)} (h : OT base W v L) (hb : Below W.heap.size W W') : OT base W' v L :=
  h.keep fun b e => hb.block b (h.ge b e).2
/-- It reads; so do its first m. -/
theorem OT.rt {base : Nat} {w : World} {g n c : Nat} {L : List (List UInt8)} (h : OT base w (.slice (some ⟨g, 0, none⟩) n c) L) (hf : ∀ x ∈ L, x.length ≤ 9223372036854775807) (m : Nat) (hm : m ≤ n) : RT w.heap.size w (some ⟨g, 0, none⟩) m c (L.take m) ∧ base ≤ g := by
  obtain ⟨h1, ⟨h2, -⟩ | ⟨g', cap, cur, hv, hg, hh, hle, hcap, hsz, htk⟩⟩ := h
  · cases h2
  · cases hv
    refine ⟨⟨by rw [List.length_take]; omega, by omega, by simpa [maxLen] using hcap, fun x hx => hf x (List.mem_of_mem_take hx), fun _ => ⟨g, 0, rfl, (Array.getElem?_eq_some_iff.1 hh).1, fun i hi => ?_⟩⟩, hg⟩
    have e := congrArg (fun l : List Value => l[i]?) htk
    simp only [List.getElem?_take, List.getElem?_map] at e
    rw [if_pos (by omega), List.getElem?_eq_getElem (l := L) (by omega)] at e
    simp only [World.cell?, hh, Nat.zero_add, Option.isSome_none, Bool.false_eq_true, if_false]
    rw [List.getD_eq_getElem?_getD, List.getElem?_take, if_pos hi, List.getElem?_eq_getElem (by omega)]
    simpa [lv] using e

theorem run_append_texts {w : World} {base : Nat} {v : Value} {L M : List (List UInt8)} (h : OT base w v L) (ty : TypeId) (sa : Option Addr) (c : Nat) (hsrc : 0 < M.length → ∃ ad, sa = some ad ∧ ∀ j u, (M.map encStr)[j]? = some u → w.cell? (ad.add j) = some u)
    (hbase : base ≤ w.heap.size) (hsize : (L.length + M.length) * 16 ≤ 140737488355328) :
    ∃ v' w', (Builtin.append_ #[30, 30] ty #[v, .slice sa M.length c]).run Tryz.prog w = .ok v' w' ∧ OT base w' v' (L ++ M) ∧ w.grownBy w' v.ownBlock ∧ (v' = .slice none 0 0 → v = .slice none 0 0) := by
  obtain ⟨i0, hi, hz0, hz1, hz2⟩ := info_parts Tryz.infoStr
  by_cases h0 : M.length = 0
  · obtain rfl : M = [] := List.eq_nil_of_length_eq_zero h0
    have hv : ∃ va vc, v = .slice va L.length vc ∧ L.length ≤ vc := by
      obtain ⟨h1, ⟨rfl, h0⟩ | ⟨g, cap, cur, rfl, hg, hh, hle, r⟩⟩ := h
      · exact ⟨none, 0, by rw [h0], by omega⟩
      · exact ⟨_, _, rfl, hle⟩
    obtain ⟨va, vc, rfl, hle⟩ := hv
    have hrun := run_append_nothing (P := Tryz.prog) w 30 ty 9 i0 Tryz.underlying30 hi va sa L.length vc c hle
    exact ⟨_, w, hrun, by simpa using h, ⟨rfl, rfl, rfl, Nat.le_refl _, fun _ _ _ => rfl⟩, id⟩
  · obtain ⟨ad, rfl, hcell⟩ := hsrc (by omega)
    obtain ⟨v', w', hrun, hown, hg, hn⟩ := run_append_own (P := Tryz.prog) w base 30 ty 9 i0 _ 1 16 Tryz.underlying30 hi hz0 hz1 hz2 rfl (by decide) v L.length (L.map encStr) h ad M.length c (M.map encStr) (by simp) hcell
      (fun u hu => by obtain ⟨y, _, rfl⟩ := List.mem_map.1 hu; rfl) (by simp only [maxLen]; omega) hsize hbase
    refine ⟨v', w', hrun, ?_, hg, fun e => (hn.1 e).1⟩
    unfold OT
    rw [List.length_append, List.map_append]
    exact hown
theorem OT.form {base : Nat} {W : World} {v : Value} {l : List (List UInt8)} (h : OT base W v l) (hv : v ≠ .slice none 0 0) : ∃ g c, v = .slice (some ⟨g, 0, none⟩) l.length c ∧ l.length ≤ c ∧ c ≤ 9223372036854775807 := by
  obtain ⟨e, ⟨h1, -⟩ | ⟨g, cap, cur, h1, -, -, h3, h4, -⟩⟩ := h
  · exact absurd h1 hv
  · exact ⟨g, cap, h1, h3, by simpa [maxLen] using h4⟩
theorem wpList_append_texts {w : World} {ops : Array Oper} {rest : List Oper} {o : Oper} {a : Act} {Q : Exit → Act → World → Prop} (hgd : o.guard = none) (s x : Operand)
    (ho : o.op = .call { callee := .builtin .append, args := #[s, x], argTypes := #[30, 30] }) (base : Nat) (g0 n0 c0 : Nat) (L M : List (List UInt8)) (hs : a.eval s = .slice (some ⟨g0, 0, none⟩) n0 c0) (h : OT base w (.slice (some ⟨g0, 0, none⟩) n0 c0) L) (sa : Option Addr) (m c : Nat)
    (hx : a.eval x = .slice sa m c) (hm : m = M.length) (hsrc : 0 < M.length → ∃ ad, sa = some ad ∧ ∀ j u, (M.map encStr)[j]? = some u → w.cell? (ad.add j) = some u) (hbase : base ≤ w.heap.size) (hsize : (L.length + M.length) * 16 ≤ 140737488355328)
    (hK : ∀ g' c' w', (n0 + m ≤ c' ∧ c' ≤ 9223372036854775807) → OT base w' (.slice (some ⟨g', 0, none⟩) (n0 + m) c') (L ++ M) → w.grownBy w' (some g0) → wpList Tryz.prog ops Q rest (a.put o.dst (.slice (some ⟨g', 0, none⟩) (n0 + m) c')) w') : wpList Tryz.prog ops Q (o :: rest) a w := by
  subst hm
  have hn0 : n0 = L.length := by
    obtain ⟨e, ⟨h1, -⟩ | ⟨g, cap, cur, h1, -⟩⟩ := h
    · cases h1
    · cases h1; rfl
  subst hn0
  obtain ⟨v', w', hr, hq, hg, hn⟩ := run_append_texts h o.type sa c hsrc hbase hsize
  obtain ⟨g', c', rfl, hc1, hc2⟩ := hq.form (fun e => by have := hn e; cases this)
  refine wpList_plain hgd fun K hK' => ?_
  unfold Oper.wp execOp
  simp only [ho, resolve, invoke, builtin, Sem.run_bind, Sem.run_pure, Result.andThen_ok, List.map_toArray, List.map_cons, List.map_nil, hs, hx, hr]
  rw [List.length_append] at hc1 hq
  rw [List.length_append]
  exact hK' _ _ (hK g' c' w' ⟨hc1, hc2⟩ hq hg)
theorem RT.src {B : Nat} {w : World} {a : Option Addr} {n c : Nat} {L : List (List UInt8)} (h : RT B w a n c L) : 0 < L.length → ∃ ad, a = some ad ∧ ∀ j u, (L.map encStr)[j]? = some u → w.cell? (ad.add j) = some u := by
  intro h0
  have hc : 0 < c := by have := h.le; have := h.len; omega
  obtain ⟨b, o, rfl, -, hcell⟩ := h.at_ hc
  refine ⟨_, rfl, fun j u hu => ?_⟩
  have e : (⟨b, o, none⟩ : Addr).add j = ⟨b, o + j, none⟩ := by unfold Addr.add; split <;> simp_all
  rw [e]
  rw [List.getElem?_map] at hu
  rcases Nat.lt_or_ge j L.length with hj | hj
  · rw [List.getElem?_eq_getElem hj] at hu
    cases hu
    have := hcell j (by have := h.len; omega)
    rw [List.getD_eq_getElem?_getD, List.getElem?_eq_getElem hj] at this
    exact this
  · rw [List.getElem?_eq_none hj] at hu; cases hu

def lentX : List (List UInt8) := (List.range 12).map mkTx
theorem lentX_len : lentX.length = 12 := by simp [lentX]
theorem lentX_at (j : Nat) (h : j < 12) : lentX[j]'(by rw [lentX_len]; exact h) = mkTx j := by simp [lentX]
theorem lentX_take (j : Nat) (h : j < 12) : lentX.take (j + 1) = lentX.take j ++ [mkTx j] := by
  rw [List.take_succ_eq_append_getElem (by rw [lentX_len]; exact h), lentX_at j h]
theorem one_text (W : World) (x : List UInt8) (t : TypeId) : ∀ j u, ([x].map encStr)[j]? = some u → (W.alloc (.cells #[encStr x] t)).cell? ((⟨W.heap.size, 0, none⟩ : Addr).add j) = some u := by
  intro j u hu
  have e : (⟨W.heap.size, 0, none⟩ : Addr).add j = ⟨W.heap.size, 0 + j, none⟩ := by unfold Addr.add; split <;> simp_all
  rw [e]
  simp only [World.cell?, (Go.MapKept.heap_alloc W _).1]
  simpa using hu
set_option maxHeartbeats 2000000 in
set_option maxRecDepth 100000 in
theorem LentTexts_any (N : Nat) (a : Option Addr) (n c : Nat) (L : List (List UInt8)) (w : World) (hr : RT N w a n c L) (hN : N ≤ w.heap.size) (hs : n ≤ 100000) :
    Calls Tryz.prog 47 #[.slice a n c] w fun e w' => (∃ g c', e = .returned (.slice (some ⟨g, 0, none⟩) n c') ∧ (n + 12 ≤ c' ∧ c' ≤ 9223372036854775807) ∧ OT w.heap.size w' (.slice (some ⟨g, 0, none⟩) (n + 12) c') (L ++ lentX)) ∧ Below w.heap.size w w' := by
  obtain ⟨i0, hi, hz0, hz1, hz2⟩ := info_parts Tryz.infoStr
  have hln := hr.len
  have hle := hr.le
  have hmx := hr.mx
  have Hln := Lib.hid hln
  have Hr := Lib.hid hr
  have Hi := Lib.hid hi
  have Hz0 := Lib.hid hz0
  have Hz1 := Lib.hid hz1
  have Hz2 := Lib.hid hz2
  have hb0 : i0.bytes * (n + 12) ≤ 281474976710656 := by rw [hz2]; omega
  have Hb0 := Lib.hid hb0
  clear hi hz0 hz1 hz2 hr hln hb0
  go_enter Tryz.func47, Tryz.ntmps47
  go_wp2_with (first
    | (refine wpList_make_own _ rfl _ _ 30 rfl w.heap.size 9 i0 _ 1 Tryz.underlying30 Hi.out Hz0.out Hz1.out .i64 .i64 _ (n + 12) rfl rfl (by omega) Hb0.out (by simp only [maxLen]; omega) (Nat.le_refl _) ?_; intro w1 hown1 hg1; have O1 : Hid (OT w.heap.size w1 (.slice (some ⟨w.heap.size, 0, none⟩) 0 (n + 12)) []) := Lib.hid hown1; have B1 : Hid (Below w.heap.size w w1) := Lib.hid ((Below.refl _ w).grown hg1 (Nat.le_refl _) (fun r e => by cases e)); clear hown1 hg1)
    | (at_builtin; refine wpList_append_texts rfl _ _ rfl w.heap.size w.heap.size 0 (n + 12) [] L rfl O1.out _ _ _ rfl Hln.out (Hr.out.below (B1.out.mono hN)).src B1.out.size (by have := Hln.out; simp; omega) ?_; intro g2 c2 w2 hc2 hown2 hg2))
  rw [List.nil_append, Nat.zero_add] at hown2
  have O2 := Lib.hid hown2
  have B2 : Hid (Below w.heap.size w w2) := Lib.hid (B1.out.grown hg2 B1.out.size (fun r e => by cases e; exact Nat.le_refl _))
  clear hown2 hg2
  try rw [Nat.zero_add] at hc2
  try rw [Nat.zero_add]
  go_wp2_with (fail)
  go_loopw [3, 4] (fun v i wr => ∃ (j g c' : Nat), j ≤ 12 ∧ i = .int .i64 j ∧ v = .slice (some ⟨g, 0, none⟩) (n + j) c' ∧ Hid (n + j ≤ c' ∧ c' ≤ 9223372036854775807) ∧ Hid (OT w.heap.size wr (.slice (some ⟨g, 0, none⟩) (n + j) c') (L ++ lentX.take j)) ∧ Hid (Below w.heap.size w wr)) (fun _ i _ => 12 - (intOf i).toNat)
  case atStart => exact ⟨0, g2, c2, by omega, rfl, rfl, Lib.hid hc2, by simpa using O2, B2⟩
  case round =>
    obtain ⟨j, g, c', hj, rfl, rfl, hcc, Ho, Hb⟩ := hrel
    by_cases hlt : j < 12
    · have hmk := fun W => markText_any j W hlt
      have hsz := Hb.out.size
      have htk := lentX_take j hlt
      obtain ⟨m, hm⟩ : ∃ m, m = mkTx j := ⟨_, rfl⟩
      rw [← hm] at hmk htk
      unfold encStr at hmk
      have HM := Lib.hid hmk
      have Htk := Lib.hid htk
      clear hm htk hmk
      go_wp2_with (first | (go_at_call 94; refine (HM.out _).mono ?_; rintro e wm ⟨rfl, hbm⟩; have O3 := Lib.hid ((Ho.out.below hbm).below ((Below.refl _ wm).alloc (Nat.le_refl _) (.cells #[.string ⟨m.toArray⟩] 9))); have Bm := Lib.hid (Hb.out.trans (hbm.mono hsz)); clear hbm) | (at_builtin; refine wpList_append_texts rfl _ _ rfl w.heap.size g (n + j) c' (L ++ lentX.take j) [m] rfl O3.out _ 1 _ rfl rfl (fun _ => ⟨_, rfl, one_text _ m _⟩) (by have := Bm.out.size; simp; omega) (by have := Hln.out; simp; omega) ?_; intro g4 c4 w4 hc4 hown4 hg4))
      have O4 := Lib.hid (show OT w.heap.size w4 (.slice (some ⟨g4, 0, none⟩) (n + (j + 1)) c4) (L ++ lentX.take (j + 1)) from by rw [Htk.out, ← List.append_assoc]; exact hown4)
      have B4 : Hid (Below w.heap.size w w4) := Lib.hid ((Bm.out.alloc Bm.out.size _).grown hg4 (by have := Bm.out.size; simp; omega) (fun r e => by cases e; exact (Ho.out.ge _ rfl).1))
      have C4 := Lib.hid hc4
      clear hown4 hg4 hc4
      go_roundw
      case rel => exact ⟨j + 1, g4, c4, by omega, by go_num, by go_num, C4, O4, B4⟩
      case measure => simp [intOf]; omega
    · have hge : j = 12 := by omega
      subst hge
      obtain ⟨q1, q2⟩ := hcc.out
      have q4 : (n : Int) ≤ (c' : Int) := by omega
      go_wp2_with (fail)
      go_ret
      refine ⟨⟨g, c', rfl, ⟨q1, q2⟩, ?_⟩, Hb.out⟩
      have h := Ho.out
      rw [List.take_of_length_le (Nat.le_of_eq lentX_len)] at h
      exact h
end Go.Proofs.YthlmnoggeggpkaaGreat
namespace Go.Proofs.YthlmnoggeggpkaaGreat
open Go.RowKit

theorem allX_at (L : List (List UInt8)) (n j : Nat) (hn : n = L.length) (hj : j < n) : (L ++ lentX).getD j [] = L.getD j [] := by
  rw [List.getD_eq_getElem?_getD, List.getElem?_append_left (by omega), List.getD_eq_getElem?_getD]
theorem allX_behind (L : List (List UInt8)) (n d : Nat) (hn : n = L.length) (hd : d < 12) : (L ++ lentX).getD (n + d) [] = mkTx d := by
  rw [List.getD_eq_getElem?_getD, List.getElem?_append_right (by omega), show n + d - L.length = d by omega, List.getElem?_eq_getElem (by rw [lentX_len]; exact hd), Option.getD_some, lentX_at d hd]
set_option maxHeartbeats 4000000 in
set_option maxRecDepth 100000 in
theorem KeptTexts_any (B N : Nat) (g : Nat) (c' : Nat) (a : Option Addr) (n c : Nat) (L : List (List UInt8)) (w : World) (ho : RT B w (some ⟨g, 0, none⟩) (n + 12) c' (L ++ lentX)) (hr : RT N w a n c L) (hB : B ≤ w.heap.size) (hN : N ≤ w.heap.size) :
    Calls Tryz.prog 63 #[.slice (some ⟨g, 0, none⟩) n c', .slice a n c] w fun e w' => e = .returned (.bool true) ∧ Below w.heap.size w w' := by
  have h1 := ho.le; have h2 := ho.mx; have h3 := hr.le; have h4 := hr.mx
  have hln := hr.len
  have Hln := Lib.hid hln
  have Ho := Lib.hid ho
  have Hr := Lib.hid hr
  clear ho hr hln
  have q1 : (n : Int) + 12 ≤ (c' : Int) := by omega
  have q2 := wrap_in (x := (n : Int) + 12) (by omega) (by omega)
  go_enter Tryz.func63, Tryz.ntmps63
  go_wp2_with (fail)
  go_loopw [6] (fun i wr => ∃ (j : Nat), j ≤ n + 12 ∧ i = .int .i64 j ∧ Hid (Below w.heap.size w wr)) (fun i _ => n + 12 - (intOf i).toNat)
  case atStart => exact ⟨0, by omega, rfl, Lib.hid (Below.refl _ _)⟩
  case round =>
    obtain ⟨j, hj, rfl, Hb⟩ := hrel
    have hsz := Hb.out.size
    by_cases hlt : j < n
    · obtain ⟨b, o, e1, hbB, hc1⟩ := (Ho.out.below (Hb.out.mono hB)).at_ (by omega)
      cases e1
      obtain ⟨b2, o2, rfl, hbN, hc2⟩ := (Hr.out.below (Hb.out.mono hN)).at_ (by omega)
      have k1 := hc1 j (by omega)
      have k3 := hc2 j hlt
      rw [allX_at L n j Hln.out hlt, Nat.zero_add] at k1
      generalize L.getD j [] = x at k1 k3
      unfold encStr at k1 k3
      clear hc1 hc2
      have f1 : ∀ y : BelowW wr, y.v.cell? ⟨g, j, none⟩ = some (.string ⟨x.toArray⟩) := fun y => (y.h.cell (by show g < _; omega)).trans k1
      have f3 : ∀ y : BelowW wr, y.v.cell? ⟨b2, o2 + j, none⟩ = some (.string ⟨x.toArray⟩) := fun y => (y.h.cell (by show b2 < _; omega)).trans k3
      have hd : decide ((j : Int) < (n : Int)) = true := decide_eq_true (by omega)
      have hd2 : decide ((n : Int) ≤ (j : Int)) = false := decide_eq_false (by omega)
      have hd3 : decide (n ≤ j) = false := decide_eq_false (by omega)
      have hd4 : decide (j < n) = true := decide_eq_true (by omega)
      clear k1 k3
      go_wp2_with (fail)
      refine wp_region_below wr (by kernel_rfl) (by kernel_rfl) (Below.refl _ _) ?_
      repeat (go_big_quiet_step (fail))
      refine wpQuiet_nil ?_
      intro _ hw'
      obtain ⟨y, hw''⟩ := hw'
      subst hw''
      clear f1 f3
      go_wp2_with (fail)
      go_roundw
      case rel => exact ⟨j + 1, by omega, by go_num, Lib.hid (Hb.out.trans (y.h.mono hsz))⟩
      case measure => simp [intOf]; omega
    · by_cases hlt2 : j < n + 12
      · obtain ⟨d, rfl⟩ : ∃ d, j = n + d := ⟨j - n, by omega⟩
        obtain ⟨b, o, e1, hbB, hc1⟩ := (Ho.out.below (Hb.out.mono hB)).at_ (by omega)
        cases e1
        have k1 := hc1 (n + d) (by omega)
        rw [allX_behind L n d Hln.out (by omega), Nat.zero_add] at k1
        have hmk : ∀ W : World, Calls Tryz.prog 94 #[.int .i64 1, .int .i64 (d : Int)] W fun e w' => e = .returned (encStr (mkTx d)) ∧ Below W.heap.size W w' := fun W => markText_any d W (by omega)
        generalize mkTx d = m at k1 hmk
        unfold encStr at k1 hmk
        have f1 : ∀ y : BelowW wr, y.v.cell? ⟨g, n + d, none⟩ = some (.string ⟨m.toArray⟩) := fun y => (y.h.cell (by show g < _; omega)).trans k1
        clear hc1 k1
        have i1 : decide ((n : Int) + (d : Int) < (n : Int)) = false := decide_eq_false (by omega)
        have i2 : decide ((n : Int) ≤ (n : Int) + (d : Int)) = true := decide_eq_true (by omega)
        have i3 : IntKind.i64.wrap ((n : Int) + (d : Int) - (n : Int)) = (d : Int) := by
          rw [show (n : Int) + (d : Int) - (n : Int) = (d : Int) by omega]
          exact wrap_in (by omega) (by omega)
        have i5 : (n : Int) + (d : Int) < (n : Int) + 12 := by omega
        have i6 : (0 : Int) ≤ (n : Int) + (d : Int) := by omega
        have c5 := Lib.hid hlt2
        clear hlt hj hlt2
        go_wp2_with (fail)
        refine wp_region_below wr (by kernel_rfl) (by kernel_rfl) (Below.refl _ _) ?_
        repeat (go_big_quiet_step ((go_at_call 94; exact below_call (hmk _))))
        refine wpQuiet_nil ?_
        intro _ hw'
        obtain ⟨y, hw''⟩ := hw'
        subst hw''
        clear f1
        go_wp2_with (fail)
        have c6 := c5.out
        go_roundw
        case rel => exact ⟨n + d + 1, by omega, by go_num, Lib.hid (Hb.out.trans (y.h.mono hsz))⟩
        case measure => simp [intOf]; omega
      · go_wp2_with (fail)
        go_ret
        exact ⟨rfl, Hb.out⟩
end Go.Proofs.YthlmnoggeggpkaaGreat
