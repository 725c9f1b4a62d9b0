/- Lists of texts that are lent. The walk of storemankit.KeptTexts. The walk of storemankit.KeptParts. Heights in a graph: plain Lean, no program. -/
import Derived.Laws.OwnMore
import Derived.Test.YtbedbhlebfnohaaGreatKMark
import Derived.Test.YtbedbhlebfnohaaGreatBelowQ
import Derived.Test.YtbedbhlebfnohaaGreatProg
namespace Go.Proofs.YtbedbhlebfnohaaGreat
open Go.RowKit

/-- The slice value v leads to memory of the call's own, from block base on, and reads as the texts L. -/
def OT (base : Nat) (w : World) (v : Value) (L : List (List UInt8)) : Prop := w.ownsRow base 9 1 v L.length (L.map encStr)
theorem Tryz.infoStr : (Tryz.prog.info? 9).map (fun i => (i.zero, i.size, i.bytes)) = some (some (.string ByteArray.empty), 1, 16) := by kernel_rfl
theorem OT.mono {B B' : Nat} {w : World} {v : Value} {L : List (List UInt8)} (h : OT B w v L) (hb : B' ≤ B) : OT B' w v L := by
  obtain ⟨h1, h2 | ⟨g, cap, cur, hv, hg, r⟩⟩ := h
  · exact ⟨h1, .inl h2⟩
  · exact ⟨h1, .inr ⟨g, cap, cur, hv, Nat.le_trans hb hg, r⟩⟩
theorem OT.keep {base : Nat} {W W' : World} {v : Value} {L : List (List UInt8)} (h : OT base W v L) (hk : ∀ b, v.ownBlock = some b → W'.heap[b]? = W.heap[b]?) : OT base W' v L := by
  obtain ⟨e1, h3 | ⟨g, cap, cur, hv, hg, hh, r⟩⟩ := h
  · exact ⟨e1, .inl h3⟩
  · exact ⟨e1, .inr ⟨g, cap, cur, hv, hg, (hk g (by rw [hv]; rfl)).trans hh, r⟩⟩
theorem OT.ge {base : Nat} {W : World} {v : Value} {L : List (List UInt8)} (h : OT base W v L) : ∀ b, v.ownBlock = some b → base ≤ b ∧ b < W.heap.size := by
  intro b hb
  obtain ⟨e1, ⟨rfl, -⟩ | ⟨g, cap, cur, rfl, hg, hh, r⟩⟩ := h
  · cases hb
  · cases hb
    exact ⟨hg, (Array.getElem?_eq_some_iff.1 hh).1⟩
theorem OT.below {base : Nat} {W W' : World} {v : Value} {L : List (List UInt8)} (h : OT base W v L) (hb : Below W.heap.size W W') : OT base W' v L :=
  h.keep fun b e => hb.block b (h.ge b e).2
/-- It reads; so do its first m. -/
theorem OT.rt {base : Nat} {w : World} {g n c : Nat} {L : List (List UInt8)} (h : OT base w (.slice (some ⟨g, 0, none⟩) n c) L) (hf : ∀ x ∈ L, x.length ≤ 9223372036854775807) (m : Nat) (hm : m ≤ n) : RT w.heap.size w (some ⟨g, 0, none⟩) m c (L.take m) ∧ base ≤ g := by
  obtain ⟨h1, ⟨h2, -⟩ | ⟨g', cap, cur, hv, hg, hh, hle, hcap, hsz, htk⟩⟩ := h
  · cases h2
  · cases hv
    refine ⟨⟨by rw [List.length_take]; omega, by omega, by simpa [maxLen] using hcap, fun x hx => hf x (List.mem_of_mem_take hx), fun _ => ⟨g, 0, rfl, (Array.getElem?_eq_some_iff.1 hh).1, fun i hi => ?_⟩⟩, hg⟩
    have e := congrArg (fun l : List Value => l[i]?) htk
    simp only [List.getElem?_take, List.getElem?_map] at e
    rw [if_pos (by omega), List.getElem?_eq_getElem (l := L) (by omega)] at e
    simp only [World.cell?, hh, Nat.zero_add, Option.isSome_none, Bool.false_eq_true, if_false]
    rw [List.getD_eq_getElem?_getD, List.getElem?_take, if_pos hi, List.getElem?_eq_getElem (by omega)]
    simpa [lv] using e

theorem run_append_texts {w : World} {base : Nat} {v : Value} {L M : List (List UInt8)} (h : OT base w v L) (ty : TypeId) (sa : Option Addr) (c : Nat) (hsrc : 0 < M.length → ∃ ad, sa = some ad ∧ ∀ j u, (M.map encStr)[j]? = some u → w.cell? (ad.add j) = some u)
    (hbase : base ≤ w.heap.size) (hsize : (L.length + M.length) * 16 ≤ 140737488355328) :
    ∃ v' w', (Builtin.append_ #[100, 100] ty #[v, .slice sa M.length c]).run Tryz.prog w = .ok v' w' ∧ OT base w' v' (L ++ M) ∧ w.grownBy w' v.ownBlock ∧ (v' = .slice none 0 0 → v = .slice none 0 0) := by
  obtain ⟨i0, hi, hz0, hz1, hz2⟩ := info_parts Tryz.infoStr
  by_cases h0 : M.length = 0
  · obtain rfl : M = [] := List.eq_nil_of_length_eq_zero h0
    have hv : ∃ va vc, v = .slice va L.length vc ∧ L.length ≤ vc := by
      obtain ⟨h1, ⟨rfl, h0⟩ | ⟨g, cap, cur, rfl, hg, hh, hle, r⟩⟩ := h
      · exact ⟨none, 0, by rw [h0], by omega⟩
      · exact ⟨_, _, rfl, hle⟩
    obtain ⟨va, vc, rfl, hle⟩ := hv
    have hrun := run_append_nothing (P := Tryz.prog) w 100 ty 9 i0 Tryz.underlying100 hi va sa L.length vc c hle
    exact ⟨_, w, hrun, by simpa using h, ⟨rfl, rfl, rfl, Nat.le_refl _, fun _ _ _ => rfl⟩, id⟩
  · obtain ⟨ad, rfl, hcell⟩ := hsrc (by omega)
    obtain ⟨v', w', hrun, hown, hg, hn⟩ := run_append_own (P := Tryz.prog) w base 100 ty 9 i0 _ 1 16 Tryz.underlying100 hi hz0 hz1 hz2 rfl (by decide) v L.length (L.map encStr) h ad M.length c (M.map encStr) (by simp) hcell
      (fun u hu => by obtain ⟨y, _, rfl⟩ := List.mem_map.1 hu; rfl) (by simp only [maxLen]; omega) hsize hbase
    refine ⟨v', w', hrun, ?_, hg, fun e => (hn.1 e).1⟩
    unfold OT
    rw [List.length_append, List.map_append]
    exact hown
theorem OT.form {base : Nat} {W : World} {v : Value} {l : List (List UInt8)} (h : OT base W v l) (hv : v ≠ .slice none 0 0) : ∃ g c, v = .slice (some ⟨g, 0, none⟩) l.length c ∧ l.length ≤ c ∧ c ≤ 9223372036854775807 := by
  obtain ⟨e, ⟨h1, -⟩ | ⟨g, cap, cur, h1, -, -, h3, h4, -⟩⟩ := h
  · exact absurd h1 hv
  · exact ⟨g, cap, h1, h3, by simpa [maxLen] using h4⟩
theorem wpList_append_texts {w : World} {ops : Array Oper} {rest : List Oper} {o : Oper} {a : Act} {Q : Exit → Act → World → Prop} (hgd : o.guard = none) (s x : Operand)
    (ho : o.op = .call { callee := .builtin .append, args := #[s, x], argTypes := #[100, 100] }) (base : Nat) (g0 n0 c0 : Nat) (L M : List (List UInt8)) (hs : a.eval s = .slice (some ⟨g0, 0, none⟩) n0 c0) (h : OT base w (.slice (some ⟨g0, 0, none⟩) n0 c0) L) (sa : Option Addr) (m c : Nat)
    (hx : a.eval x = .slice sa m c) (hm : m = M.length) (hsrc : 0 < M.length → ∃ ad, sa = some ad ∧ ∀ j u, (M.map encStr)[j]? = some u → w.cell? (ad.add j) = some u) (hbase : base ≤ w.heap.size) (hsize : (L.length + M.length) * 16 ≤ 140737488355328)
    (hK : ∀ g' c' w', (n0 + m ≤ c' ∧ c' ≤ 9223372036854775807) → OT base w' (.slice (some ⟨g', 0, none⟩) (n0 + m) c') (L ++ M) → w.grownBy w' (some g0) → wpList Tryz.prog ops Q rest (a.put o.dst (.slice (some ⟨g', 0, none⟩) (n0 + m) c')) w') : wpList Tryz.prog ops Q (o :: rest) a w := by
  subst hm
  have hn0 : n0 = L.length := by
    obtain ⟨e, ⟨h1, -⟩ | ⟨g, cap, cur, h1, -⟩⟩ := h
    · cases h1
    · cases h1; rfl
  subst hn0
  obtain ⟨v', w', hr, hq, hg, hn⟩ := run_append_texts h o.type sa c hsrc hbase hsize
  obtain ⟨g', c', rfl, hc1, hc2⟩ := hq.form (fun e => by have := hn e; cases this)
  refine wpList_plain hgd fun K hK' => ?_
  unfold Oper.wp execOp
  simp only [ho, resolve, invoke, builtin, Sem.run_bind, Sem.run_pure, Result.andThen_ok, List.map_toArray, List.map_cons, List.map_nil, hs, hx, hr]
  rw [List.length_append] at hc1 hq
  rw [List.length_append]
  exact hK' _ _ (hK g' c' w' ⟨hc1, hc2⟩ hq hg)
theorem RT.src {B : Nat} {w : World} {a : Option Addr} {n c : Nat} {L : List (List UInt8)} (h : RT B w a n c L) : 0 < L.length → ∃ ad, a = some ad ∧ ∀ j u, (L.map encStr)[j]? = some u → w.cell? (ad.add j) = some u := by
  intro h0
  have hc : 0 < c := by have := h.le; have := h.len; omega
  obtain ⟨b, o, rfl, -, hcell⟩ := h.at_ hc
  refine ⟨_, rfl, fun j u hu => ?_⟩
  have e : (⟨b, o, none⟩ : Addr).add j = ⟨b, o + j, none⟩ := by unfold Addr.add; split <;> simp_all
  rw [e]
  rw [List.getElem?_map] at hu
  rcases Nat.lt_or_ge j L.length with hj | hj
  · rw [List.getElem?_eq_getElem hj] at hu
    cases hu
    have := hcell j (by have := h.len; omega)
    rw [List.getD_eq_getElem?_getD, List.getElem?_eq_getElem hj] at this
    exact this
  · rw [List.getElem?_eq_none hj] at hu; cases hu

def lentX : List (List UInt8) := (List.range 12).map mkTx
theorem lentX_len : lentX.length = 12 := by simp [lentX]
theorem lentX_at (j : Nat) (h : j < 12) : lentX[j]'(by rw [lentX_len]; exact h) = mkTx j := by simp [lentX]
theorem lentX_take (j : Nat) (h : j < 12) : lentX.take (j + 1) = lentX.take j ++ [mkTx j] := by
  rw [List.take_succ_eq_append_getElem (by rw [lentX_len]; exact h), lentX_at j h]
/-- append within the room that is there. -/
theorem wpList_append_textsF {w : World} {ops : Array Oper} {rest : List Oper} {o : Oper} {a : Act} {K : Exit → Act → World → Prop} (hgd : o.guard = none) (s x : Operand)
    (ho : o.op = .call { callee := .builtin .append, args := #[s, x], argTypes := #[100, 100] }) (base g0 n0 c0 : Nat) (P R : List (List UInt8)) (hs : a.eval s = .slice (some ⟨g0, 0, none⟩) n0 c0) (h : OT base w (.slice (some ⟨g0, 0, none⟩) n0 c0) P) (sa : Option Addr) (m c : Nat)
    (hx : a.eval x = .slice sa m c) (hm : m = R.length) (hsrc : 0 < R.length → ∃ ad, sa = some ad ∧ ∀ j u, (R.map encStr)[j]? = some u → w.cell? (ad.add j) = some u) (hroom : n0 + m ≤ c0)
    (hK : ∀ w', OT base w' (.slice (some ⟨g0, 0, none⟩) (n0 + m) c0) (P ++ R) → w.grownBy w' (some g0) → wpList Tryz.prog ops K rest (a.put o.dst (.slice (some ⟨g0, 0, none⟩) (n0 + m) c0)) w') : wpList Tryz.prog ops K (o :: rest) a w := by
  subst hm
  obtain ⟨i0, hi, hz0, hz1, hz2⟩ := info_parts Tryz.infoStr
  have hn0 : n0 = P.length := by
    obtain ⟨e, ⟨h1, -⟩ | ⟨g, cap, cur, h1, -⟩⟩ := h
    · cases h1
    · cases h1; simp
  subst hn0
  have hrun : ∃ w', (Builtin.append_ #[100, 100] o.type #[.slice (some ⟨g0, 0, none⟩) P.length c0, .slice sa R.length c]).run Tryz.prog w = .ok (.slice (some ⟨g0, 0, none⟩) (P.length + R.length) c0) w' ∧ OT base w' (.slice (some ⟨g0, 0, none⟩) (P.length + R.length) c0) (P ++ R) ∧ w.grownBy w' (some g0) := by
    by_cases h0 : R.length = 0
    · obtain rfl : R = [] := List.eq_nil_of_length_eq_zero h0
      exact ⟨w, run_append_nothing (P := Tryz.prog) w 100 o.type 9 i0 Tryz.underlying100 hi (some ⟨g0, 0, none⟩) sa P.length c0 c (by omega), by simpa using h, ⟨rfl, rfl, rfl, Nat.le_refl _, fun _ _ _ => rfl⟩⟩
    · obtain ⟨ad, rfl, hcell⟩ := hsrc (by omega)
      obtain ⟨w', hr, hown, hg⟩ := run_append_fits (P := Tryz.prog) w base 100 o.type 9 i0 1 Tryz.underlying100 hi hz1 g0 P.length c0 (P.map encStr) (by simpa [OT] using h) ad R.length c (R.map encStr) (by simp) hcell (by intro u hu; obtain ⟨z, -, rfl⟩ := List.mem_map.1 hu; rfl) hroom
      refine ⟨w', hr, ?_, hg⟩
      unfold OT
      rw [List.length_append, List.map_append]
      exact hown
  obtain ⟨w', hr, ho2, hg⟩ := hrun
  refine wpList_plain hgd fun K' hK' => ?_
  unfold Oper.wp execOp
  simp only [ho, resolve, invoke, builtin, Sem.run_bind, Sem.run_pure, Result.andThen_ok, List.map_toArray, List.map_cons, List.map_nil, hs, hx, hr]
  exact hK' _ _ (hK w' ho2 hg)
theorem one_text (W : World) (x : List UInt8) (t : TypeId) : ∀ j u, ([x].map encStr)[j]? = some u → (W.alloc (.cells #[encStr x] t)).cell? ((⟨W.heap.size, 0, none⟩ : Addr).add j) = some u := by
  intro j u hu
  have e : (⟨W.heap.size, 0, none⟩ : Addr).add j = ⟨W.heap.size, 0 + j, none⟩ := by unfold Addr.add; split <;> simp_all
  rw [e]
  simp only [World.cell?, (Go.MapKept.heap_alloc W _).1]
  simpa using hu
set_option maxHeartbeats 2000000 in
set_option maxRecDepth 100000 in
theorem LentTexts_any (N : Nat) (a : Option Addr) (n c : Nat) (L : List (List UInt8)) (w : World) (hr : RT N w a n c L) (hN : N ≤ w.heap.size) (hs : n * 16 ≤ 140737488355328) :
    Calls Tryz.prog 91 #[.slice a n c] w fun e w' => (∃ g c', e = .returned (.slice (some ⟨g, 0, none⟩) n c') ∧ (n + 12 ≤ c' ∧ c' ≤ 9223372036854775807) ∧ OT w.heap.size w' (.slice (some ⟨g, 0, none⟩) (n + 12) c') (L ++ lentX)) ∧ Below w.heap.size w w' := by
  obtain ⟨i0, hi, hz0, hz1, hz2⟩ := info_parts Tryz.infoStr
  have hln := hr.len
  have hle := hr.le
  have hmx := hr.mx
  have Hln := Lib.hid hln
  have Hr := Lib.hid hr
  have Hi := Lib.hid hi
  have Hz0 := Lib.hid hz0
  have Hz1 := Lib.hid hz1
  have Hz2 := Lib.hid hz2
  have hb0 : i0.bytes * (n + 12) ≤ 281474976710656 := by rw [hz2]; omega
  have Hb0 := Lib.hid hb0
  clear hi hz0 hz1 hz2 hr hln hb0
  go_enter Tryz.func91, Tryz.ntmps91
  go_wp2_with (first
    | (refine wpList_make_own _ rfl _ _ 100 rfl w.heap.size 9 i0 _ 1 Tryz.underlying100 Hi.out Hz0.out Hz1.out .i64 .i64 _ (n + 12) rfl rfl (by omega) Hb0.out (by simp only [maxLen]; omega) (Nat.le_refl _) ?_; intro w1 hown1 hg1; have O1 : Hid (OT w.heap.size w1 (.slice (some ⟨w.heap.size, 0, none⟩) 0 (n + 12)) []) := Lib.hid hown1; have B1 : Hid (Below w.heap.size w w1) := Lib.hid ((Below.refl _ w).grown hg1 (Nat.le_refl _) (fun r e => by cases e)); clear hown1 hg1)
    | (at_builtin; refine wpList_append_textsF rfl _ _ rfl w.heap.size w.heap.size 0 (n + 12) [] L rfl O1.out _ _ _ rfl Hln.out (Hr.out.below (B1.out.mono hN)).src (by omega) ?_; intro w2 hown2 hg2))
  rw [List.nil_append, Nat.zero_add] at hown2
  have O2 := Lib.hid hown2
  have B2 : Hid (Below w.heap.size w w2) := Lib.hid (B1.out.grown hg2 B1.out.size (fun r e => by cases e; exact Nat.le_refl _))
  clear hown2 hg2
  try rw [Nat.zero_add]
  go_wp2_with (fail)
  go_loopw [3, 4] (fun v i wr => ∃ (j : Nat), j ≤ 12 ∧ i = .int .i64 j ∧ v = .slice (some ⟨w.heap.size, 0, none⟩) (n + j) (n + 12) ∧ Hid (OT w.heap.size wr (.slice (some ⟨w.heap.size, 0, none⟩) (n + j) (n + 12)) (L ++ lentX.take j)) ∧ Hid (Below w.heap.size w wr)) (fun _ i _ => 12 - (intOf i).toNat)
  case atStart => exact ⟨0, by omega, rfl, rfl, by simpa using O2, B2⟩
  case round =>
    obtain ⟨j, hj, rfl, rfl, Ho, Hb⟩ := hrel
    by_cases hlt : j < 12
    · have hmk := fun W => markText_any j W hlt
      have hsz := Hb.out.size
      have htk := lentX_take j hlt
      obtain ⟨m, hm⟩ : ∃ m, m = mkTx j := ⟨_, rfl⟩
      rw [← hm] at hmk htk
      unfold encStr at hmk
      have HM := Lib.hid hmk
      have Htk := Lib.hid htk
      clear hm htk hmk
      go_wp2_with (first | (go_at_call 126; refine (HM.out _).mono ?_; rintro e wm ⟨rfl, hbm⟩; have O3 := Lib.hid ((Ho.out.below hbm).below ((Below.refl _ wm).alloc (Nat.le_refl _) (.cells #[.string ⟨m.toArray⟩] 9))); have Bm := Lib.hid (Hb.out.trans (hbm.mono hsz)); clear hbm) | (at_builtin; refine wpList_append_textsF rfl _ _ rfl w.heap.size w.heap.size (n + j) (n + 12) (L ++ lentX.take j) [m] rfl O3.out _ 1 _ rfl rfl (fun _ => ⟨_, rfl, one_text _ m _⟩) (by omega) ?_; intro w4 hown4 hg4))
      have O4 := Lib.hid (show OT w.heap.size w4 (.slice (some ⟨w.heap.size, 0, none⟩) (n + (j + 1)) (n + 12)) (L ++ lentX.take (j + 1)) from by rw [Htk.out, ← List.append_assoc]; exact hown4)
      have B4 : Hid (Below w.heap.size w w4) := Lib.hid ((Bm.out.alloc Bm.out.size _).grown hg4 (by have := Bm.out.size; simp; omega) (fun r e => by cases e; exact Nat.le_refl _))
      clear hown4 hg4
      go_roundw
      case rel => exact ⟨j + 1, by omega, by go_num, by go_num, O4, B4⟩
      case measure => simp [intOf]; omega
    · have hge : j = 12 := by omega
      subst hge
      go_wp2_with (fail)
      go_ret
      refine ⟨⟨w.heap.size, n + 12, rfl, ⟨Nat.le_refl _, by omega⟩, ?_⟩, Hb.out⟩
      have h := Ho.out
      rw [List.take_of_length_le (Nat.le_of_eq lentX_len)] at h
      exact h
end Go.Proofs.YtbedbhlebfnohaaGreat
namespace Go.Proofs.YtbedbhlebfnohaaGreat
open Go.RowKit

theorem allX_at (L : List (List UInt8)) (n j : Nat) (hn : n = L.length) (hj : j < n) : (L ++ lentX).getD j [] = L.getD j [] := by
  rw [List.getD_eq_getElem?_getD, List.getElem?_append_left (by omega), List.getD_eq_getElem?_getD]
theorem allX_behind (L : List (List UInt8)) (n d : Nat) (hn : n = L.length) (hd : d < 12) : (L ++ lentX).getD (n + d) [] = mkTx d := by
  rw [List.getD_eq_getElem?_getD, List.getElem?_append_right (by omega), show n + d - L.length = d by omega, List.getElem?_eq_getElem (by rw [lentX_len]; exact hd), Option.getD_some, lentX_at d hd]
set_option maxHeartbeats 4000000 in
set_option maxRecDepth 100000 in
theorem KeptTexts_any (B N : Nat) (g : Nat) (c' : Nat) (a : Option Addr) (n c : Nat) (L : List (List UInt8)) (w : World) (ho : RT B w (some ⟨g, 0, none⟩) (n + 12) c' (L ++ lentX)) (hr : RT N w a n c L) (hB : B ≤ w.heap.size) (hN : N ≤ w.heap.size) :
    Calls Tryz.prog 120 #[.slice (some ⟨g, 0, none⟩) n c', .slice a n c] w fun e w' => e = .returned (.bool true) ∧ Below w.heap.size w w' := by
  have h1 := ho.le; have h2 := ho.mx; have h3 := hr.le; have h4 := hr.mx
  have hln := hr.len
  have Hln := Lib.hid hln
  have Ho := Lib.hid ho
  have Hr := Lib.hid hr
  clear ho hr hln
  have q1 : (n : Int) + 12 ≤ (c' : Int) := by omega
  have q2 := wrap_in (x := (n : Int) + 12) (by omega) (by omega)
  go_enter Tryz.func120, Tryz.ntmps120
  go_wp2_with (fail)
  go_loopw [6] (fun i wr => ∃ (j : Nat), j ≤ n + 12 ∧ i = .int .i64 j ∧ Hid (Below w.heap.size w wr)) (fun i _ => n + 12 - (intOf i).toNat)
  case atStart => exact ⟨0, by omega, rfl, Lib.hid (Below.refl _ _)⟩
  case round =>
    obtain ⟨j, hj, rfl, Hb⟩ := hrel
    have hsz := Hb.out.size
    by_cases hlt : j < n
    · obtain ⟨b, o, e1, hbB, hc1⟩ := (Ho.out.below (Hb.out.mono hB)).at_ (by omega)
      cases e1
      obtain ⟨b2, o2, rfl, hbN, hc2⟩ := (Hr.out.below (Hb.out.mono hN)).at_ (by omega)
      have k1 := hc1 j (by omega)
      have k3 := hc2 j hlt
      rw [allX_at L n j Hln.out hlt, Nat.zero_add] at k1
      generalize L.getD j [] = x at k1 k3
      unfold encStr at k1 k3
      clear hc1 hc2
      have f1 : ∀ y : BelowW wr, y.v.cell? ⟨g, j, none⟩ = some (.string ⟨x.toArray⟩) := fun y => (y.h.cell (by show g < _; omega)).trans k1
      have f3 : ∀ y : BelowW wr, y.v.cell? ⟨b2, o2 + j, none⟩ = some (.string ⟨x.toArray⟩) := fun y => (y.h.cell (by show b2 < _; omega)).trans k3
      have hd : decide ((j : Int) < (n : Int)) = true := decide_eq_true (by omega)
      have hd2 : decide ((n : Int) ≤ (j : Int)) = false := decide_eq_false (by omega)
      have hd3 : decide (n ≤ j) = false := decide_eq_false (by omega)
      have hd4 : decide (j < n) = true := decide_eq_true (by omega)
      clear k1 k3
      go_wp2_with (fail)
      refine wp_region_below wr (by kernel_rfl) (by kernel_rfl) (Below.refl _ _) ?_
      repeat (go_big_quiet_step (fail))
      refine wpQuiet_nil ?_
      intro _ hw'
      obtain ⟨y, hw''⟩ := hw'
      subst hw''
      clear f1 f3
      go_wp2_with (fail)
      go_roundw
      case rel => exact ⟨j + 1, by omega, by go_num, Lib.hid (Hb.out.trans (y.h.mono hsz))⟩
      case measure => simp [intOf]; omega
    · by_cases hlt2 : j < n + 12
      · obtain ⟨d, rfl⟩ : ∃ d, j = n + d := ⟨j - n, by omega⟩
        obtain ⟨b, o, e1, hbB, hc1⟩ := (Ho.out.below (Hb.out.mono hB)).at_ (by omega)
        cases e1
        have k1 := hc1 (n + d) (by omega)
        rw [allX_behind L n d Hln.out (by omega), Nat.zero_add] at k1
        have hmk : ∀ W : World, Calls Tryz.prog 126 #[.int .i64 1, .int .i64 (d : Int)] W fun e w' => e = .returned (encStr (mkTx d)) ∧ Below W.heap.size W w' := fun W => markText_any d W (by omega)
        generalize mkTx d = m at k1 hmk
        unfold encStr at k1 hmk
        have f1 : ∀ y : BelowW wr, y.v.cell? ⟨g, n + d, none⟩ = some (.string ⟨m.toArray⟩) := fun y => (y.h.cell (by show g < _; omega)).trans k1
        clear hc1 k1
        have i1 : decide ((n : Int) + (d : Int) < (n : Int)) = false := decide_eq_false (by omega)
        have i2 : decide ((n : Int) ≤ (n : Int) + (d : Int)) = true := decide_eq_true (by omega)
        have i3 : IntKind.i64.wrap ((n : Int) + (d : Int) - (n : Int)) = (d : Int) := by
          rw [show (n : Int) + (d : Int) - (n : Int) = (d : Int) by omega]
          exact wrap_in (by omega) (by omega)
        have i5 : (n : Int) + (d : Int) < (n : Int) + 12 := by omega
        have i6 : (0 : Int) ≤ (n : Int) + (d : Int) := by omega
        have c5 := Lib.hid hlt2
        clear hlt hj hlt2
        go_wp2_with (fail)
        refine wp_region_below wr (by kernel_rfl) (by kernel_rfl) (Below.refl _ _) ?_
        repeat (go_big_quiet_step ((go_at_call 126; exact below_call (hmk _))))
        refine wpQuiet_nil ?_
        intro _ hw'
        obtain ⟨y, hw''⟩ := hw'
        subst hw''
        clear f1
        go_wp2_with (fail)
        have c6 := c5.out
        go_roundw
        case rel => exact ⟨n + d + 1, by omega, by go_num, Lib.hid (Hb.out.trans (y.h.mono hsz))⟩
        case measure => simp [intOf]; omega
      · go_wp2_with (fail)
        go_ret
        exact ⟨rfl, Hb.out⟩
end Go.Proofs.YtbedbhlebfnohaaGreat
namespace Go.Proofs.YtbedbhlebfnohaaGreat
open Go.RowKit

theorem allP_at (L : List Pt) (n j : Nat) (hn : n = L.length) (hj : j < n) : (L ++ lentP).getD j default = L.getD j default := by
  rw [List.getD_eq_getElem?_getD, List.getElem?_append_left (by omega), List.getD_eq_getElem?_getD]
theorem allP_behind (L : List Pt) (n d : Nat) (hn : n = L.length) (hd : d < 12) : (L ++ lentP).getD (n + d) default = mkPt 1 d := by
  rw [List.getD_eq_getElem?_getD, List.getElem?_append_right (by omega), show n + d - L.length = d by omega, List.getElem?_eq_getElem (by rw [lentP_len]; exact hd), Option.getD_some, lentP_at d hd]
theorem eqPart_self (x : List UInt8) (u : Int) (w : World) : (Op.equalIn 10000 60 (.agg #[encStr x, .int .i64 u]) (.agg #[encStr x, .int .i64 u])).run Tryz.prog w = .ok true w := by
  rw [eqPart, eqP_iff.2 rfl]

set_option maxHeartbeats 4000000 in
set_option maxRecDepth 100000 in
theorem KeptParts_any (B N : Nat) (g : Nat) (c' : Nat) (a : Option Addr) (n c : Nat) (L : List Pt) (w : World) (ho : RP B w (some ⟨g, 0, none⟩) (n + 12) c' (L ++ lentP)) (hr : RP N w a n c L) (hB : B ≤ w.heap.size) (hN : N ≤ w.heap.size) :
    Calls Tryz.prog 119 #[.slice (some ⟨g, 0, none⟩) n c', .slice a n c] w fun e w' => e = .returned (.bool true) ∧ Below w.heap.size w w' := by
  have h1 := ho.le; have h2 := ho.mx; have h3 := hr.le; have h4 := hr.mx
  have hln := hr.len
  have Hln := Lib.hid hln
  have Ho := Lib.hid ho
  have Hr := Lib.hid hr
  clear ho hr hln
  have q1 : (n : Int) + 12 ≤ (c' : Int) := by omega
  have q2 := wrap_in (x := (n : Int) + 12) (by omega) (by omega)
  go_enter Tryz.func119, Tryz.ntmps119
  go_wp2_with (fail)
  go_loopw [6] (fun i wr => ∃ (j : Nat), j ≤ n + 12 ∧ i = .int .i64 j ∧ Hid (Below w.heap.size w wr)) (fun i _ => n + 12 - (intOf i).toNat)
  case atStart => exact ⟨0, by omega, rfl, Lib.hid (Below.refl _ _)⟩
  case round =>
    obtain ⟨j, hj, rfl, Hb⟩ := hrel
    have hsz := Hb.out.size
    by_cases hlt : j < n
    · obtain ⟨b, o, e1, hbB, hc1⟩ := (Ho.out.below (Hb.out.mono hB)).at_ (by omega)
      cases e1
      obtain ⟨b2, o2, rfl, hbN, hc2⟩ := (Hr.out.below (Hb.out.mono hN)).at_ (by omega)
      obtain ⟨k1, k2⟩ := hc1 j (by omega)
      obtain ⟨k3, k4⟩ := hc2 j hlt
      rw [allP_at L n j Hln.out hlt] at k1 k2
      rw [Nat.zero_add] at k1 k2
      generalize L.getD j default = p at k1 k2 k3 k4
      obtain ⟨x, u⟩ := p
      simp only at k1 k2 k3 k4
      clear hc1 hc2
      have f1 : ∀ y : BelowW wr, y.v.cell? ⟨g, j * 2, none⟩ = some (encStr x) := fun y => (y.h.cell (by show g < _; omega)).trans k1
      have f2 : ∀ y : BelowW wr, y.v.cell? ⟨g, j * 2 + 1, none⟩ = some (.int .i64 u) := fun y => (y.h.cell (by show g < _; omega)).trans k2
      have f3 : ∀ y : BelowW wr, y.v.cell? ⟨b2, o2 + j * 2, none⟩ = some (encStr x) := fun y => (y.h.cell (by show b2 < _; omega)).trans k3
      have f4 : ∀ y : BelowW wr, y.v.cell? ⟨b2, o2 + j * 2 + 1, none⟩ = some (.int .i64 u) := fun y => (y.h.cell (by show b2 < _; omega)).trans k4
      have heq := eqPart_self x u
      have hd : decide ((j : Int) < (n : Int)) = true := decide_eq_true (by omega)
      have hd2 : decide ((n : Int) ≤ (j : Int)) = false := decide_eq_false (by omega)
      have hd3 : decide (n ≤ j) = false := decide_eq_false (by omega)
      have hd4 : decide (j < n) = true := decide_eq_true (by omega)
      clear k1 k2 k3 k4
      go_wp2_with (fail)
      refine wp_region_below wr (by kernel_rfl) (by kernel_rfl) (Below.refl _ _) ?_
      repeat (go_big_quiet_step (fail))
      refine wpQuiet_nil ?_
      intro _ hw'
      obtain ⟨y, hw''⟩ := hw'
      subst hw''
      clear f1 f2 f3 f4
      go_wp2_with (fail)
      go_roundw
      case rel => exact ⟨j + 1, by omega, by go_num, Lib.hid (Hb.out.trans (y.h.mono hsz))⟩
      case measure => simp [intOf]; omega
    · by_cases hlt2 : j < n + 12
      · obtain ⟨d, rfl⟩ : ∃ d, j = n + d := ⟨j - n, by omega⟩
        obtain ⟨b, o, e1, hbB, hc1⟩ := (Ho.out.below (Hb.out.mono hB)).at_ (by omega)
        cases e1
        obtain ⟨k1, k2⟩ := hc1 (n + d) (by omega)
        rw [allP_behind L n d Hln.out (by omega)] at k1 k2
        rw [Nat.zero_add] at k1 k2
        have hmk : ∀ W : World, Calls Tryz.prog 131 #[.int .i64 1, .int .i64 (d : Int)] W fun e w' => e = .returned (.agg #[.string ⟨#[]⟩, .int .i64 (markN 1 d : Nat)]) ∧ Below W.heap.size W w' := fun W => markPart_any 1 d W (by omega) (by omega)
        unfold mkPt at k1 k2
        simp only at k1 k2
        generalize ((markN 1 d : Nat) : Int) = m at k1 k2 hmk
        have f1 : ∀ y : BelowW wr, y.v.cell? ⟨g, (n + d) * 2, none⟩ = some (.string ⟨#[]⟩) := fun y => (y.h.cell (by show g < _; omega)).trans k1
        have f2 : ∀ y : BelowW wr, y.v.cell? ⟨g, (n + d) * 2 + 1, none⟩ = some (.int .i64 m) := fun y => (y.h.cell (by show g < _; omega)).trans k2
        clear hc1 k1 k2
        have heq : ∀ w : World, (Op.equalIn 10000 60 (.agg #[.string ⟨#[]⟩, .int .i64 m]) (.agg #[.string ⟨#[]⟩, .int .i64 m])).run Tryz.prog w = .ok true w := fun w => eqPart_self [] m w
        have i1 : decide ((n : Int) + (d : Int) < (n : Int)) = false := decide_eq_false (by omega)
        have i2 : decide ((n : Int) ≤ (n : Int) + (d : Int)) = true := decide_eq_true (by omega)
        have i3 : IntKind.i64.wrap ((n : Int) + (d : Int) - (n : Int)) = (d : Int) := by
          rw [show (n : Int) + (d : Int) - (n : Int) = (d : Int) by omega]
          exact wrap_in (by omega) (by omega)
        have i5 : (n : Int) + (d : Int) < (n : Int) + 12 := by omega
        have i6 : (0 : Int) ≤ (n : Int) + (d : Int) := by omega
        have c5 := Lib.hid hlt2
        clear hlt hj hlt2
        go_wp2_with (fail)
        refine wp_region_below wr (by kernel_rfl) (by kernel_rfl) (Below.refl _ _) ?_
        repeat (go_big_quiet_step ((go_at_call 131; exact below_call (hmk _))))
        refine wpQuiet_nil ?_
        intro _ hw'
        obtain ⟨y, hw''⟩ := hw'
        subst hw''
        clear f1 f2
        go_wp2_with (fail)
        have c6 := c5.out
        go_roundw
        case rel => exact ⟨n + d + 1, by omega, by go_num, Lib.hid (Hb.out.trans (y.h.mono hsz))⟩
        case measure => simp [intOf]; omega
      · go_wp2_with (fail)
        go_ret
        exact ⟨rfl, Hb.out⟩
end Go.Proofs.YtbedbhlebfnohaaGreat
namespace Go.Proofs.YtbedbhlebfnohaaGreat

section
variable {α : Type}

/-- How high a node stands, as far as k levels tell. -/
def hgt (kids : α → List α) : Nat → α → Option Nat
  | 0, _ => none
  | k + 1, c => (kids c).foldl (fun acc p => match acc, hgt kids k p with | some n, some d => some (max n (d + 1)) | _, _ => none) (some 1)

def stepH (f : α → Option Nat) (acc : Option Nat) (p : α) : Option Nat := match acc, f p with | some n, some d => some (max n (d + 1)) | _, _ => none
theorem hgt_succ (kids : α → List α) (k : Nat) (c : α) : hgt kids (k + 1) c = (kids c).foldl (stepH (hgt kids k)) (some 1) := rfl
theorem stepH_none (f : α → Option Nat) (l : List α) : l.foldl (stepH f) none = none := by
  induction l with
  | nil => rfl
  | cons x l ih => rw [List.foldl_cons]; exact ih
theorem foldH_some {f : α → Option Nat} : ∀ {l : List α} {n m : Nat}, l.foldl (stepH f) (some n) = some m → n ≤ m ∧ ∀ p ∈ l, ∃ d, f p = some d ∧ d + 1 ≤ m
  | [], n, m, h => by
    cases h
    exact ⟨Nat.le_refl _, fun p hp => by cases hp⟩
  | x :: l, n, m, h => by
    rw [List.foldl_cons] at h
    cases hx : f x with
    | none =>
      have : stepH f (some n) x = none := by simp [stepH, hx]
      rw [this, stepH_none] at h
      cases h
    | some d =>
      have e : stepH f (some n) x = some (max n (d + 1)) := by simp [stepH, hx]
      rw [e] at h
      obtain ⟨h1, h2⟩ := foldH_some h
      refine ⟨by omega, fun p hp => ?_⟩
      rcases List.mem_cons.1 hp with rfl | hp
      · exact ⟨d, hx, by omega⟩
      · exact h2 p hp
theorem foldH_congr {f g : α → Option Nat} : ∀ {l : List α} {n m : Nat}, (∀ p ∈ l, ∀ d, f p = some d → g p = some d) → l.foldl (stepH f) (some n) = some m → l.foldl (stepH g) (some n) = some m
  | [], n, m, _, h => h
  | x :: l, n, m, hc, h => by
    rw [List.foldl_cons] at h ⊢
    cases hx : f x with
    | none =>
      have : stepH f (some n) x = none := by simp [stepH, hx]
      rw [this, stepH_none] at h
      cases h
    | some d =>
      have e : stepH f (some n) x = some (max n (d + 1)) := by simp [stepH, hx]
      have e' : stepH g (some n) x = some (max n (d + 1)) := by simp [stepH, hc x (List.mem_cons_self ..) d hx]
      rw [e] at h
      rw [e']
      exact foldH_congr (fun p hp => hc p (List.mem_cons_of_mem _ hp)) h
/-- Where the greatest is met: at the start, or at one of the list. -/
theorem foldH_top {f : α → Option Nat} : ∀ {l : List α} {n m : Nat}, l.foldl (stepH f) (some n) = some m → m = n ∨ ∃ p ∈ l, ∃ d, f p = some d ∧ m = d + 1
  | [], n, m, h => by cases h; exact Or.inl rfl
  | x :: l, n, m, h => by
    rw [List.foldl_cons] at h
    cases hx : f x with
    | none =>
      have : stepH f (some n) x = none := by simp [stepH, hx]
      rw [this, stepH_none] at h
      cases h
    | some d =>
      have e : stepH f (some n) x = some (max n (d + 1)) := by simp [stepH, hx]
      rw [e] at h
      rcases foldH_top h with h | ⟨p, hp, d', hd, hm⟩
      · by_cases hle : n ≤ d + 1
        · exact Or.inr ⟨x, List.mem_cons_self .., d, hx, by omega⟩
        · exact Or.inl (by omega)
      · exact Or.inr ⟨p, List.mem_cons_of_mem _ hp, d', hd, hm⟩
variable {kids : α → List α}
theorem hgt_mono1 : ∀ (k : Nat) (c : α) (d : Nat), hgt kids k c = some d → hgt kids (k + 1) c = some d
  | 0, _, _, h => by cases h
  | k + 1, c, d, h => by
    rw [hgt_succ] at h ⊢
    exact foldH_congr (fun p _ d hd => hgt_mono1 k p d hd) h
theorem hgt_mono {k k' : Nat} (hk : k ≤ k') {c : α} {d : Nat} (h : hgt kids k c = some d) : hgt kids k' c = some d := by
  induction hk with
  | refl => exact h
  | step _ ih => exact hgt_mono1 _ _ _ ih
theorem hgt_one {k k' : Nat} {c : α} {d d' : Nat} (h : hgt kids k c = some d) (h' : hgt kids k' c = some d') : d = d' := by
  have a := hgt_mono (Nat.le_max_left k k') h
  have b := hgt_mono (Nat.le_max_right k k') h'
  rw [a] at b
  cases b; rfl
theorem hgt_pos {k : Nat} {c : α} {d : Nat} (h : hgt kids k c = some d) : 1 ≤ d := by
  cases k with
  | zero => cases h
  | succ k => exact (foldH_some h).1
theorem hgt_kid {k : Nat} {c p : α} {d : Nat} (h : hgt kids k c = some d) (hp : p ∈ kids c) : ∃ k' d', hgt kids k' p = some d' ∧ d' < d := by
  cases k with
  | zero => cases h
  | succ k =>
    obtain ⟨d', h1, h2⟩ := (foldH_some h).2 p hp
    exact ⟨k, d', h1, h2⟩
/-- A height is told by as many levels. -/
theorem hgt_fuel : ∀ (d k : Nat) (c : α), hgt kids k c = some d → hgt kids d c = some d
  | d, 0, _, h => by cases h
  | d, k + 1, c, h => by
    have h0 := h
    rw [hgt_succ] at h
    have hp := hgt_pos h0
    obtain ⟨e, rfl⟩ : ∃ e, d = e + 1 := ⟨d - 1, by omega⟩
    rw [hgt_succ]
    refine foldH_congr (fun p hpm d' hd => ?_) h
    obtain ⟨d2, h2, hle⟩ := (foldH_some h).2 p hpm
    rw [hd] at h2
    cases h2
    exact hgt_mono (by omega) (hgt_fuel d' k p hd)
/-- One is lower by one. -/
theorem hgt_below {k : Nat} {c : α} {d : Nat} (h : hgt kids k c = some (d + 1)) (hd : 1 ≤ d) : ∃ p ∈ kids c, ∃ k', hgt kids k' p = some d := by
  cases k with
  | zero => cases h
  | succ k =>
    rcases foldH_top h with h | ⟨p, hp, d', hd', hm⟩
    · omega
    · exact ⟨p, hp, k, by rw [hd']; congr 1; omega⟩
/-- All lower heights stand within what is closed. -/
theorem hgt_chain {V : List α} (hV : ∀ c ∈ V, ∀ p ∈ kids c, p ∈ V) : ∀ (d : Nat) {k : Nat} {c : α}, c ∈ V → hgt kids k c = some d → ∀ e, 1 ≤ e → e ≤ d → ∃ x ∈ V, ∃ k', hgt kids k' x = some e
  | 0, _, _, _, h, _, _, _ => absurd (hgt_pos h) (by omega)
  | d + 1, k, c, hc, h, e, h1, h2 => by
    by_cases he : e = d + 1
    · exact ⟨c, hc, k, by rw [he]; exact h⟩
    · obtain ⟨p, hp, k', hk'⟩ := hgt_below h (by omega)
      exact hgt_chain hV d (hV c hc p hp) hk' e h1 (by omega)
/-- As many heights, as many nodes. -/
theorem many [DecidableEq α] (f : Nat → α) (V : List α) (d : Nat) (hf : ∀ e, 1 ≤ e → e ≤ d → f e ∈ V) (hi : ∀ a b, 1 ≤ a → a ≤ d → 1 ≤ b → b ≤ d → f a = f b → a = b) : d ≤ V.length := by
  induction d generalizing V with
  | zero => exact Nat.zero_le _
  | succ d ih =>
    have hm := hf (d + 1) (by omega) (Nat.le_refl _)
    have h := ih (V.erase (f (d + 1))) (fun e h1 h2 => by
      have h3 := hf e h1 (by omega)
      refine (List.mem_erase_of_ne (fun he => ?_)).2 h3
      have := hi e (d + 1) h1 (by omega) (by omega) (Nat.le_refl _) he
      omega) (fun a b h1 h2 h3 h4 => hi a b h1 (by omega) h3 (by omega))
    rw [List.length_erase_of_mem hm] at h
    have : 0 < V.length := List.length_pos_of_mem hm
    omega
theorem hgt_le [DecidableEq α] {V : List α} (hV : ∀ c ∈ V, ∀ p ∈ kids c, p ∈ V) {k : Nat} {c : α} (hc : c ∈ V) {d : Nat} (h : hgt kids k c = some d) : d ≤ V.length := by
  have hch := hgt_chain hV d hc h
  have hex : ∀ e, ∃ x, (1 ≤ e → e ≤ d → x ∈ V ∧ ∃ k', hgt kids k' x = some e) := fun e => by
    by_cases he : 1 ≤ e ∧ e ≤ d
    · obtain ⟨x, hx, k', hk⟩ := hch e he.1 he.2
      exact ⟨x, fun _ _ => ⟨hx, k', hk⟩⟩
    · exact ⟨c, fun a b => absurd ⟨a, b⟩ he⟩
  let f : Nat → α := fun e => Classical.choose (hex e)
  have hf : ∀ e, 1 ≤ e → e ≤ d → f e ∈ V ∧ ∃ k', hgt kids k' (f e) = some e := fun e => Classical.choose_spec (hex e)
  refine many f V d (fun e h1 h2 => (hf e h1 h2).1) (fun a b h1 h2 h3 h4 he => ?_)
  obtain ⟨k1, e1⟩ := (hf a h1 h2).2
  obtain ⟨k2, e2⟩ := (hf b h3 h4).2
  rw [he] at e1
  exact hgt_one e1 e2
/-- What is told at all is told by as many levels as there are nodes. -/
theorem hgt_all [DecidableEq α] {V : List α} (hV : ∀ c ∈ V, ∀ p ∈ kids c, p ∈ V) {k : Nat} {c : α} (hc : c ∈ V) {d : Nat} (h : hgt kids k c = some d) : hgt kids V.length c = some d :=
  hgt_mono (hgt_le hV hc h) (hgt_fuel d k c h)
/-- A way of one step or more. -/
inductive Way (kids : α → List α) : α → α → Prop
  | one {a b : α} : b ∈ kids a → Way kids a b
  | more {a b c : α} : Way kids a b → c ∈ kids b → Way kids a c
theorem Way.lower {a b : α} (h : Way kids a b) : ∀ {k d : Nat}, hgt kids k a = some d → ∃ k' d', hgt kids k' b = some d' ∧ d' < d := by
  induction h with
  | one hb => intro k d hk; exact hgt_kid hk hb
  | more _ hc ih =>
    intro k d hk
    obtain ⟨k1, d1, h1, l1⟩ := ih hk
    obtain ⟨k2, d2, h2, l2⟩ := hgt_kid h1 hc
    exact ⟨k2, d2, h2, by omega⟩
theorem Way.round {a : α} (h : Way kids a a) (k : Nat) : hgt kids k a = none := by
  cases hk : hgt kids k a with
  | none => rfl
  | some d =>
    obtain ⟨k', d', h', hl⟩ := h.lower hk
    have := hgt_one hk h'
    omega
/-- A node whose height is not told, below one: then its own is not told. -/
theorem hgt_none_kid {c p : α} (hp : p ∈ kids c) (hn : ∀ k, hgt kids k p = none) (k : Nat) : hgt kids k c = none := by
  cases hk : hgt kids k c with
  | none => rfl
  | some d =>
    obtain ⟨k', d', h', _⟩ := hgt_kid hk hp
    rw [hn k'] at h'
    cases h'
theorem foldH_of {g : α → Option Nat} {f : α → Nat} : ∀ {l : List α} {n : Nat}, (∀ p ∈ l, g p = some (f p)) → l.foldl (stepH g) (some n) = some (l.foldl (fun n p => max n (f p + 1)) n)
  | [], _, _ => rfl
  | x :: l, n, hk => by
    rw [List.foldl_cons, List.foldl_cons]
    have e : stepH g (some n) x = some (max n (f x + 1)) := by simp [stepH, hk x (List.mem_cons_self ..)]
    rw [e]
    exact foldH_of (fun p hp => hk p (List.mem_cons_of_mem _ hp))
/-- All below are told: then it is told, and by how much. -/
theorem hgt_of_kids {c : α} {f : α → Nat} (h : ∀ p ∈ kids c, ∃ k, hgt kids k p = some (f p)) : ∃ k, hgt kids k c = some ((kids c).foldl (fun n p => max n (f p + 1)) 1) := by
  have hall : ∃ k, ∀ p ∈ kids c, hgt kids k p = some (f p) := by
    generalize kids c = l at h
    induction l with
    | nil => exact ⟨0, fun p hp => by cases hp⟩
    | cons x l ih =>
      obtain ⟨k1, h1⟩ := ih (fun p hp => h p (List.mem_cons_of_mem _ hp))
      obtain ⟨k2, h2⟩ := h x (List.mem_cons_self ..)
      refine ⟨max k1 k2, fun p hp => ?_⟩
      rcases List.mem_cons.1 hp with rfl | hp
      · exact hgt_mono (Nat.le_max_right _ _) h2
      · exact hgt_mono (Nat.le_max_left _ _) (h1 p hp)
  obtain ⟨k, hk⟩ := hall
  refine ⟨k + 1, ?_⟩
  rw [hgt_succ]
  exact foldH_of hk
end
end Go.Proofs.YtbedbhlebfnohaaGreat
