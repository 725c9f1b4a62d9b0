/- Marked parts; lists of parts that are lent. -/
import Derived.Test.YthlmnoggeggpkaaGreatJSame
namespace Go.Proofs.YthlmnoggeggpkaaGreat
open Go.RowKit

/-- The marked part. -/
def mkPt (k i : Nat) : Pt := ([], (markN k i : Int))
theorem markPart_any (k i : Nat) (w : World) (hk : k ≤ 1000000) (hi : i ≤ 1000000000) :
    Calls Tryz.prog 93 #[.int .i64 k, .int .i64 i] w fun e w' => e = .returned (.agg #[.string ⟨#[]⟩, .int .i64 (markN k i : Nat)]) ∧ Below w.heap.size w w' := by
  have HM := Lib.hid (fun W => mark_any k i W hk hi)
  have hm := markN_bd k i hk hi
  generalize markN k i = m at HM hm
  have hw := wrap_in (x := (m : Int)) (by omega) (by omega)
  have HB := Lib.hid (fun c : Array Value => (Below.refl w.heap.size w).alloc (Nat.le_refl _) (.cells c 45))
  have HB2 := Lib.hid (fun (c : Array Value) (v : Value) => ((Below.refl w.heap.size w).alloc (Nat.le_refl _) (.cells c 45)).setCell (p := ⟨w.heap.size, 1, none⟩) (Nat.le_refl _) v)
  go_enter Tryz.func93, Tryz.ntmps93
  go_wp2_with (go_at_call 48; refine (HM.out _).mono ?_; rintro e w' ⟨rfl, rfl⟩)
  go_returns
  exact ⟨rfl, by first | exact HB.out _ | exact HB2.out _ _⟩

theorem OP.form {base : Nat} {W : World} {v : Value} {l : List Pt} (h : OP base W v l) (hv : v ≠ .slice none 0 0) : ∃ g c, v = .slice (some ⟨g, 0, none⟩) l.length c ∧ l.length ≤ c ∧ c ≤ 9223372036854775807 := by
  obtain ⟨e, ⟨h1, -⟩ | ⟨g, cap, cur, h1, -, -, h3, h4, -⟩⟩ := h
  · exact absurd h1 hv
  · exact ⟨g, cap, h1, h3, by simpa [maxLen] using h4⟩
theorem run_append_parts2 {w : World} {base : Nat} {v : Value} {P Q : List Pt} (h : OP base w v P) (ty : TypeId) (sa : Option Addr) (c : Nat) (hsrc : 0 < Q.length → ∃ ad, sa = some ad ∧ ∀ j u, (cellsP Q)[j]? = some u → w.cell? (ad.add j) = some u)
    (hbase : base ≤ w.heap.size) (hsize : (P.length + Q.length) * 24 ≤ 140737488355328) (hv : v ≠ .slice none 0 0) :
    ∃ g c' w', (Builtin.append_ #[26, 26] ty #[v, .slice sa Q.length c]).run Tryz.prog w = .ok (.slice (some ⟨g, 0, none⟩) (P.length + Q.length) c') w' ∧ (P.length + Q.length ≤ c' ∧ c' ≤ 9223372036854775807) ∧ OP base w' (.slice (some ⟨g, 0, none⟩) (P.length + Q.length) c') (P ++ Q) ∧ w.grownBy w' v.ownBlock := by
  obtain ⟨i0, hi, hz0, hz1, hz2⟩ := info_parts Tryz.infoPart
  by_cases h0 : Q.length = 0
  · obtain rfl : Q = [] := List.eq_nil_of_length_eq_zero h0
    obtain ⟨g, vc, rfl, hle, hmx⟩ := h.form hv
    have hrun := run_append_nothing (P := Tryz.prog) w 26 ty 45 i0 Tryz.underlying26 hi (some ⟨g, 0, none⟩) sa P.length vc c hle
    exact ⟨g, vc, w, hrun, ⟨by simpa using hle, hmx⟩, by simpa using h, ⟨rfl, rfl, rfl, Nat.le_refl _, fun _ _ _ => rfl⟩⟩
  · obtain ⟨ad, rfl, hcell⟩ := hsrc (by omega)
    obtain ⟨v', w', hrun, hown, hg, hn⟩ := run_append_own (P := Tryz.prog) w base 26 ty 45 i0 _ 2 24 Tryz.underlying26 hi hz0 hz1 hz2 rfl (by decide) v P.length (cellsP P) h ad Q.length c (cellsP Q) (cellsP_len Q) hcell
      cellsP_one (by simp only [maxLen]; omega) hsize hbase
    have ho : OP base w' v' (P ++ Q) := by
      unfold OP
      rw [List.length_append, cellsP_append]
      exact hown
    obtain ⟨g, vc, rfl, hle, hmx⟩ := ho.form (fun e => hv (hn.1 e).1)
    rw [List.length_append] at hrun hle ho
    exact ⟨g, vc, w', hrun, ⟨hle, hmx⟩, ho, hg⟩
theorem wpList_append_parts2 {w : World} {ops : Array Oper} {rest : List Oper} {o : Oper} {a : Act} {K : Exit → Act → World → Prop} (hgd : o.guard = none) (s x : Operand)
    (ho : o.op = .call { callee := .builtin .append, args := #[s, x], argTypes := #[26, 26] }) (base g0 n0 c0 : Nat) (P R : List Pt) (hs : a.eval s = .slice (some ⟨g0, 0, none⟩) n0 c0) (h : OP base w (.slice (some ⟨g0, 0, none⟩) n0 c0) P) (sa : Option Addr) (m c : Nat)
    (hx : a.eval x = .slice sa m c) (hm : m = R.length) (hsrc : 0 < R.length → ∃ ad, sa = some ad ∧ ∀ j u, (cellsP R)[j]? = some u → w.cell? (ad.add j) = some u) (hbase : base ≤ w.heap.size) (hsize : (P.length + R.length) * 24 ≤ 140737488355328)
    (hK : ∀ g' c' w', (n0 + m ≤ c' ∧ c' ≤ 9223372036854775807) → OP base w' (.slice (some ⟨g', 0, none⟩) (n0 + m) c') (P ++ R) → w.grownBy w' (some g0) → wpList Tryz.prog ops K rest (a.put o.dst (.slice (some ⟨g', 0, none⟩) (n0 + m) c')) w') : wpList Tryz.prog ops K (o :: rest) a w := by
  subst hm
  have hn0 : n0 = P.length := by
    obtain ⟨g, vc, e, -⟩ := h.form (fun e => by cases e)
    cases e; rfl
  subst hn0
  obtain ⟨g', c', w', hr, hc, hq, hg⟩ := run_append_parts2 h o.type sa c hsrc hbase hsize (fun e => by cases e)
  refine wpList_plain hgd fun K' hK' => ?_
  unfold Oper.wp execOp
  simp only [ho, resolve, invoke, builtin, Sem.run_bind, Sem.run_pure, Result.andThen_ok, List.map_toArray, List.map_cons, List.map_nil, hs, hx, hr]
  exact hK' _ _ (hK g' c' w' hc hq hg)
theorem one_part (W : World) (p : Pt) (t : TypeId) : ∀ j u, (cellsP [p])[j]? = some u → (W.alloc (.cells #[encStr p.1, .int .i64 p.2] t)).cell? ((⟨W.heap.size, 0, none⟩ : Addr).add j) = some u := by
  intro j u hu
  have e : (⟨W.heap.size, 0, none⟩ : Addr).add j = ⟨W.heap.size, 0 + j, none⟩ := by unfold Addr.add; split <;> simp_all
  rw [e]
  simp only [World.cell?, (Go.MapKept.heap_alloc W _).1]
  simpa [cellsP, encP] using hu

def lentP : List Pt := (List.range 12).map fun i => mkPt 1 i
theorem lentP_len : lentP.length = 12 := by simp [lentP]
theorem lentP_at (j : Nat) (h : j < 12) : lentP[j]'(by rw [lentP_len]; exact h) = mkPt 1 j := by simp [lentP]
theorem lentP_take (j : Nat) (h : j < 12) : lentP.take (j + 1) = lentP.take j ++ [mkPt 1 j] := by
  rw [List.take_succ_eq_append_getElem (by rw [lentP_len]; exact h), lentP_at j h]

set_option maxHeartbeats 2000000 in
set_option maxRecDepth 100000 in
theorem LentParts_any (N : Nat) (a : Option Addr) (n c : Nat) (L : List Pt) (w : World) (hr : RP N w a n c L) (hN : N ≤ w.heap.size) (hs : n ≤ 100000) :
    Calls Tryz.prog 46 #[.slice a n c] w fun e w' => (∃ g c', e = .returned (.slice (some ⟨g, 0, none⟩) n c') ∧ (n + 12 ≤ c' ∧ c' ≤ 9223372036854775807) ∧ OP w.heap.size w' (.slice (some ⟨g, 0, none⟩) (n + 12) c') (L ++ lentP)) ∧ Below w.heap.size w w' := by
  obtain ⟨i0, hi, hz0, hz1, hz2⟩ := info_parts Tryz.infoPart
  have hln := hr.len
  have hle := hr.le
  have hmx := hr.mx
  have Hln := Lib.hid hln
  have Hr := Lib.hid hr
  have Hi := Lib.hid hi
  have Hz0 := Lib.hid hz0
  have Hz1 := Lib.hid hz1
  have hb0 : i0.bytes * (n + 12) ≤ 281474976710656 := by rw [hz2]; omega
  have Hb0 := Lib.hid hb0
  clear hi hz0 hz1 hz2 hr hln hb0
  go_enter Tryz.func46, Tryz.ntmps46
  go_wp2_with (first
    | (refine wpList_make_own _ rfl _ _ 26 rfl w.heap.size 45 i0 _ 2 Tryz.underlying26 Hi.out Hz0.out Hz1.out .i64 .i64 _ (n + 12) rfl rfl (by omega) Hb0.out (by simp only [maxLen]; omega) (Nat.le_refl _) ?_; intro w1 hown1 hg1; have O1 : Hid (OP w.heap.size w1 (.slice (some ⟨w.heap.size, 0, none⟩) 0 (n + 12)) []) := Lib.hid hown1; have B1 : Hid (Below w.heap.size w w1) := Lib.hid ((Below.refl _ w).grown hg1 (Nat.le_refl _) (fun r e => by cases e)); clear hown1 hg1)
    | (at_builtin; refine wpList_append_parts2 rfl _ _ rfl w.heap.size w.heap.size 0 (n + 12) [] L rfl O1.out _ _ _ rfl Hln.out (Hr.out.below (B1.out.mono hN)).src B1.out.size (by have := Hln.out; simp; omega) ?_; intro g2 c2 w2 hc2 hown2 hg2))
  rw [List.nil_append, Nat.zero_add] at hown2
  have O2 := Lib.hid hown2
  have B2 : Hid (Below w.heap.size w w2) := Lib.hid (B1.out.grown hg2 B1.out.size (fun r e => by cases e; exact Nat.le_refl _))
  clear hown2 hg2
  try rw [Nat.zero_add] at hc2
  try rw [Nat.zero_add]
  go_wp2_with (fail)
  go_loopw [3, 4] (fun v i wr => ∃ (j g c' : Nat), j ≤ 12 ∧ i = .int .i64 j ∧ v = .slice (some ⟨g, 0, none⟩) (n + j) c' ∧ Hid (n + j ≤ c' ∧ c' ≤ 9223372036854775807) ∧ Hid (OP w.heap.size wr (.slice (some ⟨g, 0, none⟩) (n + j) c') (L ++ lentP.take j)) ∧ Hid (Below w.heap.size w wr)) (fun _ i _ => 12 - (intOf i).toNat)
  case atStart => exact ⟨0, g2, c2, by omega, rfl, rfl, Lib.hid hc2, by simpa using O2, B2⟩
  case round =>
    obtain ⟨j, g, c', hj, rfl, rfl, hcc, Ho, Hb⟩ := hrel
    by_cases hlt : j < 12
    · have HM := Lib.hid (fun W => markPart_any 1 j W (by omega) (by omega))
      have hsz := Hb.out.size
      have htk := lentP_take j hlt
      unfold mkPt at htk
      obtain ⟨m, hm⟩ : ∃ m, m = markN 1 j := ⟨_, rfl⟩
      rw [← hm] at HM htk
      have Htk := Lib.hid htk
      clear hm htk
      go_wp2_with (first | (go_at_call 93; refine (HM.out _).mono ?_; rintro e wm ⟨rfl, hbm⟩; have O3 := Lib.hid ((Ho.out.below hbm).below ((Below.refl _ wm).alloc (Nat.le_refl _) (.cells #[.string ⟨#[]⟩, .int .i64 (m : Int)] 45))); have Bm := Lib.hid (Hb.out.trans (hbm.mono hsz)); clear hbm) | (at_builtin; refine wpList_append_parts2 rfl _ _ rfl w.heap.size g (n + j) c' (L ++ lentP.take j) [([], (m : Int))] rfl O3.out _ 1 _ rfl rfl (fun _ => ⟨_, rfl, one_part _ ([], (m : Int)) _⟩) (by have := Bm.out.size; simp; omega) (by have := Hln.out; simp; omega) ?_; intro g4 c4 w4 hc4 hown4 hg4))
      have O4 := Lib.hid (show OP w.heap.size w4 (.slice (some ⟨g4, 0, none⟩) (n + (j + 1)) c4) (L ++ lentP.take (j + 1)) from by rw [Htk.out, ← List.append_assoc]; exact hown4)
      have B4 : Hid (Below w.heap.size w w4) := Lib.hid ((Bm.out.alloc Bm.out.size _).grown hg4 (by have := Bm.out.size; simp; omega) (fun r e => by cases e; exact (Ho.out.ge _ rfl).1))
      have C4 := Lib.hid hc4
      clear hown4 hg4 hc4
      go_roundw
      case rel => exact ⟨j + 1, g4, c4, by omega, by go_num, by go_num, C4, O4, B4⟩
      case measure => simp [intOf]; omega
    · have hge : j = 12 := by omega
      subst hge
      obtain ⟨q1, q2⟩ := hcc.out
      have q4 : (n : Int) ≤ (c' : Int) := by omega
      go_wp2_with (fail)
      go_ret
      refine ⟨⟨g, c', rfl, ⟨q1, q2⟩, ?_⟩, Hb.out⟩
      have h := Ho.out
      rw [List.take_of_length_le (Nat.le_of_eq lentP_len)] at h
      exact h
end Go.Proofs.YthlmnoggeggpkaaGreat
