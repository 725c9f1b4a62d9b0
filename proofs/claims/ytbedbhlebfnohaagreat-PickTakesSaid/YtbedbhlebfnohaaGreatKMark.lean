/- Marked parts; lists of parts that are lent. The walk of storemankit.SameTexts. Marked texts. -/
import Derived.Laws.OwnMore
import Derived.Test.YtbedbhlebfnohaaGreatJSame
import Derived.Test.YtbedbhlebfnohaaGreatBelowQ
import Derived.Laws.IdiomStrings
namespace Go.Proofs.YtbedbhlebfnohaaGreat
open Go.RowKit

/-- The marked part. -/
def mkPt (k i : Nat) : Pt := ([], (markN k i : Int))
theorem markPart_any (k i : Nat) (w : World) (hk : k ≤ 1000000) (hi : i ≤ 1000000000) :
    Calls Tryz.prog 131 #[.int .i64 k, .int .i64 i] w fun e w' => e = .returned (.agg #[.string ⟨#[]⟩, .int .i64 (markN k i : Nat)]) ∧ Below w.heap.size w w' := by
  have HM := Lib.hid (fun W => mark_any k i W hk hi)
  have hm := markN_bd k i hk hi
  generalize markN k i = m at HM hm
  have hw := wrap_in (x := (m : Int)) (by omega) (by omega)
  have HB := Lib.hid (fun c : Array Value => (Below.refl w.heap.size w).alloc (Nat.le_refl _) (.cells c 60))
  have HB2 := Lib.hid (fun (c : Array Value) (v : Value) => ((Below.refl w.heap.size w).alloc (Nat.le_refl _) (.cells c 60)).setCell (p := ⟨w.heap.size, 1, none⟩) (Nat.le_refl _) v)
  go_enter Tryz.func131, Tryz.ntmps131
  go_wp2_with (go_at_call 92; refine (HM.out _).mono ?_; rintro e w' ⟨rfl, rfl⟩)
  go_returns
  exact ⟨rfl, by first | exact HB.out _ | exact HB2.out _ _⟩

theorem OP.form {base : Nat} {W : World} {v : Value} {l : List Pt} (h : OP base W v l) (hv : v ≠ .slice none 0 0) : ∃ g c, v = .slice (some ⟨g, 0, none⟩) l.length c ∧ l.length ≤ c ∧ c ≤ 9223372036854775807 := by
  obtain ⟨e, ⟨h1, -⟩ | ⟨g, cap, cur, h1, -, -, h3, h4, -⟩⟩ := h
  · exact absurd h1 hv
  · exact ⟨g, cap, h1, h3, by simpa [maxLen] using h4⟩
theorem run_append_parts2 {w : World} {base : Nat} {v : Value} {P Q : List Pt} (h : OP base w v P) (ty : TypeId) (sa : Option Addr) (c : Nat) (hsrc : 0 < Q.length → ∃ ad, sa = some ad ∧ ∀ j u, (cellsP Q)[j]? = some u → w.cell? (ad.add j) = some u)
    (hbase : base ≤ w.heap.size) (hsize : (P.length + Q.length) * 24 ≤ 140737488355328) (hv : v ≠ .slice none 0 0) :
    ∃ g c' w', (Builtin.append_ #[55, 55] ty #[v, .slice sa Q.length c]).run Tryz.prog w = .ok (.slice (some ⟨g, 0, none⟩) (P.length + Q.length) c') w' ∧ (P.length + Q.length ≤ c' ∧ c' ≤ 9223372036854775807) ∧ OP base w' (.slice (some ⟨g, 0, none⟩) (P.length + Q.length) c') (P ++ Q) ∧ w.grownBy w' v.ownBlock := by
  obtain ⟨i0, hi, hz0, hz1, hz2⟩ := info_parts Tryz.infoPart
  by_cases h0 : Q.length = 0
  · obtain rfl : Q = [] := List.eq_nil_of_length_eq_zero h0
    obtain ⟨g, vc, rfl, hle, hmx⟩ := h.form hv
    have hrun := run_append_nothing (P := Tryz.prog) w 55 ty 60 i0 Tryz.underlying55 hi (some ⟨g, 0, none⟩) sa P.length vc c hle
    exact ⟨g, vc, w, hrun, ⟨by simpa using hle, hmx⟩, by simpa using h, ⟨rfl, rfl, rfl, Nat.le_refl _, fun _ _ _ => rfl⟩⟩
  · obtain ⟨ad, rfl, hcell⟩ := hsrc (by omega)
    obtain ⟨v', w', hrun, hown, hg, hn⟩ := run_append_own (P := Tryz.prog) w base 55 ty 60 i0 _ 2 24 Tryz.underlying55 hi hz0 hz1 hz2 rfl (by decide) v P.length (cellsP P) h ad Q.length c (cellsP Q) (cellsP_len Q) hcell
      cellsP_one (by simp only [maxLen]; omega) hsize hbase
    have ho : OP base w' v' (P ++ Q) := by
      unfold OP
      rw [List.length_append, cellsP_append]
      exact hown
    obtain ⟨g, vc, rfl, hle, hmx⟩ := ho.form (fun e => hv (hn.1 e).1)
    rw [List.length_append] at hrun hle ho
    exact ⟨g, vc, w', hrun, ⟨hle, hmx⟩, ho, hg⟩
theorem wpList_append_parts2 {w : World} {ops : Array Oper} {rest : List Oper} {o : Oper} {a : Act} {K : Exit → Act → World → Prop} (hgd : o.guard = none) (s x : Operand)
    (ho : o.op = .call { callee := .builtin .append, args := #[s, x], argTypes := #[55, 55] }) (base g0 n0 c0 : Nat) (P R : List Pt) (hs : a.eval s = .slice (some ⟨g0, 0, none⟩) n0 c0) (h : OP base w (.slice (some ⟨g0, 0, none⟩) n0 c0) P) (sa : Option Addr) (m c : Nat)
    (hx : a.eval x = .slice sa m c) (hm : m = R.length) (hsrc : 0 < R.length → ∃ ad, sa = some ad ∧ ∀ j u, (cellsP R)[j]? = some u → w.cell? (ad.add j) = some u) (hbase : base ≤ w.heap.size) (hsize : (P.length + R.length) * 24 ≤ 140737488355328)
    (hK : ∀ g' c' w', (n0 + m ≤ c' ∧ c' ≤ 9223372036854775807) → OP base w' (.slice (some ⟨g', 0, none⟩) (n0 + m) c') (P ++ R) → w.grownBy w' (some g0) → wpList Tryz.prog ops K rest (a.put o.dst (.slice (some ⟨g', 0, none⟩) (n0 + m) c')) w') : wpList Tryz.prog ops K (o :: rest) a w := by
  subst hm
  have hn0 : n0 = P.length := by
    obtain ⟨g, vc, e, -⟩ := h.form (fun e => by cases e)
    cases e; rfl
  subst hn0
  obtain ⟨g', c', w', hr, hc, hq, hg⟩ := run_append_parts2 h o.type sa c hsrc hbase hsize (fun e => by cases e)
  refine wpList_plain hgd fun K' hK' => ?_
  unfold Oper.wp execOp
  simp only [ho, resolve, invoke, builtin, Sem.run_bind, Sem.run_pure, Result.andThen_ok, List.map_toArray, List.map_cons, List.map_nil, hs, hx, hr]
  exact hK' _ _ (hK g' c' w' hc hq hg)
/-- append within the room that is there. -/
theorem wpList_append_partsF {w : World} {ops : Array Oper} {rest : List Oper} {o : Oper} {a : Act} {K : Exit → Act → World → Prop} (hgd : o.guard = none) (s x : Operand)
    (ho : o.op = .call { callee := .builtin .append, args := #[s, x], argTypes := #[55, 55] }) (base g0 n0 c0 : Nat) (P R : List Pt) (hs : a.eval s = .slice (some ⟨g0, 0, none⟩) n0 c0) (h : OP base w (.slice (some ⟨g0, 0, none⟩) n0 c0) P) (sa : Option Addr) (m c : Nat)
    (hx : a.eval x = .slice sa m c) (hm : m = R.length) (hsrc : 0 < R.length → ∃ ad, sa = some ad ∧ ∀ j u, (cellsP R)[j]? = some u → w.cell? (ad.add j) = some u) (hroom : n0 + m ≤ c0)
    (hK : ∀ w', OP base w' (.slice (some ⟨g0, 0, none⟩) (n0 + m) c0) (P ++ R) → w.grownBy w' (some g0) → wpList Tryz.prog ops K rest (a.put o.dst (.slice (some ⟨g0, 0, none⟩) (n0 + m) c0)) w') : wpList Tryz.prog ops K (o :: rest) a w := by
  subst hm
  obtain ⟨i0, hi, hz0, hz1, hz2⟩ := info_parts Tryz.infoPart
  have hn0 : n0 = P.length := by
    obtain ⟨e, ⟨h1, -⟩ | ⟨g, cap, cur, h1, -⟩⟩ := h
    · cases h1
    · cases h1; simp
  subst hn0
  have hrun : ∃ w', (Builtin.append_ #[55, 55] o.type #[.slice (some ⟨g0, 0, none⟩) P.length c0, .slice sa R.length c]).run Tryz.prog w = .ok (.slice (some ⟨g0, 0, none⟩) (P.length + R.length) c0) w' ∧ OP base w' (.slice (some ⟨g0, 0, none⟩) (P.length + R.length) c0) (P ++ R) ∧ w.grownBy w' (some g0) := by
    by_cases h0 : R.length = 0
    · obtain rfl : R = [] := List.eq_nil_of_length_eq_zero h0
      exact ⟨w, run_append_nothing (P := Tryz.prog) w 55 o.type 60 i0 Tryz.underlying55 hi (some ⟨g0, 0, none⟩) sa P.length c0 c (by omega), by simpa using h, ⟨rfl, rfl, rfl, Nat.le_refl _, fun _ _ _ => rfl⟩⟩
    · obtain ⟨ad, rfl, hcell⟩ := hsrc (by omega)
      obtain ⟨w', hr, hown, hg⟩ := run_append_fits (P := Tryz.prog) w base 55 o.type 60 i0 2 Tryz.underlying55 hi hz1 g0 P.length c0 (cellsP P) (by simpa [OP] using h) ad R.length c (cellsP R) (cellsP_len R) hcell cellsP_one hroom
      refine ⟨w', hr, ?_, hg⟩
      unfold OP
      rw [List.length_append, cellsP_append]
      exact hown
  obtain ⟨w', hr, ho2, hg⟩ := hrun
  refine wpList_plain hgd fun K' hK' => ?_
  unfold Oper.wp execOp
  simp only [ho, resolve, invoke, builtin, Sem.run_bind, Sem.run_pure, Result.andThen_ok, List.map_toArray, List.map_cons, List.map_nil, hs, hx, hr]
  exact hK' _ _ (hK w' ho2 hg)
theorem one_part (W : World) (p : Pt) (t : TypeId) : ∀ j u, (cellsP [p])[j]? = some u → (W.alloc (.cells #[encStr p.1, .int .i64 p.2] t)).cell? ((⟨W.heap.size, 0, none⟩ : Addr).add j) = some u := by
  intro j u hu
  have e : (⟨W.heap.size, 0, none⟩ : Addr).add j = ⟨W.heap.size, 0 + j, none⟩ := by unfold Addr.add; split <;> simp_all
  rw [e]
  simp only [World.cell?, (Go.MapKept.heap_alloc W _).1]
  simpa [cellsP, encP] using hu

def lentP : List Pt := (List.range 12).map fun i => mkPt 1 i
theorem lentP_len : lentP.length = 12 := by simp [lentP]
theorem lentP_at (j : Nat) (h : j < 12) : lentP[j]'(by rw [lentP_len]; exact h) = mkPt 1 j := by simp [lentP]
theorem lentP_take (j : Nat) (h : j < 12) : lentP.take (j + 1) = lentP.take j ++ [mkPt 1 j] := by
  rw [List.take_succ_eq_append_getElem (by rw [lentP_len]; exact h), lentP_at j h]

set_option maxHeartbeats 2000000 in
set_option maxRecDepth 100000 in
theorem LentParts_any (N : Nat) (a : Option Addr) (n c : Nat) (L : List Pt) (w : World) (hr : RP N w a n c L) (hN : N ≤ w.heap.size) (hs : n * 24 ≤ 140737488355328) :
    Calls Tryz.prog 90 #[.slice a n c] w fun e w' => (∃ g c', e = .returned (.slice (some ⟨g, 0, none⟩) n c') ∧ (n + 12 ≤ c' ∧ c' ≤ 9223372036854775807) ∧ OP w.heap.size w' (.slice (some ⟨g, 0, none⟩) (n + 12) c') (L ++ lentP)) ∧ Below w.heap.size w w' := by
  obtain ⟨i0, hi, hz0, hz1, hz2⟩ := info_parts Tryz.infoPart
  have hln := hr.len
  have hle := hr.le
  have hmx := hr.mx
  have Hln := Lib.hid hln
  have Hr := Lib.hid hr
  have Hi := Lib.hid hi
  have Hz0 := Lib.hid hz0
  have Hz1 := Lib.hid hz1
  have hb0 : i0.bytes * (n + 12) ≤ 281474976710656 := by rw [hz2]; omega
  have Hb0 := Lib.hid hb0
  clear hi hz0 hz1 hz2 hr hln hb0
  go_enter Tryz.func90, Tryz.ntmps90
  go_wp2_with (first
    | (refine wpList_make_own _ rfl _ _ 55 rfl w.heap.size 60 i0 _ 2 Tryz.underlying55 Hi.out Hz0.out Hz1.out .i64 .i64 _ (n + 12) rfl rfl (by omega) Hb0.out (by simp only [maxLen]; omega) (Nat.le_refl _) ?_; intro w1 hown1 hg1; have O1 : Hid (OP w.heap.size w1 (.slice (some ⟨w.heap.size, 0, none⟩) 0 (n + 12)) []) := Lib.hid hown1; have B1 : Hid (Below w.heap.size w w1) := Lib.hid ((Below.refl _ w).grown hg1 (Nat.le_refl _) (fun r e => by cases e)); clear hown1 hg1)
    | (at_builtin; refine wpList_append_partsF rfl _ _ rfl w.heap.size w.heap.size 0 (n + 12) [] L rfl O1.out _ _ _ rfl Hln.out (Hr.out.below (B1.out.mono hN)).src (by omega) ?_; intro w2 hown2 hg2))
  rw [List.nil_append, Nat.zero_add] at hown2
  have O2 := Lib.hid hown2
  have B2 : Hid (Below w.heap.size w w2) := Lib.hid (B1.out.grown hg2 B1.out.size (fun r e => by cases e; exact Nat.le_refl _))
  clear hown2 hg2
  try rw [Nat.zero_add]
  go_wp2_with (fail)
  go_loopw [3, 4] (fun v i wr => ∃ (j : Nat), j ≤ 12 ∧ i = .int .i64 j ∧ v = .slice (some ⟨w.heap.size, 0, none⟩) (n + j) (n + 12) ∧ Hid (OP w.heap.size wr (.slice (some ⟨w.heap.size, 0, none⟩) (n + j) (n + 12)) (L ++ lentP.take j)) ∧ Hid (Below w.heap.size w wr)) (fun _ i _ => 12 - (intOf i).toNat)
  case atStart => exact ⟨0, by omega, rfl, rfl, by simpa using O2, B2⟩
  case round =>
    obtain ⟨j, hj, rfl, rfl, Ho, Hb⟩ := hrel
    by_cases hlt : j < 12
    · have HM := Lib.hid (fun W => markPart_any 1 j W (by omega) (by omega))
      have hsz := Hb.out.size
      have htk := lentP_take j hlt
      unfold mkPt at htk
      obtain ⟨m, hm⟩ : ∃ m, m = markN 1 j := ⟨_, rfl⟩
      rw [← hm] at HM htk
      have Htk := Lib.hid htk
      clear hm htk
      go_wp2_with (first | (go_at_call 131; refine (HM.out _).mono ?_; rintro e wm ⟨rfl, hbm⟩; have O3 := Lib.hid ((Ho.out.below hbm).below ((Below.refl _ wm).alloc (Nat.le_refl _) (.cells #[.string ⟨#[]⟩, .int .i64 (m : Int)] 60))); have Bm := Lib.hid (Hb.out.trans (hbm.mono hsz)); clear hbm) | (at_builtin; refine wpList_append_partsF rfl _ _ rfl w.heap.size w.heap.size (n + j) (n + 12) (L ++ lentP.take j) [([], (m : Int))] rfl O3.out _ 1 _ rfl rfl (fun _ => ⟨_, rfl, one_part _ ([], (m : Int)) _⟩) (by omega) ?_; intro w4 hown4 hg4))
      have O4 := Lib.hid (show OP w.heap.size w4 (.slice (some ⟨w.heap.size, 0, none⟩) (n + (j + 1)) (n + 12)) (L ++ lentP.take (j + 1)) from by rw [Htk.out, ← List.append_assoc]; exact hown4)
      have B4 : Hid (Below w.heap.size w w4) := Lib.hid ((Bm.out.alloc Bm.out.size _).grown hg4 (by have := Bm.out.size; simp; omega) (fun r e => by cases e; exact Nat.le_refl _))
      clear hown4 hg4
      go_roundw
      case rel => exact ⟨j + 1, by omega, by go_num, by go_num, O4, B4⟩
      case measure => simp [intOf]; omega
    · have hge : j = 12 := by omega
      subst hge
      go_wp2_with (fail)
      go_ret
      refine ⟨⟨w.heap.size, n + 12, rfl, ⟨Nat.le_refl _, by omega⟩, ?_⟩, Hb.out⟩
      have h := Ho.out
      rw [List.take_of_length_le (Nat.le_of_eq lentP_len)] at h
      exact h
end Go.Proofs.YtbedbhlebfnohaaGreat
namespace Go.Proofs.YtbedbhlebfnohaaGreat
open Go.RowKit

theorem takeT_succ {P Q : List (List UInt8)} {k : Nat} (hk : k < P.length) (hk2 : k < Q.length) (h : P.take k = Q.take k) (he : P.getD k [] = Q.getD k []) : P.take (k+1) = Q.take (k+1) := by
  rw [List.take_succ_eq_append_getElem hk, List.take_succ_eq_append_getElem hk2, h]
  simp only [List.getD, List.getElem?_eq_getElem hk, List.getElem?_eq_getElem hk2, Option.getD_some] at he
  rw [he]

set_option maxHeartbeats 4000000 in
theorem SameTexts_any (B : Nat) (a b : Option Addr) (n m c d : Nat) (P Q : List (List UInt8)) (w : World) (hp : RT B w a n c P) (hq : RT B w b m d Q) :
    Calls Tryz.prog 118 #[.slice a n c, .slice b m d] w fun e w' => e = .returned (.bool (decide (P = Q))) ∧ ∃ q, w' = w.drewN q := by
  have hle := hp.le; have hmx := hp.mx; have hle2 := hq.le; have hmx2 := hq.mx
  have Hln := Lib.hid hp.len
  have Hln2 := Lib.hid hq.len
  by_cases hnm : n = m
  · subst hnm
    go_enter Tryz.func118, Tryz.ntmps118
    go_wp2_with (fail)
    go_loopw [5] (fun i wr => ∃ j : Nat, j ≤ n ∧ i = .int .i64 j ∧ Hid (P.take j = Q.take j) ∧ ∃ q, wr = w.drewN q) (fun i _ => n - (intOf i).toNat)
    case atStart => exact ⟨0, Nat.zero_le _, rfl, Lib.hid rfl, 0, rfl⟩
    case round =>
      obtain ⟨j, hj, rfl, ht, q, rfl⟩ := hrel
      by_cases hlt : j < n
      · obtain ⟨b1, o1, rfl, -, hc1⟩ := hp.at_ (by omega)
        obtain ⟨b2, o2, rfl, -, hc2⟩ := hq.at_ (by omega)
        have g1 := hc1 j hlt
        have k1 := hc2 j hlt
        clear hc1 hc2
        have Hsucc := Lib.hid (fun he => takeT_succ (by rw [← Hln.out]; exact hlt) (by rw [← Hln2.out]; exact hlt) ht.out he)
        have Hno := Lib.hid (show P.getD j [] ≠ Q.getD j [] → decide (P = Q) = false from fun hne => decide_eq_false fun e => hne (by rw [e]))
        generalize P.getD j [] = x at g1 Hsucc Hno
        generalize Q.getD j [] = y at k1 Hsucc Hno
        unfold encStr at g1 k1
        by_cases he : x = y
        · have Hs := Lib.hid (Hsucc.out he)
          subst he
          clear Hno
          go_wp2_with (fail)
          go_quiet (fail)
          go_wp2_with (fail)
          go_roundw
          case rel => exact ⟨j + 1, by omega, by go_num, Hs, _, rfl⟩
          case measure => simp [intOf]; omega
        · have Hn := Lib.hid (Hno.out he)
          have hf : (x == y) = false := by simpa using he
          have hf2 : (x != y) = true := by simpa using he
          clear Hsucc
          go_wp2_with (fail)
          go_quiet (fail)
          go_wp2_with (fail)
          go_ret
          rw [Hn.out]
          exact ⟨rfl, _, World.drewN_drewN _ _ _⟩
      · have hge : n ≤ j := by omega
        go_wp2_with (fail)
        go_ret
        have : P = Q := by
          have := ht.out
          rwa [List.take_of_length_le (by rw [← Hln.out]; exact hge), List.take_of_length_le (by rw [← Hln2.out]; exact hge)] at this
        rw [decide_eq_true this]
        exact ⟨rfl, _, rfl⟩
  · have hne : decide (P = Q) = false := decide_eq_false fun e => hnm (by rw [Hln.out, Hln2.out, e])
    rw [hne]
    go_enter Tryz.func118, Tryz.ntmps118
    go_wp2_with (fail)
    go_ret
    exact ⟨rfl, 0, rfl⟩
end Go.Proofs.YtbedbhlebfnohaaGreat
namespace Go.Proofs.YtbedbhlebfnohaaGreat
open Go.RowKit

theorem conv8 (w : World) (a b c d e f g h : UInt8) : (convert 186 9 (.slice (some ⟨w.heap.size, 0, none⟩) 8 8)).run Tryz.prog (w.alloc (.cells #[.int .u8 a.toNat, .int .u8 b.toNat, .int .u8 c.toNat, .int .u8 d.toNat, .int .u8 e.toNat, .int .u8 f.toNat, .int .u8 g.toNat, .int .u8 h.toNat] 5)) = .ok (.string ⟨#[a, b, c, d, e, f, g, h]⟩) (w.alloc (.cells #[.int .u8 a.toNat, .int .u8 b.toNat, .int .u8 c.toNat, .int .u8 d.toNat, .int .u8 e.toNat, .int .u8 f.toNat, .int .u8 g.toNat, .int .u8 h.toNat] 5)) := by
  refine run_convert_bytes_back (P := Tryz.prog) _ _ _ 5 ⟨w.heap.size, 0, none⟩ 8 [a, b, c, d, e, f, g, h] Tryz.underlying186 Tryz.underlying5 Tryz.underlying9 fun j hj => ?_
  have e1 : (⟨w.heap.size, 0, none⟩ : Addr).add j = ⟨w.heap.size, j, none⟩ := by unfold Addr.add; split <;> simp_all
  rw [e1, World.cell?_alloc_new]
  have hj8 : j < 8 := hj
  obtain rfl | rfl | rfl | rfl | rfl | rfl | rfl | rfl : j = 0 ∨ j = 1 ∨ j = 2 ∨ j = 3 ∨ j = 4 ∨ j = 5 ∨ j = 6 ∨ j = 7 := by omega
  all_goals rfl
/-- The marked text. -/
def mkTx (i : Nat) : List UInt8 := [35, 1, 0, 0, 47, UInt8.ofNat i, 0, 0]
set_option maxHeartbeats 4000000 in
set_option maxRecDepth 100000 in
theorem markText_any (i : Nat) (w : World) (hi : i < 12) :
    Calls Tryz.prog 126 #[.int .i64 1, .int .i64 i] w fun e w' => e = .returned (encStr (mkTx i)) ∧ Below w.heap.size w w' := by
  have HB := Lib.hid (fun c : Array Value => (Below.refl w.heap.size w).alloc (Nat.le_refl _) (.cells c 5))
  obtain rfl | rfl | rfl | rfl | rfl | rfl | rfl | rfl | rfl | rfl | rfl | rfl : i = 0 ∨ i = 1 ∨ i = 2 ∨ i = 3 ∨ i = 4 ∨ i = 5 ∨ i = 6 ∨ i = 7 ∨ i = 8 ∨ i = 9 ∨ i = 10 ∨ i = 11 := by omega
  · have hcv : (convert 186 9 (.slice (some ⟨w.heap.size, 0, none⟩) 8 8)).run Tryz.prog (w.alloc (.cells #[.int .u8 35, .int .u8 1, .int .u8 0, .int .u8 0, .int .u8 47, .int .u8 0, .int .u8 0, .int .u8 0] 5)) = .ok (.string ⟨#[35, 1, 0, 0, 47, 0, 0, 0]⟩) (w.alloc (.cells #[.int .u8 35, .int .u8 1, .int .u8 0, .int .u8 0, .int .u8 47, .int .u8 0, .int .u8 0, .int .u8 0] 5)) := conv8 w 35 1 0 0 47 0 0 0
    go_enter Tryz.func126, Tryz.ntmps126
    go_wp2_with (fail)
    go_ret
    exact ⟨rfl, HB.out _⟩
  · have hcv : (convert 186 9 (.slice (some ⟨w.heap.size, 0, none⟩) 8 8)).run Tryz.prog (w.alloc (.cells #[.int .u8 35, .int .u8 1, .int .u8 0, .int .u8 0, .int .u8 47, .int .u8 1, .int .u8 0, .int .u8 0] 5)) = .ok (.string ⟨#[35, 1, 0, 0, 47, 1, 0, 0]⟩) (w.alloc (.cells #[.int .u8 35, .int .u8 1, .int .u8 0, .int .u8 0, .int .u8 47, .int .u8 1, .int .u8 0, .int .u8 0] 5)) := conv8 w 35 1 0 0 47 1 0 0
    go_enter Tryz.func126, Tryz.ntmps126
    go_wp2_with (fail)
    go_ret
    exact ⟨rfl, HB.out _⟩
  · have hcv : (convert 186 9 (.slice (some ⟨w.heap.size, 0, none⟩) 8 8)).run Tryz.prog (w.alloc (.cells #[.int .u8 35, .int .u8 1, .int .u8 0, .int .u8 0, .int .u8 47, .int .u8 2, .int .u8 0, .int .u8 0] 5)) = .ok (.string ⟨#[35, 1, 0, 0, 47, 2, 0, 0]⟩) (w.alloc (.cells #[.int .u8 35, .int .u8 1, .int .u8 0, .int .u8 0, .int .u8 47, .int .u8 2, .int .u8 0, .int .u8 0] 5)) := conv8 w 35 1 0 0 47 2 0 0
    go_enter Tryz.func126, Tryz.ntmps126
    go_wp2_with (fail)
    go_ret
    exact ⟨rfl, HB.out _⟩
  · have hcv : (convert 186 9 (.slice (some ⟨w.heap.size, 0, none⟩) 8 8)).run Tryz.prog (w.alloc (.cells #[.int .u8 35, .int .u8 1, .int .u8 0, .int .u8 0, .int .u8 47, .int .u8 3, .int .u8 0, .int .u8 0] 5)) = .ok (.string ⟨#[35, 1, 0, 0, 47, 3, 0, 0]⟩) (w.alloc (.cells #[.int .u8 35, .int .u8 1, .int .u8 0, .int .u8 0, .int .u8 47, .int .u8 3, .int .u8 0, .int .u8 0] 5)) := conv8 w 35 1 0 0 47 3 0 0
    go_enter Tryz.func126, Tryz.ntmps126
    go_wp2_with (fail)
    go_ret
    exact ⟨rfl, HB.out _⟩
  · have hcv : (convert 186 9 (.slice (some ⟨w.heap.size, 0, none⟩) 8 8)).run Tryz.prog (w.alloc (.cells #[.int .u8 35, .int .u8 1, .int .u8 0, .int .u8 0, .int .u8 47, .int .u8 4, .int .u8 0, .int .u8 0] 5)) = .ok (.string ⟨#[35, 1, 0, 0, 47, 4, 0, 0]⟩) (w.alloc (.cells #[.int .u8 35, .int .u8 1, .int .u8 0, .int .u8 0, .int .u8 47, .int .u8 4, .int .u8 0, .int .u8 0] 5)) := conv8 w 35 1 0 0 47 4 0 0
    go_enter Tryz.func126, Tryz.ntmps126
    go_wp2_with (fail)
    go_ret
    exact ⟨rfl, HB.out _⟩
  · have hcv : (convert 186 9 (.slice (some ⟨w.heap.size, 0, none⟩) 8 8)).run Tryz.prog (w.alloc (.cells #[.int .u8 35, .int .u8 1, .int .u8 0, .int .u8 0, .int .u8 47, .int .u8 5, .int .u8 0, .int .u8 0] 5)) = .ok (.string ⟨#[35, 1, 0, 0, 47, 5, 0, 0]⟩) (w.alloc (.cells #[.int .u8 35, .int .u8 1, .int .u8 0, .int .u8 0, .int .u8 47, .int .u8 5, .int .u8 0, .int .u8 0] 5)) := conv8 w 35 1 0 0 47 5 0 0
    go_enter Tryz.func126, Tryz.ntmps126
    go_wp2_with (fail)
    go_ret
    exact ⟨rfl, HB.out _⟩
  · have hcv : (convert 186 9 (.slice (some ⟨w.heap.size, 0, none⟩) 8 8)).run Tryz.prog (w.alloc (.cells #[.int .u8 35, .int .u8 1, .int .u8 0, .int .u8 0, .int .u8 47, .int .u8 6, .int .u8 0, .int .u8 0] 5)) = .ok (.string ⟨#[35, 1, 0, 0, 47, 6, 0, 0]⟩) (w.alloc (.cells #[.int .u8 35, .int .u8 1, .int .u8 0, .int .u8 0, .int .u8 47, .int .u8 6, .int .u8 0, .int .u8 0] 5)) := conv8 w 35 1 0 0 47 6 0 0
    go_enter Tryz.func126, Tryz.ntmps126
    go_wp2_with (fail)
    go_ret
    exact ⟨rfl, HB.out _⟩
  · have hcv : (convert 186 9 (.slice (some ⟨w.heap.size, 0, none⟩) 8 8)).run Tryz.prog (w.alloc (.cells #[.int .u8 35, .int .u8 1, .int .u8 0, .int .u8 0, .int .u8 47, .int .u8 7, .int .u8 0, .int .u8 0] 5)) = .ok (.string ⟨#[35, 1, 0, 0, 47, 7, 0, 0]⟩) (w.alloc (.cells #[.int .u8 35, .int .u8 1, .int .u8 0, .int .u8 0, .int .u8 47, .int .u8 7, .int .u8 0, .int .u8 0] 5)) := conv8 w 35 1 0 0 47 7 0 0
    go_enter Tryz.func126, Tryz.ntmps126
    go_wp2_with (fail)
    go_ret
    exact ⟨rfl, HB.out _⟩
  · have hcv : (convert 186 9 (.slice (some ⟨w.heap.size, 0, none⟩) 8 8)).run Tryz.prog (w.alloc (.cells #[.int .u8 35, .int .u8 1, .int .u8 0, .int .u8 0, .int .u8 47, .int .u8 8, .int .u8 0, .int .u8 0] 5)) = .ok (.string ⟨#[35, 1, 0, 0, 47, 8, 0, 0]⟩) (w.alloc (.cells #[.int .u8 35, .int .u8 1, .int .u8 0, .int .u8 0, .int .u8 47, .int .u8 8, .int .u8 0, .int .u8 0] 5)) := conv8 w 35 1 0 0 47 8 0 0
    go_enter Tryz.func126, Tryz.ntmps126
    go_wp2_with (fail)
    go_ret
    exact ⟨rfl, HB.out _⟩
  · have hcv : (convert 186 9 (.slice (some ⟨w.heap.size, 0, none⟩) 8 8)).run Tryz.prog (w.alloc (.cells #[.int .u8 35, .int .u8 1, .int .u8 0, .int .u8 0, .int .u8 47, .int .u8 9, .int .u8 0, .int .u8 0] 5)) = .ok (.string ⟨#[35, 1, 0, 0, 47, 9, 0, 0]⟩) (w.alloc (.cells #[.int .u8 35, .int .u8 1, .int .u8 0, .int .u8 0, .int .u8 47, .int .u8 9, .int .u8 0, .int .u8 0] 5)) := conv8 w 35 1 0 0 47 9 0 0
    go_enter Tryz.func126, Tryz.ntmps126
    go_wp2_with (fail)
    go_ret
    exact ⟨rfl, HB.out _⟩
  · have hcv : (convert 186 9 (.slice (some ⟨w.heap.size, 0, none⟩) 8 8)).run Tryz.prog (w.alloc (.cells #[.int .u8 35, .int .u8 1, .int .u8 0, .int .u8 0, .int .u8 47, .int .u8 10, .int .u8 0, .int .u8 0] 5)) = .ok (.string ⟨#[35, 1, 0, 0, 47, 10, 0, 0]⟩) (w.alloc (.cells #[.int .u8 35, .int .u8 1, .int .u8 0, .int .u8 0, .int .u8 47, .int .u8 10, .int .u8 0, .int .u8 0] 5)) := conv8 w 35 1 0 0 47 10 0 0
    go_enter Tryz.func126, Tryz.ntmps126
    go_wp2_with (fail)
    go_ret
    exact ⟨rfl, HB.out _⟩
  · have hcv : (convert 186 9 (.slice (some ⟨w.heap.size, 0, none⟩) 8 8)).run Tryz.prog (w.alloc (.cells #[.int .u8 35, .int .u8 1, .int .u8 0, .int .u8 0, .int .u8 47, .int .u8 11, .int .u8 0, .int .u8 0] 5)) = .ok (.string ⟨#[35, 1, 0, 0, 47, 11, 0, 0]⟩) (w.alloc (.cells #[.int .u8 35, .int .u8 1, .int .u8 0, .int .u8 0, .int .u8 47, .int .u8 11, .int .u8 0, .int .u8 0] 5)) := conv8 w 35 1 0 0 47 11 0 0
    go_enter Tryz.func126, Tryz.ntmps126
    go_wp2_with (fail)
    go_ret
    exact ⟨rfl, HB.out _⟩

end Go.Proofs.YtbedbhlebfnohaaGreat
