/- The walk of storemankit.SameParts. -/
import Derived.Test.YthlmnoggeggpkaaGreatJAdd
import Derived.Laws.StructEq
namespace Go.Proofs.YthlmnoggeggpkaaGreat
open Go.RowKit

def eqP (p q : Pt) : Bool := decide (p.1 = q.1) && decide (p.2 = q.2)
theorem eqP_iff {p q : Pt} : eqP p q = true ↔ p = q := by
  unfold eqP
  rw [Bool.and_eq_true, decide_eq_true_eq, decide_eq_true_eq]
  exact ⟨fun h => Prod.ext h.1 h.2, fun h => by rw [h]; exact ⟨rfl, rfl⟩⟩

theorem eqPart (x y : List UInt8) (u v : Int) (w : World) : (Op.equalIn 10000 45 (.agg #[encStr x, .int .i64 u]) (.agg #[encStr y, .int .i64 v])).run Tryz.prog w = .ok (eqP (x, u) (y, v)) w := by
  have u2 := Tryz.underlying2
  have a2 := Tryz.isAgg2
  have z2 := Tryz.sizeOf2
  have u9 := Tryz.underlying9
  have a9 := Tryz.isAgg9
  have z9 := Tryz.sizeOf9
  have hS : Tryz.prog.underlying 45 = some (.struct (Tryz.prog.fieldsOf 45)) := by kernel_rfl
  have hp : Tryz.prog.stoodInHeld 45 = false := by kernel_rfl
  rw [show (10000 : Nat) = 9999 + 1 from rfl, run_equalIn_agg w 9999 45 _ _ hS hp]
  simp only [Program.fieldsOf, Tryz.underlying45]
  go_simp
  unfold eqP
  by_cases h1 : x = y <;> by_cases h2 : u = v <;> simp [h1, h2]

theorem takeP_succ {P Q : List Pt} {k : Nat} (hk : k < P.length) (hk2 : k < Q.length) (h : P.take k = Q.take k) (he : P.getD k default = Q.getD k default) : P.take (k+1) = Q.take (k+1) := by
  rw [List.take_succ_eq_append_getElem hk, List.take_succ_eq_append_getElem hk2, h]
  simp only [List.getD, List.getElem?_eq_getElem hk, List.getElem?_eq_getElem hk2, Option.getD_some] at he
  rw [he]

set_option maxHeartbeats 4000000 in
theorem SameParts_any (B : Nat) (a b : Option Addr) (n m c d : Nat) (P Q : List Pt) (w : World) (hp : RP B w a n c P) (hq : RP B w b m d Q) :
    Calls Tryz.prog 14 #[.slice a n c, .slice b m d] w fun e w' => e = .returned (.bool (decide (P = Q))) ∧ ∃ q, w' = w.drewN q := by
  have hle := hp.le; have hmx := hp.mx; have hle2 := hq.le; have hmx2 := hq.mx
  have Hln := Lib.hid hp.len
  have Hln2 := Lib.hid hq.len
  by_cases hnm : n = m
  · subst hnm
    go_enter Tryz.func14, Tryz.ntmps14
    go_wp2_with (fail)
    go_loopw [5] (fun i wr => ∃ j : Nat, j ≤ n ∧ i = .int .i64 j ∧ Hid (P.take j = Q.take j) ∧ ∃ q, wr = w.drewN q) (fun i _ => n - (intOf i).toNat)
    case atStart => exact ⟨0, Nat.zero_le _, rfl, Lib.hid rfl, 0, rfl⟩
    case round =>
      obtain ⟨j, hj, rfl, ht, q, rfl⟩ := hrel
      by_cases hlt : j < n
      · obtain ⟨b1, o1, rfl, -, hc1⟩ := hp.at_ (by omega)
        obtain ⟨b2, o2, rfl, -, hc2⟩ := hq.at_ (by omega)
        obtain ⟨g1, g2⟩ := hc1 j hlt
        obtain ⟨k1, k2⟩ := hc2 j hlt
        clear hc1 hc2
        have Hsucc := Lib.hid (fun he => takeP_succ (by rw [← Hln.out]; exact hlt) (by rw [← Hln2.out]; exact hlt) ht.out he)
        have Hno := Lib.hid (show P.getD j default ≠ Q.getD j default → decide (P = Q) = false from fun hne => decide_eq_false fun e => hne (by rw [e]))
        generalize P.getD j default = p at g1 g2 Hsucc Hno
        generalize Q.getD j default = p' at k1 k2 Hsucc Hno
        obtain ⟨x, u⟩ := p
        obtain ⟨y, v⟩ := p'
        simp only at g1 g2 k1 k2
        cases he : eqP (x, u) (y, v) with
        | true =>
          have Hs := Lib.hid (Hsucc.out (eqP_iff.1 he))
          have heq : ∀ w, (Op.equalIn 10000 45 (.agg #[encStr x, .int .i64 u]) (.agg #[encStr y, .int .i64 v])).run Tryz.prog w = .ok true w := fun w => by rw [eqPart, he]
          clear he Hno
          go_wp2_with (fail)
          go_quiet (fail)
          go_wp2_with (fail)
          go_roundw
          case rel => exact ⟨j + 1, by omega, by go_num, Hs, _, rfl⟩
          case measure => simp [intOf]; omega
        | false =>
          have Hn := Lib.hid (Hno.out (fun e => by rw [eqP_iff.2 e] at he; cases he))
          have heq : ∀ w, (Op.equalIn 10000 45 (.agg #[encStr x, .int .i64 u]) (.agg #[encStr y, .int .i64 v])).run Tryz.prog w = .ok false w := fun w => by rw [eqPart, he]
          clear he Hsucc
          go_wp2_with (fail)
          go_quiet (fail)
          go_wp2_with (fail)
          go_ret
          rw [Hn.out]
          exact ⟨rfl, _, World.drewN_drewN _ _ _⟩
      · have hge : n ≤ j := by omega
        go_wp2_with (fail)
        go_ret
        have : P = Q := by
          have := ht.out
          rwa [List.take_of_length_le (by rw [← Hln.out]; exact hge), List.take_of_length_le (by rw [← Hln2.out]; exact hge)] at this
        rw [decide_eq_true this]
        exact ⟨rfl, _, rfl⟩
  · have hne : decide (P = Q) = false := decide_eq_false fun e => hnm (by rw [Hln.out, Hln2.out, e])
    rw [hne]
    go_enter Tryz.func14, Tryz.ntmps14
    go_wp2_with (fail)
    go_ret
    exact ⟨rfl, 0, rfl⟩
end Go.Proofs.YthlmnoggeggpkaaGreat
