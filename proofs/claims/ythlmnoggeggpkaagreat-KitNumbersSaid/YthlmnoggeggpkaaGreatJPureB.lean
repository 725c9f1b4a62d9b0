/- The walks of amount.Times and the document's; of the document's Sum. Plain Lean: joining hangs on no order and on no cut. -/
import Derived.Test.YthlmnoggeggpkaaGreatJAdd
import Derived.Test.YthlmnoggeggpkaaGreatJShelf
import Derived.Test.YthlmnoggeggpkaaGreatJBase
namespace Go.Proofs.YthlmnoggeggpkaaGreat
open Go.RowKit

def timesA (a b : Int) : Option Int := if okA a && (okA b && decide (a * b ≤ mostA)) then some (a * b) else none

set_option maxHeartbeats 2000000 in
theorem Times_any (a b : Int) (w : World) :
    Calls Tryz.prog 30 #[.int .i64 a, .int .i64 b] w fun e w' => e = .returned (.tuple #[.int .i64 (ansV (timesA a b)), .bool (timesA a b).isSome]) ∧ w = w' := by
  have hra := fun w => Right_any a w
  have hrb := fun w => Right_any b w
  have HT : Hid (timesA a b = if okA a && (okA b && decide (a * b ≤ mostA)) then some (a * b) else none) := rfl
  obtain ⟨T, hT⟩ : ∃ T, T = timesA a b := ⟨_, rfl⟩
  rw [← hT] at HT ⊢
  clear hT
  cases hka : okA a
  · rw [hka] at hra HT
    go_enter Tryz.func30, Tryz.ntmps30
    go_wp2_with (go_at_call 27; refine (hra _).mono ?_; rintro e w' ⟨rfl, rfl⟩)
    go_ret2
    rw [HT.out]; exact ⟨rfl, rfl⟩
  · rw [hka] at hra HT
    have hka' := okA_iff.1 hka
    cases hkb : okA b
    · rw [hkb] at hrb HT
      clear hka hkb
      go_enter Tryz.func30, Tryz.ntmps30
      go_wp2_with (go_at_call 27; first | (with_reducible refine (hra _).mono ?_; rintro e w' ⟨rfl, rfl⟩) | (with_reducible refine (hrb _).mono ?_; rintro e w' ⟨rfl, rfl⟩))
      go_ret2
      rw [HT.out]; exact ⟨rfl, rfl⟩
    · rw [hkb] at hrb HT
      have hkb' := okA_iff.1 hkb
      have htn := times_nat hka'.1 hkb'.1
      clear hka hkb
      obtain ⟨x, rfl⟩ : ∃ x : Nat, a = x := ⟨a.toNat, by omega⟩
      obtain ⟨y, rfl⟩ : ∃ y : Nat, b = y := ⟨b.toNat, by omega⟩
      have hmul := fun w => Tryz.bits_Mul64 x y (by omega) (by omega) w
      simp only [Int.toNat_natCast] at htn
      rw [← Int.natCast_mul] at htn HT
      have hlo : x * y / 18446744073709551616 = 0 → x * y % 18446744073709551616 = x * y := by omega
      generalize x * y = p at htn HT hlo hmul
      generalize p / 18446744073709551616 = h at htn hlo hmul
      generalize p % 18446744073709551616 = l at htn hlo hmul
      have w1 : IntKind.u64.wrap (x : Int) = x := IntWalk.u64_in _ (by omega)
      have w2 : IntKind.u64.wrap (y : Int) = y := IntWalk.u64_in _ (by omega)
      have Htn := Lib.hid htn
      have Hlo := Lib.hid hlo
      clear htn hlo
      by_cases hh : h = 0
      · by_cases hl : l ≤ 1125899906842624
        · have e : decide ((p : Int) ≤ mostA) = true := decide_eq_true (Htn.out.1 ⟨hh, hl⟩)
          rw [e] at HT
          have el := Hlo.out hh
          have w3 := wrap_in (x := (l : Int)) (by omega) (by omega)
          clear e
          subst hh
          go_enter Tryz.func30, Tryz.ntmps30
          go_wp2_with (first | (go_at_call 27; first | (with_reducible refine (hra _).mono ?_; rintro e w' ⟨rfl, rfl⟩) | (with_reducible refine (hrb _).mono ?_; rintro e w' ⟨rfl, rfl⟩)) | (go_at_call 57; refine (hmul _).mono ?_; rintro e w' ⟨rfl, rfl⟩))
          go_ret2
          rw [HT.out]; exact ⟨by simp [ansV], rfl⟩
        · have e : decide ((p : Int) ≤ mostA) = false := decide_eq_false fun h => hl (Htn.out.2 h).2
          rw [e] at HT
          clear e
          subst hh
          go_enter Tryz.func30, Tryz.ntmps30
          go_wp2_with (first | (go_at_call 27; first | (with_reducible refine (hra _).mono ?_; rintro e w' ⟨rfl, rfl⟩) | (with_reducible refine (hrb _).mono ?_; rintro e w' ⟨rfl, rfl⟩)) | (go_at_call 57; refine (hmul _).mono ?_; rintro e w' ⟨rfl, rfl⟩))
          go_ret2
          rw [HT.out]; exact ⟨rfl, rfl⟩
      · have e : decide ((p : Int) ≤ mostA) = false := decide_eq_false fun h => hh (Htn.out.2 h).1
        rw [e] at HT
        clear e
        go_enter Tryz.func30, Tryz.ntmps30
        go_wp2_with (first | (go_at_call 27; first | (with_reducible refine (hra _).mono ?_; rintro e w' ⟨rfl, rfl⟩) | (with_reducible refine (hrb _).mono ?_; rintro e w' ⟨rfl, rfl⟩)) | (go_at_call 57; refine (hmul _).mono ?_; rintro e w' ⟨rfl, rfl⟩))
        go_ret2
        rw [HT.out]; exact ⟨rfl, rfl⟩

set_option maxHeartbeats 2000000 in
theorem rTimes_any (a b : Int) (w : World) :
    Calls Tryz.prog 68 #[.int .i64 a, .int .i64 b] w fun e w' => e = .returned (.tuple #[.int .i64 (ansV (timesA a b)), .bool (timesA a b).isSome]) ∧ w = w' := by
  have hra := fun w => rRight_any a w
  have hrb := fun w => rRight_any b w
  have HT : Hid (timesA a b = if okA a && (okA b && decide (a * b ≤ mostA)) then some (a * b) else none) := rfl
  obtain ⟨T, hT⟩ : ∃ T, T = timesA a b := ⟨_, rfl⟩
  rw [← hT] at HT ⊢
  clear hT
  cases hka : okA a
  · rw [hka] at hra HT
    go_enter Tryz.func68, Tryz.ntmps68
    go_wp2_with (go_at_call 39; refine (hra _).mono ?_; rintro e w' ⟨rfl, rfl⟩)
    go_ret2
    rw [HT.out]; exact ⟨rfl, rfl⟩
  · rw [hka] at hra HT
    have hka' := okA_iff.1 hka
    cases hkb : okA b
    · rw [hkb] at hrb HT
      clear hka hkb
      go_enter Tryz.func68, Tryz.ntmps68
      go_wp2_with (go_at_call 39; first | (with_reducible refine (hra _).mono ?_; rintro e w' ⟨rfl, rfl⟩) | (with_reducible refine (hrb _).mono ?_; rintro e w' ⟨rfl, rfl⟩))
      go_ret2
      rw [HT.out]; exact ⟨rfl, rfl⟩
    · rw [hkb] at hrb HT
      have hkb' := okA_iff.1 hkb
      clear hka hkb
      by_cases h0 : 0 < b
      · have htd := times_div (a := a) h0
        have hne : ¬ b = 0 := by omega
        have hq0 : 0 ≤ Int.tdiv 1125899906842624 b := Int.tdiv_nonneg (by omega) (by omega)
        have hq1 : Int.tdiv 1125899906842624 b ≤ 1125899906842624 := by
          rw [Int.tdiv_eq_ediv_of_nonneg (by omega)]
          exact Int.ediv_le_self _ (by omega)
        have wq := wrap_in (x := Int.tdiv 1125899906842624 b) (by omega) (by omega)
        obtain ⟨q, hq⟩ : ∃ q, q = Int.tdiv 1125899906842624 b := ⟨_, rfl⟩
        rw [← hq] at htd hq0 hq1 wq
        have hq' := hq.symm
        clear hq
        have Htd := Lib.hid htd
        clear htd
        by_cases hm : a * b ≤ 1125899906842624
        · have e : decide (a * b ≤ mostA) = true := decide_eq_true hm
          rw [e] at HT
          have hno : ¬ a > q := fun h => Htd.out.1 h hm
          have hnn : 0 ≤ a * b := Int.mul_nonneg hka'.1 hkb'.1
          have wm := wrap_in (x := a * b) (by omega) (by omega)
          obtain ⟨p, hp⟩ : ∃ p, p = a * b := ⟨_, rfl⟩
          rw [← hp] at HT wm
          have hp' := hp.symm
          clear e hm hnn hp
          go_enter Tryz.func68, Tryz.ntmps68
          go_wp2_with (go_at_call 39; first | (with_reducible refine (hra _).mono ?_; rintro e w' ⟨rfl, rfl⟩) | (with_reducible refine (hrb _).mono ?_; rintro e w' ⟨rfl, rfl⟩))
          go_ret2
          rw [HT.out]; exact ⟨rfl, rfl⟩
        · have e : decide (a * b ≤ mostA) = false := decide_eq_false hm
          rw [e] at HT
          have hno : a > q := Htd.out.2 hm
          clear e hm
          go_enter Tryz.func68, Tryz.ntmps68
          go_wp2_with (go_at_call 39; first | (with_reducible refine (hra _).mono ?_; rintro e w' ⟨rfl, rfl⟩) | (with_reducible refine (hrb _).mono ?_; rintro e w' ⟨rfl, rfl⟩))
          go_ret2
          rw [HT.out]; exact ⟨rfl, rfl⟩
      · obtain rfl : b = 0 := by omega
        have e : decide (a * 0 ≤ mostA) = true := by rw [Int.mul_zero]; decide
        rw [e, Int.mul_zero] at HT
        clear e
        go_enter Tryz.func68, Tryz.ntmps68
        go_wp2_with (go_at_call 39; first | (with_reducible refine (hra _).mono ?_; rintro e w' ⟨rfl, rfl⟩) | (with_reducible refine (hrb _).mono ?_; rintro e w' ⟨rfl, rfl⟩))
        go_ret2
        rw [HT.out]; exact ⟨rfl, rfl⟩
end Go.Proofs.YthlmnoggeggpkaaGreat
namespace Go.Proofs.YthlmnoggeggpkaaGreat

/-- How much of an item is in some parts. -/
def tot (k : List UInt8) : List Pt → Int
  | [] => 0
  | p :: L => (if p.1 = k then p.2 else 0) + tot k L
theorem tot_append (k : List UInt8) : ∀ L M : List Pt, tot k (L ++ M) = tot k L + tot k M
  | [], M => by simp [tot]
  | p :: L, M => by
    show (if p.1 = k then p.2 else 0) + tot k (L ++ M) = ((if p.1 = k then p.2 else 0) + tot k L) + tot k M
    rw [tot_append k L M]; omega
theorem tot_nonneg (k : List UInt8) : ∀ {L : List Pt}, (∀ p ∈ L, okA p.2 = true) → 0 ≤ tot k L
  | [], _ => Int.le_refl _
  | p :: L, h => by
    have := tot_nonneg k (L := L) (fun q hq => h q (List.mem_cons_of_mem _ hq))
    have h1 := (okA_iff.1 (h p (by simp))).1
    unfold tot
    split <;> omega
theorem tot_ge (k : List UInt8) : ∀ {L : List Pt} {p : Pt}, (∀ p ∈ L, okA p.2 = true) → p ∈ L → p.2 ≤ tot p.1 L
  | q :: L, p, h, hp => by
    have hL : ∀ r ∈ L, okA r.2 = true := fun r hr => h r (List.mem_cons_of_mem _ hr)
    have h0 := tot_nonneg p.1 hL
    have h1 := (okA_iff.1 (h q (by simp))).1
    unfold tot
    rcases List.mem_cons.1 hp with rfl | hp
    · rw [if_pos rfl]; omega
    · have := tot_ge k hL hp
      split <;> omega
theorem addA_iff {a b n : Int} (ha : okA a = true) : addA a b = some n ↔ okA b = true ∧ a + b ≤ mostA ∧ n = a + b := by
  unfold addA
  rw [ha, Bool.true_and]
  cases hb : okA b
  · simp
  · by_cases h : a + b ≤ mostA
    · simp [h, eq_comm]
    · simp [h]
theorem set_tot {S : List Pt} (hS : Up S) {p : Pt} {n : Int} (hn : n = sumAt S p.1 + p.2) (L : List Pt) (k : List UInt8) : sumAt (setAt S p.1 n) k + tot k L = sumAt S k + tot k (p :: L) := by
  rw [sumAt_set p.1 n k hS]
  conv => rhs; unfold tot
  by_cases e : k = p.1
  · subst e
    rw [if_pos rfl, if_pos rfl]; omega
  · rw [if_neg e, if_neg (fun e2 => e e2.symm)]; omega
theorem joinL_iff : ∀ {L S : List Pt}, Up S → ((joinL S L).isSome = true ↔ (∀ p ∈ L, okA p.2 = true) ∧ ∀ k, sumAt S k + tot k L ≤ mostA)
  | [], S, h => by
    refine ⟨fun _ => ⟨(fun p hp => by cases hp), fun k => ?_⟩, fun _ => rfl⟩
    have := (okA_iff.1 (h.sum_ok k)).2
    show sumAt S k + 0 ≤ 1125899906842624
    omega
  | p :: L, S, h => by
    have hs := h.sum_ok p.1
    unfold joinL
    cases hA : addA (sumAt S p.1) p.2 with
    | none =>
      refine ⟨(fun e => by cases e), fun ⟨h1, h2⟩ => ?_⟩
      have h3 := h1 p (by simp)
      have h4 := tot_nonneg p.1 (L := L) (fun q hq => h1 q (List.mem_cons_of_mem _ hq))
      have h5 := h2 p.1
      unfold tot at h5
      rw [if_pos rfl] at h5
      have := (addA_iff (n := sumAt S p.1 + p.2) hs).2 ⟨h3, by omega, rfl⟩
      rw [hA] at this
      cases this
    | some n =>
      obtain ⟨h1, h2, h3⟩ := (addA_iff hs).1 hA
      have hn := (addA_some hA).2.2.1
      show (joinL (setAt S p.1 n) L).isSome = true ↔ _
      rw [joinL_iff (h.set p.1 hn)]
      constructor
      · rintro ⟨k1, k2⟩
        refine ⟨fun q hq => ?_, fun k => ?_⟩
        · rcases List.mem_cons.1 hq with rfl | hq
          · exact h1
          · exact k1 q hq
        · rw [← set_tot h h3 L k]; exact k2 k
      · rintro ⟨k1, k2⟩
        refine ⟨fun q hq => k1 q (List.mem_cons_of_mem _ hq), fun k => ?_⟩
        rw [set_tot h h3 L k]; exact k2 k
theorem joinL_sum : ∀ {L S R : List Pt}, Up S → joinL S L = some R → ∀ k, sumAt R k = sumAt S k + tot k L
  | [], S, R, _, e, k => by cases e; show _ = sumAt S k + 0; omega
  | p :: L, S, R, h, e, k => by
    have hs := h.sum_ok p.1
    unfold joinL at e
    cases hA : addA (sumAt S p.1) p.2 with
    | none => rw [hA] at e; cases e
    | some n =>
      rw [hA] at e
      obtain ⟨-, -, h3⟩ := (addA_iff hs).1 hA
      rw [joinL_sum (h.set p.1 (addA_some hA).2.2.1) e k, set_tot h h3 L k]
theorem joinL_keys : ∀ {L S R : List Pt}, joinL S L = some R → ∀ k, k ∈ R.map (·.1) ↔ k ∈ S.map (·.1) ∨ k ∈ L.map (·.1)
  | [], S, R, e, k => by cases e; simp
  | p :: L, S, R, e, k => by
    unfold joinL at e
    cases hA : addA (sumAt S p.1) p.2 with
    | none => rw [hA] at e; cases e
    | some n =>
      rw [hA] at e
      rw [joinL_keys e k, keys_set, List.map_cons, List.mem_cons]
      constructor
      · rintro ((h | h) | h)
        · exact .inr (.inl h)
        · exact .inl h
        · exact .inr (.inr h)
      · rintro (h | h | h)
        · exact .inl (.inr h)
        · exact .inl (.inl h)
        · exact .inr h
theorem Up.ext {R T : List Pt} (hR : Up R) (hT : Up T) (hk : ∀ k, k ∈ R.map (·.1) ↔ k ∈ T.map (·.1)) (hs : ∀ k, sumAt R k = sumAt T k) : R = T := by
  have hnd : (R.map (·.1)).Nodup := by
    refine List.pairwise_map.2 (hR.1.imp fun {a b} hlt e => ?_)
    rw [e] at hlt
    exact List.lt_irrefl _ hlt
  exact hT.sorted (hT.perm hnd hk (fun p hp => by rw [← hs, hR.sum_mem hp])) (hR.1.imp fun {a b} hlt hgt => lt_asymm' hlt hgt)
/-- What the sums are, whatever way they are come to. -/
theorem joinL_eq {L M : List Pt} (ht : ∀ k, tot k L = tot k M) (hk : ∀ k, k ∈ L.map (·.1) ↔ k ∈ M.map (·.1)) (ho : (∀ p ∈ L, okA p.2 = true) ↔ (∀ p ∈ M, okA p.2 = true)) : joinL [] L = joinL [] M := by
  have e : (joinL [] L).isSome = (joinL [] M).isSome := by
    rw [Bool.eq_iff_iff, joinL_iff Up.nil, joinL_iff Up.nil, ho]
    simp only [ht]
  cases h1 : joinL [] L with
  | none =>
    rw [h1] at e
    cases h2 : joinL [] M with
    | none => rfl
    | some R => rw [h2] at e; cases e
  | some R =>
    rw [h1] at e
    cases h2 : joinL [] M with
    | none => rw [h2] at e; cases e
    | some T =>
      refine congrArg some (Up.ext (joinL_up Up.nil h1) (joinL_up Up.nil h2) (fun k => ?_) (fun k => ?_))
      · rw [joinL_keys h1 k, joinL_keys h2 k, hk k]
      · rw [joinL_sum Up.nil h1 k, joinL_sum Up.nil h2 k, ht k]
theorem joinL_swap (M N : List Pt) : joinL [] (M ++ N) = joinL [] (N ++ M) := by
  refine joinL_eq (fun k => ?_) (fun k => ?_) ?_
  · rw [tot_append, tot_append]; omega
  · simp only [List.map_append, List.mem_append]
    exact Or.comm
  · simp only [List.mem_append]
    exact ⟨fun h p hp => h p hp.symm, fun h p hp => h p hp.symm⟩
theorem joinL_cons (S : List Pt) (p : Pt) (L : List Pt) : joinL S (p :: L) = match addA (sumAt S p.1) p.2 with | none => none | some n => joinL (setAt S p.1 n) L := rfl
theorem joinL_append : ∀ (A B S : List Pt), joinL S (A ++ B) = (joinL S A).bind fun S' => joinL S' B
  | [], B, S => rfl
  | p :: A, B, S => by
    rw [List.cons_append, joinL_cons, joinL_cons]
    cases addA (sumAt S p.1) p.2 with
    | none => rfl
    | some n => exact joinL_append A B _
theorem joinL_more {A B : List Pt} (h : joinL [] A = none) : joinL [] (A ++ B) = none := by rw [joinL_append, h]; rfl
theorem Up.tot_eq : ∀ {R : List Pt}, Up R → ∀ k, tot k R = sumAt R k
  | [], _, _ => rfl
  | p :: R, h, k => by
    have ih := Up.tot_eq h.tail k
    unfold tot sumAt
    by_cases e : p.1 = k
    · rw [if_pos e, if_pos e, ih]
      have hno : k ∉ R.map (·.1) := fun hk => by
        obtain ⟨q, hq, e2⟩ := List.mem_map.1 hk
        have := (List.pairwise_cons.1 h.1).1 q hq
        rw [e, ← e2] at this
        exact List.lt_irrefl _ this
      rw [sumAt_none hno]; omega
    · rw [if_neg e, if_neg e, ih]; omega
/-- Joined once more it stays. -/
theorem joinL_self {R : List Pt} (h : Up R) : joinL [] R = some R := by
  have hs : (joinL [] R).isSome = true := by
    refine (joinL_iff Up.nil).2 ⟨h.2, fun k => ?_⟩
    have := (okA_iff.1 (h.sum_ok k)).2
    rw [h.tot_eq k]
    show 0 + sumAt R k ≤ 1125899906842624
    omega
  cases e : joinL [] R with
  | none => rw [e] at hs; cases hs
  | some T =>
    refine congrArg some (Up.ext (joinL_up Up.nil e) h (fun k => ?_) (fun k => ?_))
    · rw [joinL_keys e k]; simp
    · rw [joinL_sum Up.nil e k, h.tot_eq k]
      show 0 + _ = _
      omega
/-- Each part's item stands there, with as much. -/
theorem joinL_found {L R : List Pt} (h : joinL [] L = some R) {p : Pt} (hp : p ∈ L) : ∃ q ∈ R, q.1 = p.1 ∧ p.2 ≤ q.2 := by
  have hok := ((joinL_iff (L := L) Up.nil).1 (by rw [h]; rfl)).1
  have hk := (joinL_keys h p.1).2 (.inr (List.mem_map.2 ⟨p, hp, rfl⟩))
  refine ⟨_, mem_of_key hk, rfl, ?_⟩
  have h1 := joinL_sum Up.nil h p.1
  have h2 := tot_ge p.1 hok hp
  have h3 : sumAt [] p.1 = 0 := rfl
  show p.2 ≤ sumAt R p.1
  omega
end Go.Proofs.YthlmnoggeggpkaaGreat
