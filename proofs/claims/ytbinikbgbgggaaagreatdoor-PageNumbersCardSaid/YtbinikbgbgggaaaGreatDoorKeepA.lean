/- Rows in memory; the small functions of the law PageKeeps. -/
import Derived.Test.YtbinikbgbgggaaaGreatDoorRowsW
import Derived.Test.YtbinikbgbgggaaaGreatDoorSame
import Derived.Test.YtbinikbgbgggaaaGreatDoorPure3
namespace Go.Proofs.YtbinikbgbgggaaaGreatDoor
open Go.RowKit Go.Shelf

/-- One row, as it lies in memory. -/
def RwAt (B : Nat) (w : World) (b o : Nat) (r : Rw) : Prop := ∃ ka kn kc va vn vc, w.cell? ⟨b, o, none⟩ = some (.slice ka kn kc) ∧ w.cell? ⟨b, o + 1, none⟩ = some (.slice va vn vc) ∧ RB B w ka kn kc r.1 ∧ RB B w va vn vc r.2
/-- A slice of rows reads as a list. -/
structure RowsAt (B : Nat) (w : World) (la : Option Addr) (ln lc : Nat) (L : List Rw) : Prop where
  len : ln = L.length
  le : ln ≤ lc
  mx : lc ≤ 9223372036854775807
  at_ : 0 < lc → ∃ b o, la = some ⟨b, o, none⟩ ∧ b < B ∧ ∀ i r, L[i]? = some r → RwAt B w b (o + i * 2) r
theorem RwAt.below {B : Nat} {w w' : World} {b o : Nat} {r : Rw} (h : RwAt B w b o r) (hb : Below B w w') (hB : b < B) : RwAt B w' b o r := by
  obtain ⟨ka, kn, kc, va, vn, vc, h1, h2, h3, h4⟩ := h
  exact ⟨ka, kn, kc, va, vn, vc, (hb.cell hB).trans h1, (hb.cell hB).trans h2, h3.below hb, h4.below hb⟩
theorem RwAt.mono {B B' : Nat} {w : World} {b o : Nat} {r : Rw} (h : RwAt B w b o r) (hb : B ≤ B') : RwAt B' w b o r := by
  obtain ⟨ka, kn, kc, va, vn, vc, h1, h2, h3, h4⟩ := h
  exact ⟨ka, kn, kc, va, vn, vc, h1, h2, h3.mono hb, h4.mono hb⟩
theorem RowsAt.below {B : Nat} {w w' : World} {la : Option Addr} {ln lc : Nat} {L : List Rw} (h : RowsAt B w la ln lc L) (hb : Below B w w') : RowsAt B w' la ln lc L :=
  ⟨h.len, h.le, h.mx, fun hc => by
    obtain ⟨b, o, e, hB, hi⟩ := h.at_ hc
    exact ⟨b, o, e, hB, fun i r hr => (hi i r hr).below hb hB⟩⟩
theorem RowsAt.mono {B B' : Nat} {w : World} {la : Option Addr} {ln lc : Nat} {L : List Rw} (h : RowsAt B w la ln lc L) (hb : B ≤ B') : RowsAt B' w la ln lc L :=
  ⟨h.len, h.le, h.mx, fun hc => by
    obtain ⟨b, o, e, hB, hi⟩ := h.at_ hc
    exact ⟨b, o, e, by omega, fun i r hr => (hi i r hr).mono hb⟩⟩
theorem rowsCells_get {W : World} {g : Option Nat} : ∀ {cs : List Value} {R : List Rw}, RowsCells W g cs R → ∀ {i : Nat} {r : Rw}, R[i]? = some r →
    ∃ ka kn kc va vn vc, cs[i * 2]? = some (.slice ka kn kc) ∧ cs[i * 2 + 1]? = some (.slice va vn vc) ∧ RB W.heap.size W ka kn kc r.1 ∧ RB W.heap.size W va vn vc r.2
  | [], [], _, i, r, hr => by simp at hr
  | k :: v :: cs, r0 :: R, h, 0, r, hr => by
    simp only [List.getElem?_cons_zero, Option.some.injEq] at hr
    subst hr
    obtain ⟨⟨ka, kn, kc, rfl, h1, -⟩, ⟨va, vn, vc, rfl, h2, -⟩, -⟩ := h
    exact ⟨ka, kn, kc, va, vn, vc, rfl, rfl, h1, h2⟩
  | k :: v :: cs, r0 :: R, h, i + 1, r, hr => by
    have := rowsCells_get h.2.2 (i := i) (r := r) (by simpa using hr)
    rw [show (i + 1) * 2 = i * 2 + 1 + 1 by omega, List.getElem?_cons_succ, List.getElem?_cons_succ, List.getElem?_cons_succ, List.getElem?_cons_succ]
    exact this
  | [], _ :: _, h, _, _, _ => h.elim
  | [_], _, h, _, _, _ => by cases ‹List Rw› <;> exact h.elim
  | _ :: _ :: _, [], h, _, _, _ => h.elim
theorem OR.rows {base : Nat} {W : World} {v : Value} {R : List Rw} (h : OR base W v R) : ∃ a c, v = .slice a R.length c ∧ RowsAt W.heap.size W a R.length c R := by
  obtain ⟨cs, ⟨e, ⟨rfl, h0⟩ | ⟨g, cap, cur, rfl, hg, hh, hle, hcap, hsz, ht⟩⟩, hrc⟩ := h
  · obtain rfl : R = [] := List.eq_nil_of_length_eq_zero h0
    exact ⟨none, 0, rfl, rfl, Nat.le_refl _, by omega, fun h => by omega⟩
  · refine ⟨_, cap, rfl, rfl, hle, by simpa [maxLen] using hcap, fun _ => ⟨g, 0, rfl, (Array.getElem?_eq_some_iff.1 hh).1, fun i r hr => ?_⟩⟩
    obtain ⟨ka, kn, kc, va, vn, vc, h1, h2, h3, h4⟩ := rowsCells_get hrc hr
    have hi : i < R.length := (List.getElem?_eq_some_iff.1 hr).1
    have hcell : ∀ j u, cs[j]? = some u → W.cell? ⟨g, j, none⟩ = some u := fun j u hu => by
      rw [cell_of_row W g j _ _ _ hh]
      rw [← ht, List.getElem?_take] at hu
      split at hu
      · simpa using hu
      · cases hu
    refine ⟨ka, kn, kc, va, vn, vc, ?_, ?_, h3, h4⟩
    · rw [Nat.zero_add]; exact hcell _ _ h1
    · rw [Nat.zero_add]; exact hcell _ _ h2

theorem CopyBytes_any (N : Nat) (a : Option Addr) (n c : Nat) (L : List UInt8) (w : World) (hr : RB N w a n c L) (hN : N ≤ w.heap.size) :
    Calls Tryz.prog 45 #[.slice a n c] w fun e w' => (∃ v, e = .returned v ∧ OB w.heap.size w' v L) ∧ Below w.heap.size w w' := by
  have hlm := hr.lm; have hln := hr.len
  have Hln := Lib.hid hln
  clear hln
  go_enter Tryz.func45, Tryz.ntmps45
  go_wp2_with (at_builtin; refine wpList_append_bytes rfl _ _ rfl w.heap.size N _ [] rfl (OB.nil _ _) _ _ _ L rfl hr (by simp [← Hln.out]; exact hlm) (Nat.le_refl _) ?_; intro v' w' hown' hg _)
  go_ret
  refine ⟨⟨_, rfl, by simpa using hown'⟩, (Below.refl _ _).grown hg (Nat.le_refl _) (fun k e => ?_)⟩
  cases e

def pickL (x : Int) : Int := if x.tmod 8 < 0 then x.tmod 8 + 8 else x.tmod 8
theorem Pick_any (x : Int) (w : World) (h0 : -9223372036854775808 ≤ x) (h1 : x ≤ 9223372036854775807) :
    Calls Tryz.prog 79 #[.int .i64 x, .int .i64 8] w fun e w' => e = .returned (.int .i64 (pickL x)) ∧ w = w' := by
  have hm : -8 < x.tmod 8 ∧ x.tmod 8 < 8 := ⟨Int.lt_tmod_of_pos x (by decide), Int.tmod_lt_of_pos x (by decide)⟩
  obtain ⟨hm1, hm2⟩ := hm
  by_cases hn : x.tmod 8 < 0
  · have hf : pickL x = x.tmod 8 + 8 := by unfold pickL; rw [if_pos hn]
    have Hf := Lib.hid hf
    clear hf
    go_enter Tryz.func79, Tryz.ntmps79
    go_wp2
    go_ret
    exact ⟨by rw [Hf.out]; rfl, rfl⟩
  · have hf : pickL x = x.tmod 8 := by unfold pickL; rw [if_neg hn]
    have Hf := Lib.hid hf
    clear hf
    go_enter Tryz.func79, Tryz.ntmps79
    go_wp2
    go_ret
    exact ⟨by rw [Hf.out]; rfl, rfl⟩

set_option maxHeartbeats 1000000 in
theorem SameRow_any (B : Nat) (ka va ka' va' : Option Addr) (kn kc vn vc kn' kc' vn' vc' : Nat) (K V K' V' : List UInt8) (w : World) (hB : B ≤ w.heap.size) (hk : RB B w ka kn kc K) (hv : RB B w va vn vc V) (hk' : RB B w ka' kn' kc' K') (hv' : RB B w va' vn' vc' V') :
    Calls Tryz.prog 50 #[.agg #[.slice ka kn kc, .slice va vn vc], .agg #[.slice ka' kn' kc', .slice va' vn' vc']] w fun e w' => e = .returned (.bool (eqB K K' && eqB V V')) ∧ Below w.heap.size w w' := by
  have hb : Below w.heap.size w ((w.alloc (.cells #[.slice ka kn kc, .slice va vn vc] 60)).alloc (.cells #[.slice ka' kn' kc', .slice va' vn' vc'] 60)) := ((Below.refl _ w).alloc (Nat.le_refl _) _).alloc (by simp) _
  have H1 := Lib.hid (fun q => SameBytes_any B ka ka' kn kc kn' kc' K K' _ ((hk.below (hb.mono hB)).drewN q) ((hk'.below (hb.mono hB)).drewN q))
  have H2 := Lib.hid (fun q => SameBytes_any B va va' vn vc vn' vc' V V' _ ((hv.below (hb.mono hB)).drewN q) ((hv'.below (hb.mono hB)).drewN q))
  have Hb := Lib.hid hb
  clear hb
  cases he : eqB K K' with
  | false =>
    rw [he] at H1
    clear he
    go_enter Tryz.func50, Tryz.ntmps50
    go_wp2_with (go_at_call 24; refine (H1.out 0).mono ?_; rintro e w' ⟨rfl, q', rfl⟩)
    go_ret
    exact ⟨rfl, below_dn Hb.out _⟩
  | true =>
    rw [he] at H1
    clear he
    go_enter Tryz.func50, Tryz.ntmps50
    go_wp2_with (fail)
    refine (H1.out 0).mono ?_
    rintro e w' ⟨rfl, q', rfl⟩
    go_wp2_with (fail)
    refine (H2.out _).mono ?_
    rintro e w' ⟨rfl, q2, rfl⟩
    go_wp2_with (fail)
    go_ret
    exact ⟨by rw [Bool.true_and]; rfl, below_dn Hb.out _⟩
end Go.Proofs.YtbinikbgbgggaaaGreatDoor
