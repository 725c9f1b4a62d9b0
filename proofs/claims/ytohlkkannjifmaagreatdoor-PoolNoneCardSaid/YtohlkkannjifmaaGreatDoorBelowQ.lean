/- The walks of the small functions of storemankit. Rows in memory; the small functions of the law PageKeeps. Regions that draw their order, whose operations read what stands, and whose calls leave all that stands: one walk of the text's order. -/
import Derived.Test.YtohlkkannjifmaaGreatDoorPageA
import Derived.Test.YtohlkkannjifmaaGreatDoorRowsW
import Derived.Test.YtohlkkannjifmaaGreatDoorPure3
import Derived.Test.YtohlkkannjifmaaGreatDoorSteps
namespace Go.Proofs.YtohlkkannjifmaaGreatDoor
open Go.RowKit

theorem take_eq_succ {l m : List UInt8} {k : Nat} (hk : k < l.length) (hk2 : k < m.length) (h : l.take k = m.take k) (he : l.getD k 0 = m.getD k 0) : l.take (k+1) = m.take (k+1) := by
  rw [List.take_succ_eq_append_getElem hk, List.take_succ_eq_append_getElem hk2, h]
  simp only [List.getD, List.getElem?_eq_getElem hk, List.getElem?_eq_getElem hk2, Option.getD_some] at he
  rw [he]

set_option maxHeartbeats 1000000 in
theorem SameBytes_any (B : Nat) (a b : Option Addr) (n c m d : Nat) (l k : List UInt8) (w : World) (hl : RB B w a n c l) (hk : RB B w b m d k) :
    Calls Tryz.prog 14 #[.slice a n c, .slice b m d] w fun e w' => e = .returned (.bool (eqB l k)) ∧ ∃ q, w' = w.drewN q := by
  have hn := hl.le
  have hcm := hl.mx
  have hm := hk.le
  have hdm := hk.mx
  have hln := hl.len
  have hkm := hk.len
  by_cases hne : n = m
  · subst hne
    have hbne : ((n : Int) != (n : Int)) = false := by simp
    have Hln := Lib.hid hln; have Hkm := Lib.hid hkm; clear hln hkm
    go_enter Tryz.func14, Tryz.ntmps14
    go_wp2
    go_loopw [5] (fun i wr => ∃ j : Nat, j ≤ n ∧ i = .int .i64 j ∧ Hid (l.take j = k.take j) ∧ ∃ q, wr = w.drewN q) (fun i _ => n - (intOf i).toNat)
    case atStart => exact ⟨0, Nat.zero_le _, rfl, rfl, 0, rfl⟩
    case round =>
      obtain ⟨j, hj, rfl, ht, q, rfl⟩ := hrel
      by_cases hlt : j < n
      · obtain ⟨b1, o1, rfl, -, hc1⟩ := hl.at_ (by omega)
        obtain ⟨b2, o2, rfl, -, hc2⟩ := hk.at_ (by omega)
        have g1 := hc1 j hlt
        have g2 := hc2 j hlt
        clear hc1 hc2
        go_wp2
        go_quiet (fail)
        go_wp2
        · go_ret
          have e : bt l j ≠ bt k j := by simpa using ‹(bt l j != bt k j) = true›
          have : l ≠ k := fun h => e (by rw [h])
          exact ⟨congrArg (fun x => Ending.returned (.bool x)) (eqB_ne this).symm, _, World.drewN_drewN _ _ _⟩
        · go_roundw
          case rel =>
            have e : bt l j = bt k j := by simpa using ‹(bt l j != bt k j) = false›
            exact ⟨j + 1, by omega, by go_num, take_eq_succ (by rw [← Hln.out]; exact hlt) (by rw [← Hkm.out]; exact hlt) ht.out (bt_inj e), _, rfl⟩
          case measure => simp [intOf]; omega
      · have hge : n ≤ j := by omega
        go_wp2
        go_ret
        have : l = k := by
          have := ht.out
          rwa [List.take_of_length_le (by rw [← Hln.out]; exact hge), List.take_of_length_le (by rw [← Hkm.out]; exact hge)] at this
        exact ⟨congrArg (fun x => Ending.returned (.bool x)) (by rw [this, eqB_self]), _, rfl⟩
  · have hbne : ((n : Int) != (m : Int)) = true := by simp; omega
    have hlk : l ≠ k := fun h => hne (by rw [hln, hkm, h])
    clear hln hkm
    go_enter Tryz.func14, Tryz.ntmps14
    go_wp2
    go_ret
    exact ⟨congrArg (fun x => Ending.returned (.bool x)) (eqB_ne hlk).symm, 0, rfl⟩
end Go.Proofs.YtohlkkannjifmaaGreatDoor
namespace Go.Proofs.YtohlkkannjifmaaGreatDoor
open Go.RowKit Go.Shelf

/-- One row, as it lies in memory. -/
def RwAt (B : Nat) (w : World) (b o : Nat) (r : Rw) : Prop := ∃ ka kn kc va vn vc, w.cell? ⟨b, o, none⟩ = some (.slice ka kn kc) ∧ w.cell? ⟨b, o + 1, none⟩ = some (.slice va vn vc) ∧ RB B w ka kn kc r.1 ∧ RB B w va vn vc r.2
/-- A slice of rows reads as a list. -/
structure RowsAt (B : Nat) (w : World) (la : Option Addr) (ln lc : Nat) (L : List Rw) : Prop where
  len : ln = L.length
  le : ln ≤ lc
  mx : lc ≤ 9223372036854775807
  at_ : 0 < lc → ∃ b o, la = some ⟨b, o, none⟩ ∧ b < B ∧ ∀ i r, L[i]? = some r → RwAt B w b (o + i * 2) r
theorem RwAt.below {B : Nat} {w w' : World} {b o : Nat} {r : Rw} (h : RwAt B w b o r) (hb : Below B w w') (hB : b < B) : RwAt B w' b o r := by
  obtain ⟨ka, kn, kc, va, vn, vc, h1, h2, h3, h4⟩ := h
  exact ⟨ka, kn, kc, va, vn, vc, (hb.cell hB).trans h1, (hb.cell hB).trans h2, h3.below hb, h4.below hb⟩
theorem RwAt.mono {B B' : Nat} {w : World} {b o : Nat} {r : Rw} (h : RwAt B w b o r) (hb : B ≤ B') : RwAt B' w b o r := by
  obtain ⟨ka, kn, kc, va, vn, vc, h1, h2, h3, h4⟩ := h
  exact ⟨ka, kn, kc, va, vn, vc, h1, h2, h3.mono hb, h4.mono hb⟩
theorem RowsAt.below {B : Nat} {w w' : World} {la : Option Addr} {ln lc : Nat} {L : List Rw} (h : RowsAt B w la ln lc L) (hb : Below B w w') : RowsAt B w' la ln lc L :=
  ⟨h.len, h.le, h.mx, fun hc => by
    obtain ⟨b, o, e, hB, hi⟩ := h.at_ hc
    exact ⟨b, o, e, hB, fun i r hr => (hi i r hr).below hb hB⟩⟩
theorem RowsAt.mono {B B' : Nat} {w : World} {la : Option Addr} {ln lc : Nat} {L : List Rw} (h : RowsAt B w la ln lc L) (hb : B ≤ B') : RowsAt B' w la ln lc L :=
  ⟨h.len, h.le, h.mx, fun hc => by
    obtain ⟨b, o, e, hB, hi⟩ := h.at_ hc
    exact ⟨b, o, e, by omega, fun i r hr => (hi i r hr).mono hb⟩⟩
theorem rowsCells_get {W : World} {g : Option Nat} : ∀ {cs : List Value} {R : List Rw}, RowsCells W g cs R → ∀ {i : Nat} {r : Rw}, R[i]? = some r →
    ∃ ka kn kc va vn vc, cs[i * 2]? = some (.slice ka kn kc) ∧ cs[i * 2 + 1]? = some (.slice va vn vc) ∧ RB W.heap.size W ka kn kc r.1 ∧ RB W.heap.size W va vn vc r.2
  | [], [], _, i, r, hr => by simp at hr
  | k :: v :: cs, r0 :: R, h, 0, r, hr => by
    simp only [List.getElem?_cons_zero, Option.some.injEq] at hr
    subst hr
    obtain ⟨⟨ka, kn, kc, rfl, h1, -⟩, ⟨va, vn, vc, rfl, h2, -⟩, -⟩ := h
    exact ⟨ka, kn, kc, va, vn, vc, rfl, rfl, h1, h2⟩
  | k :: v :: cs, r0 :: R, h, i + 1, r, hr => by
    have := rowsCells_get h.2.2 (i := i) (r := r) (by simpa using hr)
    rw [show (i + 1) * 2 = i * 2 + 1 + 1 by omega, List.getElem?_cons_succ, List.getElem?_cons_succ, List.getElem?_cons_succ, List.getElem?_cons_succ]
    exact this
  | [], _ :: _, h, _, _, _ => h.elim
  | [_], _, h, _, _, _ => by cases ‹List Rw› <;> exact h.elim
  | _ :: _ :: _, [], h, _, _, _ => h.elim
theorem OR.rows {base : Nat} {W : World} {v : Value} {R : List Rw} (h : OR base W v R) : ∃ a c, v = .slice a R.length c ∧ RowsAt W.heap.size W a R.length c R := by
  obtain ⟨cs, ⟨e, ⟨rfl, h0⟩ | ⟨g, cap, cur, rfl, hg, hh, hle, hcap, hsz, ht⟩⟩, hrc⟩ := h
  · obtain rfl : R = [] := List.eq_nil_of_length_eq_zero h0
    exact ⟨none, 0, rfl, rfl, Nat.le_refl _, by omega, fun h => by omega⟩
  · refine ⟨_, cap, rfl, rfl, hle, by simpa [maxLen] using hcap, fun _ => ⟨g, 0, rfl, (Array.getElem?_eq_some_iff.1 hh).1, fun i r hr => ?_⟩⟩
    obtain ⟨ka, kn, kc, va, vn, vc, h1, h2, h3, h4⟩ := rowsCells_get hrc hr
    have hi : i < R.length := (List.getElem?_eq_some_iff.1 hr).1
    have hcell : ∀ j u, cs[j]? = some u → W.cell? ⟨g, j, none⟩ = some u := fun j u hu => by
      rw [cell_of_row W g j _ _ _ hh]
      rw [← ht, List.getElem?_take] at hu
      split at hu
      · simpa using hu
      · cases hu
    refine ⟨ka, kn, kc, va, vn, vc, ?_, ?_, h3, h4⟩
    · rw [Nat.zero_add]; exact hcell _ _ h1
    · rw [Nat.zero_add]; exact hcell _ _ h2

theorem CopyBytes_any (N : Nat) (a : Option Addr) (n c : Nat) (L : List UInt8) (w : World) (hr : RB N w a n c L) (_hN : N ≤ w.heap.size) :
    Calls Tryz.prog 85 #[.slice a n c] w fun e w' => (∃ v, e = .returned v ∧ OB w.heap.size w' v L) ∧ Below w.heap.size w w' := by
  have hlm := hr.lm; have hln := hr.len
  have Hln := Lib.hid hln
  clear hln
  go_enter Tryz.func85, Tryz.ntmps85
  go_wp2_with (at_builtin; refine wpList_append_bytes rfl _ _ rfl w.heap.size N _ [] rfl (OB.nil _ _) _ _ _ L rfl hr (by simp [← Hln.out]; exact hlm) (Nat.le_refl _) ?_; intro v' w' hown' hg _)
  go_ret
  refine ⟨⟨_, rfl, by simpa using hown'⟩, (Below.refl _ _).grown hg (Nat.le_refl _) (fun k e => ?_)⟩
  cases e

def pickL (x : Int) : Int := if x.tmod 8 < 0 then x.tmod 8 + 8 else x.tmod 8
theorem Pick_any (x : Int) (w : World) (_h0 : -9223372036854775808 ≤ x) (_h1 : x ≤ 9223372036854775807) :
    Calls Tryz.prog 9 #[.int .i64 x, .int .i64 8] w fun e w' => e = .returned (.int .i64 (pickL x)) ∧ w = w' := by
  have hm : -8 < x.tmod 8 ∧ x.tmod 8 < 8 := ⟨Int.lt_tmod_of_pos x (by decide), Int.tmod_lt_of_pos x (by decide)⟩
  obtain ⟨hm1, hm2⟩ := hm
  by_cases hn : x.tmod 8 < 0
  · have hf : pickL x = x.tmod 8 + 8 := by unfold pickL; rw [if_pos hn]
    have Hf := Lib.hid hf
    clear hf
    go_enter Tryz.func9, Tryz.ntmps9
    go_wp2
    go_ret
    exact ⟨by rw [Hf.out]; rfl, rfl⟩
  · have hf : pickL x = x.tmod 8 := by unfold pickL; rw [if_neg hn]
    have Hf := Lib.hid hf
    clear hf
    go_enter Tryz.func9, Tryz.ntmps9
    go_wp2
    go_ret
    exact ⟨by rw [Hf.out]; rfl, rfl⟩

set_option maxHeartbeats 1000000 in
theorem SameRow_any (B : Nat) (ka va ka' va' : Option Addr) (kn kc vn vc kn' kc' vn' vc' : Nat) (K V K' V' : List UInt8) (w : World) (hB : B ≤ w.heap.size) (hk : RB B w ka kn kc K) (hv : RB B w va vn vc V) (hk' : RB B w ka' kn' kc' K') (hv' : RB B w va' vn' vc' V') :
    Calls Tryz.prog 157 #[.agg #[.slice ka kn kc, .slice va vn vc], .agg #[.slice ka' kn' kc', .slice va' vn' vc']] w fun e w' => e = .returned (.bool (eqB K K' && eqB V V')) ∧ Below w.heap.size w w' := by
  have hb : Below w.heap.size w ((w.alloc (.cells #[.slice ka kn kc, .slice va vn vc] 185)).alloc (.cells #[.slice ka' kn' kc', .slice va' vn' vc'] 185)) := ((Below.refl _ w).alloc (Nat.le_refl _) _).alloc (by simp) _
  have H1 := Lib.hid (fun q => SameBytes_any B ka ka' kn kc kn' kc' K K' _ ((hk.below (hb.mono hB)).drewN q) ((hk'.below (hb.mono hB)).drewN q))
  have H2 := Lib.hid (fun q => SameBytes_any B va va' vn vc vn' vc' V V' _ ((hv.below (hb.mono hB)).drewN q) ((hv'.below (hb.mono hB)).drewN q))
  have Hb := Lib.hid hb
  clear hb
  cases he : eqB K K' with
  | false =>
    rw [he] at H1
    clear he
    go_enter Tryz.func157, Tryz.ntmps157
    go_wp2_with (go_at_call 14; refine (H1.out 0).mono ?_; rintro e w' ⟨rfl, q', rfl⟩)
    go_ret
    exact ⟨rfl, below_dn Hb.out _⟩
  | true =>
    rw [he] at H1
    clear he
    go_enter Tryz.func157, Tryz.ntmps157
    go_wp2_with (fail)
    refine (H1.out 0).mono ?_
    rintro e w' ⟨rfl, q', rfl⟩
    go_wp2_with (fail)
    refine (H2.out _).mono ?_
    rintro e w' ⟨rfl, q2, rfl⟩
    go_wp2_with (fail)
    go_ret
    exact ⟨by rw [Bool.true_and]; rfl, below_dn Hb.out _⟩
end Go.Proofs.YtohlkkannjifmaaGreatDoor
namespace Go.Proofs.YtohlkkannjifmaaGreatDoor
open Go.RowKit Go.Shelf

/-- The worlds in which all that stood in W stands as it stood. -/
structure BelowW (W : World) where
  v : World
  h : Below W.heap.size W v
instance (W : World) : Nonempty (BelowW W) := ⟨⟨W, Below.refl _ _⟩⟩
theorem wp_region_below {P : Program} {id : Nat} {Q : Exit → Act → World → Prop} {a : Act} {w : World} {l : List Oper} (W : World) (hm : P.follows .mixedOrders = true) (hB : Region.lexB .any l.toArray = true) (hW : Below W.heap.size W w)
    (h : wpQuiet P l.toArray (fun w' => ∃ x : BelowW W, w' = x.v) (fun a' => ∀ w', (∃ x : BelowW W, w' = x.v) → Q .normal a' w') l a) : (Code.region id l.toArray true).wp P Q a w := by
  simp only [Region.lexB, Bool.and_eq_true] at hB
  refine wp_region_any hm (wpAny_of_quiet (C := fun w' => ∃ x : BelowW W, w' = x.v) (Q' := Q) (Q := fun a' => ∀ w', (∃ x : BelowW W, w' = x.v) → Q .normal a' w') (fun _ w' hw' h => h w' hw') _ _ _ _ ⟨⟨_, hW.drew⟩, rfl⟩ ?_)
  have := wpAnyQ_lex (P := P) (C := fun w' => ∃ x : BelowW W, w' = x.v) (md := .any) hB.1 l.toArray.toList 0 (Array.replicate l.toArray.size false) a (by simp) (by simpa using hB.2) (by simpa using h)
  simpa using this
/-- A contract of the kind 'all that stood stands', at a call of such a region. -/
theorem below_call {P : Program} {f : FuncId} {args : Array Value} {W : World} {x : BelowW W} {v : Value} (h : Calls P f args x.v fun e w' => e = .returned v ∧ Below x.v.heap.size x.v w') : Calls P f args x.v fun e w' => e = .returned v ∧ ∃ y : BelowW W, w' = y.v :=
  h.mono fun _ w' ⟨he, hb⟩ => ⟨he, ⟨w', x.h.trans (hb.mono x.h.size)⟩, rfl⟩
theorem below_call_drew {P : Program} {f : FuncId} {args : Array Value} {W : World} {x : BelowW W} {v : Value} (h : Calls P f args x.v fun e w' => e = .returned v ∧ ∃ q, w' = x.v.drewN q) : Calls P f args x.v fun e w' => e = .returned v ∧ ∃ y : BelowW W, w' = y.v :=
  h.mono fun _ w' ⟨he, q, hq⟩ => ⟨he, ⟨w', by rw [hq]; exact below_dn x.h q⟩, rfl⟩
theorem below_call_same {P : Program} {f : FuncId} {args : Array Value} {W : World} {x : BelowW W} {v : Value} (h : Calls P f args x.v fun e w' => e = .returned v ∧ x.v = w') : Calls P f args x.v fun e w' => e = .returned v ∧ ∃ y : BelowW W, w' = y.v :=
  h.mono fun _ _w' ⟨he, hq⟩ => ⟨he, x, hq.symm⟩
end Go.Proofs.YtohlkkannjifmaaGreatDoor
