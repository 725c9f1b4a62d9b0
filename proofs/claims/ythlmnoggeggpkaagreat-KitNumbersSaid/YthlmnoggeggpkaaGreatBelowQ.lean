/- What an item may be, by the document. Regions that draw their order, whose operations read what stands, and whose calls leave all that stands: one walk of the text's order. -/
import Derived.Test.YthlmnoggeggpkaaGreatKFind
import Derived.Deep.DeepCutAuto
import Derived.BigRegion
import Derived.Deep.Quiet
import Derived.Deep.QuietTactic
import Derived.Deep.RegionWith
namespace Go.Proofs.YthlmnoggeggpkaaGreat
open Go.RowKit

theorem okPart_qty {P : List Pt} {i : Nat} (h : ¬ (1 ≤ (P.getD i default).2 ∧ (P.getD i default).2 ≤ 1073741824)) : okPart P i = false := by
  unfold okPart
  rw [decide_eq_false h, Bool.false_and]
theorem okPart_twice {P : List Pt} {i k : Nat} (hk : k < i) (h : (P.getD k default).1 = (P.getD i default).1) : okPart P i = false := by
  unfold okPart
  rw [decide_eq_false (p := ∀ k, k < i → (P.getD k default).1 ≠ (P.getD i default).1) (fun e => e k hk h), Bool.and_false]
theorem okPart_yes {P : List Pt} {i : Nat} (h1 : 1 ≤ (P.getD i default).2) (h2 : (P.getD i default).2 ≤ 1073741824) (h : ∀ k, k < i → (P.getD k default).1 ≠ (P.getD i default).1) : okPart P i = true := by
  unfold okPart
  rw [decide_eq_true (And.intro h1 h2), decide_eq_true h]; rfl
theorem box_cells (w : World) (x : It) : (w.alloc (.cells #[encStr x.code, .int .i64 x.life, .slice x.pa x.ps.length x.pc, .slice x.oa x.os.length x.oc] 43)).cell? ⟨w.heap.size, 1, none⟩ = some (.int .i64 x.life) ∧ (w.alloc (.cells #[encStr x.code, .int .i64 x.life, .slice x.pa x.ps.length x.pc, .slice x.oa x.os.length x.oc] 43)).cell? ⟨w.heap.size, 2, none⟩ = some (.slice x.pa x.ps.length x.pc) := by
  have hh := heap_alloc_new w (.cells #[encStr x.code, .int .i64 x.life, .slice x.pa x.ps.length x.pc, .slice x.oa x.os.length x.oc] 43)
  exact ⟨by unfold World.cell?; rw [hh]; rfl, by unfold World.cell?; rw [hh]; rfl⟩
theorem below_dn {B : Nat} {w W : World} (h : Below B w W) (q : Nat) : Below B w (W.drewN q) := ⟨h.os, h.tape, h.output, h.size, h.block⟩

set_option maxHeartbeats 4000000 in
set_option maxRecDepth 100000 in
theorem shape_any (B : Nat) (x : It) (w : World) (hx : ItOk B w x) (hB : B ≤ w.heap.size) : Calls Tryz.prog 67 #[x.val] w fun e w' => e = .returned (.bool (okShape x.life x.ps)) ∧ Below w.heap.size w w' := by
  obtain ⟨c1, c2⟩ := box_cells w x
  have hb1 : Below w.heap.size w (w.alloc (.cells #[encStr x.code, .int .i64 x.life, .slice x.pa x.ps.length x.pc, .slice x.oa x.os.length x.oc] 43)) := (Below.refl _ w).alloc (Nat.le_refl _) _
  have hrp := (hx.rp.below (hb1.mono hB))
  unfold It.val
  obtain ⟨cd, hcd⟩ : ∃ v, v = encStr x.code := ⟨_, rfl⟩
  rw [← hcd] at c1 c2 hb1 hrp ⊢
  obtain ⟨W1, hW1⟩ : ∃ W, W = w.alloc (.cells #[cd, .int .i64 x.life, .slice x.pa x.ps.length x.pc, .slice x.oa x.os.length x.oc] 43) := ⟨_, rfl⟩
  rw [← hW1] at c1 c2 hb1 hrp
  have hle := hrp.le
  have hmx := hrp.mx
  have HP := Lib.hid hrp
  have B1 := Lib.hid hb1
  have HD : Hid (∀ q, Below w.heap.size w (W1.drewN q)) := Lib.hid (fun q => below_dn hb1 q)
  have hlo := hx.lo
  have hhi := hx.hi
  obtain ⟨gb, hgb⟩ : ∃ g, g = w.heap.size := ⟨_, rfl⟩
  rw [← hgb] at c1 c2
  clear hx hrp hb1 hcd
  go_enter Tryz.func67, Tryz.ntmps67
  go_upto_region 1 with (fail)
  rw [← hW1, ← hgb]
  have HG := Lib.hid hgb
  clear hW1 hgb
  obtain ⟨np, hnp⟩ : ∃ m, m = x.ps.length := ⟨_, rfl⟩
  obtain ⟨lf, hlf⟩ : ∃ m, m = x.life := ⟨_, rfl⟩
  rw [← hnp] at c2 hle
  rw [← hlf] at c1 hlo hhi
  have HNP := Lib.hid hnp
  have HLF := Lib.hid hlf
  clear hnp hlf
  by_cases h0 : np = 0
  · have e0 : ((np : Int) == 0) = true := by simp; omega
    have ho := Lib.hid (show okShape x.life x.ps = decide (1 ≤ lf ∧ lf ≤ 2000) by unfold okShape; rw [if_pos (by rw [← HNP.out]; exact h0), HLF.out])
    clear h0
    by_cases h1 : 1 ≤ lf
    · have e1 : decide (1 ≤ lf) = true := by simp; omega
      by_cases h2 : lf ≤ 2000
      · have e2 : decide (lf ≤ 2000) = true := by simp; omega
        have hf := Lib.hid (show decide (1 ≤ lf ∧ lf ≤ 2000) = true by simp; omega)
        clear h1 h2
        go_wp2_with (fail)
        go_ret
        exact ⟨by rw [ho.out, hf.out]; rfl, B1.out⟩
      · have e2 : decide (lf ≤ 2000) = false := by simp; omega
        have hf := Lib.hid (show decide (1 ≤ lf ∧ lf ≤ 2000) = false by simp; omega)
        clear h1 h2
        go_wp2_with (fail)
        go_ret
        exact ⟨by rw [ho.out, hf.out]; rfl, B1.out⟩
    · have e1 : decide (1 ≤ lf) = false := by simp; omega
      have hf := Lib.hid (show decide (1 ≤ lf ∧ lf ≤ 2000) = false by simp; omega)
      clear h1
      go_wp2_with (fail)
      go_ret
      exact ⟨by rw [ho.out, hf.out]; rfl, B1.out⟩
  · have e0 : ((np : Int) == 0) = false := by simp; omega
    have HNZ := Lib.hid (show x.ps.length ≠ 0 by rw [← HNP.out]; exact h0)
    clear h0
    have hbad := Lib.hid (fun (h : ¬ (lf = 0 ∧ np ≤ 8)) => show okShape x.life x.ps = false by unfold okShape; rw [if_neg HNZ.out, ← HLF.out, ← HNP.out, decide_eq_false h, Bool.false_and])
    by_cases h1 : lf = 0
    · have e1 : (lf == 0) = true := by simp; omega
      have e1' : (lf != 0) = false := by simp; omega
      have H1 := Lib.hid h1
      clear h1
      by_cases h2 : np ≤ 8
      · have e2 : decide ((8 : Int) < (np : Int)) = false := by simp; omega
        have H2 := Lib.hid h2
        clear h2
        go_wp2_with (fail)
        go_loopw [3] (fun s3 wr => ∃ i q : Nat, s3 = .int .i64 i ∧ i ≤ np ∧ wr = W1.drewN q ∧ Hid (∀ j, j < i → okPart x.ps j = true)) (fun s3 _ => np - (intOf s3).toNat)
        case atStart => exact ⟨0, 0, rfl, by omega, rfl, Lib.hid (fun j hj => absurd hj (Nat.not_lt_zero _))⟩
        case round =>
          obtain ⟨i, q, rfl, hi, rfl, hok⟩ := hrel
          by_cases hin : i < np
          · have t1 : decide ((i : Int) < (np : Int)) = true := by simp; omega
            have i0 : (0 : Int) ≤ (i : Int) := by omega
            have i1 : (i : Int) < (np : Int) := by omega
            have f1 : IntKind.i64.wrap ((i : Int) + 1) = ((i + 1 : Nat) : Int) := by rw [wrap_in (by omega) (by omega)]; omega
            have hin' : i < x.ps.length := by rw [← HNP.out]; exact hin
            obtain ⟨b, o, hpa, hbB, p0, p1⟩ := HP.out.part hin'
            have HIN := Lib.hid hin'
            clear hin'
            rw [hpa] at c2
            obtain ⟨pi, hpi⟩ : ∃ p, p = x.ps.getD i default := ⟨_, rfl⟩
            rw [← hpi] at p0 p1
            unfold encStr at p0
            have HPI := Lib.hid hpi
            have HPA := Lib.hid hpa
            clear hpi hpa
            obtain ⟨nm, qt⟩ := pi
            simp only at p0 p1
            by_cases hq1 : 1 ≤ qt
            · have e3 : decide (qt < 1) = false := by simp; omega
              by_cases hq2 : qt ≤ 1073741824
              · have e4 : decide ((1073741824 : Int) < qt) = false := by simp; omega
                have HQ1 := Lib.hid hq1
                have HQ2 := Lib.hid hq2
                clear hq1 hq2
                go_wp2_with (fail)
                go_loopw [4] (fun s4 wr => ∃ k q : Nat, s4 = .int .i64 k ∧ k ≤ i ∧ wr = W1.drewN q ∧ Hid (∀ j, j < k → (x.ps.getD j default).1 ≠ nm)) (fun s4 _ => i - (intOf s4).toNat)
                case atStart => exact ⟨0, q, rfl, by omega, rfl, Lib.hid (fun j hj => absurd hj (Nat.not_lt_zero _))⟩
                case round =>
                  obtain ⟨k, r, rfl, hk, rfl, hno⟩ := hrel
                  by_cases hkn : k < i
                  · have t2 : decide ((k : Int) < (i : Int)) = true := by simp; omega
                    have k0 : (0 : Int) ≤ (k : Int) := by omega
                    have k1 : (k : Int) < (np : Int) := by omega
                    have f2 : IntKind.i64.wrap ((k : Int) + 1) = ((k + 1 : Nat) : Int) := by rw [wrap_in (by omega) (by omega)]; omega
                    obtain ⟨b', o', hpa', -, r0, -⟩ := HP.out.part (i := k) (by have := HIN.out; omega)
                    rw [HPA.out] at hpa'
                    cases hpa'
                    obtain ⟨nk, hnk⟩ : ∃ z, z = (x.ps.getD k default).1 := ⟨_, rfl⟩
                    rw [← hnk] at r0
                    unfold encStr at r0
                    have HNK := Lib.hid hnk
                    clear hnk
                    by_cases hcc : nk = nm
                    · have e5 : (nk == nm) = true := by simpa using hcc
                      have ho := Lib.hid (okShape_no (life := x.life) HIN.out (okPart_twice hkn (by rw [← HNK.out, ← HPI.out]; exact hcc)))
                      clear hcc
                      go_wp2_with (fail)
                      go_big_quiet (fail)
                      go_wp2_with (fail)
                      go_ret
                      exact ⟨by rw [ho.out]; rfl, below_dn (HD.out r) _⟩
                    · have e5 : (nk == nm) = false := by simpa using hcc
                      have hn := Lib.hid (show (x.ps.getD k default).1 ≠ nm by rw [← HNK.out]; exact hcc)
                      clear hcc
                      go_wp2_with (fail)
                      go_big_quiet (fail)
                      go_wp2_with (fail)
                      go_roundw
                      case rel => exact ⟨k + 1, _, rfl, by omega, rfl, Lib.hid (fun j hj => if e : j < k then hno.out j e else by rw [show j = k by omega]; exact hn.out)⟩
                      case measure => simp only [intOf]; omega
                  · have t2 : decide ((k : Int) < (i : Int)) = false := by simp; omega
                    go_wp2_with (fail)
                    go_roundw
                    case rel => exact ⟨i + 1, r, rfl, by omega, rfl, Lib.hid (fun j hj => if e : j < i then hok.out j e else by
                      rw [show j = i by omega]
                      exact okPart_yes (by rw [← HPI.out]; exact HQ1.out) (by rw [← HPI.out]; exact HQ2.out) (fun m hm => by rw [← HPI.out]; exact hno.out m (by omega)))⟩
                    case measure => simp only [intOf]; omega
              · have e4 : decide ((1073741824 : Int) < qt) = true := by simp; omega
                have ho := Lib.hid (okShape_no (life := x.life) HIN.out (okPart_qty (by rw [← HPI.out]; simp; omega)))
                clear hq1 hq2
                go_wp2_with (fail)
                go_ret
                exact ⟨by rw [ho.out]; rfl, HD.out _⟩
            · have e3 : decide (qt < 1) = true := by simp; omega
              have ho := Lib.hid (okShape_no (life := x.life) HIN.out (okPart_qty (by rw [← HPI.out]; simp; omega)))
              clear hq1
              go_wp2_with (fail)
              go_ret
              exact ⟨by rw [ho.out]; rfl, HD.out _⟩
          · have t1 : decide ((i : Int) < (np : Int)) = false := by simp; omega
            have ho := Lib.hid (okShape_yes (life := x.life) HNZ.out (fun j hj => hok.out j (by have := HNP.out; omega)))
            go_wp2_with (fail)
            go_ret
            exact ⟨by rw [ho.out, decide_eq_true (by rw [← HLF.out, ← HNP.out]; exact ⟨H1.out, H2.out⟩)]; rfl, HD.out _⟩
      · have e2 : decide ((8 : Int) < (np : Int)) = true := by simp; omega
        have hf := Lib.hid (hbad.out (by omega))
        clear h2
        go_wp2_with (fail)
        go_ret
        exact ⟨by rw [hf.out]; rfl, B1.out⟩
    · have e1 : (lf == 0) = false := by simp; omega
      have e1' : (lf != 0) = true := by simp; omega
      have hf := Lib.hid (hbad.out (by omega))
      clear h1
      go_wp2_with (fail)
      go_ret
      exact ⟨by rw [hf.out]; rfl, B1.out⟩
end Go.Proofs.YthlmnoggeggpkaaGreat
namespace Go.Proofs.YthlmnoggeggpkaaGreat
open Go.RowKit

/-- The worlds in which all that stood in W stands as it stood. -/
structure BelowW (W : World) where
  v : World
  h : Below W.heap.size W v
instance (W : World) : Nonempty (BelowW W) := ⟨⟨W, Below.refl _ _⟩⟩
theorem wp_region_below {P : Program} {id : Nat} {Q : Exit → Act → World → Prop} {a : Act} {w : World} {l : List Oper} (W : World) (hm : P.follows .mixedOrders = true) (hB : Region.lexB .any l.toArray = true) (hW : Below W.heap.size W w)
    (h : wpQuiet P l.toArray (fun w' => ∃ x : BelowW W, w' = x.v) (fun a' => ∀ w', (∃ x : BelowW W, w' = x.v) → Q .normal a' w') l a) : (Code.region id l.toArray true).wp P Q a w := by
  simp only [Region.lexB, Bool.and_eq_true] at hB
  refine wp_region_any hm (wpAny_of_quiet (C := fun w' => ∃ x : BelowW W, w' = x.v) (Q' := Q) (Q := fun a' => ∀ w', (∃ x : BelowW W, w' = x.v) → Q .normal a' w') (fun _ w' hw' h => h w' hw') _ _ _ _ ⟨⟨_, hW.drew⟩, rfl⟩ ?_)
  have := wpAnyQ_lex (P := P) (C := fun w' => ∃ x : BelowW W, w' = x.v) (md := .any) hB.1 l.toArray.toList 0 (Array.replicate l.toArray.size false) a (by simp) (by simpa using hB.2) (by simpa using h)
  simpa using this
/-- A contract of the kind 'all that stood stands', at a call of such a region. -/
theorem below_call {P : Program} {f : FuncId} {args : Array Value} {W : World} {x : BelowW W} {v : Value} (h : Calls P f args x.v fun e w' => e = .returned v ∧ Below x.v.heap.size x.v w') : Calls P f args x.v fun e w' => e = .returned v ∧ ∃ y : BelowW W, w' = y.v :=
  h.mono fun _ w' ⟨he, hb⟩ => ⟨he, ⟨w', x.h.trans (hb.mono x.h.size)⟩, rfl⟩
theorem below_call_drew {P : Program} {f : FuncId} {args : Array Value} {W : World} {x : BelowW W} {v : Value} (h : Calls P f args x.v fun e w' => e = .returned v ∧ ∃ q, w' = x.v.drewN q) : Calls P f args x.v fun e w' => e = .returned v ∧ ∃ y : BelowW W, w' = y.v :=
  h.mono fun _ w' ⟨he, q, hq⟩ => ⟨he, ⟨w', by rw [hq]; exact below_dn x.h q⟩, rfl⟩
theorem below_call_same {P : Program} {f : FuncId} {args : Array Value} {W : World} {x : BelowW W} {v : Value} (h : Calls P f args x.v fun e w' => e = .returned v ∧ x.v = w') : Calls P f args x.v fun e w' => e = .returned v ∧ ∃ y : BelowW W, w' = y.v :=
  h.mono fun _ w' ⟨he, hq⟩ => ⟨he, x, hq.symm⟩
end Go.Proofs.YthlmnoggeggpkaaGreat
