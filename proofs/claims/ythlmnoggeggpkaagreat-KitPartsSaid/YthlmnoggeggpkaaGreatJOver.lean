/- A part set in own memory; the walk of storemankit.OverParts. -/
import Derived.Test.YthlmnoggeggpkaaGreatJParts
namespace Go.Proofs.YthlmnoggeggpkaaGreat
open Go.RowKit

theorem OP.at_ {base g n c : Nat} {w : World} {P : List Pt} (h : OP base w (.slice (some ⟨g, 0, none⟩) n c) P) {i : Nat} (hi : i < P.length) :
    (w.cell? ⟨g, i * 2, none⟩ = some (encStr (P.getD i default).1) ∧ w.cell? ⟨g, i * 2 + 1, none⟩ = some (.int .i64 (P.getD i default).2)) ∧ w.frozen? ⟨g, i * 2, none⟩ = false ∧ w.frozen? ⟨g, i * 2 + 1, none⟩ = false := by
  obtain ⟨h1, ⟨h2, -⟩ | ⟨g', cap, cur, hv, hg, hh, hle, hcap, hsz, htk⟩⟩ := h
  · cases h2
  · cases hv
    have hat := cellsP_at P i hi
    rw [← htk] at hat
    rw [List.getElem?_take, if_pos (by omega), List.getElem?_take, if_pos (by omega)] at hat
    refine ⟨?_, ?_, ?_⟩
    · simp only [World.cell?, hh, Option.isSome_none, Bool.false_eq_true, if_false]
      simpa using hat
    · simp [World.frozen?, hh]
    · simp [World.frozen?, hh]
theorem cellsP_set : ∀ (P : List Pt) (i : Nat) (p : Pt), i < P.length → cellsP (P.set i p) = ((cellsP P).set (i * 2) (encStr p.1)).set (i * 2 + 1) (.int .i64 p.2)
  | [], i, p, h => by simp at h
  | q :: P, 0, p, _ => by simp [cellsP, encP]
  | q :: P, i + 1, p, h => by
    have ih := cellsP_set P i p (by simpa using h)
    have e : ∀ (r : Pt) (R : List Pt), cellsP (r :: R) = encStr r.1 :: Value.int .i64 r.2 :: cellsP R := fun r R => rfl
    rw [List.set_cons_succ, e, e, ih, show (i + 1) * 2 = i * 2 + 1 + 1 by omega]
    simp
theorem OP.set {base g n c : Nat} {w : World} {P : List Pt} (h : OP base w (.slice (some ⟨g, 0, none⟩) n c) P) {i : Nat} (hi : i < P.length) (p : Pt) :
    OP base ((w.setCell ⟨g, i * 2, none⟩ (encStr p.1)).setCell ⟨g, i * 2 + 1, none⟩ (.int .i64 p.2)) (.slice (some ⟨g, 0, none⟩) n c) (P.set i p) := by
  obtain ⟨h1, ⟨h2, -⟩ | ⟨g', cap, cur, hv, hg, hh, hle, hcap, hsz, htk⟩⟩ := h
  · cases h2
  · cases hv
    have e1 := heap_setCell_same w g (i * 2) cur 45 (encStr p.1) hh
    have e2 := heap_setCell_same _ g (i * 2 + 1) _ 45 (.int .i64 p.2) e1
    refine ⟨by rw [cellsP_len], .inr ⟨g, _, _, by rw [List.length_set], hg, e2, by rw [List.length_set]; exact hle, hcap, by simp [hsz], ?_⟩⟩
    rw [cellsP_set P i p hi, List.length_set, ← htk]
    simp only [Array.toList_setIfInBounds]
    rw [List.take_set, List.take_set]
theorem OP.some_len {base g n c : Nat} {w : World} {P : List Pt} (h : OP base w (.slice (some ⟨g, 0, none⟩) n c) P) : n = P.length ∧ n ≤ c ∧ c ≤ 9223372036854775807 := by
  obtain ⟨g', vc, e, hle, hmx⟩ := h.form (fun e => by cases e)
  cases e
  exact ⟨rfl, hle, hmx⟩
theorem grown_set (w : World) (g i j : Nat) (u v : Value) : w.grownBy ((w.setCell ⟨g, i, none⟩ u).setCell ⟨g, j, none⟩ v) (some g) :=
  ⟨rfl, rfl, rfl, by simp [World.setCell], fun k _ hne => by
    have h : k ≠ g := fun e => hne (by rw [e])
    rw [Below.heap_setCell _ _ _ _ h, Below.heap_setCell _ _ _ _ h]⟩

set_option maxHeartbeats 2000000 in
theorem OverParts_any (base g n c : Nat) (P : List Pt) (w : World) (ho : OP base w (.slice (some ⟨g, 0, none⟩) (n + 12) c) P) (hn : n ≤ 100000) :
    Calls Tryz.prog 64 #[.slice (some ⟨g, 0, none⟩) n c] w fun e w' => e = .returned (.tuple #[]) ∧ w.grownBy w' (some g) := by
  obtain ⟨hl, hle, hmx⟩ := ho.some_len
  have Ho := Lib.hid ho
  have Hl := Lib.hid hl
  clear ho hl
  have q1 : (n : Int) + 12 ≤ (c : Int) := by omega
  have q2 := wrap_in (x := (n : Int) + 12) (by omega) (by omega)
  go_enter Tryz.func64, Tryz.ntmps64
  go_wp2_with (fail)
  go_loopw [3] (fun i wr => ∃ (j : Nat) (Q : List Pt), j ≤ n + 12 ∧ i = .int .i64 j ∧ Hid (Q.length = n + 12) ∧ Hid (OP base wr (.slice (some ⟨g, 0, none⟩) (n + 12) c) Q) ∧ Hid (w.grownBy wr (some g))) (fun i _ => n + 12 - (intOf i).toNat)
  case atStart => exact ⟨0, P, by omega, rfl, Lib.hid Hl.out.symm, Ho, Lib.hid ⟨rfl, rfl, rfl, Nat.le_refl _, fun _ _ _ => rfl⟩⟩
  case round =>
    obtain ⟨j, Q, hj, rfl, HQ, HO, HG⟩ := hrel
    by_cases hlt : j < n + 12
    · have hmk := fun W => markPart_any 2 j W (by omega) (by omega)
      generalize markN 2 j = m at hmk
      go_wp2_with (go_at_call 93; refine (hmk _).mono ?_; rintro e wm ⟨rfl, hbm⟩; have HOm := Lib.hid (HO.out.below hbm); have HGm := Lib.hid (World.grownBy.mk (hbm.os.trans HG.out.os) (hbm.tape.trans HG.out.tape) (hbm.output.trans HG.out.output) (Nat.le_trans HG.out.size hbm.size) (fun k hk hne => (hbm.block k (Nat.lt_of_lt_of_le hk HG.out.size)).trans (HG.out.block k hk hne)) : w.grownBy wm (some g)); obtain ⟨⟨c1, c2⟩, f1, f2⟩ := HOm.out.at_ (i := j) (by have := HQ.out; omega); clear hbm)
      exact ⟨⟨j + 1, Q.set j ([], (m : Int)), by omega, by simp, Lib.hid (by rw [List.length_set]; exact HQ.out), Lib.hid (HOm.out.set (i := j) (by have := HQ.out; omega) ([], (m : Int))), Lib.hid (World.grownBy.mk ((grown_set wm g _ _ _ _).os.trans HGm.out.os) ((grown_set wm g (j * 2) (j * 2 + 1) _ _).tape.trans HGm.out.tape) ((grown_set wm g (j * 2) (j * 2 + 1) _ _).output.trans HGm.out.output) (Nat.le_trans HGm.out.size (grown_set wm g (j * 2) (j * 2 + 1) _ _).size) (fun k hk hne => ((grown_set wm g (j * 2) (j * 2 + 1) _ _).block k (Nat.lt_of_lt_of_le hk HGm.out.size) hne).trans (HGm.out.block k hk hne)))⟩, by simp [intOf]; omega⟩
    · go_wp2_with (fail)
      go_end0
      exact ⟨rfl, HG.out⟩
end Go.Proofs.YthlmnoggeggpkaaGreat
