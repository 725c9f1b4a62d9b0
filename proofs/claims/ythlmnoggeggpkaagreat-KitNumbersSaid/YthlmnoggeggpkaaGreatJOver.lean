/- Plain Lean: where the document's Join lays a part. Lists of lists of parts that a call lays; parts of a list. A part set in own memory; the walk of storemankit.OverParts. -/
import Derived.Test.YthlmnoggeggpkaaGreatJBase
import Derived.Test.YthlmnoggeggpkaaGreatJJoin
import Derived.Test.YthlmnoggeggpkaaGreatKKeptI
import Derived.Test.YthlmnoggeggpkaaGreatJPureB
import Derived.Test.YthlmnoggeggpkaaGreatJParts
namespace Go.Proofs.YthlmnoggeggpkaaGreat

theorem setAt_found : ∀ {S : List Pt} {x : List UInt8} {at_ : Nat} (n : Int), at_ < S.length → (∀ j, j < at_ → (S.getD j default).1 < x) → (S.getD at_ default).1 = x → setAt S x n = S.set at_ (x, n) ∧ sumAt S x = (S.getD at_ default).2
  | [], x, at_, n, h, _, _ => by simp at h
  | p :: S, x, 0, n, _, _, he => by
    have he' : p.1 = x := he
    have hlt : ¬ p.1 < x := fun h => by rw [he'] at h; exact List.lt_irrefl _ h
    unfold setAt sumAt
    rw [if_neg hlt, if_pos he', if_pos he']
    exact ⟨rfl, rfl⟩
  | p :: S, x, at_ + 1, n, h, hl, he => by
    have h0 : p.1 < x := hl 0 (by omega)
    have ih := setAt_found (S := S) (x := x) (at_ := at_) n (by simpa using h) (fun j hj => hl (j + 1) (by omega)) he
    have hne : ¬ p.1 = x := fun e => by rw [e] at h0; exact List.lt_irrefl _ h0
    unfold setAt sumAt
    rw [if_pos h0, if_neg hne, ih.1, ih.2]
    exact ⟨rfl, rfl⟩
theorem setAt_ins : ∀ {S : List Pt} {x : List UInt8} {at_ : Nat} (n : Int), Up S → at_ ≤ S.length → (∀ j, j < at_ → (S.getD j default).1 < x) → (at_ < S.length → x < (S.getD at_ default).1) → setAt S x n = S.take at_ ++ (x, n) :: S.drop at_ ∧ sumAt S x = 0
  | [], x, at_, n, _, h, _, _ => by
    obtain rfl : at_ = 0 := by simpa using h
    exact ⟨rfl, rfl⟩
  | p :: S, x, 0, n, hu, _, _, hg => by
    have h0 : x < p.1 := hg (by simp)
    have hlt : ¬ p.1 < x := fun h => lt_asymm' h h0
    have hne : ¬ p.1 = x := fun e => by rw [e] at h0; exact List.lt_irrefl _ h0
    have hno : x ∉ S.map (·.1) := fun hk => by
      obtain ⟨q, hq, e⟩ := List.mem_map.1 hk
      have h1 := (List.pairwise_cons.1 hu.1).1 q hq
      have e' : q.1 = x := e
      rw [e'] at h1
      exact lt_asymm' h1 h0
    unfold setAt sumAt
    rw [if_neg hlt, if_neg hne, if_neg hne, sumAt_none hno]
    exact ⟨rfl, rfl⟩
  | p :: S, x, at_ + 1, n, hu, h, hl, hg => by
    have h0 : p.1 < x := hl 0 (by omega)
    have ih := setAt_ins (S := S) (x := x) (at_ := at_) n hu.tail (by simpa using h) (fun j hj => hl (j + 1) (by omega)) (fun hh => hg (by simpa using hh))
    have hne : ¬ p.1 = x := fun e => by rw [e] at h0; exact List.lt_irrefl _ h0
    unfold setAt sumAt
    rw [if_pos h0, if_neg hne, ih.1, ih.2]
    exact ⟨rfl, rfl⟩
theorem ins_at (S : List Pt) (x : List UInt8) (at_ : Nat) (h : at_ ≤ S.length) : (S.take at_ ++ [(x, 0)] ++ S.drop at_).length = S.length + 1 ∧ (S.take at_ ++ [(x, 0)] ++ S.drop at_).getD at_ default = (x, 0) ∧ ∀ n : Int, (S.take at_ ++ [(x, 0)] ++ S.drop at_).set at_ (x, n) = S.take at_ ++ (x, n) :: S.drop at_ := by
  have hl : (S.take at_).length = at_ := by rw [List.length_take]; omega
  refine ⟨by simp; omega, ?_, fun n => ?_⟩
  · rw [List.append_assoc, List.getD_eq_getElem?_getD, List.getElem?_append_right (by omega), hl, Nat.sub_self]
    simp
  · rw [List.append_assoc, List.set_append_right _ _ (by omega), hl, Nat.sub_self]
    simp
end Go.Proofs.YthlmnoggeggpkaaGreat
namespace Go.Proofs.YthlmnoggeggpkaaGreat
open Go.RowKit

theorem RP.nil (B : Nat) (w : World) : RP B w none 0 0 [] := ⟨rfl, Nat.le_refl _, by omega, (fun p hp => by cases hp), fun h => by omega⟩
theorem RP.emp (B : Nat) (w : World) (a : Option Addr) : RP B w a 0 0 [] := ⟨rfl, Nat.le_refl _, by omega, (fun p hp => by cases hp), fun h => by omega⟩
theorem RP.drop {B : Nat} {w : World} {b o n c : Nat} {P : List Pt} (h : RP B w (some ⟨b, o, none⟩) n c P) {k : Nat} (hk : k ≤ n) : RP B w (some ⟨b, if k = c then o else o + k * 2, none⟩) (n - k) (c - k) (P.drop k) := by
  refine ⟨by rw [List.length_drop, ← h.len], by have := h.le; omega, by have := h.mx; omega, fun p hp => h.fine p (List.mem_of_mem_drop hp), fun hc => ?_⟩
  obtain ⟨b', o', e, hB, hcell⟩ := h.at_ (by omega)
  cases e
  have hne : k ≠ c := by omega
  rw [if_neg hne]
  refine ⟨b, o + k * 2, rfl, hB, fun i hi => ?_⟩
  have := hcell (k + i) (by omega)
  have e2 : (P.drop k).getD i default = P.getD (k + i) default := by
    rw [List.getD_eq_getElem?_getD, List.getElem?_drop, List.getD_eq_getElem?_getD]
  rw [e2, show o + k * 2 + i * 2 = o + (k + i) * 2 by omega]
  exact this
theorem RP.drop' {B : Nat} {w : World} {b o n c : Nat} {P : List Pt} (h : RP B w (some ⟨b, o, none⟩) n c P) {k : Nat} (hk : k ≤ n) : RP B w (if c = k then some ⟨b, o, none⟩ else some ⟨b, o + k * 2, none⟩) (n - k) (c - k) (P.drop k) := by
  have := h.drop hk
  rw [show (if c = k then some (⟨b, o, none⟩ : Addr) else some ⟨b, o + k * 2, none⟩) = some ⟨b, if k = c then o else o + k * 2, none⟩ by
    by_cases e : c = k
    · rw [if_pos e, if_pos e.symm]
    · rw [if_neg e, if_neg (fun e2 => e e2.symm)]]
  exact this
theorem RV.one {B : Nat} {W : World} {a : Option Addr} {n c : Nat} {P : List Pt} (h : RP B W a n c P) (hB : B ≤ W.heap.size) : RV (W.heap.size + 1) (W.alloc (.cells #[.slice a n c] 26)) (some ⟨W.heap.size, 0, none⟩) 1 1 [⟨a, n, c, P⟩] := by
  refine ⟨rfl, Nat.le_refl _, by omega, fun _ => ⟨W.heap.size, 0, rfl, by omega, fun i hi => ?_⟩, fun i hi => ?_⟩
  · obtain rfl : i = 0 := by omega
    simp only [World.cell?, (Go.MapKept.heap_alloc W _).1]; rfl
  · obtain rfl : i = 0 := by omega
    exact (h.below ((Below.refl _ W).alloc hB _)).mono (by omega)
theorem RV.three {B : Nat} {W : World} {a0 a1 a2 : Option Addr} {n0 n1 n2 c0 c1 c2 : Nat} {P0 P1 P2 : List Pt} (h0 : RP B W a0 n0 c0 P0) (h1 : RP B W a1 n1 c1 P1) (h2 : RP B W a2 n2 c2 P2) (hB : B ≤ W.heap.size) :
    RV (W.heap.size + 1) (W.alloc (.cells #[.slice a0 n0 c0, .slice a1 n1 c1, .slice a2 n2 c2] 26)) (some ⟨W.heap.size, 0, none⟩) 3 3 [⟨a0, n0, c0, P0⟩, ⟨a1, n1, c1, P1⟩, ⟨a2, n2, c2, P2⟩] := by
  refine ⟨rfl, Nat.le_refl _, by omega, fun _ => ⟨W.heap.size, 0, rfl, by omega, fun i hi => ?_⟩, fun i hi => ?_⟩
  · rcases (show i = 0 ∨ i = 1 ∨ i = 2 by omega) with rfl | rfl | rfl <;> simp only [World.cell?, (Go.MapKept.heap_alloc W _).1] <;> rfl
  · rcases (show i = 0 ∨ i = 1 ∨ i = 2 by omega) with rfl | rfl | rfl
    · exact (h0.below ((Below.refl _ W).alloc hB _)).mono (by omega)
    · exact (h1.below ((Below.refl _ W).alloc hB _)).mono (by omega)
    · exact (h2.below ((Below.refl _ W).alloc hB _)).mono (by omega)
theorem JoinPost.shift {W W1 w' : World} {T : Option (List Pt)} {e : Ending} (h : JoinPost W1 T e w') (hb : Below W.heap.size W W1) : JoinPost W T e w' := by
  cases T with
  | none => exact ⟨hb.trans (h.1.mono hb.size), h.2⟩
  | some S =>
    obtain ⟨h1, a', c', he, ho⟩ := h
    exact ⟨hb.trans (h1.mono hb.size), a', c', he, ho.mono hb.size⟩
/-- Join of one list, of three. -/
theorem join_one {B : Nat} {W : World} {a : Option Addr} {n c : Nat} {P : List Pt} (h : RP B W a n c P) (hB : B ≤ W.heap.size) (ht : P.length ≤ 1048576) :
    Calls Tryz.prog 29 #[.slice (some ⟨W.heap.size, 0, none⟩) 1 1] (W.alloc (.cells #[.slice a n c] 26)) fun e w' => JoinPost W (joinL [] P) e w' := by
  have e : flatV [⟨a, n, c, P⟩] = P := by simp [flatV]
  have := Join_any (H := Unit) _ _ _ _ _ _ (RV.one h hB) (by simp) (by rw [e]; exact ht)
  rw [e] at this
  exact this.mono fun e w' h => h.shift ((Below.refl _ W).alloc (Nat.le_refl _) _)
theorem join_three {B : Nat} {W : World} {a0 a1 a2 : Option Addr} {n0 n1 n2 c0 c1 c2 : Nat} {P0 P1 P2 : List Pt} (h0 : RP B W a0 n0 c0 P0) (h1 : RP B W a1 n1 c1 P1) (h2 : RP B W a2 n2 c2 P2) (hB : B ≤ W.heap.size) (ht : (P0 ++ P1 ++ P2).length ≤ 1048576) :
    Calls Tryz.prog 29 #[.slice (some ⟨W.heap.size, 0, none⟩) 3 3] (W.alloc (.cells #[.slice a0 n0 c0, .slice a1 n1 c1, .slice a2 n2 c2] 26)) fun e w' => JoinPost W (joinL [] (P0 ++ P1 ++ P2)) e w' := by
  have e : flatV [⟨a0, n0, c0, P0⟩, ⟨a1, n1, c1, P1⟩, ⟨a2, n2, c2, P2⟩] = P0 ++ P1 ++ P2 := by simp [flatV]
  have := Join_any (H := Unit) _ _ _ _ _ _ (RV.three h0 h1 h2 hB) (by simp) (by rw [e]; exact ht)
  rw [e] at this
  exact this.mono fun e w' h => h.shift ((Below.refl _ W).alloc (Nat.le_refl _) _)
end Go.Proofs.YthlmnoggeggpkaaGreat
namespace Go.Proofs.YthlmnoggeggpkaaGreat
open Go.RowKit

theorem OP.at_ {base g n c : Nat} {w : World} {P : List Pt} (h : OP base w (.slice (some ⟨g, 0, none⟩) n c) P) {i : Nat} (hi : i < P.length) :
    (w.cell? ⟨g, i * 2, none⟩ = some (encStr (P.getD i default).1) ∧ w.cell? ⟨g, i * 2 + 1, none⟩ = some (.int .i64 (P.getD i default).2)) ∧ w.frozen? ⟨g, i * 2, none⟩ = false ∧ w.frozen? ⟨g, i * 2 + 1, none⟩ = false := by
  obtain ⟨h1, ⟨h2, -⟩ | ⟨g', cap, cur, hv, hg, hh, hle, hcap, hsz, htk⟩⟩ := h
  · cases h2
  · cases hv
    have hat := cellsP_at P i hi
    rw [← htk] at hat
    rw [List.getElem?_take, if_pos (by omega), List.getElem?_take, if_pos (by omega)] at hat
    refine ⟨?_, ?_, ?_⟩
    · simp only [World.cell?, hh, Option.isSome_none, Bool.false_eq_true, if_false]
      simpa using hat
    · simp [World.frozen?, hh]
    · simp [World.frozen?, hh]
theorem cellsP_set : ∀ (P : List Pt) (i : Nat) (p : Pt), i < P.length → cellsP (P.set i p) = ((cellsP P).set (i * 2) (encStr p.1)).set (i * 2 + 1) (.int .i64 p.2)
  | [], i, p, h => by simp at h
  | q :: P, 0, p, _ => by simp [cellsP, encP]
  | q :: P, i + 1, p, h => by
    have ih := cellsP_set P i p (by simpa using h)
    have e : ∀ (r : Pt) (R : List Pt), cellsP (r :: R) = encStr r.1 :: Value.int .i64 r.2 :: cellsP R := fun r R => rfl
    rw [List.set_cons_succ, e, e, ih, show (i + 1) * 2 = i * 2 + 1 + 1 by omega]
    simp
theorem OP.set {base g n c : Nat} {w : World} {P : List Pt} (h : OP base w (.slice (some ⟨g, 0, none⟩) n c) P) {i : Nat} (hi : i < P.length) (p : Pt) :
    OP base ((w.setCell ⟨g, i * 2, none⟩ (encStr p.1)).setCell ⟨g, i * 2 + 1, none⟩ (.int .i64 p.2)) (.slice (some ⟨g, 0, none⟩) n c) (P.set i p) := by
  obtain ⟨h1, ⟨h2, -⟩ | ⟨g', cap, cur, hv, hg, hh, hle, hcap, hsz, htk⟩⟩ := h
  · cases h2
  · cases hv
    have e1 := heap_setCell_same w g (i * 2) cur 45 (encStr p.1) hh
    have e2 := heap_setCell_same _ g (i * 2 + 1) _ 45 (.int .i64 p.2) e1
    refine ⟨by rw [cellsP_len], .inr ⟨g, _, _, by rw [List.length_set], hg, e2, by rw [List.length_set]; exact hle, hcap, by simp [hsz], ?_⟩⟩
    rw [cellsP_set P i p hi, List.length_set, ← htk]
    simp only [Array.toList_setIfInBounds]
    rw [List.take_set, List.take_set]
theorem OP.some_len {base g n c : Nat} {w : World} {P : List Pt} (h : OP base w (.slice (some ⟨g, 0, none⟩) n c) P) : n = P.length ∧ n ≤ c ∧ c ≤ 9223372036854775807 := by
  obtain ⟨g', vc, e, hle, hmx⟩ := h.form (fun e => by cases e)
  cases e
  exact ⟨rfl, hle, hmx⟩
theorem grown_set (w : World) (g i j : Nat) (u v : Value) : w.grownBy ((w.setCell ⟨g, i, none⟩ u).setCell ⟨g, j, none⟩ v) (some g) :=
  ⟨rfl, rfl, rfl, by simp [World.setCell], fun k _ hne => by
    have h : k ≠ g := fun e => hne (by rw [e])
    rw [Below.heap_setCell _ _ _ _ h, Below.heap_setCell _ _ _ _ h]⟩

set_option maxHeartbeats 2000000 in
theorem OverParts_any (base g n c : Nat) (P : List Pt) (w : World) (ho : OP base w (.slice (some ⟨g, 0, none⟩) (n + 12) c) P) (hn : n ≤ 100000) :
    Calls Tryz.prog 64 #[.slice (some ⟨g, 0, none⟩) n c] w fun e w' => e = .returned (.tuple #[]) ∧ w.grownBy w' (some g) := by
  obtain ⟨hl, hle, hmx⟩ := ho.some_len
  have Ho := Lib.hid ho
  have Hl := Lib.hid hl
  clear ho hl
  have q1 : (n : Int) + 12 ≤ (c : Int) := by omega
  have q2 := wrap_in (x := (n : Int) + 12) (by omega) (by omega)
  go_enter Tryz.func64, Tryz.ntmps64
  go_wp2_with (fail)
  go_loopw [3] (fun i wr => ∃ (j : Nat) (Q : List Pt), j ≤ n + 12 ∧ i = .int .i64 j ∧ Hid (Q.length = n + 12) ∧ Hid (OP base wr (.slice (some ⟨g, 0, none⟩) (n + 12) c) Q) ∧ Hid (w.grownBy wr (some g))) (fun i _ => n + 12 - (intOf i).toNat)
  case atStart => exact ⟨0, P, by omega, rfl, Lib.hid Hl.out.symm, Ho, Lib.hid ⟨rfl, rfl, rfl, Nat.le_refl _, fun _ _ _ => rfl⟩⟩
  case round =>
    obtain ⟨j, Q, hj, rfl, HQ, HO, HG⟩ := hrel
    by_cases hlt : j < n + 12
    · have hmk := fun W => markPart_any 2 j W (by omega) (by omega)
      generalize markN 2 j = m at hmk
      go_wp2_with (go_at_call 93; refine (hmk _).mono ?_; rintro e wm ⟨rfl, hbm⟩; have HOm := Lib.hid (HO.out.below hbm); have HGm := Lib.hid (World.grownBy.mk (hbm.os.trans HG.out.os) (hbm.tape.trans HG.out.tape) (hbm.output.trans HG.out.output) (Nat.le_trans HG.out.size hbm.size) (fun k hk hne => (hbm.block k (Nat.lt_of_lt_of_le hk HG.out.size)).trans (HG.out.block k hk hne)) : w.grownBy wm (some g)); obtain ⟨⟨c1, c2⟩, f1, f2⟩ := HOm.out.at_ (i := j) (by have := HQ.out; omega); clear hbm)
      exact ⟨⟨j + 1, Q.set j ([], (m : Int)), by omega, by simp, Lib.hid (by rw [List.length_set]; exact HQ.out), Lib.hid (HOm.out.set (i := j) (by have := HQ.out; omega) ([], (m : Int))), Lib.hid (World.grownBy.mk ((grown_set wm g _ _ _ _).os.trans HGm.out.os) ((grown_set wm g (j * 2) (j * 2 + 1) _ _).tape.trans HGm.out.tape) ((grown_set wm g (j * 2) (j * 2 + 1) _ _).output.trans HGm.out.output) (Nat.le_trans HGm.out.size (grown_set wm g (j * 2) (j * 2 + 1) _ _).size) (fun k hk hne => ((grown_set wm g (j * 2) (j * 2 + 1) _ _).block k (Nat.lt_of_lt_of_le hk HGm.out.size) hne).trans (HGm.out.block k hk hne)))⟩, by simp [intOf]; omega⟩
    · go_wp2_with (fail)
      go_end0
      exact ⟨rfl, HG.out⟩
end Go.Proofs.YthlmnoggeggpkaaGreat
