/- The walk of the law's awake: the chapter's examples. -/
import Derived.Test.YtfonejlbiojjjaaGreatJJoin
import Derived.Test.YtfonejlbiojjjaaGreatJMul
import Derived.Test.YtfonejlbiojjjaaGreatJSame
namespace Go.Proofs.YtfonejlbiojjjaaGreat
open Go.RowKit Go.Shelf Go.Lib

theorem RP.lit (W : World) (P : List Pt) (t : TypeId) (hf : Fine P) (hn : P.length ≤ 1048576) : RP (W.heap.size + 1) (W.alloc (.cells (cellsP P).toArray t)) (some ⟨W.heap.size, 0, none⟩) P.length P.length P := by
  refine ⟨rfl, Nat.le_refl _, by omega, hf, fun _ => ⟨W.heap.size, 0, rfl, by omega, fun i hi => ?_⟩⟩
  have hat := cellsP_at P i hi
  simp only [World.cell?, (Go.MapKept.heap_alloc W _).1]
  simpa using hat
def tA : List UInt8 := [65]
def tB : List UInt8 := [66]

theorem join_ex (W : World) : Calls Tryz.prog 8 #[.slice (some ⟨W.heap.size + 1 + 1, 0, none⟩) 2 2]
    (((W.alloc (.cells #[.string ⟨#[66]⟩, .int .i64 2, .string ⟨#[65]⟩, .int .i64 1] 38)).alloc (.cells #[.string ⟨#[66]⟩, .int .i64 3] 38)).alloc
      (.cells #[.slice (some ⟨W.heap.size, 0, none⟩) 2 2, .slice (some ⟨W.heap.size + 1, 0, none⟩) 1 1] 22))
    fun e w' => Below W.heap.size W w' ∧ ∃ a' c', e = .returned (.tuple #[.slice a' 2 c', .bool true]) ∧ OP W.heap.size w' (.slice a' 2 c') [(tA, 1), (tB, 5)] := by
  have f1 : Fine [(tB, 2), (tA, 1)] := by intro p hp; simp at hp; rcases hp with rfl | rfl <;> simp [tA, tB]
  have f2 : Fine [(tB, 3)] := by intro p hp; simp at hp; subst hp; simp [tB]
  have r1 := RP.lit W [(tB, 2), (tA, 1)] 38 f1 (by simp)
  have r2 := RP.lit (W.alloc (.cells #[.string ⟨#[66]⟩, .int .i64 2, .string ⟨#[65]⟩, .int .i64 1] 38)) [(tB, 3)] 38 f2 (by simp)
  have e1 : (cellsP [(tB, 2), (tA, 1)]).toArray = #[.string ⟨#[66]⟩, .int .i64 2, .string ⟨#[65]⟩, .int .i64 1] := rfl
  have e2 : (cellsP [(tB, 3)]).toArray = #[.string ⟨#[66]⟩, .int .i64 3] := rfl
  rw [e1] at r1
  rw [e2] at r2
  obtain ⟨W1, h1⟩ : ∃ W1, W1 = W.alloc (.cells #[.string ⟨#[66]⟩, .int .i64 2, .string ⟨#[65]⟩, .int .i64 1] 38) := ⟨_, rfl⟩
  rw [← h1] at r1 r2 ⊢
  obtain ⟨W2, h2⟩ : ∃ W2, W2 = W1.alloc (.cells #[.string ⟨#[66]⟩, .int .i64 3] 38) := ⟨_, rfl⟩
  rw [← h2] at r2 ⊢
  obtain ⟨W3, h3⟩ : ∃ W3, W3 = W2.alloc (.cells #[.slice (some ⟨W.heap.size, 0, none⟩) 2 2, .slice (some ⟨W.heap.size + 1, 0, none⟩) 1 1] 22) := ⟨_, rfl⟩
  rw [← h3]
  have s1 : W1.heap.size = W.heap.size + 1 := by rw [h1]; simp
  have s2 : W2.heap.size = W.heap.size + 2 := by rw [h2]; simp [s1]
  have s3 : W3.heap.size = W.heap.size + 3 := by rw [h3]; simp [s2]
  have b1 : Below W.heap.size W W1 := by rw [h1]; exact (Below.refl _ _).alloc (Nat.le_refl _) _
  have b2 : Below W1.heap.size W1 W2 := by rw [h2]; exact (Below.refl _ _).alloc (Nat.le_refl _) _
  have b3 : Below W2.heap.size W2 W3 := by rw [h3]; exact (Below.refl _ _).alloc (Nat.le_refl _) _
  have hcell := (Go.MapKept.heap_alloc W2 (.cells #[.slice (some ⟨W.heap.size, 0, none⟩) 2 2, .slice (some ⟨W.heap.size + 1, 0, none⟩) 1 1] 22)).1
  rw [← h3] at hcell
  have rv : RV (W.heap.size + 3) W3 (some ⟨W.heap.size + 1 + 1, 0, none⟩) 2 2 [⟨some ⟨W.heap.size, 0, none⟩, 2, 2, [(tB, 2), (tA, 1)]⟩, ⟨some ⟨W.heap.size + 1, 0, none⟩, 1, 1, [(tB, 3)]⟩] := by
    refine ⟨rfl, Nat.le_refl _, by omega, fun _ => ⟨W.heap.size + 1 + 1, 0, rfl, by omega, fun i hi => ?_⟩, fun i hi => ?_⟩
    · rw [s2] at hcell
      rcases (show i = 0 ∨ i = 1 by omega) with rfl | rfl <;> simp only [World.cell?, hcell] <;> rfl
    · rcases (show i = 0 ∨ i = 1 by omega) with rfl | rfl
      · exact ((r1.below (by rw [← s1]; exact b2)).below ((b3.mono (by omega)))).mono (by omega)
      · rw [s1] at r2
        exact (r2.below (b3.mono (by omega))).mono (by omega)
  have hj := Join_any (H := Unit) _ _ _ _ _ _ rv (by omega) (by simp [flatV])
  refine hj.mono fun e w' h => ?_
  have e3 : joinL [] (flatV [⟨some ⟨W.heap.size, 0, none⟩, 2, 2, [(tB, 2), (tA, 1)]⟩, ⟨some ⟨W.heap.size + 1, 0, none⟩, 1, 1, [(tB, 3)]⟩]) = some [(tA, 1), (tB, 5)] := by
    show joinL [] [(tB, 2), (tA, 1), (tB, 3)] = _
    decide
  unfold JoinPost at h
  rw [e3] at h
  obtain ⟨h4, a', c', he, ho⟩ := h
  exact ⟨((b1.trans (b2.mono (by omega))).trans (b3.mono (by omega))).trans (h4.mono (by omega)), a', c', he, ho.mono (by omega)⟩
theorem same_ex (base : Nat) (a' : Option Addr) (c' : Nat) (W : World) (h : OP base W (.slice a' 2 c') [(tA, 1), (tB, 5)]) :
    Calls Tryz.prog 12 #[.slice a' 2 c', .slice (some ⟨W.heap.size, 0, none⟩) 2 2] (W.alloc (.cells #[.string ⟨#[65]⟩, .int .i64 1, .string ⟨#[66]⟩, .int .i64 5] 38))
    fun e w' => e = .returned (.bool true) ∧ ∃ q, w' = (W.alloc (.cells #[.string ⟨#[65]⟩, .int .i64 1, .string ⟨#[66]⟩, .int .i64 5] 38)).drewN q := by
  have f1 : Fine [(tA, 1), (tB, 5)] := by intro p hp; simp at hp; rcases hp with rfl | rfl <;> simp [tA, tB]
  have r1 := RP.lit W [(tA, 1), (tB, 5)] 38 f1 (by simp)
  obtain ⟨a2, c2, e, r2⟩ := h.rp f1
  cases e
  have r3 := (r2.below (w' := W.alloc (.cells #[.string ⟨#[65]⟩, .int .i64 1, .string ⟨#[66]⟩, .int .i64 5] 38)) ((Below.refl _ _).alloc (Nat.le_refl _) _)).mono (Nat.le_succ _)
  have := SameParts_any _ _ _ _ _ _ _ _ _ _ r3 r1
  rw [decide_eq_true rfl] at this
  exact this

set_option maxHeartbeats 4000000 in
theorem awake_any (w : World) : Calls Tryz.prog 6 #[] w fun e w' => e = .returned (.bool true) ∧ Below w.heap.size w w' := by
  have h1 : ∀ W, Calls Tryz.prog 18 #[.int .i64 1125899906842624, .int .i64 0] W fun e w' => e = .returned (.tuple #[.int .i64 1125899906842624, .bool true]) ∧ Below W.heap.size W w' := fun W => by
    have := Add_any 1125899906842624 0 W (by omega) (by omega)
    rw [show addA 1125899906842624 0 = some 1125899906842624 from by decide] at this
    exact this
  have h2 : ∀ W, Calls Tryz.prog 18 #[.int .i64 1125899906842624, .int .i64 1] W fun e w' => e = .returned (.tuple #[.int .i64 0, .bool false]) ∧ Below W.heap.size W w' := fun W => by
    have := Add_any 1125899906842624 1 W (by omega) (by omega)
    rw [show addA 1125899906842624 1 = none from by decide] at this
    exact this
  have h3 : ∀ W, Calls Tryz.prog 16 #[.int .i64 33554432, .int .i64 33554432] W fun e w' => e = .returned (.tuple #[.int .i64 1125899906842624, .bool true]) ∧ W = w' := fun W => by
    have := Times_any 33554432 33554432 W
    rw [show timesA 33554432 33554432 = some 1125899906842624 from by decide] at this
    exact this
  have h4 : ∀ W, Calls Tryz.prog 19 #[.int .i64 (-1)] W fun e w' => e = .returned (.bool false) ∧ W = w' := fun W => by
    have := Right_any (-1) W
    rw [show okA (-1) = false from by decide] at this
    exact this
  go_enter Tryz.func6, Tryz.ntmps6
  go_wp2_with (first | (go_at_call 18; first | (with_reducible refine (h1 _).mono ?_; rintro e w1 ⟨rfl, hb1⟩) | (with_reducible refine (h2 _).mono ?_; rintro e w2 ⟨rfl, hb2⟩)) | (go_at_call 16; refine (h3 _).mono ?_; rintro e w' ⟨rfl, rfl⟩) | (go_at_call 8; refine (join_ex _).mono ?_; rintro e w3 ⟨hb3, a', c', rfl, ho3⟩; have Ho3 := Lib.hid ho3; clear ho3) | (go_at_call 12; refine (same_ex _ _ _ _ Ho3.out).mono ?_; rintro e w4 ⟨rfl, q, rfl⟩) | (go_at_call 19; refine (h4 _).mono ?_; rintro e w' ⟨rfl, rfl⟩))
  go_ret
  have hq : ∀ {B : Nat} {a w : World}, Below B a w → ∀ n, Below B a (w.drewN n) := fun h n => h.trans ⟨rfl, rfl, rfl, Nat.le_refl _, fun _ _ => rfl⟩
  have h9 := hq ((Below.refl w3.heap.size w3).alloc (Nat.le_refl _) (.cells #[.string ⟨#[65]⟩, .int .i64 1, .string ⟨#[66]⟩, .int .i64 5] 38)) q
  exact ⟨rfl, ((hb1.trans (hb2.mono hb1.size)).trans (hb3.mono (by have := hb1.size; have := hb2.size; omega))).trans (h9.mono (by have := hb1.size; have := hb2.size; have := hb3.size; omega))⟩
end Go.Proofs.YtfonejlbiojjjaaGreat
