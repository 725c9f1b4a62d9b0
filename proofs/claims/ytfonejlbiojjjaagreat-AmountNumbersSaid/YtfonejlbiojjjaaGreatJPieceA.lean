/- Lists of lists of parts that a call lays; parts of a list. -/
import Derived.Test.YtfonejlbiojjjaaGreatJGreat
import Derived.Test.YtfonejlbiojjjaaGreatJAwake
import Derived.Test.YtfonejlbiojjjaaGreatJPureB
namespace Go.Proofs.YtfonejlbiojjjaaGreat
open Go.RowKit

theorem RP.nil (B : Nat) (w : World) : RP B w none 0 0 [] := ⟨rfl, Nat.le_refl _, by omega, (fun p hp => by cases hp), fun h => by omega⟩
theorem RP.emp (B : Nat) (w : World) (a : Option Addr) : RP B w a 0 0 [] := ⟨rfl, Nat.le_refl _, by omega, (fun p hp => by cases hp), fun h => by omega⟩
theorem RP.take {B : Nat} {w : World} {a : Option Addr} {n c : Nat} {P : List Pt} (h : RP B w a n c P) {k : Nat} (hk : k ≤ n) : RP B w a k c (P.take k) := by
  refine ⟨by rw [List.length_take, ← h.len]; omega, Nat.le_trans hk h.le, h.mx, fun p hp => h.fine p (List.mem_of_mem_take hp), fun hc => ?_⟩
  obtain ⟨b, o, e, hB, hcell⟩ := h.at_ hc
  refine ⟨b, o, e, hB, fun i hi => ?_⟩
  have := hcell i (by omega)
  have e2 : (P.take k).getD i default = P.getD i default := by
    rw [List.getD_eq_getElem?_getD, List.getElem?_take, if_pos hi, List.getD_eq_getElem?_getD]
  rw [e2]; exact this
theorem RP.drop {B : Nat} {w : World} {b o n c : Nat} {P : List Pt} (h : RP B w (some ⟨b, o, none⟩) n c P) {k : Nat} (hk : k ≤ n) : RP B w (some ⟨b, if k = c then o else o + k * 2, none⟩) (n - k) (c - k) (P.drop k) := by
  refine ⟨by rw [List.length_drop, ← h.len], by have := h.le; omega, by have := h.mx; omega, fun p hp => h.fine p (List.mem_of_mem_drop hp), fun hc => ?_⟩
  obtain ⟨b', o', e, hB, hcell⟩ := h.at_ (by omega)
  cases e
  have hne : k ≠ c := by omega
  rw [if_neg hne]
  refine ⟨b, o + k * 2, rfl, hB, fun i hi => ?_⟩
  have := hcell (k + i) (by omega)
  have e2 : (P.drop k).getD i default = P.getD (k + i) default := by
    rw [List.getD_eq_getElem?_getD, List.getElem?_drop, List.getD_eq_getElem?_getD]
  rw [e2, show o + k * 2 + i * 2 = o + (k + i) * 2 by omega]
  exact this
theorem RP.drop' {B : Nat} {w : World} {b o n c : Nat} {P : List Pt} (h : RP B w (some ⟨b, o, none⟩) n c P) {k : Nat} (hk : k ≤ n) : RP B w (if c = k then some ⟨b, o, none⟩ else some ⟨b, o + k * 2, none⟩) (n - k) (c - k) (P.drop k) := by
  have := h.drop hk
  rw [show (if c = k then some (⟨b, o, none⟩ : Addr) else some ⟨b, o + k * 2, none⟩) = some ⟨b, if k = c then o else o + k * 2, none⟩ by
    by_cases e : c = k
    · rw [if_pos e, if_pos e.symm]
    · rw [if_neg e, if_neg (fun e2 => e e2.symm)]]
  exact this
theorem RV.one {B : Nat} {W : World} {a : Option Addr} {n c : Nat} {P : List Pt} (h : RP B W a n c P) (hB : B ≤ W.heap.size) : RV (W.heap.size + 1) (W.alloc (.cells #[.slice a n c] 22)) (some ⟨W.heap.size, 0, none⟩) 1 1 [⟨a, n, c, P⟩] := by
  refine ⟨rfl, Nat.le_refl _, by omega, fun _ => ⟨W.heap.size, 0, rfl, by omega, fun i hi => ?_⟩, fun i hi => ?_⟩
  · obtain rfl : i = 0 := by omega
    simp only [World.cell?, (Go.MapKept.heap_alloc W _).1]; rfl
  · obtain rfl : i = 0 := by omega
    exact (h.below ((Below.refl _ W).alloc hB _)).mono (by omega)
theorem RV.three {B : Nat} {W : World} {a0 a1 a2 : Option Addr} {n0 n1 n2 c0 c1 c2 : Nat} {P0 P1 P2 : List Pt} (h0 : RP B W a0 n0 c0 P0) (h1 : RP B W a1 n1 c1 P1) (h2 : RP B W a2 n2 c2 P2) (hB : B ≤ W.heap.size) :
    RV (W.heap.size + 1) (W.alloc (.cells #[.slice a0 n0 c0, .slice a1 n1 c1, .slice a2 n2 c2] 22)) (some ⟨W.heap.size, 0, none⟩) 3 3 [⟨a0, n0, c0, P0⟩, ⟨a1, n1, c1, P1⟩, ⟨a2, n2, c2, P2⟩] := by
  refine ⟨rfl, Nat.le_refl _, by omega, fun _ => ⟨W.heap.size, 0, rfl, by omega, fun i hi => ?_⟩, fun i hi => ?_⟩
  · rcases (show i = 0 ∨ i = 1 ∨ i = 2 by omega) with rfl | rfl | rfl <;> simp only [World.cell?, (Go.MapKept.heap_alloc W _).1] <;> rfl
  · rcases (show i = 0 ∨ i = 1 ∨ i = 2 by omega) with rfl | rfl | rfl
    · exact (h0.below ((Below.refl _ W).alloc hB _)).mono (by omega)
    · exact (h1.below ((Below.refl _ W).alloc hB _)).mono (by omega)
    · exact (h2.below ((Below.refl _ W).alloc hB _)).mono (by omega)
theorem JoinPost.shift {W W1 w' : World} {T : Option (List Pt)} {e : Ending} (h : JoinPost W1 T e w') (hb : Below W.heap.size W W1) : JoinPost W T e w' := by
  cases T with
  | none => exact ⟨hb.trans (h.1.mono hb.size), h.2⟩
  | some S =>
    obtain ⟨h1, a', c', he, ho⟩ := h
    exact ⟨hb.trans (h1.mono hb.size), a', c', he, ho.mono hb.size⟩
/-- Join of one list, of three. -/
theorem join_one {B : Nat} {W : World} {a : Option Addr} {n c : Nat} {P : List Pt} (h : RP B W a n c P) (hB : B ≤ W.heap.size) (ht : P.length ≤ 1048576) :
    Calls Tryz.prog 8 #[.slice (some ⟨W.heap.size, 0, none⟩) 1 1] (W.alloc (.cells #[.slice a n c] 22)) fun e w' => JoinPost W (joinL [] P) e w' := by
  have e : flatV [⟨a, n, c, P⟩] = P := by simp [flatV]
  have := Join_any (H := Unit) _ _ _ _ _ _ (RV.one h hB) (by simp) (by rw [e]; exact ht)
  rw [e] at this
  exact this.mono fun e w' h => h.shift ((Below.refl _ W).alloc (Nat.le_refl _) _)
theorem join_three {B : Nat} {W : World} {a0 a1 a2 : Option Addr} {n0 n1 n2 c0 c1 c2 : Nat} {P0 P1 P2 : List Pt} (h0 : RP B W a0 n0 c0 P0) (h1 : RP B W a1 n1 c1 P1) (h2 : RP B W a2 n2 c2 P2) (hB : B ≤ W.heap.size) (ht : (P0 ++ P1 ++ P2).length ≤ 1048576) :
    Calls Tryz.prog 8 #[.slice (some ⟨W.heap.size, 0, none⟩) 3 3] (W.alloc (.cells #[.slice a0 n0 c0, .slice a1 n1 c1, .slice a2 n2 c2] 22)) fun e w' => JoinPost W (joinL [] (P0 ++ P1 ++ P2)) e w' := by
  have e : flatV [⟨a0, n0, c0, P0⟩, ⟨a1, n1, c1, P1⟩, ⟨a2, n2, c2, P2⟩] = P0 ++ P1 ++ P2 := by simp [flatV]
  have := Join_any (H := Unit) _ _ _ _ _ _ (RV.three h0 h1 h2 hB) (by simp) (by rw [e]; exact ht)
  rw [e] at this
  exact this.mono fun e w' h => h.shift ((Below.refl _ W).alloc (Nat.le_refl _) _)
theorem great_one {B : Nat} {W : World} {a : Option Addr} {n c : Nat} {P : List Pt} (h : RP B W a n c P) (hB : B ≤ W.heap.size) (hn : n ≤ 140737488355328) (ht : ∀ p ∈ P, p.1.length ≤ 140737488355328) :
    Calls Tryz.prog 5 #[.slice (some ⟨W.heap.size, 0, none⟩) 1 1] (W.alloc (.cells #[.slice a n c] 22)) fun e w' => (∃ gr, e = .returned (.bool gr) ∧ (gr = false → n ≤ 300)) ∧ W.alloc (.cells #[.slice a n c] 22) = w' := by
  have e : flatV [⟨a, n, c, P⟩] = P := by simp [flatV]
  refine (great_any _ _ _ _ _ _ (RV.one h hB) (fun i hi => ?_)).mono fun e' w' ⟨⟨gr, he, hg⟩, hw⟩ => ⟨⟨gr, he, fun h2 => by have := hg h2; rw [e, ← h.len] at this; exact this⟩, hw⟩
  obtain rfl : i = 0 := by simpa using hi
  exact ⟨hn, ht⟩
/-- Is the part found, with as much? -/
def fnd (S : List Pt) (p : Pt) : Bool := S.any fun q => decide (q.1 = p.1) && decide (p.2 ≤ q.2)
theorem fnd_take {S : List Pt} {m : Nat} (h : m < S.length) (p : Pt) : fnd (S.take (m + 1)) p = (fnd (S.take m) p || (decide ((S.getD m default).1 = p.1) && decide (p.2 ≤ (S.getD m default).2))) := by
  unfold fnd
  rw [List.take_succ_eq_append_getElem h, List.any_append, List.getD_eq_getElem?_getD, List.getElem?_eq_getElem h]
  simp
theorem fnd_all {L S : List Pt} (h : joinL [] L = some S) {p : Pt} (hp : p ∈ L) : fnd S p = true := by
  obtain ⟨q, hq, h1, h2⟩ := joinL_found h hp
  exact List.any_eq_true.2 ⟨q, hq, by simp [h1, h2]⟩
end Go.Proofs.YtfonejlbiojjjaaGreat
