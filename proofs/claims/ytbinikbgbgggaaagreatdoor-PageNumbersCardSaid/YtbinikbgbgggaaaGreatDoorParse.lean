/- Every right page is a head and rows. -/
import Derived.Test.YtbinikbgbgggaaaGreatDoorPure3
import Derived.Test.YtbinikbgbgggaaaGreatDoorKeepC
namespace Go.Proofs.YtbinikbgbgggaaaGreatDoor
open Go.RowKit Go.Shelf

theorem tl_nil {x : UInt8} : ∀ {l : List UInt8}, tl x l = [] → ∀ y ∈ l, y = x
  | [], _, y, hy => by cases hy
  | z :: l, h, y, hy => by
    unfold tl at h
    split at h
    · rcases List.mem_cons.1 hy with rfl | hy
      · assumption
      · exact tl_nil h y hy
    · cases h
theorem tl_head {x : UInt8} : ∀ {l : List UInt8} {y : UInt8} {t : List UInt8}, tl x l = y :: t → y ≠ x
  | [], y, t, h => by simp [tl] at h
  | z :: l, y, t, h => by
    unfold tl at h
    split at h
    · exact tl_head h
    · rename_i hz
      cases h; exact hz
theorem trim_zero {l : List UInt8} (h : trimLen l = 0) : l = List.replicate l.length 0 := by
  have h1 : tl 0 (tr 0 l) = [] := List.eq_nil_of_length_eq_zero h
  have h2 := tl_nil h1
  have h3 : tl 0 l.reverse = [] := by
    cases h4 : tl 0 l.reverse with
    | nil => rfl
    | cons y t =>
      exact absurd (h2 y (by unfold tr; rw [h4]; simp)) (tl_head h4)
  have h5 := tl_nil h3
  exact List.eq_replicate_iff.2 ⟨rfl, fun y hy => h5 y (by simpa using hy)⟩

theorem row_split {p : List UInt8} {q : Nat} (hq : q + 2 + (bt p q).toNat + (bt p (q + 1)).toNat ≤ p.length) :
    p.drop q = encR (keyOf p q, valOf p q (q + 2 + (bt p q).toNat + (bt p (q + 1)).toNat)) ++ p.drop (q + 2 + (bt p q).toNat + (bt p (q + 1)).toNat) ∧
    (keyOf p q).length = (bt p q).toNat ∧ (valOf p q (q + 2 + (bt p q).toNat + (bt p (q + 1)).toNat)).length = (bt p (q + 1)).toNat := by
  have h1 : (keyOf p q).length = (bt p q).toNat := by unfold keyOf; rw [List.length_take, List.length_drop]; omega
  have h2 : (valOf p q (q + 2 + (bt p q).toNat + (bt p (q + 1)).toNat)).length = (bt p (q + 1)).toNat := by unfold valOf; rw [List.length_take, List.length_drop]; omega
  refine ⟨?_, h1, h2⟩
  have e0 : byteOf (keyOf p q).length = p[q]'(by omega) := by
    rw [h1]; unfold byteOf bt
    rw [List.getD_eq_getElem?_getD, List.getElem?_eq_getElem (by omega)]
    simp
  have e1 : byteOf (valOf p q (q + 2 + (bt p q).toNat + (bt p (q + 1)).toNat)).length = p[q + 1]'(by omega) := by
    rw [h2]; unfold byteOf bt
    rw [List.getD_eq_getElem?_getD, List.getElem?_eq_getElem (by omega)]
    simp
  unfold encR
  dsimp only
  rw [e0, e1, List.cons_append, List.cons_append, List.append_assoc]
  rw [List.drop_eq_getElem_cons (show q < p.length by omega), List.drop_eq_getElem_cons (show q + 1 < p.length by omega)]
  congr 2
  have e2 : keyOf p q ++ p.drop (q + 2 + (bt p q).toNat) = p.drop (q + 2) := by
    have h := List.take_append_drop (bt p q).toNat (p.drop (q + 2))
    rw [List.drop_drop] at h
    exact h
  have e3 : valOf p q (q + 2 + (bt p q).toNat + (bt p (q + 1)).toNat) ++ p.drop (q + 2 + (bt p q).toNat + (bt p (q + 1)).toNat) = p.drop (q + 2 + (bt p q).toNat) := by
    unfold valOf
    rw [show q + 2 + (bt p q).toNat + (bt p (q + 1)).toNat - (q + 2 + (bt p q).toNat) = (bt p (q + 1)).toNat by omega]
    have h := List.take_append_drop (bt p (q + 1)).toNat (p.drop (q + 2 + (bt p q).toNat))
    rw [List.drop_drop] at h
    exact h
  rw [e3, e2]

theorem parse_rows (p : List UInt8) : ∀ (c q f : Nat) (s : Nat × Nat), 11 ≤ q → walkB p (q, f) (scan p c q) = some s →
    p.drop q = enc ((scan p c q).map (rowAt p)) ++ p.drop s.1 ∧ s.1 = q + (enc ((scan p c q).map (rowAt p))).length ∧ (∀ r ∈ (scan p c q).map (rowAt p), okR r) ∧ Up ((scan p c q).map (rowAt p)) ∧ ((scan p c q).map (rowAt p)).length = c ∧
    (f ≠ 0 → ∀ r ∈ (scan p c q).map (rowAt p), cb (keyOf p f) r.1 < 0)
  | 0, q, f, s, _, h => by
    simp only [scan, walkB, Option.some.injEq] at h
    subst h
    exact ⟨by simp [scan, enc], by simp [scan, enc], by simp [scan], by simp [scan, Up], by simp [scan], by simp [scan]⟩
  | c + 1, q, f, s, hq, h => by
    simp only [scan, walkB] at h
    by_cases hok : okRow p f q (endOf p q) = true
    · rw [if_pos hok] at h
      have hok' := hok
      unfold okRow at hok'
      simp only [Bool.and_eq_true, Bool.or_eq_true, decide_eq_true_eq] at hok'
      obtain ⟨⟨⟨⟨⟨o1, o2⟩, o3⟩, o4⟩, o5⟩, o6⟩ := hok'
      have hin : q + 2 ≤ p.length := by
        by_cases hi : q + 2 ≤ p.length
        · exact hi
        · rw [endOf_out hi] at o1; omega
      have he := endOf_in hin
      rw [if_neg (by omega)] at h
      obtain ⟨a1, a2, a3, a4, a5, a6⟩ := parse_rows p c (endOf p q) q s (by omega) h
      have hb0 := bt_bd p q
      have hb1 := bt_bd p (q + 1)
      obtain ⟨r1, r2, r3⟩ := row_split (p := p) (q := q) (by omega)
      rw [← he] at r1 r3
      have hsc : scan p (c + 1) q = (q, endOf p q) :: scan p c (endOf p q) := by
        simp only [scan]; rw [if_neg (by omega)]
      rw [hsc]
      simp only [List.map_cons]
      have hrow : rowAt p (q, endOf p q) = (keyOf p q, valOf p q (endOf p q)) := rfl
      rw [hrow]
      have hea : ∀ R : List Rw, enc ((keyOf p q, valOf p q (endOf p q)) :: R) = encR (keyOf p q, valOf p q (endOf p q)) ++ enc R := fun R => rfl
      have hel := encR_len (keyOf p q, valOf p q (endOf p q))
      dsimp only at hel
      refine ⟨?_, ?_, ?_, ?_, by rw [List.length_cons, a5], ?_⟩
      · rw [hea, List.append_assoc, ← a1]; exact r1
      · rw [hea, List.length_append, hel, r2, r3]; omega
      · intro r hr
        rcases List.mem_cons.1 hr with rfl | hr
        · refine ⟨?_, ?_, ?_, ?_⟩
          · dsimp only; rw [r2]; omega
          · dsimp only; rw [r2]; omega
          · dsimp only; rw [r3]; omega
          · dsimp only; rw [r2, r3]; omega
        · exact a3 r hr
      · unfold Up at a4 ⊢
        rw [List.pairwise_cons]
        exact ⟨fun x hx => a6 (by omega) x hx, a4⟩
      · intro hf r hr
        have h0 : cb (keyOf p f) (keyOf p q) < 0 := by
          rcases o6 with o6 | o6
          · exact absurd o6 hf
          · exact o6
        rcases List.mem_cons.1 hr with rfl | hr
        · exact h0
        · exact cb_trans h0 (a6 (by omega) r hr)
    · rw [if_neg hok] at h; cases h

/-- EVERY RIGHT PAGE IS A HEAD AND ROWS. -/
theorem parse {p : List UInt8} (h : 0 < behindL p) : PageOf (p.take 10) (rowsL p) ∧ p = mkP (p.take 10) (rowsL p) := by
  have hlen := right_len h
  have hb := h
  unfold behindL at hb
  split at hb
  · omega
  · rename_i hc
    split at hb
    · omega
    · rename_i s hs
      split at hb
      · omega
      · rename_i ht
        have ht0 : trimLen (p.drop s.1) = 0 := by omega
        obtain ⟨a1, a2, a3, a4, a5, -⟩ := parse_rows p _ 11 0 s (by omega) hs
        have hR : rowsL p = (scan p (bt p 10).toNat 11).map (rowAt p) := by unfold rowsL; rw [if_neg (by omega)]
        rw [← hR] at a1 a2 a3 a4 a5
        have hz := trim_zero ht0
        have hl1 : (p.drop 11).length = 501 := by rw [List.length_drop, hlen]
        have hl2 : (p.drop 11).length = (enc (rowsL p)).length + (p.drop s.1).length := by rw [a1, List.length_append]
        have h10 : (p.take 10).length = 10 := by rw [List.length_take, hlen]; rfl
        have hbt : ∀ i, i < 10 → bt (p.take 10) i = bt p i := fun i hi => by
          unfold bt; rw [List.getD_eq_getElem?_getD, List.getD_eq_getElem?_getD, List.getElem?_take, if_pos hi]
        refine ⟨⟨h10, by rw [hbt 0 (by omega)]; omega, by rw [hbt 8 (by omega)]; omega, by omega, a3, a4⟩, ?_⟩
        have e10 : byteOf (rowsL p).length = p[10]'(by omega) := by
          rw [a5]; unfold byteOf bt
          rw [List.getD_eq_getElem?_getD, List.getElem?_eq_getElem (by omega)]
          simp
        unfold mkP
        rw [e10, show 501 - (enc (rowsL p)).length = (p.drop s.1).length by omega, ← hz, ← a1, List.append_assoc, List.singleton_append]
        rw [← List.drop_eq_getElem_cons (show 10 < p.length by omega), List.take_append_drop]
end Go.Proofs.YtbinikbgbgggaaaGreatDoor
