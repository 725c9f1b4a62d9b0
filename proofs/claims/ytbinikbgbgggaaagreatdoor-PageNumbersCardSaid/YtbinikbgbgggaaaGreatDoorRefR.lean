/- storemanref21.Of: the region of a row's copies, as a whole. -/
import Derived.Test.YtbinikbgbgggaaaGreatDoorRefB
import Derived.Test.YtbinikbgbgggaaaGreatDoorParse
namespace Go.Proofs.YtbinikbgbgggaaaGreatDoor
open Go.RowKit Go.Shelf

theorem less_cb' : ∀ {a b : List UInt8}, Op.bytesLess a b = true → cb a b < 0
  | [], [], h => by simp [Op.bytesLess] at h
  | [], _ :: _, _ => by unfold cb Lib.compareBytes; decide
  | _ :: _, [], h => by simp [Op.bytesLess] at h
  | x :: a, y :: b, h => by
    unfold Op.bytesLess at h
    unfold cb Lib.compareBytes
    by_cases h1 : x < y
    · rw [if_pos h1]; decide
    · rw [if_neg h1]
      by_cases h2 : x = y
      · subst h2
        rw [if_neg (UInt8.lt_irrefl x)]
        exact less_cb' (by simpa using h)
      · simp [h1, h2] at h
theorem stO_ge (p : List UInt8) : ∀ (j : Nat) (s : Nat × Nat), j ≤ (bt p 10).toNat → stO p j = some s → 11 ≤ s.1
  | 0, s, _, h => by rw [st_zero] at h; cases h; exact Nat.le_refl _
  | j + 1, s, hj, h => by
    cases h' : stO p j with
    | none =>
      have hpre := List.take_prefix j ((scan p (bt p 10).toNat 11).take (j + 1))
      rw [List.take_take, Nat.min_eq_left (by omega)] at hpre
      have := walkB_prefix p _ _ (11, 0) hpre h'
      unfold stO at h
      rw [this] at h; cases h
    | some s' =>
      have h1 := stO_ge p j s' (by omega) h'
      have h2 := (st_next h' (by omega)).2
      rw [h] at h2
      split at h2
      · rename_i hok
        cases h2
        show 11 ≤ endOf p s'.1
        unfold okRow at hok
        simp only [Bool.and_eq_true, decide_eq_true_eq] at hok
        have h3 := hok.1.1.1.1.1
        unfold endOf at h3 ⊢
        split at h3 <;> split <;> omega
      · cases h2
theorem st_pred {p : List UInt8} {j q f : Nat} (h : stO p j = some (q, f)) (h0 : 0 < j) (hj : j ≤ (bt p 10).toNat) : 11 ≤ f ∧ ∃ v, (rowsO p j)[j - 1]? = some (keyOf p f, v) := by
  obtain ⟨i, rfl⟩ : ∃ i, j = i + 1 := ⟨j - 1, by omega⟩
  cases h' : stO p i with
  | none =>
    have hpre := List.take_prefix i ((scan p (bt p 10).toNat 11).take (i + 1))
    rw [List.take_take, Nat.min_eq_left (by omega)] at hpre
    have := walkB_prefix p _ _ (11, 0) hpre h'
    unfold stO at h
    rw [this] at h; cases h
  | some s' =>
    have h1 := stO_ge p i s' (by omega) h'
    have h2 := (st_next h' (by omega)).2
    rw [h] at h2
    split at h2
    · cases h2
      refine ⟨h1, valOf p s'.1 (endOf p s'.1), ?_⟩
      rw [rowsO_snoc h' (by omega), Nat.add_sub_cancel, List.getElem?_append_right (by rw [rowsO_len h' (by omega)]; exact Nat.le_refl _), rowsO_len h' (by omega)]
      simp
    · cases h2
theorem tl_all {x : UInt8} : ∀ {l : List UInt8}, (∀ y ∈ l, y = x) → tl x l = []
  | [], _ => rfl
  | z :: l, h => by
    unfold tl
    rw [if_pos (h z (by simp))]
    exact tl_all fun y hy => h y (by simp [hy])
theorem trim_none {l : List UInt8} (h : ∀ y ∈ l, y = 0) : trimLen l = 0 := by
  have h1 : tr 0 l = [] := by
    unfold tr
    rw [tl_all (fun y hy => h y (by simpa using hy))]
    rfl
  unfold trimLen
  rw [h1]
  rfl
theorem trim_pos {p : List UInt8} {q t : Nat} (h1 : q ≤ t) (h2 : t < p.length) (h : ¬ bt p t = 0) : 0 < trimLen (p.drop q) := by
  rcases Nat.eq_zero_or_pos (trimLen (p.drop q)) with h0 | h0
  · exfalso
    have h3 := trim_zero h0
    apply h
    have h4 : (p.drop q)[t - q]? = some 0 := by
      rw [h3, List.getElem?_replicate, if_pos (by rw [List.length_drop]; omega)]
    rw [List.getElem?_drop, show q + (t - q) = t by omega] at h4
    unfold bt
    rw [List.getD_eq_getElem?_getD, h4]
    rfl
  · exact h0
theorem zero_drop {p : List UInt8} {q : Nat} (h : ∀ i, q ≤ i → i < p.length → bt p i = 0) {u : UInt8} (hu : u ∈ p.drop q) : u = 0 := by
  obtain ⟨i, hi, rfl⟩ := List.getElem_of_mem hu
  rw [List.length_drop] at hi
  have h1 := h (q + i) (by omega) (by omega)
  unfold bt at h1
  rw [List.getD_eq_getElem?_getD, List.getElem?_eq_getElem (by omega)] at h1
  rw [List.getElem_drop]
  simp only [Option.getD_some] at h1
  exact UInt8.toNat_inj.1 (by simpa using h1)
theorem RB.mid {B : Nat} {w : World} {b o n c : Nat} {l : List UInt8} (h : RB B w (some ⟨b, o, none⟩) n c l) (i m : Nat) (hm : i + m ≤ n) : RB B w (some ⟨b, if i = c then o else o + i, none⟩) m (c - i) ((l.drop i).take m) := by
  have hle := h.le
  by_cases e : i = c
  · obtain rfl : m = 0 := by omega
    rw [if_pos e, List.take_zero, show c - i = 0 by omega]
    exact RB.emp _
  · rw [if_neg e]; exact h.sub i m hm
theorem run_slice_mid {ev : Operand → Value} {o : Oper} {x lo hi : Operand} {b off n c i j : Nat} (ho : o.op = .slice 22 x (some lo) (some hi) none) (hx : ev x = .slice (some ⟨b, off, none⟩) n c) (hl : ev lo = .int .i64 (i : Int)) (hh : ev hi = .int .i64 (j : Int)) (hij : i ≤ j) (hj : j ≤ c) (hc : c ≤ 9223372036854775807) (w : World) :
    (execOp ev o).run Tryz.prog w = .ok (.value (.slice (some ⟨b, if i = c then off else off + i, none⟩) (j - i) (c - i))) w := by
  have h1 : (j : Int) ≤ (c : Int) := by omega
  have h2 : ¬ (c : Int) < (j : Int) := by omega
  have h3 : (i : Int) ≤ (j : Int) := by omega
  have h4 : ¬ (j : Int) < (i : Int) := by omega
  by_cases hic : i = c
  · obtain rfl : j = c := by omega
    subst hic
    simp [execOp, ho, hx, hl, hh, go_sem]
  · have h5 : ¬ c = i := fun e => hic e.symm
    simp [execOp, ho, hx, hl, hh, go_sem, h1, h2, h3, h4, hic, h5]
theorem run_add_two {P : Program} {w : World} {ev : Operand → Value} {o : Oper} {x : Operand} {t t' : TypeId} {i : Nat} (ho : o.op = .binOp .add t x (.const (.int .i64 2)) t') (hx : ev x = .int .i64 (i : Int)) (hc : ev (.const (.int .i64 2)) = .int .i64 2) (hi : i < 4611686018427387904) :
    (execOp ev o).run P w = .ok (.value (.int .i64 ((i + 2 : Nat) : Int))) w := by
  have h1 : IntKind.i64.wrap ((i : Int) + 2) = (i : Int) + 2 := IntWalk.i64_in _ (by omega)
  simp [execOp, ho, hx, hc, go_sem, h1]

set_option maxHeartbeats 2000000 in
set_option maxRecDepth 100000 in
theorem row_region {Q : Exit → Act → World → Prop} {a : Act} {W0 : World} {b o c q k v : Nat} {L : List UInt8} (h0 : a.eval (.tmp 0) = .slice (some ⟨b, o, none⟩) 512 c) (h7 : a.eval (.tmp 7) = .int .i64 (q : Int)) (h9 : a.eval (.tmp 9) = .int .i64 (k : Int)) (h10 : a.eval (.tmp 10) = .int .i64 (v : Int)) (hsz : 110 < a.tmps.size)
    (hr : RB W0.heap.size W0 (some ⟨b, o, none⟩) 512 c L) (h1 : q + 2 ≤ k) (h2 : k ≤ v) (h3 : v ≤ 512)
    (hQ : ∀ c a (d : Nat) v w, Q (.panic c) (a.put (some d) v) w → Q (.panic c) a w)
    (hK : ∀ A w a1 n1 c1 a2 n2 c2 gr, SameBut a A roL → A.eval (.tmp 11) = .pointer (some ⟨gr, 0, none⟩) → OB W0.heap.size w (.slice a1 n1 c1) ((L.drop (q + 2)).take (k - (q + 2))) → OB W0.heap.size w (.slice a2 n2 c2) ((L.drop k).take (v - k)) → T2 w gr (.slice a1 n1 c1) (.slice a2 n2 c2) → Below W0.heap.size W0 w → W0.heap.size ≤ gr → Q .normal A w) :
    (Code.region 19 roOps true).wp Tryz.prog Q a W0 := by
  have hle := hr.le
  have hmx := hr.mx
  have hrd : RB W0.drew.heap.size W0.drew (some ⟨b, o, none⟩) 512 c L := hr.below (Below.refl _ W0).drew
  have srA := hrd.mid (q + 2) (k - (q + 2)) (by omega)
  have srB := hrd.mid k (v - k) (by omega)
  have hKl : ((L.drop (q + 2)).take (k - (q + 2))).length ≤ 100000 := by rw [List.length_take]; omega
  have hVl : ((L.drop k).take (v - k)).length ≤ 100000 := by rw [List.length_take]; omega
  refine wp_region_held_drew (S := fun _ => True) (by kernel_rfl) trivial (fun hHeld => ?_)
  refine wpAnyH_take (i := 1) (oi := ro1) (v := .slice (some ⟨b, o, none⟩) 512 c) rfl (by kernel_rfl) (by kernel_rfl) (by kernel_rfl) (fun _ _ _ h => hQ _ _ _ _ _ h) (Or.inl ⟨by rfl, fun w' _ => by rw [BigFrame.run_move (.tmp 0) rfl w', h0]⟩) hHeld ?_
  change wpAnyH _ _ _ _ _ _ _ (Act.put _ (some 98) _) _
  refine wpAnyH_take (i := 2) (oi := ro2) (v := .int .i64 (q : Int)) rfl (by kernel_rfl) (by kernel_rfl) (by kernel_rfl) (fun _ _ _ h => hQ _ _ _ _ _ h) (Or.inl ⟨by rfl, fun w' _ => by rw [BigFrame.run_move (.tmp 7) rfl w', eval_put_ne (by decide), h7]⟩) hHeld ?_
  change wpAnyH _ _ _ _ _ _ _ (Act.put _ (some 99) _) _
  refine wpAnyH_take (i := 3) (oi := ro3) (v := .int .i64 ((q + 2 : Nat) : Int)) rfl (by kernel_rfl) (by kernel_rfl) (by kernel_rfl) (fun _ _ _ h => hQ _ _ _ _ _ h) (Or.inl ⟨by rfl, fun w' _ => run_add_two (x := .tmp 99) rfl (by rw [eval_put_same (by first | omega | (simp only [size_put]; omega))]) rfl (by omega)⟩) hHeld ?_
  change wpAnyH _ _ _ _ _ _ _ (Act.put _ (some 100) _) _
  refine wpAnyH_take (i := 4) (oi := ro4) (v := .int .i64 (k : Int)) rfl (by kernel_rfl) (by kernel_rfl) (by kernel_rfl) (fun _ _ _ h => hQ _ _ _ _ _ h) (Or.inl ⟨by rfl, fun w' _ => by rw [BigFrame.run_move (.tmp 9) rfl w', eval_put_ne (by decide), eval_put_ne (by decide), eval_put_ne (by decide), h9]⟩) hHeld ?_
  change wpAnyH _ _ _ _ _ _ _ (Act.put _ (some 101) _) _
  refine wpAnyH_take (i := 5) (oi := ro5) (v := .slice (some ⟨b, if q + 2 = c then o else o + (q + 2), none⟩) (k - (q + 2)) (c - (q + 2))) rfl (by kernel_rfl) (by kernel_rfl) (by kernel_rfl) (fun _ _ _ h => hQ _ _ _ _ _ h) (Or.inl ⟨by rfl, fun w' _ => run_slice_mid (x := .tmp 98) (lo := .tmp 100) (hi := .tmp 101) rfl (by rw [eval_put_ne (by decide), eval_put_ne (by decide), eval_put_ne (by decide), eval_put_same (by first | omega | (simp only [size_put]; omega))]) (by rw [eval_put_ne (by decide), eval_put_same (by first | omega | (simp only [size_put]; omega))]) (by rw [eval_put_same (by first | omega | (simp only [size_put]; omega))]) h1 (by omega) hmx w'⟩) hHeld ?_
  change wpAnyH _ _ _ _ _ _ _ (Act.put _ (some 102) _) _
  refine wpAnyH_take (i := 8) (oi := ro8) (v := .slice (some ⟨b, o, none⟩) 512 c) rfl (by kernel_rfl) (by kernel_rfl) (by kernel_rfl) (fun _ _ _ h => hQ _ _ _ _ _ h) (Or.inl ⟨by rfl, fun w' _ => by rw [BigFrame.run_move (.tmp 0) rfl w', eval_put_ne (by decide), eval_put_ne (by decide), eval_put_ne (by decide), eval_put_ne (by decide), eval_put_ne (by decide), h0]⟩) hHeld ?_
  change wpAnyH _ _ _ _ _ _ _ (Act.put _ (some 105) _) _
  refine wpAnyH_take (i := 9) (oi := ro9) (v := .int .i64 (k : Int)) rfl (by kernel_rfl) (by kernel_rfl) (by kernel_rfl) (fun _ _ _ h => hQ _ _ _ _ _ h) (Or.inl ⟨by rfl, fun w' _ => by rw [BigFrame.run_move (.tmp 9) rfl w', eval_put_ne (by decide), eval_put_ne (by decide), eval_put_ne (by decide), eval_put_ne (by decide), eval_put_ne (by decide), eval_put_ne (by decide), h9]⟩) hHeld ?_
  change wpAnyH _ _ _ _ _ _ _ (Act.put _ (some 106) _) _
  refine wpAnyH_take (i := 10) (oi := ro10) (v := .int .i64 (v : Int)) rfl (by kernel_rfl) (by kernel_rfl) (by kernel_rfl) (fun _ _ _ h => hQ _ _ _ _ _ h) (Or.inl ⟨by rfl, fun w' _ => by rw [BigFrame.run_move (.tmp 10) rfl w', eval_put_ne (by decide), eval_put_ne (by decide), eval_put_ne (by decide), eval_put_ne (by decide), eval_put_ne (by decide), eval_put_ne (by decide), eval_put_ne (by decide), h10]⟩) hHeld ?_
  change wpAnyH _ _ _ _ _ _ _ (Act.put _ (some 107) _) _
  refine wpAnyH_take (i := 11) (oi := ro11) (v := .slice (some ⟨b, if k = c then o else o + k, none⟩) (v - k) (c - k)) rfl (by kernel_rfl) (by kernel_rfl) (by kernel_rfl) (fun _ _ _ h => hQ _ _ _ _ _ h) (Or.inl ⟨by rfl, fun w' _ => run_slice_mid (x := .tmp 105) (lo := .tmp 106) (hi := .tmp 107) rfl (by rw [eval_put_ne (by decide), eval_put_ne (by decide), eval_put_same (by first | omega | (simp only [size_put]; omega))]) (by rw [eval_put_ne (by decide), eval_put_same (by first | omega | (simp only [size_put]; omega))]) (by rw [eval_put_same (by first | omega | (simp only [size_put]; omega))]) h2 (by omega) hmx w'⟩) hHeld ?_
  change wpAnyH _ _ _ _ _ _ _ (Act.put _ (some 108) _) _
  refine node000 (a0 := a) (W0 := W0.drew) hsz hKl hVl srA srB hQ (fun A w a1 n1 c1 a2 n2 c2 gr sb e g1 g2 g3 g4 g5 => hK A w a1 n1 c1 a2 n2 c2 gr sb e g1 g2 g3 (((Below.refl _ W0).drew).trans g4) g5) ?_ ?_ ?_ (Below.refl _ _)
  · exact (((((((((SameBut.refl a roL).put (by decide) _).put (by decide) _).put (by decide) _).put (by decide) _).put (by decide) _).put (by decide) _).put (by decide) _).put (by decide) _).put (by decide) _
  · rw [eval_put_ne (by decide), eval_put_ne (by decide), eval_put_ne (by decide), eval_put_ne (by decide), eval_put_same (by first | omega | (simp only [size_put]; omega))]
  · rw [eval_put_same (by first | omega | (simp only [size_put]; omega))]
end Go.Proofs.YtbinikbgbgggaaaGreatDoor
