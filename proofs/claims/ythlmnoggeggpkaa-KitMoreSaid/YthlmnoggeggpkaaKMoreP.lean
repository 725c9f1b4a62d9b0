/- Sound items with one more: plain Lean. -/
import Derived.Test.YthlmnoggeggpkaaKLike
namespace Go.Proofs.Ythlmnoggeggpkaa
open Go.RowKit

theorem foldH_same {α : Type} {f g : α → Option Nat} : ∀ {l : List α} {n : Option Nat}, (∀ p ∈ l, f p = g p) → l.foldl (stepH f) n = l.foldl (stepH g) n
  | [], _, _ => rfl
  | x :: l, n, h => by
    rw [List.foldl_cons, List.foldl_cons]
    have e : stepH f n x = stepH g n x := by unfold stepH; rw [h x (List.mem_cons_self ..)]
    rw [e]
    exact foldH_same fun p hp => h p (List.mem_cons_of_mem _ hp)
theorem hgt_same {α : Type} {kids kids' : α → List α} {V : List α} (hV : ∀ c ∈ V, ∀ p ∈ kids c, p ∈ V) (he : ∀ c ∈ V, kids' c = kids c) : ∀ (k : Nat) (c : α), c ∈ V → hgt kids' k c = hgt kids k c
  | 0, _, _ => rfl
  | k + 1, c, hc => by
    rw [hgt_succ, hgt_succ, he c hc]
    exact foldH_same fun p hp => hgt_same hV he k p (hV c hc p hp)
theorem codes_more (X : List It) (y : It) : codes (X ++ [y]) = codes X ++ [y.code] := by unfold codes; rw [List.map_append]; rfl
theorem itF_more {X : List It} {y : It} {c : List UInt8} (hc : c ∈ codes X) : itF (X ++ [y]) c = itF X c := by
  obtain ⟨x, hx, -, -⟩ := itF_some hc
  unfold itF at hx ⊢
  rw [List.find?_append, hx]; rfl
theorem itF_last {X : List It} {y : It} (hc : y.code ∉ codes X) : itF (X ++ [y]) y.code = some y := by
  have h : X.find? (fun x => decide (x.code = y.code)) = none := by
    rw [List.find?_eq_none]
    intro x hx e
    rw [decide_eq_true_eq] at e
    exact hc (List.mem_map.2 ⟨x, hx, e⟩)
  unfold itF
  rw [List.find?_append, h]
  simp
theorem kids_more {X : List It} {y : It} {c : List UInt8} (hc : c ∈ codes X) : kidsX (X ++ [y]) c = kidsX X c := by
  unfold kidsX; rw [itF_more hc]
theorem kids_last {X : List It} {y : It} (hc : y.code ∉ codes X) : kidsX (X ++ [y]) y.code = y.ps.map (·.1) := by
  unfold kidsX; rw [itF_last hc]
theorem getD_more {X : List It} {y : It} {i : Nat} (hi : i < X.length) : (X ++ [y]).getD i default = X.getD i default := by
  rw [List.getD_eq_getElem?_getD, List.getElem?_append_left hi, List.getD_eq_getElem?_getD]
theorem getD_last (X : List It) (y : It) : (X ++ [y]).getD X.length default = y := by
  rw [List.getD_eq_getElem?_getD, List.getElem?_append_right (Nat.le_refl _)]
  simp
theorem cd_more {X : List It} {y : It} {i : Nat} (hi : i < X.length) : cd (X ++ [y]) i = cd X i := by unfold cd; rw [getD_more hi]
theorem okIt_more {X : List It} {y : It} {i : Nat} (hi : i < X.length) : okIt (X ++ [y]) i = okIt X i := by
  unfold okIt
  rw [cd_more hi, getD_more hi]
  by_cases h0 : i = 0
  · rw [decide_eq_true h0]; rfl
  · rw [cd_more (show i - 1 < X.length by omega)]
/-- A code that is behind all. -/
def Behind (X : List It) (c : List UInt8) : Prop := ∀ s ∈ codes X, s < c
theorem Behind.not {X : List It} {c : List UInt8} (h : Behind X c) : c ∉ codes X := fun hc => List.lt_irrefl _ (h c hc)
theorem tell_more {X : List It} (hs : Sound X) {y : It} {c : List UInt8} (hc : c ∈ codes X) : tellX (X ++ [y]) c = tellX X c := by
  have h1 := hgt_same (kids' := kidsX (X ++ [y])) hs.kids (fun c hc => kids_more hc) (X ++ [y]).length c hc
  have h2 := hs.rnd c hc
  unfold tellX at h2 ⊢
  rw [h1]
  cases h : hgt (kidsX X) X.length c with
  | none => rw [h] at h2; exact absurd rfl h2
  | some d => rw [hgt_mono (show X.length ≤ (X ++ [y]).length by simp) h]
theorem tell_hgt {X : List It} (hs : Sound X) {c : List UInt8} (hc : c ∈ codes X) : hgt (kidsX X) X.length c = some (tellX X c) := by
  have h2 := hs.rnd c hc
  unfold tellX at h2 ⊢
  cases h : hgt (kidsX X) X.length c with
  | none => rw [h] at h2; exact absurd rfl h2
  | some d => rfl
theorem tell_last {X : List It} (hs : Sound X) {y : It} (hb : Behind X y.code) (hp : ∀ p ∈ y.ps, p.1 ∈ codes X) : tellX (X ++ [y]) y.code = (y.ps.map (·.1)).foldl (fun n p => max n (tellX X p + 1)) 1 := by
  have h : hgt (kidsX (X ++ [y])) (X.length + 1) y.code = some ((y.ps.map (·.1)).foldl (fun n p => max n (tellX X p + 1)) 1) := by
    rw [hgt_succ, kids_last hb.not]
    refine foldH_of fun p hpm => ?_
    obtain ⟨q, hq, rfl⟩ := List.mem_map.1 hpm
    rw [hgt_same hs.kids (fun c hc => kids_more hc) X.length q.1 (hp q hq)]
    exact tell_hgt hs (hp q hq)
  unfold tellX at *
  rw [List.length_append]
  show (hgt (kidsX (X ++ [y])) (X.length + 1) y.code).getD 0 = _
  rw [h]; rfl
theorem foldm_le {f : List UInt8 → Nat} {m : Nat} : ∀ {l : List (List UInt8)} {n : Nat}, l.foldl (fun n p => max n (f p + 1)) n ≤ m ↔ n ≤ m ∧ ∀ p ∈ l, f p + 1 ≤ m
  | [], n => by simp
  | x :: l, n => by
    rw [List.foldl_cons, foldm_le]
    constructor
    · rintro ⟨h1, h2⟩
      refine ⟨by omega, fun p hp => ?_⟩
      rcases List.mem_cons.1 hp with rfl | hp
      · omega
      · exact h2 p hp
    · rintro ⟨h1, h2⟩
      have := h2 x (List.mem_cons_self ..)
      exact ⟨by omega, fun p hp => h2 p (List.mem_cons_of_mem _ hp)⟩
/-- Are parts such as they may be, of these items? -/
def FineP (X : List It) (P : List Pt) : Prop := ∀ p ∈ P, p.1 ∈ codes X ∧ tellX X p.1 + 1 ≤ 8
theorem rising_last {X : List It} {y : It} (hb : Behind X y.code) (hok : okCode y.code = true) (hsh : okShape y.life y.ps = true) : okIt (X ++ [y]) X.length = true := by
  have e : cd (X ++ [y]) X.length = y.code := by unfold cd; rw [getD_last]
  refine okIt_yes (by rw [e]; exact hok) ?_ (by rw [getD_last]; exact hsh)
  by_cases h0 : X.length = 0
  · exact .inl h0
  · refine .inr ?_
    rw [e, cd_more (show X.length - 1 < X.length by omega), less_iff, decide_eq_true_eq]
    exact hb _ (cd_mem (by omega))
/-- Items with one more behind all are sound just if it is one that may be there. -/
theorem chk_more {X : List It} (hs : Sound X) {y : It} (hl : X.length + 1 ≤ 60) (hb : Behind X y.code) (hok : okCode y.code = true) : chkE (X ++ [y]) = 0 ↔ okShape y.life y.ps = true ∧ FineP X y.ps := by
  have hlen : (X ++ [y]).length = X.length + 1 := by simp
  constructor
  · intro h
    have h2 := sound_of h
    have hsh : okShape y.life y.ps = true := by
      have := (okIt_parts (h2.ok X.length (by omega))).2.2
      rwa [getD_last] at this
    have hin : y.code ∈ codes (X ++ [y]) := by rw [codes_more]; simp
    have hlow : ∀ p ∈ y.ps, p.1 ∈ codes (X ++ [y]) ∧ tellX (X ++ [y]) p.1 < tellX (X ++ [y]) y.code := fun p hp => by
      have hk : p.1 ∈ kidsX (X ++ [y]) y.code := by rw [kids_last hb.not]; exact List.mem_map.2 ⟨p, hp, rfl⟩
      obtain ⟨k', d', h3, h4⟩ := hgt_kid (h2.hgt8 hin) hk
      have h5 := h2.kids _ hin _ hk
      have h6 := hgt_one h3 (h2.hgt8 h5)
      exact ⟨h5, by omega⟩
    refine ⟨hsh, fun p hp => ?_⟩
    obtain ⟨h3, h4⟩ := hlow p hp
    have h5 := h2.dp _ hin
    have h6 : p.1 ∈ codes X := by
      rw [codes_more, List.mem_append, List.mem_singleton] at h3
      rcases h3 with h3 | h3
      · exact h3
      · rw [h3] at h4; omega
    rw [tell_more hs h6] at h4
    exact ⟨h6, by omega⟩
  · rintro ⟨hsh, hf⟩
    have hall : ∀ i, i < (X ++ [y]).length → okIt (X ++ [y]) i = true := fun i hi => by
      by_cases h : i < X.length
      · rw [okIt_more h]; exact hs.ok i h
      · obtain rfl : i = X.length := by omega
        exact rising_last hb hok hsh
    have hfnd : ∀ i, i < (X ++ [y]).length → ∀ k, k < ((X ++ [y]).getD i default).ps.length → (((X ++ [y]).getD i default).ps.getD k default).1 ∈ codes (X ++ [y]) := fun i hi k hk => by
      rw [codes_more, List.mem_append]
      by_cases h : i < X.length
      · rw [getD_more h] at hk ⊢
        exact .inl (hs.fnd i h k hk)
      · obtain rfl : i = X.length := by omega
        rw [getD_last] at hk ⊢
        refine .inl (hf _ ?_).1
        rw [List.getD_eq_getElem?_getD, List.getElem?_eq_getElem hk]
        exact List.getElem_mem _
    have hlast : 1 ≤ tellX (X ++ [y]) y.code ∧ tellX (X ++ [y]) y.code ≤ 8 := by
      rw [tell_last hs hb fun p hp => (hf p hp).1]
      refine ⟨?_, foldm_le.2 ⟨by omega, fun p hp => ?_⟩⟩
      · have := (foldm_le (f := tellX X) (l := y.ps.map (·.1)) (n := 1)).1 (Nat.le_refl _)
        exact this.1
      · obtain ⟨q, hq, rfl⟩ := List.mem_map.1 hp
        exact (hf q hq).2
    have htell : ∀ i, i < (X ++ [y]).length → tellX (X ++ [y]) (cd (X ++ [y]) i) ≠ 0 ∧ tellX (X ++ [y]) (cd (X ++ [y]) i) ≤ 8 := fun i hi => by
      by_cases h : i < X.length
      · rw [cd_more h, tell_more hs (cd_mem h)]
        exact ⟨hs.rnd _ (cd_mem h), hs.dp _ (cd_mem h)⟩
      · obtain rfl : i = X.length := by omega
        have e : cd (X ++ [y]) X.length = y.code := by unfold cd; rw [getD_last]
        rw [e]
        exact ⟨by omega, hlast.2⟩
    exact chk_fine (by omega) (allOk_of hall) (found_of hfnd) (fun i hi => (htell i hi).1) fun i hi => (htell i hi).2
theorem tell_pos {X : List It} (hs : Sound X) {c : List UInt8} (hc : c ∈ codes X) : 1 ≤ tellX X c := by
  have := hs.rnd c hc
  omega
end Go.Proofs.Ythlmnoggeggpkaa
