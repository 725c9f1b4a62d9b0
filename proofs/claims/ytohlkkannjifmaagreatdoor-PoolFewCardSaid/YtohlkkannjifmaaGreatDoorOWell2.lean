/- A rig that is well: what a page is, as frames come and go. Plain; no program in sight. -/
import Derived.Test.YtohlkkannjifmaaGreatDoorOWell
namespace Go.Proofs.YtohlkkannjifmaaGreatDoor
def Cont (P : PK) (D : DK) (n : Int) (b : List UInt8) : Prop := (∃ f ∈ P.frames, f.page = n ∧ f.b = b) ∨ ((∀ f ∈ P.frames, f.page ≠ n) ∧ D.latest (P.first + n) = b)
structure Well (D : DK) (L : LK) (P : PK) : Prop where
  up : D.Up
  lo : ∃ k, L.Ok k
  fc : L.first + L.count ≤ P.first
  dn : P.first + P.count ≤ D.n
  pc : 0 ≤ P.count
  dis : P.frames.Pairwise fun f g => f.page ≠ g.page
  rng : ∀ f ∈ P.frames, 0 ≤ f.page ∧ f.page < P.count ∧ f.b.length = 512
  cl : ∀ f ∈ P.frames, f.dirty = false → D.latest (P.first + f.page) = f.b
  sz : P.frames.length ≤ P.most
theorem Well.uniq {D : DK} {L : LK} {P : PK} (h : Well D L P) {i j : Nat} {f g : FrV} (hi : P.frames[i]? = some f) (hj : P.frames[j]? = some g) (he : f.page = g.page) : i = j := by
  obtain ⟨hi1, rfl⟩ := List.getElem?_eq_some_iff.1 hi
  obtain ⟨hj1, rfl⟩ := List.getElem?_eq_some_iff.1 hj
  have := List.pairwise_iff_getElem.1 h.dis
  rcases Nat.lt_trichotomy i j with h1 | h1 | h1
  · exact absurd he (this i j hi1 hj1 h1)
  · exact h1
  · exact absurd he.symm (this j i hj1 hi1 h1)
theorem Well.cont_at {D : DK} {L : LK} {P : PK} (h : Well D L P) {i : Nat} {f : FrV} (hi : P.frames[i]? = some f) {b : List UInt8} : Cont P D f.page b ↔ f.b = b := by
  constructor
  · rintro (⟨g, hg, he, rfl⟩ | ⟨h1, -⟩)
    · obtain ⟨j, hj, e⟩ := List.getElem_of_mem hg
      have hj' : P.frames[j]? = some g := by rw [List.getElem?_eq_getElem hj, e]
      have := h.uniq hi hj' he.symm
      subst this
      rw [hi] at hj'
      cases hj'
      rfl
    · exact absurd rfl (h1 f (List.mem_of_getElem? hi))
  · rintro rfl
    exact .inl ⟨f, List.mem_of_getElem? hi, rfl, rfl⟩
structure Kept (D : DK) (L : LK) (P : PK) (D' : DK) (L' : LK) (P' : PK) : Prop where
  well : Well D' L' P'
  core : CoreEq L' L
  cont : ∀ m b, 0 ≤ m → Cont P D m b → Cont P' D' m b
  first : P'.first = P.first
  count : P'.count = P.count
  most : P'.most = P.most
  le : P.frames.length ≤ P'.frames.length
theorem LK.Ok.of_core {L M : LK} {k : Nat} (h : L.Ok k) (hc : CoreEq M L) (ht : M.turn = L.turn) (hs : ∀ s ∈ M.sheets, 0 ≤ s.safe ∧ s.safe ≤ s.body.length) (hw : (∃ s ∈ M.sheets, s.safe < (s.body.length : Int)) → L.lsns ≠ []) (hd : ∀ s ∈ M.sheets, 0 ≤ s.turn ∧ s.turn < 2147483648 ∧ 0 ≤ s.before ∧ s.before ≤ 496) : M.Ok k := by
  have hlen := hc.len
  have hget : ∀ (j : Nat) s, M.sheets[j]? = some s → ∃ s', L.sheets[j]? = some s' ∧ s'.num = s.num ∧ s'.body = s.body := by
    intro j s hj
    have := congrArg (fun l => l[j]?) hc.sheets
    simp only [List.getElem?_map, hj, Option.map_some] at this
    cases hL : L.sheets[j]? with
    | none => rw [hL] at this; cases this
    | some s' =>
      rw [hL] at this
      simp only [Option.map_some, Option.some.injEq, Prod.mk.injEq] at this
      exact ⟨s', rfl, this.1.symm, this.2.symm⟩
  obtain ⟨m, h1, h2, h3⟩ := h.num
  refine ⟨fun e => h.ne (List.eq_nil_of_length_eq_zero (by rw [← hlen, e]; rfl)), ⟨m, h1, h2, fun j s hj => ?_⟩, fun s hs' => ?_, by rw [hc.first]; exact h.f1, by rw [hc.first]; exact h.f2, by rw [hc.count]; exact h.c1, by rw [hc.count]; exact h.c2, by rw [ht]; exact h.t1, by rw [ht]; exact h.t2, by rw [hlen, hc.count]; exact h.ct, by rw [hc.lsns]; exact h.lk, by rw [hc.lsns]; exact h.so, by rw [hc.lsns, hc.end_]; exact h.sb, by rw [hc.lsns]; exact hw, hd⟩
  · obtain ⟨s', e1, e2, -⟩ := hget j s hj
    rw [← e2]
    exact h3 j s' e1
  · obtain ⟨j, hj, e⟩ := List.getElem_of_mem hs'
    obtain ⟨s', e1, -, e3⟩ := hget j s (by rw [List.getElem?_eq_getElem hj, e])
    rw [← e3]
    exact ⟨(h.len s' (List.mem_of_getElem? e1)).1, by rw [e3]; exact hs s hs'⟩
theorem force_ok {L : LK} {k : Nat} {D : DK} (hl : L.Ok k) (h : D.Up) (hn : L.first + L.count ≤ D.n) : (L.force D).2.1.Ok k := by
  obtain ⟨L', D', e, hc, ht, -⟩ := force_up hl h hn
  rw [e]
  unfold LK.force at e
  by_cases hs0 : L.safe = L.end_
  · rw [if_pos hs0] at e
    cases e
    exact hl
  · obtain ⟨D2, e2, u, n, hj⟩ := writeAll_up L hl.c1 hl.f1 L.sheets D h hn fun s hs => hl.sheet hs
    rw [if_neg hs0, e2] at e
    simp only [u.sync] at e
    cases e
    refine hl.of_core hc ht (fun s hs => ?_) (fun hw => ?_) (fun s hs => ?_)
    · obtain ⟨s', -, rfl⟩ := List.mem_map.1 hs
      exact ⟨by simp [ShV.sure], by simp [ShV.sure]⟩
    · obtain ⟨s, hs, hlt⟩ := hw
      obtain ⟨s', -, rfl⟩ := List.mem_map.1 hs
      simp [ShV.sure] at hlt
    · obtain ⟨s', hs', rfl⟩ := List.mem_map.1 hs
      obtain ⟨s2, hs2, rfl⟩ := List.mem_map.1 hs'
      have h1 := hl.hd s2 hs2
      have h2 := hl.t1
      have h3 := hl.t2
      unfold ShV.sure ShV.wrote
      split
      · simp only
        omega
      · exact h1
theorem behind_up {L : LK} {k : Nat} {D : DK} (f : FrV) (hl : L.Ok k) (h : D.Up) (hn : L.first + L.count ≤ D.n) :
    ∃ L' D', behind f L D = (0, L', D') ∧ CoreEq L' L ∧ L'.Ok k ∧ D'.Up ∧ D'.n = D.n ∧ (∀ j, L.first + L.count ≤ j → D'.latest j = D.latest j) := by
  unfold behind
  by_cases hs : L.safe ≤ (lsnL f.b : Int)
  · obtain ⟨L', D', e, hc, ht, hu, hn', hj, -⟩ := force_up hl h hn
    have := force_ok hl h hn
    rw [e] at this
    rw [if_pos hs]
    exact ⟨L', D', e, hc, this, hu, hn', hj⟩
  · rw [if_neg hs]
    exact ⟨L, D, rfl, CoreEq.refl _, hl, h, rfl, fun _ _ => rfl⟩
theorem mem_set_cases {α : Type} {l : List α} {i : Nat} {x y : α} (h : y ∈ l.set i x) : y = x ∨ ∃ j, j ≠ i ∧ l[j]? = some y := by
  obtain ⟨j, hj⟩ := List.mem_iff_getElem?.1 h
  rw [List.getElem?_set] at hj
  by_cases e : i = j
  · subst e
    rw [if_pos rfl] at hj
    split at hj
    · cases hj; exact .inl rfl
    · cases hj
  · rw [if_neg e] at hj
    exact .inr ⟨j, fun h => e h.symm, hj⟩
theorem set_pairs {l : List FrV} {i : Nat} {x : FrV} (h : l.Pairwise fun f g => f.page ≠ g.page) (hx : ∀ j f, j ≠ i → l[j]? = some f → f.page ≠ x.page) : (l.set i x).Pairwise fun f g => f.page ≠ g.page := by
  rw [List.pairwise_iff_getElem] at h ⊢
  intro a b ha hb hab
  rw [List.length_set] at ha hb
  rw [List.getElem_set, List.getElem_set]
  by_cases e1 : i = a
  · rw [if_pos e1, if_neg (by omega)]
    exact (hx b _ (by omega) (List.getElem?_eq_getElem hb)).symm
  · rw [if_neg e1]
    by_cases e2 : i = b
    · rw [if_pos e2]
      exact hx a _ (by omega) (List.getElem?_eq_getElem ha)
    · rw [if_neg e2]
      exact h a b ha hb hab
theorem write_well {D : DK} {L : LK} {P : PK} (h : Well D L P) {i : Nat} {f : FrV} (hi : P.frames[i]? = some f) :
    ∃ P' L' D', P.write i f L D = (0, P', L', D') ∧ P' = { P with frames := P.frames.set i { f with dirty := false, first := 0 } } ∧ Kept D L P D' L' P' := by
  obtain ⟨k, hl⟩ := h.lo
  have hmem := List.mem_of_getElem? hi
  obtain ⟨r1, r2, r3⟩ := h.rng f hmem
  have hfc := h.fc
  have hdn := h.dn
  obtain ⟨L', D', e, hc, ho, hu, hn, hj⟩ := behind_up f hl h.up (by have := h.pc; omega)
  have hw : D'.write (P.first + f.page) f.b = (0, D'.put (P.first + f.page) f.b) := hu.write (by have := hl.f1; have := hl.c1; omega) (by omega) r3
  have hlat : ∀ m : Int, 0 ≤ m → (D'.put (P.first + f.page) f.b).latest (P.first + m) = if m = f.page then f.b else D.latest (P.first + m) := by
    intro m hm
    rw [DK.put_latest]
    by_cases e : m = f.page
    · rw [if_pos e, if_pos (by omega)]
    · rw [if_neg e, if_neg (by omega), hj _ (by omega)]
  refine ⟨_, L', D'.put (P.first + f.page) f.b, ?_, rfl, ⟨hu.put _ r3, ⟨k, ho⟩, ?_, ?_, h.pc, ?_, ?_, ?_, ?_⟩, hc, ?_, rfl, rfl, rfl, ?_⟩
  · unfold PK.write
    rw [e]
    simp only [hw]
    rw [if_neg (by omega), if_neg (by omega)]
  · show L'.first + L'.count ≤ P.first
    rw [hc.first, hc.count]; exact hfc
  · show P.first + P.count ≤ D'.n
    omega
  · exact set_pairs h.dis fun j g hne hj e => hne (h.uniq hj hi e)
  · intro g hg
    rcases mem_set_cases hg with rfl | ⟨j, -, hj⟩
    · exact ⟨r1, r2, r3⟩
    · exact h.rng g (List.mem_of_getElem? hj)
  · intro g hg hd
    show (D'.put (P.first + f.page) f.b).latest (P.first + g.page) = g.b
    rcases mem_set_cases hg with rfl | ⟨j, hne, hj'⟩
    · rw [hlat _ r1, if_pos rfl]
    · rw [hlat _ (h.rng g (List.mem_of_getElem? hj')).1, if_neg (fun e => hne (h.uniq hj' hi e))]
      exact h.cl g (List.mem_of_getElem? hj') hd
  · show (P.frames.set i _).length ≤ P.most
    rw [List.length_set]; exact h.sz
  · rintro m b hm (⟨g, hg, rfl, rfl⟩ | ⟨h1, h2⟩)
    · obtain ⟨j, hj', e⟩ := List.getElem_of_mem hg
      have hj2 : P.frames[j]? = some g := by rw [List.getElem?_eq_getElem hj', e]
      by_cases e2 : j = i
      · subst e2
        rw [hi] at hj2
        cases hj2
        exact .inl ⟨({ f with dirty := false, first := 0 } : FrV), List.mem_iff_getElem?.2 ⟨j, by rw [List.getElem?_set, if_pos rfl, if_pos hj']⟩, rfl, rfl⟩
      · exact .inl ⟨g, List.mem_iff_getElem?.2 ⟨j, by rw [List.getElem?_set, if_neg (fun e => e2 e.symm)]; exact hj2⟩, rfl, rfl⟩
    · refine .inr ⟨fun g hg => ?_, ?_⟩
      · rcases mem_set_cases hg with rfl | ⟨j, -, hj'⟩
        · exact h1 f hmem
        · exact h1 g (List.mem_of_getElem? hj')
      · show (D'.put (P.first + f.page) f.b).latest (P.first + m) = b
        rw [DK.put_latest, if_neg (fun e => h1 f hmem (by omega)), hj _ (by omega)]
        exact h2
  · show P.frames.length ≤ (P.frames.set i _).length
    rw [List.length_set]; omega
theorem Kept.refl {D : DK} {L : LK} {P : PK} (h : Well D L P) : Kept D L P D L P := ⟨h, CoreEq.refl _, fun _ _ _ h => h, rfl, rfl, rfl, Nat.le_refl _⟩
theorem Kept.trans {D D1 D2 : DK} {L L1 L2 : LK} {P P1 P2 : PK} (h : Kept D L P D1 L1 P1) (k : Kept D1 L1 P1 D2 L2 P2) : Kept D L P D2 L2 P2 :=
  ⟨k.well, k.core.trans h.core, fun m b hm hb => k.cont m b hm (h.cont m b hm hb), k.first.trans h.first, k.count.trans h.count, k.most.trans h.most, Nat.le_trans h.le k.le⟩
theorem PK.come_none {P : PK} {n : Int} {L : LK} {D : DK} (h : D.may (P.first + n) = 0) : P.come n none L D = (0, P.frames.length, { P with frames := P.frames ++ [P.new n D] }, L, D) := by
  unfold PK.come
  rw [if_neg (by omega)]
theorem PK.come_some {P : PK} {n : Int} {L : LK} {D : DK} (i : Nat) (h : D.may (P.first + n) = 0) : P.come n (some i) L D = (0, i, { P with frames := P.frames.set i (P.new n D) }, L, D) := by
  unfold PK.come
  rw [if_neg (by omega)]
structure GotF (D : DK) (L : LK) (P : PK) (n : Int) (x : Int × Nat × PK × LK × DK) : Prop where
  ok : x.1 = 0
  kept : Kept D L P x.2.2.2.2 x.2.2.2.1 x.2.2.1
  fr : ∃ f, x.2.2.1.frames[x.2.1]? = some f ∧ f.page = n
  more : (∀ f ∈ P.frames, f.page ≠ n) → P.frames.length < P.most → x.2.2.1.frames.length = P.frames.length + 1
  sub : ∀ f ∈ x.2.2.1.frames, f.page = n ∨ ∃ g ∈ P.frames, g.page = f.page
theorem come_more {D : DK} {L : LK} {P : PK} (h : Well D L P) {n : Int} (h0 : 0 ≤ n) (h1 : n < P.count) (hnew : ∀ f ∈ P.frames, f.page ≠ n) (hroom : P.frames.length < P.most) : GotF D L P n (P.come n none L D) := by
  obtain ⟨k, hl⟩ := h.lo
  have hfc := h.fc
  have hdn := h.dn
  have h5 := hl.f1
  have h6 := hl.c1
  rw [PK.come_none (h.up.may (by omega) (by omega))]
  have hnb : (P.new n D).b.length = 512 := h.up.ok.latest _
  refine ⟨rfl, ⟨⟨h.up, h.lo, hfc, hdn, h.pc, ?_, fun f hf => ?_, fun f hf hd => ?_, ?_⟩, CoreEq.refl _, ?_, rfl, rfl, rfl, by simp⟩, ⟨P.new n D, by simp, rfl⟩, fun _ _ => by simp, fun f hf => ?_⟩
  · show (P.frames ++ [P.new n D]).Pairwise _
    rw [List.pairwise_append]
    exact ⟨h.dis, by simp, fun f hf g hg => by rw [List.mem_singleton] at hg; subst hg; exact hnew f hf⟩
  · rcases List.mem_append.1 hf with hf | hf
    · exact h.rng f hf
    · rw [List.mem_singleton] at hf; subst hf; exact ⟨h0, h1, hnb⟩
  · rcases List.mem_append.1 hf with hf | hf
    · exact h.cl f hf hd
    · rw [List.mem_singleton] at hf; subst hf; rfl
  · show (P.frames ++ [P.new n D]).length ≤ P.most
    rw [List.length_append]; exact hroom
  · rintro m b hm (⟨g, hg, rfl, rfl⟩ | ⟨h2, h3⟩)
    · exact .inl ⟨g, List.mem_append_left _ hg, rfl, rfl⟩
    · by_cases e : m = n
      · subst e
        exact .inl ⟨P.new m D, List.mem_append_right _ (by simp), rfl, h3⟩
      · refine .inr ⟨fun f hf => ?_, h3⟩
        rcases List.mem_append.1 hf with hf | hf
        · exact h2 f hf
        · rw [List.mem_singleton] at hf; subst hf; exact fun e2 => e e2.symm
  · rcases List.mem_append.1 hf with hf | hf
    · exact .inr ⟨f, hf, rfl⟩
    · rw [List.mem_singleton] at hf; subst hf; exact .inl rfl
theorem come_out {D : DK} {L : LK} {P : PK} (h : Well D L P) {n : Int} (h0 : 0 ≤ n) (h1 : n < P.count) (hnew : ∀ f ∈ P.frames, f.page ≠ n) {i : Nat} {f : FrV} (hi : P.frames[i]? = some f) (hd : f.dirty = false) (hfull : P.most ≤ P.frames.length) : GotF D L P n (P.come n (some i) L D) := by
  obtain ⟨k, hl⟩ := h.lo
  have hfc := h.fc
  have hdn := h.dn
  have h5 := hl.f1
  have h6 := hl.c1
  rw [PK.come_some i (h.up.may (by omega) (by omega))]
  have hnb : (P.new n D).b.length = 512 := h.up.ok.latest _
  have hil : i < P.frames.length := (List.getElem?_eq_some_iff.1 hi).1
  have hat : (P.frames.set i (P.new n D))[i]? = some (P.new n D) := by rw [List.getElem?_set, if_pos rfl, if_pos hil]
  have hne : ∀ j g, j ≠ i → P.frames[j]? = some g → g ∈ P.frames.set i (P.new n D) := fun j g e hj => List.mem_iff_getElem?.2 ⟨j, by rw [List.getElem?_set, if_neg (fun e2 => e e2.symm)]; exact hj⟩
  refine ⟨rfl, ⟨⟨h.up, h.lo, hfc, hdn, h.pc, ?_, fun g hg => ?_, fun g hg hgd => ?_, ?_⟩, CoreEq.refl _, ?_, rfl, rfl, rfl, by simp⟩, ⟨P.new n D, hat, rfl⟩, fun _ hlt => by omega, fun g hg => ?_⟩
  · exact set_pairs h.dis fun j g _ hj e => hnew g (List.mem_of_getElem? hj) e
  · rcases mem_set_cases hg with rfl | ⟨j, -, hj⟩
    · exact ⟨h0, h1, hnb⟩
    · exact h.rng g (List.mem_of_getElem? hj)
  · rcases mem_set_cases hg with rfl | ⟨j, -, hj⟩
    · rfl
    · exact h.cl g (List.mem_of_getElem? hj) hgd
  · show (P.frames.set i _).length ≤ P.most
    rw [List.length_set]; exact h.sz
  · rintro m b hm (⟨g, hg, rfl, rfl⟩ | ⟨h2, h3⟩)
    · obtain ⟨j, hj', e⟩ := List.getElem_of_mem hg
      have hj2 : P.frames[j]? = some g := by rw [List.getElem?_eq_getElem hj', e]
      by_cases e2 : j = i
      · subst e2
        rw [hi] at hj2
        cases hj2
        refine .inr ⟨fun x hx => ?_, h.cl f hg hd⟩
        rcases mem_set_cases hx with rfl | ⟨q, hq, hq2⟩
        · exact fun e => hnew f hg e.symm
        · exact fun e => hq (h.uniq hq2 hi e)
      · exact .inl ⟨g, hne j g e2 hj2, rfl, rfl⟩
    · by_cases e : m = n
      · subst e
        exact .inl ⟨P.new m D, List.mem_of_getElem? hat, rfl, h3⟩
      · refine .inr ⟨fun x hx => ?_, h3⟩
        rcases mem_set_cases hx with rfl | ⟨q, hq, hq2⟩
        · exact fun e2 => e e2.symm
        · exact h2 x (List.mem_of_getElem? hq2)
  · rcases mem_set_cases hg with rfl | ⟨q, hq, hq2⟩
    · exact .inl rfl
    · exact .inr ⟨g, List.mem_of_getElem? hq2, rfl⟩
theorem frame_well {D : DK} {L : LK} {P : PK} (h : Well D L P) {n : Int} (h0 : 0 ≤ n) (h1 : n < P.count) {x : Int × Nat × PK × LK × DK} (hx : FrameP P n L D x) : GotF D L P n x := by
  cases hx with
  | here i f hi e => exact ⟨rfl, Kept.refl h, ⟨f, hi, e⟩, fun hn _ => absurd e (hn f (List.mem_of_getElem? hi)), fun f hf => .inr ⟨f, hf, rfl⟩⟩
  | more hnew hroom => exact come_more h h0 h1 hnew hroom
  | out j f x hnew hfull hj ho =>
    obtain ⟨P', L', D', e, rfl, hk⟩ := write_well h hj
    cases ho with
    | clean hd => exact come_out h h0 h1 hnew hj hd hfull
    | bad hd hb => rw [e] at hb; exact absurd rfl hb
    | good hd hb =>
      rw [e]
      have hjl : j < P.frames.length := (List.getElem?_eq_some_iff.1 hj).1
      have hat : (P.frames.set j { f with dirty := false, first := 0 })[j]? = some { f with dirty := false, first := 0 } := by rw [List.getElem?_set, if_pos rfl, if_pos hjl]
      have hg := come_out hk.well (n := n) h0 h1 (fun g hg => by
        rcases mem_set_cases hg with rfl | ⟨q, hq, hq2⟩
        · exact hnew f (List.mem_of_getElem? hj)
        · exact hnew g (List.mem_of_getElem? hq2)) hat rfl (by show P.most ≤ (P.frames.set j _).length; rw [List.length_set]; exact hfull)
      refine ⟨hg.ok, hk.trans hg.kept, hg.fr, fun _ hlt => by omega, fun g hgm => ?_⟩
      rcases hg.sub g hgm with h2 | ⟨y, hy, hye⟩
      · exact .inl h2
      · rcases mem_set_cases hy with rfl | ⟨q, hq, hq2⟩
        · exact .inr ⟨f, List.mem_of_getElem? hj, hye⟩
        · exact .inr ⟨y, List.mem_of_getElem? hq2, hye⟩
theorem done_well {D : DK} {L : LK} {P : PK} (h : Well D L P) {n lsn : Int} (h0 : 0 ≤ n) (h1 : n < P.count) {act : List UInt8 → Int × List UInt8} {b : List UInt8} (hb : Cont P D n b) (ha : (act b).1 = 0 → (setLsnL (act b).2 lsn).length = 512)
    {x : Bool × Int × PK × LK × DK} (hx : DoneP P n lsn act L D x) :
    Well x.2.2.2.2 x.2.2.2.1 x.2.2.1 ∧ CoreEq x.2.2.2.1 L ∧ x.2.2.1.first = P.first ∧ x.2.2.1.count = P.count ∧ x.2.2.1.most = P.most ∧ P.frames.length ≤ x.2.2.1.frames.length ∧
    x.1 = (decide ((lsnL b : Int) < lsn) && decide ((act b).1 = 0)) ∧ x.2.1 = (if (lsnL b : Int) < lsn then (act b).1 else 0) ∧ (∀ m c, 0 ≤ m → m ≠ n → Cont P D m c → Cont x.2.2.1 x.2.2.2.2 m c) ∧
    Cont x.2.2.1 x.2.2.2.2 n (if x.1 then setLsnL (act b).2 lsn else b) ∧ ((∀ f ∈ P.frames, f.page ≠ n) → P.frames.length < P.most → x.2.2.1.frames.length = P.frames.length + 1) ∧ (∀ f ∈ x.2.2.1.frames, f.page = n ∨ ∃ g ∈ P.frames, g.page = f.page) := by
  cases hx with
  | bad e i s hf he => exact absurd (frame_well h h0 h1 hf).ok he
  | was i s f hf hi hlt =>
    have hg := frame_well h h0 h1 hf
    obtain ⟨f', hf', hp⟩ := hg.fr
    rw [hi] at hf'
    cases hf'
    have hfb : f.b = b := (hg.kept.well.cont_at hi).1 (by rw [hp]; exact hg.kept.cont n b h0 hb)
    rw [hfb] at hlt
    refine ⟨hg.kept.well, hg.kept.core, hg.kept.first, hg.kept.count, hg.kept.most, hg.kept.le, ?_, ?_, fun m c hm _ hc => hg.kept.cont m c hm hc, hg.kept.cont n b h0 hb, hg.more, hg.sub⟩
    · rw [decide_eq_false (by omega), Bool.false_and]
    · rw [if_neg (by omega)]
  | not i s f hf hi hlt hne =>
    have hg := frame_well h h0 h1 hf
    obtain ⟨f', hf', hp⟩ := hg.fr
    rw [hi] at hf'
    cases hf'
    have hfb : f.b = b := (hg.kept.well.cont_at hi).1 (by rw [hp]; exact hg.kept.cont n b h0 hb)
    rw [hfb] at hlt hne ⊢
    refine ⟨hg.kept.well, hg.kept.core, hg.kept.first, hg.kept.count, hg.kept.most, hg.kept.le, ?_, ?_, fun m c hm _ hc => hg.kept.cont m c hm hc, hg.kept.cont n b h0 hb, hg.more, hg.sub⟩
    · rw [decide_eq_false hne, Bool.and_false]
    · rw [if_pos hlt]
  | did i s f hf hi hlt heq =>
    have hg := frame_well h h0 h1 hf
    obtain ⟨f', hf', hp⟩ := hg.fr
    rw [hi] at hf'
    cases hf'
    have hfb : f.b = b := (hg.kept.well.cont_at hi).1 (by rw [hp]; exact hg.kept.cont n b h0 hb)
    rw [hfb] at hlt heq ⊢
    have hw := hg.kept.well
    have hil : i < s.1.frames.length := (List.getElem?_eq_some_iff.1 hi).1
    obtain ⟨P1, L1, D1⟩ := s
    have hmem := List.mem_of_getElem? hi
    generalize hfx : ({ f with b := setLsnL (act b).2 lsn, dirty := true, first := if f.dirty then f.first else lsn } : FrV) = fx
    have hpx : fx.page = n := by rw [← hfx]; exact hp
    have hbx : fx.b = setLsnL (act b).2 lsn := by rw [← hfx]
    have hdx : fx.dirty = true := by rw [← hfx]
    have hat : (P1.frames.set i fx)[i]? = some fx := by rw [List.getElem?_set, if_pos rfl, if_pos hil]
    refine ⟨⟨hw.up, hw.lo, hw.fc, hw.dn, hw.pc, ?_, fun g hg' => ?_, fun g hg' hd => ?_, ?_⟩, hg.kept.core, hg.kept.first, hg.kept.count, hg.kept.most, ?_, ?_, ?_, fun m c hm hne hc => ?_, ?_, fun hn hr => ?_, fun g hg' => ?_⟩
    · exact set_pairs hw.dis fun j g hne hj e => hne (hw.uniq hj hi (by rw [e, hpx, hp]))
    · rcases mem_set_cases hg' with rfl | ⟨j, -, hj⟩
      · have := hw.rng f hmem
        rw [hp] at this
        exact ⟨by rw [hpx]; exact this.1, by rw [hpx]; exact this.2.1, by rw [hbx]; exact ha heq⟩
      · exact hw.rng g (List.mem_of_getElem? hj)
    · rcases mem_set_cases hg' with rfl | ⟨j, -, hj⟩
      · rw [hdx] at hd; cases hd
      · exact hw.cl g (List.mem_of_getElem? hj) hd
    · show (P1.frames.set i _).length ≤ P1.most
      rw [List.length_set]; exact hw.sz
    · show P.frames.length ≤ (P1.frames.set i _).length
      rw [List.length_set]; exact hg.kept.le
    · rw [decide_eq_true hlt, decide_eq_true heq]; rfl
    · rw [if_pos hlt, heq]
    · rcases hg.kept.cont m c hm hc with ⟨g, hgm, rfl, rfl⟩ | ⟨h2, h3⟩
      · obtain ⟨j, hj', e⟩ := List.getElem_of_mem hgm
        have hj2 : P1.frames[j]? = some g := by rw [List.getElem?_eq_getElem hj', e]
        by_cases e2 : j = i
        · subst e2
          rw [hi] at hj2
          cases hj2
          exact absurd hp hne
        · exact .inl ⟨g, List.mem_iff_getElem?.2 ⟨j, by rw [List.getElem?_set, if_neg (fun e => e2 e.symm)]; exact hj2⟩, rfl, rfl⟩
      · refine .inr ⟨fun g hgm => ?_, h3⟩
        rcases mem_set_cases hgm with rfl | ⟨j, -, hj⟩
        · rw [hpx]; exact fun e => hne e.symm
        · exact h2 g (List.mem_of_getElem? hj)
    · rw [if_pos rfl]
      exact .inl ⟨fx, List.mem_of_getElem? hat, hpx, hbx⟩
    · show (P1.frames.set i _).length = _
      rw [List.length_set]; exact hg.more hn hr
    · rcases mem_set_cases hg' with rfl | ⟨j, -, hj⟩
      · exact .inl hpx
      · exact hg.sub g (List.mem_of_getElem? hj)
end Go.Proofs.YtohlkkannjifmaaGreatDoor
