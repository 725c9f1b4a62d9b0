/- The law's rows in memory beside the page; a row taken out, a row put behind. -/
import Derived.Test.YtbinikbgbgggaaaDoorKeepC
namespace Go.Proofs.YtbinikbgbgggaaaDoor
open Go.RowKit Go.Shelf

/-- A slice whose memory lies from block base on. -/
def Far (base : Nat) (u : Value) : Prop := ∀ b o s n c, u = .slice (some ⟨b, o, s⟩) n c → 0 < c → base ≤ b
/-- A list of rows in own memory, its rows' bytes too. -/
def OQ (base : Nat) (W : World) (v : Value) (R : List Rw) : Prop := ∃ cs, W.ownsRow base 25 2 v R.length cs ∧ RowsCells W v.ownBlock cs R ∧ ∀ u ∈ cs, Far base u
theorem OQ.or {base : Nat} {W : World} {v : Value} {R : List Rw} (h : OQ base W v R) : OR base W v R := by
  obtain ⟨cs, h1, h2, -⟩ := h
  exact ⟨cs, h1, h2⟩
theorem OQ.nil (base : Nat) (W : World) : OQ base W (.slice none 0 0) [] := ⟨[], World.ownsRow_nil _ _ _ _, trivial, fun u hu => by cases hu⟩
theorem own_keep {base size n : Nat} {e : TypeId} {W W' : World} {v : Value} {xs : List Value} (h : W.ownsRow base e size v n xs) (hk : ∀ b, v.ownBlock = some b → W'.heap[b]? = W.heap[b]?) : W'.ownsRow base e size v n xs := by
  obtain ⟨e1, h3 | ⟨g, cap, cur, hv, hg, hh, r⟩⟩ := h
  · exact ⟨e1, .inl h3⟩
  · exact ⟨e1, .inr ⟨g, cap, cur, hv, hg, (hk g (by rw [hv]; rfl)).trans hh, r⟩⟩
theorem OQ.below {base : Nat} {W W' : World} {v : Value} {R : List Rw} (h : OQ base W v R) (hb : Below W.heap.size W W') : OQ base W' v R := by
  have ho := h.or.own_ge
  obtain ⟨cs, h1, h2, h3⟩ := h
  exact ⟨cs, own_keep h1 (fun b e => hb.block b (ho b e).2.1), h2.below hb, h3⟩
theorem SlB.mod {W W' : World} {v : Value} {l : List UInt8} {g0 : Option Nat} {g base : Nat} (h : SlB W v l g0) (hf : Far base v) (hm : Mod g W W') (hg : g < base) : SlB W' v l g0 := by
  obtain ⟨a, n, c, e, hr, hn⟩ := h
  refine ⟨a, n, c, e, ⟨hr.len, hr.le, hr.mx, hr.lm, fun hc => ?_⟩, hn⟩
  obtain ⟨b, o, rfl, hB, hcell⟩ := hr.at_ hc
  have := hf b o none n c e hc
  exact ⟨b, o, rfl, Nat.lt_of_lt_of_le hB hm.size, fun i hi => (hm.cell hB (by omega)).trans (hcell i hi)⟩
theorem RowsCells.mod {W W' : World} {g0 : Option Nat} {g base : Nat} (hm : Mod g W W') (hg : g < base) : ∀ {cs : List Value} {R : List Rw}, (∀ u ∈ cs, Far base u) → RowsCells W g0 cs R → RowsCells W' g0 cs R
  | [], [], _, _ => trivial
  | k :: v :: cs, r :: R, hf, h => ⟨h.1.mod (hf k (by simp)) hm hg, h.2.1.mod (hf v (by simp)) hm hg, RowsCells.mod hm hg (fun u hu => hf u (by simp [hu])) h.2.2⟩
  | [], _ :: _, _, h => h.elim
  | [_], _, _, h => by cases ‹List Rw› <;> exact h.elim
  | _ :: _ :: _, [], _, h => h.elim
theorem OQ.mod {base g : Nat} {W W' : World} {v : Value} {R : List Rw} (h : OQ base W v R) (hm : Mod g W W') (hg : g < base) : OQ base W' v R := by
  have ho := h.or.own_ge
  obtain ⟨cs, h1, h2, h3⟩ := h
  exact ⟨cs, own_keep h1 (fun b e => hm.block' (ho b e).2.1 (by have := (ho b e).1; omega)), h2.mod hm hg h3, h3⟩
/-- In a later world, beside a block that is new. -/
theorem SlB.fresh {W W' : World} {v : Value} {l : List UInt8} {g0 : Option Nat} {g : Nat} (h : SlB W v l g0) (hb : Below W.heap.size W W') (hg : W.heap.size ≤ g) : SlB W' v l (some g) := by
  obtain ⟨a, n, c, e, hr, hn⟩ := h
  refine ⟨a, n, c, e, (hr.below hb).mono hb.size, fun hc b o s ha he => ?_⟩
  obtain ⟨b', o', e', hB, -⟩ := hr.at_ hc
  rw [ha] at e'
  cases e'
  cases he
  omega
theorem RowsCells.fresh {W W' : World} {g0 : Option Nat} {g : Nat} (hb : Below W.heap.size W W') (hg : W.heap.size ≤ g) : ∀ {cs : List Value} {R : List Rw}, RowsCells W g0 cs R → RowsCells W' (some g) cs R
  | [], [], _ => trivial
  | k :: v :: cs, r :: R, h => ⟨h.1.fresh hb hg, h.2.1.fresh hb hg, RowsCells.fresh hb hg h.2.2⟩
  | [], _ :: _, h => h.elim
  | [_], _, h => by cases ‹List Rw› <;> exact h.elim
  | _ :: _ :: _, [], h => h.elim
theorem RowsCells.take {W : World} {g : Option Nat} : ∀ {cs : List Value} {R : List Rw} (i : Nat), RowsCells W g cs R → RowsCells W g (cs.take (i * 2)) (R.take i)
  | [], [], i, _ => by simp; trivial
  | k :: v :: cs, r :: R, 0, _ => trivial
  | k :: v :: cs, r :: R, i + 1, h => by
    rw [show (i + 1) * 2 = i * 2 + 1 + 1 by omega]
    exact ⟨h.1, h.2.1, RowsCells.take i h.2.2⟩
  | [], _ :: _, _, h => h.elim
  | [_], _, _, h => by cases ‹List Rw› <;> exact h.elim
  | _ :: _ :: _, [], _, h => h.elim
theorem RowsCells.drop {W : World} {g : Option Nat} : ∀ {cs : List Value} {R : List Rw} (i : Nat), RowsCells W g cs R → RowsCells W g (cs.drop (i * 2)) (R.drop i)
  | [], [], i, _ => by simp; trivial
  | k :: v :: cs, r :: R, 0, h => h
  | k :: v :: cs, r :: R, i + 1, h => by
    rw [show (i + 1) * 2 = i * 2 + 1 + 1 by omega]
    exact RowsCells.drop i h.2.2
  | [], _ :: _, _, h => h.elim
  | [_], _, _, h => by cases ‹List Rw› <;> exact h.elim
  | _ :: _ :: _, [], _, h => h.elim
theorem rowsCells_one {W : World} {g : Option Nat} : ∀ {cs : List Value} {R : List Rw}, RowsCells W g cs R → ∀ u ∈ cs, u.oneCell' = true
  | [], [], _, u, hu => by cases hu
  | k :: v :: cs, r :: R, h, u, hu => by
    obtain ⟨⟨a, n, c, rfl, -⟩, ⟨a', n', c', rfl, -⟩, h3⟩ := h
    rcases List.mem_cons.1 hu with rfl | hu
    · rfl
    · rcases List.mem_cons.1 hu with rfl | hu
      · rfl
      · exact rowsCells_one h3 u hu
  | [], _ :: _, h, _, _ => h.elim
  | [_], _, h, _, _ => by cases ‹List Rw› <;> exact h.elim
  | _ :: _ :: _, [], h, _, _ => h.elim

/-- append of some rows to own rows. -/
theorem run_append_rows {w : World} {base : Nat} {v : Value} {R1 R2 : List Rw} (h : OQ base w v R1) (ty : TypeId) (sa : Option Addr) (c : Nat) (news : List Value) (hsrc : 0 < R2.length → ∃ ad, sa = some ad ∧ ∀ j u, news[j]? = some u → w.cell? (ad.add j) = some u)
    (hrc : RowsCells w v.ownBlock news R2) (hfar : ∀ u ∈ news, Far base u) (hbase : base ≤ w.heap.size) (hsize : (R1.length + R2.length) * 48 ≤ 140737488355328) :
    ∃ v' w', (Builtin.append_ #[43, 43] ty #[v, .slice sa R2.length c]).run Tryd.prog w = .ok v' w' ∧ OQ base w' v' (R1 ++ R2) ∧ w.grownBy w' v.ownBlock ∧ (v'.ownBlock = v.ownBlock ∨ v'.ownBlock = some w.heap.size) := by
  obtain ⟨i0, hi, hz0, hz1, hz2⟩ := info_parts Tryd.infoRow
  by_cases h0 : R2.length = 0
  · obtain rfl : R2 = [] := List.eq_nil_of_length_eq_zero h0
    obtain ⟨va, vc, rfl, hr⟩ := h.or.rows
    have hrun := run_append_nothing (P := Tryd.prog) w 43 ty 25 i0 Tryd.underlying43 hi va sa R1.length vc c hr.le
    exact ⟨_, w, hrun, by simpa using h, ⟨rfl, rfl, rfl, Nat.le_refl _, fun _ _ _ => rfl⟩, .inl rfl⟩
  · obtain ⟨ad, rfl, hcell⟩ := hsrc (by omega)
    obtain ⟨cs, h1, h2, h3⟩ := h
    obtain ⟨g, cap, w', hrun, hown, hg, hat, hlt⟩ := run_append_lies (P := Tryd.prog) w 43 ty base 25 i0 _ 2 48 Tryd.underlying43 hi hz0 hz1 hz2 rfl (by decide) v R1.length cs h1 ad R2.length c news hrc.len hcell
      (rowsCells_one hrc) (by omega) (by simp only [maxLen]; omega) hsize hbase _ rfl
    refine ⟨_, w', hrun, ⟨cs ++ news, ?_, ?_, ?_⟩, hg, ?_⟩
    · rw [List.length_append]; exact hown
    · exact RowsCells.append (RowsCells.grown hg hat hrc) (RowsCells.grown hg hat h2)
    · intro u hu
      rcases List.mem_append.1 hu with hu | hu
      · exact h3 u hu
      · exact hfar u hu
    · rcases hat with hat | hat
      · left; rw [hat]; rfl
      · right; rw [hat]; rfl

/-- Where own rows lie: their cells. -/
theorem OQ.cells {base : Nat} {W : World} {v : Value} {R : List Rw} (h : OQ base W v R) (hR : 0 < R.length) : ∃ g c cs, v = .slice (some ⟨g, 0, none⟩) R.length c ∧ base ≤ g ∧ g < W.heap.size ∧ R.length ≤ c ∧ c ≤ 9223372036854775807 ∧ RowsCells W v.ownBlock cs R ∧ (∀ u ∈ cs, Far base u) ∧ ∀ j u, cs[j]? = some u → W.cell? ⟨g, j, none⟩ = some u := by
  obtain ⟨cs, ⟨e, ⟨rfl, h0⟩ | ⟨g, cap, cur, hv, hg, hh, hle, hcap, hsz, ht⟩⟩, hrc, hf⟩ := h
  · omega
  · refine ⟨g, cap, cs, hv, hg, (Array.getElem?_eq_some_iff.1 hh).1, hle, by simpa [maxLen] using hcap, hrc, hf, fun j u hu => ?_⟩
    rw [cell_of_row W g j _ _ _ hh]
    rw [← ht, List.getElem?_take] at hu
    split at hu
    · simpa using hu
    · cases hu
end Go.Proofs.YtbinikbgbgggaaaDoor
