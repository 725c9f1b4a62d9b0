/- The law's rows in memory beside the page; a row taken out, a row put behind. What the walk of PageKeeps stands on: the law's state, and what each call of it does to it. -/
import Derived.Test.YtbinikbgbgggaaaGreatDoorKeepC
namespace Go.Proofs.YtbinikbgbgggaaaGreatDoor
open Go.RowKit Go.Shelf

/-- A slice whose memory lies from block base on. -/
def Far (base : Nat) (u : Value) : Prop := ∀ b o s n c, u = .slice (some ⟨b, o, s⟩) n c → 0 < c → base ≤ b
/-- A list of rows in own memory, its rows' bytes too. -/
def OQ (base : Nat) (W : World) (v : Value) (R : List Rw) : Prop := ∃ cs, W.ownsRow base 60 2 v R.length cs ∧ RowsCells W v.ownBlock cs R ∧ ∀ u ∈ cs, Far base u
theorem OQ.or {base : Nat} {W : World} {v : Value} {R : List Rw} (h : OQ base W v R) : OR base W v R := by
  obtain ⟨cs, h1, h2, -⟩ := h
  exact ⟨cs, h1, h2⟩
theorem OQ.nil (base : Nat) (W : World) : OQ base W (.slice none 0 0) [] := ⟨[], World.ownsRow_nil _ _ _ _, trivial, fun u hu => by cases hu⟩
theorem own_keep {base size n : Nat} {e : TypeId} {W W' : World} {v : Value} {xs : List Value} (h : W.ownsRow base e size v n xs) (hk : ∀ b, v.ownBlock = some b → W'.heap[b]? = W.heap[b]?) : W'.ownsRow base e size v n xs := by
  obtain ⟨e1, h3 | ⟨g, cap, cur, hv, hg, hh, r⟩⟩ := h
  · exact ⟨e1, .inl h3⟩
  · exact ⟨e1, .inr ⟨g, cap, cur, hv, hg, (hk g (by rw [hv]; rfl)).trans hh, r⟩⟩
theorem OQ.below {base : Nat} {W W' : World} {v : Value} {R : List Rw} (h : OQ base W v R) (hb : Below W.heap.size W W') : OQ base W' v R := by
  have ho := h.or.own_ge
  obtain ⟨cs, h1, h2, h3⟩ := h
  exact ⟨cs, own_keep h1 (fun b e => hb.block b (ho b e).2.1), h2.below hb, h3⟩
theorem SlB.mod {W W' : World} {v : Value} {l : List UInt8} {g0 : Option Nat} {g base : Nat} (h : SlB W v l g0) (hf : Far base v) (hm : Mod g W W') (hg : g < base) : SlB W' v l g0 := by
  obtain ⟨a, n, c, e, hr, hn⟩ := h
  refine ⟨a, n, c, e, ⟨hr.len, hr.le, hr.mx, hr.lm, fun hc => ?_⟩, hn⟩
  obtain ⟨b, o, rfl, hB, hcell⟩ := hr.at_ hc
  have := hf b o none n c e hc
  exact ⟨b, o, rfl, Nat.lt_of_lt_of_le hB hm.size, fun i hi => (hm.cell hB (by omega)).trans (hcell i hi)⟩
theorem RowsCells.mod {W W' : World} {g0 : Option Nat} {g base : Nat} (hm : Mod g W W') (hg : g < base) : ∀ {cs : List Value} {R : List Rw}, (∀ u ∈ cs, Far base u) → RowsCells W g0 cs R → RowsCells W' g0 cs R
  | [], [], _, _ => trivial
  | k :: v :: cs, r :: R, hf, h => ⟨h.1.mod (hf k (by simp)) hm hg, h.2.1.mod (hf v (by simp)) hm hg, RowsCells.mod hm hg (fun u hu => hf u (by simp [hu])) h.2.2⟩
  | [], _ :: _, _, h => h.elim
  | [_], _, _, h => by cases ‹List Rw› <;> exact h.elim
  | _ :: _ :: _, [], _, h => h.elim
theorem OQ.mod {base g : Nat} {W W' : World} {v : Value} {R : List Rw} (h : OQ base W v R) (hm : Mod g W W') (hg : g < base) : OQ base W' v R := by
  have ho := h.or.own_ge
  obtain ⟨cs, h1, h2, h3⟩ := h
  exact ⟨cs, own_keep h1 (fun b e => hm.block' (ho b e).2.1 (by have := (ho b e).1; omega)), h2.mod hm hg h3, h3⟩
/-- In a later world, beside a block that is new. -/
theorem SlB.fresh {W W' : World} {v : Value} {l : List UInt8} {g0 : Option Nat} {g : Nat} (h : SlB W v l g0) (hb : Below W.heap.size W W') (hg : W.heap.size ≤ g) : SlB W' v l (some g) := by
  obtain ⟨a, n, c, e, hr, hn⟩ := h
  refine ⟨a, n, c, e, (hr.below hb).mono hb.size, fun hc b o s ha he => ?_⟩
  obtain ⟨b', o', e', hB, -⟩ := hr.at_ hc
  rw [ha] at e'
  cases e'
  cases he
  omega
theorem RowsCells.fresh {W W' : World} {g0 : Option Nat} {g : Nat} (hb : Below W.heap.size W W') (hg : W.heap.size ≤ g) : ∀ {cs : List Value} {R : List Rw}, RowsCells W g0 cs R → RowsCells W' (some g) cs R
  | [], [], _ => trivial
  | k :: v :: cs, r :: R, h => ⟨h.1.fresh hb hg, h.2.1.fresh hb hg, RowsCells.fresh hb hg h.2.2⟩
  | [], _ :: _, h => h.elim
  | [_], _, h => by cases ‹List Rw› <;> exact h.elim
  | _ :: _ :: _, [], h => h.elim
theorem RowsCells.take {W : World} {g : Option Nat} : ∀ {cs : List Value} {R : List Rw} (i : Nat), RowsCells W g cs R → RowsCells W g (cs.take (i * 2)) (R.take i)
  | [], [], i, _ => by simp; trivial
  | k :: v :: cs, r :: R, 0, _ => trivial
  | k :: v :: cs, r :: R, i + 1, h => by
    rw [show (i + 1) * 2 = i * 2 + 1 + 1 by omega]
    exact ⟨h.1, h.2.1, RowsCells.take i h.2.2⟩
  | [], _ :: _, _, h => h.elim
  | [_], _, _, h => by cases ‹List Rw› <;> exact h.elim
  | _ :: _ :: _, [], _, h => h.elim
theorem RowsCells.drop {W : World} {g : Option Nat} : ∀ {cs : List Value} {R : List Rw} (i : Nat), RowsCells W g cs R → RowsCells W g (cs.drop (i * 2)) (R.drop i)
  | [], [], i, _ => by simp; trivial
  | k :: v :: cs, r :: R, 0, h => h
  | k :: v :: cs, r :: R, i + 1, h => by
    rw [show (i + 1) * 2 = i * 2 + 1 + 1 by omega]
    exact RowsCells.drop i h.2.2
  | [], _ :: _, _, h => h.elim
  | [_], _, _, h => by cases ‹List Rw› <;> exact h.elim
  | _ :: _ :: _, [], _, h => h.elim
theorem rowsCells_one {W : World} {g : Option Nat} : ∀ {cs : List Value} {R : List Rw}, RowsCells W g cs R → ∀ u ∈ cs, u.oneCell' = true
  | [], [], _, u, hu => by cases hu
  | k :: v :: cs, r :: R, h, u, hu => by
    obtain ⟨⟨a, n, c, rfl, -⟩, ⟨a', n', c', rfl, -⟩, h3⟩ := h
    rcases List.mem_cons.1 hu with rfl | hu
    · rfl
    · rcases List.mem_cons.1 hu with rfl | hu
      · rfl
      · exact rowsCells_one h3 u hu
  | [], _ :: _, h, _, _ => h.elim
  | [_], _, h, _, _ => by cases ‹List Rw› <;> exact h.elim
  | _ :: _ :: _, [], h, _, _ => h.elim

/-- append of some rows to own rows. -/
theorem run_append_rows {w : World} {base : Nat} {v : Value} {R1 R2 : List Rw} (h : OQ base w v R1) (ty : TypeId) (sa : Option Addr) (c : Nat) (news : List Value) (hsrc : 0 < R2.length → ∃ ad, sa = some ad ∧ ∀ j u, news[j]? = some u → w.cell? (ad.add j) = some u)
    (hrc : RowsCells w v.ownBlock news R2) (hfar : ∀ u ∈ news, Far base u) (hbase : base ≤ w.heap.size) (hsize : (R1.length + R2.length) * 48 ≤ 140737488355328) :
    ∃ v' w', (Builtin.append_ #[28, 28] ty #[v, .slice sa R2.length c]).run Tryz.prog w = .ok v' w' ∧ OQ base w' v' (R1 ++ R2) ∧ w.grownBy w' v.ownBlock ∧ (v'.ownBlock = v.ownBlock ∨ v'.ownBlock = some w.heap.size) := by
  obtain ⟨i0, hi, hz0, hz1, hz2⟩ := info_parts Tryz.infoRow
  by_cases h0 : R2.length = 0
  · obtain rfl : R2 = [] := List.eq_nil_of_length_eq_zero h0
    obtain ⟨va, vc, rfl, hr⟩ := h.or.rows
    have hrun := run_append_nothing (P := Tryz.prog) w 28 ty 60 i0 Tryz.underlying28 hi va sa R1.length vc c hr.le
    exact ⟨_, w, hrun, by simpa using h, ⟨rfl, rfl, rfl, Nat.le_refl _, fun _ _ _ => rfl⟩, .inl rfl⟩
  · obtain ⟨ad, rfl, hcell⟩ := hsrc (by omega)
    obtain ⟨cs, h1, h2, h3⟩ := h
    obtain ⟨g, cap, w', hrun, hown, hg, hat, hlt⟩ := run_append_lies (P := Tryz.prog) w 28 ty base 60 i0 _ 2 48 Tryz.underlying28 hi hz0 hz1 hz2 rfl (by decide) v R1.length cs h1 ad R2.length c news hrc.len hcell
      (rowsCells_one hrc) (by omega) (by simp only [maxLen]; omega) hsize hbase _ rfl
    refine ⟨_, w', hrun, ⟨cs ++ news, ?_, ?_, ?_⟩, hg, ?_⟩
    · rw [List.length_append]; exact hown
    · exact RowsCells.append (RowsCells.grown hg hat hrc) (RowsCells.grown hg hat h2)
    · intro u hu
      rcases List.mem_append.1 hu with hu | hu
      · exact h3 u hu
      · exact hfar u hu
    · rcases hat with hat | hat
      · left; rw [hat]; rfl
      · right; rw [hat]; rfl

/-- Where own rows lie: their cells. -/
theorem OQ.cells {base : Nat} {W : World} {v : Value} {R : List Rw} (h : OQ base W v R) (hR : 0 < R.length) : ∃ g c cs, v = .slice (some ⟨g, 0, none⟩) R.length c ∧ base ≤ g ∧ g < W.heap.size ∧ R.length ≤ c ∧ c ≤ 9223372036854775807 ∧ RowsCells W v.ownBlock cs R ∧ (∀ u ∈ cs, Far base u) ∧ ∀ j u, cs[j]? = some u → W.cell? ⟨g, j, none⟩ = some u := by
  obtain ⟨cs, ⟨e, ⟨rfl, h0⟩ | ⟨g, cap, cur, hv, hg, hh, hle, hcap, hsz, ht⟩⟩, hrc, hf⟩ := h
  · omega
  · refine ⟨g, cap, cs, hv, hg, (Array.getElem?_eq_some_iff.1 hh).1, hle, by simpa [maxLen] using hcap, hrc, hf, fun j u hu => ?_⟩
    rw [cell_of_row W g j _ _ _ hh]
    rw [← ht, List.getElem?_take] at hu
    split at hu
    · simpa using hu
    · cases hu
end Go.Proofs.YtbinikbgbgggaaaGreatDoor
namespace Go.Proofs.YtbinikbgbgggaaaGreatDoor
open Go.RowKit Go.Shelf

def lsN (h : List UInt8) : Nat := numL (h.take 8)
def nxN (h : List UInt8) : Nat := (bt h 8).toNat * 256 + (bt h 9).toNat

/-- Where the law stands, at its loop's head and behind the switch. -/
structure KeepAt (w wr : World) (g : Nat) (v : Value) (h : List UInt8) (R L : List Rw) : Prop where
  pg : PG wr g 512 (mkP h R) []
  ok : PageOf h R
  bl : Below w.heap.size w wr
  gw : w.heap.size ≤ g
  oq : OQ (g + 1) wr v L
theorem KeepAt.below {w wr w' : World} {g : Nat} {v : Value} {h : List UInt8} {R L : List Rw} (k : KeepAt w wr g v h R L) (hb : Below wr.heap.size wr w') : KeepAt w w' g v h R L :=
  ⟨k.pg.below hb k.pg.lt, k.ok, k.bl.trans (hb.mono k.bl.size), k.gw, k.oq.below hb⟩
theorem KeepAt.mod {w wr w' : World} {g : Nat} {v : Value} {h h' : List UInt8} {R R' L : List Rw} (k : KeepAt w wr g v h R L) (hm : Mod g wr w') (hp : PG w' g 512 (mkP h' R') []) (ho : PageOf h' R') : KeepAt w w' g v h' R' L :=
  ⟨hp, ho, Below.mod k.bl hm k.gw k.bl.size, k.gw, k.oq.mod hm (by omega)⟩
theorem KeepAt.lsn {w wr : World} {g : Nat} {v : Value} {h : List UInt8} {R L : List Rw} (k : KeepAt w wr g v h R L) :
    Calls Tryz.prog 18 #[.slice (some ⟨g, 0, none⟩) 512 512] wr fun e w' => e = .returned (.int .i64 (lsN h : Nat)) ∧ Below wr.heap.size wr w' := by
  have := Lsn_any wr.heap.size (some ⟨g, 0, none⟩) 512 512 (mkP h R) wr k.pg.rb (Nat.le_refl _)
  rw [lsn_mk k.ok] at this
  exact this
theorem KeepAt.next {w wr : World} {g : Nat} {v : Value} {h : List UInt8} {R L : List Rw} (k : KeepAt w wr g v h R L) :
    Calls Tryz.prog 20 #[.slice (some ⟨g, 0, none⟩) 512 512] wr fun e w' => e = .returned (.int .i64 (nxN h : Nat)) ∧ Below wr.heap.size wr w' := by
  have := Next_any wr.heap.size (some ⟨g, 0, none⟩) 512 512 (mkP h R) wr k.pg.rb (Nat.le_refl _)
  rw [next_mk k.ok] at this
  exact this
theorem lsN_lt {h : List UInt8} {R : List Rw} (H : PageOf h R) : lsN h < 9223372036854775808 := by
  have h1 := H.hl
  have := numL_lt 7 h (by omega) H.h0
  unfold lsN
  simpa using this
theorem nxN_lt {h : List UInt8} {R : List Rw} (H : PageOf h R) : nxN h < 8192 := by
  have h1 := H.h8
  have h2 := bt_bd h 8
  have h3 := bt_bd h 9
  unfold nxN
  omega
theorem KeepAt.setLsn {w wr : World} {g : Nat} {v : Value} {h : List UInt8} {R L : List Rw} (k : KeepAt w wr g v h R L) (x : Int) (hx : x ≤ 9223372036854775807) :
    Calls Tryz.prog 17 #[.slice (some ⟨g, 0, none⟩) 512 512, .int .i64 x] wr fun e w' => e = .returned (.bool (decide (0 ≤ x))) ∧ Mod g wr w' ∧ if 0 ≤ x then ∃ h', KeepAt w w' g v h' R L ∧ (lsN h' : Int) = x ∧ nxN h' = nxN h else KeepAt w w' g v h R L := by
  refine (SetLsn_any g 512 (mkP h R) [] x wr k.pg hx).mono ?_
  rintro e w' ⟨rfl, hp, hm⟩
  have hb : 0 < behindL (mkP h R) := by rw [behind_mk k.ok]; omega
  refine ⟨by congr 2; simp [hb], hm, ?_⟩
  split
  · rename_i h0
    obtain ⟨e1, e2, e3, e4, e5⟩ := setLsn_mk k.ok h0 hx
    rw [e1] at hp
    refine ⟨_, k.mod hm hp e2, ?_, ?_⟩
    · unfold lsN; rw [e3]; omega
    · unfold nxN; rw [e4, e5]
  · rename_i h0
    rw [setLsn_no _ (by omega)] at hp
    exact k.mod hm hp k.ok
theorem KeepAt.setNext {w wr : World} {g : Nat} {v : Value} {h : List UInt8} {R L : List Rw} (k : KeepAt w wr g v h R L) (x : Int) :
    Calls Tryz.prog 19 #[.slice (some ⟨g, 0, none⟩) 512 512, .int .i64 x] wr fun e w' => e = .returned (.bool (decide (0 ≤ x ∧ x < 8192))) ∧ Mod g wr w' ∧ if 0 ≤ x ∧ x < 8192 then ∃ h', KeepAt w w' g v h' R L ∧ lsN h' = lsN h ∧ (nxN h' : Int) = x else KeepAt w w' g v h R L := by
  refine (SetNext_any g 512 (mkP h R) [] x wr k.pg).mono ?_
  rintro e w' ⟨rfl, hp, hm⟩
  have hb : 0 < behindL (mkP h R) := by rw [behind_mk k.ok]; omega
  refine ⟨by congr 2; simp [hb], hm, ?_⟩
  split
  · rename_i h0
    obtain ⟨e1, e2, e3, e4⟩ := setNext_mk k.ok h0.1 h0.2
    rw [e1] at hp
    refine ⟨_, k.mod hm hp e2, ?_, ?_⟩
    · unfold lsN; exact e3
    · unfold nxN; rw [e4]; omega
  · rename_i h0
    rw [setNext_no _ h0] at hp
    exact k.mod hm hp k.ok
theorem KeepAt.setLsn_yes {w wr : World} {g : Nat} {v : Value} {h : List UInt8} {R L : List Rw} (k : KeepAt w wr g v h R L) (x : Int) (hx : x ≤ 9223372036854775807) (h0 : 0 ≤ x) :
    Calls Tryz.prog 17 #[.slice (some ⟨g, 0, none⟩) 512 512, .int .i64 x] wr fun e w' => e = .returned (.bool true) ∧ Mod g wr w' ∧ ∃ h', KeepAt w w' g v h' R L ∧ (lsN h' : Int) = x ∧ nxN h' = nxN h := by
  refine (k.setLsn x hx).mono ?_
  rw [decide_eq_true h0]
  rintro e w' ⟨rfl, hm, hk⟩
  rw [if_pos h0] at hk
  exact ⟨rfl, hm, hk⟩
theorem KeepAt.setLsn_no {w wr : World} {g : Nat} {v : Value} {h : List UInt8} {R L : List Rw} (k : KeepAt w wr g v h R L) (x : Int) (hx : x ≤ 9223372036854775807) (h0 : ¬ 0 ≤ x) :
    Calls Tryz.prog 17 #[.slice (some ⟨g, 0, none⟩) 512 512, .int .i64 x] wr fun e w' => e = .returned (.bool false) ∧ Mod g wr w' ∧ KeepAt w w' g v h R L := by
  refine (k.setLsn x hx).mono ?_
  rw [decide_eq_false h0]
  rintro e w' ⟨rfl, hm, hk⟩
  rw [if_neg h0] at hk
  exact ⟨rfl, hm, hk⟩
theorem KeepAt.setNext_yes {w wr : World} {g : Nat} {v : Value} {h : List UInt8} {R L : List Rw} (k : KeepAt w wr g v h R L) (x : Int) (h0 : 0 ≤ x ∧ x < 8192) :
    Calls Tryz.prog 19 #[.slice (some ⟨g, 0, none⟩) 512 512, .int .i64 x] wr fun e w' => e = .returned (.bool true) ∧ Mod g wr w' ∧ ∃ h', KeepAt w w' g v h' R L ∧ lsN h' = lsN h ∧ (nxN h' : Int) = x := by
  refine (k.setNext x).mono ?_
  rw [decide_eq_true h0]
  rintro e w' ⟨rfl, hm, hk⟩
  rw [if_pos h0] at hk
  exact ⟨rfl, hm, hk⟩
theorem KeepAt.setNext_no {w wr : World} {g : Nat} {v : Value} {h : List UInt8} {R L : List Rw} (k : KeepAt w wr g v h R L) (x : Int) (h0 : ¬ (0 ≤ x ∧ x < 8192)) :
    Calls Tryz.prog 19 #[.slice (some ⟨g, 0, none⟩) 512 512, .int .i64 x] wr fun e w' => e = .returned (.bool false) ∧ Mod g wr w' ∧ KeepAt w w' g v h R L := by
  refine (k.setNext x).mono ?_
  rw [decide_eq_false h0]
  rintro e w' ⟨rfl, hm, hk⟩
  rw [if_neg h0] at hk
  exact ⟨rfl, hm, hk⟩
theorem KeepAt.turn {w wr : World} {g : Nat} {v : Value} {h : List UInt8} {R L : List Rw} (k : KeepAt w wr g v h R L) (ka oa na : Option Addr) (kn kc on oc nn nc : Nat) (K O N : List UInt8)
    (hk : RBn g wr.heap.size wr ka kn kc K) (ho : RBn g wr.heap.size wr oa on oc O) (hn : RBn g wr.heap.size wr na nn nc N) :
    Calls Tryz.prog 14 #[.slice (some ⟨g, 0, none⟩) 512 512, .agg #[.slice ka kn kc, .slice oa on oc, .slice na nn nc]] wr fun e w' => e = .returned (.int .i64 ((turnL (mkP h R) K O N).1 : Nat)) ∧ PG w' g 512 (turnL (mkP h R) K O N).2 [] ∧ Mod g wr w' :=
  Turn_any g 512 (mkP h R) [] wr.heap.size ka oa na kn kc on oc nn nc K O N wr k.pg hk ho hn (Nat.le_refl _)
/-- A copy of a page is a page. -/
theorem OB.pg {base : Nat} {W : World} {v : Value} {l : List UInt8} (h : OB base W v l) (hl : l.length = 512) : ∃ gb c X, v = .slice (some ⟨gb, 0, none⟩) 512 c ∧ base ≤ gb ∧ PG W gb c l X := by
  obtain ⟨e, ⟨-, h0⟩ | ⟨g, cap, cur, hv, hg, hh, hle, hcap, hsz, ht⟩⟩ := h
  · omega
  · refine ⟨g, cap, cur.toList.drop 512, by rw [hv, hl], hg, ⟨?_, hl, ?_, by simpa [maxLen] using hcap⟩⟩
    · rw [hh]
      have : l.map bv ++ cur.toList.drop 512 = cur.toList := by
        rw [← ht, hl]; exact List.take_append_drop _ _
      rw [this]
    · have h1 : cur.toList.length = cap := by simpa using hsz
      have h2 : (l.map bv ++ cur.toList.drop 512).length = cur.toList.length := by
        have : l.map bv ++ cur.toList.drop 512 = cur.toList := by
          rw [← ht, hl]; exact List.take_append_drop _ _
        rw [this]
      rw [List.length_append, List.length_map, hl] at h2
      omega
/-- One of own rows. -/
theorem OQ.get {base : Nat} {W : World} {v : Value} {R : List Rw} (h : OQ base W v R) {i : Nat} {r : Rw} (hi : R[i]? = some r) : ∃ b c va vn vc, v = .slice (some ⟨b, 0, none⟩) R.length c ∧ b < W.heap.size ∧ base ≤ b ∧ W.cell? ⟨b, i * 2 + 1, none⟩ = some (.slice va vn vc) ∧ RB W.heap.size W va vn vc r.2 ∧ Far base (.slice va vn vc) := by
  have hlt : i < R.length := (List.getElem?_eq_some_iff.1 hi).1
  obtain ⟨g, c, cs, hv, hg1, hg2, -, -, hrc, hf, hcell⟩ := h.cells (by omega)
  obtain ⟨ka, kn, kc, va, vn, vc, h1, h2, h3, h4⟩ := rowsCells_get hrc hi
  exact ⟨g, c, va, vn, vc, hv, hg2, hg1, hcell _ _ h2, h4, hf _ (List.mem_of_getElem? h2)⟩
theorem RBn.of_rb {g B : Nat} {w : World} {a : Option Addr} {n c : Nat} {l : List UInt8} (h : RB B w a n c l) (hB : B ≤ g) : RBn g B w a n c l :=
  ⟨h, fun hc b o s e => by
    obtain ⟨b', o', e', hb, -⟩ := h.at_ hc
    rw [e] at e'; cases e'; omega⟩
theorem RBn.of_far {g B : Nat} {w : World} {a : Option Addr} {n c : Nat} {l : List UInt8} (h : RB B w a n c l) (hf : Far (g + 1) (.slice a n c)) : RBn g B w a n c l :=
  ⟨h, fun hc b o s e => by have := hf b o s n c (by rw [e]) hc; omega⟩
theorem RBn.mono {g B B' : Nat} {w : World} {a : Option Addr} {n c : Nat} {l : List UInt8} (h : RBn g B w a n c l) (hb : B ≤ B') : RBn g B' w a n c l := ⟨h.rb.mono hb, h.ne⟩
theorem RBn.below {g B : Nat} {w w' : World} {a : Option Addr} {n c : Nat} {l : List UInt8} (h : RBn g B w a n c l) (hb : Below B w w') : RBn g B w' a n c l := ⟨h.rb.below hb, h.ne⟩
theorem T3.set1 {W : World} {z : Nat} {v0 v1 v2 : Value} (h : T3 W z v0 v1 v2) (u : Value) : T3 (W.setCell ⟨z, 1, none⟩ u) z v0 u v2 := by
  unfold T3 at h ⊢
  simp [World.setCell, Array.getElem?_modify, h]
theorem T3.new (W : World) (v0 v1 v2 : Value) : T3 (W.alloc (.cells #[v0, v1, v2] 36)) W.heap.size v0 v1 v2 := heap_alloc_new W _
theorem T3.drewN {W : World} {z : Nat} {v0 v1 v2 : Value} (h : T3 W z v0 v1 v2) (q : Nat) : T3 (W.drewN q) z v0 v1 v2 := h
/-- The block of a boxed Do. -/
def X7 (W : World) (z : Nat) (d : DoV) : Prop := W.heap[z]? = some (.cells #[.int .i64 d.op, .int .i64 d.next, .int .i64 d.lsn, .slice d.ka d.kn d.kc, .slice d.oa d.on d.oc, .slice d.na d.nn d.nc, .bool d.take] 47 (0, 0))
theorem X7.below {B : Nat} {W W' : World} {z : Nat} {d : DoV} (h : X7 W z d) (hb : Below B W W') (hz : z < B) : X7 W' z d := (hb.block z hz).trans h
theorem X7.mod {g : Nat} {W W' : World} {z : Nat} {d : DoV} (h : X7 W z d) (hm : Mod g W W') (hne : z ≠ g) : X7 W' z d := (hm.block' (Array.getElem?_eq_some_iff.1 h).1 hne).trans h
theorem X7.lt {W : World} {z : Nat} {d : DoV} (h : X7 W z d) : z < W.heap.size := (Array.getElem?_eq_some_iff.1 h).1
theorem X7.cells {W : World} {z : Nat} {d : DoV} (h : X7 W z d) : W.cell? ⟨z, 0, none⟩ = some (.int .i64 d.op) ∧ W.cell? ⟨z, 1, none⟩ = some (.int .i64 d.next) ∧ W.cell? ⟨z, 2, none⟩ = some (.int .i64 d.lsn) ∧ W.cell? ⟨z, 3, none⟩ = some (.slice d.ka d.kn d.kc) ∧
    W.cell? ⟨z, 4, none⟩ = some (.slice d.oa d.on d.oc) ∧ W.cell? ⟨z, 5, none⟩ = some (.slice d.na d.nn d.nc) ∧ W.cell? ⟨z, 6, none⟩ = some (.bool d.take) := by
  unfold X7 at h; simp [World.cell?, h]
theorem DosAt.cut {B : Nat} {w : World} {la : Option Addr} {ln lc : Nat} {D : Nat → DoV} (h : DosAt B w la ln lc D) (m : Nat) (hm : m ≤ ln) : DosAt B w la m lc D :=
  ⟨Nat.le_trans hm h.le, h.mx, fun hc => by
    obtain ⟨b, o, e, hB, hi⟩ := h.at_ hc
    exact ⟨b, o, e, hB, fun i hi' => hi i (by omega)⟩⟩
/-- The numbers that a Do holds are int's. -/
structure DoOk (d : DoV) : Prop where
  o0 : -9223372036854775808 ≤ d.op
  o1 : d.op ≤ 9223372036854775807
  n0 : -9223372036854775808 ≤ d.next
  n1 : d.next ≤ 9223372036854775807
  l0 : -9223372036854775808 ≤ d.lsn
  l1 : d.lsn ≤ 9223372036854775807
/-- The law's rows without a key's. -/
def cutL (L : List Rw) (k : List UInt8) : List Rw := match fidx L k with | some i => L.take i ++ L.drop (i + 1) | none => L
theorem rowsTo_cut (L : List Rw) (k n : List UInt8) : rowsTo L k n = cutL L k ++ sel k n := rfl
theorem KeepAt.cow {w wr : World} {g : Nat} {v v' : Value} {h : List UInt8} {R L L' : List Rw} (k : KeepAt w wr g v h R L) {w' : World} (hb : Below wr.heap.size wr w') (hq : OQ (g + 1) w' v' L') : KeepAt w w' g v' h R L' :=
  ⟨k.pg.below hb k.pg.lt, k.ok, k.bl.trans (hb.mono k.bl.size), k.gw, hq⟩
theorem perm_len {L R : List Rw} {h : List UInt8} (hp : L.Perm R) (H : PageOf h R) : L.length < 256 := by
  have := enc_ge H.ok
  have := H.fit
  have := hp.length_eq
  omega
theorem RB.grow {N : Nat} {W W' : World} {row : Option Nat} {a : Option Addr} {n c : Nat} {l : List UInt8} (h : RB N W a n c l) (hg : W.grownBy W' row) (hN : N ≤ W.heap.size) (hne : 0 < n → ∀ b o s, a = some ⟨b, o, s⟩ → some b ≠ row) : RB N W' a n c l :=
  ⟨h.len, h.le, h.mx, h.lm, fun hc => by
    obtain ⟨b, o, rfl, hB, hcell⟩ := h.at_ hc
    exact ⟨b, o, rfl, hB, fun i hi => (hg.cell_far ⟨b, o + i, none⟩ (by show b < _; omega) (hne (by omega) b o none rfl)).trans (hcell i hi)⟩⟩
theorem T3.grow {W W' : World} {row : Option Nat} {z : Nat} {v0 v1 v2 : Value} (h : T3 W z v0 v1 v2) (hg : W.grownBy W' row) (hne : some z ≠ row) : T3 W' z v0 v1 v2 := (hg.block z h.lt hne).trans h
theorem KeepAt.grow {w wr w' : World} {g : Nat} {v v' : Value} {h : List UInt8} {R L L' : List Rw} (k : KeepAt w wr g v h R L) (hg : wr.grownBy w' v.ownBlock) (hq : OQ (g + 1) w' v' L') : KeepAt w w' g v' h R L' := by
  have ho := k.oq.or.own_ge
  refine ⟨⟨(hg.block g k.pg.lt (fun e => by have := (ho g e.symm).1; omega)).trans k.pg.blk, k.pg.len, k.pg.cap, k.pg.mx⟩, k.ok, k.bl.grown hg k.bl.size (fun r e => by have := (ho r e).1; have := k.gw; omega), k.gw, hq⟩
theorem run_append_op {P : Program} {w w' : World} {ev : Operand → Value} {o : Oper} {s x : Operand} {t : TypeId} {v u v' : Value} (ho : o.op = .call { callee := .builtin .append, args := #[s, x], argTypes := #[t, t] }) (hs : ev s = v) (hx : ev x = u)
    (hr : (Builtin.append_ #[t, t] o.type #[v, u]).run P w = .ok v' w') : (execOp ev o).run P w = .ok (.value v') w' := by
  unfold execOp
  simp only [ho, resolve, invoke, builtin, Sem.run_bind, Sem.run_pure, Result.andThen_ok, List.map_toArray, List.map_cons, List.map_nil, hs, hx, hr]
theorem run_buildSlice0 {ev : Operand → Value} {o : Oper} (ho : o.op = .buildSlice 28 0 #[]) (w : World) :
    (execOp ev o).run Tryz.prog w = .ok (.value (.slice (some ⟨w.heap.size, 0, none⟩) 0 0)) (w.alloc (.cells #[] 60)) := by
  simp [execOp, ho, go_sem]
theorem wpList_append_rows {w : World} {ops : Array Oper} {rest : List Oper} {o : Oper} {a : Act} {Q : Exit → Act → World → Prop} (hgd : o.guard = none) (s x : Operand)
    (ho : o.op = .call { callee := .builtin .append, args := #[s, x], argTypes := #[28, 28] }) (base : Nat) (v : Value) (R1 R2 : List Rw) (hs : a.eval s = v) (h : OQ base w v R1) (sa : Option Addr) (c : Nat) (news : List Value)
    (hx : a.eval x = .slice sa R2.length c) (hsrc : 0 < R2.length → ∃ ad, sa = some ad ∧ ∀ j u, news[j]? = some u → w.cell? (ad.add j) = some u) (hrc : RowsCells w v.ownBlock news R2) (hfar : ∀ u ∈ news, Far base u) (hbase : base ≤ w.heap.size) (hsize : (R1.length + R2.length) * 48 ≤ 140737488355328)
    (hK : ∀ a' c' w', OQ base w' (.slice a' (R1 ++ R2).length c') (R1 ++ R2) → w.grownBy w' v.ownBlock → wpList Tryz.prog ops Q rest (a.put o.dst (.slice a' (R1 ++ R2).length c')) w') : wpList Tryz.prog ops Q (o :: rest) a w := by
  obtain ⟨v', w', hr, hq, hg, -⟩ := run_append_rows h o.type sa c news hsrc hrc hfar hbase hsize
  obtain ⟨a', c', rfl, -⟩ := hq.or.rows
  refine wpList_plain hgd fun K hK' => ?_
  unfold Oper.wp
  rw [run_append_op ho hs hx hr]
  exact hK' _ _ (hK a' c' w' hq hg)
theorem OQ.made {W : World} {base : Nat} (hb : base ≤ W.heap.size) : OQ base (W.alloc (.cells #[] 60)) (.slice (some ⟨W.heap.size, 0, none⟩) 0 0) [] := by
  refine ⟨[], ?_, trivial, fun u hu => by cases hu⟩
  have h := World.ownsRow_made (e := 60) (size := 2) W #[] 0 (Nat.le_refl _) (by simp) rfl
  obtain ⟨e, ⟨h1, -⟩ | ⟨g, cap, cur, hv, hg, r⟩⟩ := h
  · cases h1
  · exact ⟨rfl, .inr ⟨g, cap, cur, hv, Nat.le_trans hb hg, r⟩⟩
/-- Rows of a call's own, out of two fresh slices of bytes. -/
theorem rows_one {base : Nat} {W W1 : World} {g0 : Option Nat} {a0 a1 : Option Addr} {n0 n1 c0 c1 : Nat} {K N : List UInt8} (h0 : OB base W (.slice a0 n0 c0) K) (h1 : OB base W (.slice a1 n1 c1) N) (hk : K.length ≤ 140737488355328) (hn : N.length ≤ 140737488355328) (hg : ∀ b, g0 = some b → b < base) (hb : Below W.heap.size W W1) :
    RowsCells W1 g0 [.slice a0 n0 c0, .slice a1 n1 c1] [(K, N)] ∧ ∀ u ∈ [Value.slice a0 n0 c0, Value.slice a1 n1 c1], Far base u := by
  have f : ∀ {a n c l}, OB base W (.slice a n c) l → Far base (.slice a n c) := fun h b o s n' c' e hc => by
    cases e
    obtain ⟨e1, ⟨hv, h0⟩ | ⟨g', cap, cur, hv, hg', -⟩⟩ := h
    · cases hv
    · cases hv; exact hg'
  obtain ⟨-, -, -, s0⟩ := h0.slB hk hg
  obtain ⟨-, -, -, s1⟩ := h1.slB hn hg
  refine ⟨⟨s0.below hb, s1.below hb, trivial⟩, fun u hu => ?_⟩
  rcases List.mem_cons.1 hu with rfl | hu
  · exact f h0
  · rcases List.mem_cons.1 hu with rfl | hu
    · exact f h1
    · cases hu
theorem run_slice_to {ev : Operand → Value} {o : Oper} {x hi : Operand} {b n c k : Nat} (ho : o.op = .slice 28 x none (some hi) none) (hx : ev x = .slice (some ⟨b, 0, none⟩) n c) (hh : ev hi = .int .i64 (k : Int)) (hk : k ≤ c) (hc : c ≤ 9223372036854775807) (w : World) :
    (execOp ev o).run Tryz.prog w = .ok (.value (.slice (some ⟨b, 0, none⟩) k c)) w := by
  have h1 : (k : Int) ≤ (c : Int) := by omega
  have h2 : ¬ (c : Int) < (k : Int) := by omega
  simp [execOp, ho, hx, hh, go_sem, h1, h2]
theorem run_slice_from {ev : Operand → Value} {o : Oper} {x lo : Operand} {b n c k : Nat} (ho : o.op = .slice 28 x (some lo) none none) (hx : ev x = .slice (some ⟨b, 0, none⟩) n c) (hh : ev lo = .int .i64 (k : Int)) (hk : k ≤ n) (hn : n ≤ c) (hc : c ≤ 9223372036854775807) (w : World) :
    (execOp ev o).run Tryz.prog w = .ok (.value (.slice (some ⟨b, if k = c then 0 else k * 2, none⟩) (n - k) (c - k))) w := by
  have h1 : (k : Int) ≤ (n : Int) := by omega
  have h2 : ¬ (n : Int) < (k : Int) := by omega
  have h3 : (n : Int) ≤ (c : Int) := by omega
  by_cases hkc : k = c
  · simp [execOp, ho, hx, hh, go_sem, h1, h2, h3, hkc]
    intro h; omega
  · simp [execOp, ho, hx, hh, go_sem, h1, h2, h3, hkc]
    intro h; omega
/-- The rows but one, put together in new memory. -/
theorem erase_append {base : Nat} {w W0 W1 : World} {v : Value} {L : List Rw} {cs : List Value} {gb i rc : Nat} (hq : OQ base W0 v L) (hgb : gb < W0.heap.size) (hrc : RowsCells W0 v.ownBlock cs L) (hfar : ∀ u ∈ cs, Far base u) (hcell : ∀ j u, cs[j]? = some u → W0.cell? ⟨gb, j, none⟩ = some u) (hi : i < L.length) (hL : L.length < 256) (hb : base ≤ W0.heap.size) (hlc : L.length ≤ rc)
    (hW1 : W1 = W0.alloc (.cells #[] 60)) (ty ty' : TypeId) :
    ∃ v1 w1, (Builtin.append_ #[28, 28] ty #[.slice (some ⟨W0.heap.size, 0, none⟩) 0 0, .slice (some ⟨gb, 0, none⟩) i rc]).run Tryz.prog W1 = .ok v1 w1 ∧
      ∃ a2 c2 w2, (Builtin.append_ #[28, 28] ty' #[v1, .slice (some ⟨gb, if i + 1 = rc then 0 else (i + 1) * 2, none⟩) (L.length - (i + 1)) (rc - (i + 1))]).run Tryz.prog w1 = .ok (.slice a2 (L.take i ++ L.drop (i + 1)).length c2) w2 ∧
        OQ base w2 (.slice a2 (L.take i ++ L.drop (i + 1)).length c2) (L.take i ++ L.drop (i + 1)) ∧ Below W0.heap.size W0 w2 ∧ ∀ r, (Value.slice a2 (L.take i ++ L.drop (i + 1)).length c2).ownBlock = some r → W0.heap.size ≤ r := by
  subst hW1
  have hb1 : Below W0.heap.size W0 (W0.alloc (.cells #[] 60)) := (Below.refl _ W0).alloc (Nat.le_refl _) _
  have hadd : ∀ o j, (⟨gb, o, none⟩ : Addr).add j = ⟨gb, o + j, none⟩ := fun o j => by unfold Addr.add; split <;> simp_all
  have hlen := hrc.len
  have hl1 : (L.take i).length = i := by rw [List.length_take]; omega
  have hl2 : (L.drop (i + 1)).length = L.length - (i + 1) := List.length_drop
  obtain ⟨v1, w1, hr1, hq1, hg1, ho1⟩ := run_append_rows (OQ.made (W := W0) hb) (R2 := L.take i) ty (some ⟨gb, 0, none⟩) rc (cs.take (i * 2)) (fun _ => ⟨_, rfl, fun j u hu => by
      rw [hadd, Nat.zero_add]
      rw [List.getElem?_take] at hu
      split at hu
      · exact (hb1.cell hgb).trans (hcell j u hu)
      · cases hu⟩) (RowsCells.take i (hrc.fresh hb1 (g := W0.heap.size) (Nat.le_refl _))) (fun u hu => hfar u (List.mem_of_mem_take hu)) (by rw [World.size_alloc]; omega) (by simp; omega)
  rw [hl1] at hr1
  rw [List.nil_append] at hq1
  have hb2 : Below W0.heap.size W0 w1 := hb1.grown hg1 (by rw [World.size_alloc]; omega) (fun r e => by simp [Value.ownBlock] at e; omega)
  obtain ⟨g1, hv1, hg1'⟩ : ∃ g1, v1.ownBlock = some g1 ∧ W0.heap.size ≤ g1 := by
    rcases ho1 with h | h
    · exact ⟨W0.heap.size, by rw [h]; rfl, Nat.le_refl _⟩
    · exact ⟨_, h, by rw [World.size_alloc]; omega⟩
  obtain ⟨v2, w2, hr2, hq2, hg2, ho2⟩ := run_append_rows hq1 (R2 := L.drop (i + 1)) ty' (some ⟨gb, if i + 1 = rc then 0 else (i + 1) * 2, none⟩) (rc - (i + 1)) (cs.drop ((i + 1) * 2)) (fun h0 => ⟨_, rfl, fun j u hu => by
      rw [List.getElem?_drop] at hu
      by_cases hc : i + 1 = rc
      · rw [hl2] at h0; omega
      · rw [if_neg hc, hadd]
        exact (hb2.cell hgb).trans (hcell _ u hu)⟩) (by rw [hv1]; exact RowsCells.drop (i + 1) (hrc.fresh hb2 hg1')) (fun u hu => hfar u (List.mem_of_mem_drop hu)) (by have := hb2.size; omega) (by simp; omega)
  rw [hl2] at hr2
  obtain ⟨a2, c2, rfl, -⟩ := hq2.or.rows
  refine ⟨v1, w1, hr1, a2, c2, w2, hr2, hq2, hb2.grown hg2 hb2.size (fun r e => by rw [hv1] at e; cases e; exact hg1'), fun r e => ?_⟩
  rcases ho2 with h | h
  · rw [h, hv1] at e; cases e; exact hg1'
  · rw [h] at e; cases e; exact hb2.size
end Go.Proofs.YtbinikbgbgggaaaGreatDoor
