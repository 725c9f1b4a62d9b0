/- The law: what awake's record makes of all pages. Plain; no program in sight. -/
import Derived.Test.YtohlkkannjifmaaGreatDoorOLawU
namespace Go.Proofs.YtohlkkannjifmaaGreatDoor
open Go.RowKit Go.Shelf
theorem updI_same (c : Int → List UInt8) (n : Int) : updI c n (c n) = c := by
  funext m
  unfold updI
  split
  · next e => rw [e]
  · rfl
theorem aw_args {i n : Int} {L : LK} {cnt : Int} (h0 : 0 ≤ i) (h1 : i < cnt) (hn : 1 ≤ n) (hn2 : n < L.end_) : ¬ argBad (rowN i n) L ∧ ¬ pageBad (rowN i n) cnt := by
  have hk : (rowN i n).kind = 1 := rfl
  have hl : (rowN i n).lsn = n := rfl
  have hp : (rowN i n).page = i := rfl
  constructor
  · rintro (h | h | h)
    · exact h.2.1 hk
    · rw [hl] at h; omega
    · rw [hl] at h; omega
  · rintro (h | h)
    · rw [hp] at h; exact h ⟨h0, h1⟩
    · have := h.1; rw [hk] at this; omega
set_option maxRecDepth 100000 in
theorem aw_doF1 {i n : Int} {L : LK} {cnt : Int} {c : Int → List UInt8} (h0 : 0 ≤ i) (h1 : i < cnt) (hn : 1 ≤ n) (hn2 : n < L.end_) (hc : c i = List.replicate 512 0) : doF (rowN i n) L cnt c = (true, 0, updI c i (setLsnL awP0 n)) := by
  obtain ⟨ha, hb⟩ := aw_args h0 h1 hn hn2
  have hk : ¬ (rowN i n).kind = 6 := by show ¬ (1 : Nat) = 6; omega
  unfold doF
  rw [if_neg ha, if_neg hb, if_neg hk]
  have e : doneF (c i) n (actTurn awK [] awV) = (true, 0, setLsnL awP0 n) := by
    rw [hc]
    unfold doneF
    rw [aw_lsn0, aw_turn, decide_eq_true (show ((0 : Nat) : Int) < n by omega), if_pos (show ((0 : Nat) : Int) < n by omega)]
    rfl
  show ((doneF (c i) n (actTurn awK [] awV)).1, (doneF (c i) n (actTurn awK [] awV)).2.1, updI c i (doneF (c i) n (actTurn awK [] awV)).2.2) = _
  rw [e]
set_option maxRecDepth 100000 in
theorem aw_doF2 {i n : Int} {L : LK} {cnt : Int} {c : Int → List UInt8} (h0 : 0 ≤ i) (h1 : i < cnt) (hn : 1 ≤ n) (hn2 : n < L.end_) (hm : n ≤ 9223372036854775807) (hc : c i = setLsnL awP0 n) : doF (rowN i n) L cnt c = (false, 0, c) := by
  obtain ⟨ha, hb⟩ := aw_args h0 h1 hn hn2
  have hk : ¬ (rowN i n).kind = 6 := by show ¬ (1 : Nat) = 6; omega
  unfold doF
  rw [if_neg ha, if_neg hb, if_neg hk]
  obtain ⟨q, -, -, hl⟩ := aw_page (n := n) (by omega) hm
  have hlt : ¬ ((lsnL (c i) : Nat) : Int) < n := by rw [hc, hl]; omega
  have e : doneF (c i) n (actTurn awK [] awV) = (false, 0, c i) := by
    unfold doneF
    rw [decide_eq_false hlt, if_neg hlt]
    rfl
  show ((doneF (c i) n (actTurn awK [] awV)).1, (doneF (c i) n (actTurn awK [] awV)).2.1, updI c i (doneF (c i) n (actTurn awK [] awV)).2.2) = _
  rw [e]
  show (false, 0, updI c i (c i)) = _
  rw [updI_same]
theorem PI.nil (B : Nat) (w : World) : PI B w none 0 0 [] := ⟨rfl, Nat.le_refl _, by omega, by omega, fun h => absurd h (by omega)⟩
structure AwR (w0 : World) (g d l p i rm k : Nat) (W : World) (S : Nat → Prop) (D : DK) (L : LK) (P : PK) (c : Int → List UInt8) : Prop where
  rig : Rig S W d l p k D L P c
  blk : W.heap[g]? = some (rigObj d l p)
  bel : Below w0.heap.size w0 W
  ge : ∀ j, S j → w0.heap.size ≤ j
  gg : w0.heap.size ≤ g
  gs : ¬ S g
  first : P.first = 40
  count : P.count = 9
  most : P.most = 4
  room : L.last.body.length ≤ rm
  en : 1 ≤ L.end_
  todo : ∀ j : Int, (i : Int) ≤ j → j < 9 → c j = List.replicate 512 0
  did : ∀ j : Int, 0 ≤ j → j < (i : Int) → ∃ n : Int, 0 ≤ n ∧ n ≤ 9223372036854775807 ∧ c j = setLsnL awP0 n
  fr : i ≤ P.frames.length ∨ 4 ≤ P.frames.length
  pg : ∀ f ∈ P.frames, f.page < (i : Int)
theorem AwR.cells {w0 : World} {g d l p i rm k : Nat} {W : World} {S : Nat → Prop} {D : DK} {L : LK} {P : PK} {c : Int → List UInt8} (h : AwR w0 g d l p i rm k W S D L P c) :
    W.cell? ⟨g, 1, none⟩ = some (.pointer (some ⟨l, 0, none⟩)) ∧ W.cell? ⟨g, 2, none⟩ = some (.pointer (some ⟨p, 0, none⟩)) :=
  ⟨cell_of_row _ _ 1 _ _ _ h.blk, cell_of_row _ _ 2 _ _ _ h.blk⟩
theorem AwR.below {w0 : World} {g d l p i rm k : Nat} {W W' : World} {S : Nat → Prop} {D : DK} {L : LK} {P : PK} {c : Int → List UInt8} (h : AwR w0 g d l p i rm k W S D L P c) (hb : Below W.heap.size W W') : AwR w0 g d l p i rm k W' S D L P c :=
  ⟨h.rig.below hb, (hb.block g (lt_of_heap' h.blk)).trans h.blk, h.bel.trans (hb.mono h.bel.size), h.ge, h.gg, h.gs, h.first, h.count, h.most, h.room, h.en, h.todo, h.did, h.fr, h.pg⟩
theorem AwR.turn {w0 : World} {g d l p i i' rm rm' k k' : Nat} {W W' : World} {S S' : Nat → Prop} {D D' : DK} {L L' : LK} {P P' : PK} {c c' : Int → List UInt8} (h : AwR w0 g d l p i rm k W S D L P c) (hr : Rig S' W' d l p k' D' L' P' c') (hm : Mv S S' W W')
    (hs : P'.first = P.first ∧ P'.count = P.count ∧ P'.most = P.most) (hroom : L'.last.body.length ≤ rm') (hen : 1 ≤ L'.end_) (htodo : ∀ j : Int, (i' : Int) ≤ j → j < 9 → c' j = List.replicate 512 0)
    (hdid : ∀ j : Int, 0 ≤ j → j < (i' : Int) → ∃ n : Int, 0 ≤ n ∧ n ≤ 9223372036854775807 ∧ c' j = setLsnL awP0 n) (hfr : i' ≤ P'.frames.length ∨ 4 ≤ P'.frames.length) (hpg : ∀ f ∈ P'.frames, f.page < (i' : Int)) : AwR w0 g d l p i' rm' k' W' S' D' L' P' c' := by
  obtain ⟨b1, b2⟩ := hm.below h.ge h.bel.size
  refine ⟨hr, (hm.trn.block g (lt_of_heap' h.blk) h.gs).trans h.blk, h.bel.trans b1, b2, h.gg, fun hs' => ?_, hs.1.trans h.first, hs.2.1.trans h.count, hs.2.2.trans h.most, hroom, hen, htodo, hdid, hfr, hpg⟩
  rcases hm.sub g hs' with h1 | h1
  · exact h.gs h1
  · exact absurd (lt_of_heap' h.blk) (by omega)
theorem AwR.app {w0 : World} {g d l p i rm k : Nat} {W : World} {S : Nat → Prop} {D : DK} {L : LK} {P : PK} {c : Int → List UInt8} (h : AwR w0 g d l p i rm k W S D L P c) (hi : i < 9) (hrm : rm ≤ 400) (hk : k ≤ 1000000) (b0 b1 c0 c1 : Nat)
    (r0 : RB W.heap.size W (some ⟨b0, 0, none⟩) 1 c0 awK) (r1 : RB W.heap.size W (some ⟨b1, 0, none⟩) 1 c1 awV) :
    Calls Tryz.prog 11 #[.pointer (some ⟨l, 0, none⟩), recV (rowR (i : Int) awK awV) (some ⟨b0, 0, none⟩) none (some ⟨b1, 0, none⟩) none none c0 0 c1 0 0] W fun e W' => ∃ S' L', e = .returned (.tuple #[.int .i64 L.end_, .int .i64 0]) ∧ AwR w0 g d l p i (rm + 40) (k + 1) W' S' D L' P c ∧ L.end_ < L'.end_ ∧ Mv S S' W W' := by
  obtain ⟨e1, e2, e3⟩ := aw_append (i := (i : Int)) (L := L) (by omega) (by omega) (Nat.le_trans h.room hrm)
  refine (h.rig.append W.heap.size (rowR (i : Int) awK awV) (some ⟨b0, 0, none⟩) none (some ⟨b1, 0, none⟩) none none c0 0 c1 0 0 ⟨r0, RB.emp _, r1, PI.nil _ _, PI.nil _ _, Nat.le_refl _, by simp [rowR], by simp [rowR], by simp [rowR, awK], by simp [rowR], by simp [rowR, awV]⟩ (aw_fit _ (by omega)) (by omega)).mono ?_
  rintro e W' ⟨S', rfl, hr, hm⟩
  rw [e1] at hr ⊢
  refine ⟨S', _, rfl, ?_, e3, hm⟩
  have hen := h.en
  exact h.turn hr hm ⟨rfl, rfl, rfl⟩ (Nat.le_trans e2 (Nat.add_le_add_right h.room 40)) (by show 1 ≤ (L.grow (putB (rowR (i : Int) awK awV))).end_; omega) h.todo h.did h.fr h.pg
theorem LK.end_max {L : LK} (h : ∃ k, L.Ok k) : L.end_ ≤ 9223372036854775807 := by
  obtain ⟨k, hk⟩ := h
  have h1 := hk.end_bd
  unfold LK.end_ ShV.at_
  omega
theorem AwR.doA {w0 : World} {g d l p i rm k : Nat} {W : World} {S : Nat → Prop} {D : DK} {L : LK} {P : PK} {c : Int → List UInt8} (h : AwR w0 g d l p i rm k W S D L P c) (hi : i < 9) (hk : k ≤ 1000000) (n : Int) (hn : 1 ≤ n) (hn2 : n < L.end_) (b0 b1 c0 c1 : Nat)
    (r0 : RB W.heap.size W (some ⟨b0, 0, none⟩) 1 c0 awK) (r1 : RB W.heap.size W (some ⟨b1, 0, none⟩) 1 c1 awV) (s0 : ¬ S b0) (s1 : ¬ S b1) :
    Calls Tryz.prog 12 #[.pointer (some ⟨p, 0, none⟩), recV (rowN (i : Int) n) (some ⟨b0, 0, none⟩) none (some ⟨b1, 0, none⟩) none none c0 0 c1 0 0] W fun e W' => ∃ S' D' L' P' c', e = .returned (.tuple #[.bool true, .int .i64 0]) ∧ AwR w0 g d l p (i + 1) rm (k + 20000) W' S' D' L' P' c' ∧ L'.end_ = L.end_ ∧ c' (i : Int) = setLsnL awP0 n ∧ Mv S S' W W' := by
  have hmx := LK.end_max h.rig.well.lo
  have hc0 : c (i : Int) = List.replicate 512 0 := h.todo _ (Int.le_refl _) (by omega)
  have e1 := aw_doF1 (i := (i : Int)) (n := n) (L := L) (cnt := P.count) (c := c) (by omega) (by rw [h.count]; omega) hn hn2 hc0
  refine (h.rig.do_ W.heap.size (rowN (i : Int) n) (some ⟨b0, 0, none⟩) none (some ⟨b1, 0, none⟩) none none c0 0 c1 0 0 r0 (RB.emp _) r1 (Nat.le_refl _) ?_ (by show n ≤ _; omega) (by omega)).mono ?_
  · rintro a b o s (rfl | rfl | rfl) e
    · cases e; exact s0
    · cases e
    · cases e; exact s1
  rintro e W' ⟨D', L', P', S', rfl, hr, hst, hx, hm⟩
  rw [e1] at hr hx ⊢
  obtain ⟨-, -, -, -, -, -, -, -, -, -, q1, q2⟩ := aw_first h.rig.well (by omega) (by rw [h.count]; omega) hn hn2 (by omega) (by have := (h.rig.pg (i : Int) (by omega) (by rw [h.count]; omega)).1; rwa [hc0] at this) hx
  have hlast := hst.core.last
  have hend := hst.core.end_
  have hen := h.en
  refine ⟨S', D', L', P', updI c (i : Int) (setLsnL awP0 n), rfl, ?_, hend, updI_at _ _ _, hm⟩
  refine h.turn hr hm ⟨hst.first, hst.count, hst.most⟩ (by rw [hlast.2]; exact h.room) (by rw [hend]; exact hen) (fun j j0 j1 => ?_) (fun j j0 j1 => ?_) ?_ (fun f hf => ?_)
  · show updI c (i : Int) _ j = _
    rw [updI_ne (by omega)]; exact h.todo j (by omega) j1
  · show ∃ n, _ ∧ _ ∧ updI c (i : Int) _ j = _
    by_cases hj : j = (i : Int)
    · rw [hj]; exact ⟨n, by omega, by omega, updI_at _ _ _⟩
    · rw [updI_ne hj]; exact h.did j j0 (by omega)
  · by_cases h4 : P.frames.length < P.most
    · have e := q1 (fun f hf => by have := h.pg f hf; omega) h4
      have e' : P'.frames.length = P.frames.length + 1 := e
      rcases h.fr with h5 | h5 <;> omega
    · have := hst.le
      have := h.most
      omega
  · rcases q2 f hf with e | ⟨f', hf', e⟩
    · rw [e]; omega
    · have := h.pg f' hf'; omega
theorem AwR.doB {w0 : World} {g d l p i rm k : Nat} {W : World} {S : Nat → Prop} {D : DK} {L : LK} {P : PK} {c : Int → List UInt8} (h : AwR w0 g d l p (i + 1) rm k W S D L P c) (hi : i < 9) (hk : k ≤ 1000000) (n : Int) (hn : 1 ≤ n) (hn2 : n < L.end_) (hc : c (i : Int) = setLsnL awP0 n) (b0 b1 c0 c1 : Nat)
    (r0 : RB W.heap.size W (some ⟨b0, 0, none⟩) 1 c0 awK) (r1 : RB W.heap.size W (some ⟨b1, 0, none⟩) 1 c1 awV) (s0 : ¬ S b0) (s1 : ¬ S b1) :
    Calls Tryz.prog 12 #[.pointer (some ⟨p, 0, none⟩), recV (rowN (i : Int) n) (some ⟨b0, 0, none⟩) none (some ⟨b1, 0, none⟩) none none c0 0 c1 0 0] W fun e W' => ∃ S' D' L' P', e = .returned (.tuple #[.bool false, .int .i64 0]) ∧ AwR w0 g d l p (i + 1) rm (k + 20000) W' S' D' L' P' c ∧ Mv S S' W W' := by
  have hmx := LK.end_max h.rig.well.lo
  have e1 := aw_doF2 (i := (i : Int)) (n := n) (L := L) (cnt := P.count) (c := c) (by omega) (by rw [h.count]; omega) hn hn2 (by omega) hc
  refine (h.rig.do_ W.heap.size (rowN (i : Int) n) (some ⟨b0, 0, none⟩) none (some ⟨b1, 0, none⟩) none none c0 0 c1 0 0 r0 (RB.emp _) r1 (Nat.le_refl _) ?_ (by show n ≤ _; omega) (by omega)).mono ?_
  · rintro a b o s (rfl | rfl | rfl) e
    · cases e; exact s0
    · cases e
    · cases e; exact s1
  rintro e W' ⟨D', L', P', S', rfl, hr, hst, hx, hm⟩
  rw [e1] at hr hx ⊢
  obtain ⟨-, -, -, -, -, -, -, -, -, -, q2⟩ := aw_second h.rig.well (by omega) (by rw [h.count]; omega) hn hn2 (by omega) (by have := (h.rig.pg (i : Int) (by omega) (by rw [h.count]; omega)).1; rwa [hc] at this) hx
  have hlast := hst.core.last
  have hend := hst.core.end_
  have hen := h.en
  have hle := hst.le
  refine ⟨S', D', L', P', rfl, h.turn hr hm ⟨hst.first, hst.count, hst.most⟩ (by rw [hlast.2]; exact h.room) (by rw [hend]; exact hen) h.todo h.did ?_ (fun f hf => ?_), hm⟩
  · rcases h.fr with h5 | h5 <;> omega
  · rcases q2 f hf with e | ⟨f', hf', e⟩
    · rw [e]; omega
    · have := h.pg f' hf'; omega
theorem AwR.read {w0 : World} {g d l p rm k : Nat} {W : World} {S : Nat → Prop} {D : DK} {L : LK} {P : PK} {c : Int → List UInt8} (h : AwR w0 g d l p 9 rm k W S D L P c) (j : Nat) (hj : j < 9) (hk : k ≤ 1000000) :
    Calls Tryz.prog 13 #[.pointer (some ⟨p, 0, none⟩), .int .i64 (j : Int)] W fun e W' => ∃ S' D' L' P' v a cc n, e = .returned (.tuple #[v, .int .i64 0]) ∧ v = .slice a 512 cc ∧ RB W'.heap.size W' a 512 cc (setLsnL awP0 n) ∧ 0 ≤ n ∧ n ≤ 9223372036854775807 ∧ AwR w0 g d l p 9 rm (k + 10000) W' S' D' L' P' c := by
  obtain ⟨n, n0, n1, hn⟩ := h.did (j : Int) (by omega) (by omega)
  refine (h.rig.read (n := (j : Int)) ⟨by omega, by rw [h.count]; omega⟩ (by omega)).mono ?_
  rintro e W' ⟨D', L', P', S', v, jj, rfl, hob, hv, hr, hkk, hf, hm⟩
  have hst := hkk.stay
  have hlast := hst.core.last
  have hend := hst.core.end_
  have hen := h.en
  have hle := hst.le
  rw [hn] at hob
  have hlen := aw_len n0 n1
  obtain ⟨a, cc, e, hrb⟩ := hob.rb (by omega)
  rw [hlen] at e hrb
  refine ⟨S', D', L', P', v, a, cc, n, rfl, e, hrb, n0, n1, h.turn hr hm ⟨hst.first, hst.count, hst.most⟩ (by rw [hlast.2]; exact h.room) (by rw [hend]; exact hen) h.todo h.did ?_ (fun f hf' => ?_)⟩
  · rcases h.fr with h5 | h5 <;> omega
  · rcases (frame_well h.rig.well (by omega) (by rw [h.count]; omega) hf).sub f hf' with e | ⟨f', hf'', e⟩
    · rw [e]; omega
    · have := h.pg f' hf''; omega
theorem AwR.frames {w0 : World} {g d l p rm k : Nat} {W : World} {S : Nat → Prop} {D : DK} {L : LK} {P : PK} {c : Int → List UInt8} (h : AwR w0 g d l p 9 rm k W S D L P c) :
    Calls Tryz.prog 15 #[.pointer (some ⟨p, 0, none⟩)] W fun e w' => e = .returned (.int .i64 4) ∧ w' = W := by
  refine h.rig.frames.mono ?_
  rintro e w' ⟨rfl, rfl⟩
  have h1 := h.rig.well.sz
  have h2 := h.most
  have h3 : P.frames.length = 4 := by rcases h.fr with h5 | h5 <;> omega
  rw [h3]
  exact ⟨rfl, rfl⟩
theorem AwR.start {w0 : World} {w' : World} {g d l p : Nat} {S : Nat → Prop} (hg : w'.heap[g]? = some (rigObj d l p)) (hr : Rig S w' d l p 0 (DK.fresh (40 + 9)) (LK.fresh 40) (PK.fresh 4 40 9) zC) (hb : Below w0.heap.size w0 w') (hA : ∀ i, S i → w0.heap.size ≤ i) (hge : w0.heap.size ≤ g) (hng : ¬ S g) :
    AwR w0 g d l p 0 0 0 w' S (DK.fresh (40 + 9)) (LK.fresh 40) (PK.fresh 4 40 9) zC :=
  ⟨hr, hg, hb, hA, hge, hng, rfl, rfl, rfl, Nat.le_refl _, by decide, fun _ _ _ => rfl, fun j h0 h1 => by omega, .inl (Nat.zero_le _), fun f hf => (by cases hf)⟩
end Go.Proofs.YtohlkkannjifmaaGreatDoor
