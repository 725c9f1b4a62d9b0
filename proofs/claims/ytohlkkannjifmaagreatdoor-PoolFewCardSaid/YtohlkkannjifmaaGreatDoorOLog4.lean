/- The log as it grows: what stands in memory behind a record, behind a sheet. -/
import Derived.Test.YtohlkkannjifmaaGreatDoorOLog3
import Derived.Test.YtohlkkannjifmaaGreatDoorOWell
namespace Go.Proofs.YtohlkkannjifmaaGreatDoor
open Go.RowKit
theorem tag_ne {w : World} {i : Nat} {c1 c2 : Array Value} {t1 t2 : TypeId} {z1 z2 : Nat × Nat} (h1 : w.heap[i]? = some (.cells c1 t1 z1)) (h2 : w.heap[i]? = some (.cells c2 t2 z2)) (hne : t1 ≠ t2) : False := by
  rw [h1] at h2
  injection h2 with h2
  injection h2 with _ h3 _
  exact hne h3
theorem own_tag {w : World} {b : Nat} {e : TypeId} {n m : Nat} {v : Value} {xs : List Value} (h : w.ownsRow b e n v m xs) {g : Nat} (hg : v.ownBlock = some g) : ∃ cur, w.heap[g]? = some (.cells cur e (0, 0)) := by
  obtain ⟨-, ⟨rfl, -⟩ | ⟨g', cap, cur, rfl, -, hh, -⟩⟩ := h
  · cases hg
  · cases hg
    exact ⟨cur, hh⟩
structure LV (w : World) (U : Nat → Prop) (l d k : Nat) (L : LK) (sv tv : Value) (T : List (Nat × Value × ShV)) (p : Nat) (v : Value) : Prop where
  sheets : L.sheets = T.map (fun x => x.2.2) ++ [L.last]
  blk : w.heap[l]? = some (.cells #[ptr d, li L.first, li L.count, li L.turn, li L.oldest, sv, tv] 109 (0, 0))
  srow : w.ownsRow 0 100 1 sv (T.length + 1) (T.map (fun x => ptr x.1) ++ [ptr p])
  trow : w.ownsRow 0 2 1 tv L.lsns.length (L.lsns.map li)
  shs : ∀ x ∈ T, ShR w x.1 x.2.1 x.2.2
  lst : ShR w p v L.last
  pw : T.Pairwise (fun x y => x.1 ≠ y.1 ∧ ∀ b, x.2.1.ownBlock = some b → y.2.1.ownBlock ≠ some b)
  pl : ∀ x ∈ T, x.1 ≠ p ∧ ∀ b, x.2.1.ownBlock = some b → v.ownBlock ≠ some b
  ul : U l
  us : ∀ b, sv.ownBlock = some b → U b
  ut : ∀ b, tv.ownBlock = some b → U b
  ux : ∀ x ∈ T, U x.1
  uv : ∀ x ∈ T, ∀ b, x.2.1.ownBlock = some b → U b
  up : U p
  uw : ∀ b, v.ownBlock = some b → U b
  lt : ∀ i, U i → i < w.heap.size
  ok : L.Ok k
theorem LV.of {w : World} {U : Nat → Prop} {l d k : Nat} {L : LK} (h : LogR w U l d k L) : ∃ sv tv T p v, LV w U l d k L sv tv T p v := by
  obtain ⟨sv, tv, T, h1, h2, h3, h4, h5, h6, h7, h8, h9, h10, h11⟩ := h.mm
  rcases List.eq_nil_or_concat T with rfl | ⟨T', x, rfl⟩
  · exact absurd h1 h.ok.ne
  simp only [List.concat_eq_append] at *
  have e : L.last = x.2.2 := by unfold LK.last; rw [h1]; simp
  have hpw := List.pairwise_append.1 h6
  refine ⟨sv, tv, T', x.1, x.2.1, ⟨?_, h2, ?_, h4, fun y hy => h5 y (by simp [hy]), by rw [e]; exact h5 x (by simp), hpw.1, fun y hy => hpw.2.2 y hy x (by simp), h7, h8, h9, fun y hy => h10 y (by simp [hy]), fun y hy => h11 y (by simp [hy]), h10 x (by simp), h11 x (by simp), h.lt, h.ok⟩⟩
  · rw [h1, e]; simp
  · simpa using h3
theorem LV.log {w : World} {U : Nat → Prop} {l d k : Nat} {L : LK} {sv tv : Value} {T : List (Nat × Value × ShV)} {p : Nat} {v : Value} (h : LV w U l d k L sv tv T p v) : LogR w U l d k L := by
  refine ⟨⟨sv, tv, T ++ [(p, v, L.last)], by rw [h.sheets]; simp, h.blk, ?_, h.trow, fun x hx => ?_, ?_, h.ul, h.us, h.ut, fun x hx => ?_, fun x hx b hb => ?_⟩, h.lt, h.ok⟩
  · have := h.srow
    simpa using this
  · rcases List.mem_append.1 hx with hx | hx
    · exact h.shs x hx
    · rw [List.mem_singleton] at hx; subst hx; exact h.lst
  · rw [List.pairwise_append]
    exact ⟨h.pw, by simp, fun x hx y hy => by rw [List.mem_singleton] at hy; subst hy; exact h.pl x hx⟩
  · rcases List.mem_append.1 hx with hx | hx
    · exact h.ux x hx
    · rw [List.mem_singleton] at hx; subst hx; exact h.up
  · rcases List.mem_append.1 hx with hx | hx
    · exact h.uv x hx b hb
    · rw [List.mem_singleton] at hx; subst hx; exact h.uw b hb
theorem LK.grow_last (L : LK) (b : List UInt8) : (L.grow b).last = { L.last with body := L.last.body ++ b } := by
  unfold LK.grow
  simp [LK.last]
theorem LK.grow_end (L : LK) (b : List UInt8) : (L.grow b).end_ = L.end_ + b.length := by
  unfold LK.end_ ShV.at_
  rw [L.grow_last]
  simp only [List.length_append, Int.natCast_add]
  omega
theorem LK.sheet_last (L : LK) : L.sheet.last = ⟨L.last.num + 1, 0, L.last.body.length, 0, [], 0, false⟩ := by
  unfold LK.sheet
  simp [LK.last]
theorem LK.sheet_end (L : LK) : L.sheet.end_ = (L.last.num + 1) * 512 + 1 := by
  unfold LK.end_ ShV.at_
  rw [L.sheet_last]
  simp
theorem getElem?_concat {α : Type} (l : List α) (x : α) (j : Nat) : (l ++ [x])[j]? = if j < l.length then l[j]? else if j = l.length then some x else none := by
  by_cases h : j < l.length
  · rw [if_pos h, List.getElem?_append_left h]
  · rw [if_neg h, List.getElem?_append_right (by omega)]
    by_cases e : j = l.length
    · rw [if_pos e, e]; simp
    · rw [if_neg e, List.getElem?_eq_none (by simp; omega)]
theorem LV.grow {w : World} {U : Nat → Prop} {l d k : Nat} {L : LK} {sv tv : Value} {T : List (Nat × Value × ShV)} {p : Nat} {v : Value} (h : LV w U l d k L sv tv T p v) (b : List UInt8) {w' : World} {v' tv' : Value}
    (ht : Trn (fun i => some i = v.ownBlock ∨ i = p ∨ some i = tv.ownBlock ∨ i = l) w w')
    (hp : w'.heap[p]? = some (.cells #[li L.last.num, li L.last.turn, li L.last.before, li L.last.used, v', li L.last.safe, .bool L.last.lost] 105 (0, 0)))
    (hv : OB 0 w' v' (L.last.body ++ b)) (hvb : v'.ownBlock = v.ownBlock ∨ ∃ g, v'.ownBlock = some g ∧ w.heap.size ≤ g)
    (hl : w'.heap[l]? = some (.cells #[ptr d, li L.first, li L.count, li L.turn, li L.oldest, sv, tv'] 109 (0, 0)))
    (htv : w'.ownsRow 0 2 1 tv' (L.lsns.length + 1) (L.lsns.map li ++ [li L.end_])) (htb : tv'.ownBlock = tv.ownBlock ∨ ∃ g, tv'.ownBlock = some g ∧ w.heap.size ≤ g)
    (hfit : L.last.body.length + b.length ≤ 496) (hb0 : 0 < b.length) :
    LV w' (fun i => U i ∨ (w.heap.size ≤ i ∧ i < w'.heap.size)) l d (k + 1) (L.grow b) sv tv' T p v' := by
  have hlast := L.grow_last b
  have hsz := ht.size
  have hkeep : ∀ (i : Nat) (c : Array Value) (t : TypeId), w.heap[i]? = some (Obj.cells c t (0, 0)) → t ≠ 5 → t ≠ 2 → t ≠ 109 → i ≠ p → w'.heap[i]? = w.heap[i]? := by
    intro i c t hi h1 h2 h3 h4
    refine ht.block i (Array.getElem?_eq_some_iff.1 hi).1 ?_
    rintro (e | e | e | e)
    · obtain ⟨cur, hc⟩ := own_tag h.lst.body e.symm
      exact tag_ne hi hc h1
    · exact h4 e
    · obtain ⟨cur, hc⟩ := own_tag h.trow e.symm
      exact tag_ne hi hc h2
    · subst e; exact tag_ne hi h.blk h3
  have hbody : ∀ x ∈ T, ∀ g, x.2.1.ownBlock = some g → w'.heap[g]? = w.heap[g]? := by
    intro x hx g hg
    obtain ⟨cur, hc⟩ := own_tag (h.shs x hx).body hg
    refine ht.block g (Array.getElem?_eq_some_iff.1 hc).1 ?_
    rintro (e | e | e | e)
    · exact (h.pl x hx).2 g hg e.symm
    · subst e; exact tag_ne hc h.lst.blk (by decide)
    · obtain ⟨cur', hc'⟩ := own_tag h.trow e.symm
      exact tag_ne hc hc' (by decide)
    · subst e; exact tag_ne hc h.blk (by decide)
  have hsh : (L.grow b).sheets = T.map (fun x => x.2.2) ++ [(L.grow b).last] := by
    rw [hlast]
    unfold LK.grow
    simp only
    rw [h.sheets, List.dropLast_concat]
  have hmem : ∀ x ∈ T, x.2.2 ∈ L.sheets := fun x hx => by rw [h.sheets]; exact List.mem_append_left _ (List.mem_map.2 ⟨x, hx, rfl⟩)
  refine ⟨hsh, hl, ownsRow_keep h.srow fun g hg => ?_, ?_, fun x hx => ⟨?_, ownsRow_keep (h.shs x hx).body (hbody x hx)⟩, ?_, h.pw, fun x hx => ⟨(h.pl x hx).1, fun g hg => ?_⟩, .inl h.ul, fun g hg => .inl (h.us g hg), fun g hg => ?_, fun x hx => .inl (h.ux x hx), fun x hx g hg => .inl (h.uv x hx g hg), .inl h.up, fun g hg => ?_, fun i hi => ?_, ?_⟩
  · obtain ⟨cur, hc⟩ := own_tag h.srow hg
    exact hkeep g _ _ hc (by decide) (by decide) (by decide) (fun e => by subst e; exact tag_ne hc h.lst.blk (by decide))
  · show w'.ownsRow 0 _ 1 tv' (L.lsns ++ [L.end_]).length ((L.lsns ++ [L.end_]).map li)
    rw [List.length_append, List.map_append]
    exact htv
  · exact (hkeep x.1 _ _ (h.shs x hx).blk (by decide) (by decide) (by decide) (h.pl x hx).1).trans (h.shs x hx).blk
  · rw [hlast]
    exact ⟨hp, hv⟩
  · rcases hvb with e | ⟨g', e, hg'⟩
    · rw [e]; exact (h.pl x hx).2 g hg
    · rw [e]
      intro e2
      cases e2
      obtain ⟨cur, hc⟩ := own_tag (h.shs x hx).body hg
      have := (Array.getElem?_eq_some_iff.1 hc).1
      omega
  · rcases htb with e | ⟨g', e, hg'⟩
    · exact .inl (h.ut g (by rw [← e]; exact hg))
    · obtain ⟨cur, hc⟩ := own_tag htv hg
      rw [e] at hg; cases hg
      exact .inr ⟨hg', (Array.getElem?_eq_some_iff.1 hc).1⟩
  · rcases hvb with e | ⟨g', e, hg'⟩
    · exact .inl (h.uw g (by rw [← e]; exact hg))
    · obtain ⟨cur, hc⟩ := own_tag hv hg
      rw [e] at hg; cases hg
      exact .inr ⟨hg', (Array.getElem?_eq_some_iff.1 hc).1⟩
  · rcases hi with hi | hi
    · exact Nat.lt_of_lt_of_le (h.lt i hi) hsz
    · exact hi.2
  · obtain ⟨m, m1, m2, m3⟩ := h.ok.num
    have hl2 := h.ok.len
    refine ⟨by rw [hsh]; simp, ⟨m, m1, m2, fun j s hj => ?_⟩, fun s hs => ?_, h.ok.f1, h.ok.f2, h.ok.c1, h.ok.c2, h.ok.t1, h.ok.t2, ?_, ?_, ?_, ?_, fun _ e => ?_, fun s hs => ?_⟩
    · rw [hsh, getElem?_concat] at hj
      by_cases hlt : j < (T.map (fun x => x.2.2)).length
      · rw [if_pos hlt] at hj
        exact m3 j s (by rw [h.sheets, getElem?_concat, if_pos hlt]; exact hj)
      · rw [if_neg hlt] at hj
        by_cases e : j = (T.map (fun x => x.2.2)).length
        · rw [if_pos e] at hj
          cases hj
          rw [hlast]
          exact m3 j L.last (by rw [h.sheets, getElem?_concat, if_neg hlt, if_pos e])
        · rw [if_neg e] at hj; cases hj
    · rw [hsh] at hs
      rcases List.mem_append.1 hs with hs | hs
      · obtain ⟨x, hx, rfl⟩ := List.mem_map.1 hs
        exact hl2 _ (hmem x hx)
      · rw [List.mem_singleton] at hs
        rw [hs, hlast]
        have := hl2 _ h.ok.last
        simp only [List.length_append]
        omega
    · have := h.ok.ct
      rw [h.sheets] at this
      show ((L.grow b).sheets.length : Int) ≤ L.count - 1
      rw [hsh]
      simpa using this
    · show (L.lsns ++ [L.end_]).length ≤ k + 1
      have := h.ok.lk
      rw [List.length_append]
      simpa using this
    · show (L.lsns ++ [L.end_]).Pairwise (· < ·)
      rw [List.pairwise_append]
      exact ⟨h.ok.so, by simp, fun x hx y hy => by rw [List.mem_singleton] at hy; subst hy; exact h.ok.sb x hx⟩
    · have he : (L.grow b).end_ = L.end_ + b.length := L.grow_end b
      rw [he]
      intro x hx
      rcases List.mem_append.1 (show x ∈ L.lsns ++ [L.end_] from hx) with hx | hx
      · have := h.ok.sb x hx
        omega
      · rw [List.mem_singleton] at hx
        omega
    · have : L.lsns ++ [L.end_] = [] := e
      simp at this
    · rw [hsh] at hs
      rcases List.mem_append.1 hs with hs | hs
      · obtain ⟨x, hx, rfl⟩ := List.mem_map.1 hs
        exact h.ok.hd _ (hmem x hx)
      · rw [List.mem_singleton] at hs
        rw [hs, hlast]
        have := h.ok.hd _ h.ok.last
        exact this
theorem LV.sheet {w : World} {U : Nat → Prop} {l d k : Nat} {L : LK} {sv tv : Value} {T : List (Nat × Value × ShV)} {p : Nat} {v : Value} (h : LV w U l d k L sv tv T p v) (hm : L.more ≠ 0) {w' : World} {sv' : Value} {q : Nat}
    (ht : Trn (fun i => some i = sv.ownBlock ∨ i = l) w w') (hq : w.heap.size ≤ q)
    (hp : w'.heap[q]? = some (.cells #[li (L.last.num + 1), li 0, li L.last.body.length, li 0, .slice none 0 0, li 0, .bool false] 105 (0, 0)))
    (hl : w'.heap[l]? = some (.cells #[ptr d, li L.first, li L.count, li L.turn, li L.oldest, sv', tv] 109 (0, 0)))
    (hsv : w'.ownsRow 0 100 1 sv' (T.length + 2) ((T.map (fun x => ptr x.1) ++ [ptr p]) ++ [ptr q])) (hsb : sv'.ownBlock = sv.ownBlock ∨ ∃ g, sv'.ownBlock = some g ∧ w.heap.size ≤ g) :
    LV w' (fun i => U i ∨ (w.heap.size ≤ i ∧ i < w'.heap.size)) l d k L.sheet sv' tv (T ++ [(p, v, L.last)]) q (.slice none 0 0) := by
  have hlast := L.sheet_last
  have hsz := ht.size
  have hkeep : ∀ (i : Nat) (c : Array Value) (t : TypeId), w.heap[i]? = some (Obj.cells c t (0, 0)) → t ≠ 100 → t ≠ 109 → w'.heap[i]? = w.heap[i]? := by
    intro i c t hi h1 h2
    refine ht.block i (Array.getElem?_eq_some_iff.1 hi).1 ?_
    rintro (e | e)
    · obtain ⟨cur, hc⟩ := own_tag h.srow e.symm
      exact tag_ne hi hc h1
    · subst e; exact tag_ne hi h.blk h2
  have hob : ∀ {v : Value} {B : List UInt8}, OB 0 w v B → OB 0 w' v B := fun hB => ownsRow_keep hB fun g hg => by
    obtain ⟨cur, hc⟩ := own_tag hB hg
    exact hkeep g _ _ hc (by decide) (by decide)
  have hsh : L.sheet.sheets = (T ++ [(p, v, L.last)]).map (fun x => x.2.2) ++ [L.sheet.last] := by
    rw [hlast]
    unfold LK.sheet
    simp only
    rw [h.sheets, List.map_append]
    rfl
  have hold : ∀ x ∈ T ++ [(p, v, L.last)], x ∈ T ∨ x = (p, v, L.last) := fun x hx => by
    rcases List.mem_append.1 hx with hx | hx
    · exact .inl hx
    · exact .inr (List.mem_singleton.1 hx)
  have hshs : ∀ x ∈ T ++ [(p, v, L.last)], ShR w x.1 x.2.1 x.2.2 := fun x hx => by
    rcases hold x hx with hx | rfl
    · exact h.shs x hx
    · exact h.lst
  refine ⟨hsh, hl, ?_, ownsRow_keep h.trow fun g hg => ?_, fun x hx => ⟨(hkeep x.1 _ _ (hshs x hx).blk (by decide) (by decide)).trans (hshs x hx).blk, hob (hshs x hx).body⟩, ?_, ?_, fun x hx => ⟨?_, fun g hg e => (by cases e)⟩, .inl h.ul, fun g hg => ?_, fun g hg => .inl (h.ut g hg), fun x hx => .inl ?_, fun x hx g hg => .inl ?_, .inr ⟨hq, (Array.getElem?_eq_some_iff.1 hp).1⟩, fun g hg => (by cases hg), fun i hi => ?_, ?_⟩
  · rw [List.length_append, List.map_append]
    exact hsv
  · obtain ⟨cur, hc⟩ := own_tag h.trow hg
    exact hkeep g _ _ hc (by decide) (by decide)
  · rw [hlast]
    exact ⟨hp, OB.nil _ _⟩
  · rw [List.pairwise_append]
    exact ⟨h.pw, by simp, fun x hx y hy => by rw [List.mem_singleton] at hy; subst hy; exact h.pl x hx⟩
  · have := (Array.getElem?_eq_some_iff.1 (hshs x hx).blk).1
    omega
  · rcases hsb with e | ⟨g', e, hg'⟩
    · exact .inl (h.us g (by rw [← e]; exact hg))
    · obtain ⟨cur, hc⟩ := own_tag hsv hg
      rw [e] at hg; cases hg
      exact .inr ⟨hg', (Array.getElem?_eq_some_iff.1 hc).1⟩
  · rcases hold x hx with hx | rfl
    · exact h.ux x hx
    · exact h.up
  · rcases hold x hx with hx | rfl
    · exact h.uv x hx g hg
    · exact h.uw g hg
  · rcases hi with hi | hi
    · exact Nat.lt_of_lt_of_le (h.lt i hi) hsz
    · exact hi.2
  · obtain ⟨m, m1, m2, m3⟩ := h.ok.num
    have hl2 := h.ok.len
    have hlen : L.sheets.length = T.length + 1 := by rw [h.sheets]; simp
    have hsheets : L.sheet.sheets = L.sheets ++ [L.sheet.last] := by rw [hlast]; rfl
    have hct := h.ok.ct
    have hm' := hm
    unfold LK.more at hm'
    refine ⟨by rw [hsh]; simp, ⟨m, m1, m2, fun j s hj => ?_⟩, fun s hs => ?_, h.ok.f1, h.ok.f2, h.ok.c1, h.ok.c2, h.ok.t1, h.ok.t2, ?_, h.ok.lk, h.ok.so, fun x hx => ?_, fun hw => ?_, fun s hs => ?_⟩
    · rw [hsheets, getElem?_concat] at hj
      by_cases hlt : j < L.sheets.length
      · rw [if_pos hlt] at hj
        exact m3 j s hj
      · rw [if_neg hlt] at hj
        by_cases e : j = L.sheets.length
        · rw [if_pos e] at hj
          cases hj
          rw [hlast]
          have := m3 T.length L.last (by rw [h.sheets, getElem?_concat]; simp)
          simp only
          omega
        · rw [if_neg e] at hj; cases hj
    · rw [hsheets] at hs
      rcases List.mem_append.1 hs with hs | hs
      · exact hl2 _ hs
      · rw [List.mem_singleton] at hs
        rw [hs, hlast]
        simp
    · rw [hsheets, List.length_append]
      show ((L.sheets.length + 1 : Nat) : Int) ≤ L.count - 1
      omega
    · have h1 := h.ok.sb x hx
      have h2 := L.sheet_end
      have h3 := h.ok.end_bd
      unfold LK.end_ ShV.at_ at h1
      rw [h2]
      omega
    · obtain ⟨s, hs, hlt⟩ := hw
      rw [hsheets] at hs
      rcases List.mem_append.1 hs with hs | hs
      · exact h.ok.wk ⟨s, hs, hlt⟩
      · rw [List.mem_singleton] at hs
        rw [hs, hlast] at hlt
        simp at hlt
    · rw [hsheets] at hs
      rcases List.mem_append.1 hs with hs | hs
      · exact h.ok.hd _ hs
      · rw [List.mem_singleton] at hs
        have := h.ok.end_bd
        rw [hs, hlast]
        simp only
        omega
end Go.Proofs.YtohlkkannjifmaaGreatDoor
