/- Lists of one type that lie apart, told by their cells: what stands while they are marked and grown. The walk of the law PageRoom. Marks; slices that are lent. -/
import Derived.Test.YtohlkkannjifmaaGreatDoorPageA
import Derived.Test.YtohlkkannjifmaaGreatDoorTxA
import Derived.OwnWalk
import Derived.Test.YtohlkkannjifmaaGreatDoorOPool1
import Derived.Laws.IdiomStrings
import Derived.Lib.SlBytesConst
import Derived.Test.YtohlkkannjifmaaGreatDoorPure3
namespace Go.Proofs.YtohlkkannjifmaaGreatDoor
open Go.RowKit
theorem rows_keep {base size n : Nat} {e : TypeId} {W W' : World} {v : Value} {xs : List Value} (h : W.ownsRow base e size v n xs) (hk : ∀ b, v.ownBlock = some b → W'.heap[b]? = W.heap[b]?) : W'.ownsRow base e size v n xs := by
  obtain ⟨e1, h3 | ⟨g, cap, cur, hv, hg, hh, r⟩⟩ := h
  · exact ⟨e1, .inl h3⟩
  · exact ⟨e1, .inr ⟨g, cap, cur, hv, hg, (hk g (by rw [hv]; rfl)).trans hh, r⟩⟩
theorem rows_ge {base size n : Nat} {e : TypeId} {W : World} {v : Value} {xs : List Value} (h : W.ownsRow base e size v n xs) : ∀ b, v.ownBlock = some b → base ≤ b ∧ b < W.heap.size := by
  intro b hb
  obtain ⟨e1, ⟨h3, -⟩ | ⟨g, cap, cur, hv, hg, hh, r⟩⟩ := h
  · rw [h3] at hb; cases hb
  · rw [hv] at hb; cases hb
    exact ⟨hg, (Array.getElem?_eq_some_iff.1 hh).1⟩
theorem rows_below {base size n : Nat} {e : TypeId} {W W' : World} {v : Value} {xs : List Value} (h : W.ownsRow base e size v n xs) (hb : Below W.heap.size W W') : W'.ownsRow base e size v n xs := rows_keep h (fun b e => hb.block b (rows_ge h b e).2)
theorem rows_mono {B B' size n : Nat} {e : TypeId} {W : World} {v : Value} {xs : List Value} (h : W.ownsRow B e size v n xs) (hb : B' ≤ B) : W.ownsRow B' e size v n xs := by
  obtain ⟨e1, h3 | ⟨g, cap, cur, hv, hg, r⟩⟩ := h
  · exact ⟨e1, .inl h3⟩
  · exact ⟨e1, .inr ⟨g, cap, cur, hv, Nat.le_trans hb hg, r⟩⟩
theorem rows_form {base size n : Nat} {e : TypeId} {W : World} {v : Value} {xs : List Value} (h : W.ownsRow base e size v n xs) : ∃ a c, v = .slice a n c ∧ n ≤ c ∧ c ≤ 9223372036854775807 ∧ (0 < n → ∃ g, a = some ⟨g, 0, none⟩) := by
  obtain ⟨e1, ⟨h3, h4⟩ | ⟨g, cap, cur, hv, hg, hh, hle, hcap, r⟩⟩ := h
  · exact ⟨none, 0, by rw [h3, h4], by omega, by omega, fun h => by omega⟩
  · exact ⟨_, cap, hv, hle, by simpa [maxLen] using hcap, fun _ => ⟨g, rfl⟩⟩
theorem row_keep {w w' : World} {base g n c m size : Nat} {e : TypeId} {xs : List Value} (h : w.ownsRow base e size (.slice (some ⟨g, 0, none⟩) n c) m xs) (hk : w'.heap[g]? = w.heap[g]?) : w'.ownsRow base e size (.slice (some ⟨g, 0, none⟩) n c) m xs := rows_keep h (fun b e => by cases e; exact hk)
theorem row_lt {w : World} {base g n c m size : Nat} {e : TypeId} {xs : List Value} (h : w.ownsRow base e size (.slice (some ⟨g, 0, none⟩) n c) m xs) : base ≤ g ∧ g < w.heap.size := rows_ge h g rfl
theorem row_is {w : World} {base size n : Nat} {e : TypeId} {v : Value} {xs : List Value} (h : w.ownsRow base e size v n xs) {g : Nat} (hg : v.ownBlock = some g) : ∃ cur, w.heap[g]? = some (.cells cur e (0, 0)) := by
  obtain ⟨e1, ⟨h3, -⟩ | ⟨g', cap, cur, hv, hg', hh, r⟩⟩ := h
  · rw [h3] at hg; cases hg
  · rw [hv] at hg; cases hg; exact ⟨cur, hh⟩
theorem row_set {w : World} {base g n c m size : Nat} {e : TypeId} {xs : List Value} (h : w.ownsRow base e size (.slice (some ⟨g, 0, none⟩) n c) m xs) (k : Nat) (v : Value) : (w.setCell ⟨g, k, none⟩ v).ownsRow base e size (.slice (some ⟨g, 0, none⟩) n c) m (xs.set k v) := by
  obtain ⟨e1, ⟨h3, -⟩ | ⟨g', cap, cur, hv, hg, hh, hle, hcap, hsz, htk⟩⟩ := h
  · cases h3
  · cases hv
    have e2 := heap_setCell_same w g k cur e v hh
    refine ⟨by rw [List.length_set]; exact e1, .inr ⟨g, _, _, rfl, hg, e2, hle, hcap, by simp [hsz], ?_⟩⟩
    rw [← htk]
    simp only [Array.toList_setIfInBounds]
    rw [List.take_set]
theorem rowc_at {w : World} {base g n c m size : Nat} {e : TypeId} {xs : List Value} (h : w.ownsRow base e size (.slice (some ⟨g, 0, none⟩) n c) m xs) {k : Nat} (hk : k < m * size) : (∃ u, w.cell? ⟨g, k, none⟩ = some u) ∧ w.frozen? ⟨g, k, none⟩ = false := by
  have hm : m = n := by
    obtain ⟨e1, ⟨h3, -⟩ | ⟨g', cap, cur, hv, -⟩⟩ := h
    · cases h3
    · cases hv; rfl
  subst hm
  exact ⟨⟨_, (h.cellAt k hk).trans (List.getElem?_eq_getElem (by rw [h.1]; exact hk))⟩, h.frozenAt k⟩
theorem grown_one (w : World) (g k : Nat) (v : Value) : w.grownBy (w.setCell ⟨g, k, none⟩ v) (some g) :=
  ⟨rfl, rfl, rfl, by simp [World.setCell], fun b _ hne => Below.heap_setCell _ _ _ _ (fun e => hne (by rw [e]))⟩
theorem grown_trans {a b c : World} {r : Option Nat} (h : a.grownBy b r) (k : b.grownBy c r) : a.grownBy c r :=
  ⟨k.os.trans h.os, k.tape.trans h.tape, k.output.trans h.output, Nat.le_trans h.size k.size, fun i hi hn => (k.block i (Nat.lt_of_lt_of_le hi h.size) hn).trans (h.block i hi hn)⟩
theorem append_keepC {P : Program} {w : World} {base n m cs : Nat} {v : Value} {X Q : List Value} (t ty e : TypeId) (i0 : TypeInfo) (z : Value) (hu : P.underlying t = some (.slice e)) (hi : P.info? e = some i0) (hz0 : i0.zero = some z) (hz1 : i0.size = cs) (hzc : z.cells.size = cs)
    (h : w.ownsRow base e cs v n X) (sa : Option Addr) (c : Nat) (hsrc : ∃ ad, sa = some ad ∧ ∀ j u, Q[j]? = some u → w.cell? (ad.add j) = some u) (hone : ∀ u ∈ Q, u.oneCell' = true)
    (hQ : Q.length = m * cs) (hm : 0 < m) (hbase : base ≤ w.heap.size) (hsize : (n + m) * i0.bytes ≤ 140737488355328) (hcnt : n + m ≤ 140737488355328) :
    ∃ g cap w', (Builtin.append_ #[t, t] ty #[v, .slice sa m c]).run P w = .ok (.slice (some ⟨g, 0, none⟩) (n + m) cap) w' ∧ w'.ownsRow base e cs (.slice (some ⟨g, 0, none⟩) (n + m) cap) (n + m) (X ++ Q) ∧ w'.ownsRow base e cs v n X ∧
      w.grownBy w' v.ownBlock ∧ (v.ownBlock = some g ∨ g = w.heap.size) := by
  obtain ⟨ad, rfl, hcell⟩ := hsrc
  have hlX := h.1
  have hnews : Q.length = m * i0.size := by rw [hz1]; exact hQ
  have hall : (X ++ Q).length = (n + m) * cs := by rw [List.length_append, hlX, hQ, Nat.add_mul]
  have grown : ∀ old, old < n + m → (w.drew.alloc (.cells (X.toArray ++ Q.toArray ++ Builtin.zeroCells z.cells (grownCap w (n + m) old e - (n + m))) e)).ownsRow base e cs
      (.slice (some ⟨w.heap.size, 0, none⟩) (n + m) (grownCap w (n + m) old e)) (n + m) (X ++ Q) := by
    intro old ho
    have hge := grownCap_ge w (n + m) old e
    have hcm : grownCap w (n + m) old e ≤ maxLen := grownCap_le_maxLen w (n + m) old e (by simp only [maxLen]; omega)
    refine ⟨hall, .inr ⟨w.heap.size, _, _, rfl, hbase, heap_alloc_new w.drew _, hge, hcm, ?_, ?_⟩⟩
    · simp only [Array.size_append, List.size_toArray, size_zeroCells, hzc, hlX, hQ]
      rw [← Nat.add_mul, ← Nat.add_mul]
      congr 1
      omega
    · simp only [Array.toList_append]
      rw [← hall]
      exact List.take_left
  have hkeep : ∀ o, (w.drew.alloc o).ownsRow base e cs v n X := fun o => rows_below h ((Below.refl _ w).drew.alloc (Nat.le_refl _) o)
  have hgrw : ∀ o row, w.grownBy (w.drew.alloc o) row := fun o row => ⟨rfl, rfl, rfl, by simp, fun k hk _ => ((Below.refl w.heap.size w).drew.alloc (Nat.le_refl _) o).block k hk⟩
  obtain ⟨h1, ⟨rfl, h0⟩ | ⟨g, cap, cur, rfl, hg, hh, hle, hcap, hcs, htk⟩⟩ := id h
  · subst h0
    have hX : X = [] := List.eq_nil_of_length_eq_zero (by rw [h1]; simp)
    subst hX
    have hr := run_append_nil (P := P) w t ty e i0 _ hu hi hz0 ad m c Q hnews hcell hm (by omega) (by simp only [Nat.zero_add] at hsize; omega)
    have hgr := grown 0 (by omega)
    simp only [Nat.zero_add, List.nil_append, Array.empty_append] at hgr ⊢
    exact ⟨_, _, _, hr, hgr, World.ownsRow_nil _ _ _ _, hgrw _ _, .inr rfl⟩
  · by_cases hroom : n + m ≤ cap
    · have hfit : n * i0.size + Q.length ≤ cur.size := by rw [hz1, hcs, hQ, ← Nat.add_mul]; exact Nat.mul_le_mul_right _ hroom
      have hr := run_append_room (P := P) w t ty e i0 hu hi g n cap cur hh ad m c Q hnews hcell hone hroom hfit
      rw [hz1, htk] at hr
      have hnew := setRow_heap w g cur (X ++ Q ++ cur.toList.drop (n * cs + Q.length)).toArray e (0, 0) hh
      have hle2 : n * cs + Q.length ≤ cap * cs := by rw [hQ, ← Nat.add_mul]; exact Nat.mul_le_mul_right _ hroom
      have hsz2 : (X ++ Q ++ cur.toList.drop (n * cs + Q.length)).toArray.size = cap * cs := by
        simp only [List.size_toArray, List.length_append, List.length_drop, Array.length_toList, hlX, hcs]
        omega
      refine ⟨g, cap, _, hr, ⟨hall, .inr ⟨g, cap, _, rfl, hg, hnew, hroom, hcap, hsz2, ?_⟩⟩, ⟨h1, .inr ⟨g, cap, _, rfl, hg, hnew, hle, hcap, hsz2, ?_⟩⟩, ⟨rfl, rfl, rfl, by simp, fun k _ hk => setRow_other w g k _ (fun e => hk (by simp [Value.ownBlock, e]))⟩, .inl rfl⟩
      · rw [← hall]
        exact List.take_left
      · show (X ++ Q ++ _).take (n * cs) = X
        rw [List.append_assoc, ← hlX]
        exact List.take_left
    · have holds : ∀ j u, X[j]? = some u → w.cell? ((⟨g, 0, none⟩ : Addr).add j) = some u := World.ownsRow.cells (g := g) h rfl
      have hr := run_append_grow (P := P) w t ty e i0 _ hu hi hz0 ⟨g, 0, none⟩ n cap X (by rw [hz1]; exact hlX) holds ad m c Q hnews hcell (by omega) (by omega) (growslice_fits (by omega) hsize)
      exact ⟨_, _, _, hr, grown cap (by omega), hkeep _, hgrw _ _, .inr rfl⟩
theorem wpList_append_keepC {P : Program} {w : World} {ops : Array Oper} {rest : List Oper} {o : Oper} {a : Act} {K : Exit → Act → World → Prop} (hgd : o.guard = none) (s x : Operand) (t : TypeId)
    (ho : o.op = .call { callee := .builtin .append, args := #[s, x], argTypes := #[t, t] }) (e : TypeId) (i0 : TypeInfo) (z : Value) {base n m cs : Nat} {v : Value} {X Q : List Value} (hu : P.underlying t = some (.slice e)) (hi : P.info? e = some i0) (hz0 : i0.zero = some z) (hz1 : i0.size = cs) (hzc : z.cells.size = cs)
    (hs : a.eval s = v) (h : w.ownsRow base e cs v n X) (sa : Option Addr) (c : Nat)
    (hx : a.eval x = .slice sa m c) (hsrc : ∃ ad, sa = some ad ∧ ∀ j u, Q[j]? = some u → w.cell? (ad.add j) = some u) (hone : ∀ u ∈ Q, u.oneCell' = true) (hQ : Q.length = m * cs) (hm : 0 < m) (hbase : base ≤ w.heap.size) (hsize : (n + m) * i0.bytes ≤ 140737488355328) (hcnt : n + m ≤ 140737488355328)
    (hK : ∀ g cap w', w'.ownsRow base e cs (.slice (some ⟨g, 0, none⟩) (n + m) cap) (n + m) (X ++ Q) → w'.ownsRow base e cs v n X → w.grownBy w' v.ownBlock → (v.ownBlock = some g ∨ g = w.heap.size) → wpList P ops K rest (a.put o.dst (.slice (some ⟨g, 0, none⟩) (n + m) cap)) w') : wpList P ops K (o :: rest) a w := by
  obtain ⟨g, cap, w', hr, h1, h2, h3, h4⟩ := append_keepC t o.type e i0 z hu hi hz0 hz1 hzc h sa c hsrc hone hQ hm hbase hsize hcnt
  refine wpList_plain hgd fun K' hK' => ?_
  unfold Oper.wp execOp
  simp only [ho, resolve, invoke, builtin, Sem.run_bind, Sem.run_pure, Result.andThen_ok, List.map_toArray, List.map_cons, List.map_nil, hs, hx, hr]
  exact hK' _ _ (hK g cap w' h1 h2 h3 h4)
theorem own_pre {B g cs n m : Nat} {e : TypeId} {w w' : World} {v u : Value} {X Y : List Value} (hcs : 0 < cs) (hv : w.ownsRow B e cs v n X) (hu : w.ownsRow B e cs u m Y) (e1 : v.ownBlock = some g) (e2 : u.ownBlock = some g) (hmn : m ≤ n) (hv' : w'.ownsRow B e cs v n X) : w'.ownsRow B e cs u m Y := by
  obtain ⟨-, ⟨rfl, -⟩ | ⟨g1, c1, cur1, rfl, hg1, hh1, hle1, hcap1, hsz1, htk1⟩⟩ := hv
  · cases e1
  · cases e1
    obtain ⟨hul, ⟨rfl, -⟩ | ⟨g2, c2, cur2, rfl, hg2, hh2, hle2, hcap2, hsz2, htk2⟩⟩ := hu
    · cases e2
    · cases e2
      rw [hh1] at hh2
      cases hh2
      have ec : c1 = c2 := Nat.eq_of_mul_eq_mul_right hcs (by rw [← hsz1, ← hsz2])
      subst ec
      obtain ⟨-, ⟨h, -⟩ | ⟨g3, c3, cur3, h, hg3, hh3, hle3, hcap3, hsz3, htk3⟩⟩ := hv'
      · cases h
      · cases h
        refine ⟨hul, .inr ⟨_, _, _, rfl, hg3, hh3, hle2, hcap3, hsz3, ?_⟩⟩
        have hmul : m * cs ≤ n * cs := Nat.mul_le_mul_right _ hmn
        have h1 : Y = X.take (m * cs) := by rw [← htk1, ← htk2, List.take_take, Nat.min_eq_left hmul]
        rw [h1, ← htk3, List.take_take, Nat.min_eq_left hmul]
def isC (e : TypeId) : Obj → Bool | .cells _ t _ => t == e | _ => false
def Fr (e le : TypeId) (w w' : World) : Prop := ∀ (b : Nat) (o : Obj), w.heap[b]? = some o → isC e o = false → isC le o = false → w'.heap[b]? = some o
theorem Fr.refl (e le : TypeId) (w : World) : Fr e le w w := fun _ _ h _ _ => h
theorem Fr.trans {e le : TypeId} {a b c : World} (h : Fr e le a b) (k : Fr e le b c) : Fr e le a c := fun i o h1 h2 h3 => k i o (h i o h1 h2 h3) h2 h3
theorem Fr.below {e le : TypeId} {a b : World} (h : Below a.heap.size a b) : Fr e le a b := fun i _o h1 _ _ => (h.block i (Array.getElem?_eq_some_iff.1 h1).1).trans h1
theorem Fr.grown {e le : TypeId} {a b : World} {r : Option Nat} (h : a.grownBy b r) (hr : ∀ k, r = some k → ∀ o, a.heap[k]? = some o → isC e o = true ∨ isC le o = true) : Fr e le a b := by
  intro i o h1 h2 h3
  refine (h.block i (Array.getElem?_eq_some_iff.1 h1).1 (fun e => ?_)).trans h1
  rcases hr i e.symm o h1 with h | h
  · rw [h] at h2; cases h2
  · rw [h] at h3; cases h3
theorem isC_self (e : TypeId) (c : Array Value) (f : Nat × Nat) : isC e (.cells c e f) = true := by simp [isC]
theorem Fr.own {e le : TypeId} {a b : World} {base cs n : Nat} {v : Value} {X : List Value} (h : a.grownBy b v.ownBlock) (ho : a.ownsRow base e cs v n X) : Fr e le a b := Fr.grown h fun k hk o h1 => .inl (by
  obtain ⟨cur, h2⟩ := row_is ho hk
  rw [h1] at h2; cases h2; exact isC_self _ _ _)
structure Stab (e le : TypeId) (T : World → List Value → Nat → Nat → Prop) : Prop where
  st : ∀ {w w' X k i}, Fr e le w w' → T w X k i → T w' X k i
  ext : ∀ {w X Z k i}, T w X k i → T w (X ++ Z) k i
  zero : ∀ w X k, T w X k 0
  le : ∀ {w X k i i'}, T w X k i → i' ≤ i → T w X k i'
structure Out (K : Nat) (V : Nat → Value) (w w' : World) : Prop where
  os : w'.os = w.os
  tape : w'.tape = w.tape
  output : w'.output = w.output
  size : w.heap.size ≤ w'.heap.size
  block : ∀ k, k < w.heap.size → (∀ j, j < K → (V j).ownBlock ≠ some k) → w'.heap[k]? = w.heap[k]?
theorem Out.refl (K : Nat) (V : Nat → Value) (w : World) : Out K V w w := ⟨rfl, rfl, rfl, Nat.le_refl _, fun _ _ _ => rfl⟩
theorem Out.trans {K : Nat} {V : Nat → Value} {w a b : World} (h : Out K V w a) (k : Out K V a b) : Out K V w b :=
  ⟨k.os.trans h.os, k.tape.trans h.tape, k.output.trans h.output, Nat.le_trans h.size k.size, fun i hi hh => (k.block i (Nat.lt_of_lt_of_le hi h.size) hh).trans (h.block i hi hh)⟩
theorem Out.below {K : Nat} {V : Nat → Value} {w a b : World} (h : Out K V w a) (hb : Below a.heap.size a b) : Out K V w b :=
  ⟨hb.os.trans h.os, hb.tape.trans h.tape, hb.output.trans h.output, Nat.le_trans h.size hb.size, fun k hk hh => (hb.block k (Nat.lt_of_lt_of_le hk h.size)).trans (h.block k hk hh)⟩
theorem Out.grown {K : Nat} {V : Nat → Value} {w a b : World} {r : Option Nat} (h : Out K V w a) (hg : a.grownBy b r) (hr : ∀ k, r = some k → (∃ j, j < K ∧ (V j).ownBlock = some k) ∨ w.heap.size ≤ k) : Out K V w b :=
  ⟨hg.os.trans h.os, hg.tape.trans h.tape, hg.output.trans h.output, Nat.le_trans h.size hg.size, fun k hk hh => (hg.block k (Nat.lt_of_lt_of_le hk h.size) (fun e => by
    rcases hr k e.symm with ⟨j, h1, h2⟩ | h
    · exact hh j h1 h2
    · omega)).trans (h.block k hk hh)⟩
theorem Out.cell {K : Nat} {V : Nat → Value} {w a : World} (h : Out K V w a) {p : Addr} (h1 : ∀ j, j < K → (V j).ownBlock ≠ some p.block) (h2 : p.block < w.heap.size) : a.cell? p = w.cell? p := by
  unfold World.cell?
  rw [h.block p.block h2 h1]
structure Ap (e : TypeId) (cs : Nat) (T : World → List Value → Nat → Nat → Prop) (B N K : Nat) (V : Nat → Value) (n I : Nat → Nat) (w : World) : Prop where
  own : ∀ k, k < K → ∃ X, w.ownsRow B e cs (V k) (n k) X ∧ T w X k (I k)
  lt : ∀ k, k < K → ∀ b, (V k).ownBlock = some b → b < N
  ap : ∀ j k, j < K → k < K → j ≠ k → ∀ b, (V j).ownBlock = some b → (V k).ownBlock = some b → False
  size : N ≤ w.heap.size
section
variable {e le : TypeId} {cs : Nat} {T : World → List Value → Nat → Nat → Prop} {B N K : Nat} {V : Nat → Value} {n I : Nat → Nat} {w w' : World}
theorem Ap.below (h : Ap e cs T B N K V n I w) (st : Stab e le T) (hb : Below w.heap.size w w') : Ap e cs T B N K V n I w' :=
  ⟨fun k hk => by obtain ⟨X, h1, h2⟩ := h.own k hk; exact ⟨X, rows_below h1 hb, st.st (Fr.below hb) h2⟩, h.lt, h.ap, Nat.le_trans h.size hb.size⟩
theorem Ap.grow (h : Ap e cs T B N K V n I w) (st : Stab e le T) {k : Nat} (hk : k < K) (hg : w.grownBy w' (V k).ownBlock) {X : List Value} {i : Nat} (ho : w'.ownsRow B e cs (V k) (n k) X) (hT : T w' X k i) : Ap e cs T B N K V n (fun j => if j = k then i else I j) w' := by
  obtain ⟨X0, h0, -⟩ := h.own k hk
  have hf : Fr e le w w' := Fr.own hg h0
  refine ⟨fun j hj => ?_, h.lt, h.ap, Nat.le_trans h.size hg.size⟩
  by_cases e : j = k
  · subst e
    exact ⟨X, ho, by simpa using hT⟩
  · obtain ⟨Y, h1, h2⟩ := h.own j hj
    exact ⟨Y, rows_keep h1 fun b hb => hg.block b (Nat.lt_of_lt_of_le (h.lt j hj b hb) h.size) (fun e2 => h.ap j k hj hk e b hb e2.symm), by simp only [if_neg e]; exact st.st hf h2⟩
theorem Ap.new (h : Ap e cs T B N K V n I w) (st : Stab e le T) {r : Option Nat} (hg : w.grownBy w' r) (hr : ∀ k, r = some k → N ≤ k) (hf : Fr e le w w') : Ap e cs T B N K V n I w' :=
  ⟨fun j hj => by
    obtain ⟨Y, h1, h2⟩ := h.own j hj
    exact ⟨Y, rows_keep h1 fun b hb => hg.block b (Nat.lt_of_lt_of_le (h.lt j hj b hb) h.size) (fun e2 => by have := hr b e2.symm; have := h.lt j hj b hb; omega), st.st hf h2⟩, h.lt, h.ap, Nat.le_trans h.size hg.size⟩
theorem Ap.congr (h : Ap e cs T B N K V n I w) {I' : Nat → Nat} (he : ∀ k, k < K → I' k = I k) : Ap e cs T B N K V n I' w :=
  ⟨fun k hk => by rw [he k hk]; exact h.own k hk, h.lt, h.ap, h.size⟩
theorem Ap.keepgrow (h : Ap e cs T B N K V n I w) (st : Stab e le T) (hcs : 0 < cs) {k : Nat} (hk : k < K) {v : Value} {m : Nat} {X : List Value} (hv : w.ownsRow B e cs v m X) (hm : n k ≤ m)
    (hb : ∀ b, v.ownBlock = some b → (V k).ownBlock = some b ∨ N ≤ b) (hg : w.grownBy w' v.ownBlock) (hv' : w'.ownsRow B e cs v m X) : Ap e cs T B N K V n I w' := by
  have hf : Fr e le w w' := Fr.own hg hv
  refine ⟨fun j hj => ?_, h.lt, h.ap, Nat.le_trans h.size hg.size⟩
  obtain ⟨Y, h1, h2⟩ := h.own j hj
  refine ⟨Y, ?_, st.st hf h2⟩
  by_cases e : ∃ b, v.ownBlock = some b ∧ (V j).ownBlock = some b
  · obtain ⟨b, e1, e2⟩ := e
    have hjk : j = k := by
      rcases hb b e1 with h1 | h1
      · by_cases e3 : j = k
        · exact e3
        · exact absurd h1 (fun h1 => h.ap j k hj hk e3 b e2 h1)
      · have := h.lt j hj b e2; omega
    subst hjk
    exact own_pre hcs hv h1 e1 e2 hm hv'
  · exact rows_keep h1 fun b hb2 => hg.block b (Nat.lt_of_lt_of_le (h.lt j hj b hb2) h.size) (fun e2 => e ⟨b, e2.symm, hb2⟩)
theorem Ap.split (h : Ap e cs T B N K V n I w) {k : Nat} (hk : k < K) : ∃ a c, V k = .slice a (n k) c ∧ n k ≤ c ∧ c ≤ 9223372036854775807 ∧ (0 < n k → ∃ g, a = some ⟨g, 0, none⟩) := by
  obtain ⟨X, h1, -⟩ := h.own k hk
  obtain ⟨a, c, e1, e2, e3, e4⟩ := rows_form h1
  exact ⟨a, c, e1, e2, e3, e4⟩
theorem Ap.ne (h : Ap e cs T B N K V n I w) {k : Nat} (hk : k < K) {b : Nat} (hb : N ≤ b) : (V k).ownBlock ≠ some b := fun e => by have := h.lt k hk b e; omega
end
def Grs (e le : TypeId) (cs : Nat) (T : World → List Value → Nat → Nat → Prop) (B M gb K : Nat) (V : Nat → Value) (m J : Nat → Nat) (k : Nat) (w : World) : Prop :=
  ∃ Vs : List Value, Vs.length = K ∧ w.ownsRow M le 1 (.slice (some ⟨gb, 0, none⟩) K K) K Vs ∧
    ∀ j, j < k → ∃ g c Y, Vs[j]? = some (.slice (some ⟨g, 0, none⟩) (m j) c) ∧ w.ownsRow B e cs (.slice (some ⟨g, 0, none⟩) (m j) c) (m j) Y ∧ T w Y j (J j) ∧ ((V j).ownBlock = some g ∨ M ≤ g) ∧ g ≠ gb
section
variable {e le : TypeId} {cs : Nat} {T : World → List Value → Nat → Nat → Prop} {B N M gb K k : Nat} {V : Nat → Value} {n I m J : Nat → Nat} {w w' w0 : World}
theorem Grs.keep (h : Grs e le cs T B M gb K V m J k w) (st : Stab e le T) (hA : Ap e cs T B N K V n I w0) (hk : k < K) (hN : N ≤ M) (hf : Fr e le w w')
    (hb : ∀ b, b < w.heap.size → (V k).ownBlock ≠ some b → w'.heap[b]? = w.heap[b]?) : Grs e le cs T B M gb K V m J k w' := by
  obtain ⟨Vs, h1, h2, h3⟩ := h
  have hfar : ∀ b, M ≤ b → (V k).ownBlock ≠ some b := fun b hM e => by have := hA.lt k hk b e; omega
  refine ⟨Vs, h1, row_keep h2 (hb gb (row_lt h2).2 (hfar gb (row_lt h2).1)), fun j hj => ?_⟩
  obtain ⟨g, c, Y, e1, e2, e2', e3, e4⟩ := h3 j hj
  refine ⟨g, c, Y, e1, rows_keep e2 fun b hb2 => ?_, st.st hf e2', e3, e4⟩
  cases hb2
  refine hb g (row_lt e2).2 ?_
  rcases e3 with h | h
  · exact fun e => hA.ap j k (by omega) hk (by omega) g h e
  · exact hfar g h
theorem Grs.below (h : Grs e le cs T B M gb K V m J k w) (st : Stab e le T) (hb : Below w.heap.size w w') : Grs e le cs T B M gb K V m J k w' := by
  obtain ⟨Vs, h1, h2, h3⟩ := h
  refine ⟨Vs, h1, row_keep h2 (hb.block gb (row_lt h2).2), fun j hj => ?_⟩
  obtain ⟨g, c, Y, e1, e2, e2', e3, e4⟩ := h3 j hj
  exact ⟨g, c, Y, e1, rows_below e2 hb, st.st (Fr.below hb) e2', e3, e4⟩
theorem Grs.put (h : Grs e le cs T B M gb K V m J k w) (st : Stab e le T) (hk : k < K) {g c : Nat} {Y : List Value} (ho : w.ownsRow B e cs (.slice (some ⟨g, 0, none⟩) (m k) c) (m k) Y) (hT : T w Y k (J k)) (hg : (V k).ownBlock = some g ∨ M ≤ g) (hne : g ≠ gb) :
    Grs e le cs T B M gb K V m J (k + 1) (w.setCell ⟨gb, k, none⟩ (.slice (some ⟨g, 0, none⟩) (m k) c)) := by
  obtain ⟨Vs, h1, h2, h3⟩ := h
  have hf : Fr e le w (w.setCell ⟨gb, k, none⟩ (.slice (some ⟨g, 0, none⟩) (m k) c)) := Fr.grown (grown_one w gb k _) fun b e o ho => .inr (by
    cases e
    obtain ⟨cur, h⟩ := row_is h2 rfl
    rw [ho] at h; cases h; exact isC_self _ _ _)
  have hkeep : ∀ {u : Value} {p : Nat} {P : List Value}, w.ownsRow B e cs u p P → (∀ b, u.ownBlock = some b → b ≠ gb) → (w.setCell ⟨gb, k, none⟩ (.slice (some ⟨g, 0, none⟩) (m k) c)).ownsRow B e cs u p P := fun hu hb => rows_keep hu fun b e => Below.heap_setCell _ _ _ _ (hb b e)
  refine ⟨Vs.set k (.slice (some ⟨g, 0, none⟩) (m k) c), by rw [List.length_set, h1], row_set h2 k _, fun j hj => ?_⟩
  by_cases e : j = k
  · subst e
    exact ⟨g, c, Y, by rw [List.getElem?_set_self (by omega)], hkeep ho (fun b e => by cases e; exact hne), st.st hf hT, hg, hne⟩
  · obtain ⟨g', c', Y', e1, e2, e2', e3, e4⟩ := h3 j (by omega)
    exact ⟨g', c', Y', by rw [List.getElem?_set_ne (fun h => e h.symm)]; exact e1, hkeep e2 (fun b e => by cases e; exact e4), st.st hf e2', e3, e4⟩
theorem Grs.cell (h : Grs e le cs T B M gb K V m J k w) {j : Nat} (hj : j < k) (hk : j < K) :
    ∃ g c Y, w.cell? ⟨gb, j, none⟩ = some (.slice (some ⟨g, 0, none⟩) (m j) c) ∧ w.ownsRow B e cs (.slice (some ⟨g, 0, none⟩) (m j) c) (m j) Y ∧ T w Y j (J j) := by
  obtain ⟨Vs, h1, h2, h3⟩ := h
  obtain ⟨g, c, Y, e1, e2, e2', -, -⟩ := h3 j hj
  exact ⟨g, c, Y, (h2.cellAt j (by omega)).trans e1, e2, e2'⟩
theorem Grs.slot (h : Grs e le cs T B M gb K V m J k w) {j : Nat} (hk : j < K) : (∃ u, w.cell? ⟨gb, j, none⟩ = some u) ∧ w.frozen? ⟨gb, j, none⟩ = false := by
  obtain ⟨Vs, h1, h2, h3⟩ := h
  exact rowc_at h2 (by omega)
theorem Grs.row (h : Grs e le cs T B M gb K V m J k w) : M ≤ gb ∧ gb < w.heap.size := by
  obtain ⟨Vs, -, hrow, -⟩ := h
  exact row_lt hrow
theorem Grs.fr (h : Grs e le cs T B M gb K V m J k w) (q : Nat) (v : Value) : Fr e le w (w.setCell ⟨gb, q, none⟩ v) := Fr.grown (grown_one w gb q _) fun b e o ho => .inr (by
    cases e
    obtain ⟨Vs, h1, h2, h3⟩ := h
    obtain ⟨cur, h⟩ := row_is h2 rfl
    rw [ho] at h; cases h; exact isC_self _ _ _)
theorem Grs.none (h : Grs e le cs T B M gb K V m J k w) (m' J' : Nat → Nat) : Grs e le cs T B M gb K V m' J' 0 w := by
  obtain ⟨Vs, e1, e2, -⟩ := h
  exact ⟨Vs, e1, e2, fun j hj => absurd hj (Nat.not_lt_zero _)⟩
end
structure Kp (S : Nat) (v : Value) (w w' : World) : Prop where
  size : S ≤ w'.heap.size
  block : ∀ b, b < S → v.ownBlock ≠ some b → w'.heap[b]? = w.heap[b]?
theorem Kp.refl {w : World} {v : Value} : Kp w.heap.size v w w := ⟨Nat.le_refl _, fun _ _ _ => rfl⟩
theorem Kp.below {S : Nat} {v : Value} {w a b : World} (h : Kp S v w a) (hb : Below a.heap.size a b) : Kp S v w b :=
  ⟨Nat.le_trans h.size hb.size, fun k hk hn => (hb.block k (Nat.lt_of_lt_of_le hk h.size)).trans (h.block k hk hn)⟩
theorem Kp.grown {S : Nat} {v : Value} {w a b : World} {r : Option Nat} (h : Kp S v w a) (hg : a.grownBy b r) (hr : ∀ k, r = some k → v.ownBlock = some k ∨ S ≤ k) : Kp S v w b :=
  ⟨Nat.le_trans h.size hg.size, fun k hk hn => (hg.block k (Nat.lt_of_lt_of_le hk h.size) (fun e => by
    rcases hr k e.symm with h1 | h1
    · exact hn h1
    · omega)).trans (h.block k hk hn)⟩
end Go.Proofs.YtohlkkannjifmaaGreatDoor
namespace Go.Proofs.YtohlkkannjifmaaGreatDoor
open Go.RowKit Go.Shelf
structure DoV where
  op : Int
  next : Int
  lsn : Int
  ka : Option Addr
  kn : Nat
  kc : Nat
  K : List UInt8
  oa : Option Addr
  on : Nat
  oc : Nat
  O : List UInt8
  na : Option Addr
  nn : Nat
  nc : Nat
  N : List UInt8
  take : Bool
instance : Inhabited DoV := ⟨⟨0, 0, 0, none, 0, 0, [], none, 0, 0, [], none, 0, 0, [], false⟩⟩
def T2 (W : World) (z : Nat) (v0 v1 : Value) : Prop := W.heap[z]? = some (.cells #[v0, v1] 185 (0, 0))
def z10 : List UInt8 := List.replicate 10 0
end Go.Proofs.YtohlkkannjifmaaGreatDoor
namespace Go.Proofs.YtohlkkannjifmaaGreatDoor
open Go.RowKit Go.Shelf
def markN (k i : Nat) : Nat := 1000003 * (k + 7) + i
def mkB (k i : Nat) : UInt8 := UInt8.ofNat (markN k i * 11400714819323198485 % 18446744073709551616 / 72057594037927936)
theorem mark_any (k i : Nat) (w : World) (hk : k ≤ 1000000) (hi : i ≤ 1000000000) :
    Calls Tryz.prog 139 #[.int .i64 k, .int .i64 i] w fun e w' => e = .returned (.int .i64 (markN k i : Nat)) ∧ w = w' := by
  have hf : ((markN k i : Nat) : Int) = 1000003 * ((k : Int) + 7) + (i : Int) := by unfold markN; omega
  have Hf := Lib.hid hf
  clear hf
  go_enter Tryz.func139, Tryz.ntmps139
  go_wp2_with (fail)
  go_ret
  exact ⟨by rw [Hf.out]; rfl, rfl⟩
set_option maxRecDepth 100000 in
theorem mkB_val (k i : Nat) : IntKind.u64.wrap ((markN k i : Nat) * 11400714819323198485) / 72057594037927936 % 256 = ((mkB k i).toNat : Int) := by
  unfold mkB
  rw [UInt8.toNat_ofNat']
  generalize markN k i = m
  have h : IntKind.u64.wrap ((m : Nat) * 11400714819323198485) = ((m * 11400714819323198485 % 18446744073709551616 : Nat) : Int) := by
    unfold IntKind.wrap
    simp [IntKind.bits, IntKind.signed]
  rw [h]
  generalize m * 11400714819323198485 % 18446744073709551616 = q
  omega
set_option maxRecDepth 100000 in
theorem markByte_any (k i : Nat) (w : World) (hk : k ≤ 1000000) (hi : i ≤ 1000000000) :
    Calls Tryz.prog 141 #[.int .i64 k, .int .i64 i] w fun e w' => e = .returned (.int .u8 ((mkB k i).toNat : Int)) ∧ w = w' := by
  have HM := Lib.hid (mark_any k i w hk hi)
  have hm : markN k i < 2000000000000 := by unfold markN; omega
  go_enter Tryz.func141, Tryz.ntmps141
  go_wp2_with (fail)
  refine HM.out.mono ?_
  rintro e w' ⟨rfl, rfl⟩
  have hv := mkB_val k i
  have Hv := Lib.hid hv
  clear hv
  go_wp2_with (fail)
  go_ret
  exact ⟨congrArg (fun x => Ending.returned (.int .u8 x)) Hv.out, rfl⟩
end Go.Proofs.YtohlkkannjifmaaGreatDoor
