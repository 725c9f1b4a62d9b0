/- The walk of storemankit.SameTexts. Marked texts. Lists of texts that are lent. The walk of storemankit.KeptParts. Heights in a graph: plain Lean, no program. -/
import Derived.Test.YtbedbhlebfnohaaGreatBelowQ
import Derived.Laws.OwnMore
import Derived.Test.YtbedbhlebfnohaaGreatJSame
import Derived.Laws.IdiomStrings
import Derived.Test.YtbedbhlebfnohaaGreatProg
namespace Go.Proofs.YtbedbhlebfnohaaGreat
open Go.RowKit

theorem takeT_succ {P Q : List (List UInt8)} {k : Nat} (hk : k < P.length) (hk2 : k < Q.length) (h : P.take k = Q.take k) (he : P.getD k [] = Q.getD k []) : P.take (k+1) = Q.take (k+1) := by
  rw [List.take_succ_eq_append_getElem hk, List.take_succ_eq_append_getElem hk2, h]
  simp only [List.getD, List.getElem?_eq_getElem hk, List.getElem?_eq_getElem hk2, Option.getD_some] at he
  rw [he]

set_option maxHeartbeats 4000000 in
theorem SameTexts_any (B : Nat) (a b : Option Addr) (n m c d : Nat) (P Q : List (List UInt8)) (w : World) (hp : RT B w a n c P) (hq : RT B w b m d Q) :
    Calls Tryz.prog 118 #[.slice a n c, .slice b m d] w fun e w' => e = .returned (.bool (decide (P = Q))) ∧ ∃ q, w' = w.drewN q := by
  have hle := hp.le; have hmx := hp.mx; have hle2 := hq.le; have hmx2 := hq.mx
  have Hln := Lib.hid hp.len
  have Hln2 := Lib.hid hq.len
  by_cases hnm : n = m
  · subst hnm
    go_enter Tryz.func118, Tryz.ntmps118
    go_wp2_with (fail)
    go_loopw [5] (fun i wr => ∃ j : Nat, j ≤ n ∧ i = .int .i64 j ∧ Hid (P.take j = Q.take j) ∧ ∃ q, wr = w.drewN q) (fun i _ => n - (intOf i).toNat)
    case atStart => exact ⟨0, Nat.zero_le _, rfl, Lib.hid rfl, 0, rfl⟩
    case round =>
      obtain ⟨j, hj, rfl, ht, q, rfl⟩ := hrel
      by_cases hlt : j < n
      · obtain ⟨b1, o1, rfl, -, hc1⟩ := hp.at_ (by omega)
        obtain ⟨b2, o2, rfl, -, hc2⟩ := hq.at_ (by omega)
        have g1 := hc1 j hlt
        have k1 := hc2 j hlt
        clear hc1 hc2
        have Hsucc := Lib.hid (fun he => takeT_succ (by rw [← Hln.out]; exact hlt) (by rw [← Hln2.out]; exact hlt) ht.out he)
        have Hno := Lib.hid (show P.getD j [] ≠ Q.getD j [] → decide (P = Q) = false from fun hne => decide_eq_false fun e => hne (by rw [e]))
        generalize P.getD j [] = x at g1 Hsucc Hno
        generalize Q.getD j [] = y at k1 Hsucc Hno
        unfold encStr at g1 k1
        by_cases he : x = y
        · have Hs := Lib.hid (Hsucc.out he)
          subst he
          clear Hno
          go_wp2_with (fail)
          go_quiet (fail)
          go_wp2_with (fail)
          go_roundw
          case rel => exact ⟨j + 1, by omega, by go_num, Hs, _, rfl⟩
          case measure => simp [intOf]; omega
        · have Hn := Lib.hid (Hno.out he)
          have hf : (x == y) = false := by simpa using he
          have hf2 : (x != y) = true := by simpa using he
          clear Hsucc
          go_wp2_with (fail)
          go_quiet (fail)
          go_wp2_with (fail)
          go_ret
          rw [Hn.out]
          exact ⟨rfl, _, World.drewN_drewN _ _ _⟩
      · have hge : n ≤ j := by omega
        go_wp2_with (fail)
        go_ret
        have : P = Q := by
          have := ht.out
          rwa [List.take_of_length_le (by rw [← Hln.out]; exact hge), List.take_of_length_le (by rw [← Hln2.out]; exact hge)] at this
        rw [decide_eq_true this]
        exact ⟨rfl, _, rfl⟩
  · have hne : decide (P = Q) = false := decide_eq_false fun e => hnm (by rw [Hln.out, Hln2.out, e])
    rw [hne]
    go_enter Tryz.func118, Tryz.ntmps118
    go_wp2_with (fail)
    go_ret
    exact ⟨rfl, 0, rfl⟩
end Go.Proofs.YtbedbhlebfnohaaGreat
namespace Go.Proofs.YtbedbhlebfnohaaGreat
open Go.RowKit

theorem conv8 (w : World) (a b c d e f g h : UInt8) : (convert 186 9 (.slice (some ⟨w.heap.size, 0, none⟩) 8 8)).run Tryz.prog (w.alloc (.cells #[.int .u8 a.toNat, .int .u8 b.toNat, .int .u8 c.toNat, .int .u8 d.toNat, .int .u8 e.toNat, .int .u8 f.toNat, .int .u8 g.toNat, .int .u8 h.toNat] 5)) = .ok (.string ⟨#[a, b, c, d, e, f, g, h]⟩) (w.alloc (.cells #[.int .u8 a.toNat, .int .u8 b.toNat, .int .u8 c.toNat, .int .u8 d.toNat, .int .u8 e.toNat, .int .u8 f.toNat, .int .u8 g.toNat, .int .u8 h.toNat] 5)) := by
  refine run_convert_bytes_back (P := Tryz.prog) _ _ _ 5 ⟨w.heap.size, 0, none⟩ 8 [a, b, c, d, e, f, g, h] Tryz.underlying186 Tryz.underlying5 Tryz.underlying9 fun j hj => ?_
  have e1 : (⟨w.heap.size, 0, none⟩ : Addr).add j = ⟨w.heap.size, j, none⟩ := by unfold Addr.add; split <;> simp_all
  rw [e1, World.cell?_alloc_new]
  have hj8 : j < 8 := hj
  obtain rfl | rfl | rfl | rfl | rfl | rfl | rfl | rfl : j = 0 ∨ j = 1 ∨ j = 2 ∨ j = 3 ∨ j = 4 ∨ j = 5 ∨ j = 6 ∨ j = 7 := by omega
  all_goals rfl
end Go.Proofs.YtbedbhlebfnohaaGreat
namespace Go.Proofs.YtbedbhlebfnohaaGreat
open Go.RowKit

def OT (base : Nat) (w : World) (v : Value) (L : List (List UInt8)) : Prop := w.ownsRow base 9 1 v L.length (L.map encStr)
theorem Tryz.infoStr : (Tryz.prog.info? 9).map (fun i => (i.zero, i.size, i.bytes)) = some (some (.string ByteArray.empty), 1, 16) := by kernel_rfl
theorem OT.mono {B B' : Nat} {w : World} {v : Value} {L : List (List UInt8)} (h : OT B w v L) (hb : B' ≤ B) : OT B' w v L := by
  obtain ⟨h1, h2 | ⟨g, cap, cur, hv, hg, r⟩⟩ := h
  · exact ⟨h1, .inl h2⟩
  · exact ⟨h1, .inr ⟨g, cap, cur, hv, Nat.le_trans hb hg, r⟩⟩
theorem OT.keep {base : Nat} {W W' : World} {v : Value} {L : List (List UInt8)} (h : OT base W v L) (hk : ∀ b, v.ownBlock = some b → W'.heap[b]? = W.heap[b]?) : OT base W' v L := by
  obtain ⟨e1, h3 | ⟨g, cap, cur, hv, hg, hh, r⟩⟩ := h
  · exact ⟨e1, .inl h3⟩
  · exact ⟨e1, .inr ⟨g, cap, cur, hv, hg, (hk g (by rw [hv]; rfl)).trans hh, r⟩⟩
theorem OT.ge {base : Nat} {W : World} {v : Value} {L : List (List UInt8)} (h : OT base W v L) : ∀ b, v.ownBlock = some b → base ≤ b ∧ b < W.heap.size := by
  intro b hb
  obtain ⟨e1, ⟨rfl, -⟩ | ⟨g, cap, cur, rfl, hg, hh, r⟩⟩ := h
  · cases hb
  · cases hb
    exact ⟨hg, (Array.getElem?_eq_some_iff.1 hh).1⟩
theorem OT.below {base : Nat} {W W' : World} {v : Value} {L : List (List UInt8)} (h : OT base W v L) (hb : Below W.heap.size W W') : OT base W' v L :=
  h.keep fun b e => hb.block b (h.ge b e).2
theorem run_append_texts {w : World} {base : Nat} {v : Value} {L M : List (List UInt8)} (h : OT base w v L) (ty : TypeId) (sa : Option Addr) (c : Nat) (hsrc : 0 < M.length → ∃ ad, sa = some ad ∧ ∀ j u, (M.map encStr)[j]? = some u → w.cell? (ad.add j) = some u)
    (hbase : base ≤ w.heap.size) (hsize : (L.length + M.length) * 16 ≤ 140737488355328) :
    ∃ v' w', (Builtin.append_ #[100, 100] ty #[v, .slice sa M.length c]).run Tryz.prog w = .ok v' w' ∧ OT base w' v' (L ++ M) ∧ w.grownBy w' v.ownBlock ∧ (v' = .slice none 0 0 → v = .slice none 0 0) := by
  obtain ⟨i0, hi, hz0, hz1, hz2⟩ := info_parts Tryz.infoStr
  by_cases h0 : M.length = 0
  · obtain rfl : M = [] := List.eq_nil_of_length_eq_zero h0
    have hv : ∃ va vc, v = .slice va L.length vc ∧ L.length ≤ vc := by
      obtain ⟨h1, ⟨rfl, h0⟩ | ⟨g, cap, cur, rfl, hg, hh, hle, r⟩⟩ := h
      · exact ⟨none, 0, by rw [h0], by omega⟩
      · exact ⟨_, _, rfl, hle⟩
    obtain ⟨va, vc, rfl, hle⟩ := hv
    have hrun := run_append_nothing (P := Tryz.prog) w 100 ty 9 i0 Tryz.underlying100 hi va sa L.length vc c hle
    exact ⟨_, w, hrun, by simpa using h, ⟨rfl, rfl, rfl, Nat.le_refl _, fun _ _ _ => rfl⟩, id⟩
  · obtain ⟨ad, rfl, hcell⟩ := hsrc (by omega)
    obtain ⟨v', w', hrun, hown, hg, hn⟩ := run_append_own (P := Tryz.prog) w base 100 ty 9 i0 _ 1 16 Tryz.underlying100 hi hz0 hz1 hz2 rfl (by decide) v L.length (L.map encStr) h ad M.length c (M.map encStr) (by simp) hcell
      (fun u hu => by obtain ⟨y, _, rfl⟩ := List.mem_map.1 hu; rfl) (by simp only [maxLen]; omega) hsize hbase
    refine ⟨v', w', hrun, ?_, hg, fun e => (hn.1 e).1⟩
    unfold OT
    rw [List.length_append, List.map_append]
    exact hown
theorem RT.src {B : Nat} {w : World} {a : Option Addr} {n c : Nat} {L : List (List UInt8)} (h : RT B w a n c L) : 0 < L.length → ∃ ad, a = some ad ∧ ∀ j u, (L.map encStr)[j]? = some u → w.cell? (ad.add j) = some u := by
  intro h0
  have hc : 0 < c := by have := h.le; have := h.len; omega
  obtain ⟨b, o, rfl, -, hcell⟩ := h.at_ hc
  refine ⟨_, rfl, fun j u hu => ?_⟩
  have e : (⟨b, o, none⟩ : Addr).add j = ⟨b, o + j, none⟩ := by unfold Addr.add; split <;> simp_all
  rw [e]
  rw [List.getElem?_map] at hu
  rcases Nat.lt_or_ge j L.length with hj | hj
  · rw [List.getElem?_eq_getElem hj] at hu
    cases hu
    have := hcell j (by have := h.len; omega)
    rw [List.getD_eq_getElem?_getD, List.getElem?_eq_getElem hj] at this
    exact this
  · rw [List.getElem?_eq_none hj] at hu; cases hu

end Go.Proofs.YtbedbhlebfnohaaGreat
namespace Go.Proofs.YtbedbhlebfnohaaGreat
open Go.RowKit

theorem eqPart_self (x : List UInt8) (u : Int) (w : World) : (Op.equalIn 10000 60 (.agg #[encStr x, .int .i64 u]) (.agg #[encStr x, .int .i64 u])).run Tryz.prog w = .ok true w := by
  rw [eqPart, eqP_iff.2 rfl]

end Go.Proofs.YtbedbhlebfnohaaGreat
namespace Go.Proofs.YtbedbhlebfnohaaGreat

section
variable {α : Type}

def hgt (kids : α → List α) : Nat → α → Option Nat
  | 0, _ => none
  | k + 1, c => (kids c).foldl (fun acc p => match acc, hgt kids k p with | some n, some d => some (max n (d + 1)) | _, _ => none) (some 1)

def stepH (f : α → Option Nat) (acc : Option Nat) (p : α) : Option Nat := match acc, f p with | some n, some d => some (max n (d + 1)) | _, _ => none
theorem hgt_succ (kids : α → List α) (k : Nat) (c : α) : hgt kids (k + 1) c = (kids c).foldl (stepH (hgt kids k)) (some 1) := rfl
theorem stepH_none (f : α → Option Nat) (l : List α) : l.foldl (stepH f) none = none := by
  induction l with
  | nil => rfl
  | cons x l ih => rw [List.foldl_cons]; exact ih
theorem foldH_some {f : α → Option Nat} : ∀ {l : List α} {n m : Nat}, l.foldl (stepH f) (some n) = some m → n ≤ m ∧ ∀ p ∈ l, ∃ d, f p = some d ∧ d + 1 ≤ m
  | [], n, m, h => by
    cases h
    exact ⟨Nat.le_refl _, fun p hp => by cases hp⟩
  | x :: l, n, m, h => by
    rw [List.foldl_cons] at h
    cases hx : f x with
    | none =>
      have : stepH f (some n) x = none := by simp [stepH, hx]
      rw [this, stepH_none] at h
      cases h
    | some d =>
      have e : stepH f (some n) x = some (max n (d + 1)) := by simp [stepH, hx]
      rw [e] at h
      obtain ⟨h1, h2⟩ := foldH_some h
      refine ⟨by omega, fun p hp => ?_⟩
      rcases List.mem_cons.1 hp with rfl | hp
      · exact ⟨d, hx, by omega⟩
      · exact h2 p hp
theorem foldH_congr {f g : α → Option Nat} : ∀ {l : List α} {n m : Nat}, (∀ p ∈ l, ∀ d, f p = some d → g p = some d) → l.foldl (stepH f) (some n) = some m → l.foldl (stepH g) (some n) = some m
  | [], n, m, _, h => h
  | x :: l, n, m, hc, h => by
    rw [List.foldl_cons] at h ⊢
    cases hx : f x with
    | none =>
      have : stepH f (some n) x = none := by simp [stepH, hx]
      rw [this, stepH_none] at h
      cases h
    | some d =>
      have e : stepH f (some n) x = some (max n (d + 1)) := by simp [stepH, hx]
      have e' : stepH g (some n) x = some (max n (d + 1)) := by simp [stepH, hc x (List.mem_cons_self ..) d hx]
      rw [e] at h
      rw [e']
      exact foldH_congr (fun p hp => hc p (List.mem_cons_of_mem _ hp)) h
theorem foldH_top {f : α → Option Nat} : ∀ {l : List α} {n m : Nat}, l.foldl (stepH f) (some n) = some m → m = n ∨ ∃ p ∈ l, ∃ d, f p = some d ∧ m = d + 1
  | [], n, m, h => by cases h; exact Or.inl rfl
  | x :: l, n, m, h => by
    rw [List.foldl_cons] at h
    cases hx : f x with
    | none =>
      have : stepH f (some n) x = none := by simp [stepH, hx]
      rw [this, stepH_none] at h
      cases h
    | some d =>
      have e : stepH f (some n) x = some (max n (d + 1)) := by simp [stepH, hx]
      rw [e] at h
      rcases foldH_top h with h | ⟨p, hp, d', hd, hm⟩
      · by_cases hle : n ≤ d + 1
        · exact Or.inr ⟨x, List.mem_cons_self .., d, hx, by omega⟩
        · exact Or.inl (by omega)
      · exact Or.inr ⟨p, List.mem_cons_of_mem _ hp, d', hd, hm⟩
variable {kids : α → List α}
theorem hgt_mono1 : ∀ (k : Nat) (c : α) (d : Nat), hgt kids k c = some d → hgt kids (k + 1) c = some d
  | 0, _, _, h => by cases h
  | k + 1, c, d, h => by
    rw [hgt_succ] at h ⊢
    exact foldH_congr (fun p _ d hd => hgt_mono1 k p d hd) h
theorem hgt_mono {k k' : Nat} (hk : k ≤ k') {c : α} {d : Nat} (h : hgt kids k c = some d) : hgt kids k' c = some d := by
  induction hk with
  | refl => exact h
  | step _ ih => exact hgt_mono1 _ _ _ ih
theorem hgt_one {k k' : Nat} {c : α} {d d' : Nat} (h : hgt kids k c = some d) (h' : hgt kids k' c = some d') : d = d' := by
  have a := hgt_mono (Nat.le_max_left k k') h
  have b := hgt_mono (Nat.le_max_right k k') h'
  rw [a] at b
  cases b; rfl
theorem hgt_pos {k : Nat} {c : α} {d : Nat} (h : hgt kids k c = some d) : 1 ≤ d := by
  cases k with
  | zero => cases h
  | succ k => exact (foldH_some h).1
theorem hgt_kid {k : Nat} {c p : α} {d : Nat} (h : hgt kids k c = some d) (hp : p ∈ kids c) : ∃ k' d', hgt kids k' p = some d' ∧ d' < d := by
  cases k with
  | zero => cases h
  | succ k =>
    obtain ⟨d', h1, h2⟩ := (foldH_some h).2 p hp
    exact ⟨k, d', h1, h2⟩
theorem hgt_fuel : ∀ (d k : Nat) (c : α), hgt kids k c = some d → hgt kids d c = some d
  | d, 0, _, h => by cases h
  | d, k + 1, c, h => by
    have h0 := h
    rw [hgt_succ] at h
    have hp := hgt_pos h0
    obtain ⟨e, rfl⟩ : ∃ e, d = e + 1 := ⟨d - 1, by omega⟩
    rw [hgt_succ]
    refine foldH_congr (fun p hpm d' hd => ?_) h
    obtain ⟨d2, h2, hle⟩ := (foldH_some h).2 p hpm
    rw [hd] at h2
    cases h2
    exact hgt_mono (by omega) (hgt_fuel d' k p hd)
theorem hgt_below {k : Nat} {c : α} {d : Nat} (h : hgt kids k c = some (d + 1)) (hd : 1 ≤ d) : ∃ p ∈ kids c, ∃ k', hgt kids k' p = some d := by
  cases k with
  | zero => cases h
  | succ k =>
    rcases foldH_top h with h | ⟨p, hp, d', hd', hm⟩
    · omega
    · exact ⟨p, hp, k, by rw [hd']; congr 1; omega⟩
theorem hgt_chain {V : List α} (hV : ∀ c ∈ V, ∀ p ∈ kids c, p ∈ V) : ∀ (d : Nat) {k : Nat} {c : α}, c ∈ V → hgt kids k c = some d → ∀ e, 1 ≤ e → e ≤ d → ∃ x ∈ V, ∃ k', hgt kids k' x = some e
  | 0, _, _, _, h, _, _, _ => absurd (hgt_pos h) (by omega)
  | d + 1, k, c, hc, h, e, h1, h2 => by
    by_cases he : e = d + 1
    · exact ⟨c, hc, k, by rw [he]; exact h⟩
    · obtain ⟨p, hp, k', hk'⟩ := hgt_below h (by omega)
      exact hgt_chain hV d (hV c hc p hp) hk' e h1 (by omega)
theorem many [DecidableEq α] (f : Nat → α) (V : List α) (d : Nat) (hf : ∀ e, 1 ≤ e → e ≤ d → f e ∈ V) (hi : ∀ a b, 1 ≤ a → a ≤ d → 1 ≤ b → b ≤ d → f a = f b → a = b) : d ≤ V.length := by
  induction d generalizing V with
  | zero => exact Nat.zero_le _
  | succ d ih =>
    have hm := hf (d + 1) (by omega) (Nat.le_refl _)
    have h := ih (V.erase (f (d + 1))) (fun e h1 h2 => by
      have h3 := hf e h1 (by omega)
      refine (List.mem_erase_of_ne (fun he => ?_)).2 h3
      have := hi e (d + 1) h1 (by omega) (by omega) (Nat.le_refl _) he
      omega) (fun a b h1 h2 h3 h4 => hi a b h1 (by omega) h3 (by omega))
    rw [List.length_erase_of_mem hm] at h
    have : 0 < V.length := List.length_pos_of_mem hm
    omega
theorem hgt_le [DecidableEq α] {V : List α} (hV : ∀ c ∈ V, ∀ p ∈ kids c, p ∈ V) {k : Nat} {c : α} (hc : c ∈ V) {d : Nat} (h : hgt kids k c = some d) : d ≤ V.length := by
  have hch := hgt_chain hV d hc h
  have hex : ∀ e, ∃ x, (1 ≤ e → e ≤ d → x ∈ V ∧ ∃ k', hgt kids k' x = some e) := fun e => by
    by_cases he : 1 ≤ e ∧ e ≤ d
    · obtain ⟨x, hx, k', hk⟩ := hch e he.1 he.2
      exact ⟨x, fun _ _ => ⟨hx, k', hk⟩⟩
    · exact ⟨c, fun a b => absurd ⟨a, b⟩ he⟩
  let f : Nat → α := fun e => Classical.choose (hex e)
  have hf : ∀ e, 1 ≤ e → e ≤ d → f e ∈ V ∧ ∃ k', hgt kids k' (f e) = some e := fun e => Classical.choose_spec (hex e)
  refine many f V d (fun e h1 h2 => (hf e h1 h2).1) (fun a b h1 h2 h3 h4 he => ?_)
  obtain ⟨k1, e1⟩ := (hf a h1 h2).2
  obtain ⟨k2, e2⟩ := (hf b h3 h4).2
  rw [he] at e1
  exact hgt_one e1 e2
theorem hgt_all [DecidableEq α] {V : List α} (hV : ∀ c ∈ V, ∀ p ∈ kids c, p ∈ V) {k : Nat} {c : α} (hc : c ∈ V) {d : Nat} (h : hgt kids k c = some d) : hgt kids V.length c = some d :=
  hgt_mono (hgt_le hV hc h) (hgt_fuel d k c h)
inductive Way (kids : α → List α) : α → α → Prop
  | one {a b : α} : b ∈ kids a → Way kids a b
  | more {a b c : α} : Way kids a b → c ∈ kids b → Way kids a c
theorem Way.lower {a b : α} (h : Way kids a b) : ∀ {k d : Nat}, hgt kids k a = some d → ∃ k' d', hgt kids k' b = some d' ∧ d' < d := by
  induction h with
  | one hb => intro k d hk; exact hgt_kid hk hb
  | more _ hc ih =>
    intro k d hk
    obtain ⟨k1, d1, h1, l1⟩ := ih hk
    obtain ⟨k2, d2, h2, l2⟩ := hgt_kid h1 hc
    exact ⟨k2, d2, h2, by omega⟩
theorem Way.round {a : α} (h : Way kids a a) (k : Nat) : hgt kids k a = none := by
  cases hk : hgt kids k a with
  | none => rfl
  | some d =>
    obtain ⟨k', d', h', hl⟩ := h.lower hk
    have := hgt_one hk h'
    omega
theorem foldH_of {g : α → Option Nat} {f : α → Nat} : ∀ {l : List α} {n : Nat}, (∀ p ∈ l, g p = some (f p)) → l.foldl (stepH g) (some n) = some (l.foldl (fun n p => max n (f p + 1)) n)
  | [], _, _ => rfl
  | x :: l, n, hk => by
    rw [List.foldl_cons, List.foldl_cons]
    have e : stepH g (some n) x = some (max n (f x + 1)) := by simp [stepH, hk x (List.mem_cons_self ..)]
    rw [e]
    exact foldH_of (fun p hp => hk p (List.mem_cons_of_mem _ hp))
theorem hgt_of_kids {c : α} {f : α → Nat} (h : ∀ p ∈ kids c, ∃ k, hgt kids k p = some (f p)) : ∃ k, hgt kids k c = some ((kids c).foldl (fun n p => max n (f p + 1)) 1) := by
  have hall : ∃ k, ∀ p ∈ kids c, hgt kids k p = some (f p) := by
    generalize kids c = l at h
    induction l with
    | nil => exact ⟨0, fun p hp => by cases hp⟩
    | cons x l ih =>
      obtain ⟨k1, h1⟩ := ih (fun p hp => h p (List.mem_cons_of_mem _ hp))
      obtain ⟨k2, h2⟩ := h x (List.mem_cons_self ..)
      refine ⟨max k1 k2, fun p hp => ?_⟩
      rcases List.mem_cons.1 hp with rfl | hp
      · exact hgt_mono (Nat.le_max_right _ _) h2
      · exact hgt_mono (Nat.le_max_left _ _) (h1 p hp)
  obtain ⟨k, hk⟩ := hall
  refine ⟨k + 1, ?_⟩
  rw [hgt_succ]
  exact foldH_of hk
end
end Go.Proofs.YtbedbhlebfnohaaGreat
