/- Memory predicates and small lemmas that the walks share: what it is for a slice of bytes to read as a list, and what a call keeps of memory. Plain Lean: parts that are joined, as a list that rises by its keys. Parts and numbers in memory: slices that came in, and slices of the call's own. -/
import Derived.Test.YtbedbhlebfnohaaGreatRows
import Derived.WalkKit
import Derived.WalkSpells
import Derived.WalkLawsBesides
import Derived.Deep.QuietTactic
import Derived.BigQuiet
import Derived.Handy
import Derived.Deep.Light
import Derived.Lib.Hide
import Derived.Sort.Statements
import Derived.Lib.Bytealg
import GoSem.Op.String
import Derived.OwnWalk
import Derived.Sort.EncStr
namespace Go.Proofs.YtbedbhlebfnohaaGreat
open Go.RowKit

def bt (l : List UInt8) (i : Nat) : Int := ((l.getD i 0).toNat : Int)
end Go.Proofs.YtbedbhlebfnohaaGreat
namespace Go.Proofs.YtbedbhlebfnohaaGreat

abbrev Pt := List UInt8 × Int
def mostA : Int := 1125899906842624
def okA (n : Int) : Bool := decide (0 ≤ n) && decide (n ≤ mostA)
def addA (a b : Int) : Option Int := if okA a && (okA b && decide (a + b ≤ mostA)) then some (a + b) else none
def sumL : Int → List Int → Option Int
  | n, [] => some n
  | n, m :: L => if okA m && decide (n + m ≤ mostA) then sumL (n + m) L else none
theorem okA_iff {n : Int} : okA n = true ↔ 0 ≤ n ∧ n ≤ 1125899906842624 := by unfold okA mostA; rw [Bool.and_eq_true, decide_eq_true_eq, decide_eq_true_eq]
theorem sumL_two (a b : Int) : sumL 0 [a, b] = addA a b := by
  unfold sumL sumL sumL addA
  cases ha : okA a
  · simp
  · have := okA_iff.1 ha
    have h1 : decide ((0 : Int) + a ≤ mostA) = true := by simp [mostA]; omega
    rw [h1]
    simp
theorem addA_some {a b n : Int} (h : addA a b = some n) : okA a = true ∧ okA b = true ∧ okA n = true ∧ n = a + b := by
  unfold addA at h
  split at h
  · rename_i hc
    simp only [Bool.and_eq_true, decide_eq_true_eq] at hc
    cases h
    obtain ⟨h1, h2, h3⟩ := hc
    have e1 := okA_iff.1 h1
    have e2 := okA_iff.1 h2
    simp only [mostA] at h3
    exact ⟨h1, h2, okA_iff.2 (by omega), rfl⟩
  · cases h

def sumAt : List Pt → List UInt8 → Int
  | [], _ => 0
  | p :: S, k => if p.1 = k then p.2 else sumAt S k
def setAt : List Pt → List UInt8 → Int → List Pt
  | [], k, n => [(k, n)]
  | p :: S, k, n => if p.1 < k then p :: setAt S k n else if p.1 = k then (k, n) :: S else (k, n) :: p :: S
def joinL : List Pt → List Pt → Option (List Pt)
  | S, [] => some S
  | S, p :: L => match addA (sumAt S p.1) p.2 with | none => none | some n => joinL (setAt S p.1 n) L
def Up (S : List Pt) : Prop := S.Pairwise (fun p q => p.1 < q.1) ∧ ∀ p ∈ S, okA p.2 = true
theorem Up.nil : Up [] := ⟨List.Pairwise.nil, fun p hp => by cases hp⟩
theorem Up.tail {p : Pt} {S : List Pt} (h : Up (p :: S)) : Up S := ⟨(List.pairwise_cons.1 h.1).2, fun q hq => h.2 q (List.mem_cons_of_mem _ hq)⟩
theorem lt_asymm' {a b : List UInt8} (h : a < b) (h' : b < a) : False := List.lt_irrefl a (List.lt_trans h h')
theorem lt_or {a b : List UInt8} (h : ¬ a < b) : a = b ∨ b < a := by
  have h1 : b ≤ a := List.not_lt.1 h
  rcases Classical.em (b < a) with h2 | h2
  · exact .inr h2
  · exact .inl (List.le_antisymm (List.not_lt.1 h2) h1)

theorem mem_setAt : ∀ {S : List Pt} {k : List UInt8} {n : Int} {p : Pt}, p ∈ setAt S k n → p = (k, n) ∨ p ∈ S
  | [], k, n, p, h => by simp [setAt] at h; exact .inl h
  | q :: S, k, n, p, h => by
    unfold setAt at h
    split at h
    · rcases List.mem_cons.1 h with rfl | h
      · exact .inr (by simp)
      · rcases mem_setAt h with h | h
        · exact .inl h
        · exact .inr (List.mem_cons_of_mem _ h)
    · split at h
      · rcases List.mem_cons.1 h with rfl | h
        · exact .inl rfl
        · exact .inr (List.mem_cons_of_mem _ h)
      · rcases List.mem_cons.1 h with rfl | h
        · exact .inl rfl
        · exact .inr h
theorem Up.set : ∀ {S : List Pt} (k : List UInt8) {n : Int}, Up S → okA n = true → Up (setAt S k n)
  | [], k, n, _, hn => ⟨by simp [setAt], fun p hp => by simp [setAt] at hp; rw [hp]; exact hn⟩
  | q :: S, k, n, h, hn => by
    have ih := Up.set k h.tail hn
    obtain ⟨h1, h2⟩ := List.pairwise_cons.1 h.1
    refine ⟨?_, fun p hp => by rcases mem_setAt hp with rfl | hp; exact hn; exact h.2 p hp⟩
    unfold setAt
    split
    · rename_i hlt
      refine List.pairwise_cons.2 ⟨fun p hp => ?_, ih.1⟩
      rcases mem_setAt hp with rfl | hp
      · exact hlt
      · exact h1 p hp
    · rename_i hge
      split
      · rename_i he
        exact List.pairwise_cons.2 ⟨fun p hp => by rw [← he]; exact h1 p hp, h2⟩
      · rename_i hne
        have hk : k < q.1 := (lt_or hge).resolve_left hne
        refine List.pairwise_cons.2 ⟨fun p hp => ?_, h.1⟩
        rcases List.mem_cons.1 hp with rfl | hp
        · exact hk
        · exact List.lt_trans hk (h1 p hp)
theorem sumAt_none : ∀ {S : List Pt} {k : List UInt8}, k ∉ S.map (·.1) → sumAt S k = 0
  | [], _, _ => rfl
  | p :: S, k, h => by
    simp only [List.map_cons, List.mem_cons, not_or] at h
    unfold sumAt
    rw [if_neg (fun e => h.1 e.symm), sumAt_none h.2]
theorem sumAt_set : ∀ {S : List Pt} (k : List UInt8) (n : Int) (k' : List UInt8), Up S → sumAt (setAt S k n) k' = if k' = k then n else sumAt S k'
  | [], k, n, k', _ => by
    unfold setAt sumAt sumAt
    by_cases h : k' = k
    · rw [if_pos h.symm, if_pos h]
    · rw [if_neg (fun e => h e.symm), if_neg h]
  | q :: S, k, n, k', h => by
    unfold setAt
    split
    · rename_i hlt
      conv => lhs; unfold sumAt
      conv => rhs; unfold sumAt
      rw [sumAt_set k n k' h.tail]
      by_cases e : q.1 = k'
      · have : k' ≠ k := fun e2 => by rw [e, e2] at hlt; exact List.lt_irrefl _ hlt
        rw [if_pos e, if_neg this, if_pos e]
      · rw [if_neg e, if_neg e]
    · split
      · rename_i he
        unfold sumAt
        by_cases e : k' = k
        · rw [if_pos e.symm, if_pos e]
        · rw [if_neg (fun e2 => e e2.symm), if_neg e, if_neg (fun e2 => e (e2.symm.trans he))]
      · rename_i hne
        conv => lhs; unfold sumAt
        by_cases e : k' = k
        · rw [if_pos e.symm, if_pos e]
        · rw [if_neg (fun e2 => e e2.symm), if_neg e]
theorem keys_set : ∀ {S : List Pt} (k : List UInt8) (n : Int) (k' : List UInt8), k' ∈ (setAt S k n).map (·.1) ↔ k' = k ∨ k' ∈ S.map (·.1)
  | [], k, n, k' => by simp [setAt]
  | q :: S, k, n, k' => by
    have ih := keys_set (S := S) k n k'
    unfold setAt
    split
    · rw [List.map_cons, List.mem_cons, ih, List.map_cons, List.mem_cons]
      constructor
      · rintro (h | h | h)
        · exact .inr (.inl h)
        · exact .inl h
        · exact .inr (.inr h)
      · rintro (h | h | h)
        · exact .inr (.inl h)
        · exact .inl h
        · exact .inr (.inr h)
    · split
      · rename_i he
        rw [List.map_cons, List.mem_cons, List.map_cons, List.mem_cons, he]
        constructor
        · rintro (h | h)
          · exact .inl h
          · exact .inr (.inr h)
        · rintro (h | h | h)
          · exact .inl h
          · exact .inl h
          · exact .inr h
      · simp
theorem Up.sum_ok : ∀ {S : List Pt} (k : List UInt8), Up S → okA (sumAt S k) = true
  | [], _, _ => by show okA 0 = true; decide
  | p :: S, k, h => by
    unfold sumAt
    split
    · exact h.2 p (by simp)
    · exact Up.sum_ok k h.tail
theorem Up.sum_mem : ∀ {S : List Pt} {p : Pt}, Up S → p ∈ S → sumAt S p.1 = p.2
  | q :: S, p, h, hp => by
    unfold sumAt
    rcases List.mem_cons.1 hp with rfl | hp
    · rw [if_pos rfl]
    · have := (List.pairwise_cons.1 h.1).1 p hp
      rw [if_neg (fun e => by rw [e] at this; exact List.lt_irrefl _ this), Up.sum_mem h.tail hp]
theorem mem_of_key : ∀ {S : List Pt} {k : List UInt8}, k ∈ S.map (·.1) → (k, sumAt S k) ∈ S
  | p :: S, k, h => by
    unfold sumAt
    split
    · rename_i e
      rw [← e]; simp
    · rename_i e
      rcases List.mem_cons.1 h with h | h
      · exact (e h.symm).elim
      · exact List.mem_cons_of_mem _ (mem_of_key h)
theorem Up.nodup {S : List Pt} (h : Up S) : S.Nodup := h.1.imp (fun {a b} hlt e => by rw [e] at hlt; exact List.lt_irrefl _ hlt)
theorem Up.perm {S out : List Pt} (h : Up S) (hnd : (out.map (·.1)).Nodup) (hm : ∀ k, k ∈ out.map (·.1) ↔ k ∈ S.map (·.1)) (hv : ∀ p ∈ out, p.2 = sumAt S p.1) : out.Perm S := by
  refine (List.perm_ext_iff_of_nodup ((List.pairwise_map.1 hnd).imp fun {a b} hne e => hne (by rw [e])) h.nodup).2 fun p => ?_
  constructor
  · intro hp
    have h1 := mem_of_key ((hm p.1).1 (List.mem_map.2 ⟨p, hp, rfl⟩))
    rw [← hv p hp] at h1
    exact h1
  · intro hp
    obtain ⟨q, hq, e⟩ := List.mem_map.1 ((hm p.1).2 (List.mem_map.2 ⟨p, hp, rfl⟩))
    have e2 := hv q hq
    have e' : q.1 = p.1 := e
    rw [e', h.sum_mem hp] at e2
    have : q = p := Prod.ext e' e2
    rw [← this]; exact hq
theorem Up.sorted {S l : List Pt} (h : Up S) (hp : l.Perm S) (hs : l.Pairwise (fun a b => ¬ b.1 < a.1)) : l = S := by
  refine List.Perm.eq_of_pairwise (le := fun a b => ¬ b.1 < a.1) (fun a b ha hb h1 h2 => ?_) hs (h.1.imp fun {a b} hlt hgt => lt_asymm' hlt hgt) hp
  have e : a.1 = b.1 := by
    rcases lt_or h2 with e | e
    · exact e
    · exact (h1 e).elim
  have e1 := h.sum_mem (hp.mem_iff.1 ha)
  have e2 := h.sum_mem hb
  rw [e] at e1
  exact Prod.ext e (e1.symm.trans e2)
theorem joinL_up : ∀ {L S R : List Pt}, Up S → joinL S L = some R → Up R
  | [], S, R, h, e => by cases e; exact h
  | p :: L, S, R, h, e => by
    unfold joinL at e
    split at e
    · cases e
    · rename_i n hn
      exact joinL_up (h.set p.1 (addA_some hn).2.2.1) e
/-! Two strings held against one another. -/
theorem cmp_lt : ∀ (a b : List UInt8), (Lib.compareBytes a b < 0 ↔ a < b) ∧ (Lib.compareBytes a b > 0 ↔ b < a)
  | [], [] => by simp [Lib.compareBytes]
  | [], y :: b => by simp [Lib.compareBytes]
  | x :: a, [] => by simp [Lib.compareBytes]
  | x :: a, y :: b => by
    have ih := cmp_lt a b
    unfold Lib.compareBytes
    rw [List.cons_lt_cons_iff, List.cons_lt_cons_iff]
    by_cases h : x < y
    · have h2 : ¬ y < x := fun h2 => UInt8.lt_irrefl _ (UInt8.lt_trans h h2)
      have h3 : ¬ y = x := fun e => by subst e; exact UInt8.lt_irrefl _ h
      simp [h, h2, h3]
    · by_cases h2 : y < x
      · have h3 : ¬ x = y := fun e => by subst e; exact UInt8.lt_irrefl _ h2
        simp [h, h2, h3]
      · have h3 : x = y := UInt8.le_antisymm (UInt8.not_lt.1 h2) (UInt8.not_lt.1 h)
        subst h3
        simp [h, ih]
theorem less_iff : ∀ (a b : List UInt8), Op.bytesLess a b = decide (a < b)
  | a, [] => by cases a <;> simp [Op.bytesLess]
  | [], y :: b => by simp [Op.bytesLess]
  | x :: a, y :: b => by
    unfold Op.bytesLess
    rw [less_iff a b, Bool.eq_iff_iff]
    simp [List.cons_lt_cons_iff]
def cfP (x y : Pt) : Int := Lib.compareBytes x.1 y.1
theorem cfP_lt (x y : Pt) : decide (cfP x y < 0) = decide (x.1 < y.1) := by
  unfold cfP
  simp only [decide_eq_decide]
  exact (cmp_lt x.1 y.1).1
theorem Up.sorted_in [Inhabited Pt] {S : List Pt} (h : Up S) {lt : Pt → Pt → Bool} (hlt : ∀ x y, lt x y = decide (x.1 < y.1)) {d d' : Array Pt} (hp : Sort.PermIn 0 d.size d d') (hs : Sort.SortedIn lt 0 d.size d') (hd : d.toList.Perm S) : d'.toList = S := by
  obtain ⟨hsz, _, hperm⟩ := hp
  have e1 : d'.extract 0 d.size = d' := by rw [← hsz]; exact Array.extract_size
  rw [e1, Array.extract_size] at hperm
  refine h.sorted (hperm.trans hd) ?_
  rw [List.pairwise_iff_getElem]
  intro i j hi hj hij
  have hi' : i < d'.size := by simpa using hi
  have hj' : j < d'.size := by simpa using hj
  have := hs i j (Nat.zero_le _) hij (by omega)
  rw [getElem!_pos d' j hj', getElem!_pos d' i hi', hlt] at this
  simpa using this

/-! Products. -/
theorem times_nat {a b : Int} (ha : 0 ≤ a) (hb : 0 ≤ b) :
    ((a.toNat * b.toNat / 18446744073709551616 = 0 ∧ a.toNat * b.toNat % 18446744073709551616 ≤ 1125899906842624) ↔ a * b ≤ 1125899906842624) := by
  have e : ((a.toNat * b.toNat : Nat) : Int) = a * b := by rw [Int.natCast_mul, Int.toNat_of_nonneg ha, Int.toNat_of_nonneg hb]
  constructor
  · rintro ⟨h1, h2⟩
    omega
  · intro h
    omega
end Go.Proofs.YtbedbhlebfnohaaGreat
namespace Go.Proofs.YtbedbhlebfnohaaGreat
open Go.RowKit

def intOf : Value → Int | .int _ x => x | _ => 0
theorem wrap_in {x : Int} (h : -9223372036854775808 ≤ x) (h' : x ≤ 9223372036854775807) : IntKind.i64.wrap x = x := IntWalk.i64_in _ (by omega)
theorem wrap64_in {x : Int} (h : -9223372036854775808 ≤ x) (h' : x ≤ 9223372036854775807) : wrap64 x = x := by
  unfold wrap64; omega
def encP (p : Pt) : List Value := [encStr p.1, .int .i64 p.2]
instance : Inhabited Pt := ⟨([], 0)⟩
def cellsP (P : List Pt) : List Value := P.flatMap encP
theorem cellsP_len : ∀ P : List Pt, (cellsP P).length = P.length * 2
  | [] => rfl
  | p :: P => by
    have := cellsP_len P
    unfold cellsP at *
    rw [List.flatMap_cons, List.length_append, this]
    simp [encP]; omega
theorem cellsP_append (P Q : List Pt) : cellsP (P ++ Q) = cellsP P ++ cellsP Q := by simp [cellsP]
theorem cellsP_one {P : List Pt} : ∀ u ∈ cellsP P, u.oneCell' = true := by
  intro u hu
  obtain ⟨p, _, hp⟩ := List.mem_flatMap.1 hu
  simp only [encP, List.mem_cons, List.not_mem_nil, or_false] at hp
  rcases hp with rfl | rfl <;> rfl
theorem cellsP_at : ∀ (P : List Pt) (i : Nat), i < P.length → (cellsP P)[i * 2]? = some (encStr (P.getD i default).1) ∧ (cellsP P)[i * 2 + 1]? = some (.int .i64 (P.getD i default).2)
  | [], i, h => by simp at h
  | p :: P, 0, _ => by simp [cellsP, encP]
  | p :: P, i + 1, h => by
    have ih := cellsP_at P i (by simpa using h)
    have e : cellsP (p :: P) = encStr p.1 :: Value.int .i64 p.2 :: cellsP P := rfl
    rw [e, show (i + 1) * 2 = i * 2 + 1 + 1 by omega]
    simpa using ih

def Fine (P : List Pt) : Prop := ∀ p ∈ P, p.1.length ≤ 9223372036854775807 ∧ -9223372036854775808 ≤ p.2 ∧ p.2 ≤ 9223372036854775807
theorem Fine.at_ {P : List Pt} (h : Fine P) {i : Nat} (hi : i < P.length) : (P.getD i default).1.length ≤ 9223372036854775807 ∧ -9223372036854775808 ≤ (P.getD i default).2 ∧ (P.getD i default).2 ≤ 9223372036854775807 :=
  h _ (by rw [List.getD_eq_getElem?_getD, List.getElem?_eq_getElem hi]; exact List.getElem_mem hi)
structure RP (B : Nat) (w : World) (a : Option Addr) (n c : Nat) (P : List Pt) : Prop where
  len : n = P.length
  le : n ≤ c
  mx : c ≤ 9223372036854775807
  fine : Fine P
  at_ : 0 < c → ∃ b o, a = some ⟨b, o, none⟩ ∧ b < B ∧ ∀ i, i < n → w.cell? ⟨b, o + i * 2, none⟩ = some (encStr (P.getD i default).1) ∧ w.cell? ⟨b, o + i * 2 + 1, none⟩ = some (.int .i64 (P.getD i default).2)
theorem RP.below {B : Nat} {w w' : World} {a : Option Addr} {n c : Nat} {P : List Pt} (h : RP B w a n c P) (hb : Below B w w') : RP B w' a n c P := by
  refine ⟨h.len, h.le, h.mx, h.fine, fun hc => ?_⟩
  obtain ⟨b, o, e, hB, hcell⟩ := h.at_ hc
  exact ⟨b, o, e, hB, fun i hi => ⟨(hb.cell hB).trans (hcell i hi).1, (hb.cell hB).trans (hcell i hi).2⟩⟩
theorem RP.mono {B B' : Nat} {w : World} {a : Option Addr} {n c : Nat} {P : List Pt} (h : RP B w a n c P) (hb : B ≤ B') : RP B' w a n c P := by
  refine ⟨h.len, h.le, h.mx, h.fine, fun hc => ?_⟩
  obtain ⟨b, o, e, hB, hcell⟩ := h.at_ hc
  exact ⟨b, o, e, Nat.lt_of_lt_of_le hB hb, hcell⟩
theorem RP.cells {B : Nat} {w : World} {b o n c : Nat} {P : List Pt} (h : RP B w (some ⟨b, o, none⟩) n c P) (hc : 0 < c) : ∀ j u, (cellsP P)[j]? = some u → w.cell? ((⟨b, o, none⟩ : Addr).add j) = some u := by
  intro j u hu
  obtain ⟨b', o', e, -, hcell⟩ := h.at_ hc
  cases e
  have hj : j < P.length * 2 := by
    rw [← cellsP_len]
    rcases Nat.lt_or_ge j (cellsP P).length with h1 | h1
    · exact h1
    · rw [List.getElem?_eq_none h1] at hu; cases hu
  have hat := cellsP_at P (j / 2) (by omega)
  have hcell' := hcell (j / 2) (by rw [h.len]; omega)
  have e : (⟨b, o, none⟩ : Addr).add j = ⟨b, o + j, none⟩ := by unfold Addr.add; split <;> simp_all
  rw [e]
  rcases (show j = j / 2 * 2 ∨ j = j / 2 * 2 + 1 by omega) with hj2 | hj2
  · rw [hj2] at hu ⊢
    rw [hat.1] at hu
    cases hu
    exact hcell'.1
  · rw [hj2] at hu ⊢
    rw [hat.2] at hu
    cases hu
    rw [← Nat.add_assoc]
    exact hcell'.2

theorem RP.src {B : Nat} {w : World} {a : Option Addr} {n c : Nat} {P : List Pt} (h : RP B w a n c P) : 0 < P.length → ∃ ad, a = some ad ∧ ∀ j u, (cellsP P)[j]? = some u → w.cell? (ad.add j) = some u := by
  intro h0
  have hc : 0 < c := by have := h.le; have := h.len; omega
  obtain ⟨b, o, rfl, -⟩ := h.at_ hc
  exact ⟨_, rfl, h.cells hc⟩

def OP (base : Nat) (w : World) (v : Value) (P : List Pt) : Prop := w.ownsRow base 60 2 v P.length (cellsP P)
theorem Tryz.infoPart : (Tryz.prog.info? 60).map (fun i => (i.zero, i.size, i.bytes)) = some (some (.agg #[.string ByteArray.empty, .int .i64 0]), 2, 24) := by kernel_rfl
theorem OP.nil (base : Nat) (w : World) : OP base w (.slice none 0 0) [] := World.ownsRow_nil _ _ _ _
theorem OP.mono {B B' : Nat} {w : World} {v : Value} {P : List Pt} (h : OP B w v P) (hb : B' ≤ B) : OP B' w v P := by
  obtain ⟨h1, h2 | ⟨g, cap, cur, hv, hg, r⟩⟩ := h
  · exact ⟨h1, .inl h2⟩
  · exact ⟨h1, .inr ⟨g, cap, cur, hv, Nat.le_trans hb hg, r⟩⟩
theorem OP.keep {base : Nat} {W W' : World} {v : Value} {P : List Pt} (h : OP base W v P) (hk : ∀ b, v.ownBlock = some b → W'.heap[b]? = W.heap[b]?) : OP base W' v P := by
  obtain ⟨e1, h3 | ⟨g, cap, cur, hv, hg, hh, r⟩⟩ := h
  · exact ⟨e1, .inl h3⟩
  · exact ⟨e1, .inr ⟨g, cap, cur, hv, hg, (hk g (by rw [hv]; rfl)).trans hh, r⟩⟩
theorem OP.ge {base : Nat} {W : World} {v : Value} {P : List Pt} (h : OP base W v P) : ∀ b, v.ownBlock = some b → base ≤ b ∧ b < W.heap.size := by
  intro b hb
  obtain ⟨e1, ⟨rfl, -⟩ | ⟨g, cap, cur, rfl, hg, hh, r⟩⟩ := h
  · cases hb
  · cases hb
    exact ⟨hg, (Array.getElem?_eq_some_iff.1 hh).1⟩
theorem OP.below {base : Nat} {W W' : World} {v : Value} {P : List Pt} (h : OP base W v P) (hb : Below W.heap.size W W') : OP base W' v P :=
  h.keep fun b e => hb.block b (h.ge b e).2
theorem OP.rp {base : Nat} {w : World} {v : Value} {P : List Pt} (h : OP base w v P) (ht : Fine P) : ∃ a c, v = .slice a P.length c ∧ RP w.heap.size w a P.length c P := by
  obtain ⟨h1, ⟨rfl, h0⟩ | ⟨g, cap, cur, rfl, hg, hh, hle, hcap, hsz, htk⟩⟩ := h
  · have : P = [] := List.eq_nil_of_length_eq_zero h0
    subst this
    exact ⟨none, 0, rfl, ⟨rfl, Nat.le_refl _, by omega, ht, fun h => by omega⟩⟩
  · refine ⟨some ⟨g, 0, none⟩, cap, rfl, ⟨rfl, hle, by simpa [maxLen] using hcap, ht, fun _ => ⟨g, 0, rfl, (Array.getElem?_eq_some_iff.1 hh).1, fun i hi => ?_⟩⟩⟩
    have hat := cellsP_at P i hi
    rw [← htk] at hat
    simp only [World.cell?, hh, Nat.zero_add, Option.isSome_none, Bool.false_eq_true, if_false]
    rw [List.getElem?_take, if_pos (by omega), List.getElem?_take, if_pos (by omega)] at hat
    simpa using hat

theorem run_append_nothing {P : Program} (w : World) (t ty e : TypeId) (i : TypeInfo) (ht : P.underlying t = some (.slice e)) (hi : P.info? e = some i) (sa xa : Option Addr) (n c d : Nat) (hnc : n ≤ c) :
    (Builtin.append_ #[t, t] ty #[.slice sa n c, .slice xa 0 d]).run P w = .ok (.slice sa n c) w := by
  have hn : n + 0 ≤ c := by omega
  have hl : ∀ a, (loadCells a 0).run P w = .ok #[] w := fun a => by simpa using run_loadCells_list (P := P) w a [] (by simp)
  cases sa <;> cases xa <;> simp [Builtin.append_, run_underlying ht, sizeOf, typeInfo, hi, Builtin.lenOf, Builtin.firstCells, hnc, hl, storeCells]
theorem run_append_parts {w : World} {base : Nat} {v : Value} {P Q : List Pt} (h : OP base w v P) (ty : TypeId) (sa : Option Addr) (c : Nat) (hsrc : 0 < Q.length → ∃ ad, sa = some ad ∧ ∀ j u, (cellsP Q)[j]? = some u → w.cell? (ad.add j) = some u)
    (hbase : base ≤ w.heap.size) (hsize : (P.length + Q.length) * 24 ≤ 140737488355328) :
    ∃ v' w', (Builtin.append_ #[55, 55] ty #[v, .slice sa Q.length c]).run Tryz.prog w = .ok v' w' ∧ OP base w' v' (P ++ Q) ∧ w.grownBy w' v.ownBlock := by
  obtain ⟨i0, hi, hz0, hz1, hz2⟩ := info_parts Tryz.infoPart
  by_cases h0 : Q.length = 0
  · obtain rfl : Q = [] := List.eq_nil_of_length_eq_zero h0
    have hv : ∃ va vc, v = .slice va P.length vc ∧ P.length ≤ vc := by
      obtain ⟨h1, ⟨rfl, h0⟩ | ⟨g, cap, cur, rfl, hg, hh, hle, r⟩⟩ := h
      · exact ⟨none, 0, by rw [h0], by omega⟩
      · exact ⟨_, _, rfl, hle⟩
    obtain ⟨va, vc, rfl, hle⟩ := hv
    have hrun := run_append_nothing (P := Tryz.prog) w 55 ty 60 i0 Tryz.underlying55 hi va sa P.length vc c hle
    exact ⟨_, w, hrun, by simpa using h, ⟨rfl, rfl, rfl, Nat.le_refl _, fun _ _ _ => rfl⟩⟩
  · obtain ⟨ad, rfl, hcell⟩ := hsrc (by omega)
    obtain ⟨v', w', hrun, hown, hg, -⟩ := run_append_own (P := Tryz.prog) w base 55 ty 60 i0 _ 2 24 Tryz.underlying55 hi hz0 hz1 hz2 rfl (by decide) v P.length (cellsP P) h ad Q.length c (cellsP Q) (cellsP_len Q) hcell
      cellsP_one (by simp only [maxLen]; omega) hsize hbase
    refine ⟨v', w', hrun, ?_, hg⟩
    unfold OP
    rw [List.length_append, cellsP_append]
    exact hown
theorem wpList_append_parts {w : World} {ops : Array Oper} {rest : List Oper} {o : Oper} {a : Act} {Q : Exit → Act → World → Prop} (hgd : o.guard = none) (s x : Operand)
    (ho : o.op = .call { callee := .builtin .append, args := #[s, x], argTypes := #[55, 55] }) (base : Nat) (v : Value) (P R : List Pt) (hs : a.eval s = v) (h : OP base w v P) (sa : Option Addr) (c : Nat)
    (hx : a.eval x = .slice sa R.length c) (hsrc : 0 < R.length → ∃ ad, sa = some ad ∧ ∀ j u, (cellsP R)[j]? = some u → w.cell? (ad.add j) = some u) (hbase : base ≤ w.heap.size) (hsize : (P.length + R.length) * 24 ≤ 140737488355328)
    (hK : ∀ a' c' w', OP base w' (.slice a' (P ++ R).length c') (P ++ R) → w.grownBy w' v.ownBlock → wpList Tryz.prog ops Q rest (a.put o.dst (.slice a' (P ++ R).length c')) w') : wpList Tryz.prog ops Q (o :: rest) a w := by
  obtain ⟨v', w', hr, hq, hg⟩ := run_append_parts h o.type sa c hsrc hbase hsize
  have hv : ∃ a' c', v' = .slice a' (P ++ R).length c' := by
    obtain ⟨h1, ⟨rfl, h0⟩ | ⟨g, cap, cur, rfl, r⟩⟩ := hq
    · exact ⟨none, 0, by rw [h0]⟩
    · exact ⟨_, _, rfl⟩
  obtain ⟨a', c', rfl⟩ := hv
  refine wpList_plain hgd fun K hK' => ?_
  unfold Oper.wp execOp
  simp only [ho, resolve, invoke, builtin, Sem.run_bind, Sem.run_pure, Result.andThen_ok, List.map_toArray, List.map_cons, List.map_nil, hs, hx, hr]
  exact hK' _ _ (hK a' c' w' hq hg)

structure RL (B : Nat) (w : World) (a : Option Addr) (n c : Nat) (L : List Int) : Prop where
  len : n = L.length
  le : n ≤ c
  mx : c ≤ 9223372036854775807
  wf : ∀ x ∈ L, -9223372036854775808 ≤ x ∧ x ≤ 9223372036854775807
  at_ : 0 < c → ∃ b o, a = some ⟨b, o, none⟩ ∧ b < B ∧ ∀ i, i < n → w.cell? ⟨b, o + i, none⟩ = some (.int .i64 (L.getD i 0))
end Go.Proofs.YtbedbhlebfnohaaGreat
