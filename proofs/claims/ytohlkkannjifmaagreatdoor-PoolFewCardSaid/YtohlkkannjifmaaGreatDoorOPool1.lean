/- page.Turn, whole: joined of its walks. The pool: how it stands in memory. The pool: victim; Index. -/
import Derived.Test.YtohlkkannjifmaaGreatDoorPageI
import Derived.Test.YtohlkkannjifmaaGreatDoorPageK
import Derived.Test.YtohlkkannjifmaaGreatDoorPageM
import Derived.Test.YtohlkkannjifmaaGreatDoorPure
import Derived.Test.YtohlkkannjifmaaGreatDoorOWell2
import Derived.Test.YtohlkkannjifmaaGreatDoorOLogG
import Derived.LaidEqlPtr
namespace Go.Proofs.YtohlkkannjifmaaGreatDoor
open Go.RowKit Go.Shelf
theorem Turn_any (g c : Nat) (L : List UInt8) (X : List Value) (B : Nat) (ka oa na : Option Addr) (kn kc on oc nn nc : Nat) (K O N : List UInt8) (w : World) (hp : PG w g c L X)
    (hk : RBn g B w ka kn kc K) (ho : RBn g B w oa on oc O) (hn : RBn g B w na nn nc N) (hB : B ≤ w.heap.size) :
    Calls Tryz.prog 21 #[.slice (some ⟨g, 0, none⟩) 512 c, .agg #[.slice ka kn kc, .slice oa on oc, .slice na nn nc]] w (TurnPost g c w (turnL L K O N) X) := by
  by_cases h0 : behindL L = 0
  · exact Turn_shape g c L X B ka oa na kn kc on oc nn nc K O N w hp hk ho hn hB h0
  by_cases ht : turnedB K.length O.length N.length = false
  · exact Turn_arg g c L X B ka oa na kn kc on oc nn nc K O N w hp hk ho hn hB h0 ht
  have ht : turnedB K.length O.length N.length = true := by simpa using ht
  obtain ⟨i, e, t, hf⟩ : ∃ i e t, findL L K = (i, e, t) := ⟨_, _, _, rfl⟩
  cases t with
  | true =>
    by_cases hO : O = []
    · exact Turn_none1 g c L X B ka oa na kn kc on oc nn nc K O N w hp hk ho hn hB h0 ht i e hf hO
    by_cases hE : eqB (valOf L i e) O = false
    · exact Turn_none3 g c L X B ka oa na kn kc on oc nn nc K O N w hp hk ho hn hB h0 ht i e hf hO hE
    have hE : eqB (valOf L i e) O = true := by simpa using hE
    by_cases hN : N = []
    · exact Turn_ok10 g c L X B ka oa na kn kc on oc nn nc K O N w hp hk ho hn hB h0 ht i e hf hO hE hN
    by_cases h5 : 512 < behindL L - (e - i) + (2 + K.length + N.length)
    · exact Turn_full1 g c L X B ka oa na kn kc on oc nn nc K O N w hp hk ho hn hB h0 ht i e hf hO hE hN h5
    by_cases hcl : 2 + K.length + N.length < e - i
    · exact Turn_ok11c g c L X B ka oa na kn kc on oc nn nc K O N w hp hk ho hn hB h0 ht i e hf hO hE hN (by omega) hcl
    · exact Turn_ok11s g c L X B ka oa na kn kc on oc nn nc K O N w hp hk ho hn hB h0 ht i e hf hO hE hN (by omega) (by omega)
  | false =>
    by_cases hO : O = []
    · have hN : N ≠ [] := by
        have := (turned_iff K O N).1 ht
        rintro rfl; subst hO; simp at this
      by_cases h5 : 512 < behindL L - (e - i) + (2 + K.length + N.length)
      · exact Turn_full2 g c L X B ka oa na kn kc on oc nn nc K O N w hp hk ho hn hB h0 ht i e hf hO hN h5
      · exact Turn_ok01 g c L X B ka oa na kn kc on oc nn nc K O N w hp hk ho hn hB h0 ht i e hf hO hN (by omega)
    · exact Turn_none2 g c L X B ka oa na kn kc on oc nn nc K O N w hp hk ho hn hB h0 ht i e hf hO
end Go.Proofs.YtohlkkannjifmaaGreatDoor
namespace Go.Proofs.YtohlkkannjifmaaGreatDoor
open Go.RowKit
def fr0 : FrV := ⟨0, [], false, 0⟩
def frObj (f : FrV) (v : Value) (u : Bool) : Obj := .cells #[li f.page, v, .bool u, .bool f.dirty, li f.first] 121 (0, 0)
def poolObj (sv : Value) (m : Nat) (P : PK) (hand d l : Nat) : Obj := .cells #[sv, .map (some m), li P.most, li hand, ptr d, ptr l, li P.first, li P.count] 89 (0, 0)
structure FrR (w : World) (q : Nat) (v : Value) (u : Bool) (f : FrV) : Prop where
  blk : w.heap[q]? = some (frObj f v u)
  b : OB 0 w v f.b
  len : f.b.length = 512
def PM (w : World) (m k : Nat) (P : PK) (Q : Nat → Nat) : Prop := ∃ mk f g, mk ≤ k ∧ MH w m mk (.pointer none) f g ∧ (∀ i, i < P.frames.length → f (P.frames.getD i fr0).page = ptr (Q i) ∧ g (P.frames.getD i fr0).page = true) ∧ ∀ x, g x = true → ∃ i, i < P.frames.length ∧ (P.frames.getD i fr0).page = x
structure PK.Ok (P : PK) : Prop where
  m1 : 4 ≤ P.most
  m2 : P.most ≤ 32
  f1 : 0 ≤ P.first
  c1 : 0 ≤ P.count
  fc : P.first + P.count ≤ 8192
  sz : P.frames.length ≤ P.most
  rng : ∀ f ∈ P.frames, 0 ≤ f.page ∧ f.page < P.count
  lsn : ∀ f ∈ P.frames, 0 ≤ f.first ∧ f.first ≤ 9223372036854775807
  dis : P.frames.Pairwise fun f g => f.page ≠ g.page
structure PF (w : World) (V : Nat → Prop) (p d l k : Nat) (P : PK) (sv : Value) (m hand : Nat) (Q : Nat → Nat) (B : Nat → Value) (Us : Nat → Bool) : Prop where
  blk : w.heap[p]? = some (poolObj sv m P hand d l)
  srow : w.ownsRow 0 116 1 sv P.frames.length ((List.range P.frames.length).map fun i => ptr (Q i))
  map : PM w m k P Q
  fr : ∀ i, i < P.frames.length → FrR w (Q i) (B i) (Us i) (P.frames.getD i fr0)
  inj : ∀ i j, i < P.frames.length → j < P.frames.length → i < j → Q i ≠ Q j
  vp : V p
  vs : ∀ b, sv.ownBlock = some b → V b
  vm : V m
  vq : ∀ i, i < P.frames.length → V (Q i)
  vb : ∀ i, i < P.frames.length → ∀ b, (B i).ownBlock = some b → V b
  lt : ∀ i, V i → i < w.heap.size
  hd : hand ≤ k
  ok : P.Ok
theorem PM.keep {w w' : World} {m k : Nat} {P : PK} {Q : Nat → Nat} (h : PM w m k P Q) (hb : w'.heap[m]? = w.heap[m]?) : PM w' m k P Q := by
  obtain ⟨mk, f, g, h1, h2, h3⟩ := h
  exact ⟨mk, f, g, h1, h2.block hb, h3⟩
theorem PF.keep {w w' : World} {V : Nat → Prop} {p d l k : Nat} {P : PK} {sv : Value} {m hand : Nat} {Q : Nat → Nat} {B : Nat → Value} {Us : Nat → Bool} (h : PF w V p d l k P sv m hand Q B Us) (hb : ∀ i, V i → w'.heap[i]? = w.heap[i]?) (hs : w.heap.size ≤ w'.heap.size) : PF w' V p d l k P sv m hand Q B Us :=
  ⟨(hb p h.vp).trans h.blk, ownsRow_keep h.srow fun g e => hb g (h.vs g e), h.map.keep (hb m h.vm), fun i hi => ⟨(hb _ (h.vq i hi)).trans (h.fr i hi).blk, ownsRow_keep (h.fr i hi).b fun g e => hb g (h.vb i hi g e), (h.fr i hi).len⟩, h.inj, h.vp, h.vs, h.vm, h.vq, h.vb, fun i hi => Nat.lt_of_lt_of_le (h.lt i hi) hs, h.hd, h.ok⟩
theorem PM.isMap {w : World} {m k : Nat} {P : PK} {Q : Nat → Nat} (h : PM w m k P Q) {c : Array Value} {t : TypeId} {z : Nat × Nat} (hc : w.heap[m]? = some (.cells c t z)) : False := by
  obtain ⟨mk, f, g, h1, ⟨D, ⟨es, clock, hb, -⟩, -⟩, -⟩ := h
  rw [hb] at hc
  cases hc
theorem PF.inj' {w : World} {V : Nat → Prop} {p d l k : Nat} {P : PK} {sv : Value} {m hand : Nat} {Q : Nat → Nat} {B : Nat → Value} {Us : Nat → Bool} (h : PF w V p d l k P sv m hand Q B Us) {i j : Nat} (hi : i < P.frames.length) (hj : j < P.frames.length) (hne : i ≠ j) : Q i ≠ Q j := by
  rcases Nat.lt_or_ge i j with h1 | h1
  · exact h.inj i j hi hj h1
  · exact (h.inj j i hj hi (by omega)).symm
def upd {α : Type} (f : Nat → α) (i : Nat) (x : α) : Nat → α := fun j => if j = i then x else f j
def PK.setFr (P : PK) (i : Nat) (f : FrV) : PK := { P with frames := P.frames.set i f }
theorem PK.setFr_len (P : PK) (i : Nat) (f : FrV) : (P.setFr i f).frames.length = P.frames.length := by simp [PK.setFr]
theorem PK.setFr_page (P : PK) (i : Nat) (f : FrV) (hi : i < P.frames.length) (hf : f.page = (P.frames.getD i fr0).page) (j : Nat) : ((P.setFr i f).frames.getD j fr0).page = (P.frames.getD j fr0).page := by
  show ((P.frames.set i f).getD j fr0).page = _
  rw [getD_set _ _ _ _ _ hi]
  split
  · next e => rw [e, hf]
  · rfl
theorem PK.Ok.setFr {P : PK} (h : P.Ok) {i : Nat} {f : FrV} (hi : i < P.frames.length) (hf : f.page = (P.frames.getD i fr0).page) (hl : 0 ≤ f.first ∧ f.first ≤ 9223372036854775807) : (P.setFr i f).Ok := by
  have hg := getD_mem P.frames fr0 i hi
  have hmem : ∀ x ∈ (P.setFr i f).frames, x = f ∨ x ∈ P.frames := fun x hx => by
    rcases List.mem_or_eq_of_mem_set hx with h | h
    · exact .inr h
    · exact .inl h
  refine ⟨h.m1, h.m2, h.f1, h.c1, h.fc, by rw [P.setFr_len]; exact h.sz, fun x hx => ?_, fun x hx => ?_, ?_⟩
  · rcases hmem x hx with rfl | hx
    · rw [hf]; exact h.rng _ hg
    · exact h.rng x hx
  · rcases hmem x hx with rfl | hx
    · exact hl
    · exact h.lsn x hx
  · have e : (P.setFr i f).frames.map (·.page) = P.frames.map (·.page) := by
      apply List.ext_getElem
      · simp [PK.setFr]
      · intro j a b
        simp only [PK.setFr, List.getElem_map, List.getElem_set]
        split
        · next e =>
          subst e
          rw [hf, List.getD_eq_getElem?_getD, List.getElem?_eq_getElem hi]
          rfl
        · rfl
    have h1 : (P.frames.map (·.page)).Pairwise (· ≠ ·) := List.pairwise_map.2 h.dis
    rw [← e] at h1
    exact List.pairwise_map.1 h1
theorem PF.setFr {w w' : World} {V : Nat → Prop} {p d l k : Nat} {P : PK} {sv : Value} {m hand : Nat} {Q : Nat → Nat} {B : Nat → Value} {Us : Nat → Bool} (h : PF w V p d l k P sv m hand Q B Us) {i : Nat} (hi : i < P.frames.length) {f' : FrV} {v' : Value} {u' : Bool} {V' : Nat → Prop}
    (hf : f'.page = (P.frames.getD i fr0).page) (hl : 0 ≤ f'.first ∧ f'.first ≤ 9223372036854775807) (hq : w'.heap[Q i]? = some (frObj f' v' u')) (hb : OB 0 w' v' f'.b) (hlen : f'.b.length = 512) (ho : ∀ g, V g → g ≠ Q i → w'.heap[g]? = w.heap[g]?) (_hs : w.heap.size ≤ w'.heap.size)
    (hV : ∀ g, V g → V' g) (hVv : ∀ b, v'.ownBlock = some b → V' b) (hVl : ∀ g, V' g → g < w'.heap.size) : PF w' V' p d l k (P.setFr i f') sv m hand Q (upd B i v') (upd Us i u') := by
  have hlen' := P.setFr_len i f'
  have htag : ∀ g c t, w.heap[g]? = some (Obj.cells c t (0, 0)) → t ≠ 121 → g ≠ Q i := fun g c t hg ht e => by subst e; exact tag_ne hg (h.fr i hi).blk ht
  have hgd : ∀ j, (P.setFr i f').frames.getD j fr0 = if j = i then f' else P.frames.getD j fr0 := fun j => getD_set _ _ _ _ _ hi
  refine ⟨(ho p h.vp (htag _ _ _ h.blk (by decide))).trans h.blk, ?_, ?_, fun j hj => ?_, fun a b ha hb' hab => h.inj a b (by omega) (by omega) hab, hV p h.vp, fun b e => hV b (h.vs b e), hV m h.vm, fun j hj => hV _ (h.vq j (by omega)), fun j hj b e => ?_, hVl, h.hd, h.ok.setFr hi hf hl⟩
  · rw [hlen']
    exact ownsRow_keep h.srow fun g e => by
      obtain ⟨c, hc⟩ := own_tag h.srow e
      exact ho g (h.vs g e) (htag _ _ _ hc (by decide))
  · obtain ⟨mk, f, g, h1, h2, h3, h4⟩ := h.map.keep (w' := w') (ho m h.vm (fun e => h.map.isMap (by rw [e]; exact (h.fr i hi).blk)))
    refine ⟨mk, f, g, h1, h2, fun j hj => ?_, fun x hx => ?_⟩
    · rw [P.setFr_page i f' hi hf]
      exact h3 j (by omega)
    · obtain ⟨j, hj, e⟩ := h4 x hx
      exact ⟨j, by omega, by rw [P.setFr_page i f' hi hf]; exact e⟩
  · rw [hlen'] at hj
    rw [hgd j]
    unfold upd
    by_cases e : j = i
    · subst e
      rw [if_pos rfl, if_pos rfl, if_pos rfl]
      exact ⟨hq, hb, hlen⟩
    · rw [if_neg e, if_neg e, if_neg e]
      exact ⟨(ho _ (h.vq j hj) (h.inj' hj hi e)).trans (h.fr j hj).blk, ownsRow_keep (h.fr j hj).b fun g eg => by
        obtain ⟨c, hc⟩ := own_tag (h.fr j hj).b eg
        exact ho g (h.vb j hj g eg) (htag _ _ _ hc (by decide)), (h.fr j hj).len⟩
  · rw [hlen'] at hj
    unfold upd at e
    by_cases e2 : j = i
    · rw [if_pos e2] at e
      exact hVv b e
    · rw [if_neg e2] at e
      exact hV b (h.vb j hj b e)
theorem PK.setFr_same (P : PK) (i : Nat) (hi : i < P.frames.length) : P.setFr i (P.frames.getD i fr0) = P := by
  unfold PK.setFr
  rw [List.getD_eq_getElem?_getD, List.getElem?_eq_getElem hi]
  simp
theorem upd_same {α : Type} (f : Nat → α) (i : Nat) : upd f i (f i) = f := by
  funext j
  unfold upd
  split
  · next e => rw [e]
  · rfl
theorem PF.get {w : World} {V : Nat → Prop} {p d l k : Nat} {P : PK} {sv : Value} {m hand : Nat} {Q : Nat → Nat} {B : Nat → Value} {Us : Nat → Bool} (h : PF w V p d l k P sv m hand Q B Us) :
    ∃ a cap, sv = .slice a P.frames.length cap ∧ P.frames.length ≤ cap ∧ cap ≤ 9223372036854775807 ∧ P.frames.length ≤ 32 ∧ ∀ i, i < P.frames.length → ∃ g, a = some ⟨g, 0, none⟩ ∧ w.cell? ⟨g, i, none⟩ = some (ptr (Q i)) ∧ w.frozen? ⟨g, i, none⟩ = false := by
  have hcs := h.srow
  have h32 : P.frames.length ≤ 32 := Nat.le_trans h.ok.sz h.ok.m2
  obtain ⟨-, ⟨rfl, h0⟩ | ⟨g, cap, cur, rfl, -, hh, hle, hcm, -⟩⟩ := h.srow
  · exact ⟨none, 0, by rw [h0], by omega, by omega, h32, fun i hi => by omega⟩
  refine ⟨some ⟨g, 0, none⟩, cap, rfl, hle, by simpa [maxLen] using hcm, h32, fun i hi => ⟨g, rfl, ?_, by simp [World.frozen?, hh]⟩⟩
  have h12 := hcs.cells (g := g) rfl i (ptr (Q i)) (by rw [List.getElem?_map, List.getElem?_range hi]; rfl)
  rw [Addr.add_mid, Nat.zero_add] at h12
  exact h12
end Go.Proofs.YtohlkkannjifmaaGreatDoor
namespace Go.Proofs.YtohlkkannjifmaaGreatDoor
open Go.RowKit
theorem countP_lt (n : Nat) (f g : Nat → Bool) (i : Nat) (hi : i < n) (hf : f i = true) (hg : g i = false) (ho : ∀ j, j < n → j ≠ i → g j = f j) : (List.range n).countP g + 1 = (List.range n).countP f := by
  induction n with
  | zero => omega
  | succ n ih =>
    rw [List.range_succ, List.countP_append, List.countP_append]
    by_cases e : i = n
    · subst e
      have : (List.range i).countP g = (List.range i).countP f := List.countP_congr fun j hj => by
        have := List.mem_range.1 hj
        rw [ho j (by omega) (by omega)]
      rw [this]
      simp [hf, hg]
    · have := ih (by omega) fun j hj hne => ho j (by omega) hne
      have h2 : g n = f n := ho n (by omega) (fun h => e h.symm)
      simp only [List.countP_cons, List.countP_nil, h2]
      omega
def usedB (w : World) (q : Nat) : Bool := match w.cell? ⟨q, 2, none⟩ with | some (.bool b) => b | _ => false
def usedN (w : World) (Q : Nat → Nat) (n : Nat) : Nat := (List.range n).countP fun i => usedB w (Q i)
theorem PF.used {w : World} {V : Nat → Prop} {p d l k : Nat} {P : PK} {sv : Value} {m hand : Nat} {Q : Nat → Nat} {B : Nat → Value} {Us : Nat → Bool} (h : PF w V p d l k P sv m hand Q B Us) {i : Nat} (hi : i < P.frames.length) : usedB w (Q i) = Us i := by
  have : w.cell? ⟨Q i, 2, none⟩ = some (.bool (Us i)) := cell_of_row _ _ 2 _ _ _ (h.fr i hi).blk
  unfold usedB
  rw [this]
theorem PF.usedN_eq {w : World} {V : Nat → Prop} {p d l k : Nat} {P : PK} {sv : Value} {m hand : Nat} {Q : Nat → Nat} {B : Nat → Value} {Us : Nat → Bool} (h : PF w V p d l k P sv m hand Q B Us) : usedN w Q P.frames.length = (List.range P.frames.length).countP Us :=
  List.countP_congr fun j hj => by rw [h.used (List.mem_range.1 hj)]
theorem PF.hand {w : World} {V : Nat → Prop} {p d l k : Nat} {P : PK} {sv : Value} {m hand : Nat} {Q : Nat → Nat} {B : Nat → Value} {Us : Nat → Bool} (h : PF w V p d l k P sv m hand Q B Us) (hand' k' : Nat) (hk : k ≤ k') (hh : hand' ≤ k') : PF (w.setCell ⟨p, 3, none⟩ (li hand')) V p d l k' P sv m hand' Q B Us := by
  have htag : ∀ g c t, w.heap[g]? = some (Obj.cells c t (0, 0)) → t ≠ 89 → g ≠ p := fun g c t hg ht e => by subst e; exact tag_ne hg h.blk ht
  obtain ⟨mk, f, g, h1, h2⟩ := h.map.keep (w' := w.setCell ⟨p, 3, none⟩ (li hand')) (set_ne (fun e => h.map.isMap (by rw [e]; exact h.blk)))
  refine ⟨set_at h.blk 3 _, ownsRow_keep h.srow fun g e => ?_, ⟨mk, f, g, by omega, h2⟩, fun i hi => ⟨(set_ne (htag _ _ _ (h.fr i hi).blk (by decide))).trans (h.fr i hi).blk, ownsRow_keep (h.fr i hi).b fun g e => ?_, (h.fr i hi).len⟩, h.inj, h.vp, h.vs, h.vm, h.vq, h.vb, fun i hi => by rw [size_set]; exact h.lt i hi, hh, h.ok⟩
  · obtain ⟨c, hc⟩ := own_tag h.srow e
    exact set_ne (htag _ _ _ hc (by decide))
  · obtain ⟨c, hc⟩ := own_tag (h.fr i hi).b e
    exact set_ne (htag _ _ _ hc (by decide))
theorem PF.mark {w : World} {V : Nat → Prop} {p d l k : Nat} {P : PK} {sv : Value} {m hand : Nat} {Q : Nat → Nat} {B : Nat → Value} {Us : Nat → Bool} (h : PF w V p d l k P sv m hand Q B Us) {i : Nat} (hi : i < P.frames.length) (u : Bool) : PF (w.setCell ⟨Q i, 2, none⟩ (.bool u)) V p d l k P sv m hand Q B (upd Us i u) := by
  have hf := h.fr i hi
  have := h.setFr (w' := w.setCell ⟨Q i, 2, none⟩ (.bool u)) hi (f' := P.frames.getD i fr0) (v' := B i) (u' := u) (V' := V) rfl (h.ok.lsn _ (getD_mem P.frames fr0 i hi)) (set_at hf.blk 2 _) (ownsRow_keep hf.b fun g e => set_ne (fun e2 => by
    obtain ⟨c, hc⟩ := own_tag hf.b e
    subst e2
    exact tag_ne hc hf.blk (by decide))) hf.len (fun g _ hg => set_ne hg) (by rw [size_set]; exact Nat.le_refl _) (fun g hg => hg) (fun b e => h.vb i hi b e) (fun g hg => by rw [size_set]; exact h.lt g hg)
  rw [P.setFr_same i hi, upd_same] at this
  exact this
def VicP (V : Nat → Prop) (p d l k : Nat) (P : PK) (sv : Value) (m : Nat) (Q : Nat → Nat) (B : Nat → Value) (w : World) (e : Ending) (w' : World) : Prop :=
  ∃ i hand Us, i < P.frames.length ∧ e = .returned (.pointer (some ⟨Q i, 0, none⟩)) ∧ PF w' V p d l (k + 32) P sv m hand Q B Us ∧ Trn V w w'
set_option maxRecDepth 100000 in
set_option maxHeartbeats 4000000 in
theorem victim_full (V : Nat → Prop) (p d l k : Nat) (P : PK) (sv : Value) (m hand : Nat) (Q : Nat → Nat) (B : Nat → Value) (Us : Nat → Bool) (w : World) (h : PF w V p d l k P sv m hand Q B Us) (hfull : P.most ≤ P.frames.length) (hk : k ≤ 1000000000) :
    Calls Tryz.prog 91 #[.pointer (some ⟨p, 0, none⟩)] w (VicP V p d l k P sv m Q B w) := by
  obtain ⟨a, cap, rfl, hle, hcp, h32, hcell⟩ := h.get
  have hm1 := h.ok.m1
  have hn0 : 0 < P.frames.length := by omega
  obtain ⟨g, rfl, -⟩ := hcell 0 hn0
  have c0 : w.cell? ⟨p, 0, none⟩ = some (.slice (some ⟨g, 0, none⟩) P.frames.length cap) := cell_of_row _ _ 0 _ _ _ h.blk
  have c2 : w.cell? ⟨p, 2, none⟩ = some (.int .i64 P.most) := cell_of_row _ _ 2 _ _ _ h.blk
  have g1 : ¬ P.frames.length < P.most := by omega
  have H := Lib.hid h
  obtain ⟨n, hn⟩ : ∃ n, n = P.frames.length := ⟨_, rfl⟩
  rw [← hn] at c0 g1 hn0 h32 hle
  have HN := Lib.hid hn
  have HC : Hid ((List.range P.frames.length).countP Us ≤ 32) := Lib.hid (by
    have : (List.range P.frames.length).countP Us ≤ (List.range P.frames.length).length := List.countP_le_length
    rw [List.length_range] at this
    omega)
  clear h hcell hn hfull
  go_enter Tryz.func91, Tryz.ntmps91
  go_upto_region 1 with (fail)
  go_still (by kernel_rfl)
  go_wp2_with (fail)
  go_loopw [] (fun wr => ∃ hand' Us', Hid (PF wr V p d l (k + 32) P (.slice (some ⟨g, 0, none⟩) P.frames.length cap) m hand' Q B Us' ∧ hand' + (List.range P.frames.length).countP Us' ≤ k + 32 ∧ Trn V w wr)) (fun wr => usedN wr Q P.frames.length)
  case atStart =>
    refine ⟨hand, Us, Lib.hid ⟨?_, by have := H.out.hd; have := HC.out; omega, (Trn.refl _ _).drew⟩⟩
    have h9 := H.out.keep (w' := w.drew) (fun _ _ => rfl) (Nat.le_refl _)
    obtain ⟨mk, f, g', q1, q2⟩ := h9.map
    exact { h9 with map := ⟨mk, f, g', by omega, q2⟩, hd := by have := h9.hd; omega }
  case round =>
    obtain ⟨hand', Us', HR⟩ := hrel
    have d0 : wr.cell? ⟨p, 0, none⟩ = some (.slice (some ⟨g, 0, none⟩) n cap) := by rw [HN.out]; exact cell_of_row _ _ 0 _ _ _ HR.out.1.blk
    have d3 : wr.cell? ⟨p, 3, none⟩ = some (.int .i64 hand') := cell_of_row _ _ 3 _ _ _ HR.out.1.blk
    have f3 : wr.frozen? ⟨p, 3, none⟩ = false := by simp [World.frozen?, HR.out.1.blk, poolObj]
    have hlt : hand' % n < n := Nat.mod_lt _ hn0
    obtain ⟨i, hi⟩ : ∃ i, i = hand' % n := ⟨_, rfl⟩
    have hin : i < n := by omega
    have hiF : i < P.frames.length := by have := HN.out; omega
    have hmod : IntKind.i64.wrap ((hand' : Int).tmod (n : Int)) = (i : Int) := by
      have : (hand' : Int).tmod (n : Int) = ((hand' % n : Nat) : Int) := by
        rw [Int.tmod_eq_emod_of_nonneg (by omega)]; omega
      rw [this, ← hi]
      exact IntWalk.i64_in _ (by omega)
    have hnz : ((n : Int) == 0) = false := by simp; omega
    have hnz2 : ¬ (n : Int) = 0 := by omega
    have hnz3 : ¬ n = 0 := by omega
    have hnz4 : (n == 0) = false := by simp; omega
    have hmod2 : IntKind.i64.wrap (((hand' % n : Nat)) : Int) = (i : Int) := by rw [← hi]; exact IntWalk.i64_in _ (by omega)
    have hmod3 : IntKind.i64.wrap ((hand' : Int) % (n : Int)) = (i : Int) := by rw [show (hand' : Int) % (n : Int) = ((hand' % n : Nat) : Int) by omega, ← hi]; exact IntWalk.i64_in _ (by omega)
    have hmod4 : (hand' : Int).tmod (n : Int) = (i : Int) := by
      rw [Int.tmod_eq_emod_of_nonneg (by omega)]; omega
    have hilt : (i : Int) < (n : Int) := by omega
    have gi : wr.cell? ⟨g, i, none⟩ = some (.pointer (some ⟨Q i, 0, none⟩)) := by
      obtain ⟨a', cap', e, -, -, -, hc⟩ := HR.out.1.get
      obtain ⟨ea, -, -⟩ := Value.slice.inj e
      obtain ⟨g', eg, hc', -⟩ := hc i hiF
      rw [← ea] at eg
      cases eg
      exact hc'
    have u2 : wr.cell? ⟨Q i, 2, none⟩ = some (.bool (Us' i)) := cell_of_row _ _ 2 _ _ _ (HR.out.1.fr i hiF).blk
    have uf : wr.frozen? ⟨Q i, 2, none⟩ = false := by simp [World.frozen?, (HR.out.1.fr i hiF).blk, frObj]
    have Hhd : Hid (hand' ≤ k + 32) := Lib.hid HR.out.1.hd
    have e3 : IntKind.i64.wrap ((hand' : Int) + 1) = ((hand' + 1 : Nat) : Int) := by rw [IntWalk.i64_in _ (by have := Hhd.out; omega)]; omega
    clear hi hlt
    cases hu : Us' i with
    | false =>
      rw [hu] at u2
      have HFin : Hid (VicP V p d l k P (.slice (some ⟨g, 0, none⟩) P.frames.length cap) m Q B w (.returned (.pointer (some ⟨Q i, 0, none⟩))) wr.drew) := Lib.hid ⟨i, hand', Us', hiF, rfl, HR.out.1.keep (fun _ _ => rfl) (Nat.le_refl _), HR.out.2.2.drew⟩
      clear hu hiF
      generalize Q i = qi at *
      go_upto_region 3 with (fail)
      go_still (by kernel_rfl)
      go_wp2_with (fail)
      go_ret
      exact HFin.out
    | true =>
      rw [hu] at u2
      have h1 := HR.out.1.mark hiF false
      have hcnt := countP_lt P.frames.length Us' (upd Us' i false) i hiF hu (by simp [upd]) (fun j _ hne => by simp [upd, hne])
      have hsum := HR.out.2.1
      have h2 := h1.hand (hand' + 1) (k + 32) (Nat.le_refl _) (by omega)
      have d3' : (wr.setCell ⟨Q i, 2, none⟩ (.bool false)).cell? ⟨p, 3, none⟩ = some (.int .i64 hand') := cell_of_row _ _ 3 _ _ _ h1.blk
      have f3' : (wr.setCell ⟨Q i, 2, none⟩ (.bool false)).frozen? ⟨p, 3, none⟩ = false := by simp [World.frozen?, h1.blk, poolObj]
      have HN2 : Hid (∀ W, W = ((wr.setCell ⟨Q i, 2, none⟩ (.bool false)).setCell ⟨p, 3, none⟩ (.int .i64 ((hand' + 1 : Nat) : Int))).drew → (PF W V p d l (k + 32) P (.slice (some ⟨g, 0, none⟩) P.frames.length cap) m (hand' + 1) Q B (upd Us' i false) ∧ hand' + 1 + (List.range P.frames.length).countP (upd Us' i false) ≤ k + 32 ∧ Trn V w W) ∧ usedN W Q P.frames.length < usedN wr Q P.frames.length) := Lib.hid fun W hW => by
        subst hW
        have h3 := h2.keep (w' := ((wr.setCell ⟨Q i, 2, none⟩ (.bool false)).setCell ⟨p, 3, none⟩ (.int .i64 ((hand' + 1 : Nat) : Int))).drew) (fun _ _ => rfl) (Nat.le_refl _)
        refine ⟨⟨h3, by omega, ((HR.out.2.2.set _ _ _ (.inl (h1.vq i hiF))).set _ _ _ (.inl h1.vp)).drew⟩, ?_⟩
        rw [h3.usedN_eq, HR.out.1.usedN_eq]
        omega
      clear hu hiF h1 h2 hcnt hsum
      go_upto_region 3 with (fail)
      go_still (by kernel_rfl)
      go_wp2_with (fail)
      exact ⟨⟨hand' + 1, _, Lib.hid (HN2.out _ rfl).1⟩, (HN2.out _ rfl).2⟩
set_option maxRecDepth 100000 in
theorem victim_less (V : Nat → Prop) (p d l k : Nat) (P : PK) (sv : Value) (m hand : Nat) (Q : Nat → Nat) (B : Nat → Value) (Us : Nat → Bool) (w : World) (h : PF w V p d l k P sv m hand Q B Us) (hless : P.frames.length < P.most) :
    Calls Tryz.prog 91 #[.pointer (some ⟨p, 0, none⟩)] w fun e w' => e = .returned (.pointer none) ∧ w' = w.drew := by
  obtain ⟨a, cap, rfl, hle, hcp, h32, -⟩ := h.get
  have hm2 := h.ok.m2
  have c0 : w.cell? ⟨p, 0, none⟩ = some (.slice a P.frames.length cap) := cell_of_row _ _ 0 _ _ _ h.blk
  have c2 : w.cell? ⟨p, 2, none⟩ = some (.int .i64 P.most) := cell_of_row _ _ 2 _ _ _ h.blk
  clear h
  go_enter Tryz.func91, Tryz.ntmps91
  go_upto_region 1 with (fail)
  go_still (by kernel_rfl)
  go_wp2_with (fail)
  go_ret
  exact ⟨rfl, rfl⟩
theorem info_frame : (Tryz.prog.info? 121).map (fun i => i.size) = some 5 := by kernel_rfl
theorem eql_frames (w : World) (a b : Nat) (ca cb : Array Value) (ta tb : TypeId) (ha : w.heap[a]? = some (.cells ca ta (0, 0))) (hb : w.heap[b]? = some (.cells cb tb (0, 0))) :
    (binOp .eql 116 (.pointer (some ⟨a, 0, none⟩)) (.pointer (some ⟨b, 0, none⟩))).run Tryz.prog w = .ok (.bool (decide (a = b))) w := by
  have hi := info_frame
  cases hj : Tryz.prog.info? 121 with
  | none => rw [hj] at hi; cases hi
  | some j =>
    rw [hj] at hi
    have hsz : j.size = 5 := by simpa using hi
    by_cases e : a = b
    · subst e
      rw [decide_eq_true rfl]
      exact run_eql_ptr_same w _ Tryz.underlying116 hj
    · rw [decide_eq_false e]
      exact run_eql_ptr_other w Tryz.underlying116 hj (by omega) (fun h => e (by cases h; rfl)) ha hb
set_option maxRecDepth 100000 in
set_option maxHeartbeats 2000000 in
theorem index_any (g n cap i : Nat) (Q : Nat → Nat) (w : World) (hc : ∀ j, j < n → w.cell? ⟨g, j, none⟩ = some (ptr (Q j))) (hb : ∀ j, j < n → ∃ ca ta, w.heap[Q j]? = some (.cells ca ta (0, 0))) (hi : i < n) (hQ : ∀ j, j < i → Q j ≠ Q i) (hn : n ≤ cap) (hcp : cap ≤ 9223372036854775807) (_h32 : n ≤ 32) :
    Calls Tryz.prog 138 #[.slice (some ⟨g, 0, none⟩) n cap, .pointer (some ⟨Q i, 0, none⟩)] w fun e w' => e = .returned (.int .i64 i) ∧ w' = w := by
  have HC := Lib.hid hc
  have HQ := Lib.hid hQ
  have HE : Hid (∀ j, j < n → (binOp .eql 116 (.pointer (some ⟨Q i, 0, none⟩)) (.pointer (some ⟨Q j, 0, none⟩))).run Tryz.prog w = .ok (.bool (decide (Q i = Q j))) w) := Lib.hid fun j hj => by
    obtain ⟨c1, t1, h1⟩ := hb i hi
    obtain ⟨c2, t2, h2⟩ := hb j hj
    exact eql_frames w _ _ _ _ _ _ h1 h2
  clear hc hQ hb
  go_enter Tryz.func138, Tryz.ntmps138
  go_wp2_with (fail)
  go_loopw [8] (fun x wr => ∃ j : Nat, j ≤ i ∧ x = .int .i64 j ∧ Hid (wr = w)) (fun x _ => n - (inOf x).toNat)
  case atStart => exact ⟨0, Nat.zero_le _, rfl, Lib.hid rfl⟩
  case round =>
    obtain ⟨j, hj, rfl, HW⟩ := hrel
    have hw := HW.out
    subst hw
    clear HW
    have hjn : j < n := by omega
    have cj : wr.cell? ⟨g, j, none⟩ = some (.pointer (some ⟨Q j, 0, none⟩)) := HC.out j hjn
    have f2 : IntKind.i64.wrap ((j : Int) + 1) = ((j + 1 : Nat) : Int) := by rw [IntWalk.i64_in _ (by omega)]; omega
    by_cases hlt : j < i
    · have hne := HE.out j hjn
      rw [decide_eq_false (fun e => HQ.out j hlt e.symm)] at hne
      go_wp2_with (fail)
      go_roundw
      case rel => exact ⟨j + 1, by omega, by go_num, Lib.hid trivial⟩
      case measure => simp [inOf]; omega
    · obtain rfl : j = i := by omega
      have hne := HE.out j hjn
      rw [decide_eq_true rfl] at hne
      go_wp2_with (fail)
      go_ret
      exact ⟨rfl, rfl⟩
end Go.Proofs.YtohlkkannjifmaaGreatDoor
