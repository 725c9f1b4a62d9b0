/- The log: a sheet is written. The log: a sheet's sector. The log: write. -/
import Derived.Test.YtohlkkannjifmaaGreatDoorODsk2
import Derived.Test.YtohlkkannjifmaaGreatDoorODsk5
import Derived.Test.YtohlkkannjifmaaGreatDoorOLog3
namespace Go.Proofs.YtohlkkannjifmaaGreatDoor
open Go.RowKit
structure LF (w : World) (U : Nat → Prop) (l d k : Nat) (L : LK) (sv tv : Value) (P : Nat → Nat) (V : Nat → Value) : Prop where
  blk : w.heap[l]? = some (logObj L d sv tv)
  srow : w.ownsRow 0 100 1 sv L.sheets.length ((List.range L.sheets.length).map fun i => ptr (P i))
  trow : w.ownsRow 0 2 1 tv L.lsns.length (L.lsns.map li)
  sh : ∀ i, i < L.sheets.length → ShR w (P i) (V i) (L.sheets.getD i sh0)
  inj : ∀ i j, i < L.sheets.length → j < L.sheets.length → i < j → P i ≠ P j ∧ ∀ b, (V i).ownBlock = some b → (V j).ownBlock ≠ some b
  ul : U l
  us : ∀ b, sv.ownBlock = some b → U b
  ut : ∀ b, tv.ownBlock = some b → U b
  ux : ∀ i, i < L.sheets.length → U (P i)
  uv : ∀ i, i < L.sheets.length → ∀ b, (V i).ownBlock = some b → U b
  lt : ∀ i, U i → i < w.heap.size
  ok : L.Ok k
theorem LF.of {w : World} {U : Nat → Prop} {l d k : Nat} {L : LK} (h : LogR w U l d k L) : ∃ sv tv P V, LF w U l d k L sv tv P V := by
  obtain ⟨sv, tv, T, h1, h2, h3, h4, h5, h6, h7, h8, h9, h10, h11⟩ := h.mm
  have hn : L.sheets.length = T.length := by rw [h1]; simp
  have hg : ∀ i (hi : i < T.length), T.getD i (0, .bool false, sh0) = T[i] := fun i hi => by rw [List.getD_eq_getElem?_getD, List.getElem?_eq_getElem hi]; rfl
  refine ⟨sv, tv, fun i => (T.getD i (0, .bool false, sh0)).1, fun i => (T.getD i (0, .bool false, sh0)).2.1, ⟨h2, ?_, h4, fun i hi => ?_, fun i j hi hj hij => ?_, h7, h8, h9, fun i hi => ?_, fun i hi => ?_, h.lt, h.ok⟩⟩
  · rw [hn]
    have e : (List.range T.length).map (fun i => ptr (T.getD i (0, .bool false, sh0)).1) = T.map fun x => ptr x.1 := by
      apply List.ext_getElem
      · simp
      · intro i h1 h2
        have hi : i < T.length := by simpa using h2
        simp only [List.getElem_map, List.getElem_range, hg i hi]
    rw [e]
    exact h3
  · rw [hn] at hi
    have e : L.sheets.getD i sh0 = T[i].2.2 := by
      rw [h1, List.getD_eq_getElem?_getD, List.getElem?_map, List.getElem?_eq_getElem hi]
      rfl
    rw [e, hg i hi]
    exact h5 _ (List.getElem_mem hi)
  · rw [hn] at hi hj
    simp only [hg i hi, hg j hj]
    exact List.pairwise_iff_getElem.1 h6 i j hi hj hij
  · rw [hn] at hi
    simp only [hg i hi]
    exact h10 _ (List.getElem_mem hi)
  · rw [hn] at hi
    simp only [hg i hi]
    exact h11 _ (List.getElem_mem hi)
theorem LF.log {w : World} {U : Nat → Prop} {l d k : Nat} {L : LK} {sv tv : Value} {P : Nat → Nat} {V : Nat → Value} (h : LF w U l d k L sv tv P V) : LogR w U l d k L := by
  refine ⟨⟨sv, tv, (List.range L.sheets.length).map fun i => (P i, V i, L.sheets.getD i sh0), ?_, h.blk, ?_, h.trow, fun x hx => ?_, ?_, h.ul, h.us, h.ut, fun x hx => ?_, fun x hx => ?_⟩, h.lt, h.ok⟩
  · apply List.ext_getElem
    · simp
    · intro i h1 h2
      simp only [List.getElem_map, List.getElem_range, List.getD_eq_getElem?_getD, List.getElem?_eq_getElem h1, Option.getD_some]
  · have := h.srow
    rw [List.length_map, List.length_range, List.map_map]
    exact this
  · obtain ⟨i, hi, rfl⟩ := List.mem_map.1 hx
    exact h.sh i (List.mem_range.1 hi)
  · rw [List.pairwise_iff_getElem]
    intro i j hi hj hij
    simp only [List.length_map, List.length_range] at hi hj
    simp only [List.getElem_map, List.getElem_range]
    exact h.inj i j hi hj hij
  · obtain ⟨i, hi, rfl⟩ := List.mem_map.1 hx
    exact h.ux i (List.mem_range.1 hi)
  · obtain ⟨i, hi, rfl⟩ := List.mem_map.1 hx
    exact h.uv i (List.mem_range.1 hi)
theorem LF.keep {w w' : World} {U : Nat → Prop} {l d k : Nat} {L : LK} {sv tv : Value} {P : Nat → Nat} {V : Nat → Value} (h : LF w U l d k L sv tv P V) (hb : ∀ i, U i → w'.heap[i]? = w.heap[i]?) (hs : w.heap.size ≤ w'.heap.size) : LF w' U l d k L sv tv P V :=
  ⟨(hb l h.ul).trans h.blk, ownsRow_keep h.srow fun g e => hb g (h.us g e), ownsRow_keep h.trow fun g e => hb g (h.ut g e), fun i hi => ⟨(hb _ (h.ux i hi)).trans (h.sh i hi).blk, ownsRow_keep (h.sh i hi).body fun g e => hb g (h.uv i hi g e)⟩, h.inj, h.ul, h.us, h.ut, h.ux, h.uv, fun i hi => Nat.lt_of_lt_of_le (h.lt i hi) hs, h.ok⟩
def LK.setSh (L : LK) (i : Nat) (s : ShV) : LK := { L with sheets := L.sheets.set i s }
theorem getD_set {α : Type} (l : List α) (i j : Nat) (x d : α) (hi : i < l.length) : (l.set i x).getD j d = if j = i then x else l.getD j d := by
  rw [List.getD_eq_getElem?_getD, List.getElem?_set]
  by_cases e : i = j
  · subst e
    rw [if_pos rfl, if_pos hi, if_pos rfl]
    rfl
  · rw [if_neg e, if_neg (fun h => e h.symm), List.getD_eq_getElem?_getD]
theorem LF.inj' {w : World} {U : Nat → Prop} {l d k : Nat} {L : LK} {sv tv : Value} {P : Nat → Nat} {V : Nat → Value} (h : LF w U l d k L sv tv P V) {i j : Nat} (hi : i < L.sheets.length) (hj : j < L.sheets.length) (hne : i ≠ j) : P i ≠ P j := by
  rcases Nat.lt_or_ge i j with h1 | h1
  · exact (h.inj i j hi hj h1).1
  · exact ((h.inj j i hj hi (by omega)).1).symm
theorem LF.set {w w' : World} {U : Nat → Prop} {l d k : Nat} {L : LK} {sv tv : Value} {P : Nat → Nat} {V : Nat → Value} (h : LF w U l d k L sv tv P V) {i : Nat} (hi : i < L.sheets.length) {s' : ShV} (hb : s'.body = (L.sheets.getD i sh0).body)
    (hp : w'.heap[P i]? = some (shObj s' (V i))) (ho : ∀ g, U g → g ≠ P i → w'.heap[g]? = w.heap[g]?) (hs : w.heap.size ≤ w'.heap.size) (hok : (L.setSh i s').Ok k) : LF w' U l d k (L.setSh i s') sv tv P V := by
  have hlen : (L.setSh i s').sheets.length = L.sheets.length := by unfold LK.setSh; simp
  have htag : ∀ g c t, w.heap[g]? = some (Obj.cells c t (0, 0)) → t ≠ 105 → g ≠ P i := fun g c t hg ht e => by subst e; exact tag_ne hg (h.sh i hi).blk ht
  refine ⟨?_, ?_, ?_, fun j hj => ?_, fun a b ha hb hab => h.inj a b (by omega) (by omega) hab, h.ul, h.us, h.ut, fun j hj => h.ux j (by omega), fun j hj => h.uv j (by omega), fun g hg => Nat.lt_of_lt_of_le (h.lt g hg) hs, hok⟩
  · exact (ho l h.ul (htag _ _ _ h.blk (by decide))).trans h.blk
  · rw [hlen]
    exact ownsRow_keep h.srow fun g e => by
      obtain ⟨c, hc⟩ := own_tag h.srow e
      exact ho g (h.us g e) (htag _ _ _ hc (by decide))
  · exact ownsRow_keep h.trow fun g e => by
      obtain ⟨c, hc⟩ := own_tag h.trow e
      exact ho g (h.ut g e) (htag _ _ _ hc (by decide))
  · rw [hlen] at hj
    have e1 : (L.setSh i s').sheets.getD j sh0 = if j = i then s' else L.sheets.getD j sh0 := getD_set _ _ _ _ _ hi
    have hbody : ∀ q, q < L.sheets.length → OB 0 w' (V q) (L.sheets.getD q sh0).body := fun q hq => ownsRow_keep (h.sh q hq).body fun g e => by
      obtain ⟨c, hc⟩ := own_tag (h.sh q hq).body e
      exact ho g (h.uv q hq g e) (htag _ _ _ hc (by decide))
    rw [e1]
    by_cases e : j = i
    · subst e
      rw [if_pos rfl]
      exact ⟨hp, by rw [hb]; exact hbody j hj⟩
    · rw [if_neg e]
      exact ⟨(ho _ (h.ux j hj) (fun e2 => h.inj' hj hi e e2)).trans (h.sh j hj).blk, hbody j hj⟩
theorem LF.get {w : World} {U : Nat → Prop} {l d k : Nat} {L : LK} {sv tv : Value} {P : Nat → Nat} {V : Nat → Value} (h : LF w U l d k L sv tv P V) :
    ∃ g cap, sv = .slice (some ⟨g, 0, none⟩) L.sheets.length cap ∧ L.sheets.length ≤ cap ∧ cap ≤ 9223372036854775807 ∧ L.sheets.length ≤ 8191 ∧ ∀ i, i < L.sheets.length → w.cell? ⟨g, i, none⟩ = some (ptr (P i)) := by
  have hcs := h.srow
  obtain ⟨-, ⟨-, h0⟩ | ⟨g, cap, cur, rfl, -, -, hle, hcm, -⟩⟩ := h.srow
  · exact absurd (List.eq_nil_of_length_eq_zero h0) h.ok.ne
  refine ⟨g, cap, rfl, hle, by simpa [maxLen] using hcm, by have := h.ok.ct; have := h.ok.c2; omega, fun i hi => ?_⟩
  have h12 := hcs.cells (g := g) rfl i (ptr (P i)) (by rw [List.getElem?_map, List.getElem?_range hi]; rfl)
  rw [Addr.add_mid, Nat.zero_add] at h12
  exact h12
def LK.turned (L : LK) (i : Nat) : LK := L.setSh i { L.sheets.getD i sh0 with turn := L.turn }
theorem LK.Ok.setSh {L : LK} {k : Nat} (h : L.Ok k) {i : Nat} (hi : i < L.sheets.length) {s' : ShV} (h1 : s'.num = (L.sheets.getD i sh0).num) (h2 : s'.body = (L.sheets.getD i sh0).body) (h3 : 0 ≤ s'.safe ∧ s'.safe ≤ s'.body.length)
    (h4 : 0 ≤ s'.turn ∧ s'.turn < 2147483648) (h5 : s'.before = (L.sheets.getD i sh0).before) (h6 : s'.safe < s'.body.length → (L.sheets.getD i sh0).safe < (L.sheets.getD i sh0).body.length) : (L.setSh i s').Ok k := by
  have hmem : ∀ s ∈ (L.setSh i s').sheets, s = s' ∨ s ∈ L.sheets := fun s hs => by
    rcases List.mem_or_eq_of_mem_set hs with h | h
    · exact .inr h
    · exact .inl h
  have hg := getD_mem L.sheets sh0 i hi
  have hend : (L.setSh i s').end_ = L.end_ := by
    have hc : CoreEq (L.setSh i s') L := ⟨rfl, rfl, by
      apply List.ext_getElem
      · simp [LK.setSh]
      · intro j a b
        simp only [LK.setSh, List.getElem_map, List.getElem_set]
        split
        · next e =>
          subst e
          rw [h1, h2, List.getD_eq_getElem?_getD, List.getElem?_eq_getElem hi]
          rfl
        · rfl, rfl⟩
    exact hc.end_
  obtain ⟨m, m1, m2, m3⟩ := h.num
  refine ⟨?_, ⟨m, m1, m2, fun j s hj => ?_⟩, fun s hs => ?_, h.f1, h.f2, h.c1, h.c2, h.t1, h.t2, ?_, h.lk, h.so, ?_, fun hw => ?_, fun s hs => ?_⟩
  · intro e
    have := congrArg List.length e
    simp only [LK.setSh, List.length_set, List.length_nil] at this
    omega
  · simp only [LK.setSh, List.getElem?_set] at hj
    split at hj
    · next e =>
      subst e
      cases hj
      rw [h1]
      exact m3 i _ (by rw [List.getD_eq_getElem?_getD, List.getElem?_eq_getElem hi]; rfl)
    · exact m3 j s hj
  · rcases hmem s hs with rfl | hs
    · exact ⟨by rw [h2]; exact (h.len _ hg).1, h3⟩
    · exact h.len s hs
  · show (((L.sheets.set i s').length : Nat) : Int) ≤ L.count - 1
    rw [List.length_set]; exact h.ct
  · rw [hend]; exact h.sb
  · obtain ⟨s, hs, hlt⟩ := hw
    rcases hmem s hs with rfl | hs
    · exact h.wk ⟨_, hg, h6 hlt⟩
    · exact h.wk ⟨s, hs, hlt⟩
  · rcases hmem s hs with rfl | hs
    · have := h.hd _ hg
      rw [h5]
      omega
    · exact h.hd s hs
theorem LK.Ok.turned {L : LK} {k : Nat} (h : L.Ok k) {i : Nat} (hi : i < L.sheets.length) : (L.turned i).Ok k :=
  h.setSh hi rfl rfl (h.len _ (getD_mem L.sheets sh0 i hi)).2 ⟨by have := h.t1; show 0 ≤ L.turn; omega, h.t2⟩ rfl id
theorem LK.Ok.numAt {L : LK} {k : Nat} (h : L.Ok k) {i : Nat} (hi : i < L.sheets.length) : 0 ≤ (L.sheets.getD i sh0).num ∧ (L.sheets.getD i sh0).num ≤ 2251799813693440 := by
  obtain ⟨m, m1, m2, m3⟩ := h.num
  have := m3 i (L.sheets.getD i sh0) (by rw [List.getD_eq_getElem?_getD, List.getElem?_eq_getElem hi]; rfl)
  have h1 := h.ct
  have h2 := h.c2
  omega
end Go.Proofs.YtohlkkannjifmaaGreatDoor
namespace Go.Proofs.YtohlkkannjifmaaGreatDoor
open Go.RowKit
set_option maxRecDepth 100000 in
theorem sector_any (w : World) (U : Nat → Prop) (l d k : Nat) (L : LK) (x : Int) (h : LogR w U l d k L) (h1 : 0 ≤ x) (_h2 : x ≤ 2251799813693440) :
    Calls Tryz.prog 71 #[ptr l, li x] w fun e w' => e = .returned (li (L.sector x)) ∧ w' = w.drew := by
  obtain ⟨g, cap, tv, T, p, v, hb, -⟩ := h.view
  have c1 : w.cell? ⟨l, 1, none⟩ = some (.int .i64 L.first) := by simp [World.cell?, hb, li]
  have c2 : w.cell? ⟨l, 2, none⟩ = some (.int .i64 L.count) := by simp [World.cell?, hb, li]
  have hc1 := h.ok.c1
  have hc2 := h.ok.c2
  have hf1 := h.ok.f1
  have hf2 := h.ok.f2
  have hm1 : 0 ≤ x.tmod L.count := Int.tmod_nonneg _ h1
  have hm2 : x.tmod L.count < L.count := Int.tmod_lt_of_pos _ (by omega)
  have e0 : IntKind.i64.wrap (x.tmod L.count) = x.tmod L.count := IntWalk.i64_in _ (by omega)
  have e1 : IntKind.i64.wrap (L.first + x.tmod L.count) = L.first + x.tmod L.count := IntWalk.i64_in _ (by omega)
  have e2 : (L.count == 0) = false := by simp; omega
  have e3 : ¬ L.count = 0 := by omega
  unfold LK.sector ptr li
  clear h hb
  generalize L.first = f at *
  generalize L.count = c at *
  go_enter Tryz.func71, Tryz.ntmps71
  go_wp2_with (fail)
  go_still (by kernel_rfl)
  go_wp2_with (fail)
  go_ret
  exact ⟨rfl, rfl⟩
end Go.Proofs.YtohlkkannjifmaaGreatDoor
namespace Go.Proofs.YtohlkkannjifmaaGreatDoor
open Go.RowKit
theorem lt_of_cell {w : World} {b i : Nat} {v : Value} (h : w.cell? ⟨b, i, none⟩ = some v) : b < w.heap.size := by
  unfold World.cell? at h
  split at h
  · next e => exact lt_of_heap' e
  · cases h
def wrB (L : LK) (s : ShV) : List UInt8 := ({ s with turn := L.turn } : ShV).bytes
def WrP (U : Nat → Prop) (l k : Nat) (L : LK) (d ds do_ kd : Nat) (D : DK) (sv tv : Value) (P : Nat → Nat) (V : Nat → Value) (i : Nat) (w : World) (e : Ending) (w' : World) : Prop :=
  e = .returned (.int .i64 (if (L.sheets.getD i sh0).wants then (D.write (L.sector (L.sheets.getD i sh0).num) (wrB L (L.sheets.getD i sh0))).1 else 0)) ∧
  LF w' U l d k (if (L.sheets.getD i sh0).wants then L.turned i else L) sv tv P V ∧
  DiskR w' d ds do_ (kd + 1) (if (L.sheets.getD i sh0).wants then (D.write (L.sector (L.sheets.getD i sh0).num) (wrB L (L.sheets.getD i sh0))).2 else D) ∧ Trn (fun g => U g ∨ DB d ds do_ g) w w'
theorem mem_of_getD_false {a b : Bool} (h : (!a || b) = false) : a = true ∧ b = false := by cases a <;> cases b <;> simp_all
set_option maxRecDepth 100000 in
set_option maxHeartbeats 4000000 in
theorem write_no (U : Nat → Prop) (l k : Nat) (L : LK) (d ds do_ kd : Nat) (D : DK) (sv tv : Value) (P : Nat → Nat) (V : Nat → Value) (i : Nat) (w : World) (h : LF w U l d k L sv tv P V) (hD : DiskR w d ds do_ kd D) (hi : i < L.sheets.length) (hw : (L.sheets.getD i sh0).wants = false) :
    Calls Tryz.prog 62 #[.pointer (some ⟨l, 0, none⟩), .pointer (some ⟨P i, 0, none⟩)] w (WrP U l k L d ds do_ kd D sv tv P V i w) := by
  unfold WrP
  rw [hw]
  have hs := h.sh i hi
  have hbl := h.ok.len _ (getD_mem L.sheets sh0 i hi)
  obtain ⟨va, vc, hve, hvr⟩ := hs.body.rb (by omega)
  have c4 : w.cell? ⟨P i, 4, none⟩ = some (.slice va (L.sheets.getD i sh0).body.length vc) := by rw [← hve]; exact cell_of_row _ _ 4 _ _ _ hs.blk
  have c5 : w.cell? ⟨P i, 5, none⟩ = some (.int .i64 (L.sheets.getD i sh0).safe) := cell_of_row _ _ 5 _ _ _ hs.blk
  have c6 : w.cell? ⟨P i, 6, none⟩ = some (.bool (L.sheets.getD i sh0).lost) := cell_of_row _ _ 6 _ _ _ hs.blk
  unfold ShV.wants at hw
  obtain ⟨hw1, hw2⟩ := mem_of_getD_false hw
  have e1 : ((L.sheets.getD i sh0).safe == ((L.sheets.getD i sh0).body.length : Int)) = true := by simpa using hw1
  rw [hw2] at c6
  have hv1 := hvr.mx
  have hv2 := hvr.le
  have H := Lib.hid h
  have HD := Lib.hid hD
  clear hw hw1 hw2 hs hve hvr h hD
  generalize L.sheets.getD i sh0 = s at *
  go_enter Tryz.func62, Tryz.ntmps62
  go_upto_region 1 with (fail)
  go_still (by kernel_rfl)
  go_wp2_with (fail)
  go_ret
  exact ⟨by simp, H.out.keep (fun _ _ => rfl) (Nat.le_refl _), (HD.out.keep (w' := w.drew) fun _ _ => rfl).mono (Nat.le_succ _), (Trn.refl _ w).drew⟩
set_option maxRecDepth 100000 in
set_option maxHeartbeats 4000000 in
theorem write_yes (U : Nat → Prop) (l k : Nat) (L : LK) (d ds do_ kd : Nat) (D : DK) (sv tv : Value) (P : Nat → Nat) (V : Nat → Value) (i : Nat) (w : World) (h : LF w U l d k L sv tv P V) (hD : DiskR w d ds do_ kd D) (hne : ∀ g, DB d ds do_ g → ¬ U g) (hi : i < L.sheets.length) (hw : (L.sheets.getD i sh0).wants = true) (hkd : kd ≤ 1000000000) :
    Calls Tryz.prog 62 #[.pointer (some ⟨l, 0, none⟩), .pointer (some ⟨P i, 0, none⟩)] w (WrP U l k L d ds do_ kd D sv tv P V i w) := by
  unfold WrP
  rw [hw]
  simp only [if_true]
  have hs := h.sh i hi
  have hbl := h.ok.len _ (getD_mem L.sheets sh0 i hi)
  have hnum := h.ok.numAt hi
  have hhd := h.ok.hd _ (getD_mem L.sheets sh0 i hi)
  obtain ⟨va, vc, hve, hvr⟩ := hs.body.rb (by omega)
  have c4 : w.cell? ⟨P i, 4, none⟩ = some (.slice va (L.sheets.getD i sh0).body.length vc) := by rw [← hve]; exact cell_of_row _ _ 4 _ _ _ hs.blk
  have c5 : w.cell? ⟨P i, 5, none⟩ = some (.int .i64 (L.sheets.getD i sh0).safe) := cell_of_row _ _ 5 _ _ _ hs.blk
  have c6 : w.cell? ⟨P i, 6, none⟩ = some (.bool (L.sheets.getD i sh0).lost) := cell_of_row _ _ 6 _ _ _ hs.blk
  have c1 : w.cell? ⟨P i, 1, none⟩ = some (.int .i64 (L.sheets.getD i sh0).turn) := cell_of_row _ _ 1 _ _ _ hs.blk
  have f1 : w.frozen? ⟨P i, 1, none⟩ = false := by simp [World.frozen?, hs.blk]
  have l3 : w.cell? ⟨l, 3, none⟩ = some (.int .i64 L.turn) := cell_of_row _ _ 3 _ _ _ h.blk
  have hv1 := hvr.mx
  have hv2 := hvr.le
  -- the world behind the mark
  have hP1 : (w.setCell ⟨P i, 1, none⟩ (li L.turn)).heap[P i]? = some (shObj { L.sheets.getD i sh0 with turn := L.turn } (V i)) := set_at hs.blk 1 (li L.turn)
  have hL1 : LF (w.setCell ⟨P i, 1, none⟩ (li L.turn)) U l d k (L.turned i) sv tv P V := h.set hi rfl hP1 (fun g _ hg => set_ne hg) (by rw [size_set]; exact Nat.le_refl _) (h.ok.turned hi)
  have hD1 : DiskR (w.setCell ⟨P i, 1, none⟩ (li L.turn)) d ds do_ kd D := hD.keep fun g hg => set_ne (fun e => hne g hg (by rw [e]; exact h.ux i hi))
  obtain ⟨w1, hw1⟩ : ∃ w1, w1 = w.setCell ⟨P i, 1, none⟩ (li L.turn) := ⟨_, rfl⟩
  have hT1 : Trn (fun g => U g ∨ DB d ds do_ g) w w1 := by rw [hw1]; exact (Trn.refl _ w).set _ _ _ (.inl (.inl (h.ux i hi)))
  rw [← hw1] at hP1 hL1 hD1
  have hsh1 : ShR w1 (P i) (V i) { L.sheets.getD i sh0 with turn := L.turn } := by
    have := hL1.sh i (by simpa [LK.turned, LK.setSh] using hi)
    have e : (L.turned i).sheets.getD i sh0 = { L.sheets.getD i sh0 with turn := L.turn } := by
      rw [show (L.turned i).sheets = L.sheets.set i _ from rfl, getD_set _ _ _ _ _ hi, if_pos rfl]
    rwa [e] at this
  have k0 : w1.cell? ⟨P i, 0, none⟩ = some (.int .i64 (L.sheets.getD i sh0).num) := cell_of_row _ _ 0 _ _ _ hP1
  have m0 : w1.cell? ⟨l, 0, none⟩ = some (.pointer (some ⟨d, 0, none⟩)) := cell_of_row _ _ 0 _ _ _ hL1.blk
  have HSe : Hid (∀ W, W.heap = w1.heap → Calls Tryz.prog 71 #[.pointer (some ⟨l, 0, none⟩), .int .i64 (L.sheets.getD i sh0).num] W fun e w' => e = .returned (.int .i64 (L.sector (L.sheets.getD i sh0).num)) ∧ w' = W.drew) := Lib.hid fun W hW => sector_any W U l d k (L.turned i) _ (hL1.keep (fun g _ => by rw [hW]) (by rw [hW]; exact Nat.le_refl _)).log hnum.1 hnum.2
  have HSb : Hid (∀ W, W.heap = w1.heap → Calls Tryz.prog 117 #[.pointer (some ⟨P i, 0, none⟩)] W fun e w' => ∃ v', e = .returned v' ∧ OB W.heap.size w' v' (wrB L (L.sheets.getD i sh0)) ∧ Below W.heap.size W w') := Lib.hid fun W hW => sbytes_any W (P i) (V i) _ ⟨by rw [hW]; exact hsh1.blk, ownsRow_keep hsh1.body fun g _ => by rw [hW]⟩ hbl.1 hnum (by have := h.ok.t1; have := h.ok.t2; exact ⟨by show 0 ≤ L.turn; omega, by show L.turn < _; omega⟩) hhd.2.2
  have hsec : -9223372036854775808 ≤ L.sector (L.sheets.getD i sh0).num ∧ L.sector (L.sheets.getD i sh0).num ≤ 9223372036854775807 := by
    have h1 := h.ok.c1
    have h2 := h.ok.c2
    have h3 := h.ok.f1
    have h4 := h.ok.f2
    have hm1 : 0 ≤ (L.sheets.getD i sh0).num.tmod L.count := Int.tmod_nonneg _ hnum.1
    have hm2 : (L.sheets.getD i sh0).num.tmod L.count < L.count := Int.tmod_lt_of_pos _ (by omega)
    unfold LK.sector
    omega
  have hlen : (wrB L (L.sheets.getD i sh0)).length = 512 := ShV.bytes_len (s := { L.sheets.getD i sh0 with turn := L.turn }) hbl.1
  have HDW : Hid (∀ W W', W.heap = w1.heap → Below W.heap.size W W' → ∀ a c, RB W'.heap.size W' a 512 c (wrB L (L.sheets.getD i sh0)) → Calls Tryz.prog 116 #[.pointer (some ⟨d, 0, none⟩), .int .i64 (L.sector (L.sheets.getD i sh0).num), .slice a 512 c] W' fun e w' =>
      e = .returned (.int .i64 (D.write (L.sector (L.sheets.getD i sh0).num) (wrB L (L.sheets.getD i sh0))).1) ∧ DiskR w' d ds do_ (kd + 1) (D.write (L.sector (L.sheets.getD i sh0).num) (wrB L (L.sheets.getD i sh0))).2 ∧ Trn (DB d ds do_) W' w') := Lib.hid fun W W' hW hb a c hr =>
    dwrite_any d ds do_ kd W'.heap.size D _ a 512 c _ W' (hD1.keep fun g hg => (hb.block g (by rw [hW]; exact hD1.lt hg)).trans (by rw [hW])) hr hsec.1 hsec.2 (by omega)
  have HL1 := Lib.hid hL1
  have HNE := Lib.hid hne
  have HPu := Lib.hid (h.ux i hi)
  have HPl : Hid (P i < w1.heap.size) := Lib.hid (hL1.lt _ (h.ux i hi))
  have HT1 := Lib.hid hT1
  have HLen := Lib.hid hlen
  have HlD := Lib.hid fun g (hg : DB d ds do_ g) => hD1.lt hg
  have hq : ((L.sheets.getD i sh0).safe == ((L.sheets.getD i sh0).body.length : Int)) = false ∨ (((L.sheets.getD i sh0).safe == ((L.sheets.getD i sh0).body.length : Int)) = true ∧ (L.sheets.getD i sh0).lost = true) := by
    unfold ShV.wants at hw
    cases h1 : (L.sheets.getD i sh0).lost with
    | true => cases h2 : ((L.sheets.getD i sh0).safe == ((L.sheets.getD i sh0).body.length : Int)) with
      | true => exact .inr ⟨rfl, rfl⟩
      | false => exact .inl rfl
    | false =>
      rw [h1] at hw
      refine .inl ?_
      simpa using hw
  clear hw hs hve hvr h hD hP1 hL1 hD1 hT1 hsh1 hne hlen hsec hhd
  generalize D.write (L.sector (L.sheets.getD i sh0).num) (wrB L (L.sheets.getD i sh0)) = res at *
  generalize wrB L (L.sheets.getD i sh0) = bs at *
  generalize L.sector (L.sheets.getD i sh0).num = sec at *
  have HTu : Hid (LF w1 U l d k (L.turned i) sv tv P V) := HL1
  generalize L.turned i = L1 at *
  generalize L.sheets.getD i sh0 = s at *
  generalize ht : L.turn = tn at *
  have HW1 : Hid (w1 = w.setCell ⟨P i, 1, none⟩ (.int .i64 tn)) := Lib.hid hw1
  clear hw1 ht
  generalize hlo : s.lost = lo at *
  generalize hsa : s.safe = sa at *
  generalize hbo : s.body.length = bn at *
  generalize hnu : s.num = sn at *
  clear hlo hsa hbo hnu
  rcases hq with e2 | ⟨e2, e3⟩
  rotate_left
  rw [e3] at c6
  clear e3
  all_goals
    go_enter Tryz.func62, Tryz.ntmps62
    go_upto_region 1 with (fail)
    go_still (by kernel_rfl)
    go_upto_region 4 with (fail)
    rw [← HW1.out]
    go_region_held3 (fun w' => w'.cell? ⟨l, 0, none⟩ = some (.pointer (some ⟨d, 0, none⟩)) ∧ w'.cell? ⟨P i, 0, none⟩ = some (.int .i64 sn)) (first | go_keep | exact ⟨by assumption, by assumption⟩) (first | (go_at_call 71; refine (HSe.out w1.drew.drew rfl).mono ?_; rintro e w2 ⟨rfl, hw2⟩; subst hw2) | (go_at_call 117; refine (HSb.out w1.drew.drew.drew rfl).mono ?_; rintro e w3 ⟨v3, rfl, ho3, hb3⟩; obtain ⟨a3, d3, rfl, hr3⟩ := ho3.rb (by have := HLen.out; omega); rw [HLen.out] at hr3; have HDw := Lib.hid (HDW.out w1.drew.drew.drew w3 rfl hb3 a3 d3 hr3); have B3 := Lib.hid hb3; have m3 : w3.cell? ⟨l, 0, none⟩ = some (.pointer (some ⟨d, 0, none⟩)) := (hb3.cell (p := ⟨l, 0, none⟩) (HL1.out.lt l HL1.out.ul)).trans m0; have k3 : w3.cell? ⟨P i, 0, none⟩ = some (.int .i64 sn) := (hb3.cell (p := ⟨P i, 0, none⟩) HPl.out).trans k0; rw [HLen.out]; clear ho3 hb3 hr3) | (go_at_call 116; refine HDw.out.mono ?_; rintro e w4 ⟨rfl, hd4, ht4⟩; have D4 := Lib.hid hd4; have T4 := Lib.hid ht4; have m4 : w4.cell? ⟨l, 0, none⟩ = some (.pointer (some ⟨d, 0, none⟩)) := (World.cell?_of_block (w := w3) (ht4.block l (lt_of_cell m3) (fun h => HNE.out l h HL1.out.ul))).trans m3; have k4 : w4.cell? ⟨P i, 0, none⟩ = some (.int .i64 sn) := (World.cell?_of_block (w := w3) (ht4.block (P i) (lt_of_cell k3) (fun h => HNE.out _ h HPu.out))).trans k3; clear hd4 ht4))
    go_wp2_with (fail)
    go_ret
    refine ⟨rfl, HL1.out.keep (fun g hg => (T4.out.block g (Nat.lt_of_lt_of_le (HL1.out.lt g hg) B3.out.size) (fun h => HNE.out g h hg)).trans (B3.out.block g (HL1.out.lt g hg))) (Nat.le_trans B3.out.size T4.out.size), D4.out, ?_⟩
    exact ((HT1.out.drew.drew.drew).below B3.out HT1.out.size).then (T4.out.mono fun g hg => .inl (.inr hg))
theorem lwrite_any (U : Nat → Prop) (l k : Nat) (L : LK) (d ds do_ kd : Nat) (D : DK) (sv tv : Value) (P : Nat → Nat) (V : Nat → Value) (i : Nat) (w : World) (h : LF w U l d k L sv tv P V) (hD : DiskR w d ds do_ kd D) (hne : ∀ g, DB d ds do_ g → ¬ U g) (hi : i < L.sheets.length) (hkd : kd ≤ 1000000000) :
    Calls Tryz.prog 62 #[.pointer (some ⟨l, 0, none⟩), .pointer (some ⟨P i, 0, none⟩)] w (WrP U l k L d ds do_ kd D sv tv P V i w) := by
  cases hw : (L.sheets.getD i sh0).wants with
  | false => exact write_no U l k L d ds do_ kd D sv tv P V i w h hD hi hw
  | true => exact write_yes U l k L d ds do_ kd D sv tv P V i w h hD hne hi hw hkd
end Go.Proofs.YtohlkkannjifmaaGreatDoor
