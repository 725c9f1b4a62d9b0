/- Marked texts of any list and place. append to a slice of the call's own parts: the new slice reads longer, the old one reads as it did; an element set. Lists of parts that lie apart: marks, and what stands while they are marked and grown. -/
import Derived.Test.YthlmnoggeggpkaaGreatKMark
import Derived.Test.YthlmnoggeggpkaaGreatJBase
import Derived.Test.YthlmnoggeggpkaaGreatJOver
import Derived.Test.YthlmnoggeggpkaaGreatBelowQ
namespace Go.Proofs.YthlmnoggeggpkaaGreat
open Go.RowKit

def b8 (x : Nat) : UInt8 := UInt8.ofNat (x % 256)
theorem b8_nat (x : Nat) : ((b8 x).toNat : Int) = (x : Int) % 256 := by
  unfold b8
  rw [UInt8.toNat_ofNat']
  omega
/-- The mark of a place in a list of texts. -/
def mkT (k i : Nat) : List UInt8 := [35, b8 k, b8 (k / 256), b8 (k / 65536), 47, b8 i, b8 (i / 256), b8 (i / 65536)]
theorem mkT_len (k i : Nat) : (mkT k i).length = 8 := rfl
set_option maxHeartbeats 4000000 in
set_option maxRecDepth 100000 in
theorem markT_any (k i : Nat) (w : World) (hk : k ≤ 1000000000) (hi : i ≤ 1000000000) :
    Calls Tryz.prog 94 #[.int .i64 (k : Int), .int .i64 (i : Int)] w fun e w' => e = .returned (.string ⟨(mkT k i).toArray⟩) ∧ Below w.heap.size w w' := by
  have HB := Lib.hid (fun c : Array Value => (Below.refl w.heap.size w).alloc (Nat.le_refl _) (.cells c 5))
  have hcv : (convert 48 9 (.slice (some ⟨w.heap.size, 0, none⟩) 8 8)).run Tryz.prog (w.alloc (.cells #[.int .u8 35, .int .u8 ((k : Int) % 256), .int .u8 ((k : Int) / 256 % 256), .int .u8 ((k : Int) / 65536 % 256), .int .u8 47, .int .u8 ((i : Int) % 256), .int .u8 ((i : Int) / 256 % 256), .int .u8 ((i : Int) / 65536 % 256)] 5)) = .ok (.string ⟨#[35, b8 k, b8 (k / 256), b8 (k / 65536), 47, b8 i, b8 (i / 256), b8 (i / 65536)]⟩) (w.alloc (.cells #[.int .u8 35, .int .u8 ((k : Int) % 256), .int .u8 ((k : Int) / 256 % 256), .int .u8 ((k : Int) / 65536 % 256), .int .u8 47, .int .u8 ((i : Int) % 256), .int .u8 ((i : Int) / 256 % 256), .int .u8 ((i : Int) / 65536 % 256)] 5)) := by
    have h := conv8 w 35 (b8 k) (b8 (k / 256)) (b8 (k / 65536)) 47 (b8 i) (b8 (i / 256)) (b8 (i / 65536))
    rw [b8_nat, b8_nat, b8_nat, b8_nat, b8_nat, b8_nat, Int.natCast_ediv, Int.natCast_ediv, Int.natCast_ediv, Int.natCast_ediv] at h
    exact h
  go_enter Tryz.func94, Tryz.ntmps94
  go_wp2_with (fail)
  go_ret
  exact ⟨rfl, HB.out _⟩
end Go.Proofs.YthlmnoggeggpkaaGreat
namespace Go.Proofs.YthlmnoggeggpkaaGreat
open Go.RowKit

theorem append_keep {w : World} {base : Nat} {v : Value} {P Q : List Pt} (h : OP base w v P) (ty : TypeId) (sa : Option Addr) (c : Nat) (hsrc : ∃ ad, sa = some ad ∧ ∀ j u, (cellsP Q)[j]? = some u → w.cell? (ad.add j) = some u)
    (hQ : 0 < Q.length) (hbase : base ≤ w.heap.size) (hsize : (P.length + Q.length) * 24 ≤ 140737488355328) :
    ∃ g cap w', (Builtin.append_ #[26, 26] ty #[v, .slice sa Q.length c]).run Tryz.prog w = .ok (.slice (some ⟨g, 0, none⟩) (P.length + Q.length) cap) w' ∧ OP base w' (.slice (some ⟨g, 0, none⟩) (P.length + Q.length) cap) (P ++ Q) ∧ OP base w' v P ∧
      w.grownBy w' v.ownBlock ∧ (v.ownBlock = some g ∨ g = w.heap.size) := by
  obtain ⟨i0, hi, hz0, hz1, hz2⟩ := info_parts Tryz.infoPart
  obtain ⟨ad, rfl, hcell⟩ := hsrc
  have hlP := cellsP_len P
  have hlQ := cellsP_len Q
  have hlen : (cellsP (P ++ Q)).length = (P.length + Q.length) * 2 := by rw [cellsP_len, List.length_append]
  have hsz : (Value.agg #[.string ByteArray.empty, .int .i64 0]).cells.size = 2 := rfl
  have hnews : (cellsP Q).length = Q.length * i0.size := by rw [hz1]; exact hlQ
  have hb' : (P.length + Q.length) * i0.bytes ≤ 140737488355328 := by rw [hz2]; exact hsize
  have grown : ∀ old, old < P.length + Q.length → OP base (w.drew.alloc (.cells ((cellsP P).toArray ++ (cellsP Q).toArray ++ Builtin.zeroCells (Value.agg #[.string ByteArray.empty, .int .i64 0]).cells (grownCap w (P.length + Q.length) old 45 - (P.length + Q.length))) 45))
      (.slice (some ⟨w.heap.size, 0, none⟩) (P.length + Q.length) (grownCap w (P.length + Q.length) old 45)) (P ++ Q) := by
    intro old ho
    have hge := grownCap_ge w (P.length + Q.length) old 45
    have hcm : grownCap w (P.length + Q.length) old 45 ≤ maxLen := grownCap_le_maxLen w (P.length + Q.length) old 45 (by simp only [maxLen]; omega)
    refine ⟨by rw [cellsP_len], .inr ⟨w.heap.size, _, _, by rw [List.length_append], hbase, heap_alloc_new w.drew _, by rw [List.length_append]; exact hge, hcm, ?_, ?_⟩⟩
    · simp only [Array.size_append, List.size_toArray, size_zeroCells, hsz, hlP, hlQ]
      omega
    · rw [cellsP_append, List.length_append]
      simp only [Array.toList_append, List.append_assoc]
      rw [← List.append_assoc]
      have : (cellsP P ++ cellsP Q).length = (P.length + Q.length) * 2 := by rw [List.length_append, hlP, hlQ]; omega
      rw [← this]
      exact List.take_left
  have hkeep : ∀ o, OP base (w.drew.alloc o) v P := fun o => h.below ((Below.refl _ w).drew.alloc (Nat.le_refl _) o)
  have hgrw : ∀ o row, w.grownBy (w.drew.alloc o) row := fun o row => ⟨rfl, rfl, rfl, by simp, fun k hk _ => ((Below.refl w.heap.size w).drew.alloc (Nat.le_refl _) o).block k hk⟩
  obtain ⟨h1, ⟨rfl, h0⟩ | ⟨g, cap, cur, rfl, hg, hh, hle, hcap, hcs, htk⟩⟩ := id h
  · have hP : P = [] := List.eq_nil_of_length_eq_zero h0
    subst hP
    have hr := run_append_nil (P := Tryz.prog) w 26 ty 45 i0 _ Tryz.underlying26 hi hz0 ad Q.length c (cellsP Q) hnews hcell hQ (by omega) (by simp only [List.length_nil, Nat.zero_add] at hb'; omega)
    have hgr := grown 0 (by simpa using hQ)
    simp only [List.length_nil, Nat.zero_add, List.nil_append, show (cellsP []).toArray = (#[] : Array Value) from rfl, Array.empty_append] at hgr ⊢
    exact ⟨_, _, _, hr, hgr, OP.nil _ _, hgrw _ _, .inr rfl⟩
  · by_cases hroom : P.length + Q.length ≤ cap
    · have hfit : P.length * i0.size + (cellsP Q).length ≤ cur.size := by rw [hz1, hcs, hlQ, ← Nat.add_mul]; exact Nat.mul_le_mul_right _ hroom
      have hr := run_append_room (P := Tryz.prog) w 26 ty 45 i0 Tryz.underlying26 hi g P.length cap cur hh ad Q.length c (cellsP Q) hnews hcell cellsP_one hroom hfit
      rw [hz1, htk] at hr
      have hnew := setRow_heap w g cur (cellsP P ++ cellsP Q ++ cur.toList.drop (P.length * 2 + (cellsP Q).length)).toArray 45 (0, 0) hh
      have hsz2 : (cellsP P ++ cellsP Q ++ cur.toList.drop (P.length * 2 + (cellsP Q).length)).toArray.size = cap * 2 := by
        simp only [List.size_toArray, List.length_append, List.length_drop, Array.length_toList, hlP, hlQ, hcs]
        omega
      refine ⟨g, cap, _, hr, ⟨by rw [cellsP_len], .inr ⟨g, cap, _, by rw [List.length_append], hg, hnew, by rw [List.length_append]; exact hroom, hcap, hsz2, ?_⟩⟩, ⟨h1, .inr ⟨g, cap, _, rfl, hg, hnew, hle, hcap, hsz2, ?_⟩⟩, ⟨rfl, rfl, rfl, by simp, fun k _ hk => setRow_other w g k _ (fun e => hk (by simp [Value.ownBlock, e]))⟩, .inl rfl⟩
      · rw [cellsP_append, List.length_append]
        have : (cellsP P ++ cellsP Q).length = (P.length + Q.length) * 2 := by rw [List.length_append, hlP, hlQ]; omega
        rw [← this]
        exact List.take_left
      · show (cellsP P ++ cellsP Q ++ _).take (P.length * 2) = cellsP P
        rw [List.append_assoc, ← hlP]
        exact List.take_left
    · have holds : ∀ j u, (cellsP P)[j]? = some u → w.cell? ((⟨g, 0, none⟩ : Addr).add j) = some u := World.ownsRow.cells (g := g) h rfl
      have hr := run_append_grow (P := Tryz.prog) w 26 ty 45 i0 _ Tryz.underlying26 hi hz0 ⟨g, 0, none⟩ P.length cap (cellsP P) (by rw [hz1]; exact hlP) holds ad Q.length c (cellsP Q) hnews hcell (by omega) (by omega) (growslice_fits (by omega) hb')
      exact ⟨_, _, _, hr, grown cap (by omega), hkeep _, hgrw _ _, .inr rfl⟩
theorem wpList_append_keep {w : World} {ops : Array Oper} {rest : List Oper} {o : Oper} {a : Act} {K : Exit → Act → World → Prop} (hgd : o.guard = none) (s x : Operand)
    (ho : o.op = .call { callee := .builtin .append, args := #[s, x], argTypes := #[26, 26] }) (base : Nat) (v : Value) (P R : List Pt) (hs : a.eval s = v) (h : OP base w v P) (sa : Option Addr) (m c : Nat)
    (hx : a.eval x = .slice sa m c) (hm : m = R.length) (hsrc : ∃ ad, sa = some ad ∧ ∀ j u, (cellsP R)[j]? = some u → w.cell? (ad.add j) = some u) (hR : 0 < R.length) (hbase : base ≤ w.heap.size) (hsize : (P.length + R.length) * 24 ≤ 140737488355328)
    (hK : ∀ g cap w', OP base w' (.slice (some ⟨g, 0, none⟩) (P.length + R.length) cap) (P ++ R) → OP base w' v P → w.grownBy w' v.ownBlock → (v.ownBlock = some g ∨ g = w.heap.size) → wpList Tryz.prog ops K rest (a.put o.dst (.slice (some ⟨g, 0, none⟩) (P.length + R.length) cap)) w') : wpList Tryz.prog ops K (o :: rest) a w := by
  subst hm
  obtain ⟨g, cap, w', hr, h1, h2, h3, h4⟩ := append_keep h o.type sa c hsrc hR hbase hsize
  refine wpList_plain hgd fun K' hK' => ?_
  unfold Oper.wp execOp
  simp only [ho, resolve, invoke, builtin, Sem.run_bind, Sem.run_pure, Result.andThen_ok, List.map_toArray, List.map_cons, List.map_nil, hs, hx, hr]
  exact hK' _ _ (hK g cap w' h1 h2 h3 h4)
end Go.Proofs.YthlmnoggeggpkaaGreat
namespace Go.Proofs.YthlmnoggeggpkaaGreat
open Go.RowKit

def marksP (k n : Nat) : List Pt := (List.range n).map (mkPt k)
theorem marksP_len (k n : Nat) : (marksP k n).length = n := by simp [marksP]
theorem marksP_succ (k n : Nat) : marksP k (n + 1) = marksP k n ++ [mkPt k n] := by simp [marksP, List.range_succ]
theorem marksP_at (k n i : Nat) (h : i < n) : (marksP k n).getD i default = mkPt k i := by
  simp [marksP, List.getD_eq_getElem?_getD, List.getElem?_map, List.getElem?_range h]
theorem marksP_app (k n i : Nat) (R : List Pt) (h : i < n) : (marksP k n ++ R).getD i default = mkPt k i := by
  rw [List.getD_eq_getElem?_getD, List.getElem?_append_left (by rw [marksP_len]; exact h), ← List.getD_eq_getElem?_getD, marksP_at k n i h]
theorem marksP_set (k i : Nat) (F : List Pt) (h : i < F.length) : (marksP k i ++ F.drop i).set i (mkPt k i) = marksP k (i + 1) ++ F.drop (i + 1) := by
  rw [List.set_append_right _ _ (by rw [marksP_len]; exact Nat.le_refl _), marksP_len, Nat.sub_self, List.drop_eq_getElem_cons h, List.set_cons_zero, marksP_succ, List.append_assoc]
  rfl

/-- All stands that lies below block B, or between block N and the call's first own. -/
structure Out (B N : Nat) (w w' : World) : Prop where
  os : w'.os = w.os
  tape : w'.tape = w.tape
  output : w'.output = w.output
  size : w.heap.size ≤ w'.heap.size
  block : ∀ k, k < w.heap.size → (k < B ∨ N ≤ k) → w'.heap[k]? = w.heap[k]?
theorem Out.refl (B N : Nat) (w : World) : Out B N w w := ⟨rfl, rfl, rfl, Nat.le_refl _, fun _ _ _ => rfl⟩
theorem Out.below {B N : Nat} {w a b : World} (h : Out B N w a) (hb : Below a.heap.size a b) : Out B N w b :=
  ⟨hb.os.trans h.os, hb.tape.trans h.tape, hb.output.trans h.output, Nat.le_trans h.size hb.size, fun k hk hh => (hb.block k (Nat.lt_of_lt_of_le hk h.size)).trans (h.block k hk hh)⟩
theorem Out.grown {B N : Nat} {w a b : World} {r : Option Nat} (h : Out B N w a) (hg : a.grownBy b r) (hr : ∀ k, r = some k → (B ≤ k ∧ k < N) ∨ w.heap.size ≤ k) : Out B N w b :=
  ⟨hg.os.trans h.os, hg.tape.trans h.tape, hg.output.trans h.output, Nat.le_trans h.size hg.size, fun k hk hh => (hg.block k (Nat.lt_of_lt_of_le hk h.size) (fun e => by rcases hr k e.symm with h | h <;> omega)).trans (h.block k hk hh)⟩
theorem Out.cell {B N : Nat} {w a : World} (h : Out B N w a) {p : Addr} (h1 : N ≤ p.block) (h2 : p.block < w.heap.size) : a.cell? p = w.cell? p := by
  unfold World.cell?
  rw [h.block p.block h2 (.inr h1)]

/-- K own lists, each of blocks from B on and below N, no two in one block. -/
structure Ap (B N K : Nat) (V : Nat → Value) (G : Nat → List Pt) (w : World) : Prop where
  own : ∀ k, k < K → OP B w (V k) (G k)
  lt : ∀ k, k < K → ∀ b, (V k).ownBlock = some b → b < N
  ap : ∀ j k, j < K → k < K → j ≠ k → ∀ b, (V j).ownBlock = some b → (V k).ownBlock = some b → False
  size : N ≤ w.heap.size
theorem Ap.below {B N K : Nat} {V : Nat → Value} {G : Nat → List Pt} {w w' : World} (h : Ap B N K V G w) (hb : Below w.heap.size w w') : Ap B N K V G w' :=
  ⟨fun k hk => (h.own k hk).below hb, h.lt, h.ap, Nat.le_trans h.size hb.size⟩
theorem Ap.grow {B N K : Nat} {V : Nat → Value} {G : Nat → List Pt} {w w' : World} (h : Ap B N K V G w) {k : Nat} (hk : k < K) (hg : w.grownBy w' (V k).ownBlock) {P : List Pt} (ho : OP B w' (V k) P) : Ap B N K V (fun j => if j = k then P else G j) w' :=
  ⟨fun j hj => by
    show OP B w' (V j) (if j = k then P else G j)
    by_cases e : j = k
    · rw [if_pos e, e]; exact ho
    · rw [if_neg e]
      exact (h.own j hj).keep fun b hb => hg.block b (Nat.lt_of_lt_of_le (h.lt j hj b hb) h.size) (fun e2 => h.ap j k hj hk e b hb e2.symm), h.lt, h.ap, Nat.le_trans h.size hg.size⟩
theorem Ap.new {B N K : Nat} {V : Nat → Value} {G : Nat → List Pt} {w w' : World} (h : Ap B N K V G w) {r : Option Nat} (hg : w.grownBy w' r) (hr : ∀ k, r = some k → N ≤ k) : Ap B N K V G w' :=
  ⟨fun j hj => (h.own j hj).keep fun b hb => hg.block b (Nat.lt_of_lt_of_le (h.lt j hj b hb) h.size) (fun e2 => by have := hr b e2.symm; have := h.lt j hj b hb; omega), h.lt, h.ap, Nat.le_trans h.size hg.size⟩
theorem Ap.congr {B N K : Nat} {V : Nat → Value} {G G' : Nat → List Pt} {w : World} (h : Ap B N K V G w) (e : ∀ k, k < K → G' k = G k) : Ap B N K V G' w :=
  ⟨fun k hk => by rw [e k hk]; exact h.own k hk, h.lt, h.ap, h.size⟩


theorem OP.pre {B g : Nat} {w w' : World} {v u : Value} {P Q : List Pt} (hv : OP B w v P) (hu : OP B w u Q) (e1 : v.ownBlock = some g) (e2 : u.ownBlock = some g) (hQ : P.take Q.length = Q) (hv' : OP B w' v P) : OP B w' u Q := by
  obtain ⟨-, ⟨rfl, -⟩ | ⟨g1, c1, cur1, rfl, hg1, hh1, hle1, hcap1, hsz1, htk1⟩⟩ := hv
  · cases e1
  · cases e1
    obtain ⟨hul, ⟨rfl, -⟩ | ⟨g2, c2, cur2, rfl, hg2, hh2, hle2, hcap2, hsz2, htk2⟩⟩ := hu
    · cases e2
    · cases e2
      rw [hh1] at hh2
      cases hh2
      have ec : c1 = c2 := by omega
      subst ec
      obtain ⟨-, ⟨h, -⟩ | ⟨g3, c3, cur3, h, hg3, hh3, hle3, hcap3, hsz3, htk3⟩⟩ := hv'
      · cases h
      · cases h
        refine ⟨hul, .inr ⟨_, _, _, rfl, hg3, hh3, hle2, hcap3, hsz3, ?_⟩⟩
        have hlQ : Q.length ≤ P.length := by
          rw [← hQ, List.length_take]; omega
        have h1 : cellsP Q = (cellsP P).take (Q.length * 2) := by
          have h3 : cellsP P = cellsP (P.take Q.length) ++ cellsP (P.drop Q.length) := by
            rw [← cellsP_append, List.take_append_drop]
          rw [hQ] at h3
          rw [h3, ← cellsP_len Q, List.take_left]
        rw [h1, ← htk3, List.take_take, Nat.min_eq_left (by omega)]
theorem Ap.keepgrow {B N K : Nat} {V : Nat → Value} {G : Nat → List Pt} {w w' : World} (h : Ap B N K V G w) {k : Nat} (hk : k < K) {v : Value} {P : List Pt} (hv : OP B w v P) (hP : P.take (G k).length = G k)
    (hb : ∀ b, v.ownBlock = some b → (V k).ownBlock = some b ∨ N ≤ b) (hg : w.grownBy w' v.ownBlock) (hv' : OP B w' v P) : Ap B N K V G w' := by
  refine ⟨fun j hj => ?_, h.lt, h.ap, Nat.le_trans h.size hg.size⟩
  by_cases e : ∃ b, v.ownBlock = some b ∧ (V j).ownBlock = some b
  · obtain ⟨b, e1, e2⟩ := e
    have hjk : j = k := by
      rcases hb b e1 with h1 | h1
      · by_cases e3 : j = k
        · exact e3
        · exact absurd h1 (fun h1 => h.ap j k hj hk e3 b e2 h1)
      · have := h.lt j hj b e2; omega
    subst hjk
    exact hv.pre (h.own j hj) e1 e2 hP hv'
  · exact (h.own j hj).keep fun b hb2 => hg.block b (Nat.lt_of_lt_of_le (h.lt j hj b hb2) h.size) (fun e2 => e ⟨b, e2.symm, hb2⟩)

/-- What the slices of lists told: the first k are grown. -/
def Grs (B M gb K : Nat) (V : Nat → Value) (n : Nat → Nat) (L : Nat → List Pt) (k : Nat) (w : World) : Prop :=
  ∃ Vs : List Value, Vs.length = K ∧ w.ownsRow M 26 1 (.slice (some ⟨gb, 0, none⟩) K K) K Vs ∧
    ∀ j, j < k → ∃ g c, Vs[j]? = some (.slice (some ⟨g, 0, none⟩) (n j + 64) c) ∧ OP B w (.slice (some ⟨g, 0, none⟩) (n j + 64) c) (L j) ∧ ((V j).ownBlock = some g ∨ M ≤ g) ∧ g ≠ gb
theorem row_keep {w w' : World} {base g n c m size : Nat} {e : TypeId} {xs : List Value} (h : w.ownsRow base e size (.slice (some ⟨g, 0, none⟩) n c) m xs) (hk : w'.heap[g]? = w.heap[g]?) : w'.ownsRow base e size (.slice (some ⟨g, 0, none⟩) n c) m xs := by
  obtain ⟨e1, ⟨h3, -⟩ | ⟨g', cap, cur, hv, hg, hh, r⟩⟩ := h
  · cases h3
  · cases hv
    exact ⟨e1, .inr ⟨_, _, _, rfl, hg, hk.trans hh, r⟩⟩
theorem row_lt {w : World} {base g n c m size : Nat} {e : TypeId} {xs : List Value} (h : w.ownsRow base e size (.slice (some ⟨g, 0, none⟩) n c) m xs) : base ≤ g ∧ g < w.heap.size := by
  obtain ⟨e1, ⟨h3, -⟩ | ⟨g', cap, cur, hv, hg, hh, r⟩⟩ := h
  · cases h3
  · cases hv
    exact ⟨hg, (Array.getElem?_eq_some_iff.1 hh).1⟩
theorem Grs.keep {B N M gb K : Nat} {V : Nat → Value} {n : Nat → Nat} {L : Nat → List Pt} {G : Nat → List Pt} {k : Nat} {w w' w0 : World} (h : Grs B M gb K V n L k w) (hA : Ap B N K V G w0) (hk : k < K) (hN : N ≤ M)
    (hb : ∀ b, b < w.heap.size → (V k).ownBlock ≠ some b → w'.heap[b]? = w.heap[b]?) : Grs B M gb K V n L k w' := by
  obtain ⟨Vs, h1, h2, h3⟩ := h
  have hfar : ∀ b, M ≤ b → (V k).ownBlock ≠ some b := fun b hM e => by have := hA.lt k hk b e; omega
  refine ⟨Vs, h1, row_keep h2 (hb gb (row_lt h2).2 (hfar gb (row_lt h2).1)), fun j hj => ?_⟩
  obtain ⟨g, c, e1, e2, e3, e4⟩ := h3 j hj
  refine ⟨g, c, e1, e2.keep fun b hb2 => ?_, e3, e4⟩
  cases hb2
  refine hb g (e2.ge g rfl).2 ?_
  rcases e3 with h | h
  · exact fun e => hA.ap j k (by omega) hk (by omega) g h e
  · exact hfar g h
theorem Grs.below {B M gb K : Nat} {V : Nat → Value} {n : Nat → Nat} {L : Nat → List Pt} {k : Nat} {w w' : World} (h : Grs B M gb K V n L k w) (hb : Below w.heap.size w w') : Grs B M gb K V n L k w' := by
  obtain ⟨Vs, h1, h2, h3⟩ := h
  refine ⟨Vs, h1, row_keep h2 (hb.block gb (row_lt h2).2), fun j hj => ?_⟩
  obtain ⟨g, c, e1, e2, e3, e4⟩ := h3 j hj
  exact ⟨g, c, e1, e2.below hb, e3, e4⟩
theorem row_set {w : World} {base g n c m : Nat} {e : TypeId} {xs : List Value} (h : w.ownsRow base e 1 (.slice (some ⟨g, 0, none⟩) n c) m xs) {k : Nat} (hk : k < m) (v : Value) : (w.setCell ⟨g, k, none⟩ v).ownsRow base e 1 (.slice (some ⟨g, 0, none⟩) n c) m (xs.set k v) := by
  obtain ⟨e1, ⟨h3, -⟩ | ⟨g', cap, cur, hv, hg, hh, hle, hcap, hsz, htk⟩⟩ := h
  · cases h3
  · cases hv
    have e2 := heap_setCell_same w g k cur e v hh
    refine ⟨by rw [List.length_set]; exact e1, .inr ⟨g, _, _, rfl, hg, e2, hle, hcap, by simp [hsz], ?_⟩⟩
    rw [← htk]
    simp only [Array.toList_setIfInBounds]
    rw [List.take_set]
theorem Grs.put {B M gb K : Nat} {V : Nat → Value} {n : Nat → Nat} {L : Nat → List Pt} {k : Nat} {w : World} (h : Grs B M gb K V n L k w) (hk : k < K) {g c : Nat} (ho : OP B w (.slice (some ⟨g, 0, none⟩) (n k + 64) c) (L k)) (hg : (V k).ownBlock = some g ∨ M ≤ g) (hne : g ≠ gb) :
    Grs B M gb K V n L (k + 1) (w.setCell ⟨gb, k, none⟩ (.slice (some ⟨g, 0, none⟩) (n k + 64) c)) := by
  obtain ⟨Vs, h1, h2, h3⟩ := h
  have hkeep : ∀ {u : Value} {P : List Pt}, OP B w u P → (∀ b, u.ownBlock = some b → b ≠ gb) → OP B (w.setCell ⟨gb, k, none⟩ (.slice (some ⟨g, 0, none⟩) (n k + 64) c)) u P := fun hu hb => hu.keep fun b e => Below.heap_setCell _ _ _ _ (hb b e)
  refine ⟨Vs.set k (.slice (some ⟨g, 0, none⟩) (n k + 64) c), by rw [List.length_set, h1], row_set h2 hk _, fun j hj => ?_⟩
  by_cases e : j = k
  · subst e
    exact ⟨g, c, by rw [List.getElem?_set_self (by omega)], hkeep ho (fun b e => by cases e; exact hne), hg, hne⟩
  · obtain ⟨g', c', e1, e2, e3, e4⟩ := h3 j (by omega)
    exact ⟨g', c', by rw [List.getElem?_set_ne (fun h => e h.symm)]; exact e1, hkeep e2 (fun b e => by cases e; exact e4), e3, e4⟩
theorem Grs.cell {B M gb K : Nat} {V : Nat → Value} {n : Nat → Nat} {L : Nat → List Pt} {k : Nat} {w : World} (h : Grs B M gb K V n L k w) {j : Nat} (hj : j < k) (hk : j < K) :
    ∃ g c, w.cell? ⟨gb, j, none⟩ = some (.slice (some ⟨g, 0, none⟩) (n j + 64) c) ∧ OP B w (.slice (some ⟨g, 0, none⟩) (n j + 64) c) (L j) := by
  obtain ⟨Vs, h1, h2, h3⟩ := h
  obtain ⟨g, c, e1, e2, -, -⟩ := h3 j hj
  exact ⟨g, c, (h2.cellAt j (by omega)).trans e1, e2⟩
theorem Grs.slot {B M gb K : Nat} {V : Nat → Value} {n : Nat → Nat} {L : Nat → List Pt} {k : Nat} {w : World} (h : Grs B M gb K V n L k w) {j : Nat} (hk : j < K) : (∃ u, w.cell? ⟨gb, j, none⟩ = some u) ∧ w.frozen? ⟨gb, j, none⟩ = false := by
  obtain ⟨Vs, h1, h2, h3⟩ := h
  exact ⟨⟨_, (h2.cellAt j (by omega)).trans (List.getElem?_eq_getElem (by omega))⟩, h2.frozenAt j⟩
theorem grown_one (w : World) (g k : Nat) (v : Value) : w.grownBy (w.setCell ⟨g, k, none⟩ v) (some g) :=
  ⟨rfl, rfl, rfl, by simp [World.setCell], fun b _ hne => Below.heap_setCell _ _ _ _ (fun e => hne (by rw [e]))⟩
theorem marksP_take (k n m : Nat) (h : n ≤ m) : (marksP k m).take n = marksP k n := by
  unfold marksP
  rw [← List.map_take, List.take_range, Nat.min_eq_left h]
theorem Tryz.infoLists : (Tryz.prog.info? 26).map (fun i => (i.zero, i.size, i.bytes)) = some (some (.slice none 0 0), 1, 24) := by kernel_rfl
theorem Ap.split {B N K : Nat} {V : Nat → Value} {G : Nat → List Pt} {w : World} (h : Ap B N K V G w) {k : Nat} (hk : k < K) {nk : Nat} (hn : nk = (G k).length) : ∃ a c, V k = .slice a nk c ∧ nk ≤ c ∧ c ≤ 9223372036854775807 ∧ (0 < nk → ∃ g, a = some ⟨g, 0, none⟩) := by
  have hop := h.own k hk
  by_cases e : V k = .slice none 0 0
  · obtain ⟨h1, ⟨-, h2⟩ | ⟨g, cap, cur, hv, -⟩⟩ := hop
    · exact ⟨none, 0, by rw [e, hn, h2], by omega, by omega, fun h => by omega⟩
    · rw [e] at hv; cases hv
  · obtain ⟨g, c, h1, h2, h3⟩ := hop.form e
    exact ⟨_, c, by rw [hn]; exact h1, by omega, h3, fun _ => ⟨g, rfl⟩⟩
/-- What an append to list k leaves standing. -/
structure Kp (S : Nat) (v : Value) (w w' : World) : Prop where
  size : S ≤ w'.heap.size
  block : ∀ b, b < S → v.ownBlock ≠ some b → w'.heap[b]? = w.heap[b]?
theorem Kp.refl {w : World} {v : Value} : Kp w.heap.size v w w := ⟨Nat.le_refl _, fun _ _ _ => rfl⟩
theorem Kp.below {S : Nat} {v : Value} {w a b : World} (h : Kp S v w a) (hb : Below a.heap.size a b) : Kp S v w b :=
  ⟨Nat.le_trans h.size hb.size, fun k hk hn => (hb.block k (Nat.lt_of_lt_of_le hk h.size)).trans (h.block k hk hn)⟩
theorem Kp.grown {S : Nat} {v : Value} {w a b : World} {r : Option Nat} (h : Kp S v w a) (hg : a.grownBy b r) (hr : ∀ k, r = some k → v.ownBlock = some k ∨ S ≤ k) : Kp S v w b :=
  ⟨Nat.le_trans h.size hg.size, fun k hk hn => (hg.block k (Nat.lt_of_lt_of_le hk h.size) (fun e => by
    rcases hr k e.symm with h1 | h1
    · exact hn h1
    · omega)).trans (h.block k hk hn)⟩
set_option maxRecDepth 100000 in
theorem zeroP : (madeCells (Value.agg #[.string ByteArray.empty, .int .i64 0]).cells (64 * 2)).toList = cellsP (List.replicate 64 ([], 0)) := by kernel_rfl
end Go.Proofs.YthlmnoggeggpkaaGreat
