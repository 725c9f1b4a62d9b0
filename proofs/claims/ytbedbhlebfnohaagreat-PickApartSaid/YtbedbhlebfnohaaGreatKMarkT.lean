/- storemanlaw11.tiny, awake: walks. storemankit's bag with lists of states: what it holds, and what stands while its lists are marked. (Plain.) append to a slice of the call's own, as far as the language lets a slice grow. (Printed by gen/txw.py.) Marked texts of any list and place. -/
import Derived.Test.YtbedbhlebfnohaaGreatQStK
import Derived.Test.YtbedbhlebfnohaaGreatTxA
import Derived.Test.YtbedbhlebfnohaaGreatBelowQ
import Derived.Deep.DeepAppendWide
import Derived.Test.YtbedbhlebfnohaaGreatKGraph
namespace Go.Proofs.YtbedbhlebfnohaaGreat
open Go.RowKit Go.Sort Go.Lib Go.Shelf

def tX : List It := [⟨[65], 9, none, 0, [], none, 0, []⟩]
def tL : List LotV := [⟨1, [65], 0, 9, 5, true⟩, ⟨2, [65], 0, 5, 2, true⟩]
def tN : List LineV := [⟨1, [65], 4, 0, 0, 1, 3, [65]⟩]
def tL2 : List LotV := [⟨2, [65], 0, 5, 2, true⟩, ⟨1, [65], 0, 9, 5, true⟩]
def tU : List UseV := [⟨0, 2, 2⟩, ⟨0, 1, 2⟩]
theorem t_srt : srt tL = tL2 := (srt_only (S := tL2) (by decide) (by decide) (by
  refine List.pairwise_cons.2 ⟨fun a ha => ?_, List.pairwise_cons.2 ⟨fun a ha => by simp at ha, List.Pairwise.nil⟩⟩
  simp at ha
  subst ha
  decide)).symm
def tW : List WantV := [⟨[65], 3, 4⟩]
theorem t_day : dayO tW = [0] := (dayO_only (S := [0]) (by simp [tW, List.range_succ]) (List.pairwise_cons.2 ⟨fun a ha => by simp at ha, List.Pairwise.nil⟩)).symm
theorem t_may : mayB tL tW = true := mayB_iff.2 ⟨by decide, by decide, by decide, by decide, by decide⟩
theorem t_fill : ∃ f, fillX tL tW = some (tU, f) := by
  unfold fillX
  rw [if_pos t_may, t_srt, t_day]
  exact ⟨_, rfl⟩
theorem t_line : lineX tN 1 = (((0 : Nat) : Int), true) := by decide
theorem t_parts : partsE tX [65] 4 = 0 := by kernel_rfl
theorem t_end : endL tX [65] 4 = some [([65], 4)] := by kernel_rfl
theorem t_pick : pickX 3 tX tL tN 1 = .ok ([⟨1, [65], 0, 9, 3, true⟩], [⟨1, [65], 4, 0, 0, 2, 3, [65]⟩], tU) := by
  obtain ⟨f, hf⟩ := t_fill
  unfold pickX
  rw [t_line]
  simp only [Int.toNat_natCast]
  rw [if_neg (by decide), if_neg (by decide)]
  have e1 : partsE tX (tN.getD 0 default).code (tN.getD 0 default).qty = 0 := t_parts
  have e2 : endL tX (tN.getD 0 default).code (tN.getD 0 default).qty = some [([65], 4)] := t_end
  rw [e1, e2, if_neg (by decide)]
  have e3 : fillX (hereL tL) (wantsX 3 ((some [([65], (4 : Int))]).getD [])) = some (tU, f) := hf
  rw [e3]
  have e4 : leftL (usum tU) tL = [⟨1, [65], 0, 9, 3, true⟩] := by decide
  simp only [e4]
  rfl
theorem tX_ri {W : World} {g : Nat} (hg : W.heap[g]? = some (.cells #[.string ⟨#[65]⟩, .int .i64 9, .slice none 0 0, .slice none 0 0] 102 (0, 0))) : RI W.heap.size W (some ⟨g, 0, none⟩) 1 1 tX := by
  refine ⟨rfl, Nat.le_refl _, by decide, fun x hx => ?_, fun _ => ⟨g, 0, rfl, (Array.getElem?_eq_some_iff.1 hg).1, fun i hi => ?_⟩⟩
  · unfold tX at hx
    rw [List.mem_singleton.1 hx]
    exact ⟨by decide, by decide, by decide, ⟨rfl, Nat.le_refl _, by decide, (fun p hp => by cases hp), fun h => absurd h (Nat.lt_irrefl _)⟩, ⟨rfl, Nat.le_refl _, by decide, (fun p hp => by cases hp), fun h => absurd h (Nat.lt_irrefl _)⟩⟩
  · obtain rfl : i = 0 := by omega
    unfold World.cell?
    rw [hg]
    exact ⟨rfl, rfl, rfl, rfl⟩
theorem alloc4 (w : World) (A C D E : Obj) : ((((w.alloc A).alloc C).alloc D).alloc E).heap[w.heap.size]? = some A ∧ ((((w.alloc A).alloc C).alloc D).alloc E).heap[w.heap.size + 1]? = some C ∧ ((((w.alloc A).alloc C).alloc D).alloc E).heap[w.heap.size + 1 + 1]? = some D ∧ ((((w.alloc A).alloc C).alloc D).alloc E).heap[w.heap.size + 1 + 1 + 1]? = some E ∧ Below w.heap.size w ((((w.alloc A).alloc C).alloc D).alloc E) := by
  have s1 := World.size_alloc w A
  have s2 := World.size_alloc (w.alloc A) C
  have s3 := World.size_alloc ((w.alloc A).alloc C) D
  refine ⟨?_, ?_, ?_, ?_, (((((Below.refl _ w).alloc (Nat.le_refl _) _).alloc (by omega) _).alloc (by omega) _).alloc (by omega) _)⟩
  · rw [heap_alloc_old _ _ (by omega), heap_alloc_old _ _ (by omega), heap_alloc_old _ _ (by omega)]
    exact heap_alloc_new _ _
  · rw [heap_alloc_old _ _ (by omega), heap_alloc_old _ _ (by omega), ← s1]
    exact heap_alloc_new _ _
  · rw [heap_alloc_old _ _ (by omega), ← s1, ← s2]
    exact heap_alloc_new _ _
  · rw [← s1, ← s2, ← s3]
    exact heap_alloc_new _ _
theorem tL_in {W : World} {g : Nat} (hg : W.heap[g]? = some (.cells #[.int .i64 1, .string ⟨#[65]⟩, .int .i64 0, .int .i64 9, .int .i64 5, .bool true, .int .i64 2, .string ⟨#[65]⟩, .int .i64 0, .int .i64 5, .int .i64 2, .bool true] 46 (0, 0))) : lotE.In W.heap.size W (some ⟨g, 0, none⟩) 2 2 tL := by
  refine ⟨rfl, Nat.le_refl _, by decide, fun x hx => ?_, fun _ => ⟨g, 0, rfl, (Array.getElem?_eq_some_iff.1 hg).1, fun i hi j hj => ?_⟩⟩
  · unfold tL at hx
    rcases List.mem_cons.1 hx with rfl | hx
    · show okLot _; unfold okLot; decide
    · rw [List.mem_singleton.1 hx]; show okLot _; unfold okLot; decide
  · have hj' : j < 6 := hj
    have h1 : i = 0 ∨ i = 1 := by omega
    have h2 : j = 0 ∨ j = 1 ∨ j = 2 ∨ j = 3 ∨ j = 4 ∨ j = 5 := by omega
    unfold World.cell?
    rw [hg]
    rcases h1 with rfl | rfl <;> rcases h2 with rfl | rfl | rfl | rfl | rfl | rfl <;> rfl
theorem tN_in {W : World} {g : Nat} (hg : W.heap[g]? = some (.cells #[.int .i64 1, .string ⟨#[65]⟩, .int .i64 4, .int .i64 0, .int .i64 0, .int .u8 1, .int .i64 3, .string ⟨#[65]⟩] 49 (0, 0))) : lineE.In W.heap.size W (some ⟨g, 0, none⟩) 1 1 tN := by
  refine ⟨rfl, Nat.le_refl _, by decide, fun x hx => ?_, fun _ => ⟨g, 0, rfl, (Array.getElem?_eq_some_iff.1 hg).1, fun i hi j hj => ?_⟩⟩
  · unfold tN at hx
    rw [List.mem_singleton.1 hx]; show okLine _; unfold okLine; decide
  · have hj' : j < 8 := hj
    obtain rfl : i = 0 := by omega
    have h2 : j = 0 ∨ j = 1 ∨ j = 2 ∨ j = 3 ∨ j = 4 ∨ j = 5 ∨ j = 6 ∨ j = 7 := by omega
    unfold World.cell?
    rw [hg]
    rcases h2 with rfl | rfl | rfl | rfl | rfl | rfl | rfl | rfl <;> rfl
set_option maxRecDepth 100000 in
theorem tiny_any (w : World) : Calls Tryz.prog 15 #[] w fun e w' => Below w.heap.size w w' ∧ ∃ g1 g2 g3, e = .returned (.agg #[.int .i64 3, .int .i64 3, .int .i64 2, .slice (some ⟨g1, 0, none⟩) 1 1, .slice (some ⟨g2, 0, none⟩) 2 2, .slice (some ⟨g3, 0, none⟩) 1 1]) ∧ StIn w'.heap.size w' (some ⟨g1, 0, none⟩) 1 1 tX (some ⟨g2, 0, none⟩) 2 2 tL (some ⟨g3, 0, none⟩) 1 1 tN := by
  go_enter Tryz.func15, Tryz.ntmps15
  go_wp2_with (fail)
  obtain ⟨k0, k1, k2, k3, kb⟩ := alloc4 w (.cells #[.int .i64 3, .int .i64 3, .int .i64 2, .slice (some ⟨w.heap.size + 1, 0, none⟩) 1 1, .slice (some ⟨w.heap.size + 1 + 1, 0, none⟩) 2 2, .slice (some ⟨w.heap.size + 1 + 1 + 1, 0, none⟩) 1 1] 26) (.cells #[.string ⟨#[65]⟩, .int .i64 9, .slice none 0 0, .slice none 0 0] 102) (.cells #[.int .i64 1, .string ⟨#[65]⟩, .int .i64 0, .int .i64 9, .int .i64 5, .bool true, .int .i64 2, .string ⟨#[65]⟩, .int .i64 0, .int .i64 5, .int .i64 2, .bool true] 46) (.cells #[.int .i64 1, .string ⟨#[65]⟩, .int .i64 4, .int .i64 0, .int .i64 0, .int .u8 1, .int .i64 3, .string ⟨#[65]⟩] 49)
  refine bodyPost_ret (results_cell_row (P := Tryz.prog) (fn := Tryz.f15) (p := 0) (ty := 26) rfl _ _ w.heap.size 26 _ (0, 0) _ rfl k0 Tryz.underlying26 rfl (by kernel_rfl)) rfl ?_
  exact ⟨kb, _, _, _, rfl, tX_ri k1, tL_in k2, tN_in k3, by decide, by decide, by decide, fun x hx => by unfold tX at hx; rw [List.mem_singleton.1 hx]; exact ⟨by decide, by decide⟩⟩
def smallB (n1 n2 n3 : Nat) : Bool := decide (n2 ≤ 30) && decide (n3 ≤ 30) && decide (n1 ≤ 12)
theorem small_any (now nl nx : Int) (a1 a2 a3 : Option Addr) (n1 c1 n2 c2 n3 c3 : Nat) (w : World) (_h1 : n1 ≤ c1 ∧ c1 ≤ 9223372036854775807) (_h2 : n2 ≤ c2 ∧ c2 ≤ 9223372036854775807) (_h3 : n3 ≤ c3 ∧ c3 ≤ 9223372036854775807) : Calls Tryz.prog 6 #[.agg #[.int .i64 now, .int .i64 nl, .int .i64 nx, .slice a1 n1 c1, .slice a2 n2 c2, .slice a3 n3 c3]] w fun e w' => e = .returned (.bool (smallB n1 n2 n3)) ∧ Below w.heap.size w w' := by
  generalize hr : smallB n1 n2 n3 = r
  have HQ := Lib.hid hr
  clear hr
  have HB := Lib.hid ((Below.refl w.heap.size w).alloc (Nat.le_refl _) (.cells #[.int .i64 now, .int .i64 nl, .int .i64 nx, .slice a1 n1 c1, .slice a2 n2 c2, .slice a3 n3 c3] 26))
  by_cases k2 : n2 ≤ 30
  · by_cases k3 : n3 ≤ 30
    · by_cases k1 : n1 ≤ 12
      · have E := Lib.hid (show smallB n1 n2 n3 = true by unfold smallB; simp [k1, k2, k3])
        go_enter Tryz.func6, Tryz.ntmps6
        go_wp2_with (fail)
        go_ret
        exact ⟨by rw [← HQ.out, E.out]; first | rfl | (simp; omega), HB.out⟩
      · have E := Lib.hid (show smallB n1 n2 n3 = false by unfold smallB; simp [k1])
        go_enter Tryz.func6, Tryz.ntmps6
        go_wp2_with (fail)
        go_ret
        exact ⟨by rw [← HQ.out, E.out]; first | rfl | (simp; omega), HB.out⟩
    · have E := Lib.hid (show smallB n1 n2 n3 = false by unfold smallB; simp [k3])
      go_enter Tryz.func6, Tryz.ntmps6
      go_wp2_with (fail)
      go_ret
      exact ⟨by rw [← HQ.out, E.out]; first | rfl | (simp; omega), HB.out⟩
  · have E := Lib.hid (show smallB n1 n2 n3 = false by unfold smallB; simp [k2])
    go_enter Tryz.func6, Tryz.ntmps6
    go_wp2_with (fail)
    go_ret
    exact ⟨by rw [← HQ.out, E.out]; first | rfl | (simp; omega), HB.out⟩
set_option maxHeartbeats 4000000 in
set_option maxRecDepth 100000 in
theorem awake_any (w : World) : Calls Tryz.prog 5 #[] w fun e w' => e = .returned (.bool true) ∧ Below w.heap.size w w' := by
  have HT := Lib.hid (tiny_any w)
  have HP := Lib.hid (fun (V : World) (g1 g2 g3 : Nat) (h : StIn V.heap.size V (some ⟨g1, 0, none⟩) 1 1 tX (some ⟨g2, 0, none⟩) 2 2 tL (some ⟨g3, 0, none⟩) 1 1 tN) => by
    have := pick_any V.heap.size 3 3 2 1 _ _ _ _ _ _ _ _ _ _ _ _ V h (Nat.le_refl _) (by decide)
    unfold PickPost at this
    rw [t_pick] at this
    simp only at this
    exact this)
  go_enter Tryz.func5, Tryz.ntmps5
  go_upto_region 2 with (first | (go_at_call 15; refine HT.out.mono ?_; rintro e w1 ⟨hb1, g1, g2, g3, rfl, hs⟩; have HP1 := Lib.hid (HP.out w1 g1 g2 g3 hs); have B1 := Lib.hid hb1; clear hb1 hs) | (go_at_call 8; refine HP1.out.mono ?_; rintro e w2 ⟨hb2, b1, d1, Y, b2, d2, b3, d3, ua, uc, rfl, hso, huo⟩; have B2 := Lib.hid (B1.out.trans (hb2.mono B1.out.size)); have SO := Lib.hid hso; have UO := Lib.hid huo; clear hb2 hso huo))
  obtain ⟨W3, hW3⟩ : ∃ V, V = w2.alloc (.cells #[.int .i64 3, .int .i64 3, .int .i64 2, .slice b1 tX.length d1, .slice b2 1 d2, .slice b3 1 d3] 26) := ⟨_, rfl⟩
  have B3 : Hid (Below w2.heap.size w2 W3) := Lib.hid (by rw [hW3]; exact below_alloc _ _)
  have x4 : W3.cell? ⟨w2.heap.size, 4, none⟩ = some (.slice b2 1 d2) := by rw [hW3]; simp
  have x5 : W3.cell? ⟨w2.heap.size, 5, none⟩ = some (.slice b3 1 d3) := by rw [hW3]; simp
  rw [← hW3]
  clear hW3
  have hU := UO.out.below B3.out
  have hL := SO.out.lots.below B3.out
  have hN := SO.out.lines.below B3.out
  obtain ⟨ua', uc', eU, -, -, hgU⟩ := hU.form
  obtain ⟨ug, hgU⟩ := hgU (by decide)
  injection eU with eU
  rw [hgU] at eU
  subst eU
  obtain ⟨b2', d2', eL, -, -, hgL⟩ := hL.form
  obtain ⟨lg, hgL⟩ := hgL (by decide)
  injection eL with eL
  rw [hgL] at eL
  subst eL
  obtain ⟨b3', d3', eN, -, -, hgN⟩ := hN.form
  obtain ⟨ng, hgN⟩ := hgN (by decide)
  injection eN with eN
  rw [hgN] at eN
  subst eN
  obtain ⟨-, hu1, hu2, -, -, hu3⟩ := hU.cell
  obtain ⟨-, hl1, hl2, -, -, hl3⟩ := hL.cell
  obtain ⟨-, hn1, hn2, -, -, hn3⟩ := hN.cell
  have u0 : W3.cell? ⟨ug, 0, none⟩ = some (.int .i64 0) := hu3 0 (by decide) 0 (by decide)
  have u1 : W3.cell? ⟨ug, 1, none⟩ = some (.int .i64 2) := hu3 0 (by decide) 1 (by decide)
  have u2 : W3.cell? ⟨ug, 2, none⟩ = some (.int .i64 2) := hu3 0 (by decide) 2 (by decide)
  have u3 : W3.cell? ⟨ug, 3, none⟩ = some (.int .i64 0) := hu3 1 (by decide) 0 (by decide)
  have u4 : W3.cell? ⟨ug, 4, none⟩ = some (.int .i64 1) := hu3 1 (by decide) 1 (by decide)
  have u5 : W3.cell? ⟨ug, 5, none⟩ = some (.int .i64 2) := hu3 1 (by decide) 2 (by decide)
  have l4 : W3.cell? ⟨lg, 4, none⟩ = some (.int .i64 3) := hl3 0 (by decide) 4 (by decide)
  have n5 : W3.cell? ⟨ng, 5, none⟩ = some (.int .u8 2) := hn3 0 (by decide) 5 (by decide)
  have q1 : 2 ≤ uc := hu1
  have q2 : 1 ≤ d2 := hl1
  have q3 : 1 ≤ d3 := hn1
  have heq1 : ∀ w : World, (Op.equalIn 10000 42 (.agg #[.int .i64 0, .int .i64 2, .int .i64 2]) (.agg #[.int .i64 0, .int .i64 2, .int .i64 2])).run Tryz.prog w = .ok true w := fun w => by rw [eqUse]; rfl
  have heq2 : ∀ w : World, (Op.equalIn 10000 42 (.agg #[.int .i64 0, .int .i64 1, .int .i64 2]) (.agg #[.int .i64 0, .int .i64 1, .int .i64 2])).run Tryz.prog w = .ok true w := fun w => by rw [eqUse]; rfl
  have HE := Lib.hid (B2.out.trans (B3.out.mono B2.out.size))
  have tu : tU.length = 2 := rfl
  rw [tu]
  clear hU hL hN hu1 hu2 hu3 hl1 hl2 hl3 hn1 hn2 hn3 SO UO HP HP1 HT tu
  go_wp2_with (fail)
  go_ret
  exact ⟨rfl, HE.out⟩
end Go.Proofs.YtbedbhlebfnohaaGreat
namespace Go.Proofs.YtbedbhlebfnohaaGreat.Tx
open Go.RowKit

structure Bg where
  tx : List Value
  lo : List Value
  pa : List Value
  it : List Value
  li : List Value
  st : List Value
def Bg.at (b : Bg) (i : Nat) : List Value := if i = 3 then b.tx else if i = 6 then b.lo else if i = 9 then b.pa else if i = 10 then b.it else if i = 11 then b.li else if i = 14 then b.st else []
def slotT (i : Nat) : TypeId := if i = 3 then 100 else if i = 6 then 23 else if i = 9 then 55 else if i = 10 then 22 else if i = 11 then 24 else 38
def Bg.nil : Bg := ⟨[], [], [], [], [], []⟩
def Bg.items (b : Bg) (v : Value) (X : List It) : Bg := { b with it := b.it ++ [v], pa := b.pa ++ X.map It.pv, tx := b.tx ++ X.map It.ov }
def Bg.states (b : Bg) (v v1 v2 v3 : Value) (X : List It) : Bg := { ({ b with st := b.st ++ [v] } : Bg).items v1 X with lo := b.lo ++ [v2], li := b.li ++ [v3] }
theorem slotT_ne {i j : Nat} (hi : i = 3 ∨ i = 6 ∨ i = 9 ∨ i = 10 ∨ i = 11 ∨ i = 14) (hj : j = 3 ∨ j = 6 ∨ j = 9 ∨ j = 10 ∨ j = 11 ∨ j = 14) (hne : i ≠ j) : slotT i ≠ slotT j := by
  rcases hi with rfl | rfl | rfl | rfl | rfl | rfl <;> rcases hj with rfl | rfl | rfl | rfl | rfl | rfl <;> first | exact absurd rfl hne | decide
theorem Bg.at_kind {b : Bg} {i : Nat} (h : b.at i ≠ []) : i = 3 ∨ i = 6 ∨ i = 9 ∨ i = 10 ∨ i = 11 ∨ i = 14 := by
  unfold Bg.at at h
  repeat (split at h; · omega)
  exact absurd rfl h
def Bag (z : Nat) (w : World) (b : Bg) : Prop := ∃ cs : Array Value, w.heap[z]? = some (.cells cs 98) ∧ cs.size = 23 ∧ ∀ i, i < 23 → ∃ u, cs[i]? = some u ∧ w.ownsRow (z + 1) (slotT i) 1 u (b.at i).length (b.at i) ∧ (b.at i = [] → u = .slice none 0 0)
theorem Bag.lt {z : Nat} {w : World} {b : Bg} (h : Bag z w b) : z < w.heap.size := by
  obtain ⟨cs, hh, -⟩ := h
  exact (Array.getElem?_eq_some_iff.1 hh).1
theorem slotT_not {t : TypeId} (h3 : 100 ≠ t) (h6 : 23 ≠ t) (h9 : 55 ≠ t) (h10 : 22 ≠ t) (h11 : 24 ≠ t) (h14 : 38 ≠ t) : ∀ i, slotT i ≠ t := fun i => by
  unfold slotT
  repeat (split; · assumption)
  assumption
structure Bs (z : Nat) (w w' : World) : Prop where
  below : Below z w w'
  keep : ∀ (k : Nat) (c : Array Value) (t : TypeId) (f : Nat × Nat), w.heap[k]? = some (.cells c t f) → k ≠ z → (∀ i, slotT i ≠ t) → w'.heap[k]? = some (.cells c t f)
theorem Bs.trans {z : Nat} {a b c : World} (h : Bs z a b) (k : Bs z b c) : Bs z a c := ⟨h.below.trans k.below, fun i o t f h1 h2 h3 => k.keep i o t f (h.keep i o t f h1 h2 h3) h2 h3⟩
theorem Bs.of_below {z : Nat} {a b : World} (h : Below a.heap.size a b) (hz : z ≤ a.heap.size) : Bs z a b := ⟨h.mono hz, fun i _o _t _f h1 _ _ => (h.block i (Array.getElem?_eq_some_iff.1 h1).1).trans h1⟩
theorem Bag.below {z : Nat} {w w' : World} {b : Bg} (h : Bag z w b) (hb : Below w.heap.size w w') : Bag z w' b := by
  have hlt := h.lt
  obtain ⟨cs, hh, hs, hall⟩ := h
  exact ⟨cs, (hb.block z hlt).trans hh, hs, fun i hi => by obtain ⟨u, h1, h2, h3⟩ := hall i hi; exact ⟨u, h1, rows_below h2 hb, h3⟩⟩
theorem Bag.put {z : Nat} {w w1 : World} {b b' : Bg} {cs c0 : Array Value} {s : Nat} {u v v' : Value} {t0 : TypeId} (hz : w.heap[z]? = some (.cells cs 98)) (hs : cs.size = 23)
    (hall : ∀ i, i < 23 → ∃ u, cs[i]? = some u ∧ w.ownsRow (z + 1) (slotT i) 1 u (b.at i).length (b.at i) ∧ (b.at i = [] → u = .slice none 0 0)) (hk : s = 3 ∨ s = 6 ∨ s = 9 ∨ s = 10 ∨ s = 11 ∨ s = 14) (hu : cs[s]? = some u)
    (hg : (w.alloc (.cells c0 t0)).grownBy w1 u.ownBlock) (ho : w1.ownsRow (z + 1) (slotT s) 1 v' ((b.at s).length + 1) (b.at s ++ [v])) (hb : b'.at s = b.at s ++ [v]) (hb2 : ∀ j, j ≠ s → b'.at j = b.at j) :
    Bag z (w1.setCell ⟨z, s, none⟩ v') b' ∧ Bs z w (w1.setCell ⟨z, s, none⟩ v') := by
  have hzlt : z < w.heap.size := (Array.getElem?_eq_some_iff.1 hz).1
  have hs23 : s < 23 := by omega
  obtain ⟨u', hu', hr, hn⟩ := hall s hs23
  rw [hu] at hu'
  cases hu'
  have hge := rows_ge hr
  have e1 : w1.heap[z]? = w.heap[z]? := (hg.block z (by rw [World.size_alloc]; omega) (fun e => by have := (hge z e.symm).1; omega)).trans (Below.heap_alloc _ _ _ hzlt)
  have hh2 := heap_setCell_same w1 z s cs 98 v' (e1.trans hz)
  refine ⟨⟨_, hh2, by simp [hs], fun i hi => ?_⟩, ⟨(((Below.refl z w).alloc (Nat.le_of_lt hzlt) _).grown hg (by rw [World.size_alloc]; omega) (fun k e => by have := (hge k e).1; omega)).setCell (Nat.le_refl z) _, fun k c t f h1 h2 h3 => ?_⟩⟩
  rotate_left
  · rw [Below.heap_setCell _ _ _ _ (by simpa using h2)]
    have hk1 := (Array.getElem?_eq_some_iff.1 h1).1
    refine ((hg.block k (by rw [World.size_alloc]; omega) (fun e => ?_)).trans (Below.heap_alloc _ _ _ hk1)).trans h1
    obtain ⟨c2, k2⟩ := row_is hr e.symm
    rw [h1] at k2
    cases k2
    exact h3 s rfl
  by_cases e : i = s
  · subst e
    refine ⟨v', by rw [Array.getElem?_setIfInBounds_self_of_lt (by omega)], ?_, fun h => ?_⟩
    · rw [hb, List.length_append]
      exact rows_keep ho (fun b e => Below.heap_setCell _ _ _ _ (by have := (rows_ge ho b e).1; simp only; omega))
    · rw [hb] at h
      exact absurd h (by simp)
  · obtain ⟨ui, hui, hri, hni⟩ := hall i hi
    refine ⟨ui, by rw [Array.getElem?_setIfInBounds_ne (fun h => e h.symm)]; exact hui, ?_, by rw [hb2 i e]; exact hni⟩
    rw [hb2 i e]
    by_cases h0 : b.at i = []
    · rw [hni h0, h0]
      exact World.ownsRow_nil _ _ _ _
    · refine rows_keep hri fun g hgi => ?_
      have hgi2 := rows_ge hri g hgi
      rw [Below.heap_setCell _ _ _ _ (by simp only; omega)]
      refine (hg.block g (by rw [World.size_alloc]; omega) (fun e2 => ?_)).trans (Below.heap_alloc _ _ _ hgi2.2)
      obtain ⟨c1, k1⟩ := row_is hri hgi
      obtain ⟨c2, k2⟩ := row_is hr e2.symm
      rw [k1] at k2
      have k3 := congrArg (fun o => match o with | some (Obj.cells _ t _) => t | _ => 0) k2
      exact slotT_ne (Bg.at_kind h0) hk e k3

structure Sd (es : List TypeId) (B : Nat) (w w' : World) : Prop where
  os : w'.os = w.os
  tape : w'.tape = w.tape
  output : w'.output = w.output
  size : w.heap.size ≤ w'.heap.size
  block : ∀ k o, w.heap[k]? = some o → (k < B ∨ ∀ e ∈ es, isC e o = false) → w'.heap[k]? = some o
theorem Sd.refl (es : List TypeId) (B : Nat) (w : World) : Sd es B w w := ⟨rfl, rfl, rfl, Nat.le_refl _, fun _ _ h _ => h⟩
theorem Sd.below {es : List TypeId} {B : Nat} {w a b : World} (h : Sd es B w a) (hb : Below a.heap.size a b) : Sd es B w b :=
  ⟨hb.os.trans h.os, hb.tape.trans h.tape, hb.output.trans h.output, Nat.le_trans h.size hb.size, fun k o h1 h2 => by
    have := h.block k o h1 h2
    rw [hb.block k (Array.getElem?_eq_some_iff.1 this).1, this]⟩
theorem Sd.out {es : List TypeId} {B N K cs : Nat} {e : TypeId} {T : World → List Value → Nat → Nat → Prop} {V : Nat → Value} {n I : Nat → Nat} {w a b : World} (h : Sd es B w a) (hA : Ap e cs T B N K V n I a) (ho : Out K V a b) : Sd (e :: es) B w b :=
  ⟨ho.os.trans h.os, ho.tape.trans h.tape, ho.output.trans h.output, Nat.le_trans h.size ho.size, fun k o h1 h2 => by
    have h3 := h.block k o h1 (h2.elim .inl fun h2 => .inr fun x hx => h2 x (List.mem_cons_of_mem _ hx))
    rw [ho.block k (Array.getElem?_eq_some_iff.1 h3).1 (fun j hj hk => ?_), h3]
    obtain ⟨X, hr, -⟩ := hA.own j hj
    have hge := rows_ge hr k hk
    obtain ⟨cur, hc⟩ := row_is hr hk
    rcases h2 with h2 | h2
    · omega
    · rw [h3] at hc
      cases hc
      have := h2 e (List.mem_cons_self ..)
      rw [isC_self] at this
      cases this⟩
theorem Sd.more {es : List TypeId} {B : Nat} {w a : World} (h : Sd es B w a) (e : TypeId) : Sd (e :: es) B w a :=
  ⟨h.os, h.tape, h.output, h.size, fun k o h1 h2 => h.block k o h1 (h2.elim .inl fun h2 => .inr fun x hx => h2 x (List.mem_cons_of_mem _ hx))⟩
theorem isC_ne {e t : TypeId} (c : Array Value) (f : Nat × Nat) (h : e ≠ t) : isC e (.cells c t f) = false := by
  simp only [isC, beq_eq_false_iff_ne]
  exact fun e => h e.symm
theorem Sd.row {es : List TypeId} {B M s n : Nat} {t : TypeId} {v : Value} {X : List Value} {w a : World} (h : Sd es B w a) (hr : w.ownsRow M t s v n X) (hne : ∀ x ∈ es, x ≠ t) : a.ownsRow M t s v n X :=
  rows_keep hr fun b hb => by
    obtain ⟨cur, hc⟩ := row_is hr hb
    rw [hc, h.block b _ hc (.inr fun x hx => isC_ne _ _ (hne x hx))]
theorem Sd.ap {es : List TypeId} {B N K cs : Nat} {e le : TypeId} {T : World → List Value → Nat → Nat → Prop} {V : Nat → Value} {n : Nat → Nat} {w a : World} (h : Sd es B w a) (hA : Ap e cs T B N K V n (fun _ => 0) w) (st : Stab e le T) (hne : ∀ x ∈ es, x ≠ e) : Ap e cs T B N K V n (fun _ => 0) a :=
  ⟨fun k hk => by
    obtain ⟨X, h1, -⟩ := hA.own k hk
    exact ⟨X, h.row h1 hne, st.zero _ _ _⟩, hA.lt, hA.ap, Nat.le_trans hA.size h.size⟩
theorem Sd.toBelow {es : List TypeId} {B : Nat} {w a : World} (h : Sd es B w a) (hB : B ≤ w.heap.size) : Below B w a :=
  ⟨h.os, h.tape, h.output, h.size, fun k hk => by
    obtain ⟨o, ho⟩ : ∃ o, w.heap[k]? = some o := ⟨_, Array.getElem?_eq_getElem (Nat.lt_of_lt_of_le hk hB)⟩
    rw [h.block k o ho (.inl hk), ho]⟩
theorem Sd.cell {es : List TypeId} {B z : Nat} {cs : Array Value} {t : TypeId} {w a : World} (h : Sd es B w a) (hz : w.heap[z]? = some (.cells cs t)) (hne : ∀ x ∈ es, x ≠ t) {i : Nat} {u : Value} (hu : cs[i]? = some u) : a.cell? ⟨z, i, none⟩ = some u := by
  have := h.block z _ hz (.inr fun x hx => isC_ne _ _ (hne x hx))
  rw [cell_of_row a z i _ _ _ this]
  exact hu

def slLen : Value → Nat | .slice _ n _ => n | _ => 0
theorem own_slLen {M s n : Nat} {t : TypeId} {v : Value} {X : List Value} {w : World} (h : w.ownsRow M t s v n X) : slLen v = n := by
  obtain ⟨a, c, rfl, -⟩ := rows_form h
  rfl
structure Apl (e : TypeId) (cs : Nat) (Pn : Nat → Prop) (B N : Nat) (w : World) (Vs : List Value) : Prop where
  own : ∀ v ∈ Vs, ∃ n X, w.ownsRow B e cs v n X ∧ Pn n
  lt : ∀ v ∈ Vs, ∀ b, v.ownBlock = some b → b < N
  ap : Vs.Pairwise fun v v' => ∀ b, v.ownBlock = some b → v'.ownBlock = some b → False
section
variable {e : TypeId} {cs : Nat} {Pn : Nat → Prop} {B N M : Nat} {w w' : World} {Vs Us : List Value}
theorem Apl.nil : Apl e cs Pn B N w [] := ⟨fun _ h => (by cases h), fun _ h => (by cases h), .nil⟩
theorem Apl.one {v : Value} {n : Nat} {X : List Value} (h : w.ownsRow B e cs v n X) (hp : Pn n) (hN : w.heap.size ≤ N) : Apl e cs Pn B N w [v] :=
  ⟨fun u hu => by cases List.mem_singleton.1 hu; exact ⟨n, X, h, hp⟩, fun u hu b hb => by cases List.mem_singleton.1 hu; have := (rows_ge h b hb).2; omega, List.pairwise_singleton _ _⟩
theorem Apl.below (h : Apl e cs Pn B N w Vs) (hb : Below w.heap.size w w') : Apl e cs Pn B N w' Vs :=
  ⟨fun v hv => by obtain ⟨n, X, h1, h2⟩ := h.own v hv; exact ⟨n, X, rows_below h1 hb, h2⟩, h.lt, h.ap⟩
theorem Apl.append (h : Apl e cs Pn B M w Vs) (k : Apl e cs Pn M N w Us) (hBM : B ≤ M) (hMN : M ≤ N) : Apl e cs Pn B N w (Vs ++ Us) :=
  ⟨fun v hv => by
    rcases List.mem_append.1 hv with hv | hv
    · exact h.own v hv
    · obtain ⟨n, X, h1, h2⟩ := k.own v hv
      exact ⟨n, X, rows_mono h1 hBM, h2⟩, fun v hv b hb => by
    rcases List.mem_append.1 hv with hv | hv
    · exact Nat.lt_of_lt_of_le (h.lt v hv b hb) hMN
    · exact k.lt v hv b hb, List.pairwise_append.2 ⟨h.ap, k.ap, fun v hv u hu b e1 e2 => by
      obtain ⟨n, X, h1, -⟩ := k.own u hu
      have := (rows_ge h1 b e2).1
      have := h.lt v hv b e1
      omega⟩⟩
theorem Apl.ap' {le : TypeId} {T : World → List Value → Nat → Nat → Prop} (h : Apl e cs Pn B N w Vs) (st : Stab e le T) (hN : N ≤ w.heap.size) : Ap e cs T B N Vs.length (fun k => Vs.getD k (.slice none 0 0)) (fun k => slLen (Vs.getD k (.slice none 0 0))) (fun _ => 0) w := by
  have hm : ∀ k, k < Vs.length → Vs.getD k (.slice none 0 0) ∈ Vs := fun k hk => by
    rw [List.getD_eq_getElem?_getD, List.getElem?_eq_getElem hk]; exact List.getElem_mem _
  refine ⟨fun k hk => ?_, fun k hk => h.lt _ (hm k hk), fun j k hj hk hne b e1 e2 => ?_, hN⟩
  · obtain ⟨n, X, h1, -⟩ := h.own _ (hm k hk)
    refine ⟨X, ?_, st.zero _ _ _⟩
    show w.ownsRow B e cs _ (slLen _) X
    rw [own_slLen h1]; exact h1
  · have hp := List.pairwise_iff_getElem.1 h.ap
    have ej : Vs.getD j (.slice none 0 0) = Vs[j] := by rw [List.getD_eq_getElem?_getD, List.getElem?_eq_getElem hj]; rfl
    have ek : Vs.getD k (.slice none 0 0) = Vs[k] := by rw [List.getD_eq_getElem?_getD, List.getElem?_eq_getElem hk]; rfl
    simp only [ej, ek] at e1 e2
    rcases Nat.lt_or_ge j k with hjk | hjk
    · exact hp j k hj hk hjk b e1 e2
    · exact hp k j hk hj (by omega) b e2 e1
theorem Apl.pn (h : Apl e cs Pn B N w Vs) : ∀ k, k < Vs.length → Pn (slLen (Vs.getD k (.slice none 0 0))) := fun k hk => by
  have hm : Vs.getD k (.slice none 0 0) ∈ Vs := by
    rw [List.getD_eq_getElem?_getD, List.getElem?_eq_getElem hk]; exact List.getElem_mem _
  obtain ⟨n, X, h1, h2⟩ := h.own _ hm
  rw [own_slLen h1]; exact h2
end
end Go.Proofs.YtbedbhlebfnohaaGreat.Tx
namespace Go.Proofs.YtbedbhlebfnohaaGreat.Tx
open Go.RowKit

theorem append_keepCW {P : Program} {w : World} {base n m cs : Nat} {v : Value} {X Q : List Value} (t ty e : TypeId) (i0 : TypeInfo) (z : Value) (hu : P.underlying t = some (.slice e)) (hi : P.info? e = some i0) (hz0 : i0.zero = some z) (hz1 : i0.size = cs) (hzc : z.cells.size = cs)
    (h : w.ownsRow base e cs v n X) (sa : Option Addr) (c : Nat) (hsrc : ∃ ad, sa = some ad ∧ ∀ j u, Q[j]? = some u → w.cell? (ad.add j) = some u) (hone : ∀ u ∈ Q, u.oneCell' = true)
    (hQ : Q.length = m * cs) (hm : 0 < m) (hbase : base ≤ w.heap.size) (hsize : ((n + m) + (n + m) / 4 + 192) * i0.bytes ≤ 281474976710656) (hcnt : n + m ≤ 140737488355328) :
    ∃ g cap w', (Builtin.append_ #[t, t] ty #[v, .slice sa m c]).run P w = .ok (.slice (some ⟨g, 0, none⟩) (n + m) cap) w' ∧ w'.ownsRow base e cs (.slice (some ⟨g, 0, none⟩) (n + m) cap) (n + m) (X ++ Q) ∧ w'.ownsRow base e cs v n X ∧
      w.grownBy w' v.ownBlock ∧ (v.ownBlock = some g ∨ g = w.heap.size) := by
  obtain ⟨ad, rfl, hcell⟩ := hsrc
  have hlX := h.1
  have hnews : Q.length = m * i0.size := by rw [hz1]; exact hQ
  have hall : (X ++ Q).length = (n + m) * cs := by rw [List.length_append, hlX, hQ, Nat.add_mul]
  have grown : ∀ old, old < n + m → (w.drew.alloc (.cells (X.toArray ++ Q.toArray ++ Builtin.zeroCells z.cells (grownCap w (n + m) old e - (n + m))) e)).ownsRow base e cs
      (.slice (some ⟨w.heap.size, 0, none⟩) (n + m) (grownCap w (n + m) old e)) (n + m) (X ++ Q) := by
    intro old ho
    have hge := grownCap_ge w (n + m) old e
    have hcm : grownCap w (n + m) old e ≤ maxLen := grownCap_le_maxLen w (n + m) old e (by simp only [maxLen]; omega)
    refine ⟨hall, .inr ⟨w.heap.size, _, _, rfl, hbase, heap_alloc_new w.drew _, hge, hcm, ?_, ?_⟩⟩
    · simp only [Array.size_append, List.size_toArray, size_zeroCells, hzc, hlX, hQ]
      rw [← Nat.add_mul, ← Nat.add_mul]
      congr 1
      omega
    · simp only [Array.toList_append]
      rw [← hall]
      exact List.take_left
  have hkeep : ∀ o, (w.drew.alloc o).ownsRow base e cs v n X := fun o => rows_below h ((Below.refl _ w).drew.alloc (Nat.le_refl _) o)
  have hgrw : ∀ o row, w.grownBy (w.drew.alloc o) row := fun o row => ⟨rfl, rfl, rfl, by simp, fun k hk _ => ((Below.refl w.heap.size w).drew.alloc (Nat.le_refl _) o).block k hk⟩
  obtain ⟨h1, ⟨rfl, h0⟩ | ⟨g, cap, cur, rfl, hg, hh, hle, hcap, hcs, htk⟩⟩ := id h
  · subst h0
    have hX : X = [] := List.eq_nil_of_length_eq_zero (by rw [h1]; simp)
    subst hX
    have hr := run_append_nil (P := P) w t ty e i0 _ hu hi hz0 ad m c Q hnews hcell hm (by omega) (Nat.le_trans (Nat.mul_le_mul_right _ (by omega)) hsize)
    have hgr := grown 0 (by omega)
    simp only [Nat.zero_add, List.nil_append, Array.empty_append] at hgr ⊢
    exact ⟨_, _, _, hr, hgr, World.ownsRow_nil _ _ _ _, hgrw _ _, .inr rfl⟩
  · by_cases hroom : n + m ≤ cap
    · have hfit : n * i0.size + Q.length ≤ cur.size := by rw [hz1, hcs, hQ, ← Nat.add_mul]; exact Nat.mul_le_mul_right _ hroom
      have hr := run_append_room (P := P) w t ty e i0 hu hi g n cap cur hh ad m c Q hnews hcell hone hroom hfit
      rw [hz1, htk] at hr
      have hnew := setRow_heap w g cur (X ++ Q ++ cur.toList.drop (n * cs + Q.length)).toArray e (0, 0) hh
      have hle2 : n * cs + Q.length ≤ cap * cs := by rw [hQ, ← Nat.add_mul]; exact Nat.mul_le_mul_right _ hroom
      have hsz2 : (X ++ Q ++ cur.toList.drop (n * cs + Q.length)).toArray.size = cap * cs := by
        simp only [List.size_toArray, List.length_append, List.length_drop, Array.length_toList, hlX, hcs]
        omega
      refine ⟨g, cap, _, hr, ⟨hall, .inr ⟨g, cap, _, rfl, hg, hnew, hroom, hcap, hsz2, ?_⟩⟩, ⟨h1, .inr ⟨g, cap, _, rfl, hg, hnew, hle, hcap, hsz2, ?_⟩⟩, ⟨rfl, rfl, rfl, by simp, fun k _ hk => setRow_other w g k _ (fun e => hk (by simp [Value.ownBlock, e]))⟩, .inl rfl⟩
      · rw [← hall]
        exact List.take_left
      · show (X ++ Q ++ _).take (n * cs) = X
        rw [List.append_assoc, ← hlX]
        exact List.take_left
    · have holds : ∀ j u, X[j]? = some u → w.cell? ((⟨g, 0, none⟩ : Addr).add j) = some u := World.ownsRow.cells (g := g) h rfl
      have hr := run_append_grow (P := P) w t ty e i0 _ hu hi hz0 ⟨g, 0, none⟩ n cap X (by rw [hz1]; exact hlX) holds ad m c Q hnews hcell (by omega) (by omega) (growslice_fits_wide (by omega) hsize)
      exact ⟨_, _, _, hr, grown cap (by omega), hkeep _, hgrw _ _, .inr rfl⟩
theorem wpList_append_keepCW {P : Program} {w : World} {ops : Array Oper} {rest : List Oper} {o : Oper} {a : Act} {K : Exit → Act → World → Prop} (hgd : o.guard = none) (s x : Operand) (t : TypeId)
    (ho : o.op = .call { callee := .builtin .append, args := #[s, x], argTypes := #[t, t] }) (e : TypeId) (i0 : TypeInfo) (z : Value) {base n m cs : Nat} {v : Value} {X Q : List Value} (hu : P.underlying t = some (.slice e)) (hi : P.info? e = some i0) (hz0 : i0.zero = some z) (hz1 : i0.size = cs) (hzc : z.cells.size = cs)
    (hs : a.eval s = v) (h : w.ownsRow base e cs v n X) (sa : Option Addr) (c : Nat)
    (hx : a.eval x = .slice sa m c) (hsrc : ∃ ad, sa = some ad ∧ ∀ j u, Q[j]? = some u → w.cell? (ad.add j) = some u) (hone : ∀ u ∈ Q, u.oneCell' = true) (hQ : Q.length = m * cs) (hm : 0 < m) (hbase : base ≤ w.heap.size) (hsize : ((n + m) + (n + m) / 4 + 192) * i0.bytes ≤ 281474976710656) (hcnt : n + m ≤ 140737488355328)
    (hK : ∀ g cap w', w'.ownsRow base e cs (.slice (some ⟨g, 0, none⟩) (n + m) cap) (n + m) (X ++ Q) → w'.ownsRow base e cs v n X → w.grownBy w' v.ownBlock → (v.ownBlock = some g ∨ g = w.heap.size) → wpList P ops K rest (a.put o.dst (.slice (some ⟨g, 0, none⟩) (n + m) cap)) w') : wpList P ops K (o :: rest) a w := by
  obtain ⟨g, cap, w', hr, h1, h2, h3, h4⟩ := append_keepCW t o.type e i0 z hu hi hz0 hz1 hzc h sa c hsrc hone hQ hm hbase hsize hcnt
  refine wpList_plain hgd fun K' hK' => ?_
  unfold Oper.wp execOp
  simp only [ho, resolve, invoke, builtin, Sem.run_bind, Sem.run_pure, Result.andThen_ok, List.map_toArray, List.map_cons, List.map_nil, hs, hx, hr]
  exact hK' _ _ (hK g cap w' h1 h2 h3 h4)
end Go.Proofs.YtbedbhlebfnohaaGreat.Tx
namespace Go.Proofs.YtbedbhlebfnohaaGreat
open Go.RowKit

def b8 (x : Nat) : UInt8 := UInt8.ofNat (x % 256)
theorem b8_nat (x : Nat) : ((b8 x).toNat : Int) = (x : Int) % 256 := by
  unfold b8
  rw [UInt8.toNat_ofNat']
  omega
def mkT (k i : Nat) : List UInt8 := [35, b8 k, b8 (k / 256), b8 (k / 65536), 47, b8 i, b8 (i / 256), b8 (i / 65536)]
set_option maxHeartbeats 4000000 in
set_option maxRecDepth 100000 in
theorem markT_any (k i : Nat) (w : World) (_hk : k ≤ 1000000000) (_hi : i ≤ 1125899906842624) :
    Calls Tryz.prog 126 #[.int .i64 (k : Int), .int .i64 (i : Int)] w fun e w' => e = .returned (.string ⟨(mkT k i).toArray⟩) ∧ Below w.heap.size w w' := by
  have HB := Lib.hid (fun c : Array Value => (Below.refl w.heap.size w).alloc (Nat.le_refl _) (.cells c 5))
  have hcv : (convert 186 9 (.slice (some ⟨w.heap.size, 0, none⟩) 8 8)).run Tryz.prog (w.alloc (.cells #[.int .u8 35, .int .u8 ((k : Int) % 256), .int .u8 ((k : Int) / 256 % 256), .int .u8 ((k : Int) / 65536 % 256), .int .u8 47, .int .u8 ((i : Int) % 256), .int .u8 ((i : Int) / 256 % 256), .int .u8 ((i : Int) / 65536 % 256)] 5)) = .ok (.string ⟨#[35, b8 k, b8 (k / 256), b8 (k / 65536), 47, b8 i, b8 (i / 256), b8 (i / 65536)]⟩) (w.alloc (.cells #[.int .u8 35, .int .u8 ((k : Int) % 256), .int .u8 ((k : Int) / 256 % 256), .int .u8 ((k : Int) / 65536 % 256), .int .u8 47, .int .u8 ((i : Int) % 256), .int .u8 ((i : Int) / 256 % 256), .int .u8 ((i : Int) / 65536 % 256)] 5)) := by
    have h := conv8 w 35 (b8 k) (b8 (k / 256)) (b8 (k / 65536)) 47 (b8 i) (b8 (i / 256)) (b8 (i / 65536))
    rw [b8_nat, b8_nat, b8_nat, b8_nat, b8_nat, b8_nat, Int.natCast_ediv, Int.natCast_ediv, Int.natCast_ediv, Int.natCast_ediv] at h
    exact h
  go_enter Tryz.func126, Tryz.ntmps126
  go_wp2_with (fail)
  go_ret
  exact ⟨rfl, HB.out _⟩
end Go.Proofs.YtbedbhlebfnohaaGreat
