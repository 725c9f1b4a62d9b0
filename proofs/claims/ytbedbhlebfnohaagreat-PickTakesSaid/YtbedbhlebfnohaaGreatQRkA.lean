/- storemanlaw11.tiny, awake: walks. The document's Pick: the end of its walk. (Printed by gen/rpk.py.) -/
import Derived.Test.YtbedbhlebfnohaaGreatQStK
import Derived.Test.YtbedbhlebfnohaaGreatKKeptIs
namespace Go.Proofs.YtbedbhlebfnohaaGreat
open Go.RowKit Go.Sort Go.Lib Go.Shelf

def tX : List It := [⟨[65], 9, none, 0, [], none, 0, []⟩]
def tL : List LotV := [⟨1, [65], 0, 9, 5, true⟩, ⟨2, [65], 0, 5, 2, true⟩]
def tN : List LineV := [⟨1, [65], 4, 0, 0, 1, 3, [65]⟩]
def tL2 : List LotV := [⟨2, [65], 0, 5, 2, true⟩, ⟨1, [65], 0, 9, 5, true⟩]
def tU : List UseV := [⟨0, 2, 2⟩, ⟨0, 1, 2⟩]
theorem t_srt : srt tL = tL2 := (srt_only (S := tL2) (by decide) (by decide) (by
  refine List.pairwise_cons.2 ⟨fun a ha => ?_, List.pairwise_cons.2 ⟨fun a ha => by simp at ha, List.Pairwise.nil⟩⟩
  simp at ha
  subst ha
  decide)).symm
def tW : List WantV := [⟨[65], 3, 4⟩]
theorem t_day : dayO tW = [0] := (dayO_only (S := [0]) (by simp [tW, List.range_succ]) (List.pairwise_cons.2 ⟨fun a ha => by simp at ha, List.Pairwise.nil⟩)).symm
theorem t_may : mayB tL tW = true := mayB_iff.2 ⟨by decide, by decide, by decide, by decide, by decide⟩
theorem t_fill : ∃ f, fillX tL tW = some (tU, f) := by
  unfold fillX
  rw [if_pos t_may, t_srt, t_day]
  exact ⟨_, rfl⟩
theorem t_line : lineX tN 1 = (((0 : Nat) : Int), true) := by decide
theorem t_parts : partsE tX [65] 4 = 0 := by kernel_rfl
theorem t_end : endL tX [65] 4 = some [([65], 4)] := by kernel_rfl
theorem t_pick : pickX 3 tX tL tN 1 = .ok ([⟨1, [65], 0, 9, 3, true⟩], [⟨1, [65], 4, 0, 0, 2, 3, [65]⟩], tU) := by
  obtain ⟨f, hf⟩ := t_fill
  unfold pickX
  rw [t_line]
  simp only [Int.toNat_natCast]
  rw [if_neg (by decide), if_neg (by decide)]
  have e1 : partsE tX (tN.getD 0 default).code (tN.getD 0 default).qty = 0 := t_parts
  have e2 : endL tX (tN.getD 0 default).code (tN.getD 0 default).qty = some [([65], 4)] := t_end
  rw [e1, e2, if_neg (by decide)]
  have e3 : fillX (hereL tL) (wantsX 3 ((some [([65], (4 : Int))]).getD [])) = some (tU, f) := hf
  rw [e3]
  have e4 : leftL (usum tU) tL = [⟨1, [65], 0, 9, 3, true⟩] := by decide
  simp only [e4]
  rfl
theorem tX_ri {W : World} {g : Nat} (hg : W.heap[g]? = some (.cells #[.string ⟨#[65]⟩, .int .i64 9, .slice none 0 0, .slice none 0 0] 102 (0, 0))) : RI W.heap.size W (some ⟨g, 0, none⟩) 1 1 tX := by
  refine ⟨rfl, Nat.le_refl _, by decide, fun x hx => ?_, fun _ => ⟨g, 0, rfl, (Array.getElem?_eq_some_iff.1 hg).1, fun i hi => ?_⟩⟩
  · unfold tX at hx
    rw [List.mem_singleton.1 hx]
    exact ⟨by decide, by decide, by decide, ⟨rfl, Nat.le_refl _, by decide, (fun p hp => by cases hp), fun h => absurd h (Nat.lt_irrefl _)⟩, ⟨rfl, Nat.le_refl _, by decide, (fun p hp => by cases hp), fun h => absurd h (Nat.lt_irrefl _)⟩⟩
  · obtain rfl : i = 0 := by omega
    unfold World.cell?
    rw [hg]
    exact ⟨rfl, rfl, rfl, rfl⟩
theorem alloc4 (w : World) (A C D E : Obj) : ((((w.alloc A).alloc C).alloc D).alloc E).heap[w.heap.size]? = some A ∧ ((((w.alloc A).alloc C).alloc D).alloc E).heap[w.heap.size + 1]? = some C ∧ ((((w.alloc A).alloc C).alloc D).alloc E).heap[w.heap.size + 1 + 1]? = some D ∧ ((((w.alloc A).alloc C).alloc D).alloc E).heap[w.heap.size + 1 + 1 + 1]? = some E ∧ Below w.heap.size w ((((w.alloc A).alloc C).alloc D).alloc E) := by
  have s1 := World.size_alloc w A
  have s2 := World.size_alloc (w.alloc A) C
  have s3 := World.size_alloc ((w.alloc A).alloc C) D
  refine ⟨?_, ?_, ?_, ?_, (((((Below.refl _ w).alloc (Nat.le_refl _) _).alloc (by omega) _).alloc (by omega) _).alloc (by omega) _)⟩
  · rw [heap_alloc_old _ _ (by omega), heap_alloc_old _ _ (by omega), heap_alloc_old _ _ (by omega)]
    exact heap_alloc_new _ _
  · rw [heap_alloc_old _ _ (by omega), heap_alloc_old _ _ (by omega), ← s1]
    exact heap_alloc_new _ _
  · rw [heap_alloc_old _ _ (by omega), ← s1, ← s2]
    exact heap_alloc_new _ _
  · rw [← s1, ← s2, ← s3]
    exact heap_alloc_new _ _
theorem tL_in {W : World} {g : Nat} (hg : W.heap[g]? = some (.cells #[.int .i64 1, .string ⟨#[65]⟩, .int .i64 0, .int .i64 9, .int .i64 5, .bool true, .int .i64 2, .string ⟨#[65]⟩, .int .i64 0, .int .i64 5, .int .i64 2, .bool true] 46 (0, 0))) : lotE.In W.heap.size W (some ⟨g, 0, none⟩) 2 2 tL := by
  refine ⟨rfl, Nat.le_refl _, by decide, fun x hx => ?_, fun _ => ⟨g, 0, rfl, (Array.getElem?_eq_some_iff.1 hg).1, fun i hi j hj => ?_⟩⟩
  · unfold tL at hx
    rcases List.mem_cons.1 hx with rfl | hx
    · show okLot _; unfold okLot; decide
    · rw [List.mem_singleton.1 hx]; show okLot _; unfold okLot; decide
  · have hj' : j < 6 := hj
    have h1 : i = 0 ∨ i = 1 := by omega
    have h2 : j = 0 ∨ j = 1 ∨ j = 2 ∨ j = 3 ∨ j = 4 ∨ j = 5 := by omega
    unfold World.cell?
    rw [hg]
    rcases h1 with rfl | rfl <;> rcases h2 with rfl | rfl | rfl | rfl | rfl | rfl <;> rfl
theorem tN_in {W : World} {g : Nat} (hg : W.heap[g]? = some (.cells #[.int .i64 1, .string ⟨#[65]⟩, .int .i64 4, .int .i64 0, .int .i64 0, .int .u8 1, .int .i64 3, .string ⟨#[65]⟩] 49 (0, 0))) : lineE.In W.heap.size W (some ⟨g, 0, none⟩) 1 1 tN := by
  refine ⟨rfl, Nat.le_refl _, by decide, fun x hx => ?_, fun _ => ⟨g, 0, rfl, (Array.getElem?_eq_some_iff.1 hg).1, fun i hi j hj => ?_⟩⟩
  · unfold tN at hx
    rw [List.mem_singleton.1 hx]; show okLine _; unfold okLine; decide
  · have hj' : j < 8 := hj
    obtain rfl : i = 0 := by omega
    have h2 : j = 0 ∨ j = 1 ∨ j = 2 ∨ j = 3 ∨ j = 4 ∨ j = 5 ∨ j = 6 ∨ j = 7 := by omega
    unfold World.cell?
    rw [hg]
    rcases h2 with rfl | rfl | rfl | rfl | rfl | rfl | rfl | rfl <;> rfl
set_option maxRecDepth 100000 in
theorem tiny_any (w : World) : Calls Tryz.prog 15 #[] w fun e w' => Below w.heap.size w w' ∧ ∃ g1 g2 g3, e = .returned (.agg #[.int .i64 3, .int .i64 3, .int .i64 2, .slice (some ⟨g1, 0, none⟩) 1 1, .slice (some ⟨g2, 0, none⟩) 2 2, .slice (some ⟨g3, 0, none⟩) 1 1]) ∧ StIn w'.heap.size w' (some ⟨g1, 0, none⟩) 1 1 tX (some ⟨g2, 0, none⟩) 2 2 tL (some ⟨g3, 0, none⟩) 1 1 tN := by
  go_enter Tryz.func15, Tryz.ntmps15
  go_wp2_with (fail)
  obtain ⟨k0, k1, k2, k3, kb⟩ := alloc4 w (.cells #[.int .i64 3, .int .i64 3, .int .i64 2, .slice (some ⟨w.heap.size + 1, 0, none⟩) 1 1, .slice (some ⟨w.heap.size + 1 + 1, 0, none⟩) 2 2, .slice (some ⟨w.heap.size + 1 + 1 + 1, 0, none⟩) 1 1] 26) (.cells #[.string ⟨#[65]⟩, .int .i64 9, .slice none 0 0, .slice none 0 0] 102) (.cells #[.int .i64 1, .string ⟨#[65]⟩, .int .i64 0, .int .i64 9, .int .i64 5, .bool true, .int .i64 2, .string ⟨#[65]⟩, .int .i64 0, .int .i64 5, .int .i64 2, .bool true] 46) (.cells #[.int .i64 1, .string ⟨#[65]⟩, .int .i64 4, .int .i64 0, .int .i64 0, .int .u8 1, .int .i64 3, .string ⟨#[65]⟩] 49)
  refine bodyPost_ret (results_cell_row (P := Tryz.prog) (fn := Tryz.f15) (p := 0) (ty := 26) rfl _ _ w.heap.size 26 _ (0, 0) _ rfl k0 Tryz.underlying26 rfl (by kernel_rfl)) rfl ?_
  exact ⟨kb, _, _, _, rfl, tX_ri k1, tL_in k2, tN_in k3, by decide, by decide, by decide, fun x hx => by unfold tX at hx; rw [List.mem_singleton.1 hx]; exact ⟨by decide, by decide⟩⟩
/-- Can it be gone through in time? -/
def smallB (n1 n2 n3 : Nat) : Bool := decide (n2 ≤ 30) && decide (n3 ≤ 30) && decide (n1 ≤ 12)
theorem small_any (now nl nx : Int) (a1 a2 a3 : Option Addr) (n1 c1 n2 c2 n3 c3 : Nat) (w : World) (_h1 : n1 ≤ c1 ∧ c1 ≤ 9223372036854775807) (_h2 : n2 ≤ c2 ∧ c2 ≤ 9223372036854775807) (_h3 : n3 ≤ c3 ∧ c3 ≤ 9223372036854775807) : Calls Tryz.prog 6 #[.agg #[.int .i64 now, .int .i64 nl, .int .i64 nx, .slice a1 n1 c1, .slice a2 n2 c2, .slice a3 n3 c3]] w fun e w' => e = .returned (.bool (smallB n1 n2 n3)) ∧ Below w.heap.size w w' := by
  generalize hr : smallB n1 n2 n3 = r
  have HQ := Lib.hid hr
  clear hr
  have HB := Lib.hid ((Below.refl w.heap.size w).alloc (Nat.le_refl _) (.cells #[.int .i64 now, .int .i64 nl, .int .i64 nx, .slice a1 n1 c1, .slice a2 n2 c2, .slice a3 n3 c3] 26))
  by_cases k2 : n2 ≤ 30
  · by_cases k3 : n3 ≤ 30
    · by_cases k1 : n1 ≤ 12
      · have E := Lib.hid (show smallB n1 n2 n3 = true by unfold smallB; simp [k1, k2, k3])
        go_enter Tryz.func6, Tryz.ntmps6
        go_wp2_with (fail)
        go_ret
        exact ⟨by rw [← HQ.out, E.out]; first | rfl | (simp; omega), HB.out⟩
      · have E := Lib.hid (show smallB n1 n2 n3 = false by unfold smallB; simp [k1])
        go_enter Tryz.func6, Tryz.ntmps6
        go_wp2_with (fail)
        go_ret
        exact ⟨by rw [← HQ.out, E.out]; first | rfl | (simp; omega), HB.out⟩
    · have E := Lib.hid (show smallB n1 n2 n3 = false by unfold smallB; simp [k3])
      go_enter Tryz.func6, Tryz.ntmps6
      go_wp2_with (fail)
      go_ret
      exact ⟨by rw [← HQ.out, E.out]; first | rfl | (simp; omega), HB.out⟩
  · have E := Lib.hid (show smallB n1 n2 n3 = false by unfold smallB; simp [k2])
    go_enter Tryz.func6, Tryz.ntmps6
    go_wp2_with (fail)
    go_ret
    exact ⟨by rw [← HQ.out, E.out]; first | rfl | (simp; omega), HB.out⟩
set_option maxHeartbeats 4000000 in
set_option maxRecDepth 100000 in
theorem awake_any (w : World) : Calls Tryz.prog 5 #[] w fun e w' => e = .returned (.bool true) ∧ Below w.heap.size w w' := by
  have HT := Lib.hid (tiny_any w)
  have HP := Lib.hid (fun (V : World) (g1 g2 g3 : Nat) (h : StIn V.heap.size V (some ⟨g1, 0, none⟩) 1 1 tX (some ⟨g2, 0, none⟩) 2 2 tL (some ⟨g3, 0, none⟩) 1 1 tN) => by
    have := pick_any V.heap.size 3 3 2 1 _ _ _ _ _ _ _ _ _ _ _ _ V h (Nat.le_refl _) (by decide)
    unfold PickPost at this
    rw [t_pick] at this
    simp only at this
    exact this)
  go_enter Tryz.func5, Tryz.ntmps5
  go_upto_region 2 with (first | (go_at_call 15; refine HT.out.mono ?_; rintro e w1 ⟨hb1, g1, g2, g3, rfl, hs⟩; have HP1 := Lib.hid (HP.out w1 g1 g2 g3 hs); have B1 := Lib.hid hb1; clear hb1 hs) | (go_at_call 8; refine HP1.out.mono ?_; rintro e w2 ⟨hb2, b1, d1, Y, b2, d2, b3, d3, ua, uc, rfl, hso, huo⟩; have B2 := Lib.hid (B1.out.trans (hb2.mono B1.out.size)); have SO := Lib.hid hso; have UO := Lib.hid huo; clear hb2 hso huo))
  obtain ⟨W3, hW3⟩ : ∃ V, V = w2.alloc (.cells #[.int .i64 3, .int .i64 3, .int .i64 2, .slice b1 tX.length d1, .slice b2 1 d2, .slice b3 1 d3] 26) := ⟨_, rfl⟩
  have B3 : Hid (Below w2.heap.size w2 W3) := Lib.hid (by rw [hW3]; exact below_alloc _ _)
  have x4 : W3.cell? ⟨w2.heap.size, 4, none⟩ = some (.slice b2 1 d2) := by rw [hW3]; simp
  have x5 : W3.cell? ⟨w2.heap.size, 5, none⟩ = some (.slice b3 1 d3) := by rw [hW3]; simp
  rw [← hW3]
  clear hW3
  have hU := UO.out.below B3.out
  have hL := SO.out.lots.below B3.out
  have hN := SO.out.lines.below B3.out
  obtain ⟨ua', uc', eU, -, -, hgU⟩ := hU.form
  obtain ⟨ug, hgU⟩ := hgU (by decide)
  injection eU with eU
  rw [hgU] at eU
  subst eU
  obtain ⟨b2', d2', eL, -, -, hgL⟩ := hL.form
  obtain ⟨lg, hgL⟩ := hgL (by decide)
  injection eL with eL
  rw [hgL] at eL
  subst eL
  obtain ⟨b3', d3', eN, -, -, hgN⟩ := hN.form
  obtain ⟨ng, hgN⟩ := hgN (by decide)
  injection eN with eN
  rw [hgN] at eN
  subst eN
  obtain ⟨-, hu1, hu2, -, -, hu3⟩ := hU.cell
  obtain ⟨-, hl1, hl2, -, -, hl3⟩ := hL.cell
  obtain ⟨-, hn1, hn2, -, -, hn3⟩ := hN.cell
  have u0 : W3.cell? ⟨ug, 0, none⟩ = some (.int .i64 0) := hu3 0 (by decide) 0 (by decide)
  have u1 : W3.cell? ⟨ug, 1, none⟩ = some (.int .i64 2) := hu3 0 (by decide) 1 (by decide)
  have u2 : W3.cell? ⟨ug, 2, none⟩ = some (.int .i64 2) := hu3 0 (by decide) 2 (by decide)
  have u3 : W3.cell? ⟨ug, 3, none⟩ = some (.int .i64 0) := hu3 1 (by decide) 0 (by decide)
  have u4 : W3.cell? ⟨ug, 4, none⟩ = some (.int .i64 1) := hu3 1 (by decide) 1 (by decide)
  have u5 : W3.cell? ⟨ug, 5, none⟩ = some (.int .i64 2) := hu3 1 (by decide) 2 (by decide)
  have l4 : W3.cell? ⟨lg, 4, none⟩ = some (.int .i64 3) := hl3 0 (by decide) 4 (by decide)
  have n5 : W3.cell? ⟨ng, 5, none⟩ = some (.int .u8 2) := hn3 0 (by decide) 5 (by decide)
  have q1 : 2 ≤ uc := hu1
  have q2 : 1 ≤ d2 := hl1
  have q3 : 1 ≤ d3 := hn1
  have heq1 : ∀ w : World, (Op.equalIn 10000 42 (.agg #[.int .i64 0, .int .i64 2, .int .i64 2]) (.agg #[.int .i64 0, .int .i64 2, .int .i64 2])).run Tryz.prog w = .ok true w := fun w => by rw [eqUse]; rfl
  have heq2 : ∀ w : World, (Op.equalIn 10000 42 (.agg #[.int .i64 0, .int .i64 1, .int .i64 2]) (.agg #[.int .i64 0, .int .i64 1, .int .i64 2])).run Tryz.prog w = .ok true w := fun w => by rw [eqUse]; rfl
  have HE := Lib.hid (B2.out.trans (B3.out.mono B2.out.size))
  have tu : tU.length = 2 := rfl
  rw [tu]
  clear hU hL hN hu1 hu2 hu3 hl1 hl2 hl3 hn1 hn2 hn3 SO UO HP HP1 HT tu
  go_wp2_with (fail)
  go_ret
  exact ⟨rfl, HE.out⟩
end Go.Proofs.YtbedbhlebfnohaaGreat
namespace Go.Proofs.YtbedbhlebfnohaaGreat
open Go.RowKit Go.Sort Go.Lib Go.Shelf

theorem st_put5 {W : World} {q : Nat} {now nl nx : Int} {u1 u2 u3 : Value} (hq : W.heap[q]? = some (stObj now nl nx u1 u2 u3)) (v : Value) : (W.setCell ⟨q, 5, none⟩ v).heap[q]? = some (stObj now nl nx u1 u2 v) := by
  unfold stObj at *
  simp [setCell_eq, mapBlock, Array.getElem?_modify, hq, onCells]
theorem st_put4 {W : World} {q : Nat} {now nl nx : Int} {u1 u2 u3 : Value} (hq : W.heap[q]? = some (stObj now nl nx u1 u2 u3)) (v : Value) : (W.setCell ⟨q, 4, none⟩ v).heap[q]? = some (stObj now nl nx u1 v u3) := by
  unfold stObj at *
  simp [setCell_eq, mapBlock, Array.getElem?_modify, hq, onCells]
set_option maxHeartbeats 8000000 in
set_option maxRecDepth 100000 in
theorem rk_end (B p q o i : Nat) (now nl nx : Int) (a1 : Option Addr) (n1 c1 : Nat) (a2 : Option Addr) (n2 m2 : Nat) (u2 : Value) (a3 : Option Addr) (n3 c3 : Nat) (N : List LineV) (vu : Value) (W : World) (R : Ending → World → Prop) (ho : W.heap[o]? = some (stObj now nl nx (.slice a1 n1 c1) (.slice a2 n2 m2) (.slice a3 n3 c3))) (hp : W.heap[p]? = some (stObj now nl nx (.slice a1 n1 c1) u2 (.slice a3 n3 c3))) (hq : W.heap[q]? = some (stObj 0 0 0 (.slice none 0 0) (.slice none 0 0) (.slice none 0 0))) (hqo : q ≠ o)
    (hN : lineE.In B W a3 n3 c3 N) (hB : B ≤ W.heap.size) (hi : i < N.length) (hn : n3 ≤ 100000000)
    (hR : ∀ g c' w', (∀ b, b < W.heap.size → b ≠ o → b ≠ q → w'.heap[b]? = W.heap[b]?) → (∀ B0 w0, Below B0 w0 W → B0 ≤ o → B0 ≤ q → Below B0 w0 w') → lineE.Own W.heap.size w' (.slice (some ⟨g, 0, none⟩) N.length c') (N.set i { N.getD i default with st := 2 }) →
      R (.returned (.tuple #[.agg #[.int .i64 now, .int .i64 nl, .int .i64 nx, .slice a1 n1 c1, .slice a2 n2 m2, .slice (some ⟨g, 0, none⟩) N.length c'], vu, .int .i64 0])) w') (s0 s1 s3 s5 s6 s8 s9 s10 s11 s12 s13 s14 s15 s16 s18 s20 s21 s22 s23 s24 s25 s26 s27 s28 s29 s30 s31 s32 s33 s34 s35 s36 s37 s38 s39 s40 s41 s42 s43 s44 s45 s46 s47 s48 s49 s50 s51 s52 s53 s54 s55 s56 s57 s58 s59 s60 s61 s62 s63 s64 s65 s66 s67 s68 s69 s70 s71 s72 s73 s74 s75 s76 s77 s78 s79 s80 s81 s82 s83 s84 s85 s86 s87 s88 s89 s90 s91 s92 s93 s94 s95 s96 s97 s98 s99 s100 s101 s102 s103 s104 s105 s106 s107 s108 s109 s110 s111 s112 s113 s114 s115 s116 s117 s118 s119 s120 s121 s122 s123 s124 s125 s126 s127 s128 s129 s130 s131 s132 s133 s134 s135 s136 s137 s138 s139 s140 s141 s142 s143 s144 s145 s146 s147 s148 s149 s150 s151 s152 s153 s154 s155 s156 s157 s158 s159 s160 s161 s162 s163 s164 s165 s166 s167 s168 s169 s170 s171 s172 s173 s174 s175 s176 s177 s178 s179 s180 s181 s182 s183 s184 s185 s186 s187 s188 s189 s190 s191 s192 s193 s194 s195 s196 s197 s198 s199 : Value) :
    Code.wp Tryz.prog (dropQ 18 (Tryz.f9.body.getD .skip)) (bodyPost Tryz.prog Tryz.f9 R) ⟨List.toArray (s0 :: s1 :: (.pointer (some ⟨p, 0, none⟩)) :: s3 :: (.pointer (some ⟨q, 0, none⟩)) :: s5 :: s6 :: (.int .i64 i) :: s8 :: s9 :: s10 :: s11 :: s12 :: s13 :: s14 :: s15 :: s16 :: vu :: s18 :: (.pointer (some ⟨o, 0, none⟩)) :: s20 :: s21 :: s22 :: s23 :: s24 :: s25 :: s26 :: s27 :: s28 :: s29 :: s30 :: s31 :: s32 :: s33 :: s34 :: s35 :: s36 :: s37 :: s38 :: s39 :: s40 :: s41 :: s42 :: s43 :: s44 :: s45 :: s46 :: s47 :: s48 :: s49 :: s50 :: s51 :: s52 :: s53 :: s54 :: s55 :: s56 :: s57 :: s58 :: s59 :: s60 :: s61 :: s62 :: s63 :: s64 :: s65 :: s66 :: s67 :: s68 :: s69 :: s70 :: s71 :: s72 :: s73 :: s74 :: s75 :: s76 :: s77 :: s78 :: s79 :: s80 :: s81 :: s82 :: s83 :: s84 :: s85 :: s86 :: s87 :: s88 :: s89 :: s90 :: s91 :: s92 :: s93 :: s94 :: s95 :: s96 :: s97 :: s98 :: s99 :: s100 :: s101 :: s102 :: s103 :: s104 :: s105 :: s106 :: s107 :: s108 :: s109 :: s110 :: s111 :: s112 :: s113 :: s114 :: s115 :: s116 :: s117 :: s118 :: s119 :: s120 :: s121 :: s122 :: s123 :: s124 :: s125 :: s126 :: s127 :: s128 :: s129 :: s130 :: s131 :: s132 :: s133 :: s134 :: s135 :: s136 :: s137 :: s138 :: s139 :: s140 :: s141 :: s142 :: s143 :: s144 :: s145 :: s146 :: s147 :: s148 :: s149 :: s150 :: s151 :: s152 :: s153 :: s154 :: s155 :: s156 :: s157 :: s158 :: s159 :: s160 :: s161 :: s162 :: s163 :: s164 :: s165 :: s166 :: s167 :: s168 :: s169 :: s170 :: s171 :: s172 :: s173 :: s174 :: s175 :: s176 :: s177 :: s178 :: s179 :: s180 :: s181 :: s182 :: s183 :: s184 :: s185 :: s186 :: s187 :: s188 :: s189 :: s190 :: s191 :: s192 :: s193 :: s194 :: s195 :: s196 :: s197 :: s198 :: s199 :: []), []⟩ W := by
  have hol : o < W.heap.size := (Array.getElem?_eq_some_iff.1 ho).1
  have hpl : p < W.heap.size := (Array.getElem?_eq_some_iff.1 hp).1
  have hql : q < W.heap.size := (Array.getElem?_eq_some_iff.1 hq).1
  have hnl := hN.len
  subst hnl
  have bW1 : Below W.heap.size W (W.alloc (.cells #[] 49)) := below_alloc _ _
  have hs1 : (W.alloc (.cells #[] 49)).heap.size = W.heap.size + 1 := World.size_alloc _ _
  have hO1 : Hid (lineE.Own W.heap.size (W.alloc (.cells #[] 49)) (.slice (some ⟨W.heap.size, 0, none⟩) 0 0) []) := Lib.hid (by exact El.Own.lit (E := lineE) W [] #[] rfl (Nat.le_refl _) (by decide))
  have y5 : W.cell? ⟨p, 5, none⟩ = some (.slice a3 N.length c3) := (stObj_cells hp).2.2.2.2.2
  have HIN := Lib.hid (hN.below (bW1.mono hB))
  have HG : Hid (∀ w2, (W.alloc (.cells #[] 49)).grownBy w2 (some W.heap.size) → w2.heap[o]? = some (stObj now nl nx (.slice a1 n1 c1) (.slice a2 n2 m2) (.slice a3 N.length c3)) ∧ (∀ b, b < W.heap.size → w2.heap[b]? = W.heap[b]?) ∧ Below W.heap.size W w2) := Lib.hid fun w2 hg => by
    have hk : ∀ b, b < W.heap.size → w2.heap[b]? = W.heap[b]? := fun b hb => (hg.block b (by omega) (fun e => by have := Option.some.inj e; omega)).trans (bW1.block b hb)
    exact ⟨(hk o hol).trans ho, hk, bW1.grown hg bW1.size (fun k e => by have := Option.some.inj e; omega)⟩
  have HQ := Lib.hid hq
  have HR := Lib.hid hR
  have hle := hN.le
  have hmx := hN.mx
  clear ho hp hq hN hR bW1 hs1
  conv => arg 2; whnf
  go_upto_region 45 with (at_builtin; refine El.wpList_append2 lineE rfl _ _ rfl W.heap.size W.heap.size 0 0 [] N rfl hO1.out _ N.length _ rfl rfl HIN.out.src (by rw [World.size_alloc]; omega) (by simp; omega) ?_; intro g2 cc2 w2 hc2 hown2 hg2; obtain ⟨ho2, hk2, hb2⟩ := HG.out w2 hg2; have HO2 := Lib.hid ho2; have HK2 := Lib.hid hk2; have HB2 := Lib.hid hb2; have HOWN := Lib.hid hown2; obtain ⟨x0, x1, x2, x3, x4, x5⟩ := stObj_cells ho2; have f5 := st_frozen ho2 5; clear hg2 hown2 ho2 hk2 hb2)
  have hOW := HOWN.out
  rw [List.nil_append, Nat.zero_add] at hOW
  rw [Nat.zero_add] at hc2
  obtain ⟨w3, hw3⟩ : ∃ V, V = w2.setCell ⟨o, 5, none⟩ (.slice (some ⟨g2, 0, none⟩) N.length cc2) := ⟨_, rfl⟩
  rw [← hw3]
  have hg2W : W.heap.size ≤ g2 := hOW.cell.2.2.2.1
  have ho3 : w3.heap[o]? = some (stObj now nl nx (.slice a1 n1 c1) (.slice a2 n2 m2) (.slice (some ⟨g2, 0, none⟩) N.length cc2)) := by rw [hw3]; exact st_put5 HO2.out _
  have hO3 : lineE.Own W.heap.size w3 (.slice (some ⟨g2, 0, none⟩) N.length cc2) N := by
    rw [hw3]
    exact hOW.keep fun b e => setCell_block _ _ _ _ (by have := (hOW.ge b e).1; omega)
  obtain ⟨-, -, -, -, g2s, hcell⟩ := hO3.cell
  have k1 := hcell i hi 5 (by decide)
  have k2 := own_frozen hO3 (i * 8 + 5)
  have k3 := (stObj_cells ho3).2.2.2.2.2
  change w3.cell? ⟨g2, i * 8 + 5, none⟩ = _ at k1
  have hO4 := own_setCell hO3 i 5 { N.getD i default with st := 2 } (.int .u8 2) hi (by decide) (shLine _)
  change lineE.Own _ (w3.setCell ⟨g2, i * 8 + 5, none⟩ _) _ _ at hO4
  have HK3 : Hid (∀ b, b < W.heap.size → b ≠ o → w3.heap[b]? = W.heap[b]?) := Lib.hid fun b hb hbo => by rw [hw3, setCell_block _ _ _ _ hbo]; exact HK2.out b hb
  have HB3 : Hid (∀ B0 w0, Below B0 w0 W → B0 ≤ o → Below B0 w0 w3) := Lib.hid fun B0 w0 hb hbo => by rw [hw3]; exact below_set (hb.trans (HB2.out.mono (by omega))) _ _ _ hbo
  have HO3 := Lib.hid ho3
  clear hw3 hOW HOWN x0 x1 x2 x3 x4 x5 f5 y5 hcell
  go_upto_region 46 with (fail)
  obtain ⟨w4, hw4⟩ : ∃ V, V = w3.setCell ⟨g2, i * 8 + 5, none⟩ (.int .u8 2) := ⟨_, rfl⟩
  rw [← hw4] at hO4 ⊢
  have ho4 : w4.heap[o]? = some (stObj now nl nx (.slice a1 n1 c1) (.slice a2 n2 m2) (.slice (some ⟨g2, 0, none⟩) N.length cc2)) := by rw [hw4, setCell_block _ _ _ _ (by omega)]; exact HO3.out
  have hq4 : w4.heap[q]? = some (stObj 0 0 0 (.slice none 0 0) (.slice none 0 0) (.slice none 0 0)) := by rw [hw4, setCell_block _ _ _ _ (by omega), HK3.out q hql hqo]; exact HQ.out
  obtain ⟨x0, x1, x2, x3, x4, x5⟩ := stObj_cells ho4
  obtain ⟨f0, f1, f2, f3, f4, f5⟩ := st_frozen6 hq4
  obtain ⟨z0, z1, z2, z3, z4, z5⟩ := stObj_cells hq4
  have hput := st_put hq4 now nl nx (.slice a1 n1 c1) (.slice a2 n2 m2) (.slice (some ⟨g2, 0, none⟩) N.length cc2)
  have HW4 := Lib.hid hw4
  have HO4 := Lib.hid hO4
  clear hw4 hO4 ho4 hq4 k1 k2 k3 hO3 ho3
  go_wp2_with (fail)
  obtain ⟨W9, hW9⟩ : ∃ V, V = put6 w4 q now nl nx (.slice a1 n1 c1) (.slice a2 n2 m2) (.slice (some ⟨g2, 0, none⟩) N.length cc2) := ⟨_, rfl⟩
  have HW9 := Lib.hid hW9
  unfold put6 at hW9
  rw [← hW9] at hput ⊢
  clear hW9
  refine bodyPost_ret (results_cell_tmp2 (P := Tryz.prog) (fn := Tryz.f9) (p := 4) (u := 5) (v := 6) (ty := 26) rfl _ W9 q 26 _ (0, 0) _ rfl hput Tryz.underlying26 rfl (by kernel_rfl)) rfl ?_
  rw [HW9.out]
  refine HR.out g2 cc2 _ (fun b hb hbo hbq => by rw [put6_block _ _ _ _ _ _ _ _ hbq, HW4.out, setCell_block _ _ _ _ (by omega), HK3.out b hb hbo]) (fun B0 w0 hb h1 h2 => put6_below ?_ _ _ _ _ _ _ _ h2) (HO4.out.keep fun b e => put6_block _ _ _ _ _ _ _ _ (by have := (HO4.out.ge b e).1; omega))
  rw [HW4.out]
  exact below_set (HB3.out B0 w0 hb h1) _ _ _ (by omega)
end Go.Proofs.YtbedbhlebfnohaaGreat
