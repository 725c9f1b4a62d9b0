/- The log: Open on a fresh disk. -/
import Derived.Test.YtohlkkannjifmaaGreatDoorOLogF
namespace Go.Proofs.YtohlkkannjifmaaGreatDoor
open Go.RowKit

set_option maxRecDepth 100000 in
theorem sector_cells (w : World) (l : Nat) (f c x : Int) (c1 : w.cell? ⟨l, 1, none⟩ = some (.int .i64 f)) (c2 : w.cell? ⟨l, 2, none⟩ = some (.int .i64 c)) (hf1 : 0 ≤ f) (hf2 : f ≤ 8192) (hc1 : 4 ≤ c) (hc2 : c ≤ 8192) (h1 : 0 ≤ x) (_h2 : x ≤ 2251799813693440) :
    Calls Tryz.prog 71 #[.pointer (some ⟨l, 0, none⟩), .int .i64 x] w fun e w' => e = .returned (.int .i64 (f + x.tmod c)) ∧ w' = w.drew := by
  have hm1 : 0 ≤ x.tmod c := Int.tmod_nonneg _ h1
  have hm2 : x.tmod c < c := Int.tmod_lt_of_pos _ (by omega)
  have e0 : IntKind.i64.wrap (x.tmod c) = x.tmod c := IntWalk.i64_in _ (by omega)
  have e1 : IntKind.i64.wrap (f + x.tmod c) = f + x.tmod c := IntWalk.i64_in _ (by omega)
  have e2 : (c == 0) = false := by simp; omega
  have e3 : ¬ c = 0 := by omega
  go_enter Tryz.func71, Tryz.ntmps71
  go_wp2_with (fail)
  go_still (by kernel_rfl)
  go_wp2_with (fail)
  go_ret
  exact ⟨rfl, rfl⟩
def LK.fresh (c : Int) : LK := ⟨0, c, 1, 1, [⟨0, 1, 0, 0, [], 0, true⟩], []⟩
theorem LK.Ok.fresh {c : Int} (h1 : 4 ≤ c) (h2 : c ≤ 8192) : (LK.fresh c).Ok 0 := by
  refine ⟨by simp [LK.fresh], ⟨0, Int.le_refl _, by omega, fun j s hj => ?_⟩, fun s hs => ?_, by simp [LK.fresh], by simp [LK.fresh], h1, h2, by simp [LK.fresh], by simp [LK.fresh], ?_, by simp [LK.fresh], by simp [LK.fresh], by simp [LK.fresh], fun hw => ?_, fun s hs => ?_⟩
  · match j, hj with
    | 0, hj => cases hj; rfl
  · simp only [LK.fresh, List.mem_singleton] at hs
    subst hs
    simp
  · show ((1 : Nat) : Int) ≤ c - 1
    omega
  · obtain ⟨s, hs, hlt⟩ := hw
    simp only [LK.fresh, List.mem_singleton] at hs
    subst hs
    simp at hlt
  · simp only [LK.fresh, List.mem_singleton] at hs
    subst hs
    simp
def OpenG (d : Nat) (c : Int) (w : World) (e : Ending) (w' : World) : Prop := ∃ l U, e = .returned (.tuple #[.pointer (some ⟨l, 0, none⟩), .int .i64 0]) ∧ LogR w' U l d 0 (LK.fresh c) ∧ Below w.heap.size w w' ∧ ∀ i, U i → w.heap.size ≤ i
set_option maxHeartbeats 4000000 in
set_option maxRecDepth 100000 in
theorem open_fresh (d s o k : Nat) (D : DK) (c : Int) (w : World) (hD : DiskR w d s o k D) (hm : D.may 0 = 0) (hz : D.latest 0 = zB) (h1 : 4 ≤ c) (h2 : c ≤ D.n) :
    Calls Tryz.prog 23 #[.pointer (some ⟨d, 0, none⟩), .int .i64 0, .int .i64 c, .int .i64 1, .int .i64 1] w (OpenG d c w) := by
  have hn1 := hD.ok.n1
  have hn2 := hD.ok.n2
  have HSec : Hid (Calls Tryz.prog 70 #[.pointer (some ⟨d, 0, none⟩)] w fun e w' => e = .returned (.int .i64 D.n) ∧ w' = w) := Lib.hid (sectors_any d s o k D w hD)
  have hc1 : (w.alloc (logObj (LK.fresh c) d (.slice none 0 0) (.slice none 0 0))).cell? ⟨w.heap.size, 1, none⟩ = some (.int .i64 0) := cell_of_row _ _ 1 _ _ _ (heap_alloc_last w _)
  have hc2 : (w.alloc (logObj (LK.fresh c) d (.slice none 0 0) (.slice none 0 0))).cell? ⟨w.heap.size, 2, none⟩ = some (.int .i64 c) := cell_of_row _ _ 2 _ _ _ (heap_alloc_last w _)
  have HS : Hid (Calls Tryz.prog 71 #[.pointer (some ⟨w.heap.size, 0, none⟩), .int .i64 0] (w.alloc (logObj (LK.fresh c) d (.slice none 0 0) (.slice none 0 0))) fun e w' => e = .returned (.int .i64 0) ∧ w' = (w.alloc (logObj (LK.fresh c) d (.slice none 0 0) (.slice none 0 0))).drew) := Lib.hid (by
    have := sector_cells _ w.heap.size 0 c 0 hc1 hc2 (by omega) (by omega) h1 (by omega) (by omega) (by omega)
    rw [Int.zero_tmod, Int.add_zero] at this
    exact this)
  have hB := ((Below.refl w.heap.size w).alloc (Nat.le_refl _) (logObj (LK.fresh c) d (.slice none 0 0) (.slice none 0 0))).drew
  have HRd : Hid (Calls Tryz.prog 34 #[.pointer (some ⟨d, 0, none⟩), .int .i64 0] (w.alloc (logObj (LK.fresh c) d (.slice none 0 0) (.slice none 0 0))).drew fun e w' => ∃ v, e = .returned (.tuple #[v, .int .i64 0]) ∧ OB (w.alloc (logObj (LK.fresh c) d (.slice none 0 0) (.slice none 0 0))).drew.heap.size w' v zB ∧ Below (w.alloc (logObj (LK.fresh c) d (.slice none 0 0) (.slice none 0 0))).drew.heap.size (w.alloc (logObj (LK.fresh c) d (.slice none 0 0) (.slice none 0 0))).drew w') := Lib.hid (by
    refine (dread_any d s o k D 0 _ (hD.keep fun i hi => hB.block i (hD.lt hi)) (by omega) (by omega)).mono ?_
    rintro e w' (⟨h, -⟩ | ⟨-, v, h3, h4, h5⟩)
    · exact absurd hm h
    · exact ⟨v, h3, by rw [← hz]; exact h4, h5⟩)
  have g1 : decide (c < 4) = false := decide_eq_false (by omega)
  have g2 : (D.n == 0) = false := by simp; omega
  have g3 : decide ((0 : Int) > D.n) = false := decide_eq_false (by omega)
  have g4 : decide (c > D.n) = false := decide_eq_false (by omega)
  have g5 : IntKind.i64.wrap D.n = D.n := IntWalk.i64_in _ (by omega)
  have g6 : IntKind.i64.wrap (c - 1) = c - 1 := IntWalk.i64_in _ (by omega)
  have g7 : (0 : Int) < c - 1 := by omega
  have Hcn : Hid (4 ≤ c ∧ c ≤ 8192) := Lib.hid ⟨h1, by omega⟩
  clear hm hz hB hD
  unfold logObj LK.fresh ptr li at *
  simp only at HS HRd hc1 hc2
  generalize D.n = n at *
  go_enter Tryz.func23, Tryz.ntmps23
  go_wp2_with (first | (go_at_call 70; refine HSec.out.mono ?_; rintro e w1 ⟨rfl, hw1⟩; replace hw1 := hw1.symm; subst hw1))
  obtain ⟨W0, hW0⟩ : ∃ W0, W0 = w.alloc (.cells #[.pointer (some ⟨d, 0, none⟩), .int .i64 0, .int .i64 c, .int .i64 1, .int .i64 1, .slice none 0 0, .slice none 0 0] 109) := ⟨_, rfl⟩
  have hX0 : W0.heap[w.heap.size]? = some (.cells #[.pointer (some ⟨d, 0, none⟩), .int .i64 0, .int .i64 c, .int .i64 1, .int .i64 1, .slice none 0 0, .slice none 0 0] 109 (0, 0)) := by rw [hW0]; exact heap_alloc_last w _
  have hB0 : Below w.heap.size w W0 := by rw [hW0]; exact (Below.refl _ _).alloc (Nat.le_refl _) _
  have hs0 : W0.heap.size = w.heap.size + 1 := by rw [hW0, World.size_alloc]
  rw [← hW0] at HS HRd hc1 hc2 ⊢
  have HX0 := Lib.hid hX0
  have HB0 := Lib.hid hB0
  have HS0 := Lib.hid hs0
  have m5 : W0.cell? ⟨w.heap.size, 5, none⟩ = some (.slice none 0 0) := cell_of_row _ _ 5 _ _ _ hX0
  have hlt0 : w.heap.size < W0.heap.size := by omega
  clear hW0 hX0 hB0 hs0
  go_loopw [15] (fun i wr => i = .int .i64 0 ∧ Hid (wr = W0)) (fun _ _ => 0)
  case atStart => exact ⟨rfl, Lib.hid rfl⟩
  case round =>
    obtain ⟨rfl, HW⟩ := hrel
    have hw := HW.out
    subst hw
    clear HW
    go_upto_region 25 with (first | (go_at_call 71; refine HS.out.mono ?_; rintro e w1 ⟨rfl, hw1⟩; subst hw1) | (go_at_call 34; refine HRd.out.mono ?_; rintro e w2 ⟨v2, rfl, ho2, hb2⟩; obtain ⟨a2, d2, rfl, hr2⟩ := ho2.rb (by rw [zB_len]; omega); rw [zB_len] at hr2; rw [zB_len]; have B2 := Lib.hid ((Below.refl _ wr).drew.trans hb2); have HRf := Lib.hid (read_fresh w2.heap.size a2 d2 1 w2 hr2); clear ho2 hb2 hr2) | (go_at_call 72; refine HRf.out.mono ?_; rintro e w3 ⟨rfl, hb3⟩; have B3 := Lib.hid (B2.out.trans (hb3.mono B2.out.size)); have l5 : w3.cell? ⟨w.heap.size, 5, none⟩ = some (.slice none 0 0) := (B3.out.cell (p := ⟨w.heap.size, 5, none⟩) hlt0).trans m5; have X3 := Lib.hid ((B3.out.block _ hlt0).trans HX0.out); clear hb3))
    obtain ⟨i0, hi, hz0, hz1, hz2⟩ := info_parts Tryz.infoU8
    have hmk := run_make (P := Tryz.prog) w3 27 5 i0 _ Tryz.underlying27 hi hz0 .i64 .i64 0 0 (by decide) (by decide) (by rw [hz2]; decide) (by decide)
    rw [hz1] at hmk
    clear hi hz0 hz1 hz2
    go_upto_region 27 with (fail)
    obtain ⟨W5, hW5⟩ : ∃ W5, W5 = ((w3.alloc (.cells (madeCells #[.int .u8 0] 0) 5)).alloc (.cells #[.int .i64 0, .int .i64 1, .int .i64 0, .int .i64 0, .slice (some ⟨w3.heap.size, 0, none⟩) 0 0, .int .i64 0, .bool true] 105)) := ⟨_, rfl⟩
    have hlt3 := lt_of_heap' X3.out
    have hXl : W5.heap[w.heap.size]? = some (logObj (LK.fresh c) d (.slice none 0 0) (.slice none 0 0)) := by
      rw [hW5, alloc_old (by rw [World.size_alloc]; omega), alloc_old hlt3]; exact X3.out
    have hXg : W5.heap[w3.heap.size]? = some (.cells #[] 5 (0, 0)) := by
      rw [hW5, alloc_old (by rw [World.size_alloc]; omega), show madeCells #[Value.int .u8 0] 0 = #[] from Array.ext' (toList_madeCells_one _ _)]; exact heap_alloc_last w3 _
    have hXq : W5.heap[w3.heap.size + 1]? = some (shObj ⟨0, 1, 0, 0, [], 0, true⟩ (.slice (some ⟨w3.heap.size, 0, none⟩) 0 0)) := by
      rw [hW5]
      have := heap_alloc_last (w3.alloc (.cells (madeCells #[.int .u8 0] 0) 5)) (.cells #[.int .i64 0, .int .i64 1, .int .i64 0, .int .i64 0, .slice (some ⟨w3.heap.size, 0, none⟩) 0 0, .int .i64 0, .bool true] 105)
      rw [World.size_alloc] at this
      exact this
    have hBw3 := HB0.out.trans (B3.out.mono (Nat.le_of_lt hlt0))
    have hB5 : Below w.heap.size w W5 := by rw [hW5]; exact ((hBw3.alloc hBw3.size _).alloc (by rw [World.size_alloc]; have := hBw3.size; omega) _)
    rw [← hW5]
    have n5 : W5.cell? ⟨w.heap.size, 5, none⟩ = some (.slice none 0 0) := cell_of_row _ _ 5 _ _ _ hXl
    have XL := Lib.hid hXl
    have XG := Lib.hid hXg
    have XQ := Lib.hid hXq
    have B5 := Lib.hid hB5
    have hg3 : w.heap.size < w3.heap.size := hlt3
    clear hmk hW5 hXl hXg hXq hB5 hBw3 l5 hlt3
    generalize w3.heap.size = g at *
    clear X3 B3 m5 hc1 hc2
    clear HRf B2
    go_wp2_with (first | (at_builtin; refine wpList_append_one rfl _ _ rfl Tryz.underlying106 info_psheet rfl (.slice none 0 0) 0 [] rfl (World.ownsRow_nil _ _ _ _) W5.heap.size _ (ptr (g + 1)) rfl (by simp [go_sem, ptr]) rfl (by omega) ?_; intro v6 w6 ho6 hg6 ha6; obtain ⟨a6, m6, e6, rfl⟩ := own_slice ho6; have L6 := Lib.hid ((hg6.block w.heap.size (Nat.lt_of_lt_of_le (lt_of_heap' XL.out) (by rw [World.size_alloc]; omega)) (by simp [Value.ownBlock])).trans ((alloc_old (lt_of_heap' XL.out)).trans XL.out)); have G6 := Lib.hid ((hg6.block g (Nat.lt_of_lt_of_le (lt_of_heap' XG.out) (by rw [World.size_alloc]; omega)) (by simp [Value.ownBlock])).trans ((alloc_old (lt_of_heap' XG.out)).trans XG.out)); have Q6 := Lib.hid ((hg6.block (g + 1) (Nat.lt_of_lt_of_le (lt_of_heap' XQ.out) (by rw [World.size_alloc]; omega)) (by simp [Value.ownBlock])).trans ((alloc_old (lt_of_heap' XQ.out)).trans XQ.out)); have B6 := Lib.hid ((B5.out.alloc B5.out.size (.cells #[ptr (g + 1)] 100)).grown hg6 (by rw [World.size_alloc]; have := B5.out.size; omega) (fun k e => by cases e)); have O6 := Lib.hid ho6; have A6 := Lib.hid ha6; have f6 : w6.frozen? ⟨w.heap.size, 5, none⟩ = false := (by simp [World.frozen?, L6.out, logObj]); have c6 : w6.cell? ⟨w.heap.size, 5, none⟩ = some (.slice none 0 0) := cell_of_row _ _ 5 _ _ _ L6.out; clear ho6 hg6 ha6))
    go_ret2
    refine ⟨w.heap.size, fun i => w.heap.size ≤ i ∧ i < (w6.setCell ⟨w.heap.size, 5, none⟩ (.slice a6 m6 e6)).heap.size, rfl, ?_, B6.out.setCell (p := ⟨w.heap.size, 5, none⟩) (Nat.le_refl _) _, fun i hi => hi.1⟩
    have hsz : ∀ i, i < w6.heap.size → i < (w6.setCell ⟨w.heap.size, 5, none⟩ (.slice a6 m6 e6)).heap.size := fun i hi => by rw [size_set]; exact hi
    have hl := lt_of_heap' L6.out
    have hg := lt_of_heap' G6.out
    have hq := lt_of_heap' Q6.out
    have hB : w.heap.size ≤ w6.heap.size := B6.out.size
    refine LF.log (sv := .slice a6 m6 e6) (tv := .slice none 0 0) (P := fun _ => g + 1) (V := fun _ => .slice (some ⟨g, 0, none⟩) 0 0) ⟨set_at L6.out 5 _, ?_, World.ownsRow_nil _ _ _ _, fun i hi => ?_, fun i j hi hj hij => ?_, ⟨Nat.le_refl _, hsz _ hl⟩, fun b hb => ?_, fun b hb => (by cases hb), fun i _ => ⟨by omega, hsz _ hq⟩, fun i _ b hb => ?_, fun i hi => hi.2, LK.Ok.fresh Hcn.out.1 Hcn.out.2⟩
    · have : (w6.setCell ⟨w.heap.size, 5, none⟩ (.slice a6 m6 e6)).ownsRow 0 100 1 (.slice a6 m6 e6) (0 + 1) ([] ++ [ptr (g + 1)]) := ownsRow_keep O6.out fun b hb => by
        obtain ⟨cc, hcc⟩ := own_tag O6.out hb
        exact set_ne (fun e => by subst e; exact tag_ne hcc L6.out (by decide))
      exact this
    · have h0 : i = 0 := by
        have : i < 1 := hi
        omega
      subst h0
      exact ⟨(set_ne (by omega)).trans Q6.out, ⟨rfl, .inr ⟨g, 0, #[], rfl, Nat.zero_le _, (set_ne (by omega)).trans G6.out, Nat.le_refl _, by decide, rfl, rfl⟩⟩⟩
    · have h1 : i < 1 := hi
      have h2 : j < 1 := hj
      omega
    · rcases A6.out with e | e
      · rw [e] at hb; cases hb
      · rw [e] at hb
        cases hb
        obtain ⟨cc, hcc⟩ := own_tag O6.out e
        have h1 := lt_of_heap' XQ.out
        refine ⟨?_, hsz _ (lt_of_heap' hcc)⟩
        show w.heap.size ≤ _
        rw [World.size_alloc]
        omega
    · cases hb
      exact ⟨Nat.le_of_lt hg3, hsz _ hg⟩
end Go.Proofs.YtohlkkannjifmaaGreatDoor
