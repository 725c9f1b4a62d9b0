/- pick.Pick: its walk. (Printed by gen/pk.py.) The walk of storemankit.KeptItems. -/
import Derived.Test.YtbedbhlebfnohaaGreatJOver
import Derived.Test.YtbedbhlebfnohaaGreatJRef
import Derived.Test.YtbedbhlebfnohaaGreatKLentI
import Derived.Test.YtbedbhlebfnohaaGreatBelowQ
namespace Go.Proofs.YtbedbhlebfnohaaGreat
open Go.RowKit Go.Sort Go.Lib Go.Shelf

/-- What pick.Pick ends with. -/
def PickPost (w : World) (now nl nx : Int) (X : List It) (L : List LotV) (N : List LineV) (id : Int) (e : Ending) (w' : World) : Prop := Below w.heap.size w w' ∧ match pickX now X L N id with
  | .error er => e = .returned (.tuple #[.agg #[.int .i64 0, .int .i64 0, .int .i64 0, .slice none 0 0, .slice none 0 0, .slice none 0 0], .slice none 0 0, .int .i64 er])
  | .ok (L', N', U) => ∃ a1 c1 Y a2 c2 a3 c3 ua uc, e = .returned (.tuple #[.agg #[.int .i64 now, .int .i64 nl, .int .i64 nx, .slice a1 X.length c1, .slice a2 L'.length c2, .slice a3 N'.length c3], .slice ua U.length uc, .int .i64 0]) ∧ StOwn w.heap.size w' (.slice a1 X.length c1) (.slice a2 L'.length c2) (.slice a3 N'.length c3) X Y L' N' ∧ useE.Own w.heap.size w' (.slice ua U.length uc) U
theorem lineX_true {X : List LineV} {id : Int} (h : (lineX X id).2 = true) : ∃ i : Nat, i < X.length ∧ lineX X id = ((i : Int), true) ∧ (X.getD i default).st = 1 := by
  unfold lineX at *
  split at h
  · cases h
  · rename_i hc
    rw [if_neg hc]
    rcases idxI_form (fun x : LineV => decide (x.id = id)) X with hi | ⟨j, hj, hi⟩
    · exact absurd (.inl (by rw [hi]; decide)) hc
    · rw [hi] at h ⊢
      have h' : decide ((X.getD j default).st = 1) = true := h
      exact ⟨j, hj, by rw [← h']; rfl, by simpa using h'⟩
set_option maxHeartbeats 8000000 in
set_option maxRecDepth 100000 in
theorem pick_any (B : Nat) (now nl nx id : Int) (a1 : Option Addr) (n1 c1 : Nat) (X : List It) (a2 : Option Addr) (n2 c2 : Nat) (L : List LotV) (a3 : Option Addr) (n3 c3 : Nat) (N : List LineV) (w : World) (h : StIn B w a1 n1 c1 X a2 n2 c2 L a3 n3 c3 N) (hB : B ≤ w.heap.size) (hnow : -9223372036854775808 ≤ now ∧ now ≤ 9223372036854775807) :
    Calls Tryz.prog 8 #[.agg #[.int .i64 now, .int .i64 nl, .int .i64 nx, .slice a1 n1 c1, .slice a2 n2 c2, .slice a3 n3 c3], .int .i64 id] w fun e w' => PickPost w now nl nx X L N id e w' := by
  obtain ⟨W0, hW0⟩ : ∃ V, V = (w.alloc (.cells #[.int .i64 now, .int .i64 nl, .int .i64 nx, .slice a1 n1 c1, .slice a2 n2 c2, .slice a3 n3 c3] 26)).alloc (.cells #[.int .i64 0, .int .i64 0, .int .i64 0, .slice none 0 0, .slice none 0 0, .slice none 0 0] 26) := ⟨_, rfl⟩
  have HB0 : Hid (Below w.heap.size w W0) := Lib.hid (by rw [hW0]; exact ((Below.refl _ w).alloc (Nat.le_refl _) _).alloc (by rw [World.size_alloc]; omega) _)
  have hs0 : W0.heap.size = w.heap.size + 2 := by rw [hW0, World.size_alloc, World.size_alloc]
  have hp0 : W0.heap[w.heap.size]? = some (stObj now nl nx (.slice a1 n1 c1) (.slice a2 n2 c2) (.slice a3 n3 c3)) := by
    rw [hW0, ((Below.refl (w.heap.size + 1) (w.alloc _)).alloc (by rw [World.size_alloc]; omega) _).block w.heap.size (by omega)]
    exact heap_alloc_new _ _
  have hq0 : Hid (W0.heap[w.heap.size + 1]? = some (stObj 0 0 0 (.slice none 0 0) (.slice none 0 0) (.slice none 0 0))) := Lib.hid (by
    rw [hW0]
    have := heap_alloc_new (w.alloc (.cells #[.int .i64 now, .int .i64 nl, .int .i64 nx, .slice a1 n1 c1, .slice a2 n2 c2, .slice a3 n3 c3] 26)) (stObj 0 0 0 (.slice none 0 0) (.slice none 0 0) (.slice none 0 0))
    rw [World.size_alloc] at this
    exact this)
  obtain ⟨y0, y1, y2, y3, y4, y5⟩ := stObj_cells hp0
  have HL := Lib.hid (pline_any B now nl nx a1 a2 n1 c1 n2 c2 a3 n3 c3 N id W0 (h.lines.below (HB0.out.mono hB)) (Nat.le_trans hB HB0.out.size))
  have HQ := Lib.hid (fun (V : World) (hb : Below W0.heap.size W0 V) => (hb.block (w.heap.size + 1) (by omega)).trans hq0.out)
  have HP := Lib.hid (fun (V : World) (hb : Below W0.heap.size W0 V) => (hb.block w.heap.size (by omega)).trans hp0)
  have H := Lib.hid h
  have HW0 := Lib.hid hW0
  have hle3 := h.lines.le; have hmx3 := h.lines.mx
  have HN3 := Lib.hid h.lines.len
  clear hW0 h hp0 hq0
  cases hok : (lineX N id).2 with
  | false =>
    have E := Lib.hid (show pickX now X L N id = .error 157 by unfold pickX; rw [if_pos hok])
    rw [hok] at HL
    clear hok
    generalize (lineX N id).1 = at0 at HL
    go_enter Tryz.func8, Tryz.ntmps8
    go_upto_region 1 with (fail)
    rw [← HW0.out]
    go_wp2_with (go_at_call 19; refine HL.out.mono ?_; rintro e w9 ⟨rfl, hb9⟩; have B9 := Lib.hid hb9; have hqT := HQ.out (w9.alloc (.cells #[.int .i64 at0] 3)) (hb9.trans ((below_alloc _ _).mono hb9.size)); obtain ⟨f0, f1, f2, f3, f4, f5⟩ := st_frozen6 hqT; obtain ⟨z0, z1, z2, z3, z4, z5⟩ := stObj_cells hqT; have HQT := Lib.hid hqT; clear hqT hb9)
    have hput := st_put HQT.out 0 0 0 (.slice none 0 0) (.slice none 0 0) (.slice none 0 0)
    obtain ⟨W9, hW9⟩ : ∃ V, V = put6 (w9.alloc (.cells #[.int .i64 at0] 3)) (w.heap.size + 1) 0 0 0 (.slice none 0 0) (.slice none 0 0) (.slice none 0 0) := ⟨_, rfl⟩
    have HW9 := Lib.hid hW9
    unfold put6 at hW9
    rw [← hW9] at hput ⊢
    clear hW9
    refine bodyPost_ret (results_cell_tmp2 (P := Tryz.prog) (fn := Tryz.f8) (p := 4) (u := 5) (v := 6) (ty := 26) rfl _ W9 (w.heap.size + 1) 26 _ (0, 0) _ rfl hput Tryz.underlying26 rfl (by kernel_rfl)) rfl ?_
    rw [HW9.out]
    unfold PickPost
    rw [E.out]
    exact ⟨put6_below (HB0.out.trans ((B9.out.trans ((below_alloc _ _).mono B9.out.size)).mono (by omega))) _ _ _ _ _ _ _ (by omega), rfl⟩
  | true =>
    obtain ⟨i, hi, hlx, hst⟩ := lineX_true hok
    rw [hlx] at HL
    simp only at HL
    have HLX := Lib.hid hlx
    have HI := Lib.hid hi
    have hi3 : i < n3 := by rw [HN3.out]; exact hi
    clear hok hlx hst hi
    obtain ⟨b3, o3, rfl, hb3, -⟩ := lineE_at H.out.lines (by omega)
    have HC : Hid (∀ V, Below W0.heap.size W0 V → V.cell? ⟨b3, o3 + i * 8 + 6, none⟩ = some (.int .i64 (N.getD i default).day)) := Lib.hid fun V hb => by
      obtain ⟨b', o', e', -, hc⟩ := lineE_at (H.out.lines.below ((HB0.out.trans (hb.mono (by omega))).mono hB)) (by omega)
      cases e'
      exact (hc i hi3).2.2.2.2.2.2.1
    have HT : Hid (∀ w9, Below W0.heap.size W0 w9 → Below W0.heap.size W0 (w9.alloc (.cells #[.int .i64 i] 3)) ∧ (w9.alloc (.cells #[.int .i64 i] 3)).cell? ⟨w9.heap.size, 0, none⟩ = some (.int .i64 i)) := Lib.hid fun w9 hb => ⟨hb.trans ((below_alloc _ _).mono hb.size), by simp⟩
    by_cases hd : (N.getD i default).day = now
    · have E := Lib.hid (show pickX now X L N id = if partsE X (N.getD i default).code (N.getD i default).qty ≠ 0 then .error 159 else match fillX (hereL L) (wantsX now ((endL X (N.getD i default).code (N.getD i default).qty).getD [])) with | none => .error 159 | some (U, _) => .ok (leftL (usum U) L, N.set i { N.getD i default with st := 2 }, U) from by
        unfold pickX
        rw [HLX.out]
        simp only [Int.toNat_natCast]
        rw [if_neg (by decide), if_neg (fun h => h hd)]
        rfl)
      rw [hd] at HC
      clear hd
      go_enter Tryz.func8, Tryz.ntmps8
      go_upto_region 1 with (fail)
      rw [← HW0.out]
      go_wp2_with (go_at_call 19; refine HL.out.mono ?_; rintro e w9 ⟨rfl, hb9⟩; obtain ⟨hbA, k9⟩ := HT.out w9 hb9; have BA := Lib.hid hbA; have x5 := (stObj_cells (HP.out _ hbA)).2.2.2.2.2; have x0 := (stObj_cells (HP.out _ hbA)).1; have x6 := HC.out _ hbA; clear hb9 hbA)
      go_quiet (fail)
      have bD := Lib.hid (BA.out.trans (drewN_below (w9.alloc (.cells #[.int .i64 (i : Int)] 3)) nq _))
      have bWD := Lib.hid (HB0.out.trans (bD.out.mono (by omega)))
      have hsz : Hid (w9.heap.size < ((w9.alloc (.cells #[.int .i64 (i : Int)] 3)).drewN nq).heap.size ∧ w.heap.size + 2 ≤ ((w9.alloc (.cells #[.int .i64 (i : Int)] 3)).drewN nq).heap.size) := Lib.hid ⟨by show w9.heap.size < (w9.alloc _).heap.size; rw [World.size_alloc]; omega, by have := bD.out.size; omega⟩
      have HPQ : Hid (((w9.alloc (.cells #[.int .i64 (i : Int)] 3)).drewN nq).heap[w.heap.size]? = _ ∧ ((w9.alloc (.cells #[.int .i64 (i : Int)] 3)).drewN nq).heap[w.heap.size + 1]? = _ ∧ ((w9.alloc (.cells #[.int .i64 (i : Int)] 3)).drewN nq).cell? ⟨w9.heap.size, 0, none⟩ = some (.int .i64 (i : Int))) := Lib.hid ⟨HP.out _ bD.out, HQ.out _ bD.out, k9⟩
      iterate 6 go_step
      refine pk_parts B w.heap.size (w.heap.size + 1) w9.heap.size i now nl nx a1 n1 c1 X a2 n2 c2 L (some ⟨b3, o3, none⟩) n3 c3 N _ _ (H.out.below (bWD.out.mono hB)) (Nat.le_trans hB bWD.out.size) HPQ.out.1 HPQ.out.2.1 HPQ.out.2.2 hsz.out.1 HI.out hnow ?_ ?_ _ _ _ _ _ _ _ _ _ _ _ _ _ _ _ _ _ _ _ _ _ _ _ _ _ _ _ _ _ _ _ _ _ _ _ _ _ _ _ _ _ _ _ _ _ _ _ _ _ _ _ _ _ _ _ _ _ _ _ _ _ _ _ _ _ _ _ _ _ _ _ _ _ _ _ _ _ _ _ _ _ _ _ _ _ _ _ _ _ _ _ _ _ _ _ _ _ _ _ _ _ _ _ _ _ _ _ _ _
      · intro hor wT hbT
        unfold PickPost
        refine ⟨put6_below (bWD.out.trans (hbT.mono bWD.out.size)) _ _ _ _ _ _ _ (by omega), ?_⟩
        rw [E.out]
        rcases hor with h1 | h1
        · rw [if_pos h1]
        · by_cases h2 : partsE X (N.getD i default).code (N.getD i default).qty = 0
          · rw [if_neg (fun h => h h2), h1]
          · rw [if_pos h2]
      · intro U f h2 hf b1 d1 Y b2 d2 b3' d3 ua uc wT hbT hso huo
        unfold PickPost
        refine ⟨put6_below (bWD.out.trans (hbT.mono bWD.out.size)) _ _ _ _ _ _ _ (by omega), ?_⟩
        rw [E.out, if_neg (fun h => h h2), hf]
        have hk : ∀ b, w.heap.size + 2 ≤ b → (put6 wT (w.heap.size + 1) now nl nx (.slice b1 X.length d1) (.slice b2 (leftL (usum U) L).length d2) (.slice b3' (N.set i { N.getD i default with st := 2 }).length d3)).heap[b]? = wT.heap[b]? := fun b hb => put6_block _ _ _ _ _ _ _ _ (by omega)
        have hh := hsz.out.2
        exact ⟨b1, d1, Y, b2, d2, b3', d3, ua, uc, rfl, ((hso.mono hh).keep hk).mono (by omega), ((huo.mono hh).keep fun b e => hk b ((huo.mono hh).ge b e).1).mono (by omega)⟩
    · have E := Lib.hid (show pickX now X L N id = .error 158 from by
        unfold pickX
        rw [HLX.out]
        simp only [Int.toNat_natCast]
        rw [if_neg (by decide), if_pos hd])
      generalize (N.getD i default).day = dd at HC hd
      go_enter Tryz.func8, Tryz.ntmps8
      go_upto_region 1 with (fail)
      rw [← HW0.out]
      go_wp2_with (go_at_call 19; refine HL.out.mono ?_; rintro e w9 ⟨rfl, hb9⟩; obtain ⟨hbA, k9⟩ := HT.out w9 hb9; have BA := Lib.hid hbA; have x5 := (stObj_cells (HP.out _ hbA)).2.2.2.2.2; have x0 := (stObj_cells (HP.out _ hbA)).1; have x6 := HC.out _ hbA; have hqT := HQ.out _ hbA; obtain ⟨f0, f1, f2, f3, f4, f5⟩ := st_frozen6 hqT; obtain ⟨z0, z1, z2, z3, z4, z5⟩ := stObj_cells hqT; clear hqT; clear hb9 hbA)
      go_quiet (fail)
      go_wp2_with (fail)
      have bD := Lib.hid (BA.out.trans (drewN_below (w9.alloc (.cells #[.int .i64 (i : Int)] 3)) nq _))
      have hput := st_put (HQ.out _ bD.out) 0 0 0 (.slice none 0 0) (.slice none 0 0) (.slice none 0 0)
      obtain ⟨W9, hW9⟩ : ∃ V, V = put6 ((w9.alloc (.cells #[.int .i64 (i : Int)] 3)).drewN nq) (w.heap.size + 1) 0 0 0 (.slice none 0 0) (.slice none 0 0) (.slice none 0 0) := ⟨_, rfl⟩
      have HW9 := Lib.hid hW9
      unfold put6 at hW9
      rw [← hW9] at hput ⊢
      clear hW9
      refine bodyPost_ret (results_cell_tmp2 (P := Tryz.prog) (fn := Tryz.f8) (p := 4) (u := 5) (v := 6) (ty := 26) rfl _ W9 (w.heap.size + 1) 26 _ (0, 0) _ rfl hput Tryz.underlying26 rfl (by kernel_rfl)) rfl ?_
      rw [HW9.out]
      unfold PickPost
      rw [E.out]
      exact ⟨put6_below (HB0.out.trans (bD.out.mono (by omega))) _ _ _ _ _ _ _ (by omega), rfl⟩
end Go.Proofs.YtbedbhlebfnohaaGreat
namespace Go.Proofs.YtbedbhlebfnohaaGreat
open Go.RowKit

theorem allI_at (L : List It) (n j : Nat) (hn : n = L.length) (hj : j < n) : (L ++ lentI).getD j default = L.getD j default := by
  rw [List.getD_eq_getElem?_getD, List.getElem?_append_left (by omega), List.getD_eq_getElem?_getD]
theorem allI_behind (L : List It) (n d : Nat) (hn : n = L.length) (hd : d < 12) : (L ++ lentI).getD (n + d) default = mkIt d := by
  rw [List.getD_eq_getElem?_getD, List.getElem?_append_right (by omega), show n + d - L.length = d by omega, List.getElem?_eq_getElem (by rw [lentI_len]; exact hd), Option.getD_some, lentI_at d hd]
/-- The cells of items of one's own. -/
theorem OIt.cells {base : Nat} {w : World} {g n c : Nat} {Y : List It} (h : OIt base w (.slice (some ⟨g, 0, none⟩) n c) Y) : n = Y.length ∧ n ≤ c ∧ c ≤ 9223372036854775807 ∧ g < w.heap.size ∧ ∀ i, i < n → w.cell? ⟨g, i * 4, none⟩ = some (encStr (Y.getD i default).code) ∧ w.cell? ⟨g, i * 4 + 1, none⟩ = some (.int .i64 (Y.getD i default).life) ∧ w.cell? ⟨g, i * 4 + 2, none⟩ = some (.slice (Y.getD i default).pa (Y.getD i default).ps.length (Y.getD i default).pc) ∧ w.cell? ⟨g, i * 4 + 3, none⟩ = some (.slice (Y.getD i default).oa (Y.getD i default).os.length (Y.getD i default).oc) := by
  obtain ⟨h1, ⟨h2, -⟩ | ⟨g', cap, cur, hv, hg, hh, hle, hcap, hsz, htk⟩⟩ := h
  · cases h2
  · cases hv
    refine ⟨rfl, hle, by simpa [maxLen] using hcap, (Array.getElem?_eq_some_iff.1 hh).1, fun i hi => ?_⟩
    have hat := cellsI_at Y i hi
    rw [← htk] at hat
    simp only [World.cell?, hh, Option.isSome_none, Bool.false_eq_true, if_false]
    rw [List.getElem?_take, if_pos (by omega), List.getElem?_take, if_pos (by omega), List.getElem?_take, if_pos (by omega), List.getElem?_take, if_pos (by omega)] at hat
    simpa using hat
theorem mkIt_ok (d B : Nat) (w : World) (hd : d < 12) : ItOk B w (mkIt d) := by
  have := markN_bd 1 d (by omega) (by omega)
  refine ⟨Nat.zero_le _, by unfold mkIt; simp only; omega, by unfold mkIt; simp only; omega, ⟨rfl, Nat.le_refl _, Nat.zero_le _, fun p hp => (by cases hp), fun h => absurd h (Nat.lt_irrefl _)⟩, ⟨rfl, Nat.le_refl _, Nat.zero_le _, fun p hp => (by cases hp), fun h => absurd h (Nat.lt_irrefl _)⟩⟩

set_option maxHeartbeats 4000000 in
set_option maxRecDepth 100000 in
theorem KeptItems_any (base N : Nat) (g : Nat) (a : Option Addr) (n c : Nat) (X Y : List It) (w : World) (ho : OIt base w (.slice (some ⟨g, 0, none⟩) (n + 12) (n + 12)) (Y ++ lentI)) (hY : Y.length = n) (hL : ∀ i, i < n → LI base w (X.getD i default) (Y.getD i default)) (hr : RI N w a n c X) (hN : N ≤ w.heap.size) (hs : n ≤ 100000) :
    Calls Tryz.prog 33 #[.slice (some ⟨g, 0, none⟩) n (n + 12), .slice a n c] w fun e w' => e = .returned (.bool true) ∧ Below w.heap.size w w' := by
  obtain ⟨-, -, -, hgw, hcells⟩ := ho.cells
  have h3 := hr.le; have h4 := hr.mx
  have hln := hr.len
  have Hln := Lib.hid hln
  have HC := Lib.hid hcells
  have HL := Lib.hid hL
  have Hr := Lib.hid hr
  have HY := Lib.hid hY.symm
  clear ho hr hln hcells hL hY
  have q1 : (n : Int) + 12 ≤ ((n + 12 : Nat) : Int) := by omega
  have q2 := wrap_in (x := (n : Int) + 12) (by omega) (by omega)
  go_enter Tryz.func33, Tryz.ntmps33
  go_wp2_with (fail)
  go_loopw [6] (fun i wr => ∃ (j : Nat), j ≤ n + 12 ∧ i = .int .i64 j ∧ Hid (Below w.heap.size w wr)) (fun i _ => n + 12 - (intOf i).toNat)
  case atStart => exact ⟨0, by omega, rfl, Lib.hid (Below.refl _ _)⟩
  case round =>
    obtain ⟨j, hj, rfl, Hb⟩ := hrel
    have hsz := Hb.out.size
    by_cases hlt : j < n
    · have hrj := Hr.out.below (Hb.out.mono hN)
      obtain ⟨b2, o2, rfl, hbN, hc2⟩ := hrj.at_ (by omega)
      obtain ⟨k1, k2, k3, k4⟩ := HC.out j (by omega)
      obtain ⟨k5, k6, k7, k8⟩ := hc2 j hlt
      rw [allI_at Y n j HY.out hlt] at k1 k2 k3 k4
      have hxm : X.getD j default ∈ X := by
        rw [List.getD_eq_getElem?_getD, List.getElem?_eq_getElem (by rw [← Hln.out]; exact hlt)]; exact List.getElem_mem _
      have hxo := hrj.ok _ hxm
      have hli := (HL.out j hlt).keep Hb.out
      generalize X.getD j default = x at k5 k6 k7 k8 hxo hli
      generalize Y.getD j default = y at k1 k2 k3 k4 hli
      have hmk : ∀ z : BelowW wr, Calls Tryz.prog 64 #[y.val, x.val] z.v fun e w' => e = .returned (.bool true) ∧ Below z.v.heap.size z.v w' := fun z => KeptItem_any base N x y z.v (hxo.below (z.h.mono (Nat.le_trans hN hsz))) (hli.keep z.h) (Nat.le_trans (Nat.le_trans hN hsz) z.h.size)
      unfold It.val encStr at hmk
      unfold encStr at k1 k5
      have hbw : ∀ (i : Nat) (v : Value), w.cell? ⟨g, i, none⟩ = some v → ∀ z : BelowW wr, z.v.cell? ⟨g, i, none⟩ = some v := fun i v h z => (z.h.cell (by show g < _; omega)).trans ((Hb.out.cell (by show g < _; omega)).trans h)
      have hbx : ∀ (i : Nat) (v : Value), wr.cell? ⟨b2, i, none⟩ = some v → ∀ z : BelowW wr, z.v.cell? ⟨b2, i, none⟩ = some v := fun i v h z => (z.h.cell (by show b2 < _; omega)).trans h
      have f1 := hbw _ _ k1
      have f2 := hbw _ _ k2
      have f3 := hbw _ _ k3
      have f4 := hbw _ _ k4
      have f5 := hbx _ _ k5
      have f6 := hbx _ _ k6
      have f7 := hbx _ _ k7
      have f8 := hbx _ _ k8
      have HMK := Lib.hid hmk
      have hd : decide ((j : Int) < (n : Int)) = true := decide_eq_true (by omega)
      have hd2 : decide ((n : Int) ≤ (j : Int)) = false := decide_eq_false (by omega)
      have hd3 : decide (n ≤ j) = false := decide_eq_false (by omega)
      have hd4 : decide (j < n) = true := decide_eq_true (by omega)
      clear k1 k2 k3 k4 k5 k6 k7 k8 hbw hbx hmk hxo hli hxm hc2 hrj
      go_wp2_with (fail)
      refine wp_region_below wr (by kernel_rfl) (by kernel_rfl) (Below.refl _ _) ?_
      repeat (go_big_quiet_step ((go_at_call 64; exact below_call (HMK.out _))))
      refine wpQuiet_nil ?_
      intro _ hw'
      obtain ⟨y, hw''⟩ := hw'
      subst hw''
      clear f1 f2 f3 f4 f5 f6 f7 f8
      go_wp2_with (fail)
      go_roundw
      case rel => exact ⟨j + 1, by omega, by go_num, Lib.hid (Hb.out.trans (y.h.mono hsz))⟩
      case measure => simp [intOf]; omega
    · by_cases hlt2 : j < n + 12
      · obtain ⟨d, rfl⟩ : ∃ d, j = n + d := ⟨j - n, by omega⟩
        obtain ⟨k1, k2, k3, k4⟩ := HC.out (n + d) (by omega)
        rw [allI_behind Y n d HY.out (by omega)] at k1 k2 k3 k4
        have hmk : ∀ W : World, Calls Tryz.prog 42 #[.int .i64 1, .int .i64 (d : Int)] W fun e w' => e = .returned (.agg #[.string ⟨#[]⟩, .int .i64 (markN 1 d : Nat), .slice none 0 0, .slice none 0 0]) ∧ Below W.heap.size W w' := fun W => markItem_any d W (by omega)
        have hsm : ∀ W : World, Calls Tryz.prog 63 #[.agg #[.string ⟨#[]⟩, .int .i64 (markN 1 d : Nat), .slice none 0 0, .slice none 0 0], .agg #[.string ⟨#[]⟩, .int .i64 (markN 1 d : Nat), .slice none 0 0, .slice none 0 0]] W fun e w' => e = .returned (.bool true) ∧ Below W.heap.size W w' := fun W => SameItem_like 0 (mkIt d) (mkIt d) W (mkIt_ok d 0 W (by omega)) (mkIt_ok d 0 W (by omega)) (Nat.zero_le _) ⟨rfl, rfl, rfl, rfl⟩
        unfold mkIt at k1 k2 k3 k4
        unfold encStr at k1
        simp only [List.length_nil] at k1 k2 k3 k4
        generalize ((markN 1 d : Nat) : Int) = m at k2 hmk hsm
        have hbw : ∀ (i : Nat) (v : Value), w.cell? ⟨g, i, none⟩ = some v → ∀ z : BelowW wr, z.v.cell? ⟨g, i, none⟩ = some v := fun i v h z => (z.h.cell (by show g < _; omega)).trans ((Hb.out.cell (by show g < _; omega)).trans h)
        have f1 := hbw _ _ k1
        have f2 := hbw _ _ k2
        have f3 := hbw _ _ k3
        have f4 := hbw _ _ k4
        have HMK := Lib.hid hmk
        have HSM := Lib.hid hsm
        clear k1 k2 k3 k4 hbw hmk hsm
        have i1 : decide ((n : Int) + (d : Int) < (n : Int)) = false := decide_eq_false (by omega)
        have i2 : decide ((n : Int) ≤ (n : Int) + (d : Int)) = true := decide_eq_true (by omega)
        have i3 : IntKind.i64.wrap ((n : Int) + (d : Int) - (n : Int)) = (d : Int) := by
          rw [show (n : Int) + (d : Int) - (n : Int) = (d : Int) by omega]
          exact wrap_in (by omega) (by omega)
        have i5 : (n : Int) + (d : Int) < (n : Int) + 12 := by omega
        have i6 : (0 : Int) ≤ (n : Int) + (d : Int) := by omega
        have c5 := Lib.hid hlt2
        clear hlt hj hlt2
        go_wp2_with (fail)
        refine wp_region_below wr (by kernel_rfl) (by kernel_rfl) (Below.refl _ _) ?_
        repeat (go_big_quiet_step (first | (go_at_call 42; exact below_call (HMK.out _)) | (go_at_call 63; exact below_call (HSM.out _))))
        refine wpQuiet_nil ?_
        intro _ hw'
        obtain ⟨y, hw''⟩ := hw'
        subst hw''
        clear f1 f2 f3 f4
        go_wp2_with (fail)
        have c6 := c5.out
        go_roundw
        case rel => exact ⟨n + d + 1, by omega, by go_num, Lib.hid (Hb.out.trans (y.h.mono hsz))⟩
        case measure => simp [intOf]; omega
      · go_wp2_with (fail)
        go_ret
        exact ⟨rfl, Hb.out⟩
end Go.Proofs.YtbedbhlebfnohaaGreat
