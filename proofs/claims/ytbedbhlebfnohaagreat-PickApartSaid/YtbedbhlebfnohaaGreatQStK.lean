/- pick.Pick: its walk. (Printed by gen/pk.py.) Lists of api.Lot that are lent, kept, copied: walks. (Printed by gen/kinds.py.) Lists of api.Line that are lent, kept, copied: walks. (Printed by gen/kinds.py.) storemankit.SameItems, SameState, LentState, KeptState: walks. -/
import Derived.Test.YtbedbhlebfnohaaGreatQPkD
import Derived.Test.YtbedbhlebfnohaaGreatJRef
import Derived.Test.YtbedbhlebfnohaaGreatQBridge
import Derived.Test.YtbedbhlebfnohaaGreatJSame
import Derived.Test.YtbedbhlebfnohaaGreatBelowQ
import Derived.Test.YtbedbhlebfnohaaGreatQWant
import Derived.Test.YtbedbhlebfnohaaGreatQItC
namespace Go.Proofs.YtbedbhlebfnohaaGreat
open Go.RowKit Go.Sort Go.Lib Go.Shelf

def PickPost (w : World) (now nl nx : Int) (X : List It) (L : List LotV) (N : List LineV) (id : Int) (e : Ending) (w' : World) : Prop := Below w.heap.size w w' ∧ match pickX now X L N id with
  | .error er => e = .returned (.tuple #[.agg #[.int .i64 0, .int .i64 0, .int .i64 0, .slice none 0 0, .slice none 0 0, .slice none 0 0], .slice none 0 0, .int .i64 er])
  | .ok (L', N', U) => ∃ a1 c1 Y a2 c2 a3 c3 ua uc, e = .returned (.tuple #[.agg #[.int .i64 now, .int .i64 nl, .int .i64 nx, .slice a1 X.length c1, .slice a2 L'.length c2, .slice a3 N'.length c3], .slice ua U.length uc, .int .i64 0]) ∧ StOwn w.heap.size w' (.slice a1 X.length c1) (.slice a2 L'.length c2) (.slice a3 N'.length c3) X Y L' N' ∧ useE.Own w.heap.size w' (.slice ua U.length uc) U
theorem lineX_true {X : List LineV} {id : Int} (h : (lineX X id).2 = true) : ∃ i : Nat, i < X.length ∧ lineX X id = ((i : Int), true) ∧ (X.getD i default).st = 1 := by
  unfold lineX at *
  split at h
  · cases h
  · rename_i hc
    rw [if_neg hc]
    rcases idxI_form (fun x : LineV => decide (x.id = id)) X with hi | ⟨j, hj, hi⟩
    · exact absurd (.inl (by rw [hi]; decide)) hc
    · rw [hi] at h ⊢
      have h' : decide ((X.getD j default).st = 1) = true := h
      exact ⟨j, hj, by rw [← h']; rfl, by simpa using h'⟩
set_option maxHeartbeats 8000000 in
set_option maxRecDepth 100000 in
theorem pick_any (B : Nat) (now nl nx id : Int) (a1 : Option Addr) (n1 c1 : Nat) (X : List It) (a2 : Option Addr) (n2 c2 : Nat) (L : List LotV) (a3 : Option Addr) (n3 c3 : Nat) (N : List LineV) (w : World) (h : StIn B w a1 n1 c1 X a2 n2 c2 L a3 n3 c3 N) (hB : B ≤ w.heap.size) (hnow : -9223372036854775808 ≤ now ∧ now ≤ 9223372036854775807) :
    Calls Tryz.prog 8 #[.agg #[.int .i64 now, .int .i64 nl, .int .i64 nx, .slice a1 n1 c1, .slice a2 n2 c2, .slice a3 n3 c3], .int .i64 id] w fun e w' => PickPost w now nl nx X L N id e w' := by
  obtain ⟨W0, hW0⟩ : ∃ V, V = (w.alloc (.cells #[.int .i64 now, .int .i64 nl, .int .i64 nx, .slice a1 n1 c1, .slice a2 n2 c2, .slice a3 n3 c3] 26)).alloc (.cells #[.int .i64 0, .int .i64 0, .int .i64 0, .slice none 0 0, .slice none 0 0, .slice none 0 0] 26) := ⟨_, rfl⟩
  have HB0 : Hid (Below w.heap.size w W0) := Lib.hid (by rw [hW0]; exact ((Below.refl _ w).alloc (Nat.le_refl _) _).alloc (by rw [World.size_alloc]; omega) _)
  have hs0 : W0.heap.size = w.heap.size + 2 := by rw [hW0, World.size_alloc, World.size_alloc]
  have hp0 : W0.heap[w.heap.size]? = some (stObj now nl nx (.slice a1 n1 c1) (.slice a2 n2 c2) (.slice a3 n3 c3)) := by
    rw [hW0, ((Below.refl (w.heap.size + 1) (w.alloc _)).alloc (by rw [World.size_alloc]; omega) _).block w.heap.size (by omega)]
    exact heap_alloc_new _ _
  have hq0 : Hid (W0.heap[w.heap.size + 1]? = some (stObj 0 0 0 (.slice none 0 0) (.slice none 0 0) (.slice none 0 0))) := Lib.hid (by
    rw [hW0]
    have := heap_alloc_new (w.alloc (.cells #[.int .i64 now, .int .i64 nl, .int .i64 nx, .slice a1 n1 c1, .slice a2 n2 c2, .slice a3 n3 c3] 26)) (stObj 0 0 0 (.slice none 0 0) (.slice none 0 0) (.slice none 0 0))
    rw [World.size_alloc] at this
    exact this)
  obtain ⟨y0, y1, y2, y3, y4, y5⟩ := stObj_cells hp0
  have HL := Lib.hid (pline_any B now nl nx a1 a2 n1 c1 n2 c2 a3 n3 c3 N id W0 (h.lines.below (HB0.out.mono hB)) (Nat.le_trans hB HB0.out.size))
  have HQ := Lib.hid (fun (V : World) (hb : Below W0.heap.size W0 V) => (hb.block (w.heap.size + 1) (by omega)).trans hq0.out)
  have HP := Lib.hid (fun (V : World) (hb : Below W0.heap.size W0 V) => (hb.block w.heap.size (by omega)).trans hp0)
  have H := Lib.hid h
  have HW0 := Lib.hid hW0
  have hle3 := h.lines.le; have hmx3 := h.lines.mx
  have HN3 := Lib.hid h.lines.len
  clear hW0 h hp0 hq0
  cases hok : (lineX N id).2 with
  | false =>
    have E := Lib.hid (show pickX now X L N id = .error 157 by unfold pickX; rw [if_pos hok])
    rw [hok] at HL
    clear hok
    generalize (lineX N id).1 = at0 at HL
    go_enter Tryz.func8, Tryz.ntmps8
    go_upto_region 1 with (fail)
    rw [← HW0.out]
    go_wp2_with (go_at_call 19; refine HL.out.mono ?_; rintro e w9 ⟨rfl, hb9⟩; have B9 := Lib.hid hb9; have hqT := HQ.out (w9.alloc (.cells #[.int .i64 at0] 3)) (hb9.trans ((below_alloc _ _).mono hb9.size)); obtain ⟨f0, f1, f2, f3, f4, f5⟩ := st_frozen6 hqT; obtain ⟨z0, z1, z2, z3, z4, z5⟩ := stObj_cells hqT; have HQT := Lib.hid hqT; clear hqT hb9)
    have hput := st_put HQT.out 0 0 0 (.slice none 0 0) (.slice none 0 0) (.slice none 0 0)
    obtain ⟨W9, hW9⟩ : ∃ V, V = put6 (w9.alloc (.cells #[.int .i64 at0] 3)) (w.heap.size + 1) 0 0 0 (.slice none 0 0) (.slice none 0 0) (.slice none 0 0) := ⟨_, rfl⟩
    have HW9 := Lib.hid hW9
    unfold put6 at hW9
    rw [← hW9] at hput ⊢
    clear hW9
    refine bodyPost_ret (results_cell_tmp2 (P := Tryz.prog) (fn := Tryz.f8) (p := 4) (u := 5) (v := 6) (ty := 26) rfl _ W9 (w.heap.size + 1) 26 _ (0, 0) _ rfl hput Tryz.underlying26 rfl (by kernel_rfl)) rfl ?_
    rw [HW9.out]
    unfold PickPost
    rw [E.out]
    exact ⟨put6_below (HB0.out.trans ((B9.out.trans ((below_alloc _ _).mono B9.out.size)).mono (by omega))) _ _ _ _ _ _ _ (by omega), rfl⟩
  | true =>
    obtain ⟨i, hi, hlx, hst⟩ := lineX_true hok
    rw [hlx] at HL
    simp only at HL
    have HLX := Lib.hid hlx
    have HI := Lib.hid hi
    have hi3 : i < n3 := by rw [HN3.out]; exact hi
    clear hok hlx hst hi
    obtain ⟨b3, o3, rfl, hb3, -⟩ := lineE_at H.out.lines (by omega)
    have HC : Hid (∀ V, Below W0.heap.size W0 V → V.cell? ⟨b3, o3 + i * 8 + 6, none⟩ = some (.int .i64 (N.getD i default).day)) := Lib.hid fun V hb => by
      obtain ⟨b', o', e', -, hc⟩ := lineE_at (H.out.lines.below ((HB0.out.trans (hb.mono (by omega))).mono hB)) (by omega)
      cases e'
      exact (hc i hi3).2.2.2.2.2.2.1
    have HT : Hid (∀ w9, Below W0.heap.size W0 w9 → Below W0.heap.size W0 (w9.alloc (.cells #[.int .i64 i] 3)) ∧ (w9.alloc (.cells #[.int .i64 i] 3)).cell? ⟨w9.heap.size, 0, none⟩ = some (.int .i64 i)) := Lib.hid fun w9 hb => ⟨hb.trans ((below_alloc _ _).mono hb.size), by simp⟩
    by_cases hd : (N.getD i default).day = now
    · have E := Lib.hid (show pickX now X L N id = if partsE X (N.getD i default).code (N.getD i default).qty ≠ 0 then .error 159 else match fillX (hereL L) (wantsX now ((endL X (N.getD i default).code (N.getD i default).qty).getD [])) with | none => .error 159 | some (U, _) => .ok (leftL (usum U) L, N.set i { N.getD i default with st := 2 }, U) from by
        unfold pickX
        rw [HLX.out]
        simp only [Int.toNat_natCast]
        rw [if_neg (by decide), if_neg (fun h => h hd)]
        rfl)
      rw [hd] at HC
      clear hd
      go_enter Tryz.func8, Tryz.ntmps8
      go_upto_region 1 with (fail)
      rw [← HW0.out]
      go_wp2_with (go_at_call 19; refine HL.out.mono ?_; rintro e w9 ⟨rfl, hb9⟩; obtain ⟨hbA, k9⟩ := HT.out w9 hb9; have BA := Lib.hid hbA; have x5 := (stObj_cells (HP.out _ hbA)).2.2.2.2.2; have x0 := (stObj_cells (HP.out _ hbA)).1; have x6 := HC.out _ hbA; clear hb9 hbA)
      go_quiet (fail)
      have bD := Lib.hid (BA.out.trans (drewN_below (w9.alloc (.cells #[.int .i64 (i : Int)] 3)) nq _))
      have bWD := Lib.hid (HB0.out.trans (bD.out.mono (by omega)))
      have hsz : Hid (w9.heap.size < ((w9.alloc (.cells #[.int .i64 (i : Int)] 3)).drewN nq).heap.size ∧ w.heap.size + 2 ≤ ((w9.alloc (.cells #[.int .i64 (i : Int)] 3)).drewN nq).heap.size) := Lib.hid ⟨by show w9.heap.size < (w9.alloc _).heap.size; rw [World.size_alloc]; omega, by have := bD.out.size; omega⟩
      have HPQ : Hid (((w9.alloc (.cells #[.int .i64 (i : Int)] 3)).drewN nq).heap[w.heap.size]? = _ ∧ ((w9.alloc (.cells #[.int .i64 (i : Int)] 3)).drewN nq).heap[w.heap.size + 1]? = _ ∧ ((w9.alloc (.cells #[.int .i64 (i : Int)] 3)).drewN nq).cell? ⟨w9.heap.size, 0, none⟩ = some (.int .i64 (i : Int))) := Lib.hid ⟨HP.out _ bD.out, HQ.out _ bD.out, k9⟩
      iterate 6 go_step
      refine pk_parts B w.heap.size (w.heap.size + 1) w9.heap.size i now nl nx a1 n1 c1 X a2 n2 c2 L (some ⟨b3, o3, none⟩) n3 c3 N _ _ (H.out.below (bWD.out.mono hB)) (Nat.le_trans hB bWD.out.size) HPQ.out.1 HPQ.out.2.1 HPQ.out.2.2 hsz.out.1 HI.out hnow ?_ ?_ _ _ _ _ _ _ _ _ _ _ _ _ _ _ _ _ _ _ _ _ _ _ _ _ _ _ _ _ _ _ _ _ _ _ _ _ _ _ _ _ _ _ _ _ _ _ _ _ _ _ _ _ _ _ _ _ _ _ _ _ _ _ _ _ _ _ _ _ _ _ _ _ _ _ _ _ _ _ _ _ _ _ _ _ _ _ _ _ _ _ _ _ _ _ _ _ _ _ _ _ _ _ _ _ _ _ _ _ _
      · intro hor wT hbT
        unfold PickPost
        refine ⟨put6_below (bWD.out.trans (hbT.mono bWD.out.size)) _ _ _ _ _ _ _ (by omega), ?_⟩
        rw [E.out]
        rcases hor with h1 | h1
        · rw [if_pos h1]
        · by_cases h2 : partsE X (N.getD i default).code (N.getD i default).qty = 0
          · rw [if_neg (fun h => h h2), h1]
          · rw [if_pos h2]
      · intro U f h2 hf b1 d1 Y b2 d2 b3' d3 ua uc wT hbT hso huo
        unfold PickPost
        refine ⟨put6_below (bWD.out.trans (hbT.mono bWD.out.size)) _ _ _ _ _ _ _ (by omega), ?_⟩
        rw [E.out, if_neg (fun h => h h2), hf]
        have hk : ∀ b, w.heap.size + 2 ≤ b → (put6 wT (w.heap.size + 1) now nl nx (.slice b1 X.length d1) (.slice b2 (leftL (usum U) L).length d2) (.slice b3' (N.set i { N.getD i default with st := 2 }).length d3)).heap[b]? = wT.heap[b]? := fun b hb => put6_block _ _ _ _ _ _ _ _ (by omega)
        have hh := hsz.out.2
        exact ⟨b1, d1, Y, b2, d2, b3', d3, ua, uc, rfl, ((hso.mono hh).keep hk).mono (by omega), ((huo.mono hh).keep fun b e => hk b ((huo.mono hh).ge b e).1).mono (by omega)⟩
    · have E := Lib.hid (show pickX now X L N id = .error 158 from by
        unfold pickX
        rw [HLX.out]
        simp only [Int.toNat_natCast]
        rw [if_neg (by decide), if_pos hd])
      generalize (N.getD i default).day = dd at HC hd
      go_enter Tryz.func8, Tryz.ntmps8
      go_upto_region 1 with (fail)
      rw [← HW0.out]
      go_wp2_with (go_at_call 19; refine HL.out.mono ?_; rintro e w9 ⟨rfl, hb9⟩; obtain ⟨hbA, k9⟩ := HT.out w9 hb9; have BA := Lib.hid hbA; have x5 := (stObj_cells (HP.out _ hbA)).2.2.2.2.2; have x0 := (stObj_cells (HP.out _ hbA)).1; have x6 := HC.out _ hbA; have hqT := HQ.out _ hbA; obtain ⟨f0, f1, f2, f3, f4, f5⟩ := st_frozen6 hqT; obtain ⟨z0, z1, z2, z3, z4, z5⟩ := stObj_cells hqT; clear hqT; clear hb9 hbA)
      go_quiet (fail)
      go_wp2_with (fail)
      have bD := Lib.hid (BA.out.trans (drewN_below (w9.alloc (.cells #[.int .i64 (i : Int)] 3)) nq _))
      have hput := st_put (HQ.out _ bD.out) 0 0 0 (.slice none 0 0) (.slice none 0 0) (.slice none 0 0)
      obtain ⟨W9, hW9⟩ : ∃ V, V = put6 ((w9.alloc (.cells #[.int .i64 (i : Int)] 3)).drewN nq) (w.heap.size + 1) 0 0 0 (.slice none 0 0) (.slice none 0 0) (.slice none 0 0) := ⟨_, rfl⟩
      have HW9 := Lib.hid hW9
      unfold put6 at hW9
      rw [← hW9] at hput ⊢
      clear hW9
      refine bodyPost_ret (results_cell_tmp2 (P := Tryz.prog) (fn := Tryz.f8) (p := 4) (u := 5) (v := 6) (ty := 26) rfl _ W9 (w.heap.size + 1) 26 _ (0, 0) _ rfl hput Tryz.underlying26 rfl (by kernel_rfl)) rfl ?_
      rw [HW9.out]
      unfold PickPost
      rw [E.out]
      exact ⟨put6_below (HB0.out.trans (bD.out.mono (by omega))) _ _ _ _ _ _ _ (by omega), rfl⟩
end Go.Proofs.YtbedbhlebfnohaaGreat
namespace Go.Proofs.YtbedbhlebfnohaaGreat
open Go.RowKit
theorem eqLot_self (x_id : Int) (x_item : List UInt8) (x_fr : Int) (x_un : Int) (x_qty : Int) (x_arr : Bool) (w : World) : (Op.equalIn 10000 46 (.agg #[.int .i64 x_id, encStr x_item, .int .i64 x_fr, .int .i64 x_un, .int .i64 x_qty, .bool x_arr]) (.agg #[.int .i64 x_id, encStr x_item, .int .i64 x_fr, .int .i64 x_un, .int .i64 x_qty, .bool x_arr])).run Tryz.prog w = .ok true w := by
  rw [eqLot]
  simp
set_option maxRecDepth 100000 in
theorem CopyLots_any (N : Nat) (a : Option Addr) (n c : Nat) (L : List LotV) (w : World) (hr : lotE.In N w a n c L) (hs : n ≤ 1000000000) :
    Calls Tryz.prog 37 #[.slice a n c] w fun e w' => (∃ a' c', e = .returned (.slice a' n c') ∧ lotE.Own w.heap.size w' (.slice a' n c') L) ∧ Below w.heap.size w w' := by
  have hln := hr.len
  have Hln := Lib.hid hln
  have Hr := Lib.hid hr
  clear hr hln
  go_enter Tryz.func37, Tryz.ntmps37
  go_wp2_with (at_builtin; refine El.wpList_append0 lotE rfl _ _ rfl L rfl _ n _ rfl Hln.out (Hr.out).src (by have := Hln.out; omega) ?_; intro a2 c2 w2 hown2 hb2)
  go_ret
  exact ⟨⟨_, _, rfl, hown2⟩, hb2⟩
end Go.Proofs.YtbedbhlebfnohaaGreat
namespace Go.Proofs.YtbedbhlebfnohaaGreat
open Go.RowKit
theorem eqLine_self (x_id : Int) (x_item : List UInt8) (x_qty : Int) (x_asked : Int) (x_rank : Int) (x_st : Int) (x_day : Int) (x_code : List UInt8) (w : World) : (Op.equalIn 10000 49 (.agg #[.int .i64 x_id, encStr x_item, .int .i64 x_qty, .int .i64 x_asked, .int .i64 x_rank, .int .u8 x_st, .int .i64 x_day, encStr x_code]) (.agg #[.int .i64 x_id, encStr x_item, .int .i64 x_qty, .int .i64 x_asked, .int .i64 x_rank, .int .u8 x_st, .int .i64 x_day, encStr x_code])).run Tryz.prog w = .ok true w := by
  rw [eqLine]
  simp
set_option maxRecDepth 100000 in
theorem CopyLines_any (N : Nat) (a : Option Addr) (n c : Nat) (L : List LineV) (w : World) (hr : lineE.In N w a n c L) (hs : n ≤ 1000000000) :
    Calls Tryz.prog 38 #[.slice a n c] w fun e w' => (∃ a' c', e = .returned (.slice a' n c') ∧ lineE.Own w.heap.size w' (.slice a' n c') L) ∧ Below w.heap.size w w' := by
  have hln := hr.len
  have Hln := Lib.hid hln
  have Hr := Lib.hid hr
  clear hr hln
  go_enter Tryz.func38, Tryz.ntmps38
  go_wp2_with (at_builtin; refine El.wpList_append0 lineE rfl _ _ rfl L rfl _ n _ rfl Hln.out (Hr.out).src (by have := Hln.out; omega) ?_; intro a2 c2 w2 hown2 hb2)
  go_ret
  exact ⟨⟨_, _, rfl, hown2⟩, hb2⟩
end Go.Proofs.YtbedbhlebfnohaaGreat
namespace Go.Proofs.YtbedbhlebfnohaaGreat
open Go.RowKit Go.Sort Go.Lib Go.Shelf

theorem ri_belowW {B : Nat} {wr : World} {a : Option Addr} {n c : Nat} {X : List It} (h : RI B wr a n c X) (hB : B ≤ wr.heap.size) {i : Nat} (hi : i < n) : ∃ b o, a = some ⟨b, o, none⟩ ∧ (∀ y : BelowW wr, y.v.cell? ⟨b, o + i * 4, none⟩ = some (encStr (X.getD i default).code)) ∧ (∀ y : BelowW wr, y.v.cell? ⟨b, o + i * 4 + 1, none⟩ = some (.int .i64 (X.getD i default).life)) ∧
    (∀ y : BelowW wr, y.v.cell? ⟨b, o + i * 4 + 2, none⟩ = some (.slice (X.getD i default).pa (X.getD i default).ps.length (X.getD i default).pc)) ∧ (∀ y : BelowW wr, y.v.cell? ⟨b, o + i * 4 + 3, none⟩ = some (.slice (X.getD i default).oa (X.getD i default).os.length (X.getD i default).oc)) := by
  obtain ⟨b, o, e, hb, -, g0, g1, g2, g3⟩ := h.item hi
  have hlt : b < wr.heap.size := Nat.lt_of_lt_of_le hb hB
  exact ⟨b, o, e, fun y => (y.h.cell (by exact hlt)).trans g0, fun y => (y.h.cell (by exact hlt)).trans g1, fun y => (y.h.cell (by exact hlt)).trans g2, fun y => (y.h.cell (by exact hlt)).trans g3⟩
set_option maxHeartbeats 4000000 in
set_option maxRecDepth 100000 in
/-- Items that are alike, each at its place, are the same. -/
theorem SameItems_like (B : Nat) (a b : Option Addr) (n c d : Nat) (X Y : List It) (w : World) (hx : RI B w a n c X) (hy : RI B w b n d Y) (hB : B ≤ w.heap.size) (hl : ∀ i, i < n → LikeI (X.getD i default) (Y.getD i default)) :
    Calls Tryz.prog 30 #[.slice a n c, .slice b n d] w fun e w' => e = .returned (.bool true) ∧ Below w.heap.size w w' := by
  have hle := hx.le; have hmx := hx.mx; have hle2 := hy.le; have hmx2 := hy.mx
  have HX := Lib.hid hx
  have HY := Lib.hid hy
  have HL := Lib.hid hl
  clear hx hy hl
  go_enter Tryz.func30, Tryz.ntmps30
  go_wp2_with (fail)
  go_loopw [5] (fun s5 wr => ∃ j : Nat, s5 = .int .i64 j ∧ j ≤ n ∧ Hid (Below w.heap.size w wr)) (fun s5 _ => n - (intOf s5).toNat)
  case atStart => exact ⟨0, rfl, Nat.zero_le _, Lib.hid (Below.refl _ _)⟩
  case round =>
    obtain ⟨j, rfl, hj, Hb⟩ := hrel
    by_cases hlt : j < n
    · have hBr : B ≤ wr.heap.size := Nat.le_trans hB Hb.out.size
      obtain ⟨b1, o1, rfl, l0, l1, l2, l3⟩ := ri_belowW (HX.out.below (Hb.out.mono hB)) hBr hlt
      obtain ⟨b2, o2, rfl, k0, k1, k2, k3⟩ := ri_belowW (HY.out.below (Hb.out.mono hB)) hBr hlt
      have hxo : ItOk B wr (X.getD j default) := (HX.out.ok _ (getD_mem (by rw [← HX.out.len]; exact hlt))).below (Hb.out.mono hB)
      have hyo : ItOk B wr (Y.getD j default) := (HY.out.ok _ (getD_mem (by rw [← HY.out.len]; exact hlt))).below (Hb.out.mono hB)
      have HS := Lib.hid (fun (V : World) (hb : Below wr.heap.size wr V) => SameItem_like B _ _ V (hxo.below (hb.mono hBr)) (hyo.below (hb.mono hBr)) (Nat.le_trans hBr hb.size) (HL.out j hlt))
      clear hxo hyo
      generalize X.getD j default = x at l0 l1 l2 l3 HS
      generalize Y.getD j default = y at k0 k1 k2 k3 HS
      obtain ⟨xc, xl, xpa, xpc, xps, xoa, xoc, xos⟩ := x
      obtain ⟨yc, yl, ypa, ypc, yps, yoa, yoc, yos⟩ := y
      unfold It.val at HS
      simp only [encStr] at l0 l1 l2 l3 k0 k1 k2 k3 HS
      have hs : ∀ y : BelowW wr, Calls Tryz.prog 63 #[.agg #[.string ⟨xc.toArray⟩, .int .i64 xl, .slice xpa xps.length xpc, .slice xoa xos.length xoc], .agg #[.string ⟨yc.toArray⟩, .int .i64 yl, .slice ypa yps.length ypc, .slice yoa yos.length yoc]] y.v fun e w' => e = .returned (.bool true) ∧ Below y.v.heap.size y.v w' := fun y => HS.out y.v y.h
      go_wp2_with (fail)
      refine wp_region_below wr (by kernel_rfl) (by kernel_rfl) (Below.refl _ _) ?_
      repeat (go_big_quiet_step ((go_at_call 63; exact below_call (hs _))))
      refine wpQuiet_nil ?_
      intro _ hw'
      obtain ⟨y, hw''⟩ := hw'
      subst hw''
      clear l0 l1 l2 l3 k0 k1 k2 k3
      go_wp2_with (fail)
      go_roundw
      case rel => exact ⟨j + 1, by go_num, by omega, Lib.hid (Hb.out.trans (y.h.mono Hb.out.size))⟩
      case measure => simp [intOf]; omega
    · have hge : ¬ (j : Int) < (n : Int) := by omega
      go_wp2_with (fail)
      go_ret
      exact ⟨rfl, Hb.out⟩
theorem two_st (w : World) (A C : Array Value) : ∃ W0, W0 = (w.alloc (.cells A 26)).alloc (.cells C 26) ∧ Below w.heap.size w W0 ∧ W0.heap.size = w.heap.size + 2 ∧ W0.heap[w.heap.size]? = some (.cells A 26) ∧ W0.heap[w.heap.size + 1]? = some (.cells C 26) := by
  refine ⟨_, rfl, ((Below.refl _ w).alloc (Nat.le_refl _) _).alloc (by rw [World.size_alloc]; omega) _, by rw [World.size_alloc, World.size_alloc], ?_, ?_⟩
  · rw [((Below.refl (w.heap.size + 1) (w.alloc _)).alloc (by rw [World.size_alloc]; omega) _).block w.heap.size (by omega)]
    exact heap_alloc_new _ _
  · have := heap_alloc_new (w.alloc (.cells A 26)) (.cells C 26)
    rw [World.size_alloc] at this
    exact this
set_option maxHeartbeats 4000000 in
set_option maxRecDepth 100000 in
theorem SameState_like (B : Nat) (now nl nx : Int) (a1 b1 a2 b2 a3 b3 : Option Addr) (n1 c1 d1 n2 c2 d2 n3 c3 d3 : Nat) (X Y : List It) (L : List LotV) (N : List LineV) (w : World) (hx : RI B w a1 n1 c1 X) (hy : RI B w b1 n1 d1 Y) (hl : ∀ i, i < n1 → LikeI (X.getD i default) (Y.getD i default)) (h2 : lotE.In B w a2 n2 c2 L) (k2 : lotE.In B w b2 n2 d2 L) (h3 : lineE.In B w a3 n3 c3 N) (k3 : lineE.In B w b3 n3 d3 N) (hB : B ≤ w.heap.size) :
    Calls Tryz.prog 10 #[.agg #[.int .i64 now, .int .i64 nl, .int .i64 nx, .slice a1 n1 c1, .slice a2 n2 c2, .slice a3 n3 c3], .agg #[.int .i64 now, .int .i64 nl, .int .i64 nx, .slice b1 n1 d1, .slice b2 n2 d2, .slice b3 n3 d3]] w fun e w' => e = .returned (.bool true) ∧ Below w.heap.size w w' := by
  obtain ⟨W0, hW0, hB0, hs00, hp0, hq0⟩ := two_st w #[.int .i64 now, .int .i64 nl, .int .i64 nx, .slice a1 n1 c1, .slice a2 n2 c2, .slice a3 n3 c3] #[.int .i64 now, .int .i64 nl, .int .i64 nx, .slice b1 n1 d1, .slice b2 n2 d2, .slice b3 n3 d3]
  have HI := Lib.hid (SameItems_like B a1 b1 n1 c1 d1 X Y W0 (hx.below (hB0.mono hB)) (hy.below (hB0.mono hB)) (Nat.le_trans hB hB0.size) hl)
  have HL2 := Lib.hid (fun (V : World) (hb : Below w.heap.size w V) => by
    have := SameLots_any B B a2 b2 n2 n2 c2 d2 L L V (h2.below (hb.mono hB)) (k2.below (hb.mono hB))
    rw [decide_eq_true rfl] at this
    exact this)
  have HL3 := Lib.hid (fun (V : World) (hb : Below w.heap.size w V) => by
    have := SameLines_any B B a3 b3 n3 n3 c3 d3 N N V (h3.below (hb.mono hB)) (k3.below (hb.mono hB))
    rw [decide_eq_true rfl] at this
    exact this)
  have HC := Lib.hid (fun (V : World) (hb : Below W0.heap.size W0 V) => And.intro (stObj_cells ((hb.block w.heap.size (by omega)).trans hp0)) (stObj_cells ((hb.block (w.heap.size + 1) (by omega)).trans hq0)))
  obtain ⟨⟨y0, y1, y2, y3, y4, y5⟩, z0, z1, z2, z3, z4, z5⟩ := HC.out W0 (Below.refl _ _)
  have HB0 := Lib.hid hB0
  have HW0 := Lib.hid hW0
  have hs1 : W0.heap.size ≤ w.heap.size + 2 ∧ w.heap.size + 2 ≤ W0.heap.size := by omega
  have e1 := hx.le; have e2 := hy.le; have e3 := h2.le; have e4 := k2.le; have e5 := h3.le; have e6 := k3.le
  clear hx hy hl h2 k2 h3 k3 hW0 hB0 hp0 hq0 hs00
  go_enter Tryz.func10, Tryz.ntmps10
  go_upto_region 1 with (fail)
  rw [← HW0.out]
  go_wp2_with (first | (go_at_call 30; refine HI.out.mono ?_; rintro e w1 ⟨rfl, hb1⟩; obtain ⟨⟨-, -, -, -, r4, r5⟩, -, -, -, -, t4, t5⟩ := HC.out w1 hb1; have B1 := Lib.hid hb1; clear hb1) | (go_at_call 31; refine (HL2.out _ (HB0.out.trans (B1.out.mono (by omega)))).mono ?_; rintro e w2 ⟨rfl, q2, rfl⟩; have hb2 := B1.out.trans (drewN_below w1 q2 _); obtain ⟨⟨-, -, -, -, -, u5⟩, -, -, -, -, -, v5⟩ := HC.out _ hb2; have B2 := Lib.hid hb2; clear hb2) | (go_at_call 32; refine (HL3.out _ (HB0.out.trans (B2.out.mono (by omega)))).mono ?_; rintro e w3 ⟨rfl, q3, rfl⟩))
  go_ret
  have hb3 := B1.out.trans (drewN_below w1 (q2 + q3) W0.heap.size)
  exact ⟨rfl, HB0.out.trans (hb3.mono (Nat.le_trans (Nat.le_add_right _ 2) hs1.2))⟩
theorem st_set3 {W : World} {q : Nat} {now nl nx : Int} {u1 u2 u3 : Value} (hq : W.heap[q]? = some (stObj now nl nx u1 u2 u3)) (v : Value) : (W.setCell ⟨q, 3, none⟩ v).heap[q]? = some (stObj now nl nx v u2 u3) := by
  unfold stObj at *
  simp [setCell_eq, mapBlock, Array.getElem?_modify, hq, onCells]
theorem st_set4 {W : World} {q : Nat} {now nl nx : Int} {u1 u2 u3 : Value} (hq : W.heap[q]? = some (stObj now nl nx u1 u2 u3)) (v : Value) : (W.setCell ⟨q, 4, none⟩ v).heap[q]? = some (stObj now nl nx u1 v u3) := by
  unfold stObj at *
  simp [setCell_eq, mapBlock, Array.getElem?_modify, hq, onCells]
theorem st_set5 {W : World} {q : Nat} {now nl nx : Int} {u1 u2 u3 : Value} (hq : W.heap[q]? = some (stObj now nl nx u1 u2 u3)) (v : Value) : (W.setCell ⟨q, 5, none⟩ v).heap[q]? = some (stObj now nl nx u1 u2 v) := by
  unfold stObj at *
  simp [setCell_eq, mapBlock, Array.getElem?_modify, hq, onCells]
end Go.Proofs.YtbedbhlebfnohaaGreat
