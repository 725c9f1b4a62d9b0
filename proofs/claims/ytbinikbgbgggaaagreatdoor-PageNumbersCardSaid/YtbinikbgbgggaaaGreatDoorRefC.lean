/- storemanref21.Of. -/
import Derived.Test.YtbinikbgbgggaaaGreatDoorRefR
import Derived.Test.YtbinikbgbgggaaaGreatDoorBelowQ
import Derived.Test.YtbinikbgbgggaaaGreatDoorRefT
import Derived.Deep.DeepCutAuto
import Derived.StillTailTactics
namespace Go.Proofs.YtbinikbgbgggaaaGreatDoor
open Go.RowKit Go.Shelf

/-- The block of a boxed Page. -/
def P3 (W : World) (z : Nat) (l x : Int) (v : Value) : Prop := W.heap[z]? = some (.cells #[.int .i64 l, .int .i64 x, v] 94 (0, 0))
theorem P3.lt {W : World} {z : Nat} {l x : Int} {v : Value} (h : P3 W z l x v) : z < W.heap.size := (Array.getElem?_eq_some_iff.1 h).1
theorem P3.cells {W : World} {z : Nat} {l x : Int} {v : Value} (h : P3 W z l x v) : W.cell? ⟨z, 0, none⟩ = some (.int .i64 l) ∧ W.cell? ⟨z, 1, none⟩ = some (.int .i64 x) ∧ W.cell? ⟨z, 2, none⟩ = some v := by
  unfold P3 at h; simp [World.cell?, h]
theorem P3.frozen {W : World} {z : Nat} {l x : Int} {v : Value} (h : P3 W z l x v) : W.frozen? ⟨z, 0, none⟩ = false ∧ W.frozen? ⟨z, 1, none⟩ = false ∧ W.frozen? ⟨z, 2, none⟩ = false := by
  unfold P3 at h; simp [World.frozen?, h]
theorem P3.below {B : Nat} {W W' : World} {z : Nat} {l x : Int} {v : Value} (h : P3 W z l x v) (hb : Below B W W') (hz : z < B) : P3 W' z l x v := (hb.block z hz).trans h
theorem P3.new (W : World) (l x : Int) (v : Value) : P3 (W.alloc (.cells #[.int .i64 l, .int .i64 x, v] 94)) W.heap.size l x v := heap_alloc_new W _
theorem P3.grow {W W' : World} {row : Option Nat} {z : Nat} {l x : Int} {v : Value} (h : P3 W z l x v) (hg : W.grownBy W' row) (hne : some z ≠ row) : P3 W' z l x v := (hg.block z h.lt hne).trans h
theorem P3.set2 {W : World} {z : Nat} {l x : Int} {v : Value} (h : P3 W z l x v) (u : Value) : P3 (W.setCell ⟨z, 2, none⟩ u) z l x u := by
  unfold P3 at h ⊢
  simp [World.setCell, Array.getElem?_modify, h]
theorem P3.other {W : World} {z : Nat} {l x : Int} {v : Value} (h : P3 W z l x v) {j o : Nat} (hj : j ≠ z) (u : Value) : P3 (W.setCell ⟨j, o, none⟩ u) z l x v := by
  unfold P3 at h ⊢
  rw [← h]; exact Below.heap_setCell W ⟨j, o, none⟩ u z (fun e => hj e.symm)

theorem P3.setAll {W : World} {z : Nat} {l x l' x' : Int} {v v' : Value} (h : P3 W z l x v) : P3 (((W.setCell ⟨z, 0, none⟩ (.int .i64 l')).setCell ⟨z, 1, none⟩ (.int .i64 x')).setCell ⟨z, 2, none⟩ v') z l' x' v' := by
  unfold P3 at h ⊢
  simp [World.setCell, Array.getElem?_modify, h]
theorem OQ.mono {B B' : Nat} {W : World} {v : Value} {R : List Rw} (h : OQ B W v R) (hb : B' ≤ B) : OQ B' W v R := by
  obtain ⟨cs, ⟨e, h3 | ⟨g, cap, cur, hv, hg, r⟩⟩, h2, h4⟩ := h
  · exact ⟨cs, ⟨e, .inl h3⟩, h2, fun u hu b o s n c he hc => Nat.le_trans hb (h4 u hu b o s n c he hc)⟩
  · exact ⟨cs, ⟨e, .inr ⟨g, cap, cur, hv, Nat.le_trans hb hg, r⟩⟩, h2, fun u hu b o s n c he hc => Nat.le_trans hb (h4 u hu b o s n c he hc)⟩
/-- What Of answers. -/
def OfR (w : World) (L : List UInt8) (e : Ending) (w' : World) : Prop := (∃ v, e = .returned (.tuple #[.agg #[.int .i64 (lsnL L : Nat), .int .i64 (nextL L : Nat), v], .bool (decide (0 < behindL L))]) ∧ OQ w.heap.size w' v (rowsL L)) ∧ Below w.heap.size w w'
theorem OfR.no {w w' : World} {L : List UInt8} (h : behindL L = 0) (hb : Below w.heap.size w w') : OfR w L (.returned (.tuple #[.agg #[.int .i64 0, .int .i64 0, .slice none 0 0], .bool false])) w' := by
  refine ⟨⟨.slice none 0 0, ?_, ?_⟩, hb⟩
  · have h1 : lsnL L = 0 := by unfold lsnL; rw [if_pos h]
    have h2 : nextL L = 0 := by unfold nextL; rw [if_pos h]
    rw [h1, h2, h]; rfl
  · have h3 : rowsL L = [] := by unfold rowsL; rw [if_pos h]
    rw [h3]; exact OQ.nil _ _

set_option maxHeartbeats 4000000 in
set_option maxRecDepth 100000 in
theorem Of_len (N : Nat) (a : Option Addr) (n c : Nat) (L : List UInt8) (w : World) (hr : RB N w a n c L) (hn : n ≠ 512) :
    Calls Tryz.prog 49 #[.slice a n c] w (OfR w L) := by
  have h0 : behindL L = 0 := by
    unfold behindL
    rw [if_pos (.inl (by rw [← hr.len]; exact hn))]
  have H0 := Lib.hid h0
  have hne : ((n : Int) != 512) = true := by simp; omega
  have hne' : ¬ (n : Int) = 512 := by omega
  have hp := P3.new w 0 0 (.slice none 0 0)
  obtain ⟨c0, c1, c2⟩ := hp.cells
  obtain ⟨f0, f1, f2⟩ := hp.frozen
  have Hp := Lib.hid hp
  clear h0 hp
  go_enter Tryz.func49, Tryz.ntmps49
  go_wp2_with (fail)
  refine bodyPost_ret (v := .tuple #[.agg #[.int .i64 0, .int .i64 0, .slice none 0 0], .bool false]) (by simp [results, Tryz.f49, go_sem, c0, c1, c2]) rfl (OfR.no H0.out ((Below.refl _ w).alloc (Nat.le_refl _) _))

set_option maxHeartbeats 4000000 in
set_option maxRecDepth 100000 in
theorem Of_512 (N : Nat) (b o c : Nat) (L : List UInt8) (w : World) (hr : RB N w (some ⟨b, o, none⟩) 512 c L) (hN : N ≤ w.heap.size) :
    Calls Tryz.prog 49 #[.slice (some ⟨b, o, none⟩) 512 c] w (OfR w L) := by
  have hlen := hr.len
  have hle := hr.le
  have hmx := hr.mx
  obtain ⟨b', o', he, hB, hcell⟩ := hr.at_ (by omega)
  cases he
  obtain ⟨z, hz⟩ : ∃ z, z = w.heap.size := ⟨_, rfl⟩
  have hbz : b < z := by omega
  have hp := P3.new w 0 0 (.slice none 0 0)
  rw [← hz] at hp
  have hb0 : Below z w (w.alloc (.cells #[.int .i64 0, .int .i64 0, .slice none 0 0] 94)) := (Below.refl _ w).alloc (by omega) _
  obtain ⟨W0, hW0⟩ : ∃ W0, W0 = w.alloc (.cells #[.int .i64 0, .int .i64 0, .slice none 0 0] 94) := ⟨_, rfl⟩
  rw [← hW0] at hp hb0
  have Hp := Lib.hid hp
  have Hz := Lib.hid hz
  have Hb0 := Lib.hid hb0
  have Hlen := Lib.hid hlen
  have Hcell : Hid (∀ i, i < 512 → W0.cell? ⟨b, o + i, none⟩ = some (.int .u8 (bt L i))) := Lib.hid (fun i hi => (hb0.cell (p := ⟨b, o + i, none⟩) hbz).trans (hcell i hi))
  have hs0 : W0.heap.size = z + 1 := by rw [hW0, World.size_alloc, hz]
  have Hs0 := Lib.hid hs0
  have HW0 := Lib.hid hW0
  clear hcell hlen hp hz hb0 hs0 hW0
  go_enter Tryz.func49, Tryz.ntmps49
  go_wp2_with (fail)
  rw [← HW0.out, ← Hz.out]
  go_loop [4, 5] (fun nn i => ∃ j : Nat, j ≤ 8 ∧ i = .int .i64 j ∧ nn = .int .u64 (numL (L.take j) : Nat)) (fun _ i => 8 - (intOf i).toNat)
  case atStart => exact ⟨0, by omega, rfl, rfl⟩
  case round =>
    obtain ⟨j, hj, rfl, rfl⟩ := hrel
    by_cases hlt : j < 8
    · have g0 := Hcell.out j (by omega)
      have hb := bt_bd L j
      have hnum := numL_take L j (by rw [← Hlen.out]; omega)
      obtain ⟨x, hx⟩ : ∃ x, x = numL (L.take j) := ⟨_, rfl⟩
      have hx8 : x < 72057594037927936 := by
        have h1 := numL_lt8 L j (by rw [← Hlen.out]; omega)
        have h2 : (256 : Nat) ^ j ≤ 256 ^ 7 := Nat.pow_le_pow_right (by decide) (by omega)
        rw [hx]
        exact Nat.lt_of_lt_of_le h1 (Nat.le_trans h2 (by decide))
      rw [← hx] at hnum ⊢
      have Hnum := Lib.hid hnum
      have o1 : IntKind.u64.wrap (256 * (x : Int)) = 256 * (x : Int) := by unfold IntKind.wrap; simp [IntKind.bits, IntKind.signed]; omega
      have o2 : IntKind.u64.wrap (256 * (x : Int) + bt L j) = 256 * (x : Int) + bt L j := by unfold IntKind.wrap; simp [IntKind.bits, IntKind.signed]; omega
      have o3 : IntKind.u64.wrap (bt L j) = bt L j := by unfold IntKind.wrap; simp [IntKind.bits, IntKind.signed]; omega
      clear hnum hx
      go_wp2_with (fail)
      go_round
      case rel => exact ⟨j + 1, by omega, by go_num, by rw [Hnum.out]; congr 1; omega⟩
      case measure => simp [intOf]; omega
    · have hge : j = 8 := by omega
      subst hge
      have g8 := Hcell.out 8 (by omega)
      have g9 := Hcell.out 9 (by omega)
      have b8 := bt_bd L 8
      have b9 := bt_bd L 9
      obtain ⟨x, hx⟩ : ∃ x, x = numL (L.take 8) := ⟨_, rfl⟩
      rw [← hx]
      have Hx := Lib.hid hx
      obtain ⟨y, hy⟩ : ∃ y : Int, IntKind.i64.wrap (x : Int) = y := ⟨_, rfl⟩
      have hyx : (bt L 0 ≤ 127 → y = (x : Int) ∧ (x : Int) < 9223372036854775808) ∧ (¬ bt L 0 ≤ 127 → y < 0) := by
        constructor
        · intro h0
          have := numL_lt 7 L (by rw [← Hlen.out]; omega) h0
          have hx63 : x < 9223372036854775808 := by rw [hx]; exact this
          rw [← hy]
          exact ⟨IntWalk.i64_in _ (by omega), by omega⟩
        · intro h0
          have h1 := numL_ge L 7 (by rw [← Hlen.out]; omega) (by omega)
          have h2 := numL_lt8 L 8 (by rw [← Hlen.out]; omega)
          have h3 : 9223372036854775808 ≤ x := by rw [hx]; exact h1
          have h4 : x < 18446744073709551616 := by rw [hx]; exact h2
          rw [← hy]
          unfold IntKind.wrap
          simp [IntKind.bits, IntKind.signed]
          omega
      have Hyx := Lib.hid hyx
      have g8 := Hcell.out 8 (by omega)
      have g9 := Hcell.out 9 (by omega)
      clear hx hyx
      go_upto_region 8 with (fail)
      go_cut [6] (fun s6 wx => s6 = .pointer (some ⟨z + 1, 0, none⟩) ∧ Hid (P3 wx (z + 1) y (bt L 8 * 256 + bt L 9) (.slice none 0 0)) ∧ Hid (P3 wx z 0 0 (.slice none 0 0)) ∧ Hid (Below z w wx) ∧ Hid (Below (z + 1) W0 wx) ∧ Hid (wx.heap.size = z + 2))
      case first =>
        have hnew := World.new_ne W0 ⟨b, o + 8, none⟩ g8
        have w1 : IntKind.i64.wrap (bt L 8) = bt L 8 := IntWalk.i64_in _ (by omega)
        have w2 : IntKind.i64.wrap (bt L 8 * 256) = bt L 8 * 256 := IntWalk.i64_in _ (by omega)
        have w3 : IntKind.i64.wrap (bt L 9) = bt L 9 := IntWalk.i64_in _ (by omega)
        have w4 : IntKind.i64.wrap (bt L 8 * 256 + bt L 9) = bt L 8 * 256 + bt L 9 := IntWalk.i64_in _ (by omega)
        go_region_held3 (fun w' => w'.cell? ⟨b, o + 8, none⟩ = some (.int .u8 (bt L 8)) ∧ w'.cell? ⟨b, o + 9, none⟩ = some (.int .u8 (bt L 9))) (go_keep) (fail)
        clear w1 w2 w3 w4
        go_wp2_with (fail)
        go_meet
        case rel =>
          have hb1 : Below W0.heap.size W0 (W0.alloc (.cells #[.int .i64 y, .int .i64 (bt L 8 * 256 + bt L 9), .slice none 0 0] 94)).drew := ((Below.refl _ W0).alloc (Nat.le_refl _) _).drew
          have hp1 : P3 (W0.alloc (.cells #[.int .i64 y, .int .i64 (bt L 8 * 256 + bt L 9), .slice none 0 0] 94)).drew W0.heap.size y (bt L 8 * 256 + bt L 9) (.slice none 0 0) := P3.new W0 y (bt L 8 * 256 + bt L 9) (.slice none 0 0)
          rw [Hs0.out] at hp1
          have hs : (W0.alloc (.cells #[.int .i64 y, .int .i64 (bt L 8 * 256 + bt L 9), .slice none 0 0] 94)).drew.heap.size = z + 2 := by
            show (W0.alloc _).heap.size = _
            rw [World.size_alloc, Hs0.out]
          have hlt := Hp.out.lt
          have hss := Hs0.out
          exact ⟨by rw [Hs0.out], Lib.hid hp1, Lib.hid (Hp.out.below hb1 Hp.out.lt), Lib.hid (Hb0.out.trans (hb1.mono (by omega))), Lib.hid (hb1.mono (by omega)), Lib.hid hs⟩
      case rest =>
        obtain ⟨rfl, Px, Pz, Bz, B0, Sz⟩ := hcut
        rename World => w8
        obtain ⟨d0, d1, d2⟩ := Px.out.cells
        clear g8 g9 hy
        by_cases hy0 : y < 0
        · have h0 : behindL L = 0 := by
            have h1 : ¬ bt L 0 ≤ 127 := fun h => by have := (Hyx.out.1 h).1; omega
            unfold behindL; rw [if_pos (by omega)]
          have H0 := Lib.hid h0
          clear h0
          obtain ⟨n0, n1, n2⟩ := Pz.out.cells
          obtain ⟨m0, m1, m2⟩ := Pz.out.frozen
          go_wp2_with (fail)
          have R5 := Pz.out.setAll (l' := 0) (x' := 0) (v' := .slice none 0 0)
          obtain ⟨k0, k1, k2⟩ := R5.cells
          refine bodyPost_ret (v := .tuple #[.agg #[.int .i64 0, .int .i64 0, .slice none 0 0], .bool false]) (by simp [results, Tryz.f49, go_sem, k0, k1, k2]) rfl (OfR.no H0.out ?_)
          rw [← Hz.out]
          exact ((Bz.out.setCell (p := ⟨z, 0, none⟩) (Nat.le_refl _) _).setCell (p := ⟨z, 1, none⟩) (Nat.le_refl _) _).setCell (p := ⟨z, 2, none⟩) (Nat.le_refl _) _
        have hy0' : ¬ y < 0 := hy0
        by_cases h8 : 32 ≤ bt L 8
        · have h0 : behindL L = 0 := by unfold behindL; rw [if_pos (by omega)]
          have H0 := Lib.hid h0
          have i1 : (8192 : Int) ≤ bt L 8 * 256 + bt L 9 := by omega
          clear h0
          obtain ⟨n0, n1, n2⟩ := Pz.out.cells
          obtain ⟨m0, m1, m2⟩ := Pz.out.frozen
          go_wp2_with (fail)
          have R5 := Pz.out.setAll (l' := 0) (x' := 0) (v' := .slice none 0 0)
          obtain ⟨k0, k1, k2⟩ := R5.cells
          refine bodyPost_ret (v := .tuple #[.agg #[.int .i64 0, .int .i64 0, .slice none 0 0], .bool false]) (by simp [results, Tryz.f49, go_sem, k0, k1, k2]) rfl (OfR.no H0.out ?_)
          rw [← Hz.out]
          exact ((Bz.out.setCell (p := ⟨z, 0, none⟩) (Nat.le_refl _) _).setCell (p := ⟨z, 1, none⟩) (Nat.le_refl _) _).setCell (p := ⟨z, 2, none⟩) (Nat.le_refl _) _
        have i1 : ¬ (8192 : Int) ≤ bt L 8 * 256 + bt L 9 := by omega
        have hm10 := bt_bd L 10
        obtain ⟨m, hm⟩ : ∃ m : Nat, m = (bt L 10).toNat := ⟨_, rfl⟩
        have hmI : bt L 10 = (m : Int) := by omega
        have hm255 : m ≤ 255 := by omega
        have Hm := Lib.hid hm
        have HmI := Lib.hid hmI
        have I3 := Lib.hid (show bt L 0 ≤ 127 ∧ bt L 8 < 32 from ⟨by
          by_cases h : bt L 0 ≤ 127
          · exact h
          · exact absurd (Hyx.out.2 h) hy0', by omega⟩)
        obtain ⟨X, hX⟩ : ∃ X : Int, X = bt L 8 * 256 + bt L 9 := ⟨_, rfl⟩
        rw [← hX] at Px i1 d1
        have HX := Lib.hid hX
        have HC : Hid (∀ W, Below (z + 1) W0 W → ∀ i, i < 512 → W.cell? ⟨b, o + i, none⟩ = some (.int .u8 (bt L i))) := Lib.hid fun W h i hi => (h.cell (p := ⟨b, o + i, none⟩) (by show b < z + 1; omega)).trans (Hcell.out i hi)
        have HRB : Hid (∀ W, Below (z + 1) W0 W → RB (z + 1) W (some ⟨b, o, none⟩) 512 c L) := Lib.hid fun W h => ((hr.below (B := N) ⟨Hb0.out.os, Hb0.out.tape, Hb0.out.output, Hb0.out.size, fun k hk => Hb0.out.block k (by have := Hz.out; omega)⟩).mono (by have := Hz.out; omega)).below h
        clear hm hmI hm10 hX b8 b9 hr
        go_wp2_with (fail)
        go_loopw [7, 8] (fun s7 s8 wr => ∃ (j q f : Nat) (va : Option Addr) (vc : Nat), s8 = .int .i64 j ∧ s7 = .int .i64 q ∧ j ≤ m ∧ q ≤ 512 ∧ Hid (11 ≤ q ∧ stO L j = some (q, f)) ∧ Hid (P3 wr (z + 1) y X (.slice va j vc)) ∧ Hid (P3 wr z 0 0 (.slice none 0 0)) ∧ Hid (OQ (z + 2) wr (.slice va j vc) (rowsO L j)) ∧ Hid (Below (z + 1) W0 wr) ∧ Hid (Below z w wr) ∧ Hid (z + 2 ≤ wr.heap.size)) (fun _ s8 _ => m - (intOf s8).toNat)
        case atStart => exact ⟨0, 11, 0, none, 0, rfl, rfl, Nat.zero_le _, by omega, Lib.hid ⟨Nat.le_refl _, st_zero L⟩, Px, Pz, Lib.hid (OQ.nil _ _), B0, Bz, Lib.hid (by rw [Sz.out]; exact Nat.le_refl _)⟩
        case round =>
          clear Px Pz Bz B0 Sz d0 d1 d2
          obtain ⟨wk, rfl⟩ : ∃ x, x = wr := ⟨_, rfl⟩
          obtain ⟨j, q, f, va, vc, rfl, rfl, hj, hq, Hst, Px, Pz, HR, B0, Bz, Sz⟩ := hrel
          have g10 := HC.out wk B0.out 10 (by omega)
          rw [HmI.out] at g10
          have bm : IntKind.i64.wrap (m : Int) = (m : Int) := IntWalk.i64_in _ (by omega)
          by_cases hjm : j < m
          · have Hnext := Lib.hid (st_next Hst.out.2 (by have := Hm.out; omega)).2
            go_wp2_with (fail)
            have o1 : IntKind.i64.wrap ((q : Int) + 2) = (q : Int) + 2 := IntWalk.i64_in _ (by omega)
            by_cases hq2 : q + 2 ≤ 512
            · have bq := bt_bd L q
              have bq1 := bt_bd L (q + 1)
              have gq := HC.out wk B0.out q (by omega)
              have gq1 := HC.out wk B0.out (q + 1) (by omega)
              obtain ⟨K, hK⟩ : ∃ K : Nat, bt L q = (K : Int) := ⟨(bt L q).toNat, by omega⟩
              obtain ⟨V, hV⟩ : ∃ V : Nat, bt L (q + 1) = (V : Int) := ⟨(bt L (q + 1)).toNat, by omega⟩
              rw [hK] at gq bq
              rw [hV] at gq1 bq1
              have HK := Lib.hid hK
              have HV := Lib.hid hV
              have hbk : b < wk.heap.size := by have := Sz.out; omega
              have f0 : ∀ x : BelowW wk, x.v.cell? ⟨b, o + q, none⟩ = some (.int .u8 (K : Int)) := fun x => (x.h.cell hbk).trans gq
              have f1 : ∀ x : BelowW wk, x.v.cell? ⟨b, o + (q + 1), none⟩ = some (.int .u8 (V : Int)) := fun x => (x.h.cell hbk).trans gq1
              have hend : endOf L q = q + 2 + K + V := by rw [endOf_in (by have := Hlen.out; omega), hK, hV]; rfl
              have Hend := Lib.hid hend
              clear hK hV hend gq gq1
              have t1 : decide ((512 : Int) < (q : Int) + 2) = false := decide_eq_false (by omega)
              have o2 : IntKind.i64.wrap (K : Int) = (K : Int) := IntWalk.i64_in _ (by omega)
              have o3 : IntKind.i64.wrap ((q : Int) + 2 + (K : Int)) = (q : Int) + 2 + (K : Int) := IntWalk.i64_in _ (by omega)
              have o4 : IntKind.i64.wrap ((q : Int) + 1) = (q : Int) + 1 := IntWalk.i64_in _ (by omega)
              have o5 : IntKind.i64.wrap (V : Int) = (V : Int) := IntWalk.i64_in _ (by omega)
              have o6 : IntKind.i64.wrap ((q : Int) + 2 + (K : Int) + (V : Int)) = (q : Int) + 2 + (K : Int) + (V : Int) := IntWalk.i64_in _ (by omega)
              have o7 : (0 : Int) ≤ (q : Int) + 1 := by omega
              have o8 : ((q : Int) + 1).toNat = q + 1 := by omega
              have o9 : (q : Int) + 1 < 512 := by omega
              have o10 : (q : Int) < 512 := by omega
              by_cases hin : q + 2 + K + V ≤ 512
              · have t2 : decide ((512 : Int) < (q : Int) + 2 + (K : Int) + (V : Int)) = false := decide_eq_false (by omega)
                refine wp_region_below wk (by kernel_rfl) (by kernel_rfl) (Below.refl _ _) ?_
                repeat (go_big_quiet_step (fail))
                refine wpQuiet_nil ?_
                intro _ hw'
                obtain ⟨x, hw''⟩ := hw'
                subst hw''
                have e0 := f0 x
                have e1 := f1 x
                have Bx := Lib.hid (B0.out.trans (x.h.mono (by have := Sz.out; omega)))
                go_upto_region 19 with (fail)
                have hKO : keyOf L q = (L.drop (q + 2)).take K := by unfold keyOf; rw [HK.out]; rfl
                have hVO : valOf L q (endOf L q) = (L.drop (q + 2 + K)).take V := by unfold valOf; rw [Hend.out, HK.out]; simp only [Int.toNat_natCast]; congr 1; omega
                have hKl : (keyOf L q).length = K := by rw [hKO, List.length_take, List.length_drop]; have := Hlen.out; omega
                have hVl : (valOf L q (endOf L q)).length = V := by rw [hVO, List.length_take, List.length_drop]; have := Hlen.out; omega
                obtain ⟨kl, hkl⟩ : ∃ kl, kl = keyOf L q := ⟨_, rfl⟩
                obtain ⟨vl, hvl⟩ : ∃ vl, vl = valOf L q (endOf L q) := ⟨_, rfl⟩
                rw [← hkl] at hKO hKl
                rw [← hvl] at hVO hVl
                have HKO := Lib.hid hKO
                have HVO := Lib.hid hVO
                have HKl := Lib.hid hKl
                have HVl := Lib.hid hVl
                have Hkl := Lib.hid hkl
                have Hvl := Lib.hid hvl
                have Sx : Hid (z + 2 ≤ x.v.heap.size) := Lib.hid (Nat.le_trans Sz.out x.h.size)
                clear hKO hVO hKl hVl hkl hvl
                go_cut [11] (fun s11 wx => ∃ (gr : Nat) (a1 a2 : Option Addr) (c1 c2 : Nat), s11 = .pointer (some ⟨gr, 0, none⟩) ∧ Hid (OB x.v.heap.size wx (.slice a1 K c1) kl) ∧ Hid (OB x.v.heap.size wx (.slice a2 V c2) vl) ∧ Hid (T2 wx gr (.slice a1 K c1) (.slice a2 V c2)) ∧ Hid (Below x.v.heap.size x.v wx) ∧ Hid (x.v.heap.size ≤ gr))
                case first =>
                  refine row_region (b := b) (o := o) (c := c) (q := q) (k := q + 2 + K) (v := q + 2 + K + V) (L := L) rfl rfl (congrArg (Value.int .i64) (show ((q : Int) + 2 + (K : Int)) = ((q + 2 + K : Nat) : Int) by omega)) (congrArg (Value.int .i64) (show ((q : Int) + 2 + (K : Int) + (V : Int)) = ((q + 2 + K + V : Nat) : Int) by omega)) (by simp) ((HRB.out _ Bx.out).mono (by have := Sx.out; omega)) (by omega) (by omega) hin (fun _ _ _ _ _ h => h) ?_
                  intro A w' a1 n1 c1 a2 n2 c2 gr sb e11 r1 r2 r3 r4 r5
                  rw [show q + 2 + K - (q + 2) = K by omega, ← HKO.out] at r1
                  rw [show q + 2 + K + V - (q + 2 + K) = V by omega, ← HVO.out] at r2
                  obtain rfl : n1 = K := by
                    obtain ⟨a', c', e', -⟩ := r1.rb (by have := HKl.out; omega)
                    cases e'; exact HKl.out
                  obtain rfl : n2 = V := by
                    obtain ⟨a', c', e', -⟩ := r2.rb (by have := HVl.out; omega)
                    cases e'; exact HVl.out
                  rw [sb.eq]
                  simp only [roL, List.foldl_cons, List.foldl_nil]
                  rw [e11]
                  generalize A.eval (.tmp 97) = x97
                  generalize A.eval (.tmp 98) = x98
                  generalize A.eval (.tmp 99) = x99
                  generalize A.eval (.tmp 100) = x100
                  generalize A.eval (.tmp 101) = x101
                  generalize A.eval (.tmp 102) = x102
                  generalize A.eval (.tmp 103) = x103
                  generalize A.eval (.tmp 104) = x104
                  generalize A.eval (.tmp 105) = x105
                  generalize A.eval (.tmp 106) = x106
                  generalize A.eval (.tmp 107) = x107
                  generalize A.eval (.tmp 108) = x108
                  generalize A.eval (.tmp 109) = x109
                  generalize A.eval (.tmp 110) = x110
                  have R1 := Lib.hid r1
                  have R2 := Lib.hid r2
                  have R3 := Lib.hid r3
                  have R4 := Lib.hid r4
                  have R5 := Lib.hid r5
                  clear r1 r2 r3 r4 r5 sb e11
                  simp only [Act.put, List.setIfInBounds_toArray, List.set_cons_zero, List.set_cons_succ]
                  go_wp2_with (fail)
                  go_meet
                  case rel => exact ⟨gr, a1, a2, c1, c2, rfl, R1, R2, R3, R4, R5⟩
                case rest =>
                  obtain ⟨gr, a1, a2, c1, c2, rfl, OK1, OV1, T1, B1, G1⟩ := hcut
                  rename World => w9
                  have Bw9 : Hid (Below wk.heap.size wk w9) := Lib.hid (x.h.trans (B1.out.mono x.h.size))
                  have Bz9 := Lib.hid (Bz.out.trans (Bw9.out.mono (by have := Sz.out; omega)))
                  have Px9 := Lib.hid (Px.out.below Bw9.out Px.out.lt)
                  have Pz9 := Lib.hid (Pz.out.below Bw9.out Pz.out.lt)
                  have HR9 := Lib.hid (HR.out.below Bw9.out)
                  have Sz9 : Hid (z + 2 ≤ w9.heap.size) := Lib.hid (Nat.le_trans Sz.out Bw9.out.size)
                  have hRl : (rowsO L j).length = j := rowsO_len Hst.out.2 (by have := Hm.out; omega)
                  have hokr : okRow L f q (endOf L q) = (rowB K V && (decide (f = 0) || decide (cb (keyOf L f) kl < 0))) := by
                    have h := ok_row (p := L) (f := f) (q := q) (by rw [HK.out, HV.out]; have := Hlen.out; simp only [Int.toNat_natCast]; omega)
                    rw [HK.out, HV.out, ← Hkl.out] at h
                    exact h
                  have HOkr := Lib.hid hokr
                  have f2 : ∀ x : BelowW w9, x.v.cell? ⟨gr, 0, none⟩ = some (.slice a1 K c1) := fun x => (T1.out.below x.h T1.out.lt).cells.1
                  have f3 : ∀ x : BelowW w9, x.v.cell? ⟨gr, 1, none⟩ = some (.slice a2 V c2) := fun x => (T1.out.below x.h T1.out.lt).cells.2
                  have hrbk : RB w9.heap.size w9 a1 K c1 kl := by
                    obtain ⟨a', c', e', h⟩ := OK1.out.rb (by have := HKl.out; omega)
                    rw [HKl.out] at e' h
                    cases e'; exact h
                  clear hokr e0 e1 f0 f1
                  cases hrow : rowB K V with
                  | false =>
                    have h0 : behindL L = 0 := st_fail (j := j + 1) (by rw [Hnext.out, if_neg]; rw [HOkr.out, hrow]; simp)
                    have H0 := Lib.hid h0
                    have hrowc : ∀ W : World, Calls Tryz.prog 85 #[.agg #[.slice a1 K c1, .slice a2 V c2]] W fun e w' => e = .returned (.bool false) ∧ Below W.heap.size W w' := fun W => by
                      have h := row_any a1 a2 K c1 V c2 W (by omega) (by omega)
                      rw [hrow] at h; exact h
                    clear h0 hrow hrbk hRl
                    go_wp2_with (fail)
                    refine wp_region_below w9 (by kernel_rfl) (by kernel_rfl) (Below.refl _ _) ?_
                    repeat (go_big_quiet_step ((go_at_call 85; exact below_call (hrowc _))))
                    refine wpQuiet_nil ?_
                    intro _ hw'
                    obtain ⟨y2, hw''⟩ := hw'
                    subst hw''
                    have Pz := Lib.hid (Pz9.out.below y2.h Pz9.out.lt)
                    have Bz := Lib.hid (Bz9.out.trans (y2.h.mono (by have := Sz9.out; omega)))
                    obtain ⟨n0, n1, n2⟩ := Pz.out.cells
                    obtain ⟨m0, m1, m2⟩ := Pz.out.frozen
                    go_wp2_with (fail)
                    have R5 := Pz.out.setAll (l' := 0) (x' := 0) (v' := .slice none 0 0)
                    obtain ⟨k0, k1, k2⟩ := R5.cells
                    refine bodyPost_ret (v := .tuple #[.agg #[.int .i64 0, .int .i64 0, .slice none 0 0], .bool false]) (by simp [results, Tryz.f49, go_sem, k0, k1, k2]) rfl (OfR.no H0.out ?_)
                    rw [← Hz.out]
                    exact ((Bz.out.setCell (p := ⟨z, 0, none⟩) (Nat.le_refl _) _).setCell (p := ⟨z, 1, none⟩) (Nat.le_refl _) _).setCell (p := ⟨z, 2, none⟩) (Nat.le_refl _) _
                  | true =>
                    have hrowc : ∀ W : World, Calls Tryz.prog 85 #[.agg #[.slice a1 K c1, .slice a2 V c2]] W fun e w' => e = .returned (.bool true) ∧ Below W.heap.size W w' := fun W => by
                      have h := row_any a1 a2 K c1 V c2 W (by omega) (by omega)
                      rw [hrow] at h; exact h
                    have Hrow := Lib.hid hrow
                    clear hrow
                    rcases Nat.eq_zero_or_pos j with hj0 | hj0
                    · have hf0 : f = 0 := by
                        have h := Hst.out.2
                        rw [hj0, st_zero] at h
                        cases h; rfl
                      have Hj0 := Lib.hid hj0
                      have HOK : Hid (okRow L f q (endOf L q) = true) := Lib.hid (by rw [HOkr.out, Hrow.out, hf0]; simp)
                      have i5 : decide ((0 : Int) < (j : Int)) = false := decide_eq_false (by omega)
                      have i5n : decide (0 < j) = false := decide_eq_false (by omega)
                      have i5m : ¬ 0 < j := by omega
                      clear hf0 hj0
                      go_wp2_with (fail)
                      refine wp_region_below w9 (by kernel_rfl) (by kernel_rfl) (Below.refl _ _) ?_
                      repeat (go_big_quiet_step ((go_at_call 85; exact below_call (hrowc _))))
                      refine wpQuiet_nil ?_
                      intro _ hw'
                      obtain ⟨y2, hw''⟩ := hw'
                      subst hw''
                      have B10 := Lib.hid (Bw9.out.trans (y2.h.mono Bw9.out.size))
                      have e0 := (T1.out.below y2.h T1.out.lt).cells.1
                      have e1 := (T1.out.below y2.h T1.out.lt).cells.2
                      have Px10 := Lib.hid (Px9.out.below y2.h Px9.out.lt)
                      have Pz10 := Lib.hid (Pz9.out.below y2.h Pz9.out.lt)
                      obtain ⟨-, -, e2⟩ := Px10.out.cells
                      have HR10 := Lib.hid ((HR9.out.below y2.h).below ((Below.refl y2.v.heap.size y2.v).alloc (Nat.le_refl _) (.cells #[.slice a1 K c1, .slice a2 V c2] 60)))
                      have Hone := Lib.hid (rows_one (g0 := (Value.slice va j vc).ownBlock) (W1 := y2.v.alloc (.cells #[.slice a1 K c1, .slice a2 V c2] 60)) OK1.out OV1.out (by have := HKl.out; omega) (by have := HVl.out; omega) (fun b e => Nat.lt_of_lt_of_le (HR.out.or.own_ge b e).2.1 x.h.size) (y2.h.alloc y2.h.size _))
                      have Hfar := Lib.hid (fun u hu b o s n c e hc => by
                        have h1 := Hone.out.2 u hu b o s n c e hc
                        have h2 := Sx.out
                        omega : ∀ u ∈ [Value.slice a1 K c1, Value.slice a2 V c2], Far (z + 2) u)
                      have Hge := Lib.hid (fun b e => (HR10.out.or.own_ge b e).1 : ∀ b, (Value.slice va j vc).ownBlock = some b → z + 2 ≤ b)
                      have S10 : Hid (z + 2 ≤ y2.v.heap.size) := Lib.hid (Nat.le_trans Sz9.out y2.h.size)
                      have Hnew : Hid (stO L (j + 1) = some (q + 2 + K + V, q)) := Lib.hid (by rw [Hnext.out, if_pos HOK.out, Hend.out])
                      have HlenR : Hid ((rowsO L j ++ [(kl, vl)]).length = j + 1) := Lib.hid (by rw [List.length_append, hRl]; rfl)
                      have Hsnoc : Hid (rowsO L (j + 1) = rowsO L j ++ [(kl, vl)]) := Lib.hid (by rw [rowsO_snoc Hst.out.2 (by have := Hm.out; omega), Hkl.out, Hvl.out])
                      have HRl := Lib.hid hRl
                      clear hRl f2 f3 hrbk hrowc
                      go_wp2_with (at_builtin; refine wpList_append_rows rfl _ _ rfl (z + 2) (Value.slice va j vc) (rowsO L j) [(kl, vl)] rfl HR10.out (some ⟨y2.v.heap.size, 0, none⟩) 1 [.slice a1 K c1, .slice a2 V c2] rfl (fun _ => ⟨_, rfl, World.news_of_block (heap_alloc_new _ _)⟩) Hone.out.1 Hfar.out (by rw [World.size_alloc]; have := S10.out; omega) (by have := HRl.out; simp; omega) ?_; intro a' c' w11 hq11 hg11; rw [HlenR.out] at hq11 ⊢; have Hq11 := Lib.hid hq11; have Hg11 := Lib.hid hg11; have P11 := Lib.hid ((Px10.out.below ((Below.refl y2.v.heap.size y2.v).alloc (Nat.le_refl _) (.cells #[.slice a1 K c1, .slice a2 V c2] 60)) Px10.out.lt).grow hg11 (fun e => by have := Hge.out _ e.symm; omega)); obtain ⟨-, -, n2⟩ := P11.out.cells; obtain ⟨-, -, m2⟩ := P11.out.frozen; clear hq11 hg11)
                      have P12 := Lib.hid (P11.out.set2 (.slice a' (j + 1) c'))
                      have Pz11 : P3 w11 z 0 0 (.slice none 0 0) := (Pz10.out.below ((Below.refl y2.v.heap.size y2.v).alloc (Nat.le_refl _) (.cells #[.slice a1 K c1, .slice a2 V c2] 60)) Pz10.out.lt).grow Hg11.out (fun e => by have := Hge.out _ e.symm; omega)
                      have Pz12 := Lib.hid (Pz11.other (j := z + 1) (o := 2) (by omega) (.slice a' (j + 1) c'))
                      have Q12 := Lib.hid (Hq11.out.mod (Mod.set (z + 1) (Mod.refl (z + 1) w11) 2 (.slice a' (j + 1) c')) (by omega))
                      rw [← Hsnoc.out] at Q12
                      have hsA : y2.v.heap.size ≤ (y2.v.alloc (.cells #[.slice a1 K c1, .slice a2 V c2] 60)).heap.size := by rw [World.size_alloc]; omega
                      have hs10 := S10.out
                      have D0 := Lib.hid ((((B0.out.trans (B10.out.mono (by have := Sz.out; omega))).alloc (by omega) (.cells #[.slice a1 K c1, .slice a2 V c2] 60)).grown Hg11.out (by omega) (fun k e => by have := Hge.out k e; omega)).setCell (p := ⟨z + 1, 2, none⟩) (Nat.le_refl _) (.slice a' (j + 1) c'))
                      have Dz := Lib.hid ((((Bz.out.trans (B10.out.mono (by have := Sz.out; omega))).alloc (by omega) (.cells #[.slice a1 K c1, .slice a2 V c2] 60)).grown Hg11.out (by omega) (fun k e => by have := Hge.out k e; omega)).setCell (p := ⟨z + 1, 2, none⟩) (Nat.le_succ _) (.slice a' (j + 1) c'))
                      have D1 : Hid (z + 2 ≤ (w11.setCell ⟨z + 1, 2, none⟩ (.slice a' (j + 1) c')).heap.size) := Lib.hid (by
                        have h := Hg11.out.size
                        have h2 : (w11.setCell ⟨z + 1, 2, none⟩ (.slice a' (j + 1) c')).heap.size = w11.heap.size := by simp [World.setCell]
                        omega)
                      go_roundw
                      case rel => exact ⟨j + 1, q + 2 + K + V, q, a', c', by go_num, by go_num, by omega, hin, Lib.hid ⟨by have := Hst.out.1; omega, Hnew.out⟩, P12, Pz12, Q12, D0, Dz, D1⟩
                      case measure => simp [intOf]; omega
                    ·
                      obtain ⟨hf11, vprev, hget⟩ := st_pred Hst.out.2 hj0 (by have := Hm.out; omega)
                      obtain ⟨va', vc', e', hrows⟩ := HR9.out.or.rows
                      rw [hRl] at e' hrows
                      cases e'
                      obtain ⟨b', o', rfl, hB', hi⟩ := hrows.at_ (Nat.lt_of_lt_of_le hj0 hrows.le)
                      have hvcm := hrows.mx
                      have hvcl := hrows.le
                      obtain ⟨ka, kn, kc, va2, vn2, vc2, h1, -, h3, -⟩ := hi (j - 1) _ hget
                      have q2 : ∀ x : BelowW w9, x.v.cell? ⟨z + 1, 2, none⟩ = some (.slice (some ⟨b', o', none⟩) j vc) := fun x => (Px9.out.below x.h Px9.out.lt).cells.2.2
                      have q3 : ∀ x : BelowW w9, x.v.cell? ⟨b', o' + (j - 1) * 2, none⟩ = some (.slice ka kn kc) := fun x => (x.h.cell hB').trans h1
                      have q4 : ∀ x : BelowW w9, (convert 22 9 (.slice ka kn kc)).run Tryz.prog x.v = .ok (.string ⟨(keyOf L f).toArray⟩) x.v := fun x => run_conv (h3.below x.h) _ _ _ Tryz.underlying22 Tryz.underlying5 Tryz.underlying9
                      have q5 : ∀ x : BelowW w9, (convert 22 9 (.slice a1 K c1)).run Tryz.prog x.v = .ok (.string ⟨kl.toArray⟩) x.v := fun x => run_conv (hrbk.below x.h) _ _ _ Tryz.underlying22 Tryz.underlying5 Tryz.underlying9
                      have i5 : decide ((0 : Int) < (j : Int)) = true := decide_eq_true (by omega)
                      have i6 : IntKind.i64.wrap ((j : Int) - 1) = (j : Int) - 1 := IntWalk.i64_in _ (by omega)
                      have i7 : (0 : Int) ≤ (j : Int) - 1 := by omega
                      have i8 : (j : Int) - 1 < (j : Int) := by omega
                      have i9 : ((j : Int) - 1).toNat = j - 1 := by omega
                      have Hf11 := Lib.hid hf11
                      obtain ⟨pk, hpk⟩ : ∃ pk, pk = keyOf L f := ⟨_, rfl⟩
                      rw [← hpk] at q4
                      have Hpk := Lib.hid hpk
                      clear hf11 hget hrows hi h1 h3 hpk
                      cases hless : Op.bytesLess pk kl with
                      | true =>
                        have HOK : Hid (okRow L f q (endOf L q) = true) := Lib.hid (by rw [HOkr.out, Hrow.out, ← Hpk.out, decide_eq_true (less_cb' hless)]; simp)
                        go_wp2_with (fail)
                        refine wp_region_below w9 (by kernel_rfl) (by kernel_rfl) (Below.refl _ _) ?_
                        repeat (go_big_quiet_step ((go_at_call 85; exact below_call (hrowc _))))
                        refine wpQuiet_nil ?_
                        intro _ hw'
                        obtain ⟨y2, hw''⟩ := hw'
                        subst hw''
                        clear q2 q3 q4 q5 hless i5 i6 i7 i8 i9
                        have B10 := Lib.hid (Bw9.out.trans (y2.h.mono Bw9.out.size))
                        have e0 := (T1.out.below y2.h T1.out.lt).cells.1
                        have e1 := (T1.out.below y2.h T1.out.lt).cells.2
                        have Px10 := Lib.hid (Px9.out.below y2.h Px9.out.lt)
                        have Pz10 := Lib.hid (Pz9.out.below y2.h Pz9.out.lt)
                        obtain ⟨-, -, e2⟩ := Px10.out.cells
                        have HR10 := Lib.hid ((HR9.out.below y2.h).below ((Below.refl y2.v.heap.size y2.v).alloc (Nat.le_refl _) (.cells #[.slice a1 K c1, .slice a2 V c2] 60)))
                        have Hone := Lib.hid (rows_one (g0 := (Value.slice (some ⟨b', o', none⟩) j vc).ownBlock) (W1 := y2.v.alloc (.cells #[.slice a1 K c1, .slice a2 V c2] 60)) OK1.out OV1.out (by have := HKl.out; omega) (by have := HVl.out; omega) (fun b e => Nat.lt_of_lt_of_le (HR.out.or.own_ge b e).2.1 x.h.size) (y2.h.alloc y2.h.size _))
                        have Hfar := Lib.hid (fun u hu b o s n c e hc => by
                          have h1 := Hone.out.2 u hu b o s n c e hc
                          have h2 := Sx.out
                          omega : ∀ u ∈ [Value.slice a1 K c1, Value.slice a2 V c2], Far (z + 2) u)
                        have Hge := Lib.hid (fun b e => (HR10.out.or.own_ge b e).1 : ∀ b, (Value.slice (some ⟨b', o', none⟩) j vc).ownBlock = some b → z + 2 ≤ b)
                        have S10 : Hid (z + 2 ≤ y2.v.heap.size) := Lib.hid (Nat.le_trans Sz9.out y2.h.size)
                        have Hnew : Hid (stO L (j + 1) = some (q + 2 + K + V, q)) := Lib.hid (by rw [Hnext.out, if_pos HOK.out, Hend.out])
                        have HlenR : Hid ((rowsO L j ++ [(kl, vl)]).length = j + 1) := Lib.hid (by rw [List.length_append, hRl]; rfl)
                        have Hsnoc : Hid (rowsO L (j + 1) = rowsO L j ++ [(kl, vl)]) := Lib.hid (by rw [rowsO_snoc Hst.out.2 (by have := Hm.out; omega), Hkl.out, Hvl.out])
                        have HRl := Lib.hid hRl
                        clear hRl f2 f3 hrbk hrowc
                        go_wp2_with (at_builtin; refine wpList_append_rows rfl _ _ rfl (z + 2) (Value.slice (some ⟨b', o', none⟩) j vc) (rowsO L j) [(kl, vl)] rfl HR10.out (some ⟨y2.v.heap.size, 0, none⟩) 1 [.slice a1 K c1, .slice a2 V c2] rfl (fun _ => ⟨_, rfl, World.news_of_block (heap_alloc_new _ _)⟩) Hone.out.1 Hfar.out (by rw [World.size_alloc]; have := S10.out; omega) (by have := HRl.out; simp; omega) ?_; intro a' c' w11 hq11 hg11; rw [HlenR.out] at hq11 ⊢; have Hq11 := Lib.hid hq11; have Hg11 := Lib.hid hg11; have P11 := Lib.hid ((Px10.out.below ((Below.refl y2.v.heap.size y2.v).alloc (Nat.le_refl _) (.cells #[.slice a1 K c1, .slice a2 V c2] 60)) Px10.out.lt).grow hg11 (fun e => by have := Hge.out _ e.symm; omega)); obtain ⟨-, -, n2⟩ := P11.out.cells; obtain ⟨-, -, m2⟩ := P11.out.frozen; clear hq11 hg11)
                        have P12 := Lib.hid (P11.out.set2 (.slice a' (j + 1) c'))
                        have Pz11 : P3 w11 z 0 0 (.slice none 0 0) := (Pz10.out.below ((Below.refl y2.v.heap.size y2.v).alloc (Nat.le_refl _) (.cells #[.slice a1 K c1, .slice a2 V c2] 60)) Pz10.out.lt).grow Hg11.out (fun e => by have := Hge.out _ e.symm; omega)
                        have Pz12 := Lib.hid (Pz11.other (j := z + 1) (o := 2) (by omega) (.slice a' (j + 1) c'))
                        have Q12 := Lib.hid (Hq11.out.mod (Mod.set (z + 1) (Mod.refl (z + 1) w11) 2 (.slice a' (j + 1) c')) (by omega))
                        rw [← Hsnoc.out] at Q12
                        have hsA : y2.v.heap.size ≤ (y2.v.alloc (.cells #[.slice a1 K c1, .slice a2 V c2] 60)).heap.size := by rw [World.size_alloc]; omega
                        have hs10 := S10.out
                        have D0 := Lib.hid ((((B0.out.trans (B10.out.mono (by have := Sz.out; omega))).alloc (by omega) (.cells #[.slice a1 K c1, .slice a2 V c2] 60)).grown Hg11.out (by omega) (fun k e => by have := Hge.out k e; omega)).setCell (p := ⟨z + 1, 2, none⟩) (Nat.le_refl _) (.slice a' (j + 1) c'))
                        have Dz := Lib.hid ((((Bz.out.trans (B10.out.mono (by have := Sz.out; omega))).alloc (by omega) (.cells #[.slice a1 K c1, .slice a2 V c2] 60)).grown Hg11.out (by omega) (fun k e => by have := Hge.out k e; omega)).setCell (p := ⟨z + 1, 2, none⟩) (Nat.le_succ _) (.slice a' (j + 1) c'))
                        have D1 : Hid (z + 2 ≤ (w11.setCell ⟨z + 1, 2, none⟩ (.slice a' (j + 1) c')).heap.size) := Lib.hid (by
                          have h := Hg11.out.size
                          have h2 : (w11.setCell ⟨z + 1, 2, none⟩ (.slice a' (j + 1) c')).heap.size = w11.heap.size := by simp [World.setCell]
                          omega)
                        go_roundw
                        case rel => exact ⟨j + 1, q + 2 + K + V, q, a', c', by go_num, by go_num, by omega, hin, Lib.hid ⟨by have := Hst.out.1; omega, Hnew.out⟩, P12, Pz12, Q12, D0, Dz, D1⟩
                        case measure => simp [intOf]; omega
                      | false =>
                        have h0 : behindL L = 0 := st_fail (j := j + 1) (by
                          rw [Hnext.out, if_neg]
                          rw [HOkr.out, Hrow.out, ← Hpk.out, show decide (f = 0) = false from decide_eq_false (by have := Hf11.out; omega), show decide (cb pk kl < 0) = false from decide_eq_false (fun h => by rw [less_cb h] at hless; cases hless)]
                          simp)
                        have H0 := Lib.hid h0
                        clear h0 hRl
                        go_wp2_with (fail)
                        refine wp_region_below w9 (by kernel_rfl) (by kernel_rfl) (Below.refl _ _) ?_
                        repeat (go_big_quiet_step ((go_at_call 85; exact below_call (hrowc _))))
                        refine wpQuiet_nil ?_
                        intro _ hw'
                        obtain ⟨y2, hw''⟩ := hw'
                        subst hw''
                        have Pz := Lib.hid (Pz9.out.below y2.h Pz9.out.lt)
                        have Bz := Lib.hid (Bz9.out.trans (y2.h.mono (by have := Sz9.out; omega)))
                        obtain ⟨n0, n1, n2⟩ := Pz.out.cells
                        obtain ⟨m0, m1, m2⟩ := Pz.out.frozen
                        go_wp2_with (fail)
                        have R5 := Pz.out.setAll (l' := 0) (x' := 0) (v' := .slice none 0 0)
                        obtain ⟨k0, k1, k2⟩ := R5.cells
                        refine bodyPost_ret (v := .tuple #[.agg #[.int .i64 0, .int .i64 0, .slice none 0 0], .bool false]) (by simp [results, Tryz.f49, go_sem, k0, k1, k2]) rfl (OfR.no H0.out ?_)
                        rw [← Hz.out]
                        exact ((Bz.out.setCell (p := ⟨z, 0, none⟩) (Nat.le_refl _) _).setCell (p := ⟨z, 1, none⟩) (Nat.le_refl _) _).setCell (p := ⟨z, 2, none⟩) (Nat.le_refl _) _
              · have h0 : behindL L = 0 := st_fail (j := j + 1) (by
                  rw [Hnext.out, if_neg]
                  unfold okRow
                  simp only [Hend.out, Bool.and_eq_true, decide_eq_true_eq]
                  have := Hlen.out
                  omega)
                have H0 := Lib.hid h0
                clear h0
                have t2 : decide ((512 : Int) < (q : Int) + 2 + (K : Int) + (V : Int)) = true := decide_eq_true (by omega)
                refine wp_region_below wk (by kernel_rfl) (by kernel_rfl) (Below.refl _ _) ?_
                repeat (go_big_quiet_step (fail))
                refine wpQuiet_nil ?_
                intro _ hw'
                obtain ⟨x, hw''⟩ := hw'
                subst hw''
                have Pz := Lib.hid (Pz.out.below x.h Pz.out.lt)
                have Bz := Lib.hid (Bz.out.trans (x.h.mono (by have := Sz.out; omega)))
                obtain ⟨n0, n1, n2⟩ := Pz.out.cells
                obtain ⟨m0, m1, m2⟩ := Pz.out.frozen
                go_wp2_with (fail)
                have R5 := Pz.out.setAll (l' := 0) (x' := 0) (v' := .slice none 0 0)
                obtain ⟨k0, k1, k2⟩ := R5.cells
                refine bodyPost_ret (v := .tuple #[.agg #[.int .i64 0, .int .i64 0, .slice none 0 0], .bool false]) (by simp [results, Tryz.f49, go_sem, k0, k1, k2]) rfl (OfR.no H0.out ?_)
                rw [← Hz.out]
                exact ((Bz.out.setCell (p := ⟨z, 0, none⟩) (Nat.le_refl _) _).setCell (p := ⟨z, 1, none⟩) (Nat.le_refl _) _).setCell (p := ⟨z, 2, none⟩) (Nat.le_refl _) _
            · have h0 : behindL L = 0 := st_fail (j := j + 1) (by
                rw [Hnext.out, if_neg]
                unfold okRow
                simp only [endOf_out (show ¬ q + 2 ≤ L.length by have := Hlen.out; omega), Bool.and_eq_true, decide_eq_true_eq]
                omega)
              have H0 := Lib.hid h0
              clear h0
              have t1 : decide ((512 : Int) < (q : Int) + 2) = true := decide_eq_true (by omega)
              refine wp_region_below wk (by kernel_rfl) (by kernel_rfl) (Below.refl _ _) ?_
              repeat (go_big_quiet_step (fail))
              refine wpQuiet_nil ?_
              intro _ hw'
              obtain ⟨x, hw''⟩ := hw'
              subst hw''
              have Pz := Lib.hid (Pz.out.below x.h Pz.out.lt)
              have Bz := Lib.hid (Bz.out.trans (x.h.mono (by have := Sz.out; omega)))
              obtain ⟨n0, n1, n2⟩ := Pz.out.cells
              obtain ⟨m0, m1, m2⟩ := Pz.out.frozen
              go_wp2_with (fail)
              have R5 := Pz.out.setAll (l' := 0) (x' := 0) (v' := .slice none 0 0)
              obtain ⟨k0, k1, k2⟩ := R5.cells
              refine bodyPost_ret (v := .tuple #[.agg #[.int .i64 0, .int .i64 0, .slice none 0 0], .bool false]) (by simp [results, Tryz.f49, go_sem, k0, k1, k2]) rfl (OfR.no H0.out ?_)
              rw [← Hz.out]
              exact ((Bz.out.setCell (p := ⟨z, 0, none⟩) (Nat.le_refl _) _).setCell (p := ⟨z, 1, none⟩) (Nat.le_refl _) _).setCell (p := ⟨z, 2, none⟩) (Nat.le_refl _) _
          · have ej : j = m := by omega
            subst ej
            have Hst2 : Hid (stO L (bt L 10).toNat = some (q, f)) := Lib.hid (by rw [← Hm.out]; exact Hst.out.2)
            have HD := Lib.hid (st_done Hst2.out Hlen.out.symm I3.out.1 I3.out.2)
            obtain ⟨p0, p1, p2⟩ := Px.out.cells
            go_wp2_with (fail)
            go_loop [12] (fun s12 => ∃ t : Nat, q ≤ t ∧ t ≤ 512 ∧ s12 = .int .i64 t ∧ Hid (∀ i, q ≤ i → i < t → bt L i = 0)) (fun s12 => 512 - (intOf s12).toNat)
            case atStart => exact ⟨q, Nat.le_refl _, hq, rfl, Lib.hid (fun i h1 h2 => by omega)⟩
            case round =>
              obtain ⟨t, ht1, ht2, rfl, hz⟩ := hrel
              by_cases htn : t < 512
              · have gt := HC.out wk B0.out t htn
                by_cases hzero : bt L t = 0
                · rw [hzero] at gt
                  have Hzero := Lib.hid hzero
                  clear hzero
                  go_wp2_with (fail)
                  go_round
                  case rel =>
                    exact ⟨t + 1, by omega, by omega, by go_num, Lib.hid (fun i h1 h2 => by
                      rcases Nat.lt_or_ge i t with h | h
                      · exact hz.out i h1 h
                      · obtain rfl : i = t := by omega
                        exact Hzero.out)⟩
                  case measure => simp [intOf]; omega
                · have h0 : behindL L = 0 := by
                    rw [HD.out, if_pos (trim_pos ht1 (by have := Hlen.out; omega) hzero)]
                  have H0 := Lib.hid h0
                  have hne : (bt L t != 0) = true := by simpa using hzero
                  have hne2 : ¬ bt L t = 0 := hzero
                  clear h0 hzero
                  obtain ⟨n0, n1, n2⟩ := Pz.out.cells
                  obtain ⟨m0, m1, m2⟩ := Pz.out.frozen
                  go_wp2_with (fail)
                  have R5 := Pz.out.setAll (l' := 0) (x' := 0) (v' := .slice none 0 0)
                  obtain ⟨k0, k1, k2⟩ := R5.cells
                  refine bodyPost_ret (v := .tuple #[.agg #[.int .i64 0, .int .i64 0, .slice none 0 0], .bool false]) (by simp [results, Tryz.f49, go_sem, k0, k1, k2]) rfl (OfR.no H0.out ?_)
                  rw [← Hz.out]
                  exact ((Bz.out.setCell (p := ⟨z, 0, none⟩) (Nat.le_refl _) _).setCell (p := ⟨z, 1, none⟩) (Nat.le_refl _) _).setCell (p := ⟨z, 2, none⟩) (Nat.le_refl _) _
              · have Et := Lib.hid (show t = 512 by omega)
                have hbe : behindL L = q := by
                  rw [HD.out, if_neg]
                  rw [trim_none (fun u hu => zero_drop (fun i h1 h2 => hz.out i h1 (by have := Hlen.out; have := Et.out; omega)) hu)]
                  omega
                have Hbe := Lib.hid hbe
                have hq11 := Hst.out.1
                have HY := Lib.hid (Hyx.out.1 I3.out.1).1
                clear hbe
                obtain ⟨n0, n1, n2⟩ := Pz.out.cells
                obtain ⟨m0, m1, m2⟩ := Pz.out.frozen
                go_wp2_with (fail)
                have R5 := Pz.out.setAll (l' := y) (x' := X) (v' := .slice va j vc)
                obtain ⟨k0, k1, k2⟩ := R5.cells
                refine bodyPost_ret (v := .tuple #[.agg #[.int .i64 y, .int .i64 X, .slice va j vc], .bool true]) (by simp [results, Tryz.f49, go_sem, k0, k1, k2]) rfl ⟨⟨.slice va j vc, ?_, ?_⟩, ?_⟩
                · have e1 : lsnL L = x := by unfold lsnL; rw [if_neg (by rw [Hbe.out]; omega), Hx.out]
                  have e2 : ((nextL L : Nat) : Int) = X := by
                    unfold nextL
                    rw [if_neg (by rw [Hbe.out]; omega), HX.out]
                    have h8 := bt_bd L 8
                    have h9 := bt_bd L 9
                    omega
                  rw [e1, e2, HY.out, Hbe.out, decide_eq_true (by omega)]
                · have e3 : rowsL L = rowsO L j := by
                    unfold rowsL rowsO
                    rw [if_neg (by rw [Hbe.out]; omega), List.take_of_length_le (by rw [Hm.out]; exact scan_len _ _ _)]
                  rw [e3, ← Hz.out]
                  exact (((((HR.out.mod (Mod.set z (Mod.refl z wk) 0 (.int .i64 y)) (by omega)).mod (Mod.set z (Mod.refl z _) 1 (.int .i64 X)) (by omega)).mod (Mod.set z (Mod.refl z _) 2 (.slice va j vc)) (by omega)))).mono (by omega)
                · rw [← Hz.out]
                  exact ((Bz.out.setCell (p := ⟨z, 0, none⟩) (Nat.le_refl _) _).setCell (p := ⟨z, 1, none⟩) (Nat.le_refl _) _).setCell (p := ⟨z, 2, none⟩) (Nat.le_refl _) _
end Go.Proofs.YtbinikbgbgggaaaGreatDoor
