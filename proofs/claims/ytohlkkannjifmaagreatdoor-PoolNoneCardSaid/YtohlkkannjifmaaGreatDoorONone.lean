/- The law PoolNone: its walk. -/
import Derived.Test.YtohlkkannjifmaaGreatDoorOAwake
import Derived.Test.YtohlkkannjifmaaGreatDoorOLaw
namespace Go.Proofs.YtohlkkannjifmaaGreatDoor
open Go.RowKit Go.Shelf

def noneObj : Obj := .cells #[.slice none 0 0, .map none, .int .i64 0, .int .i64 0, .pointer none, .pointer none, .int .i64 0, .int .i64 0] 89 (0, 0)
/-- What the loop reads. -/
structure NoneE (W : World) (rb pb ls : Nat) (r : RecV) (ka oa na da pa : Option Addr) (kc oc nc dc pc : Nat) : Prop where
  rec_ : W.heap[rb]? = some (recObj r ka oa na da pa kc oc nc dc pc)
  pool : W.heap[pb]? = some noneObj
  list : W.heap[ls]? = some (.cells #[.pointer none, .pointer (some ⟨pb, 0, none⟩)] 42 (0, 0))
theorem NoneE.below {W W' : World} {rb pb ls : Nat} {r : RecV} {ka oa na da pa : Option Addr} {kc oc nc dc pc : Nat} (h : NoneE W rb pb ls r ka oa na da pa kc oc nc dc pc) (hb : Below W.heap.size W W') : NoneE W' rb pb ls r ka oa na da pa kc oc nc dc pc :=
  ⟨(hb.block _ (lt_of_heap' h.rec_)).trans h.rec_, (hb.block _ (lt_of_heap' h.pool)).trans h.pool, (hb.block _ (lt_of_heap' h.list)).trans h.list⟩
theorem NoneE.at_ {W : World} {rb pb ls : Nat} {r : RecV} {ka oa na da pa : Option Addr} {kc oc nc dc pc : Nat} (h : NoneE W rb pb ls r ka oa na da pa kc oc nc dc pc) (j : Nat) (hj : j < 2) : ∃ a, W.cell? ⟨ls, j, none⟩ = some (.pointer a) ∧ NoPool W a := by
  rcases (by omega : j = 0 ∨ j = 1) with rfl | rfl
  · exact ⟨none, cell_of_row _ _ 0 _ _ _ h.list, .inl rfl⟩
  · exact ⟨some ⟨pb, 0, none⟩, cell_of_row _ _ 1 _ _ _ h.list, .inr ⟨pb, rfl, cell_of_row _ _ 4 _ _ _ h.pool⟩⟩
theorem none_start (w w1 : World) (r : RecV) (ka oa na da pa : Option Addr) (kc oc nc dc pc : Nat) (hb : Below (w.alloc (recObj r ka oa na da pa kc oc nc dc pc)).heap.size (w.alloc (recObj r ka oa na da pa kc oc nc dc pc)) w1) :
    NoneE ((w1.alloc (.cells #[.slice none 0 0, .map none, .int .i64 0, .int .i64 0, .pointer none, .pointer none, .int .i64 0, .int .i64 0] 89)).alloc (.cells #[.pointer none, .pointer (some ⟨w1.heap.size, 0, none⟩)] 42)) w.heap.size w1.heap.size (w1.heap.size + 1) r ka oa na da pa kc oc nc dc pc ∧
    Below w.heap.size w ((w1.alloc (.cells #[.slice none 0 0, .map none, .int .i64 0, .int .i64 0, .pointer none, .pointer none, .int .i64 0, .int .i64 0] 89)).alloc (.cells #[.pointer none, .pointer (some ⟨w1.heap.size, 0, none⟩)] 42)) := by
  have s1 := hb.size
  rw [World.size_alloc] at s1
  have b1 : Below w.heap.size w w1 := ((Below.refl _ w).alloc (Nat.le_refl _) _).trans (hb.mono (by simp))
  refine ⟨⟨?_, ?_, ?_⟩, (b1.alloc (by omega) _).alloc (by simp; omega) _⟩
  · refine (Below.heap_alloc _ _ _ (by simp; omega)).trans ((Below.heap_alloc _ _ _ (by omega)).trans ((hb.block _ (by simp)).trans (heap_alloc_new w _)))
  · exact (Below.heap_alloc _ _ _ (by simp)).trans (heap_alloc_new w1 _)
  · have e := heap_alloc_new (w1.alloc (.cells #[.slice none 0 0, .map none, .int .i64 0, .int .i64 0, .pointer none, .pointer none, .int .i64 0, .int .i64 0] 89)) (.cells #[.pointer none, .pointer (some ⟨w1.heap.size, 0, none⟩)] 42)
    rw [World.size_alloc] at e
    exact e
/-- What New says at the six stretches of the law. -/
theorem none_news {U : Nat → Prop} {d ds do_ l : Nat} {w : World} (hl : LogR w U l d 0 (LK.fresh 8)) (hd : DiskR w d ds do_ 0 (DK.fresh 20)) (hu : ∀ g, DB d ds do_ g → ¬ U g) :
    (∀ W, Below w.heap.size w W → Calls Tryz.prog 24 #[.pointer none, .pointer (some ⟨l, 0, none⟩), .int .i64 0, .int .i64 4, .int .i64 8] W fun e w' => e = .returned (.pointer none) ∧ Below W.heap.size W w') ∧
    (∀ W, Below w.heap.size w W → Calls Tryz.prog 24 #[.pointer (some ⟨d, 0, none⟩), .pointer none, .int .i64 0, .int .i64 4, .int .i64 8] W fun e w' => e = .returned (.pointer none) ∧ Below W.heap.size W w') ∧
    (∀ W, Below w.heap.size w W → Calls Tryz.prog 24 #[.pointer (some ⟨d, 0, none⟩), .pointer (some ⟨l, 0, none⟩), .int .i64 (-1), .int .i64 4, .int .i64 8] W fun e w' => e = .returned (.pointer none) ∧ Below W.heap.size W w') ∧
    (∀ W, Below w.heap.size w W → Calls Tryz.prog 24 #[.pointer (some ⟨d, 0, none⟩), .pointer (some ⟨l, 0, none⟩), .int .i64 8, .int .i64 13, .int .i64 8] W fun e w' => e = .returned (.pointer none) ∧ Below W.heap.size W w') ∧
    (∀ W, Below w.heap.size w W → Calls Tryz.prog 24 #[.pointer (some ⟨d, 0, none⟩), .pointer (some ⟨l, 0, none⟩), .int .i64 8, .int .i64 12, .int .i64 33] W fun e w' => e = .returned (.pointer none) ∧ Below W.heap.size W w') ∧
    (∀ W, Below w.heap.size w W → Calls Tryz.prog 24 #[.pointer (some ⟨d, 0, none⟩), .pointer (some ⟨l, 0, none⟩), .int .i64 8, .int .i64 12, .int .i64 8] W fun e w' => ∃ q, e = .returned (.pointer (some ⟨q, 0, none⟩)) ∧ Below W.heap.size W w') := by
  have hL : ∀ W, Below w.heap.size w W → LogR W U l d 0 (LK.fresh 8) := fun W hW => hl.keep (fun i hi => hW.block i (hl.lt i hi)) hW.size
  have hD : ∀ W, Below w.heap.size w W → DiskR W d ds do_ 0 (DK.fresh 20) := fun W hW => hd.keep fun i hi => hW.block i (hd.lt hi)
  have hE : ∀ W, Below w.heap.size w W → Calls Tryz.prog 47 #[.pointer (some ⟨l, 0, none⟩)] W fun e w' => e = .returned (.int .i64 (LK.fresh 8).end_) ∧ Below W.heap.size W w' := fun W hW =>
    (end_any W U l d 0 (LK.fresh 8) (hL W hW)).mono fun e w' h => ⟨h.1, by rw [h.2]; exact (Below.refl _ _).drew⟩
  have hN : (DK.fresh 20).n = 20 := rfl
  refine ⟨fun W hW => ?_, fun W hW => ?_, fun W hW => ?_, fun W hW => ?_, fun W hW => ?_, fun W hW => ?_⟩
  · exact newpool_bad none (some ⟨l, 0, none⟩) 0 _ 0 4 8 W (sectors_nil W) (hE W hW) (by omega) (by omega) (.inl rfl)
  · exact newpool_bad (some ⟨d, 0, none⟩) none 20 0 0 4 8 W (sectors_any d ds do_ 0 (DK.fresh 20) W (hD W hW)) (end_nil W) (by omega) (by omega) (.inr (.inl rfl))
  · exact newpool_bad (some ⟨d, 0, none⟩) (some ⟨l, 0, none⟩) 20 _ (-1) 4 8 W (sectors_any d ds do_ 0 (DK.fresh 20) W (hD W hW)) (hE W hW) (by omega) (by omega) (by omega)
  · exact newpool_bad (some ⟨d, 0, none⟩) (some ⟨l, 0, none⟩) 20 _ 8 13 8 W (sectors_any d ds do_ 0 (DK.fresh 20) W (hD W hW)) (hE W hW) (by omega) (by omega) (by omega)
  · exact newpool_bad (some ⟨d, 0, none⟩) (some ⟨l, 0, none⟩) 20 _ 8 12 33 W (sectors_any d ds do_ 0 (DK.fresh 20) W (hD W hW)) (hE W hW) (by omega) (by omega) (by omega)
  · exact (newpool_any U d ds do_ l 0 (DK.fresh 20) (LK.fresh 8) 8 8 12 W (hL W hW) (hD W hW) hu (by omega) (by omega) (by omega) (by omega) (by rw [hN]; omega) (by decide)).mono fun e w' h => ⟨_, h.1, h.2.2.1⟩
set_option maxHeartbeats 8000000 in
set_option maxRecDepth 100000 in
theorem PoolNone_any (n : Int) (r : RecV) (ka oa na da pa : Option Addr) (kc oc nc dc pc : Nat) (w : World) :
    Calls Tryz.prog 6 #[.int .i64 n, recV r ka oa na da pa kc oc nc dc pc] w fun e w' => e = .returned (.bool true) ∧ Below w.heap.size w w' := by
  unfold recV
  go_enter Tryz.func6, Tryz.ntmps6
  go_wp2_with (go_at_call 7; refine (lawake_any _).mono ?_; rintro e w1 ⟨rfl, hb1⟩; have hst := none_start w w1 r ka oa na da pa kc oc nc dc pc hb1; have HS := Lib.hid hst; clear hst hb1)
  generalize hw2 : World.alloc (World.alloc w1 _) _ = w2 at HS ⊢
  obtain ⟨ls, hls⟩ : ∃ q, q = w1.heap.size + 1 := ⟨_, rfl⟩
  obtain ⟨pb, hpb⟩ : ∃ q, q = w1.heap.size := ⟨_, rfl⟩
  obtain ⟨rb, hrb⟩ : ∃ q, q = w.heap.size := ⟨_, rfl⟩
  rw [← hls, ← hpb] at HS ⊢
  rw [← hrb] at HS ⊢
  have HRb := Lib.hid hrb
  clear hw2 hls hpb hrb
  go_loopw [6] (fun i wr => ∃ j : Nat, j ≤ 2 ∧ i = .int .i64 j ∧ Hid (Below w2.heap.size w2 wr)) (fun i _ => 2 - (intOf i).toNat)
  case atStart => exact ⟨0, Nat.zero_le _, rfl, Lib.hid (Below.refl _ _)⟩
  case round =>
    obtain ⟨j, hj, rfl, HB⟩ := hrel
    obtain ⟨W, rfl⟩ : ∃ z, z = wr := ⟨_, rfl⟩
    by_cases hlt : j < 2
    · have hlt' : (j : Int) < 2 := by omega
      have HE := Lib.hid (HS.out.1.below HB.out)
      obtain ⟨a, hce, hno⟩ := HE.out.at_ j hlt
      have HN := Lib.hid hno
      have HJ := Lib.hid hlt
      clear hno
      go_wp2_with (go_at_call 13; refine (read_no W a n HN.out).mono ?_; rintro e w3 ⟨rfl, rfl⟩)
      obtain ⟨q0, q1, q2, q3, q4, q5, q6, q7, q8, q9, q10⟩ := rec_cells HE.out.rec_
      have HP := Lib.hid (do_no w3.drew a r ka oa na da pa kc oc nc dc pc (HN.out.below ((Below.refl _ w3).drew)))
      unfold recV at HP
      go_region_held3 (fun w' => w'.cell? ⟨ls, j, none⟩ = some (.pointer a) ∧ w'.cell? ⟨rb, 0, none⟩ = some (.int .i64 r.lsn) ∧ w'.cell? ⟨rb, 1, none⟩ = some (.int .i64 r.work) ∧ w'.cell? ⟨rb, 2, none⟩ = some (.int .i64 r.prev) ∧ w'.cell? ⟨rb, 3, none⟩ = some (.int .i64 r.next) ∧ w'.cell? ⟨rb, 4, none⟩ = some (.int .u8 r.kind) ∧ w'.cell? ⟨rb, 5, none⟩ = some (.int .i64 r.page) ∧ w'.cell? ⟨rb, 6, none⟩ = some (.slice ka r.key.length kc) ∧ w'.cell? ⟨rb, 7, none⟩ = some (.slice oa r.old.length oc) ∧ w'.cell? ⟨rb, 8, none⟩ = some (.slice na r.new.length nc) ∧ w'.cell? ⟨rb, 9, none⟩ = some (.slice da r.dirty.length dc) ∧ w'.cell? ⟨rb, 10, none⟩ = some (.slice pa r.opn.length pc)) (first | go_keep | exact ⟨by assumption, by assumption, by assumption, by assumption, by assumption, by assumption, by assumption, by assumption, by assumption, by assumption, by assumption, by assumption⟩) (first | (go_at_call 12; refine HP.out.mono ?_; rintro e w4 ⟨rfl, hb4⟩; have he4 := HE.out.below (((Below.refl _ w3).drew).trans hb4); obtain ⟨x0, x1, x2, x3, x4, x5, x6, x7, x8, x9, x10⟩ := rec_cells he4.rec_; have hc4 : w4.cell? ⟨ls, j, none⟩ = some (.pointer a) := (hb4.cell (p := ⟨ls, j, none⟩) (lt_of_heap' HE.out.list)).trans hce; have HE4 := Lib.hid he4; have HB4 := Lib.hid (HB.out.trans ((((Below.refl _ w3).drew).trans hb4).mono HB.out.size)); have HN4 := Lib.hid (HN.out.below (((Below.refl _ w3).drew).trans hb4)); clear he4 hb4))
      clear HP hce q0 q1 q2 q3 q4 q5 q6 q7 q8 q9 q10 x0 x1 x2 x3 x4 x5 x6 x7 x8 x9 x10
      have hD : ∀ q, Calls Tryz.prog 31 #[.pointer a] (w4.drewN q) fun e w' => e = .returned (.slice none 0 0) ∧ w' = w4.drewN q := fun q => dirty_no _ a (show NoPool (w4.drewN q) a from HN4.out)
      have hC : ∀ q, Calls Tryz.prog 19 #[.pointer a, .int .i64 n] (w4.drewN q) fun e w' => e = .returned (.int .i64 1) ∧ w' = w4.drewN q := fun q => clean_no _ a n (show NoPool (w4.drewN q) a from HN4.out)
      have hF : ∀ q, Calls Tryz.prog 15 #[.pointer a] (w4.drewN q) fun e w' => e = .returned (.int .i64 0) ∧ w' = w4.drewN q := fun q => frames_no _ a (show NoPool (w4.drewN q) a from HN4.out)
      have hG : ∀ q, Calls Tryz.prog 28 #[.pointer a] (w4.drewN q) fun e w' => e = .returned (.int .i64 0) ∧ w' = w4.drewN q := fun q => pages_no _ a (show NoPool (w4.drewN q) a from HN4.out)
      go_upto_region 9 with (fail)
      go_big_quiet (first | (go_at_call 31; exact (hD _).mono fun _ _ h => ⟨h.1, _, h.2⟩) | (go_at_call 19; exact (hC _).mono fun _ _ h => ⟨h.1, _, h.2⟩) | (go_at_call 15; exact (hF _).mono fun _ _ h => ⟨h.1, _, h.2⟩) | (go_at_call 28; exact (hG _).mono fun _ _ h => ⟨h.1, _, h.2⟩))
      go_wp2_with (fail)
      go_roundw
      case rel => exact ⟨j + 1, by have := HJ.out; omega, by go_num, Lib.hid (below_dn HB4.out _)⟩
      case measure => have := HJ.out; simp [intOf]; omega
    · have HBw : Hid (Below rb w W) := Lib.hid (HS.out.2.trans (HB.out.mono (by have := HS.out.2.size; have := HRb.out; omega)))
      have hj2 : j = 2 := by omega
      subst hj2
      clear HS hlt hj HB
      go_wp2_with (first
        | (go_at_call 35; refine (newDisk_any 20 W (by omega) (by omega)).mono ?_; rintro e w5 ⟨rfl, hd5, hb5, hs5⟩; have HO := Lib.hid (open_fresh (W.heap.size + 2) W.heap.size (W.heap.size + 1) 0 (DK.fresh 20) 8 w5 hd5 (by unfold DK.may DK.fresh; simp) rfl (by omega) (by decide)); have HD5 := Lib.hid hd5; have HB5 := Lib.hid hb5; have HS5 := Lib.hid hs5; clear hd5 hb5 hs5)
        | (go_at_call 23; refine HO.out.mono ?_; rintro e w6 ⟨l, U, rfl, hl6, hb6, hU⟩; have HN := Lib.hid (none_news (d := W.heap.size + 2) (ds := W.heap.size) (do_ := W.heap.size + 1) hl6 (HD5.out.keep fun i hi => hb6.block i (HD5.out.lt hi)) (fun g hg hu => by have h8 := hU g hu; have h9 := HD5.out.lt hg; omega)); have HB6 := Lib.hid ((HB5.out.mono (HBw.out.size)).trans (hb6.mono (Nat.le_trans HBw.out.size HB5.out.size))); clear hl6 hb6 hU)
        | (go_at_call 24; with_reducible refine (HN.out.1 _ (Below.refl _ _)).mono ?_; rintro e w7 ⟨rfl, hb7⟩; have HB7 := Lib.hid hb7; clear hb7)
        | (go_at_call 24; with_reducible refine (HN.out.2.1 _ HB7.out).mono ?_; rintro e w8 ⟨rfl, hb8⟩; have HB8 := Lib.hid (HB7.out.trans (hb8.mono HB7.out.size)); clear hb8)
        | (go_at_call 24; with_reducible refine (HN.out.2.2.1 _ HB8.out).mono ?_; rintro e w9 ⟨rfl, hb9⟩; have HB9 := Lib.hid (HB8.out.trans (hb9.mono HB8.out.size)); clear hb9)
        | (go_at_call 24; with_reducible refine (HN.out.2.2.2.1 _ HB9.out).mono ?_; rintro e wa ⟨rfl, hba⟩; have HBa := Lib.hid (HB9.out.trans (hba.mono HB9.out.size)); clear hba)
        | (go_at_call 24; with_reducible refine (HN.out.2.2.2.2.1 _ HBa.out).mono ?_; rintro e wb ⟨rfl, hbb⟩; have HBb := Lib.hid (HBa.out.trans (hbb.mono HBa.out.size)); clear hbb)
        | (go_at_call 24; with_reducible refine (HN.out.2.2.2.2.2 _ HBb.out).mono ?_; rintro e wc ⟨qq, rfl, hbc⟩; have HBc := Lib.hid (HBb.out.trans (hbc.mono HBb.out.size)); clear hbc))
      go_ret
      have hB : Below w.heap.size w W := by have := HBw.out; rw [HRb.out] at this; exact this
      exact ⟨rfl, (hB.trans HB6.out).trans (HBc.out.mono (Nat.le_trans HBw.out.size HB6.out.size))⟩
end Go.Proofs.YtohlkkannjifmaaGreatDoor
