/- The law PoolFew: its walk. (Printed by gen/ofew.py.) -/
import Derived.Test.YtohlkkannjifmaaGreatDoorOFewA
namespace Go.Proofs.YtohlkkannjifmaaGreatDoor
open Go.RowKit Go.Shelf
structure DeedC (W : World) (b x : Nat) (d : DeedV) : Prop where
  c0 : W.cell? ⟨b, x, none⟩ = some (.int .i64 d.kind)
  c1 : W.cell? ⟨b, x + 1, none⟩ = some (.int .i64 d.page)
  c2 : W.cell? ⟨b, x + 2, none⟩ = some (.int .i64 d.r.lsn)
  c3 : W.cell? ⟨b, x + 3, none⟩ = some (.int .i64 d.r.work)
  c4 : W.cell? ⟨b, x + 4, none⟩ = some (.int .i64 d.r.prev)
  c5 : W.cell? ⟨b, x + 5, none⟩ = some (.int .i64 d.r.next)
  c6 : W.cell? ⟨b, x + 6, none⟩ = some (.int .u8 d.r.kind)
  c7 : W.cell? ⟨b, x + 7, none⟩ = some (.int .i64 d.r.page)
  c8 : W.cell? ⟨b, x + 8, none⟩ = some (.slice d.ka d.r.key.length d.kc)
  c9 : W.cell? ⟨b, x + 9, none⟩ = some (.slice d.oa d.r.old.length d.oc)
  c10 : W.cell? ⟨b, x + 10, none⟩ = some (.slice d.na d.r.new.length d.nc)
  c11 : W.cell? ⟨b, x + 11, none⟩ = some (.slice d.da d.r.dirty.length d.dc)
  c12 : W.cell? ⟨b, x + 12, none⟩ = some (.slice d.pa d.r.opn.length d.pc)
  c13 : W.cell? ⟨b, x + 13, none⟩ = some (.int .i64 d.n)
  c14 : W.cell? ⟨b, x + 14, none⟩ = some (.bool d.odd)
theorem DeedsAt.at' {w W : World} {a : Option Addr} {n c : Nat} {D : Nat → DeedV} (h : DeedsAt w.heap.size w a n c D) (hb : Below w.heap.size w W) {j : Nat} (hj : j < n) : ∃ b o, a = some ⟨b, o, none⟩ ∧ DeedC W b (o + j * 15) (D j) ∧ DeedI w.heap.size W (D j) := by
  have h2 := h.below hb
  obtain ⟨b, o, e, -, he⟩ := h2.at_ (by have := h.le; omega)
  obtain ⟨h3, h4⟩ := he j hj
  exact ⟨b, o, e, ⟨h3 0 (by decide), h3 1 (by decide), h3 2 (by decide), h3 3 (by decide), h3 4 (by decide), h3 5 (by decide), h3 6 (by decide), h3 7 (by decide), h3 8 (by decide), h3 9 (by decide), h3 10 (by decide), h3 11 (by decide), h3 12 (by decide), h3 13 (by decide), h3 14 (by decide)⟩, h4⟩
theorem two_start {w w1 w2 w3 : World} {e2 e3 : Ending} (hb1 : Below w.heap.size w w1) (h2 : BegR 4 30 w1 e2 w2) (h3 : BegR 32 30 w2 e3 w3) : ∃ ga gb da la pa db lb pb Sa Sb, e2 = .returned (.pointer (some ⟨ga, 0, none⟩)) ∧ e3 = .returned (.pointer (some ⟨gb, 0, none⟩)) ∧
    Two w w3 ga gb da la pa db lb pb 0 Sa Sb (DK.fresh (40 + 30)) (LK.fresh 40) (PK.fresh 4 40 30) zC (DK.fresh (40 + 30)) (LK.fresh 40) (PK.fresh 32 40 30) zC := by
  obtain ⟨ga, Sa, da, la, pa, rfl, xa, ra, ba, ea, oa, na⟩ := h2
  obtain ⟨gb, Sb, db, lb, pb, rfl, xb, rb, bb, eb, ob, nb⟩ := h3
  have s1 := hb1.size
  have s2 := ba.size
  have s3 := bb.size
  have hga := lt_of_heap' xa
  refine ⟨ga, gb, da, la, pa, db, lb, pb, Sa, Sb, rfl, rfl, ra.below bb, rb, fun g h1 h2 => ?_, (bb.block ga hga).trans xa, xb, ⟨na, fun h => ?_⟩, ⟨fun h => ?_, nb⟩, (hb1.trans (ba.mono s1)).trans (bb.mono (by omega)), fun g hg => Nat.le_trans s1 (ea g hg), fun g hg => by have := eb g hg; omega, rfl, rfl⟩
  · have := ra.lt g h1; have := eb g h2; omega
  · have := ra.lt gb h; omega
  · have := eb ga h; omega
set_option maxHeartbeats 8000000 in
set_option maxRecDepth 100000 in
theorem PoolFew_any (va : Option Addr) (vn vc : Nat) (D : Nat → DeedV) (w : World) (hl : DeedsAt w.heap.size w va vn vc D) :
    Calls Tryz.prog 3 #[.slice va vn vc] w fun e w' => e = .returned (.bool true) ∧ Below w.heap.size w w' := by
  have hle := hl.le
  have hmx := hl.mx
  have HL := Lib.hid hl
  clear hl
  by_cases h80 : 80 < vn
  · have h80' : (80 : Int) < (vn : Int) := by omega
    go_enter Tryz.func3, Tryz.ntmps3
    go_wp2_with (go_at_call 7; refine (lawake_any _).mono ?_; rintro e w1 ⟨rfl, hb1⟩; have HB1 := Lib.hid hb1; clear hb1)
    go_ret
    exact ⟨rfl, HB1.out⟩
  have h80' : ¬ (80 : Int) < (vn : Int) := by omega
  have HV := Lib.hid h80
  clear h80
  go_enter Tryz.func3, Tryz.ntmps3
  go_wp2_with (first
    | (go_at_call 7; refine (lawake_any _).mono ?_; rintro e w1 ⟨rfl, hb1⟩; have HB1 := Lib.hid hb1; have HG1 : Hid (Calls Tryz.prog 8 #[.int .i64 30, .int .i64 4] w1 (BegR 4 30 w1)) := Lib.hid (begin_rig 4 30 w1 (by omega) (by omega) (by omega) (by omega)); clear hb1)
    | (go_at_call 8; (with_reducible refine HG1.out.mono ?_); rintro e2 w2 hg2; obtain ⟨ga0, S0, d0, l0, p0, rfl, hrest⟩ := id hg2; clear hrest S0 d0 l0 p0; have HE2 := Lib.hid hg2; have HG2 : Hid (Calls Tryz.prog 8 #[.int .i64 30, .int .i64 32] w2 (BegR 32 30 w2)) := Lib.hid (begin_rig 32 30 w2 (by omega) (by omega) (by omega) (by omega)); clear hg2)
    | (go_at_call 8; (with_reducible refine HG2.out.mono ?_); rintro e3 w3 hg3; obtain ⟨ga, gb, da, la, pa, db, lb, pb, Sa, Sb, he2, rfl, htw⟩ := two_start HB1.out HE2.out hg3; have HT0 := Lib.hid htw; have HE := Lib.hid he2; clear hg3 htw he2))
  have hge : ga0 = ga := by have := HE.out; injection this with h1; injection h1 with h1; injection h1 with h1; injection h1 with h1
  subst hge
  clear HE HG1 HG2 HE2 HB1
  go_loopw [5] (fun i wr => ∃ (j : Nat) (Sa Sb : Nat → Prop) (Da : DK) (La : LK) (Pa : PK) (Db : DK) (Lb : LK) (Pb : PK) (c : Int → List UInt8), j ≤ vn ∧ i = .int .i64 j ∧ Hid (Two w wr ga0 gb da la pa db lb pb (100000 * j) Sa Sb Da La Pa c Db Lb Pb c ∧ CoreEq La Lb ∧ Pa.most = 4)) (fun i _ => vn - (intOf i).toNat)
  case atStart => exact ⟨0, _, _, _, _, _, _, _, _, _, Nat.zero_le _, rfl, Lib.hid ⟨HT0.out, CoreEq.refl _, rfl⟩⟩
  case round =>
    clear HT0
    obtain ⟨j, Sa, Sb, Da, La, Pa, Db, Lb, Pb, c, hj, rfl, HT⟩ := hrel
    obtain ⟨W, rfl⟩ : ∃ z, z = wr := ⟨_, rfl⟩
    by_cases hlt : j < vn
    · obtain ⟨b, o, rfl, hdc, hdi⟩ := HL.out.at' HT.out.1.bel hlt
      generalize D j = d at hdc hdi
      obtain ⟨c0, c1, c2, c3, c4, c5, c6, c7, c8, c9, c10, c11, c12, c13, c14⟩ := hdc
      have HD := Lib.hid hdi
      have k1 := hdi.r.k.lm
      have k2 := hdi.r.o.lm
      have k3 := hdi.r.n.lm
      have k4 := hdi.r.dl
      have k5 := hdi.r.pl
      clear hdi
      have HJ := Lib.hid hlt
      have HBe := Lib.hid HT.out.1.bel
      by_cases s1 : (2000 : Int) < (d.r.key.length : Int) + (d.r.old.length : Int) + (d.r.new.length : Int)
      · clear HT
        go_wp2_with (fail)
        go_ret
        exact ⟨rfl, (HBe.out.alloc HBe.out.size _).alloc (by have := HBe.out.size; simp; omega) _⟩
      by_cases s2 : (300 : Int) < (d.r.dirty.length : Int) + (d.r.opn.length : Int)
      · clear HT
        go_wp2_with (fail)
        go_ret
        exact ⟨rfl, (HBe.out.alloc HBe.out.size _).alloc (by have := HBe.out.size; simp; omega) _⟩
      have l1 : d.r.key.length + d.r.old.length + d.r.new.length ≤ 2000 := by omega
      have l2 : d.r.dirty.length + d.r.opn.length ≤ 300 := by omega
      have HCp : Hid (∀ V, Below W.heap.size W V → Calls Tryz.prog 10 #[recV d.r d.ka d.oa d.na d.da d.pa d.kc d.oc d.nc d.dc d.pc] V fun e w' => (∃ a0 d0 a1 d1 a2 d2 a3 d3 a4 d4, e = .returned (recV d.r a0 a1 a2 a3 a4 d0 d1 d2 d3 d4) ∧ OB V.heap.size w' (.slice a0 d.r.key.length d0) d.r.key ∧ OB V.heap.size w' (.slice a1 d.r.old.length d1) d.r.old ∧ OB V.heap.size w' (.slice a2 d.r.new.length d2) d.r.new ∧ dirtyE.Own V.heap.size w' (.slice a3 d.r.dirty.length d3) d.r.dirty ∧ openE.Own V.heap.size w' (.slice a4 d.r.opn.length d4) d.r.opn) ∧ Below V.heap.size V w') := Lib.hid fun V hV => by
        have hV' : Below w.heap.size W V := hV.mono HBe.out.size
        exact CopyRecord_any w.heap.size d.r d.ka d.oa d.na d.da d.pa d.kc d.oc d.nc d.dc d.pc V (HD.out.r.k.below hV') (HD.out.r.o.below hV') (HD.out.r.n.below hV') (HD.out.r.d.below hV') (HD.out.r.p.below hV') (Nat.le_trans HBe.out.size hV.size) (by omega) (by omega)
      unfold recV at HCp
      have HL12 := Lib.hid (And.intro l1 l2)
      clear l1 l2
      go_wp2_with (first
        | (go_at_call 9; refine (pickn_any d.page 30 _ HD.out.page (by omega)).mono ?_; rintro e w3 ⟨⟨q, hq, rfl⟩, hw⟩; subst hw; have HQ := Lib.hid hq; clear hq)
        | (go_at_call 10; refine (HCp.out _ (((Below.refl _ W).alloc (Nat.le_refl _) _).alloc (by simp) _)).mono ?_; rintro e w4 ⟨⟨a0, q0, a1, q1, a2, q2, a3, q3, a4, q4, rfl, o0, o1, o2, o3, o4⟩, hb4⟩; have HBx := Lib.hid (few_box (r := d.r.atPage (q : Int)) HT.out.1 (((Below.refl _ W).alloc (Nat.le_refl _) _).alloc (by simp) _) o0 o1 o2 o3 o4 hb4 (fun x hx => HD.out.r.d.fine x hx) (fun x hx => HD.out.r.p.fine x hx) HL12.out.1 HL12.out.2); clear o0 o1 o2 o3 o4 hb4))
      clear s1 s2 k1 k2 k3 k4 k5 c0 c1 c2 c3 c4 c5 c6 c7 c8 c9 c10 c11 c12 c13 c14 HCp
      obtain ⟨w5, hw5⟩ : ∃ z, z = w4.alloc (recObj (d.r.atPage (q : Int)) a0 a1 a2 a3 a4 q0 q1 q2 q3 q4) := ⟨_, rfl⟩
      rw [← hw5] at HBx
      generalize hw6 : World.alloc w4 _ = w6
      have h65 : w6 = w5 := hw6.symm.trans hw5.symm
      rw [h65]
      clear h65 hw6 hw5
      generalize hvv : World.alloc (World.alloc W _) _ = V at HBx
      obtain ⟨rb, hrb⟩ : ∃ z, z = w4.heap.size := ⟨_, rfl⟩
      rw [← hrb] at HBx ⊢
      obtain ⟨R, hR⟩ : ∃ R, R = d.r.atPage (q : Int) := ⟨_, rfl⟩
      have hf5 : Few w w5 ga0 gb da la pa db lb pb (100000 * j) Sa Sb Da La Pa c Db Lb Pb c V.heap.size rb R a0 a1 a2 a3 a4 q0 q1 q2 q3 q4 := by
        rw [hR]
        exact ⟨HBx.out.1, HBx.out.2.1, HBx.out.2.2.1, HBx.out.2.2.2.1, HBx.out.2.2.2.2.1, HBx.out.2.2.2.2.2, HL12.out.1, HL12.out.2, ⟨HD.out.r.wf.work.2, HD.out.r.wf.prev.2, HD.out.r.wf.next.2, (by show (q : Int) ≤ _; have := HQ.out; omega), HD.out.r.fit.dirty, HD.out.r.fit.opn⟩⟩
      have HC := Lib.hid HT.out.2
      clear hvv hrb hR HBx HT
      obtain ⟨lo, hlo⟩ : ∃ z, z = V.heap.size := ⟨_, rfl⟩
      rw [← hlo] at hf5
      clear hlo
      have HF5 := Lib.hid hf5
      have HLo := Lib.hid HF5.out.two.a.well.lo
      have HK : Hid (100000 * j ≤ 90000000) := Lib.hid (by have := HJ.out; have := HV.out; omega)
      obtain ⟨x5_0, x5_1, x5_2, x5_3, x5_4, x5_5, x5_6, x5_7, x5_8, x5_9, x5_10⟩ := rec_cells hf5.rec_.blk
      obtain ⟨y51, y52, y53, y54⟩ := hf5.two.cells
      clear hf5
      have HP := Lib.hid (HF5.out.drew.app (by have := HK.out; omega))
      unfold recV at HP
      go_region_held3 (fun w' => w'.cell? ⟨ga0, 1, none⟩ = some (.pointer (some ⟨la, 0, none⟩)) ∧ w'.cell? ⟨rb, 0, none⟩ = some (.int .i64 R.lsn) ∧ w'.cell? ⟨rb, 1, none⟩ = some (.int .i64 R.work) ∧ w'.cell? ⟨rb, 2, none⟩ = some (.int .i64 R.prev) ∧ w'.cell? ⟨rb, 3, none⟩ = some (.int .i64 R.next) ∧ w'.cell? ⟨rb, 4, none⟩ = some (.int .u8 R.kind) ∧ w'.cell? ⟨rb, 5, none⟩ = some (.int .i64 R.page) ∧ w'.cell? ⟨rb, 6, none⟩ = some (.slice a0 R.key.length q0) ∧ w'.cell? ⟨rb, 7, none⟩ = some (.slice a1 R.old.length q1) ∧ w'.cell? ⟨rb, 8, none⟩ = some (.slice a2 R.new.length q2) ∧ w'.cell? ⟨rb, 9, none⟩ = some (.slice a3 R.dirty.length q3) ∧ w'.cell? ⟨rb, 10, none⟩ = some (.slice a4 R.opn.length q4)) (first | go_keep | exact ⟨by assumption, by assumption, by assumption, by assumption, by assumption, by assumption, by assumption, by assumption, by assumption, by assumption, by assumption, by assumption⟩) (first | (go_at_call 11; refine HP.out.mono ?_; rintro e w6 ⟨Sa6, rfl, hf6⟩; obtain ⟨x6_0, x6_1, x6_2, x6_3, x6_4, x6_5, x6_6, x6_7, x6_8, x6_9, x6_10⟩ := rec_cells hf6.rec_.blk; obtain ⟨y61, y62, y63, y64⟩ := hf6.two.cells; have HF6 := Lib.hid hf6; clear hf6))
      clear HP HF5 y51 y52 y53 y54 x5_0 x5_1 x5_2 x5_3 x5_4 x5_5 x5_6 x5_7 x5_8 x5_9 x5_10
      have HP := Lib.hid (HF6.out.drew.swap.app (by have := HK.out; omega))
      rw [← (HC.out.1.append R).1, ← (HC.out.1.append R).2.1] at HP
      unfold recV at HP
      go_upto_region 17 with (fail)
      go_region_held3 (fun w' => w'.cell? ⟨gb, 1, none⟩ = some (.pointer (some ⟨lb, 0, none⟩)) ∧ w'.cell? ⟨rb, 0, none⟩ = some (.int .i64 R.lsn) ∧ w'.cell? ⟨rb, 1, none⟩ = some (.int .i64 R.work) ∧ w'.cell? ⟨rb, 2, none⟩ = some (.int .i64 R.prev) ∧ w'.cell? ⟨rb, 3, none⟩ = some (.int .i64 R.next) ∧ w'.cell? ⟨rb, 4, none⟩ = some (.int .u8 R.kind) ∧ w'.cell? ⟨rb, 5, none⟩ = some (.int .i64 R.page) ∧ w'.cell? ⟨rb, 6, none⟩ = some (.slice a0 R.key.length q0) ∧ w'.cell? ⟨rb, 7, none⟩ = some (.slice a1 R.old.length q1) ∧ w'.cell? ⟨rb, 8, none⟩ = some (.slice a2 R.new.length q2) ∧ w'.cell? ⟨rb, 9, none⟩ = some (.slice a3 R.dirty.length q3) ∧ w'.cell? ⟨rb, 10, none⟩ = some (.slice a4 R.opn.length q4)) (first | go_keep | exact ⟨by assumption, by assumption, by assumption, by assumption, by assumption, by assumption, by assumption, by assumption, by assumption, by assumption, by assumption, by assumption⟩) (first | (go_at_call 11; refine HP.out.mono ?_; rintro e w7 ⟨Sb7, rfl, hf7'⟩; have hf7 := hf7'.swap; obtain ⟨x7_0, x7_1, x7_2, x7_3, x7_4, x7_5, x7_6, x7_7, x7_8, x7_9, x7_10⟩ := rec_cells hf7.rec_.blk; obtain ⟨y71, y72, y73, y74⟩ := hf7.two.cells; have HF7 := Lib.hid hf7; clear hf7 hf7'))
      clear HP y61 y62 y63 y64 x6_0 x6_1 x6_2 x6_3 x6_4 x6_5 x6_6 x6_7 x6_8 x6_9 x6_10
      have HC7 := Lib.hid (HC.out.1.append R).2.2
      generalize hLa : (La.append R).2.2 = La7 at HF7 HC7
      generalize hLb : (Lb.append R).2.2 = Lb7 at HF7 HC7
      generalize hn : (La.append R).1 = n at *
      generalize her : (La.append R).2.1 = er at *
      have HN : Hid (n ≤ 9223372036854775807) := Lib.hid (by rw [← hn]; exact append_lsn_le HLo.out R)
      clear hLa hLb hn her HF6
      have z7 := HF7.out.rec_.frozen 0
      go_upto_region 21 with (fail)
      clear z7 y71 y72 y73 y74 x7_0 x7_1 x7_2 x7_3 x7_4 x7_5 x7_6 x7_7 x7_8 x7_9 x7_10
      generalize hw8 : World.setCell _ _ _ = w8
      have hf8 : Few w w8 ga0 gb da la pa db lb pb (100000 * j + 1 + 1) Sa6 Sb7 Da La7 Pa c Db Lb7 Pb c lo rb (R.atLsn n) a0 a1 a2 a3 a4 q0 q1 q2 q3 q4 := by rw [← hw8]; exact HF7.out.lsn n
      generalize hR2 : R.atLsn n = R2 at hf8
      have HR2 : Hid (R2.lsn ≤ 9223372036854775807) := Lib.hid (by rw [← hR2]; exact HN.out)
      have HF8 := Lib.hid hf8
      clear hw8 HF7 hR2
      by_cases he : er = 0
      · subst he
        obtain ⟨x8_0, x8_1, x8_2, x8_3, x8_4, x8_5, x8_6, x8_7, x8_8, x8_9, x8_10⟩ := rec_cells hf8.rec_.blk
        obtain ⟨y81, y82, y83, y84⟩ := hf8.two.cells
        clear hf8
        have HP := Lib.hid (HF8.out.drew.do_ (by have := HK.out; omega) HR2.out)
        unfold recV at HP
        go_upto_region 22 with (fail)
        go_region_held3 (fun w' => w'.cell? ⟨ga0, 2, none⟩ = some (.pointer (some ⟨pa, 0, none⟩)) ∧ w'.cell? ⟨rb, 0, none⟩ = some (.int .i64 R2.lsn) ∧ w'.cell? ⟨rb, 1, none⟩ = some (.int .i64 R2.work) ∧ w'.cell? ⟨rb, 2, none⟩ = some (.int .i64 R2.prev) ∧ w'.cell? ⟨rb, 3, none⟩ = some (.int .i64 R2.next) ∧ w'.cell? ⟨rb, 4, none⟩ = some (.int .u8 R2.kind) ∧ w'.cell? ⟨rb, 5, none⟩ = some (.int .i64 R2.page) ∧ w'.cell? ⟨rb, 6, none⟩ = some (.slice a0 R2.key.length q0) ∧ w'.cell? ⟨rb, 7, none⟩ = some (.slice a1 R2.old.length q1) ∧ w'.cell? ⟨rb, 8, none⟩ = some (.slice a2 R2.new.length q2) ∧ w'.cell? ⟨rb, 9, none⟩ = some (.slice a3 R2.dirty.length q3) ∧ w'.cell? ⟨rb, 10, none⟩ = some (.slice a4 R2.opn.length q4)) (first | go_keep | exact ⟨by assumption, by assumption, by assumption, by assumption, by assumption, by assumption, by assumption, by assumption, by assumption, by assumption, by assumption, by assumption⟩) (first | (go_at_call 12; refine HP.out.mono ?_; rintro e w9 ⟨Sa9, Da9, La9, Pa9, rfl, hf9, hc9, hm9⟩; obtain ⟨x9_0, x9_1, x9_2, x9_3, x9_4, x9_5, x9_6, x9_7, x9_8, x9_9, x9_10⟩ := rec_cells hf9.rec_.blk; obtain ⟨y91, y92, y93, y94⟩ := hf9.two.cells; have HF9 := Lib.hid hf9; have HC9 := Lib.hid (And.intro hc9 hm9); clear hf9 hc9 hm9))
        clear HP y81 y82 y83 y84 x8_0 x8_1 x8_2 x8_3 x8_4 x8_5 x8_6 x8_7 x8_8 x8_9 x8_10
        have HP := Lib.hid (HF9.out.drew.swap.do_ (by have := HK.out; omega) HR2.out)
        rw [← doF_core HC7.out 30 c] at HP
        unfold recV at HP
        go_upto_region 23 with (fail)
        go_region_held3 (fun w' => w'.cell? ⟨gb, 2, none⟩ = some (.pointer (some ⟨pb, 0, none⟩)) ∧ w'.cell? ⟨rb, 0, none⟩ = some (.int .i64 R2.lsn) ∧ w'.cell? ⟨rb, 1, none⟩ = some (.int .i64 R2.work) ∧ w'.cell? ⟨rb, 2, none⟩ = some (.int .i64 R2.prev) ∧ w'.cell? ⟨rb, 3, none⟩ = some (.int .i64 R2.next) ∧ w'.cell? ⟨rb, 4, none⟩ = some (.int .u8 R2.kind) ∧ w'.cell? ⟨rb, 5, none⟩ = some (.int .i64 R2.page) ∧ w'.cell? ⟨rb, 6, none⟩ = some (.slice a0 R2.key.length q0) ∧ w'.cell? ⟨rb, 7, none⟩ = some (.slice a1 R2.old.length q1) ∧ w'.cell? ⟨rb, 8, none⟩ = some (.slice a2 R2.new.length q2) ∧ w'.cell? ⟨rb, 9, none⟩ = some (.slice a3 R2.dirty.length q3) ∧ w'.cell? ⟨rb, 10, none⟩ = some (.slice a4 R2.opn.length q4)) (first | go_keep | exact ⟨by assumption, by assumption, by assumption, by assumption, by assumption, by assumption, by assumption, by assumption, by assumption, by assumption, by assumption, by assumption⟩) (first | (go_at_call 12; refine HP.out.mono ?_; rintro e wa ⟨Sba, Dba, Lba, Pba, rfl, hfa', hca, hma⟩; have hfa := hfa'.swap; obtain ⟨x10_0, x10_1, x10_2, x10_3, x10_4, x10_5, x10_6, x10_7, x10_8, x10_9, x10_10⟩ := rec_cells hfa.rec_.blk; obtain ⟨y101, y102, y103, y104⟩ := hfa.two.cells; have HF10 := Lib.hid hfa; have HCa := Lib.hid hca; clear hfa hfa' hca hma))
        clear HP y91 y92 y93 y94 x9_0 x9_1 x9_2 x9_3 x9_4 x9_5 x9_6 x9_7 x9_8 x9_9 x9_10 x10_0 x10_1 x10_2 x10_3 x10_4 x10_5 x10_6 x10_7 x10_8 x10_9 x10_10 HF8 HF9
        generalize (doF R2 La7 30 c).1 = bb at *
        generalize (doF R2 La7 30 c).2.1 = eb at *
        generalize (doF R2 La7 30 c).2.2 = cc at *
        have HT := Lib.hid HF10.out.two
        have HCC : Hid (CoreEq La9 Lba ∧ Pa9.most = 4) := Lib.hid ⟨(HC9.out.1.trans HC7.out).trans HCa.out.symm, HC9.out.2.trans HC.out.2⟩
        clear HC9 HCa HC7 HF10
        go_upto_region 26 with (fail)
        obtain ⟨z1, z2, z3, z4⟩ := HT.out.cells
        have HP := Lib.hid (HT.out.read (by have := HK.out; omega) (n := (q : Int)) ⟨by omega, HQ.out⟩)
        go_wp2_with (first
          | (go_at_call 13; (with_reducible refine HP.out.mono ?_); rintro e wb ⟨Sa1, Da1, La1, Pa1, v, rfl, ov, hv, hlen, ht, hc, hm, htr⟩; obtain ⟨z11, z12, z13, z14⟩ := ht.cells; obtain ⟨av, cv, rfl, -⟩ := ov.rb (by omega); have HP2 := Lib.hid (ht.swap.read (by have := HK.out; omega) (n := (q : Int)) ⟨by omega, HQ.out⟩); have OV := Lib.hid ov; have HLn := Lib.hid hlen; have HX := Lib.hid (And.intro hc hm); have HTb := Lib.hid ht; clear ov hv hlen ht hc hm htr)
          | (go_at_call 13; (with_reducible refine HP2.out.mono ?_); rintro e wd ⟨Sb2, Db2, Lb2, Pb2, v2, rfl, ov2, hv2, hlen2, ht2, hc2, hm2, htr2⟩; obtain ⟨z23, z24, z21, z22⟩ := ht2.cells; obtain ⟨av2, cv2, rfl, rv2⟩ := ov2.rb (by omega); have rv1 := (OV.out.mv htr2 (fun g hg => HT.out.b.lt g hg)).rb (by have := HLn.out; omega); obtain ⟨av', cv', ev, rv1⟩ := rv1; cases ev; have HSb := Lib.hid (SameBytes_any wd.heap.size av av2 _ cv _ cv2 (cc (q : Int)) (cc (q : Int)) wd rv1 rv2); rw [eqB_self] at HSb; have HX2 := Lib.hid hc2; have HTd := Lib.hid ht2.swap; clear ov2 hv2 hlen2 ht2 hc2 hm2 htr2 rv1 rv2)
          | (go_at_call 14; refine HSb.out.mono ?_; rintro e we ⟨rfl, nq, rfl⟩; have HTe := Lib.hid (HTd.out.below (below_dn (Below.refl _ wd) nq)); obtain ⟨z31, z32, z33, z34⟩ := HTe.out.cells)
          | (go_at_call 15; refine (HTe.out.frames (HX.out.2.trans HCC.out.2)).mono ?_; rintro e wf ⟨⟨nn, hnn, rfl⟩, rfl⟩; have hnn' : ¬ (4 : Int) < (nn : Int) := by omega))
        go_roundw
        case rel => exact ⟨j + 1, Sa1, Sb2, Da1, La1, Pa1, Db2, Lb2, Pb2, _, by have := HJ.out; omega, by go_num, Lib.hid ⟨HTe.out.mono (by omega), (HX.out.1.trans HCC.out.1).trans HX2.out.symm, HX.out.2.trans HCC.out.2⟩⟩
        case measure => have := HJ.out; simp [intOf]; omega
      · have he' : (er == 0) = false := by simpa using he
        have HT := Lib.hid HF8.out.two
        have HCC : Hid (CoreEq La7 Lb7 ∧ Pa.most = 4) := Lib.hid ⟨HC7.out, HC.out.2⟩
        clear HC7 HF8 hf8
        go_upto_region 26 with (fail)
        obtain ⟨z1, z2, z3, z4⟩ := HT.out.cells
        have HP := Lib.hid (HT.out.read (by have := HK.out; omega) (n := (q : Int)) ⟨by omega, HQ.out⟩)
        go_wp2_with (first
          | (go_at_call 13; (with_reducible refine HP.out.mono ?_); rintro e wb ⟨Sa1, Da1, La1, Pa1, v, rfl, ov, hv, hlen, ht, hc, hm, htr⟩; obtain ⟨z11, z12, z13, z14⟩ := ht.cells; obtain ⟨av, cv, rfl, -⟩ := ov.rb (by omega); have HP2 := Lib.hid (ht.swap.read (by have := HK.out; omega) (n := (q : Int)) ⟨by omega, HQ.out⟩); have OV := Lib.hid ov; have HLn := Lib.hid hlen; have HX := Lib.hid (And.intro hc hm); have HTb := Lib.hid ht; clear ov hv hlen ht hc hm htr)
          | (go_at_call 13; (with_reducible refine HP2.out.mono ?_); rintro e wd ⟨Sb2, Db2, Lb2, Pb2, v2, rfl, ov2, hv2, hlen2, ht2, hc2, hm2, htr2⟩; obtain ⟨z23, z24, z21, z22⟩ := ht2.cells; obtain ⟨av2, cv2, rfl, rv2⟩ := ov2.rb (by omega); have rv1 := (OV.out.mv htr2 (fun g hg => HT.out.b.lt g hg)).rb (by have := HLn.out; omega); obtain ⟨av', cv', ev, rv1⟩ := rv1; cases ev; have HSb := Lib.hid (SameBytes_any wd.heap.size av av2 _ cv _ cv2 (c (q : Int)) (c (q : Int)) wd rv1 rv2); rw [eqB_self] at HSb; have HX2 := Lib.hid hc2; have HTd := Lib.hid ht2.swap; clear ov2 hv2 hlen2 ht2 hc2 hm2 htr2 rv1 rv2)
          | (go_at_call 14; refine HSb.out.mono ?_; rintro e we ⟨rfl, nq, rfl⟩; have HTe := Lib.hid (HTd.out.below (below_dn (Below.refl _ wd) nq)); obtain ⟨z31, z32, z33, z34⟩ := HTe.out.cells)
          | (go_at_call 15; refine (HTe.out.frames (HX.out.2.trans HCC.out.2)).mono ?_; rintro e wf ⟨⟨nn, hnn, rfl⟩, rfl⟩; have hnn' : ¬ (4 : Int) < (nn : Int) := by omega))
        go_roundw
        case rel => exact ⟨j + 1, Sa1, Sb2, Da1, La1, Pa1, Db2, Lb2, Pb2, _, by have := HJ.out; omega, by go_num, Lib.hid ⟨HTe.out.mono (by omega), (HX.out.1.trans HCC.out.1).trans HX2.out.symm, HX.out.2.trans HCC.out.2⟩⟩
        case measure => have := HJ.out; simp [intOf]; omega
    · have hj2 : j = vn := by omega
      subst hj2
      have HK : Hid (100000 * j ≤ 90000000) := Lib.hid (by have := HV.out; omega)
      obtain ⟨z1, z2, z3, z4⟩ := HT.out.1.cells
      have HP := Lib.hid (HT.out.1.read (by have := HK.out; omega) (n := 0) (by omega))
      have HBe := Lib.hid HT.out.1.bel
      clear hlt
      go_wp2_with (first
        | (go_at_call 13; (with_reducible refine HP.out.mono ?_); rintro e wb ⟨Sa1, Da1, La1, Pa1, v, rfl, ov, hv, hlen, ht, hc, hm, htr⟩; obtain ⟨z11, z12, z13, z14⟩ := ht.cells; obtain ⟨av, cv, rfl, -⟩ := ov.rb (by omega); have HP2 := Lib.hid (ht.read (by have := HK.out; omega) (n := 0) (by omega)); have OV := Lib.hid ov; have HLn := Lib.hid hlen; have HV1 := Lib.hid hv; have HS1 := Lib.hid htr.size; clear ov hv hlen ht hc hm htr)
        | (go_at_call 13; (with_reducible refine HP2.out.mono ?_); rintro e wd ⟨Sb2, Db2, Lb2, Pb2, v2, rfl, ov2, hv2, hlen2, ht2, hc2, hm2, htr2⟩; obtain ⟨av2, cv2, rfl, -⟩ := ov2.rb (by omega); have HAp := Lib.hid (apart_few HBe.out OV.out ov2 htr2 (fun g hg => (HV1.out g hg).1) HLn.out HS1.out); have HO2 := Lib.hid ov2; have HBd := Lib.hid ht2.bel; clear ov2 hv2 hlen2 ht2 hc2 hm2 htr2)
        | (go_at_call 16; refine HAp.out.mono ?_; rintro e we ⟨rfl, ho⟩; have HE := Lib.hid (few_end (_S := fun _ => True) HBe.out OV.out HO2.out ho HBd.out HS1.out); clear ho))
      go_ret
      exact ⟨rfl, HE.out⟩
end Go.Proofs.YtohlkkannjifmaaGreatDoor
