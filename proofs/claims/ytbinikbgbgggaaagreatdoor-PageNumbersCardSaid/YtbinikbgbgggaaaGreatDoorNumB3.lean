/- storemanlaw21.PageNumbers: its walk, the beginning. -/
import Derived.Test.YtbinikbgbgggaaaGreatDoorNumB1
import Derived.Test.YtbinikbgbgggaaaGreatDoorNumB2
namespace Go.Proofs.YtbinikbgbgggaaaGreatDoor
open Go.RowKit Go.Shelf

section
variable {L0 zk zg zk2 t54 t55 t179 x41 x181 n1 n2 n3 n4 n5 n6 : List UInt8} {b512 b513 b180 b40 b41 b181 : Array Value}
set_option maxHeartbeats 16000000 in
set_option maxRecDepth 100000 in
theorem numbers_core (w : World) (hnear : ∀ W : World, Calls Tryz.prog 22 #[] W fun e W' => e = .returned (.bool true) ∧ Below W.heap.size W W') (hF : NF L0 zk zg zk2 t54 t55 t179 x41 x181 n1 n2 n3 n4 n5 n6 b512 b513 b180 b40 b41 b181) : Calls Tryz.prog 4 #[] w fun e w' => e = .returned (.bool true) ∧ Below w.heap.size w w' := by
  have HNR := Lib.hid hnear
  have HFR := Lib.hid hF
  have HN := Lib.hid hnear
  clear hnear
  have F := Lib.hid hF
  have m180 := hF.m180
  have m40 := hF.m40
  have m41 := hF.m41
  have m181 := hF.m181
  have m512 := hF.m512
  have m513 := hF.m513
  have hlk := hF.lk
  clear hF
  have l107 : ([107] : List UInt8).length = 1 := rfl
  have l120 : ([120] : List UInt8).length = 1 := rfl
  have l122 : ([122] : List UInt8).length = 1 := rfl
  have lnil : ([] : List UInt8).length = 0 := rfl
  have z0 : 0 ≤ 140737488355328 := by decide
  have z1 : 1 ≤ 140737488355328 := by decide
  have z54 : 54 ≤ 140737488355328 := by decide
  have z55 : 55 ≤ 140737488355328 := by decide
  go_enter Tryz.func4, Tryz.ntmps4
  go_wp2_with (fail)
  go_at_call 13
  refine (New_any _).mono ?_
  rintro e w1 ⟨rfl, hpg1, hb1⟩
  rw [← F.out.l0] at hpg1
  have P1 := Lib.hid hpg1
  have B1 := Lib.hid hb1
  clear hpg1 hb1
  obtain ⟨g, hg⟩ : ∃ g, g = w.heap.size := ⟨_, rfl⟩
  rw [← hg] at P1
  have hgw : w.heap.size ≤ g := by omega
  have Hg := Lib.hid hg
  rw [← hg]
  clear hg
  go_upto_region 5 with (fail)
  obtain ⟨gb, hgb⟩ : ∃ x, x = w1.heap.size := ⟨_, rfl⟩
  have hlt : g < gb := by rw [hgb]; exact P1.out.lt
  have k0 := F.out.r180 w1
  have k1 := F.out.r40 (w1.alloc (.cells b180 5))
  have d1 : Below w1.heap.size w1 (w1.alloc (.cells b180 5)) := (Below.refl _ w1).alloc (Nat.le_refl _) _
  have d2 : Below (w1.alloc (.cells b180 5)).heap.size (w1.alloc (.cells b180 5)) ((w1.alloc (.cells b180 5)).alloc (.cells b40 5)) := (Below.refl _ _).alloc (Nat.le_refl _) _
  simp only [World.size_alloc, ← hgb] at k0 k1 d1 d2
  obtain ⟨w3, hw3⟩ : ∃ W, W = (w1.alloc (.cells b180 5)).alloc (.cells b40 5) := ⟨_, rfl⟩
  have h3s : w3.heap.size = gb + 1 + 1 := by rw [hw3, World.size_alloc, World.size_alloc, hgb]
  rw [← hw3] at k1 d2
  rw [← h3s] at k1
  have d3 : Below w3.heap.size w3 (w3.alloc (.cells #[.slice (some ⟨gb + 1, 0, none⟩) 40 40, .slice none 0 0, .slice (some ⟨gb, 0, none⟩) 180 180] 36)) := (Below.refl _ _).alloc (Nat.le_refl _) _
  have t3 := T3.new w3 (.slice (some ⟨gb + 1, 0, none⟩) 40 40) (.slice none 0 0) (.slice (some ⟨gb, 0, none⟩) 180 180)
  rw [← hw3, ← hgb]
  obtain ⟨w4, hw4⟩ : ∃ W, W = w3.alloc (.cells #[.slice (some ⟨gb + 1, 0, none⟩) 40 40, .slice none 0 0, .slice (some ⟨gb, 0, none⟩) 180 180] 36) := ⟨_, rfl⟩
  rw [← hw4] at d3 t3 ⊢
  rw [h3s] at t3
  have b14 : Below w1.heap.size w1 w4 := ((hgb ▸ d1).trans (d2.mono (by omega))).trans (d3.mono (by omega))
  have kb := k1.below d3
  have bb := (k0.below d2).below (d3.mono (by omega))
  have P4 := Lib.hid (P1.out.below b14 P1.out.lt)
  have B4 := Lib.hid (B1.out.trans (b14.mono B1.out.size))
  have KB : Hid (RB w4.heap.size w4 (some ⟨gb + 1, 0, none⟩) 40 40 zk) := Lib.hid (kb.mono d3.size)
  have BB : Hid (RB w4.heap.size w4 (some ⟨gb, 0, none⟩) 180 180 zg) := Lib.hid (bb.mono (by have := d3.size; omega))
  have T4 := Lib.hid t3
  have h4s : gb + 1 + 1 < w4.heap.size := by rw [hw4, World.size_alloc, h3s]; omega
  have hk2 : RB w4.heap.size w4 (some ⟨gb + 1, 1, none⟩) 39 39 ((zk.drop 1).take 39) := KB.out.sub 1 39 (by decide)
  have HK2 := Lib.hid hk2
  have OW : Hid (OB w4.heap.size (w4.alloc (.cells #[.int .u8 1] 5)) (.slice (some ⟨w4.heap.size, 0, none⟩) 1 1) [1]) := Lib.hid ⟨rfl, .inr ⟨w4.heap.size, 1, #[.int .u8 1], rfl, Nat.le_refl _, heap_alloc_new w4 _, Nat.le_refl _, by simp [maxLen], rfl, rfl⟩⟩
  have B4a : Hid (Below w4.heap.size w4 (w4.alloc (.cells #[.int .u8 1] 5))) := Lib.hid ((Below.refl _ w4).alloc (Nat.le_refl _) _)
  have HW4 := Lib.hid hw4
  clear k0 k1 d1 d2 d3 t3 hw3 hw4 h3s b14 kb bb hk2 hgb P1 B1
  go_wp2_with (at_builtin; refine wpList_append_bytes rfl _ _ rfl w4.heap.size w4.heap.size _ [1] rfl OW.out _ _ _ ((zk.drop 1).take 39) rfl (HK2.out.below B4a.out) (by simp; omega) B4a.out.size ?_; intro v' w5 hown' hg' hiff; obtain ⟨a2, c2, hv2⟩ := slice40 F.out hown'; subst hv2; have O5 : Hid (OB w4.heap.size w5 (.slice a2 40 c2) zk2) := Lib.hid (by rw [F.out.k2]; exact hown'); have G5 := Lib.hid hg'; clear hown' hg' hiff)
  have B5 : Hid (Below w4.heap.size w4 w5) := Lib.hid (B4a.out.grown G5.out B4a.out.size (fun k e => by have e2 : w4.heap.size = k := Option.some.inj e; omega))
  have t5 := T3.new w5 (.slice a2 40 c2) (.slice none 0 0) (.slice (some ⟨gb, 0, none⟩) 180 180)
  have b6 : Below w5.heap.size w5 (w5.alloc (.cells #[.slice a2 40 c2, .slice none 0 0, .slice (some ⟨gb, 0, none⟩) 180 180] 36)) := (Below.refl _ _).alloc (Nat.le_refl _) _
  obtain ⟨y2, hy2⟩ : ∃ y, y = w5.heap.size := ⟨_, rfl⟩
  have s5 := B5.out.size
  have b56 : Below w4.heap.size w4 (w5.alloc (.cells #[.slice a2 40 c2, .slice none 0 0, .slice (some ⟨gb, 0, none⟩) 180 180] 36)) := B5.out.trans (b6.mono s5)
  have hO5 := fun b e => rows_ge O5.out b e
  obtain ⟨w6, hw6⟩ : ∃ W, W = w5.alloc (.cells #[.slice a2 40 c2, .slice none 0 0, .slice (some ⟨gb, 0, none⟩) 180 180] 36) := ⟨_, rfl⟩
  have h6s : w5.heap.size + 1 = w6.heap.size := by rw [hw6, World.size_alloc]
  have S6 : Hid (NS w w6 g (gb + 1) gb (gb + 1 + 1) y2 a2 c2 zk zg zk2 L0) := Lib.hid (by
    have hr2 := rb40 F.out O5.out
    rw [← hw6] at t5 b6 b56
    refine ⟨B4.out.trans (b56.mono B4.out.size), P4.out.below b56 P4.out.lt, hgw, ⟨(KB.out.below b56).mono (by omega), fun _ b o s e => by cases e; omega⟩, ⟨(BB.out.below b56).mono (by omega), fun _ b o s e => by cases e; omega⟩, ⟨(hr2.below b6).mono (by omega), fun _ b o s e => by have := hO5 b (by rw [e]; rfl); omega⟩, T4.out.below b56 h4s, by rw [hy2]; exact t5, by omega, by omega⟩)
  rw [← hw6, ← hy2]
  clear b6 b56 t5 hO5 hw6 h6s O5 G5 B5 KB BB T4 P4 B4 HK2 OW B4a s5 h4s hlt hy2 HW4 Hg
  go_upto_if 82 with (fail)
  go_cut [82] (fun s82 wx => s82 = .bool false ∧ Hid (NS w wx g (gb + 1) gb (gb + 1 + 1) y2 a2 c2 zk zg zk2 n4))
  case first =>
--(
    have HS : Hid (NS w w6.drew g (gb + 1) gb (gb + 1 + 1) y2 a2 c2 zk zg zk2 L0) := Lib.hid (S6.out.below (Below.refl _ _).drew)
    have cv54 := HS.out.conv 54 (by decide) F.out.e54
    have cv55 := HS.out.conv 55 (by decide) F.out.e55
    obtain ⟨x0, x1, x2⟩ := S6.out.o1.cells
    obtain ⟨y0, y1', y2'⟩ := S6.out.o2.cells
    go_region_held3 (fun w' => (w'.cell? ⟨gb + 1 + 1, 0, none⟩ = some (.slice (some ⟨gb + 1, 0, none⟩) 40 40) ∧ w'.cell? ⟨gb + 1 + 1, 1, none⟩ = some (.slice none 0 0) ∧ w'.cell? ⟨gb + 1 + 1, 2, none⟩ = some (.slice (some ⟨gb, 0, none⟩) 180 180)) ∧ (w'.cell? ⟨y2, 0, none⟩ = some (.slice a2 40 c2) ∧ w'.cell? ⟨y2, 1, none⟩ = some (.slice none 0 0) ∧ w'.cell? ⟨y2, 2, none⟩ = some (.slice (some ⟨gb, 0, none⟩) 180 180)) ∧ ((convert 22 9 (.slice (some ⟨gb, 0, none⟩) 54 180)).run Tryz.prog w' = .ok (.string ⟨t54.toArray⟩) w' ∧ (convert 22 9 (.slice (some ⟨gb, 0, none⟩) 55 180)).run Tryz.prog w' = .ok (.string ⟨t55.toArray⟩) w')) (first | go_keep | exact ⟨⟨x0, x1, x2⟩, ⟨y0, y1', y2'⟩, ⟨cv54, cv55⟩⟩) (first | (go_at_call 14; (first | (with_reducible refine (HS.out.turn _ _ _ _ _ _ _ _ _ _ _ _ F.out.q1 HS.out.kb (RBn.emp' _ _ _) HS.out.bb).mono ?_) | (with_reducible refine (HS.out.turn _ _ _ _ _ _ _ _ _ _ _ _ F.out.q2 HS.out.k2 (RBn.emp' _ _ _) HS.out.bb).mono ?_) | (with_reducible refine (HS.out.turn _ _ _ _ _ _ _ _ _ _ _ _ F.out.q4 R0.out R1.out R2.out).mono ?_) | (with_reducible refine (HS.out.turn _ _ _ _ _ _ _ _ _ _ _ _ F.out.q5 R0.out R1.out R2.out).mono ?_) | (with_reducible refine (HS.out.turn _ _ _ _ _ _ _ _ _ _ _ _ F.out.q7 R0.out R1.out R2.out).mono ?_) | (with_reducible refine (HS.out.turn _ _ _ _ _ _ _ _ _ _ _ _ F.out.q8 R0.out R1.out R2.out).mono ?_)); rintro e wA ⟨rfl, hS⟩; have HS := Lib.hid hS; have cv54 := hS.conv 54 (by decide) F.out.e54; have cv55 := hS.conv 55 (by decide) F.out.e55; obtain ⟨x0, x1, x2⟩ := hS.o1.cells; obtain ⟨y0, y1', y2'⟩ := hS.o2.cells; clear hS) | (go_at_call 15; (first | (with_reducible refine (HS.out.room F.out.q3).mono ?_) | (with_reducible refine (HS.out.room F.out.q6).mono ?_)); rintro e wA ⟨rfl, hS⟩; have HS := Lib.hid hS; have cv54 := hS.conv 54 (by decide) F.out.e54; have cv55 := hS.conv 55 (by decide) F.out.e55; obtain ⟨x0, x1, x2⟩ := hS.o1.cells; obtain ⟨y0, y1', y2'⟩ := hS.o2.cells; clear hS) | (go_at_call 16; (first | (with_reducible refine (HS.out.textsM [107] [] t55 1 0 55 l107 lnil F.out.l55 z1 z0 z55).mono ?_) | (with_reducible refine (HS.out.textsM [107] [] t54 1 0 54 l107 lnil F.out.l54 z1 z0 z54).mono ?_) | (with_reducible refine (HS.out.textsM [107] t54 t55 1 54 55 l107 F.out.l54 F.out.l55 z1 z54 z55).mono ?_) | (with_reducible refine (HS.out.textsM [107] t54 [120] 1 54 1 l107 F.out.l54 l120 z1 z54 z1).mono ?_)); rintro e wA ⟨⟨k0, k1, o0, o1, n0, n1', rfl, r0, r1, r2⟩, hS⟩; have R0 := Lib.hid r0; have R1 := Lib.hid r1; have R2 := Lib.hid r2; clear r0 r1 r2; have HS := Lib.hid hS; have cv54 := hS.conv 54 (by decide) F.out.e54; have cv55 := hS.conv 55 (by decide) F.out.e55; obtain ⟨x0, x1, x2⟩ := hS.o1.cells; obtain ⟨y0, y1', y2'⟩ := hS.o2.cells; clear hS))
    go_wp2_with (fail)
    go_meet
    case rel => exact ⟨rfl, HS⟩
--)
  case rest =>
  obtain ⟨rfl, S8⟩ := hcut
  go_step
  go_step
  go_step
  go_step
  go_step
  exact numbers_mid w _ HNR.out HFR.out g gb y2 a2 c2 S8 _ _ _ _ _ _ _ _ _ _ _ _ _ _ _ _ _ _ _ _ _ _ _ _ _ _ _ _ _ _ _ _ _ _ _ _ _ _ _ _ _ _ _ _ _ _ _ _ _ _ _ _ _ _ _ _ _ _ _ _ _ _ _ _ _ _ _ _ _ _ _ _ _ _ _ _ _ _ _ _ _ _ _ _ _ _ _ _ _ _ _ _ _ _ _ _ _ _ _ _ _ _ _ _ _ _ _ _ _ _ _ _ _ _ _ _ _ _ _ _ _ _ _ _ _ _ _ _ _ _ _ _ _ _ _ _ _ _ _ _ _ _ _ _ _ _ _ _ _ _ _ _ _ _ _ _ _ _ _ _ _ _ _ _ _ _ _ _ _ _ _ _ _ _ _ _ _ _ _ _ _ _ _ _ _ _ _ _ _ _ _ _ _ _ _ _ _ _ _ _ _ _ _ _ _ _ _ _ _ _ _ _ _ _ _ _ _ _ _ _ _ _ _ _ _ _ _ _ _ _ _ _ _ _ _ _ _ _ _ _ _ _ _ _ _ _ _ _ _ _ _ _ _ _ _ _
end
end Go.Proofs.YtbinikbgbgggaaaGreatDoor
