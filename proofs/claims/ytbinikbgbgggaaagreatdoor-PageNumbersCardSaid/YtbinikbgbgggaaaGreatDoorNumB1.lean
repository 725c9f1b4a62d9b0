/- storemanlaw21.PageNumbers: its walk. -/
import Derived.Test.YtbinikbgbgggaaaGreatDoorNumC
import Derived.Deep.RegionHeld3
import Derived.Deep.DeepCutAuto
import Derived.Deep.AppendLies
namespace Go.Proofs.YtbinikbgbgggaaaGreatDoor
open Go.RowKit Go.Shelf

section
variable {L0 zk zg zk2 t54 t55 t179 x41 x181 n1 n2 n3 n4 n5 n6 : List UInt8} {b512 b513 b180 b40 b41 b181 : Array Value}
/-- What stands behind the first n statements. -/
def dropC : Nat → Code → Code
  | n + 1, .seq _ b => dropC n b
  | _, c => c
theorem NF.lk2 (F : NF L0 zk zg zk2 t54 t55 t179 x41 x181 n1 n2 n3 n4 n5 n6 b512 b513 b180 b40 b41 b181) : ([1] ++ (zk.drop 1).take 39).length = 40 := by
  have := F.lk
  simp; omega
theorem slice40 (F : NF L0 zk zg zk2 t54 t55 t179 x41 x181 n1 n2 n3 n4 n5 n6 b512 b513 b180 b40 b41 b181) {B : Nat} {W : World} {v : Value} (h : OB B W v ([1] ++ (zk.drop 1).take 39)) : ∃ a c, v = .slice a 40 c := by
  obtain ⟨a, c, e, -⟩ := rows_form h
  exact ⟨a, c, by rw [← F.lk2]; exact e⟩
theorem rb40 (F : NF L0 zk zg zk2 t54 t55 t179 x41 x181 n1 n2 n3 n4 n5 n6 b512 b513 b180 b40 b41 b181) {B : Nat} {W : World} {a : Option Addr} {c : Nat} (h : OB B W (.slice a 40 c) zk2) : RB W.heap.size W a 40 c zk2 := by
  have hl : zk2.length = 40 := by rw [F.k2]; exact F.lk2
  obtain ⟨a', c', e, hr⟩ := h.rb (by rw [hl]; decide)
  rw [hl] at e hr
  cases e
  exact hr

theorem p513 : behindL (zs 513) = 0 := by kernel_rfl
theorem ent_turn : Enters Tryz.prog 16 := enters_of Tryz.func16 (by kernel_rfl) rfl
/-- The law's keys. -/
def KS (n : Nat) : ByteArray := if n = 0 then ⟨#[97]⟩ else if n = 1 then ⟨#[97, 98]⟩ else if n = 2 then ⟨#[98]⟩ else if n = 3 then ⟨#[0]⟩ else if n = 4 then ⟨#[255]⟩ else if n = 5 then ⟨#[97, 97]⟩ else ⟨#[97, 0]⟩
theorem ks_size (n : Nat) : (KS n).size ≤ 2 := by
  unfold KS
  split <;> (try split) <;> (try split) <;> (try split) <;> (try split) <;> (try split) <;> decide
theorem run_build3 {ev : Operand → Value} {o : Oper} {x y z : Operand} {a b c d e f g h i : Value} (ho : o.op = .buildSlice 44 3 #[(0, x), (1, y), (2, z)]) (h0 : ev x = .agg #[.int .i64 2, .int .i64 0, .int .i64 0, a, b, c, .bool false]) (h1 : ev y = .agg #[.int .i64 2, .int .i64 0, .int .i64 0, d, e, f, .bool true]) (h2 : ev z = .agg #[.int .i64 2, .int .i64 0, .int .i64 0, g, h, i, .bool true]) (w : World) :
    (execOp ev o).run Tryz.prog w = .ok (.value (.slice (some ⟨w.heap.size, 0, none⟩) 3 3)) (w.alloc (.cells (d3 a b c d e f g h i).toArray 47)) := by
  simp [execOp, ho, h0, h1, h2, go_sem, d3]
set_option maxHeartbeats 16000000 in
set_option maxRecDepth 1000000 in
theorem numbers_tail {L0 zk zg zk2 t54 t55 t179 x41 x181 n1 n2 n3 n4 n5 n6 : List UInt8} {b512 b513 b180 b40 b41 b181 : Array Value} (w v26 : World) (hnear : ∀ W : World, Calls Tryz.prog 22 #[] W fun e W' => e = .returned (.bool true) ∧ Below W.heap.size W W') (hF : NF L0 zk zg zk2 t54 t55 t179 x41 x181 n1 n2 n3 n4 n5 n6 b512 b513 b180 b40 b41 b181) (B26 : Hid (Below w.heap.size w v26)) (sl0 sl1 sl2 sl3 sl4 sl5 sl6 sl7 sl8 sl9 sl10 sl11 sl12 sl13 sl14 sl15 sl16 sl17 sl18 sl19 sl20 sl21 sl22 sl23 sl24 sl25 sl26 sl27 sl28 sl29 sl30 sl31 sl32 sl33 sl34 sl35 sl36 sl37 sl38 sl39 sl40 sl41 sl42 sl43 sl44 sl45 sl46 sl47 sl48 sl49 sl50 sl51 sl52 sl53 sl54 sl55 sl56 sl57 sl58 sl59 sl60 sl61 sl62 sl63 sl64 sl65 sl66 sl67 sl68 sl69 sl70 sl71 sl72 sl73 sl74 sl75 sl76 sl77 sl78 sl79 sl80 sl81 sl82 sl83 sl84 sl85 sl86 sl87 sl88 sl89 sl90 sl91 sl92 sl93 sl94 sl95 sl96 sl97 sl98 sl99 sl100 sl101 sl102 sl103 sl104 sl105 sl106 sl107 sl108 sl109 sl110 sl111 sl112 sl113 sl114 sl115 sl116 sl117 sl118 sl119 sl120 sl121 sl122 sl123 sl124 sl125 sl126 sl127 sl128 sl129 sl130 sl131 sl132 sl133 sl134 sl135 sl136 sl137 sl138 sl139 sl140 sl141 sl142 sl143 sl144 sl145 sl146 sl147 sl148 sl149 sl150 sl151 sl152 sl153 sl154 sl155 sl156 sl157 sl158 sl159 sl160 sl161 sl162 sl163 sl164 sl165 sl166 sl167 sl168 sl169 sl170 sl171 sl172 sl173 sl174 sl175 sl176 sl177 sl178 sl179 sl180 sl181 sl182 sl183 sl184 sl185 sl186 sl187 sl188 sl189 sl190 sl191 sl192 sl193 sl194 sl195 sl196 sl197 sl198 sl199 sl200 sl201 sl202 sl203 sl204 sl205 sl206 sl207 sl208 sl209 sl210 sl211 sl212 sl213 sl214 sl215 sl216 sl217 sl218 sl219 sl220 sl221 sl222 sl223 sl224 sl225 sl226 sl227 sl228 sl229 sl230 sl231 sl232 sl233 sl234 sl235 sl236 sl237 sl238 sl239 sl240 sl241 sl242 sl243 sl244 sl245 sl246 sl247 sl248 sl249 sl250 sl251 sl252 sl253 sl254 sl255 sl256 sl257 sl258 sl259 sl260 : Value) :
    Code.wp Tryz.prog (dropC 9 (Tryz.f4.body.getD .skip)) (bodyPost Tryz.prog Tryz.f4 fun e w' => e = .returned (.bool true) ∧ Below w.heap.size w w') ⟨List.toArray (sl0 :: sl1 :: sl2 :: sl3 :: sl4 :: sl5 :: sl6 :: sl7 :: sl8 :: sl9 :: sl10 :: sl11 :: sl12 :: sl13 :: sl14 :: sl15 :: sl16 :: sl17 :: sl18 :: sl19 :: sl20 :: sl21 :: sl22 :: sl23 :: sl24 :: sl25 :: sl26 :: sl27 :: sl28 :: sl29 :: sl30 :: sl31 :: sl32 :: sl33 :: sl34 :: sl35 :: sl36 :: sl37 :: sl38 :: sl39 :: sl40 :: sl41 :: sl42 :: sl43 :: sl44 :: sl45 :: sl46 :: sl47 :: sl48 :: sl49 :: sl50 :: sl51 :: sl52 :: sl53 :: sl54 :: sl55 :: sl56 :: sl57 :: sl58 :: sl59 :: sl60 :: sl61 :: sl62 :: sl63 :: sl64 :: sl65 :: sl66 :: sl67 :: sl68 :: sl69 :: sl70 :: sl71 :: sl72 :: sl73 :: sl74 :: sl75 :: sl76 :: sl77 :: sl78 :: sl79 :: sl80 :: sl81 :: sl82 :: sl83 :: sl84 :: sl85 :: sl86 :: sl87 :: sl88 :: sl89 :: sl90 :: sl91 :: sl92 :: sl93 :: sl94 :: sl95 :: sl96 :: sl97 :: sl98 :: sl99 :: sl100 :: sl101 :: sl102 :: sl103 :: sl104 :: sl105 :: sl106 :: sl107 :: sl108 :: sl109 :: sl110 :: sl111 :: sl112 :: sl113 :: sl114 :: sl115 :: sl116 :: sl117 :: sl118 :: sl119 :: sl120 :: sl121 :: sl122 :: sl123 :: sl124 :: sl125 :: sl126 :: sl127 :: sl128 :: sl129 :: sl130 :: sl131 :: sl132 :: sl133 :: sl134 :: sl135 :: sl136 :: sl137 :: sl138 :: sl139 :: sl140 :: sl141 :: sl142 :: sl143 :: sl144 :: sl145 :: sl146 :: sl147 :: sl148 :: sl149 :: sl150 :: sl151 :: sl152 :: sl153 :: sl154 :: sl155 :: sl156 :: sl157 :: sl158 :: sl159 :: sl160 :: sl161 :: sl162 :: sl163 :: sl164 :: sl165 :: sl166 :: sl167 :: sl168 :: sl169 :: sl170 :: sl171 :: sl172 :: sl173 :: sl174 :: sl175 :: sl176 :: sl177 :: sl178 :: sl179 :: sl180 :: sl181 :: sl182 :: sl183 :: sl184 :: sl185 :: sl186 :: sl187 :: sl188 :: sl189 :: sl190 :: sl191 :: sl192 :: sl193 :: sl194 :: sl195 :: sl196 :: sl197 :: sl198 :: sl199 :: sl200 :: sl201 :: sl202 :: sl203 :: sl204 :: sl205 :: sl206 :: sl207 :: sl208 :: sl209 :: sl210 :: sl211 :: sl212 :: sl213 :: sl214 :: sl215 :: sl216 :: sl217 :: sl218 :: sl219 :: sl220 :: sl221 :: sl222 :: sl223 :: sl224 :: sl225 :: sl226 :: sl227 :: sl228 :: sl229 :: sl230 :: sl231 :: sl232 :: sl233 :: sl234 :: sl235 :: sl236 :: sl237 :: sl238 :: sl239 :: sl240 :: sl241 :: sl242 :: sl243 :: sl244 :: sl245 :: sl246 :: sl247 :: sl248 :: sl249 :: sl250 :: sl251 :: sl252 :: sl253 :: sl254 :: sl255 :: sl256 :: sl257 :: sl258 :: sl259 :: sl260 :: []), []⟩ v26 := by
  have HN := Lib.hid hnear
  clear hnear
  have F := Lib.hid hF
  have m180 := hF.m180
  have m40 := hF.m40
  have m41 := hF.m41
  have m181 := hF.m181
  have m512 := hF.m512
  have m513 := hF.m513
  have hlk := hF.lk
  clear hF
  have l107 : ([107] : List UInt8).length = 1 := rfl
  have l120 : ([120] : List UInt8).length = 1 := rfl
  have l122 : ([122] : List UInt8).length = 1 := rfl
  have lnil : ([] : List UInt8).length = 0 := rfl
  have z0 : 0 ≤ 140737488355328 := by decide
  have z1 : 1 ≤ 140737488355328 := by decide
  have z54 : 54 ≤ 140737488355328 := by decide
  have z55 : 55 ≤ 140737488355328 := by decide
  conv => arg 2; whnf
  obtain ⟨kb, hkb⟩ : ∃ x, x = v26.heap.size := ⟨_, rfl⟩
  have hkz : ∀ n : Nat, (KS n).size ≤ 140737488355328 := fun n => Nat.le_trans (ks_size n) (by decide)
  have KZ : Hid (∀ n : Nat, n < 7 → (KS n).size ≤ 140737488355328) := Lib.hid (fun n _ => hkz n)
  have bk : Below v26.heap.size v26 (v26.alloc (.cells #[.string (KS 0), .string (KS 1), .string (KS 2), .string (KS 3), .string (KS 4), .string (KS 5), .string (KS 6)] 9)) := (Below.refl _ _).alloc (Nat.le_refl _) _
  have hnew := heap_alloc_new v26 (.cells #[.string (KS 0), .string (KS 1), .string (KS 2), .string (KS 3), .string (KS 4), .string (KS 5), .string (KS 6)] 9)
  obtain ⟨w27, hw27⟩ : ∃ W, W = v26.alloc (.cells #[.string (KS 0), .string (KS 1), .string (KS 2), .string (KS 3), .string (KS 4), .string (KS 5), .string (KS 6)] 9) := ⟨_, rfl⟩
  rw [← hw27, ← hkb] at hnew
  rw [← hw27] at bk
  have HNW := Lib.hid hnew
  have BK := Lib.hid (B26.out.trans (bk.mono B26.out.size))
  have hk27 : kb < w27.heap.size := (Array.getElem?_eq_some_iff.1 hnew).1
  have Hw27 := Lib.hid hw27
  have Hkb := Lib.hid hkb
  clear hkz bk hnew hw27 hkb B26
  go_upto_region 14 with (fail)
  go_cut [7, 8] (fun s7 s8 wx => s7 = .slice (some ⟨kb, 0, none⟩) 7 7 ∧ s8 = .int .i64 0 ∧ w27 = wx)
  case first =>
    go_wp2_with (fail)
    go_meet
    case rel =>
      rw [Hw27.out, Hkb.out]
      exact ⟨rfl, rfl, rfl⟩
  case rest =>
  obtain ⟨rfl, rfl, rfl⟩ := hcut
  clear Hw27 Hkb
  obtain ⟨i0, hi, hz0, hz1, hz2⟩ := info_parts (P := Tryz.prog) (e := 47) (z := .agg #[.int .i64 0, .int .i64 0, .int .i64 0, .slice none 0 0, .slice none 0 0, .slice none 0 0, .bool false]) (size := 7) (bytes := 104) (by kernel_rfl)
  have Hi := Lib.hid hi
  have Hz0 := Lib.hid hz0
  have Hz1 := Lib.hid hz1
  have Hz2 := Lib.hid hz2
  clear hi hz0 hz1 hz2
  have HK27 : Hid (∀ W, Below w27.heap.size w27 W → ∀ j, j < 7 → W.cell? ⟨kb, j, none⟩ = some (.string (KS j))) := Lib.hid (fun W hW j hj => by
    rw [cell_of_row W kb j _ _ _ ((hW.block kb hk27).trans HNW.out)]
    rcases (show j = 0 ∨ j = 1 ∨ j = 2 ∨ j = 3 ∨ j = 4 ∨ j = 5 ∨ j = 6 by omega) with rfl | rfl | rfl | rfl | rfl | rfl | rfl <;> rfl)
  go_wp2_with (fail)
  go_loopw [6, 8] (fun s6 s8 wr => ∃ (i : Nat) (la : Option Addr) (lc : Nat), s8 = .int .i64 i ∧ i ≤ 7 ∧ s6 = .slice la (i * 3) lc ∧ Hid (DL w27.heap.size wr (.slice la (i * 3) lc) (i * 3)) ∧ Hid (Below w27.heap.size w27 wr)) (fun _ s8 _ => 7 - (intOf s8).toNat)
  case atStart => exact ⟨0, none, 0, rfl, by omega, rfl, Lib.hid (DL.nil _ _), Lib.hid (Below.refl _ _)⟩
  case round =>
    obtain ⟨i, la, lc, rfl, hi7, rfl, Hdl, Hb⟩ := hrel
    by_cases hin : i < 7
    · skip
  --(
      obtain ⟨m3, hm3⟩ : ∃ m, m = i * 3 := ⟨_, rfl⟩
      obtain ⟨j3, hj3⟩ : ∃ m, m = m3 % 7 := ⟨_, rfl⟩
      obtain ⟨m5, hm5⟩ : ∃ m, m = i * 5 := ⟨_, rfl⟩
      obtain ⟨j5, hj5⟩ : ∃ m, m = m5 % 7 := ⟨_, rfl⟩
      have f1 : IntKind.i64.wrap ((i : Int) * 3) = (m3 : Int) := by rw [wrap_in (by omega) (by omega)]; omega
      have f2 : (m3 : Int).tmod 7 = (j3 : Int) := by rw [hj3]; exact (Int.ofNat_tmod m3 7).symm
      have f3 : IntKind.i64.wrap (j3 : Int) = (j3 : Int) := wrap_in (by omega) (by omega)
      have f4 : IntKind.i64.wrap ((i : Int) * 5) = (m5 : Int) := by rw [wrap_in (by omega) (by omega)]; omega
      have f5 : (m5 : Int).tmod 7 = (j5 : Int) := by rw [hj5]; exact (Int.ofNat_tmod m5 7).symm
      have f6 : IntKind.i64.wrap (j5 : Int) = (j5 : Int) := wrap_in (by omega) (by omega)
      have l3 : j3 < 7 := by omega
      have l5 : j5 < 7 := by omega
      have i1 : (0 : Int) ≤ (j3 : Int) := by omega
      have i2 : (j3 : Int) < 7 := by omega
      have i3 : (0 : Int) ≤ (j5 : Int) := by omega
      have i4 : (j5 : Int) < 7 := by omega
      have i5 : (0 : Int) ≤ (i : Int) := by omega
      have i6 : (i : Int) < 7 := by omega
      have HK : Hid (∀ W, Below wr.heap.size wr W → ∀ j, j < 7 → W.cell? ⟨kb, j, none⟩ = some (.string (KS j))) := Lib.hid (fun W hW => HK27.out W (Hb.out.trans (hW.mono Hb.out.size)))
      have HB : Hid (Below wr.heap.size wr wr.drew) := Lib.hid (Below.refl _ _).drew
      clear hm3 hj3 hm5 hj5
      have HTx := Lib.hid (fun W => turn_any (KS i) ⟨#[]⟩ ⟨#[49]⟩ W (KZ.out i hin) (by decide) (by decide))
      have HTy := Lib.hid (fun W => turn_any (KS j3) ⟨#[]⟩ ⟨#[50, 51]⟩ W (KZ.out j3 l3) (by decide) (by decide))
      have HTv := Lib.hid (fun W => turn_any (KS j5) ⟨#[]⟩ ⟨#[]⟩ W (KZ.out j5 l5) (by decide) (by decide))
      go_wp2_with (fail)
      refine wp_region_held_drew (S := fun w' => ∀ j, j < 7 → w'.cell? ⟨kb, j, none⟩ = some (.string (KS j))) (by kernel_rfl) (HK.out _ HB.out) (fun _ => ?_)
      refine wpAnyH_take (i := 0) (v := .slice la (i * 3) lc) rfl (by kernel_rfl) (by kernel_rfl) (by kernel_rfl) (fun _ _ _ h => h) (Or.inl ⟨by rfl, fun w' hSw => ?_⟩) (HK.out _ HB.out) ?_
      · go_simp
      change wpAnyH _ _ _ _ _ _ _ (Act.put _ (some 185) _) _
      simp only [Act.put, List.setIfInBounds_toArray, List.set_cons_zero, List.set_cons_succ]
      refine wpAnyH_take (i := 1) (v := .slice (some ⟨kb, 0, none⟩) 7 7) rfl (by kernel_rfl) (by kernel_rfl) (by kernel_rfl) (fun _ _ _ h => h) (Or.inl ⟨by rfl, fun w' hSw => ?_⟩) (HK.out _ HB.out) ?_
      · go_simp
      change wpAnyH _ _ _ _ _ _ _ (Act.put _ (some 186) _) _
      simp only [Act.put, List.setIfInBounds_toArray, List.set_cons_zero, List.set_cons_succ]
      refine wpAnyH_take (i := 2) (v := .int .i64 i) rfl (by kernel_rfl) (by kernel_rfl) (by kernel_rfl) (fun _ _ _ h => h) (Or.inl ⟨by rfl, fun w' hSw => ?_⟩) (HK.out _ HB.out) ?_
      · go_simp
      change wpAnyH _ _ _ _ _ _ _ (Act.put _ (some 187) _) _
      simp only [Act.put, List.setIfInBounds_toArray, List.set_cons_zero, List.set_cons_succ]
      refine wpAnyH_take (i := 3) (v := .pointer (some ⟨kb, i, none⟩)) rfl (by kernel_rfl) (by kernel_rfl) (by kernel_rfl) (fun _ _ _ h => h) (Or.inl ⟨by rfl, fun w' hSw => ?_⟩) (HK.out _ HB.out) ?_
      · go_simp
      change wpAnyH _ _ _ _ _ _ _ (Act.put _ (some 188) _) _
      simp only [Act.put, List.setIfInBounds_toArray, List.set_cons_zero, List.set_cons_succ]
      refine wpAnyH_take (i := 4) (v := .string (KS i)) rfl (by kernel_rfl) (by kernel_rfl) (by kernel_rfl) (fun _ _ _ h => h) (Or.inl ⟨by rfl, fun w' hSw => ?_⟩) (HK.out _ HB.out) ?_
      · have hc := hSw i (by omega)
        go_simp
      change wpAnyH _ _ _ _ _ _ _ (Act.put _ (some 189) _) _
      simp only [Act.put, List.setIfInBounds_toArray, List.set_cons_zero, List.set_cons_succ]
      refine wpAnyH_take (i := 7) (v := .slice (some ⟨kb, 0, none⟩) 7 7) rfl (by kernel_rfl) (by kernel_rfl) (by kernel_rfl) (fun _ _ _ h => h) (Or.inl ⟨by rfl, fun w' hSw => ?_⟩) (HK.out _ HB.out) ?_
      · go_simp
      change wpAnyH _ _ _ _ _ _ _ (Act.put _ (some 192) _) _
      simp only [Act.put, List.setIfInBounds_toArray, List.set_cons_zero, List.set_cons_succ]
      refine wpAnyH_take (i := 8) (v := .int .i64 i) rfl (by kernel_rfl) (by kernel_rfl) (by kernel_rfl) (fun _ _ _ h => h) (Or.inl ⟨by rfl, fun w' hSw => ?_⟩) (HK.out _ HB.out) ?_
      · go_simp
      change wpAnyH _ _ _ _ _ _ _ (Act.put _ (some 193) _) _
      simp only [Act.put, List.setIfInBounds_toArray, List.set_cons_zero, List.set_cons_succ]
      refine wpAnyH_take (i := 9) (v := .int .i64 (m3 : Int)) rfl (by kernel_rfl) (by kernel_rfl) (by kernel_rfl) (fun _ _ _ h => h) (Or.inl ⟨by rfl, fun w' hSw => ?_⟩) (HK.out _ HB.out) ?_
      · go_simp
      change wpAnyH _ _ _ _ _ _ _ (Act.put _ (some 194) _) _
      simp only [Act.put, List.setIfInBounds_toArray, List.set_cons_zero, List.set_cons_succ]
      refine wpAnyH_take (i := 10) (v := .int .i64 (j3 : Int)) rfl (by kernel_rfl) (by kernel_rfl) (by kernel_rfl) (fun _ _ _ h => h) (Or.inl ⟨by rfl, fun w' hSw => ?_⟩) (HK.out _ HB.out) ?_
      · go_simp
      change wpAnyH _ _ _ _ _ _ _ (Act.put _ (some 195) _) _
      simp only [Act.put, List.setIfInBounds_toArray, List.set_cons_zero, List.set_cons_succ]
      refine wpAnyH_take (i := 11) (v := .pointer (some ⟨kb, j3, none⟩)) rfl (by kernel_rfl) (by kernel_rfl) (by kernel_rfl) (fun _ _ _ h => h) (Or.inl ⟨by rfl, fun w' hSw => ?_⟩) (HK.out _ HB.out) ?_
      · go_simp
      change wpAnyH _ _ _ _ _ _ _ (Act.put _ (some 196) _) _
      simp only [Act.put, List.setIfInBounds_toArray, List.set_cons_zero, List.set_cons_succ]
      refine wpAnyH_take (i := 12) (v := .string (KS j3)) rfl (by kernel_rfl) (by kernel_rfl) (by kernel_rfl) (fun _ _ _ h => h) (Or.inl ⟨by rfl, fun w' hSw => ?_⟩) (HK.out _ HB.out) ?_
      · have hc := hSw j3 (by omega)
        go_simp
      change wpAnyH _ _ _ _ _ _ _ (Act.put _ (some 197) _) _
      simp only [Act.put, List.setIfInBounds_toArray, List.set_cons_zero, List.set_cons_succ]
      refine wpAnyH_take (i := 15) (v := .slice (some ⟨kb, 0, none⟩) 7 7) rfl (by kernel_rfl) (by kernel_rfl) (by kernel_rfl) (fun _ _ _ h => h) (Or.inl ⟨by rfl, fun w' hSw => ?_⟩) (HK.out _ HB.out) ?_
      · go_simp
      change wpAnyH _ _ _ _ _ _ _ (Act.put _ (some 200) _) _
      simp only [Act.put, List.setIfInBounds_toArray, List.set_cons_zero, List.set_cons_succ]
      refine wpAnyH_take (i := 16) (v := .int .i64 i) rfl (by kernel_rfl) (by kernel_rfl) (by kernel_rfl) (fun _ _ _ h => h) (Or.inl ⟨by rfl, fun w' hSw => ?_⟩) (HK.out _ HB.out) ?_
      · go_simp
      change wpAnyH _ _ _ _ _ _ _ (Act.put _ (some 201) _) _
      simp only [Act.put, List.setIfInBounds_toArray, List.set_cons_zero, List.set_cons_succ]
      refine wpAnyH_take (i := 17) (v := .int .i64 (m5 : Int)) rfl (by kernel_rfl) (by kernel_rfl) (by kernel_rfl) (fun _ _ _ h => h) (Or.inl ⟨by rfl, fun w' hSw => ?_⟩) (HK.out _ HB.out) ?_
      · go_simp
      change wpAnyH _ _ _ _ _ _ _ (Act.put _ (some 202) _) _
      simp only [Act.put, List.setIfInBounds_toArray, List.set_cons_zero, List.set_cons_succ]
      refine wpAnyH_take (i := 18) (v := .int .i64 (j5 : Int)) rfl (by kernel_rfl) (by kernel_rfl) (by kernel_rfl) (fun _ _ _ h => h) (Or.inl ⟨by rfl, fun w' hSw => ?_⟩) (HK.out _ HB.out) ?_
      · go_simp
      change wpAnyH _ _ _ _ _ _ _ (Act.put _ (some 203) _) _
      simp only [Act.put, List.setIfInBounds_toArray, List.set_cons_zero, List.set_cons_succ]
      refine wpAnyH_take (i := 19) (v := .pointer (some ⟨kb, j5, none⟩)) rfl (by kernel_rfl) (by kernel_rfl) (by kernel_rfl) (fun _ _ _ h => h) (Or.inl ⟨by rfl, fun w' hSw => ?_⟩) (HK.out _ HB.out) ?_
      · go_simp
      change wpAnyH _ _ _ _ _ _ _ (Act.put _ (some 204) _) _
      simp only [Act.put, List.setIfInBounds_toArray, List.set_cons_zero, List.set_cons_succ]
      refine wpAnyH_take (i := 20) (v := .string (KS j5)) rfl (by kernel_rfl) (by kernel_rfl) (by kernel_rfl) (fun _ _ _ h => h) (Or.inl ⟨by rfl, fun w' hSw => ?_⟩) (HK.out _ HB.out) ?_
      · have hc := hSw j5 (by omega)
        go_simp
      change wpAnyH _ _ _ _ _ _ _ (Act.put _ (some 205) _) _
      simp only [Act.put, List.setIfInBounds_toArray, List.set_cons_zero, List.set_cons_succ]
      refine wpAnyH_ready (rs := [5]) (by kernel_rfl) (by simp) ?_
      refine step_fn (f := 16) (args := #[.string (KS i), .string ⟨#[]⟩, .string ⟨#[49]⟩]) (by rfl) (by rfl) (by exact run_fn3 (by rfl) (by rfl) ent_turn _ (by rfl) (by rfl) (by rfl)) ((HTx.out _).mono ?_) AllReadyH.nil
      rintro _ ux ⟨⟨ax, bx, gx, cax, cbx, cgx, rfl, nax, nbx, ngx, rax, rbx, rgx⟩, hb⟩
      have HB0x := HB
      have HB := Lib.hid (HB.out.trans (hb.mono HB.out.size))
      have Hbx := Lib.hid hb
      have Rx := Lib.hid (And.intro (And.intro rax (And.intro rbx rgx)) (And.intro nax (And.intro nbx ngx)))
      clear hb nax nbx ngx rax rbx rgx
      refine ⟨_, rfl, HK.out _ HB.out, ?_⟩
      change wpAnyH _ _ _ _ _ _ _ (Act.put _ (some 190) _) _
      simp only [Act.put, List.setIfInBounds_toArray, List.set_cons_zero, List.set_cons_succ]
      refine wpAnyH_take (i := 6) (v := .agg #[.int .i64 2, .int .i64 0, .int .i64 0, .slice (some ⟨ax, 0, none⟩) (KS i).size cax, .slice (some ⟨bx, 0, none⟩) (⟨#[]⟩ : ByteArray).size cbx, .slice (some ⟨gx, 0, none⟩) ((⟨#[49]⟩ : ByteArray)).size cgx, .bool false]) rfl (by kernel_rfl) (by kernel_rfl) (by kernel_rfl) (fun _ _ _ h => h) (Or.inl ⟨by rfl, fun w' hSw => ?_⟩) (HK.out _ HB.out) ?_
      · go_simp
      change wpAnyH _ _ _ _ _ _ _ (Act.put _ (some 191) _) _
      simp only [Act.put, List.setIfInBounds_toArray, List.set_cons_zero, List.set_cons_succ]
      refine wpAnyH_ready (rs := [13]) (by kernel_rfl) (by simp) ?_
      refine step_fn (f := 16) (args := #[.string (KS j3), .string ⟨#[]⟩, .string ⟨#[50, 51]⟩]) (by rfl) (by rfl) (by exact run_fn3 (by rfl) (by rfl) ent_turn _ (by rfl) (by rfl) (by rfl)) ((HTy.out _).mono ?_) AllReadyH.nil
      rintro _ uy ⟨⟨ay, by', gy, cay, cby, cgy, rfl, nay, nby, ngy, ray, rby, rgy⟩, hb⟩
      have HB0y := HB
      have HB := Lib.hid (HB.out.trans (hb.mono HB.out.size))
      have Hby := Lib.hid hb
      have Ry := Lib.hid (And.intro (And.intro ray (And.intro rby rgy)) (And.intro nay (And.intro nby ngy)))
      clear hb nay nby ngy ray rby rgy
      refine ⟨_, rfl, HK.out _ HB.out, ?_⟩
      change wpAnyH _ _ _ _ _ _ _ (Act.put _ (some 198) _) _
      simp only [Act.put, List.setIfInBounds_toArray, List.set_cons_zero, List.set_cons_succ]
      refine wpAnyH_take (i := 14) (v := .agg #[.int .i64 2, .int .i64 0, .int .i64 0, .slice (some ⟨ay, 0, none⟩) (KS j3).size cay, .slice (some ⟨by', 0, none⟩) (⟨#[]⟩ : ByteArray).size cby, .slice (some ⟨gy, 0, none⟩) ((⟨#[50, 51]⟩ : ByteArray)).size cgy, .bool true]) rfl (by kernel_rfl) (by kernel_rfl) (by kernel_rfl) (fun _ _ _ h => h) (Or.inl ⟨by rfl, fun w' hSw => ?_⟩) (HK.out _ HB.out) ?_
      · go_simp
      change wpAnyH _ _ _ _ _ _ _ (Act.put _ (some 199) _) _
      simp only [Act.put, List.setIfInBounds_toArray, List.set_cons_zero, List.set_cons_succ]
      refine wpAnyH_ready (rs := [21]) (by kernel_rfl) (by simp) ?_
      refine step_fn (f := 16) (args := #[.string (KS j5), .string ⟨#[]⟩, .string ⟨#[]⟩]) (by rfl) (by rfl) (by exact run_fn3 (by rfl) (by rfl) ent_turn _ (by rfl) (by rfl) (by rfl)) ((HTv.out _).mono ?_) AllReadyH.nil
      rintro _ uv ⟨⟨av, bv', gv, cav, cbv, cgv, rfl, nav, nbv, ngv, rav, rbv, rgv⟩, hb⟩
      have HB0v := HB
      have HB := Lib.hid (HB.out.trans (hb.mono HB.out.size))
      have Hbv := Lib.hid hb
      have Rv := Lib.hid (And.intro (And.intro rav (And.intro rbv rgv)) (And.intro nav (And.intro nbv ngv)))
      clear hb nav nbv ngv rav rbv rgv
      refine ⟨_, rfl, HK.out _ HB.out, ?_⟩
      change wpAnyH _ _ _ _ _ _ _ (Act.put _ (some 206) _) _
      simp only [Act.put, List.setIfInBounds_toArray, List.set_cons_zero, List.set_cons_succ]
      refine wpAnyH_take (i := 22) (v := .agg #[.int .i64 2, .int .i64 0, .int .i64 0, .slice (some ⟨av, 0, none⟩) (KS j5).size cav, .slice (some ⟨bv', 0, none⟩) (⟨#[]⟩ : ByteArray).size cbv, .slice (some ⟨gv, 0, none⟩) ((⟨#[]⟩ : ByteArray)).size cgv, .bool true]) rfl (by kernel_rfl) (by kernel_rfl) (by kernel_rfl) (fun _ _ _ h => h) (Or.inl ⟨by rfl, fun w' hSw => ?_⟩) (HK.out _ HB.out) ?_
      · go_simp
      change wpAnyH _ _ _ _ _ _ _ (Act.put _ (some 207) _) _
      simp only [Act.put, List.setIfInBounds_toArray, List.set_cons_zero, List.set_cons_succ]
      obtain ⟨DD, hDD⟩ : ∃ D : List Value, D = (d3 (.slice (some ⟨ax, 0, none⟩) (KS i).size cax) (.slice (some ⟨bx, 0, none⟩) (⟨#[]⟩ : ByteArray).size cbx) (.slice (some ⟨gx, 0, none⟩) (⟨#[49]⟩ : ByteArray).size cgx) (.slice (some ⟨ay, 0, none⟩) (KS j3).size cay) (.slice (some ⟨by', 0, none⟩) (⟨#[]⟩ : ByteArray).size cby) (.slice (some ⟨gy, 0, none⟩) (⟨#[50, 51]⟩ : ByteArray).size cgy) (.slice (some ⟨av, 0, none⟩) (KS j5).size cav) (.slice (some ⟨bv', 0, none⟩) (⟨#[]⟩ : ByteArray).size cbv) (.slice (some ⟨gv, 0, none⟩) (⟨#[]⟩ : ByteArray).size cgv)) := ⟨_, rfl⟩
      have hlen : DD.length = 21 := by rw [hDD]; rfl
      have Hlen := Lib.hid hlen
      have HDD := Lib.hid hDD
      clear hlen hDD
      refine wpAnyH_ready (rs := [23]) (by kernel_rfl) (by simp) ?_
      have hal : Below uv.heap.size uv (uv.alloc (.cells DD.toArray 47)) := (Below.refl _ uv).alloc (Nat.le_refl _) _
      have HBa := Lib.hid (HB.out.trans (hal.mono HB.out.size))
      refine step_val (v := .slice (some ⟨uv.heap.size, 0, none⟩) 3 3) (w' := uv.alloc (.cells DD.toArray 47)) (by rfl) (by rfl) (by rw [HDD.out]; exact run_build3 (by rfl) (by rfl) (by rfl) (by rfl) _) (HK.out _ HBa.out) ?_ AllReadyH.nil
      change wpAnyH _ _ _ _ _ _ _ (Act.put _ (some 208) _) _
      simp only [Act.put, List.setIfInBounds_toArray, List.set_cons_zero, List.set_cons_succ]
      refine wpAnyH_ready (rs := [24]) (by kernel_rfl) (by simp) ?_
      refine step_law (by rfl) (by rfl) (fun K hK => ?_) AllReadyH.nil
      obtain ⟨cs, hown, hdc⟩ := Hdl.out.below HBa.out
      have Hown := Lib.hid hown
      have Hdc := Lib.hid hdc
      clear hown hdc
      refine wp_append_lies _ _ _ 44 (by rfl) w27.heap.size 47 i0 _ 7 104 Tryz.underlying44 Hi.out Hz0.out Hz1.out Hz2.out (by rfl) (by decide) (.slice la (i * 3) lc) _ cs (by rfl) Hown.out ⟨uv.heap.size, 0, none⟩ 3 3 DD (by rfl) Hlen.out (World.news_of_block (heap_alloc_new _ _)) (by rw [HDD.out]; intro u hu; simp only [d3, List.mem_cons, List.not_mem_nil, or_false] at hu; rcases hu with rfl | rfl | rfl | rfl | rfl | rfl | rfl | rfl | rfl | rfl | rfl | rfl | rfl | rfl | rfl | rfl | rfl | rfl | rfl | rfl | rfl <;> rfl) (by decide) (by simp only [maxLen]; omega) (by omega) (by have := HBa.out.size; have := Hb.out.size; omega) _ rfl ?_
      intro g4 cap4 w7 hown7 hgrow hat hlt
      obtain ⟨HD7, HB7⟩ := more_end Hb.out Hdl.out (B := (⟨#[]⟩ : ByteArray).data.toList) (C := (⟨#[49]⟩ : ByteArray).data.toList) (E := (⟨#[]⟩ : ByteArray).data.toList) (F := (⟨#[50, 51]⟩ : ByteArray).data.toList) (Y := (⟨#[]⟩ : ByteArray).data.toList) (Z := (⟨#[]⟩ : ByteArray).data.toList) HB0y.out Hby.out Hbv.out Rx.out Ry.out Rv.out HDD.out Hown.out Hdc.out hown7 hgrow hat
      have Hdl7 := Lib.hid HD7
      have Hb7 := Lib.hid HB7
      clear HD7 HB7
      have hS7 : ∀ j, j < 7 → w7.cell? ⟨kb, j, none⟩ = some (.string (KS j)) := HK27.out _ Hb7.out
      clear HDD Rx Ry Rv Hby Hbv Hbx Hown Hdc hown7 hgrow hat hal HTx HTy HTv HB HBa HK HB0x HB0y HB0v
      refine hK _ _ hS7 ?_
      simp only [Act.put, List.getElem_toArray, List.getElem_cons_succ, List.getElem_cons_zero, List.setIfInBounds_toArray, List.set_cons_zero, List.set_cons_succ]
      refine wpAnyH_take (i := 25) (v := .slice (some ⟨g4, 0, none⟩) (i * 3 + 3) cap4) rfl (by kernel_rfl) (by kernel_rfl) (by kernel_rfl) (fun _ _ _ h => h) (Or.inl ⟨by rfl, fun w' hSw => ?_⟩) hS7 ?_
      · go_simp
      change wpAnyH _ _ _ _ _ _ _ (Act.put _ (some 6) _) _
      simp only [Act.put, List.setIfInBounds_toArray, List.set_cons_zero, List.set_cons_succ]
      refine wpAnyH_done (by kernel_rfl) ?_ _
      have f9 : IntKind.i64.wrap ((i : Int) + 1) = ((i + 1 : Nat) : Int) := by rw [wrap_in (by omega) (by omega)]; omega
      go_wp2_with (fail)
      go_roundw
      case rel => exact ⟨i + 1, some ⟨g4, 0, none⟩, cap4, rfl, by omega, by rw [Nat.succ_mul], Lib.hid (by rw [Nat.succ_mul]; exact Hdl7.out), Hb7⟩
      case measure => simp only [intOf]; omega
  --)
    · have hi2 : decide ((i : Int) < 7) = false := by simp; omega
      obtain ⟨la', lc', D, hv, hdos, hok⟩ := Hdl.out.dos
      cases hv
      have HPL := Lib.hid (PageLives_any none la 0 0 (i * 3) lc [] D wr (RB.emp _) hdos hok)
      have HBK := Lib.hid (BK.out.trans (Hb.out.mono BK.out.size))
      clear hdos hok Hdl Hb HK27 HNW BK
      go_wp2_with (go_at_call 21; refine HPL.out.mono ?_; rintro e w28 ⟨rfl, h28⟩; have H28 := Lib.hid h28; clear h28)
      have B28 := Lib.hid (HBK.out.trans (H28.out.mono HBK.out.size))
      go_loopw [9] (fun s9 wr => ∃ k : Nat, s9 = .int .i64 k ∧ k ≤ 512 ∧ Hid (Below w28.heap.size w28 wr)) (fun s9 _ => 512 - (intOf s9).toNat)
      case atStart => exact ⟨0, rfl, by omega, Lib.hid (Below.refl _ _)⟩
      case round =>
        obtain ⟨k, rfl, hk, H2⟩ := hrel
        obtain ⟨w2, rfl⟩ : ∃ z, z = wr := ⟨_, rfl⟩
        by_cases hkn : k < 512
        · have k1 : decide ((k : Int) < 512) = true := by simp; omega
          have k2 : (0 : Int) ≤ (k : Int) := by omega
          have k3 : (k : Int) < 512 := by omega
          have f8 : IntKind.i64.wrap ((k : Int) + 1) = ((k + 1 : Nat) : Int) := by rw [wrap_in (by omega) (by omega)]; omega
          go_wp2_with (fail)
          go_loopw [10] (fun s10 wr => ∃ b : Nat, s10 = .int .i64 b ∧ b ≤ 1000 ∧ Hid (Below w28.heap.size w28 wr)) (fun s10 _ => 1001 - (intOf s10).toNat)
          case atStart => exact ⟨1, rfl, by omega, H2⟩
          case round =>
            obtain ⟨b, rfl, hb, H3⟩ := hrel
            by_cases hbn : b < 256
            · have b1 : decide ((b : Int) < 256) = true := by simp; omega
              obtain ⟨w3, rfl⟩ : ∃ z, z = wr := ⟨_, rfl⟩
              obtain ⟨g3, hg3⟩ : ∃ z, z = w3.heap.size := ⟨_, rfl⟩
              obtain ⟨W0, hW0⟩ : ∃ W, W = w3.alloc (.cells b512 5) := ⟨_, rfl⟩
              have p0 := F.out.r512 w3
              have hbd0 : Below w3.heap.size w3 W0 := by rw [hW0]; exact (Below.refl _ w3).alloc (Nat.le_refl _) _
              rw [← hW0, ← hg3] at p0
              have P0 := Lib.hid p0
              have D0 := Lib.hid hbd0
              clear p0 hbd0
              go_upto_region 27 with (fail)
              rw [← hg3, ← hW0]
              have G3 := Lib.hid hg3
              clear hW0 hg3
              have c10 := P0.out.cell 10 (by decide)
              have c11 := P0.out.cell 11 (by decide)
              have c12 := P0.out.cell 12 (by decide)
              have c13 := P0.out.cell 13 (by decide)
              have c14 := P0.out.cell 14 (by decide)
              have e10 := P0.out.frozen 10
              have e11 := P0.out.frozen 11
              have e12 := P0.out.frozen 12
              have e13 := P0.out.frozen 13
              have e14 := P0.out.frozen 14
              go_upto_region 28 with (fail)
              obtain ⟨W5', hW5⟩ : ∃ W, W = W5 W0 g3 := ⟨_, rfl⟩
              have hW5' := hW5
              unfold W5 at hW5'
              rw [← hW5']
              clear hW5'
              obtain ⟨L5, h5⟩ : ∃ L5, PG W5' g3 512 L5 [] := by rw [hW5]; exact W5_pg P0.out
              have m5 : Mod g3 W0 W5' := by rw [hW5]; exact W5_mod W0 g3
              have M5 := Lib.hid m5
              clear hW5 m5 c10 c11 c12 c13 c14 e10 e11 e12 e13 e14
              have c5 := h5.cell k (by omega)
              have e5 := h5.frozen k
              have P5 := Lib.hid h5
              clear h5
              obtain ⟨y, hy⟩ : ∃ y : UInt8, IntKind.u8.wrap (bt L5 k + b) = (y.toNat : Int) := u8_any _
              have wb : IntKind.u8.wrap (b : Int) = (b : Int) := by rw [IntKind.wrap_u8]; omega
              go_upto_region 29 with (fail)
              obtain ⟨W6, hW6⟩ : ∃ W, W = W5'.setCell ⟨g3, k, none⟩ (.int .u8 (y.toNat : Int)) := ⟨_, rfl⟩
              rw [← hW6]
              have P6 : Hid (PG W6 g3 512 (L5.set k y) []) := Lib.hid (by rw [hW6]; exact P5.out.set k y (by omega))
              have M6 : Hid (Mod g3 W0 W6) := Lib.hid (by rw [hW6]; exact Mod.set g3 M5.out k _)
              clear hW6 c5 e5 hy wb M5 P5
              have kc := fun (w : World) (C : Array Value) (n c : Nat) => Lib.run_convert_bytes_const (P := Tryz.prog) w 22 5 C n c Tryz.underlying22 Tryz.underlying5
              have bl : Hid (RB (W6.alloc (.cells #[.int .u8 107] 5 (1, 2))).heap.size (W6.alloc (.cells #[.int .u8 107] 5 (1, 2))) (some ⟨W6.heap.size, 0, none⟩) 1 1 [107]) := Lib.hid (lit_rb W6 [107] (1, 2) (by simp))
              have hb6 : Below W6.heap.size W6 (W6.alloc (.cells #[.int .u8 107] 5 (1, 2))) := (Below.refl _ W6).alloc (Nat.le_refl _) _
              have B6 := Lib.hid hb6
              have R6 := Lib.hid ((P6.out.rb.below hb6).mono hb6.size)
              clear hb6
              have f10 : IntKind.i64.wrap (3 * (b : Int)) = ((3 * b : Nat) : Int) := by rw [wrap_in (by omega) (by omega)]; omega
              have f11 : IntKind.i64.wrap (((3 * b : Nat) : Int) + 1) = ((3 * b + 1 : Nat) : Int) := by rw [wrap_in (by omega) (by omega)]; omega
              have hpt := Lib.hid (PageTells_any (some ⟨g3, 0, none⟩) (some ⟨W6.heap.size, 0, none⟩) 512 512 1 1 (L5.set k y) [107] _ R6.out bl.out)
              --TELLS
              go_wp2_with (go_at_call 3; refine hpt.out.mono ?_; rintro e w9 ⟨rfl, h9⟩; have H9 := Lib.hid h9; clear h9)
              go_roundw
              case rel =>
                have hw6 : Below w28.heap.size w28 W6 := Below.mod (H3.out.trans (D0.out.mono H3.out.size)) M6.out (by rw [G3.out]; exact H3.out.size) (Nat.le_trans H3.out.size D0.out.size)
                have hw7 := hw6.trans (B6.out.mono hw6.size)
                exact ⟨3 * b + 1, rfl, by omega, Lib.hid (hw7.trans (H9.out.mono hw7.size))⟩
              case measure => simp only [intOf]; omega
            · have b1 : decide ((b : Int) < 256) = false := by simp; omega
              go_wp2_with (fail)
              go_roundw
              case rel => exact ⟨k + 1, rfl, by omega, H3⟩
              case measure => simp only [intOf]; omega
        · have k1 : decide ((k : Int) < 512) = false := by simp; omega
          have hB30 : Below w.heap.size w w2 := B28.out.trans (H2.out.mono B28.out.size)
          have B30 := Lib.hid hB30
          clear hB30
          have hz513 := F.out.r513
          go_wp2_with (fail)
          go_at_call 22
          refine (HN.out _).mono ?_
          rintro e w31 ⟨rfl, h31⟩
          have H31 := Lib.hid h31
          clear h31
          go_wp2_with (fail)
          go_at_call 23
          refine (Right_any 0 none 0 0 [] _ (RB.emp _) (Nat.zero_le _)).mono ?_
          rintro e w32 ⟨rfl, h32⟩
          have H32 := Lib.hid h32
          clear h32
          have hr0 : decide (0 < behindL []) = false := by rw [p12]; rfl
          go_wp2_with (fail)
          go_at_call 23
          refine (Right_any _ _ _ _ _ _ (hz513 _) (Nat.le_refl _)).mono ?_
          rintro e w33 ⟨rfl, h33⟩
          have H33 := Lib.hid h33
          clear h33
          have hr1 : decide (0 < behindL (zs 513)) = false := by rw [p513]; rfl
          go_wp2_with (fail)
          go_at_call 5
          refine (awake_any _).mono ?_
          rintro e w34 ⟨rfl, h34⟩
          have H34 := Lib.hid h34
          clear h34
          go_wp2_with (fail)
          go_ret
          have e31 := B30.out.trans (H31.out.mono B30.out.size)
          have e32 := e31.trans (H32.out.mono e31.size)
          have a33 : Below w32.heap.size w32 (w32.alloc (.cells b513 5)) := (Below.refl _ w32).alloc (Nat.le_refl _) _
          have e33 := e32.trans (a33.mono e32.size)
          have e34 := e33.trans (H33.out.mono e33.size)
          exact ⟨rfl, e34.trans (H34.out.mono e34.size)⟩
end
end Go.Proofs.YtbinikbgbgggaaaGreatDoor
