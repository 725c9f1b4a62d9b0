/- KitNumbers' walk: kits of many parts. -/
import Derived.Test.YthlmnoggeggpkaaGreatKStarW
import Derived.Test.YthlmnoggeggpkaaGreatKNumB
namespace Go.Proofs.YthlmnoggeggpkaaGreat
open Go.RowKit Tx

set_option maxHeartbeats 16000000 in
set_option maxRecDepth 1000000 in
theorem num_star (w W : World) (hbw : Below w.heap.size w W) (sl0 sl1 sl2 sl3 sl4 sl5 sl6 sl7 sl8 sl9 sl10 sl11 sl12 sl13 sl14 sl15 sl16 sl17 sl18 sl19 sl20 sl21 sl22 sl23 sl24 sl25 sl26 sl27 sl28 sl29 sl30 sl31 sl32 sl33 sl34 sl35 sl36 sl37 sl38 sl39 sl40 sl41 sl42 sl43 sl44 sl45 sl46 sl47 sl48 sl49 sl50 sl51 sl52 sl53 sl54 sl55 sl56 sl57 sl58 sl59 sl60 sl61 sl62 sl63 sl64 sl65 sl66 sl67 sl68 sl69 sl70 sl71 sl72 sl73 sl74 sl75 sl76 sl77 sl78 sl79 sl80 sl81 sl82 sl83 sl84 sl85 sl86 sl87 sl88 sl89 sl90 sl91 sl92 sl93 sl94 sl95 sl96 sl97 sl98 sl99 sl100 sl101 sl102 sl103 sl104 sl105 sl106 sl107 sl108 sl109 sl110 sl111 sl112 sl113 sl114 sl115 sl116 sl117 sl118 sl119 sl120 sl121 sl122 sl123 sl124 sl125 sl126 sl127 sl128 sl129 sl130 sl131 sl132 sl133 sl134 sl135 sl136 sl137 sl138 sl139 sl140 sl141 sl142 sl143 sl144 sl145 sl146 sl147 sl148 sl149 sl150 sl151 sl152 sl153 sl154 sl155 sl156 sl157 sl158 sl159 sl160 sl161 sl162 sl163 sl164 sl165 sl166 sl167 sl168 sl169 sl170 sl171 sl172 sl173 sl174 sl175 sl176 sl177 sl178 sl179 sl180 sl181 sl182 sl183 sl184 sl185 sl186 sl187 sl188 sl189 sl190 sl191 sl192 sl193 sl194 sl195 sl196 sl197 sl198 sl199 sl200 sl201 sl202 sl203 sl204 sl205 sl206 sl207 sl208 sl209 sl210 sl211 sl212 sl213 sl214 sl215 sl216 sl217 sl218 sl219 sl220 sl221 sl222 sl223 sl224 sl225 sl226 sl227 sl228 sl229 sl230 sl231 sl232 sl233 sl234 sl235 sl236 sl237 sl238 sl239 sl240 sl241 sl242 sl243 sl244 sl245 sl246 sl247 sl248 sl249 sl250 sl251 sl252 sl253 sl254 sl255 sl256 sl257 sl258 sl259 sl260 : Value) :
    Code.wp Tryz.prog (dropC 4 (Tryz.f4.body.getD .skip)) (bodyPost Tryz.prog Tryz.f4 fun e w' => e = .returned (.bool true) ∧ Below w.heap.size w w') ⟨List.toArray (sl0 :: sl1 :: sl2 :: sl3 :: sl4 :: sl5 :: sl6 :: sl7 :: sl8 :: sl9 :: sl10 :: sl11 :: sl12 :: sl13 :: sl14 :: sl15 :: sl16 :: sl17 :: sl18 :: sl19 :: sl20 :: sl21 :: sl22 :: sl23 :: sl24 :: sl25 :: sl26 :: sl27 :: sl28 :: sl29 :: sl30 :: sl31 :: sl32 :: sl33 :: sl34 :: sl35 :: sl36 :: sl37 :: sl38 :: sl39 :: sl40 :: sl41 :: sl42 :: sl43 :: sl44 :: sl45 :: sl46 :: sl47 :: sl48 :: sl49 :: sl50 :: sl51 :: sl52 :: sl53 :: sl54 :: sl55 :: sl56 :: sl57 :: sl58 :: sl59 :: sl60 :: sl61 :: sl62 :: sl63 :: sl64 :: sl65 :: sl66 :: sl67 :: sl68 :: sl69 :: sl70 :: sl71 :: sl72 :: sl73 :: sl74 :: sl75 :: sl76 :: sl77 :: sl78 :: sl79 :: sl80 :: sl81 :: sl82 :: sl83 :: sl84 :: sl85 :: sl86 :: sl87 :: sl88 :: sl89 :: sl90 :: sl91 :: sl92 :: sl93 :: sl94 :: sl95 :: sl96 :: sl97 :: sl98 :: sl99 :: sl100 :: sl101 :: sl102 :: sl103 :: sl104 :: sl105 :: sl106 :: sl107 :: sl108 :: sl109 :: sl110 :: sl111 :: sl112 :: sl113 :: sl114 :: sl115 :: sl116 :: sl117 :: sl118 :: sl119 :: sl120 :: sl121 :: sl122 :: sl123 :: sl124 :: sl125 :: sl126 :: sl127 :: sl128 :: sl129 :: sl130 :: sl131 :: sl132 :: sl133 :: sl134 :: sl135 :: sl136 :: sl137 :: sl138 :: sl139 :: sl140 :: sl141 :: sl142 :: sl143 :: sl144 :: sl145 :: sl146 :: sl147 :: sl148 :: sl149 :: sl150 :: sl151 :: sl152 :: sl153 :: sl154 :: sl155 :: sl156 :: sl157 :: sl158 :: sl159 :: sl160 :: sl161 :: sl162 :: sl163 :: sl164 :: sl165 :: sl166 :: sl167 :: sl168 :: sl169 :: sl170 :: sl171 :: sl172 :: sl173 :: sl174 :: sl175 :: sl176 :: sl177 :: sl178 :: sl179 :: sl180 :: sl181 :: sl182 :: sl183 :: sl184 :: sl185 :: sl186 :: sl187 :: sl188 :: sl189 :: sl190 :: sl191 :: sl192 :: sl193 :: sl194 :: sl195 :: sl196 :: sl197 :: sl198 :: sl199 :: sl200 :: sl201 :: sl202 :: sl203 :: sl204 :: sl205 :: sl206 :: sl207 :: sl208 :: sl209 :: sl210 :: sl211 :: sl212 :: sl213 :: sl214 :: sl215 :: sl216 :: sl217 :: sl218 :: sl219 :: sl220 :: sl221 :: sl222 :: sl223 :: sl224 :: sl225 :: sl226 :: sl227 :: sl228 :: sl229 :: sl230 :: sl231 :: sl232 :: sl233 :: sl234 :: sl235 :: sl236 :: sl237 :: sl238 :: sl239 :: sl240 :: sl241 :: sl242 :: sl243 :: sl244 :: sl245 :: sl246 :: sl247 :: sl248 :: sl249 :: sl250 :: sl251 :: sl252 :: sl253 :: sl254 :: sl255 :: sl256 :: sl257 :: sl258 :: sl259 :: sl260 :: []), []⟩ W := by
  have HBW := Lib.hid hbw
  clear hbw
  conv => arg 2; whnf
  go_wp2_with (fail)
  go_loopw [3, 4, 5, 6] (fun nn _ _ _ wr => ∃ n : Nat, 7 ≤ n ∧ n ≤ 11 ∧ nn = .int .i64 n ∧ Hid (Below w.heap.size w wr)) (fun nn _ _ _ _ => 11 - (intOf nn).toNat)
  case atStart => exact ⟨7, by omega, by omega, rfl, HBW⟩
  case round =>
    obtain ⟨n, hn1, hn, rfl, HB⟩ := hrel
    clear HBW
    by_cases hlt : n < 11
    · have t1 : decide ((n : Int) < 11) = true := by simp; omega
      have f1 : IntKind.i64.wrap ((n : Int) + 1) = ((n + 1 : Nat) : Int) := by rw [wrap_in (by omega) (by omega)]; omega
      have h0 := Lib.hid (StR.start HB.out)
      obtain ⟨kb, hkb⟩ : ∃ kb, kb = wr.heap.size := ⟨_, rfl⟩
      go_wp2_with (fail)
      rw [← hkb] at h0 ⊢
      clear hkb
      go_loopw [4, 6] (fun v i wq => ∃ (j : Nat) (a pa : Option Addr) (c pc : Nat), j ≤ n ∧ v = .slice a j c ∧ i = .int .i64 j ∧ Hid (StR w kb (.slice a j c) (.slice pa j pc) j wq)) (fun _ i _ => n - (intOf i).toNat)
      case atStart => exact ⟨0, none, none, 0, 0, by omega, rfl, rfl, h0⟩
      case round =>
        obtain ⟨j, a, pa, c, pc, hj, rfl, rfl, HS⟩ := hrel
        clear h0
        by_cases hjn : j < n
        · have t2 : decide ((j : Int) < (n : Int)) = true := by simp; omega
          have hS := HS.out
          have hks : kb < wr.heap.size := (Array.getElem?_eq_some_iff.1 hS.kc).1
          obtain ⟨a1, ha1⟩ : ∃ a1, a1 = UInt8.ofNat (65 + j) := ⟨_, rfl⟩
          have na : (a1.toNat : Int) = 65 + (j : Int) := by rw [ha1, UInt8.toNat_ofNat']; omega
          have f3 : IntKind.i64.wrap (65 + (j : Int)) = (a1.toNat : Int) := by rw [na, wrap_in (by omega) (by omega)]
          have f5 : IntKind.u8.wrap (a1.toNat : Int) = (a1.toNat : Int) := by unfold IntKind.wrap; simp [IntKind.bits, IntKind.signed]; omega
          have u1 := conv1e wr a1
          have u4 : (⟨#[65]⟩ : ByteArray) ++ ⟨#[a1]⟩ = ⟨#[65, a1]⟩ := rfl
          obtain ⟨m, hm⟩ : ∃ m, m = j + 1 := ⟨_, rfl⟩
          have f6 : IntKind.i64.wrap ((j : Int) + 1) = (m : Int) := by rw [wrap_in (by omega) (by omega)]; omega
          have i1 : (0 : Int) ≤ (j : Int) := by omega
          have i2 : (j : Int) < (m : Int) := by omega
          have hmn : m ≤ n := by omega
          have hst : stI j = ⟨[65, a1], 1, none, 0, [], none, 0, []⟩ := by unfold stI; rw [ha1]
          have HM := Lib.hid hm
          have HST := Lib.hid hst
          have HB2 := fun x y => ((Below.refl wr.heap.size wr).alloc (Nat.le_refl _) x).alloc (by rw [World.size_alloc]; omega) y
          have HO := Lib.hid (fun x y => hS.ov.below (HB2 x y))
          have H1 := Lib.hid (fun x => (by
            intro j2 u hu
            have h := one_item (wr.alloc x) (stI j) 43 j2 u hu
            rw [World.size_alloc, hst] at h
            exact h : ∀ j2 u, (cellsI [stI j])[j2]? = some u → ((wr.alloc x).alloc (.cells #[.string ⟨#[65, a1]⟩, .int .i64 1, .slice none 0 0, .slice none 0 0] 43)).cell? ((⟨wr.heap.size + 1, 0, none⟩ : Addr).add j2) = some u))
          have HN := Lib.hid (show m = (stL j).length + 1 by rw [stL_len]; exact hm)
          have HL := Lib.hid (show (stL j).length ≤ 1000000 by rw [stL_len]; omega)
          have HW := Lib.hid hS.bl.size
          have HBB := Lib.hid HB2
          clear HB2 ha1 na hst hm hj hS
          go_wp2_with (at_builtin; refine wpList_append_item3 rfl _ _ rfl w.heap.size (.slice a j c) (stL j) (stI j) m HN.out rfl (HO.out _ _) _ 1 rfl (H1.out _) (by have := HW.out; simp; omega) HL.out ?_; intro g4 c4 w4 ho4 hg4 hn4)
          have hI := HS.out.item (HBB _ _) HM.out ho4 hg4 (by simpa only [World.size_alloc] using hn4)
          obtain ⟨ho5, hp5, hk5, hlt5, hbl5, c20⟩ := hI
          rw [HST.out] at c20
          have c2 : w4.cell? ⟨g4, j * 4, none⟩ = some (.string ⟨#[65, a1]⟩) := c20
          have c1 : w4.cell? ⟨kb, 2, none⟩ = some (.slice pa j pc) := by unfold World.cell?; simp only [hk5]; rfl
          have hks4 : kb < w4.heap.size := (Array.getElem?_eq_some_iff.1 hk5).1
          have c3 : ∀ x, (w4.alloc x).cell? ⟨kb, 2, none⟩ = some (.slice pa j pc) := fun x => (((Below.refl w4.heap.size w4).alloc (Nat.le_refl _) x).cell (p := ⟨kb, 2, none⟩) hks4).trans c1
          have hg4s : g4 < w4.heap.size := (Tx.rows_ge ho5 g4 rfl).2
          have hb3 := fun x => ((Below.refl w4.heap.size w4).alloc (Nat.le_refl _) x).drew
          have HO5 := Lib.hid ho5
          have HP5 := Lib.hid hp5
          have HK5 := Lib.hid hk5
          have HL5 := Lib.hid hlt5
          have HBL := Lib.hid hbl5
          have HG4 := Lib.hid hg4s
          have HB3 := Lib.hid hb3
          have HPP := Lib.hid (fun x => hp5.below (hb3 x))
          have HN2 := Lib.hid (show m = (stP j).length + 1 by rw [stP_len]; exact HM.out)
          have H2 := Lib.hid (by
            have h := one_partD w4 ((stI j).code, 1)
            rw [HST.out] at h
            rw [HST.out]
            exact h : ∀ j2 u, (cellsP [((stI j).code, 1)])[j2]? = some u → ((w4.alloc (.cells #[.string ⟨#[65, a1]⟩, .int .i64 1] 45)).drew).cell? ((⟨w4.heap.size, 0, none⟩ : Addr).add j2) = some u)
          clear hks4 c20 ho4 hg4 hn4 ho5 hp5 hk5 hlt5 hbl5 hg4s hb3 u1 u4 f3 f5 hks
          go_region_law (refine step_append_part rfl _ _ rfl w.heap.size (.slice pa j pc) (stP j) ((stI j).code, 1) m HN2.out rfl (HPP.out _) _ 1 rfl H2.out (by have := HBL.out.size; simp; omega) (by rw [stP_len]; omega) ?_; intro g6 c6 w6 ho6 hg6 hn6; obtain ⟨d1, d2, d3⟩ := StR.part HM.out rfl HO5.out HP5.out HK5.out HL5.out HS.out.kw HBL.out (HB3.out _) hg6 ho6; have HE := Lib.hid d3; clear ho6 hg6 hn6 d3)
          all_goals (
            clear c1 c2 c3 d1 d2
            go_wp2_with (fail)
            go_roundw
            case rel => exact ⟨m, some ⟨g4, 0, none⟩, some ⟨g6, 0, none⟩, c4, c6, hmn, by go_num, by go_num, HE⟩
            case measure => have hmj := HM.out; simp [intOf]; omega)
        · have t2 : decide ((j : Int) < (n : Int)) = false := by simp; omega
          have hjn2 : j = n := by omega
          subst hjn2
          have hS := HS.out
          have hks : kb < wr.heap.size := (Array.getElem?_eq_some_iff.1 hS.kc).1
          have c1 : wr.cell? ⟨kb, 0, none⟩ = some (.string ⟨#[90]⟩) := by unfold World.cell?; simp only [hS.kc]; rfl
          have c2 : wr.cell? ⟨kb, 1, none⟩ = some (.int .i64 0) := by unfold World.cell?; simp only [hS.kc]; rfl
          have c3 : wr.cell? ⟨kb, 2, none⟩ = some (.slice pa j pc) := by unfold World.cell?; simp only [hS.kc]; rfl
          have c4 : wr.cell? ⟨kb, 3, none⟩ = some (.slice none 0 0) := by unfold World.cell?; simp only [hS.kc]; rfl
          obtain ⟨m, hm⟩ : ∃ m, m = j + 1 := ⟨_, rfl⟩
          have HB2 := fun x => (Below.refl wr.heap.size wr).alloc (Nat.le_refl _) x
          have HO := Lib.hid (fun x => hS.ov.below (HB2 x))
          have H1 := Lib.hid (by
            intro j2 u hu
            have h := one_item wr ⟨[90], 0, pa, pc, stP j, none, 0, []⟩ 43 j2 u hu
            rw [show (stP j).length = j from stP_len j] at h
            exact h : ∀ j2 u, (cellsI [⟨[90], 0, pa, pc, stP j, none, 0, []⟩])[j2]? = some u → (wr.alloc (.cells #[.string ⟨#[90]⟩, .int .i64 0, .slice pa j pc, .slice none 0 0] 43)).cell? ((⟨wr.heap.size, 0, none⟩ : Addr).add j2) = some u)
          have HN := Lib.hid (show m = (stL j).length + 1 by rw [stL_len]; exact hm)
          have HL := Lib.hid (show (stL j).length ≤ 1000000 by rw [stL_len]; omega)
          have HW := Lib.hid hS.bl.size
          have HBB := Lib.hid HB2
          clear HB2 hm hj hjn hks hS
          go_wp2_with (at_builtin; refine wpList_append_item3 rfl _ _ rfl w.heap.size (.slice a j c) (stL j) ⟨[90], 0, pa, pc, stP j, none, 0, []⟩ m HN.out rfl (HO.out _) _ 1 rfl H1.out (by have := HW.out; simp; omega) HL.out ?_; intro g4 c5 w4 ho4 hg4 hn4)
          obtain ⟨hk7, hb7⟩ := HS.out.last (HBB _) hg4 ho4 (by omega)
          have HB7 := Lib.hid hb7
          have HK7 := Lib.hid hk7
          have hck := hk7.check
          clear ho4 hg4 hn4 hb7 hk7 c1 c2 c3 c4
          by_cases h8 : j ≤ 8
          · have t3 : decide ((j : Int) ≤ 8) = true := by simp; omega
            rw [st_chk8 j hn1 h8] at hck
            refine hck.mono ?_
            rintro e w8 ⟨rfl, hb8⟩
            have HB8 := Lib.hid (below_next HB7.out hb8)
            have HK8 := Lib.hid (HK7.out.below hb8)
            clear hb8
            go_wp2_with (fail)
            go_at_call 3
            refine (HK8.out.parts [90] 2 (by decide) (by decide)).mono ?_
            rintro e w9 ⟨rfl, hb9⟩
            have HB9 := Lib.hid (below_next HB8.out hb9)
            clear hb9
            go_wp2_with (fail)
            go_roundw
            case rel => exact ⟨j + 1, by omega, by omega, by go_num, HB9⟩
            case measure => simp [intOf]; omega
          · have t3 : decide ((j : Int) ≤ 8) = false := by simp; omega
            rw [st_chk9 j (by omega) (by omega)] at hck
            refine hck.mono ?_
            rintro e w8 ⟨rfl, hb8⟩
            have HB8 := Lib.hid (below_next HB7.out hb8)
            have HK8 := Lib.hid (HK7.out.below hb8)
            clear hb8
            go_wp2_with (fail)
            go_at_call 3
            refine (HK8.out.parts [90] 2 (by decide) (by decide)).mono ?_
            rintro e w9 ⟨rfl, hb9⟩
            have HB9 := Lib.hid (below_next HB8.out hb9)
            clear hb9
            go_wp2_with (fail)
            go_roundw
            case rel => exact ⟨j + 1, by omega, by omega, by go_num, HB9⟩
            case measure => simp [intOf]; omega
    · have t1 : decide ((n : Int) < 11) = false := by simp; omega
      clear hn hlt
      go_upto_region 10 with (fail)
      iterate 16 go_step
      exact num_chain w _ HB.out _ _ _ _ _ _ _ _ _ _ _ _ _ _ _ _ _ _ _ _ _ _ _ _ _ _ _ _ _ _ _ _ _ _ _ _ _ _ _ _ _ _ _ _ _ _ _ _ _ _ _ _ _ _ _ _ _ _ _ _ _ _ _ _ _ _ _ _ _ _ _ _ _ _ _ _ _ _ _ _ _ _ _ _ _ _ _ _ _ _ _ _ _ _ _ _ _ _ _ _ _ _ _ _ _ _ _ _ _ _ _ _ _ _ _ _ _ _ _ _ _ _ _ _ _ _ _ _ _ _ _ _ _ _ _ _ _ _ _ _ _ _ _ _ _ _ _ _ _ _ _ _ _ _ _ _ _ _ _ _ _ _ _ _ _ _ _ _ _ _ _ _ _ _ _ _ _ _ _ _ _ _ _ _ _ _ _ _ _ _ _ _ _ _ _ _ _ _ _ _ _ _ _ _ _ _ _ _ _ _ _ _ _ _ _ _ _ _ _ _ _ _ _ _ _ _ _ _ _ _ _ _ _ _ _ _ _ _ _ _ _ _ _ _ _ _ _ _ _ _ _ _ _ _ _ _ _ _ _ _ _
end Go.Proofs.YthlmnoggeggpkaaGreat
