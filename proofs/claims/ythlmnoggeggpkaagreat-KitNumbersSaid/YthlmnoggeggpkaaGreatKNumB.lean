/- KitNumbers' walk: the chains. -/
import Derived.Test.YthlmnoggeggpkaaGreatKNumT
namespace Go.Proofs.YthlmnoggeggpkaaGreat
open Go.RowKit

theorem MY.code {base n : Nat} {w : World} {v : Value} {X Y : List It} (h : MY base w v X Y) (hn : n = X.length) {k : Nat} (hk : k < n) : ∃ g c, v = .slice (some ⟨g, 0, none⟩) n c ∧ g < w.heap.size ∧ c ≤ 9223372036854775807 ∧ w.cell? ⟨g, k * 4, none⟩ = some (.string ⟨(X.getD k default).code.toArray⟩) := by
  obtain ⟨a, c, rfl, hle, hmx, ha⟩ := Tx.rows_form h.own
  have hl := h.len
  obtain ⟨g, rfl⟩ := ha (by omega)
  obtain ⟨-, -, -, hg, hcell⟩ := h.own.cells
  refine ⟨g, c, by rw [hl, hn], hg, hmx, ?_⟩
  have c0 := (hcell k (by omega)).1
  have e := getD_strip Y k
  rw [h.say] at e
  rw [e]
  exact c0
set_option maxHeartbeats 16000000 in
set_option maxRecDepth 1000000 in
theorem num_chain (w W : World) (hbw : Below w.heap.size w W) (sl0 sl1 sl2 sl3 sl4 sl5 sl6 sl7 sl8 sl9 sl10 sl11 sl12 sl13 sl14 sl15 sl16 sl17 sl18 sl19 sl20 sl21 sl22 sl23 sl24 sl25 sl26 sl27 sl28 sl29 sl30 sl31 sl32 sl33 sl34 sl35 sl36 sl37 sl38 sl39 sl40 sl41 sl42 sl43 sl44 sl45 sl46 sl47 sl48 sl49 sl50 sl51 sl52 sl53 sl54 sl55 sl56 sl57 sl58 sl59 sl60 sl61 sl62 sl63 sl64 sl65 sl66 sl67 sl68 sl69 sl70 sl71 sl72 sl73 sl74 sl75 sl76 sl77 sl78 sl79 sl80 sl81 sl82 sl83 sl84 sl85 sl86 sl87 sl88 sl89 sl90 sl91 sl92 sl93 sl94 sl95 sl96 sl97 sl98 sl99 sl100 sl101 sl102 sl103 sl104 sl105 sl106 sl107 sl108 sl109 sl110 sl111 sl112 sl113 sl114 sl115 sl116 sl117 sl118 sl119 sl120 sl121 sl122 sl123 sl124 sl125 sl126 sl127 sl128 sl129 sl130 sl131 sl132 sl133 sl134 sl135 sl136 sl137 sl138 sl139 sl140 sl141 sl142 sl143 sl144 sl145 sl146 sl147 sl148 sl149 sl150 sl151 sl152 sl153 sl154 sl155 sl156 sl157 sl158 sl159 sl160 sl161 sl162 sl163 sl164 sl165 sl166 sl167 sl168 sl169 sl170 sl171 sl172 sl173 sl174 sl175 sl176 sl177 sl178 sl179 sl180 sl181 sl182 sl183 sl184 sl185 sl186 sl187 sl188 sl189 sl190 sl191 sl192 sl193 sl194 sl195 sl196 sl197 sl198 sl199 sl200 sl201 sl202 sl203 sl204 sl205 sl206 sl207 sl208 sl209 sl210 sl211 sl212 sl213 sl214 sl215 sl216 sl217 sl218 sl219 sl220 sl221 sl222 sl223 sl224 sl225 sl226 sl227 sl228 sl229 sl230 sl231 sl232 sl233 sl234 sl235 sl236 sl237 sl238 sl239 sl240 sl241 sl242 sl243 sl244 sl245 sl246 sl247 sl248 sl249 sl250 sl251 sl252 sl253 sl254 sl255 sl256 sl257 sl258 sl259 sl260 : Value) :
    Code.wp Tryz.prog (dropC 5 (Tryz.f4.body.getD .skip)) (bodyPost Tryz.prog Tryz.f4 fun e w' => e = .returned (.bool true) ∧ Below w.heap.size w w') ⟨List.toArray (sl0 :: sl1 :: sl2 :: sl3 :: sl4 :: sl5 :: sl6 :: sl7 :: sl8 :: sl9 :: sl10 :: sl11 :: sl12 :: sl13 :: sl14 :: sl15 :: sl16 :: sl17 :: sl18 :: sl19 :: sl20 :: sl21 :: sl22 :: sl23 :: sl24 :: sl25 :: sl26 :: sl27 :: sl28 :: sl29 :: sl30 :: sl31 :: sl32 :: sl33 :: sl34 :: sl35 :: sl36 :: sl37 :: sl38 :: sl39 :: sl40 :: sl41 :: sl42 :: sl43 :: sl44 :: sl45 :: sl46 :: sl47 :: sl48 :: sl49 :: sl50 :: sl51 :: sl52 :: sl53 :: sl54 :: sl55 :: sl56 :: sl57 :: sl58 :: sl59 :: sl60 :: sl61 :: sl62 :: sl63 :: sl64 :: sl65 :: sl66 :: sl67 :: sl68 :: sl69 :: sl70 :: sl71 :: sl72 :: sl73 :: sl74 :: sl75 :: sl76 :: sl77 :: sl78 :: sl79 :: sl80 :: sl81 :: sl82 :: sl83 :: sl84 :: sl85 :: sl86 :: sl87 :: sl88 :: sl89 :: sl90 :: sl91 :: sl92 :: sl93 :: sl94 :: sl95 :: sl96 :: sl97 :: sl98 :: sl99 :: sl100 :: sl101 :: sl102 :: sl103 :: sl104 :: sl105 :: sl106 :: sl107 :: sl108 :: sl109 :: sl110 :: sl111 :: sl112 :: sl113 :: sl114 :: sl115 :: sl116 :: sl117 :: sl118 :: sl119 :: sl120 :: sl121 :: sl122 :: sl123 :: sl124 :: sl125 :: sl126 :: sl127 :: sl128 :: sl129 :: sl130 :: sl131 :: sl132 :: sl133 :: sl134 :: sl135 :: sl136 :: sl137 :: sl138 :: sl139 :: sl140 :: sl141 :: sl142 :: sl143 :: sl144 :: sl145 :: sl146 :: sl147 :: sl148 :: sl149 :: sl150 :: sl151 :: sl152 :: sl153 :: sl154 :: sl155 :: sl156 :: sl157 :: sl158 :: sl159 :: sl160 :: sl161 :: sl162 :: sl163 :: sl164 :: sl165 :: sl166 :: sl167 :: sl168 :: sl169 :: sl170 :: sl171 :: sl172 :: sl173 :: sl174 :: sl175 :: sl176 :: sl177 :: sl178 :: sl179 :: sl180 :: sl181 :: sl182 :: sl183 :: sl184 :: sl185 :: sl186 :: sl187 :: sl188 :: sl189 :: sl190 :: sl191 :: sl192 :: sl193 :: sl194 :: sl195 :: sl196 :: sl197 :: sl198 :: sl199 :: sl200 :: sl201 :: sl202 :: sl203 :: sl204 :: sl205 :: sl206 :: sl207 :: sl208 :: sl209 :: sl210 :: sl211 :: sl212 :: sl213 :: sl214 :: sl215 :: sl216 :: sl217 :: sl218 :: sl219 :: sl220 :: sl221 :: sl222 :: sl223 :: sl224 :: sl225 :: sl226 :: sl227 :: sl228 :: sl229 :: sl230 :: sl231 :: sl232 :: sl233 :: sl234 :: sl235 :: sl236 :: sl237 :: sl238 :: sl239 :: sl240 :: sl241 :: sl242 :: sl243 :: sl244 :: sl245 :: sl246 :: sl247 :: sl248 :: sl249 :: sl250 :: sl251 :: sl252 :: sl253 :: sl254 :: sl255 :: sl256 :: sl257 :: sl258 :: sl259 :: sl260 :: []), []⟩ W := by
  have HBW := Lib.hid hbw
  clear hbw
  conv => arg 2; whnf
  go_wp2_with (fail)
  go_loopw [7, 8, 9] (fun i _ _ wr => ∃ j : Nat, 1 ≤ j ∧ j ≤ 62 ∧ i = .int .i64 j ∧ Hid (Below w.heap.size w wr)) (fun i _ _ _ => 62 - (intOf i).toNat)
  case atStart => exact ⟨1, by omega, by omega, rfl, HBW⟩
  case round =>
    obtain ⟨j, hj1, hj, rfl, HB⟩ := hrel
    clear HBW
    by_cases hlt : j < 62
    · have t1 : decide ((j : Int) < 62) = true := by simp; omega
      have f1 : IntKind.i64.wrap ((j : Int) + 1) = ((j + 1 : Nat) : Int) := by rw [wrap_in (by omega) (by omega)]; omega
      obtain ⟨k, hk⟩ : ∃ k, k = j - 1 := ⟨_, rfl⟩
      have hkj : k < j := by omega
      have f2 : IntKind.i64.wrap ((j : Int) - 1) = (k : Int) := by rw [wrap_in (by omega) (by omega)]; omega
      have hch := chain_kp j 2 wr hj1 (by omega) (by decide)
      rw [ch_chk j (by omega)] at hch
      have HCH := Lib.hid hch
      clear hch hk hj
      go_wp2_with (fail)
      go_at_call 22
      refine HCH.out.mono ?_
      rintro e w1 ⟨v, rfl, hkp, ⟨Y, hmy⟩, hb1⟩
      obtain ⟨g, c, rfl, hg, hc, c0⟩ := hmy.code (n := j) (k := k) (by rw [chL_len]) hkj
      obtain ⟨cd1, hcd1⟩ : ∃ l, l = ((chL j 2).getD k default).code := ⟨_, rfl⟩
      have hcl : cd1.length ≤ 140737488355328 := by
        rw [hcd1, chL_at hkj]
        unfold chI chC
        simp only
        split <;> simp
      rw [← hcd1] at c0
      have HB1 := Lib.hid (below_next HB.out hb1)
      have HC0 := Lib.hid (fun W' (h : Below w1.heap.size w1 W') => (h.cell (p := ⟨g, k * 4, none⟩) hg).trans c0)
      have HKP := Lib.hid hkp
      clear hmy hcd1 hb1 c0 hkp
      have hck := HKP.out.check
      by_cases h8 : j ≤ 8
      · have t2 : decide ((j : Int) ≤ 8) = true := by simp; omega
        have t3 : decide ((j : Int) > 8) = false := by simp; omega
        rw [if_pos h8] at hck
        have HCK := Lib.hid hck
        clear hck
        go_wp2_with (fail)
        go_at_call 21
        refine HCK.out.mono ?_
        rintro e w2 ⟨rfl, hb2⟩
        have HB2 := Lib.hid (below_next HB1.out hb2)
        have c0 := HC0.out w2 hb2
        have HK2 := Lib.hid (HKP.out.below hb2)
        clear hb2
        go_wp2_with (fail)
        go_at_call 3
        refine (HK2.out.parts cd1 3 hcl (by decide)).mono ?_
        rintro e w3 ⟨rfl, hb3⟩
        have HB3 := Lib.hid (below_next HB2.out hb3)
        clear hb3 c0
        go_wp2_with (fail)
        go_roundw
        case rel => exact ⟨j + 1, by omega, by omega, by go_num, HB3⟩
        case measure => simp [intOf]; omega
      · have t2 : decide ((j : Int) ≤ 8) = false := by simp; omega
        have t3 : decide ((j : Int) > 8) = true := by simp; omega
        rw [if_neg h8] at hck
        have HCK := Lib.hid hck
        clear hck
        go_wp2_with (fail)
        go_at_call 21
        refine HCK.out.mono ?_
        rintro e w2 ⟨rfl, hb2⟩
        have HB2 := Lib.hid (below_next HB1.out hb2)
        have c0 := HC0.out w2 hb2
        have HK2 := Lib.hid (HKP.out.below hb2)
        clear hb2
        go_wp2_with (fail)
        go_at_call 3
        refine (HK2.out.parts cd1 3 hcl (by decide)).mono ?_
        rintro e w3 ⟨rfl, hb3⟩
        have HB3 := Lib.hid (below_next HB2.out hb3)
        clear hb3 c0
        go_wp2_with (fail)
        go_roundw
        case rel => exact ⟨j + 1, by omega, by omega, by go_num, HB3⟩
        case measure => simp [intOf]; omega
    · have t1 : decide ((j : Int) < 62) = false := by simp; omega
      clear hj hlt
      go_upto_region 23 with (fail)
      iterate 16 go_step
      exact num_tail w _ HB.out _ _ _ _ _ _ _ _ _ _ _ _ _ _ _ _ _ _ _ _ _ _ _ _ _ _ _ _ _ _ _ _ _ _ _ _ _ _ _ _ _ _ _ _ _ _ _ _ _ _ _ _ _ _ _ _ _ _ _ _ _ _ _ _ _ _ _ _ _ _ _ _ _ _ _ _ _ _ _ _ _ _ _ _ _ _ _ _ _ _ _ _ _ _ _ _ _ _ _ _ _ _ _ _ _ _ _ _ _ _ _ _ _ _ _ _ _ _ _ _ _ _ _ _ _ _ _ _ _ _ _ _ _ _ _ _ _ _ _ _ _ _ _ _ _ _ _ _ _ _ _ _ _ _ _ _ _ _ _ _ _ _ _ _ _ _ _ _ _ _ _ _ _ _ _ _ _ _ _ _ _ _ _ _ _ _ _ _ _ _ _ _ _ _ _ _ _ _ _ _ _ _ _ _ _ _ _ _ _ _ _ _ _ _ _ _ _ _ _ _ _ _ _ _ _ _ _ _ _ _ _ _ _ _ _ _ _ _ _ _ _ _ _ _ _ _ _ _ _ _ _ _ _ _ _ _ _ _ _ _ _
end Go.Proofs.YthlmnoggeggpkaaGreat
