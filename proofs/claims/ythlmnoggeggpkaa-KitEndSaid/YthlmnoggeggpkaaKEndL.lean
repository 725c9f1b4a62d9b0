/- KitEnd's walk: its first loop. -/
import Derived.Test.YthlmnoggeggpkaaKEndM
namespace Go.Proofs.Ythlmnoggeggpkaa
open Go.RowKit

/-- What the law holds of so many. -/
structure MF2 (X : List It) (x : It) (S1 : List Pt) (W : World) (q : Int) (vm : Value) (em : Int) : Prop where
  yes : em = 0 → ∃ a2 n2 c2, vm = .slice a2 n2 c2 ∧ n2 = S1.length ∧ RP W.heap.size W a2 n2 c2 (S1.map (scaleP q)) ∧ ∀ p ∈ S1, timesA p.2 q = some (q * p.2)
  no : em ≠ 0 → em = 3
theorem scale_at {S : List Pt} {q : Int} {m : Nat} (hm : m < S.length) {s : List UInt8} {k : Int} (h : (s, k) = S.getD m default) : (S.map (scaleP q)).getD m default = (s, q * k) := by
  rw [List.getD_eq_getElem?_getD, List.getElem?_eq_getElem hm] at h
  rw [List.getD_eq_getElem?_getD, List.getElem?_map, List.getElem?_eq_getElem hm]
  simp only [Option.getD_some] at h
  simp only [Option.map_some, Option.getD_some, ← h]
  rfl
/-- What the law knows of what is in its item. -/
structure OF (X : List It) (x : It) (s : List UInt8) (k : Int) (y : It) : Prop where
  yx : itF X s = some y
  ym : y ∈ X
  yc : y.code = s
  life : (y.life == 0) = false
  one : 1 ≤ k
  top : k ≤ mostA
  win : s ∈ withinL X x.code
theorem EF.of {X : List It} {x : It} {S1 : List Pt} (h : EF X x S1) {s : List UInt8} {k : Int} (hp : (s, k) ∈ S1) : ∃ y, OF X x s k y := by
  obtain ⟨h1, h2, h3, h4⟩ := end_mem h.snd h.mem (Int.le_refl 1) (by unfold mostA; omega) h.hS _ hp
  obtain ⟨y, e1, e2, e3⟩ := itF_some h2
  have h5 := life_leaf h.snd e1 h3
  have h6 := okA_iff.1 ((end_up h.snd h.mem (Int.le_refl 1) (by unfold mostA; omega) h.hS).1.2 _ hp)
  exact ⟨y, e1, e2, e3, by simp; omega, h1, h6.2, h4⟩
theorem up_less {S : List Pt} (h : Up S) {m : Nat} (hm : m + 1 < S.length) : (S.getD m default).1 < (S.getD (m + 1) default).1 := by
  have h1 := List.pairwise_iff_getElem.1 h.1 m (m + 1) (by omega) hm (by omega)
  rw [List.getD_eq_getElem?_getD, List.getElem?_eq_getElem (by omega), List.getD_eq_getElem?_getD, List.getElem?_eq_getElem hm]
  exact h1
theorem less_facts {a b : List UInt8} (h : a < b) : Op.bytesLess a b = true ∧ Op.bytesLess b a = false ∧ (a == b) = false ∧ (b == a) = false := by
  have hne : a ≠ b := fun e => by rw [e] at h; exact List.lt_irrefl _ h
  refine ⟨by rw [less_iff, decide_eq_true h], ?_, by simpa using hne, by simpa using fun e => hne e.symm⟩
  rw [less_iff]
  exact decide_eq_false fun h2 => lt_asymm' h h2
set_option maxHeartbeats 16000000 in
set_option maxRecDepth 1000000 in
theorem end_loop (B : Nat) (a : Option Addr) (n c : Nat) (X : List It) (x : It) (S1 : List Pt) (q : Int) (gx c1 wc : Nat) (a1 wa : Option Addr) (vm : Value) (em : Int) (w W : World) (hr : RI B W a n c X) (hB : B ≤ W.heap.size) (hbw : Below w.heap.size w W) (hF : EF X x S1) (hX : XC W gx x) (hxo : RP B W x.pa x.ps.length x.pc x.ps)
    (h1 : RP W.heap.size W a1 S1.length c1 S1) (hT : RT W.heap.size W wa (withinL X x.code).length wc (withinL X x.code)) (hM : MF2 X x S1 W q vm em) (sl1 sl3 sl4 sl5 sl6 sl13 sl14 sl15 sl16 sl17 sl18 sl19 sl20 sl21 sl22 sl23 sl24 sl25 sl26 sl27 sl28 sl29 sl30 sl31 sl32 sl33 sl34 sl35 sl36 sl37 sl38 sl39 sl40 sl41 sl42 sl43 sl44 sl45 sl46 sl47 sl48 sl49 sl50 sl51 sl52 sl53 sl54 sl55 sl56 sl57 sl58 sl59 sl60 sl61 sl62 sl63 sl64 sl65 sl66 sl67 sl68 sl69 sl70 sl71 sl72 sl73 sl74 sl75 sl76 sl77 sl78 sl79 sl80 sl81 sl82 sl83 sl84 sl85 sl86 sl87 sl88 sl89 sl90 sl91 sl92 sl93 sl94 sl95 sl96 sl97 sl98 sl99 sl100 sl101 sl102 sl103 sl104 sl105 sl106 sl107 sl108 sl109 sl110 sl111 sl112 sl113 sl114 sl115 sl116 sl117 sl118 sl119 sl120 sl121 sl122 sl123 sl124 sl125 sl126 sl127 sl128 sl129 sl130 sl131 sl132 sl133 sl134 sl135 sl136 sl137 sl138 sl139 sl140 sl141 sl142 sl143 sl144 sl145 sl146 sl147 sl148 sl149 sl150 sl151 sl152 sl153 sl154 sl155 sl156 sl157 sl158 sl159 sl160 sl161 sl162 sl163 sl164 sl165 sl166 sl167 sl168 sl169 sl170 sl171 sl172 sl173 sl174 sl175 sl176 sl177 sl178 sl179 sl180 sl181 sl182 sl183 sl184 sl185 sl186 sl187 sl188 sl189 sl190 sl191 sl192 sl193 sl194 sl195 sl196 sl197 sl198 sl199 sl200 sl201 sl202 sl203 sl204 sl205 sl206 sl207 sl208 sl209 sl210 sl211 sl212 sl213 sl214 sl215 sl216 sl217 sl218 sl219 sl220 sl221 sl222 sl223 sl224 sl225 sl226 sl227 sl228 sl229 sl230 sl231 sl232 sl233 sl234 sl235 sl236 sl237 sl238 sl239 sl240 sl241 sl242 sl243 sl244 sl245 sl246 sl247 sl248 sl249 sl250 sl251 sl252 sl253 sl254 sl255 sl256 sl257 sl258 sl259 sl260 sl261 sl262 sl263 sl264 sl265 sl266 sl267 sl268 sl269 sl270 sl271 : Value) :
    Code.wp Try.prog (dropC 9 (Try.f4.body.getD .skip)) (bodyPost Try.prog Try.f4 fun e w' => e = .returned (.bool true) ∧ Below w.heap.size w w') ⟨List.toArray (.slice a n c :: sl1 :: .int .i64 q :: sl3 :: sl4 :: sl5 :: sl6 :: .pointer (some ⟨gx, 0, none⟩) :: .slice a1 S1.length c1 :: .int .i64 0 :: vm :: .int .i64 em :: .slice wa (withinL X x.code).length wc :: sl13 :: sl14 :: sl15 :: sl16 :: sl17 :: sl18 :: sl19 :: sl20 :: sl21 :: sl22 :: sl23 :: sl24 :: sl25 :: sl26 :: sl27 :: sl28 :: sl29 :: sl30 :: sl31 :: sl32 :: sl33 :: sl34 :: sl35 :: sl36 :: sl37 :: sl38 :: sl39 :: sl40 :: sl41 :: sl42 :: sl43 :: sl44 :: sl45 :: sl46 :: sl47 :: sl48 :: sl49 :: sl50 :: sl51 :: sl52 :: sl53 :: sl54 :: sl55 :: sl56 :: sl57 :: sl58 :: sl59 :: sl60 :: sl61 :: sl62 :: sl63 :: sl64 :: sl65 :: sl66 :: sl67 :: sl68 :: sl69 :: sl70 :: sl71 :: sl72 :: sl73 :: sl74 :: sl75 :: sl76 :: sl77 :: sl78 :: sl79 :: sl80 :: sl81 :: sl82 :: sl83 :: sl84 :: sl85 :: sl86 :: sl87 :: sl88 :: sl89 :: sl90 :: sl91 :: sl92 :: sl93 :: sl94 :: sl95 :: sl96 :: sl97 :: sl98 :: sl99 :: sl100 :: sl101 :: sl102 :: sl103 :: sl104 :: sl105 :: sl106 :: sl107 :: sl108 :: sl109 :: sl110 :: sl111 :: sl112 :: sl113 :: sl114 :: sl115 :: sl116 :: sl117 :: sl118 :: sl119 :: sl120 :: sl121 :: sl122 :: sl123 :: sl124 :: sl125 :: sl126 :: sl127 :: sl128 :: sl129 :: sl130 :: sl131 :: sl132 :: sl133 :: sl134 :: sl135 :: sl136 :: sl137 :: sl138 :: sl139 :: sl140 :: sl141 :: sl142 :: sl143 :: sl144 :: sl145 :: sl146 :: sl147 :: sl148 :: sl149 :: sl150 :: sl151 :: sl152 :: sl153 :: sl154 :: sl155 :: sl156 :: sl157 :: sl158 :: sl159 :: sl160 :: sl161 :: sl162 :: sl163 :: sl164 :: sl165 :: sl166 :: sl167 :: sl168 :: sl169 :: sl170 :: sl171 :: sl172 :: sl173 :: sl174 :: sl175 :: sl176 :: sl177 :: sl178 :: sl179 :: sl180 :: sl181 :: sl182 :: sl183 :: sl184 :: sl185 :: sl186 :: sl187 :: sl188 :: sl189 :: sl190 :: sl191 :: sl192 :: sl193 :: sl194 :: sl195 :: sl196 :: sl197 :: sl198 :: sl199 :: sl200 :: sl201 :: sl202 :: sl203 :: sl204 :: sl205 :: sl206 :: sl207 :: sl208 :: sl209 :: sl210 :: sl211 :: sl212 :: sl213 :: sl214 :: sl215 :: sl216 :: sl217 :: sl218 :: sl219 :: sl220 :: sl221 :: sl222 :: sl223 :: sl224 :: sl225 :: sl226 :: sl227 :: sl228 :: sl229 :: sl230 :: sl231 :: sl232 :: sl233 :: sl234 :: sl235 :: sl236 :: sl237 :: sl238 :: sl239 :: sl240 :: sl241 :: sl242 :: sl243 :: sl244 :: sl245 :: sl246 :: sl247 :: sl248 :: sl249 :: sl250 :: sl251 :: sl252 :: sl253 :: sl254 :: sl255 :: sl256 :: sl257 :: sl258 :: sl259 :: sl260 :: sl261 :: sl262 :: sl263 :: sl264 :: sl265 :: sl266 :: sl267 :: sl268 :: sl269 :: sl270 :: sl271 :: []), []⟩ W := by
  have HR := Lib.hid hr
  have HBW := Lib.hid hbw
  have HF := Lib.hid hF
  have HX := Lib.hid hX
  have H1 := Lib.hid h1
  have HT := Lib.hid hT
  have HXO := Lib.hid hxo
  have HM := Lib.hid hM
  have hmx := h1.mx
  have hle := h1.le
  obtain ⟨n1, hn1⟩ : ∃ m, m = S1.length := ⟨_, rfl⟩
  have HN1 := Lib.hid hn1
  rw [← hn1] at hle
  rw [← hn1]
  clear hr hbw hF hX h1 hT hxo hM hn1
  conv => arg 2; whnf
  go_wp2_with (fail)
  go_loopw [13] (fun i wr => ∃ m : Nat, m ≤ n1 ∧ i = .int .i64 m ∧ Hid (Below W.heap.size W wr)) (fun i _ => n1 - (intOf i).toNat)
  case atStart => exact ⟨0, by omega, rfl, Lib.hid (Below.refl _ _)⟩
  case round =>
    obtain ⟨m, hm, rfl, HB⟩ := hrel
    by_cases hlt : m < n1
    · have t1 : decide ((m : Int) < (n1 : Int)) = true := by simp; omega
      have m0 : (0 : Int) ≤ (m : Int) := by omega
      have m1 : (m : Int) < (n1 : Int) := by omega
      have f1 : IntKind.i64.wrap ((m : Int) + 1) = ((m + 1 : Nat) : Int) := by rw [wrap_in (by omega) (by omega)]; omega
      obtain ⟨b1, o1, ha1, hb1, p0, p1⟩ := (H1.out.below HB.out).part (i := m) (by rw [← HN1.out]; exact hlt)
      subst ha1
      obtain ⟨pj, hpj⟩ : ∃ p, p = S1.getD m default := ⟨_, rfl⟩
      rw [← hpj] at p0 p1
      obtain ⟨s, k⟩ := pj
      simp only at p0 p1
      unfold encStr at p0
      have HPJ := Lib.hid hpj
      have hin : (s, k) ∈ S1 := by rw [hpj, List.getD_eq_getElem?_getD, List.getElem?_eq_getElem (by rw [← HN1.out]; exact hlt)]; exact List.getElem_mem _
      have HIN := Lib.hid hin
      obtain ⟨y, hy⟩ := HF.out.of hin
      have HY := Lib.hid hy
      have HIT := Lib.hid (item_any B (a := a) n c X s y wr (HR.out.below (HB.out.mono hB)) (Nat.le_trans hB HB.out.size) HF.out.snd.nd hy.yx)
      unfold It.val at HIT
      have HB1 := Lib.hid hb1
      clear hpj hin hy hb1
      go_wp2_with (fail)
      go_at_call 15
      refine HIT.out.mono ?_
      rintro e wA ⟨rfl, hbA⟩
      go_upto_region 16 with (fail)
      obtain ⟨wy, hwy⟩ : ∃ W', W' = wA.alloc (.cells #[encStr y.code, .int .i64 y.life, .slice y.pa y.ps.length y.pc, .slice y.oa y.os.length y.oc] 32) := ⟨_, rfl⟩
      have hxy : XC wy wA.heap.size y := ⟨by rw [hwy]; exact heap_alloc_new _ _⟩
      have hby : Below W.heap.size W wy := by rw [hwy]; exact (HB.out.trans (hbA.mono HB.out.size)).alloc (Nat.le_trans HB.out.size hbA.size) _
      unfold encStr at hwy
      rw [← hwy]
      have HBY := Lib.hid hby
      have HXY := Lib.hid hxy
      obtain ⟨gy, hgy⟩ : ∃ g, g = wA.heap.size := ⟨_, rfl⟩
      rw [← hgy] at HXY ⊢
      obtain ⟨y0, y1, -⟩ := HXY.out.cells
      unfold encStr at y0
      rw [HY.out.yc] at y0
      clear p0 p1 hwy hby hxy hbA hgy HIT
      obtain ⟨b1', o1', ha1, -, p0, p1⟩ := (H1.out.below HBY.out).part (i := m) (by rw [← HN1.out]; exact hlt)
      injection ha1 with ha1
      injection ha1 with e1 e2 e3
      subst e1
      subst e2
      rw [← HPJ.out] at p0 p1
      simp only at p0 p1
      unfold encStr at p0
      clear e3
      have gy1 : ∀ v : BelowW wy, v.v.cell? ⟨gy, 1, none⟩ = some (.int .i64 y.life) := fun v => (v.h.cell (by show gy < _; exact HXY.out.lt)).trans y1
      have gy0 : ∀ v : BelowW wy, v.v.cell? ⟨gy, 0, none⟩ = some (.string ⟨s.toArray⟩) := fun v => (v.h.cell (by show gy < _; exact HXY.out.lt)).trans y0
      have g0 : ∀ v : BelowW wy, v.v.cell? ⟨b1, o1 + m * 2, none⟩ = some (.string ⟨s.toArray⟩) := fun v => (v.h.cell (by show b1 < _; exact Nat.lt_of_lt_of_le HB1.out HBY.out.size)).trans p0
      have g1 : ∀ v : BelowW wy, v.v.cell? ⟨b1, o1 + m * 2 + 1, none⟩ = some (.int .i64 k) := fun v => (v.h.cell (by show b1 < _; exact Nat.lt_of_lt_of_le HB1.out HBY.out.size)).trans p1
      have hlf := HY.out.life
      have hk1 : decide (k < 1) = false := decide_eq_false (by have := HY.out.one; omega)
      have HAM := Lib.hid (fun v : BelowW wy => among_any W.heap.size wa (withinL X x.code).length wc (withinL X x.code) s v.v (HT.out.below (HBY.out.trans (v.h.mono HBY.out.size))) HY.out.win)
      have HTM := Lib.hid (fun w => Times_any k q w)
      by_cases hem : em = 0
      · obtain ⟨a2, n2, c2, hvm, hn2, hr2, htm⟩ := HM.out.yes hem
        subst hem
        subst hvm
        rw [htm _ HIN.out] at HTM
        have hr2' := (hr2.below HBY.out)
        obtain ⟨b2, o2, ha2, hb2, q0, q1⟩ := hr2'.part (i := m) (by rw [hn2, ← HN1.out]; exact hlt)
        subst ha2
        rw [scale_at (by rw [← HN1.out]; exact hlt) HPJ.out] at q0 q1
        simp only at q0 q1
        unfold encStr at q0
        have h2le := hr2.le
        have h2mx := hr2.mx
        obtain ⟨nn, hnn⟩ : ∃ z, z = q * k := ⟨_, rfl⟩
        rw [← hnn] at HTM q1
        have HTM : Hid (∀ w, Calls Try.prog 16 #[.int .i64 k, .int .i64 q] w fun e w' => e = .returned (.tuple #[.int .i64 nn, .bool true]) ∧ w = w') := HTM
        have d0 : ∀ v : BelowW wy, v.v.cell? ⟨b2, o2 + m * 2, none⟩ = some (.string ⟨s.toArray⟩) := fun v => (v.h.cell (by show b2 < _; exact Nat.lt_of_lt_of_le hb2 HBY.out.size)).trans q0
        have d1 : ∀ v : BelowW wy, v.v.cell? ⟨b2, o2 + m * 2 + 1, none⟩ = some (.int .i64 nn) := fun v => (v.h.cell (by show b2 < _; exact Nat.lt_of_lt_of_le hb2 HBY.out.size)).trans q1
        have heq : ∀ w : World, (Op.equalIn 10000 39 (.agg #[.string ⟨s.toArray⟩, .int .i64 nn]) (.agg #[.string ⟨s.toArray⟩, .int .i64 nn])).run Try.prog w = .ok true w := fun w => eqPart_self s nn w
        have hnq : ((n2 : Int) != (n1 : Int)) = false := by rw [hn2, HN1.out]; simp
        have hnq2 : (n2 != n1) = false := by rw [hn2, HN1.out]; simp
        have hnq3 : (m : Int) < (n2 : Int) := by rw [hn2, ← HN1.out]; exact m1
        have HN2 := Lib.hid hn2
        clear q0 q1 hb2 htm hr2 hr2' hnn hn2
        go_upto_region 17 with (first | (go_at_call 16; refine (HTM.out _).mono ?_; rintro e w9 ⟨rfl, rfl⟩))
        clear p0 p1 y0 y1
        by_cases hz : 0 < m
        · have z1 : decide ((0 : Int) < (m : Int)) = true := decide_eq_true (by omega)
          have z2 : decide (0 < m) = true := decide_eq_true hz
          have z3 : IntKind.i64.wrap ((m : Int) - 1) = ((m - 1 : Nat) : Int) := by rw [wrap_in (by omega) (by omega)]; omega
          have z4 : (0 : Int) ≤ ((m - 1 : Nat) : Int) := by omega
          have z5 : ((m - 1 : Nat) : Int) < (n1 : Int) := by omega
          obtain ⟨b1', o1', ha1, -, p0, -⟩ := (H1.out.below HBY.out).part (i := m - 1) (by rw [← HN1.out]; omega)
          injection ha1 with ha1
          injection ha1 with e1 e2 e3
          subst e1
          subst e2
          have hup := up_less (m := m - 1) (end_up HF.out.snd HF.out.mem (Int.le_refl 1) (by unfold mostA; omega) HF.out.hS).1 (by rw [← HN1.out]; omega)
          rw [show m - 1 + 1 = m by omega, ← HPJ.out] at hup
          obtain ⟨sp, hsp⟩ : ∃ z, z = (S1.getD (m - 1) default).1 := ⟨_, rfl⟩
          rw [← hsp] at p0 hup
          obtain ⟨l1, l2, l3, l4⟩ := less_facts hup
          unfold encStr at p0
          have g2 : ∀ v : BelowW wy, v.v.cell? ⟨b1, o1 + (m - 1) * 2, none⟩ = some (.string ⟨sp.toArray⟩) := fun v => (v.h.cell (by show b1 < _; exact Nat.lt_of_lt_of_le HB1.out HBY.out.size)).trans p0
          clear p0 hsp hup e3
          refine wp_region_below wy (by kernel_rfl) (by kernel_rfl) (Below.refl _ _) ?_
          repeat (go_big_quiet_step ((go_at_call 17; exact below_call_same (HAM.out _))))
          refine wpQuiet_nil ?_
          intro _ hw'
          obtain ⟨v, hw''⟩ := hw'
          subst hw''
          clear g0 g1 g2 gy0 gy1 d0 d1
          go_wp2_with (fail)
          go_roundw
          case rel => exact ⟨m + 1, by omega, by go_num, Lib.hid (HBY.out.trans (v.h.mono HBY.out.size))⟩
          case measure => simp [intOf]; omega
        · have z1 : decide ((0 : Int) < (m : Int)) = false := decide_eq_false (by omega)
          have z2 : decide (0 < m) = false := decide_eq_false hz
          refine wp_region_below wy (by kernel_rfl) (by kernel_rfl) (Below.refl _ _) ?_
          repeat (go_big_quiet_step ((go_at_call 17; exact below_call_same (HAM.out _))))
          refine wpQuiet_nil ?_
          intro _ hw'
          obtain ⟨v, hw''⟩ := hw'
          subst hw''
          clear g0 g1 gy0 gy1 d0 d1
          go_wp2_with (fail)
          go_roundw
          case rel => exact ⟨m + 1, by omega, by go_num, Lib.hid (HBY.out.trans (v.h.mono HBY.out.size))⟩
          case measure => simp [intOf]; omega
      · have e3 := HM.out.no hem
        subst e3
        generalize timesA k q = tm at HTM
        generalize ansV tm = tv at HTM
        generalize tm.isSome = tb at HTM
        go_upto_region 17 with (first | (go_at_call 16; refine (HTM.out _).mono ?_; rintro e w9 ⟨rfl, rfl⟩))
        clear p0 p1 y0 y1
        by_cases hz : 0 < m
        · have z1 : decide ((0 : Int) < (m : Int)) = true := decide_eq_true (by omega)
          have z2 : decide (0 < m) = true := decide_eq_true hz
          have z3 : IntKind.i64.wrap ((m : Int) - 1) = ((m - 1 : Nat) : Int) := by rw [wrap_in (by omega) (by omega)]; omega
          have z4 : (0 : Int) ≤ ((m - 1 : Nat) : Int) := by omega
          have z5 : ((m - 1 : Nat) : Int) < (n1 : Int) := by omega
          obtain ⟨b1', o1', ha1, -, p0, -⟩ := (H1.out.below HBY.out).part (i := m - 1) (by rw [← HN1.out]; omega)
          injection ha1 with ha1
          injection ha1 with e1 e2 e3
          subst e1
          subst e2
          have hup := up_less (m := m - 1) (end_up HF.out.snd HF.out.mem (Int.le_refl 1) (by unfold mostA; omega) HF.out.hS).1 (by rw [← HN1.out]; omega)
          rw [show m - 1 + 1 = m by omega, ← HPJ.out] at hup
          obtain ⟨sp, hsp⟩ : ∃ z, z = (S1.getD (m - 1) default).1 := ⟨_, rfl⟩
          rw [← hsp] at p0 hup
          obtain ⟨l1, l2, l3, l4⟩ := less_facts hup
          unfold encStr at p0
          have g2 : ∀ v : BelowW wy, v.v.cell? ⟨b1, o1 + (m - 1) * 2, none⟩ = some (.string ⟨sp.toArray⟩) := fun v => (v.h.cell (by show b1 < _; exact Nat.lt_of_lt_of_le HB1.out HBY.out.size)).trans p0
          clear p0 hsp hup e3
          refine wp_region_below wy (by kernel_rfl) (by kernel_rfl) (Below.refl _ _) ?_
          repeat (go_big_quiet_step ((go_at_call 17; exact below_call_same (HAM.out _))))
          refine wpQuiet_nil ?_
          intro _ hw'
          obtain ⟨v, hw''⟩ := hw'
          subst hw''
          clear g0 g1 g2 gy0 gy1 
          go_wp2_with (fail)
          go_roundw
          case rel => exact ⟨m + 1, by omega, by go_num, Lib.hid (HBY.out.trans (v.h.mono HBY.out.size))⟩
          case measure => simp [intOf]; omega
        · have z1 : decide ((0 : Int) < (m : Int)) = false := decide_eq_false (by omega)
          have z2 : decide (0 < m) = false := decide_eq_false hz
          refine wp_region_below wy (by kernel_rfl) (by kernel_rfl) (Below.refl _ _) ?_
          repeat (go_big_quiet_step ((go_at_call 17; exact below_call_same (HAM.out _))))
          refine wpQuiet_nil ?_
          intro _ hw'
          obtain ⟨v, hw''⟩ := hw'
          subst hw''
          clear g0 g1 gy0 gy1 
          go_wp2_with (fail)
          go_roundw
          case rel => exact ⟨m + 1, by omega, by go_num, Lib.hid (HBY.out.trans (v.h.mono HBY.out.size))⟩
          case measure => simp [intOf]; omega
    · have t1 : decide ((m : Int) < (n1 : Int)) = false := by simp; omega
      by_cases hem : em = 0
      · subst hem
        go_upto_region 21 with (fail)
        iterate 7 go_step
        have hn1 := HN1.out
        subst hn1
        exact end_mid B a n c X x S1 gx c1 wc a1 wa w wr (HR.out.below (HB.out.mono hB)) (Nat.le_trans hB HB.out.size) (HBW.out.trans (HB.out.mono HBW.out.size)) HF.out (HX.out.below HB.out HX.out.lt) (HXO.out.below (HB.out.mono hB)) ((H1.out.below HB.out).mono HB.out.size) ((HT.out.below HB.out).mono HB.out.size) _ _ _ _ _ _ _ _ _ _ _ _ _ _ _ _ _ _ _ _ _ _ _ _ _ _ _ _ _ _ _ _ _ _ _ _ _ _ _ _ _ _ _ _ _ _ _ _ _ _ _ _ _ _ _ _ _ _ _ _ _ _ _ _ _ _ _ _ _ _ _ _ _ _ _ _ _ _ _ _ _ _ _ _ _ _ _ _ _ _ _ _ _ _ _ _ _ _ _ _ _ _ _ _ _ _ _ _ _ _ _ _ _ _ _ _ _ _ _ _ _ _ _ _ _ _ _ _ _ _ _ _ _ _ _ _ _ _ _ _ _ _ _ _ _ _ _ _ _ _ _ _ _ _ _ _ _ _ _ _ _ _ _ _ _ _ _ _ _ _ _ _ _ _ _ _ _ _ _ _ _ _ _ _ _ _ _ _ _ _ _ _ _ _ _ _ _ _ _ _ _ _ _ _ _ _ _ _ _ _ _ _ _ _ _ _ _ _ _ _ _ _ _ _ _ _ _ _ _ _ _ _ _ _ _ _ _ _ _ _ _ _ _ _ _ _ _ _ _ _ _ _ _ _ _ _ _ _ _ _ _ _ _ _ _ _ _
      · have e3 := HM.out.no hem
        subst e3
        go_upto_region 21 with (fail)
        iterate 7 go_step
        have hn1 := HN1.out
        subst hn1
        exact end_mid B a n c X x S1 gx c1 wc a1 wa w wr (HR.out.below (HB.out.mono hB)) (Nat.le_trans hB HB.out.size) (HBW.out.trans (HB.out.mono HBW.out.size)) HF.out (HX.out.below HB.out HX.out.lt) (HXO.out.below (HB.out.mono hB)) ((H1.out.below HB.out).mono HB.out.size) ((HT.out.below HB.out).mono HB.out.size) _ _ _ _ _ _ _ _ _ _ _ _ _ _ _ _ _ _ _ _ _ _ _ _ _ _ _ _ _ _ _ _ _ _ _ _ _ _ _ _ _ _ _ _ _ _ _ _ _ _ _ _ _ _ _ _ _ _ _ _ _ _ _ _ _ _ _ _ _ _ _ _ _ _ _ _ _ _ _ _ _ _ _ _ _ _ _ _ _ _ _ _ _ _ _ _ _ _ _ _ _ _ _ _ _ _ _ _ _ _ _ _ _ _ _ _ _ _ _ _ _ _ _ _ _ _ _ _ _ _ _ _ _ _ _ _ _ _ _ _ _ _ _ _ _ _ _ _ _ _ _ _ _ _ _ _ _ _ _ _ _ _ _ _ _ _ _ _ _ _ _ _ _ _ _ _ _ _ _ _ _ _ _ _ _ _ _ _ _ _ _ _ _ _ _ _ _ _ _ _ _ _ _ _ _ _ _ _ _ _ _ _ _ _ _ _ _ _ _ _ _ _ _ _ _ _ _ _ _ _ _ _ _ _ _ _ _ _ _ _ _ _ _ _ _ _ _ _ _ _ _ _ _ _ _ _ _ _ _ _ _ _ _ _ _ _ _
end Go.Proofs.Ythlmnoggeggpkaa
