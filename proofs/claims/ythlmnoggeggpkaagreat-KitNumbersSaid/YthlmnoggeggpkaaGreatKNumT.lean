/- KitNumbers' walk: its end. -/
import Derived.Test.YthlmnoggeggpkaaGreatKChain
import Derived.Test.YthlmnoggeggpkaaGreatKKitParts
import Derived.Deep.RegionHeld3
namespace Go.Proofs.YthlmnoggeggpkaaGreat
open Go.RowKit

theorem below_next {w v w' : World} (h : Below w.heap.size w v) (h2 : Below v.heap.size v w') : Below w.heap.size w w' := h.trans (h2.mono h.size)
/-- A slice of small items. -/
def KP (W : World) (v : Value) (e : Int) : Prop := ∃ a n c Y B, v = .slice a n c ∧ RI B W a n c Y ∧ B ≤ W.heap.size ∧ LowI Y ∧ chkE Y = e
theorem KP.drew {W : World} {v : Value} {e : Int} (h : KP W v e) : KP W.drew v e := by
  obtain ⟨a, n, c, Y, B, h1, h2, h3, h4⟩ := h
  exact ⟨a, n, c, Y, B, h1, h2.below (Below.refl _ W).drew, h3, h4⟩
theorem KP.below {W W' : World} {v : Value} {e : Int} (h : KP W v e) (hb : Below W.heap.size W W') : KP W' v e := by
  obtain ⟨a, n, c, Y, B, h1, h2, h3, h4⟩ := h
  exact ⟨a, n, c, Y, B, h1, h2.below (hb.mono h3), Nat.le_trans h3 hb.size, h4⟩
theorem KP.parts {W : World} {v : Value} {e : Int} (h : KP W v e) (code : List UInt8) (q : Int) (hc : code.length ≤ 140737488355328) (hq : -9223372036854775808 ≤ q ∧ q ≤ 9223372036854775807) :
    Calls Tryz.prog 3 #[v, .string ⟨code.toArray⟩, .int .i64 q] W fun e w' => e = .returned (.bool true) ∧ Below W.heap.size W w' := by
  obtain ⟨a, n, c, Y, B, rfl, h2, h3, h4, -⟩ := h
  exact KitParts_any B a n c Y code q W h2 h3 h4 hc hq
theorem KP.checks {W : World} {v : Value} {e : Int} (h : KP W v e) :
    Calls Tryz.prog 20 #[v] W fun e w' => e = .returned (.bool true) ∧ Below W.heap.size W w' := by
  obtain ⟨a, n, c, Y, B, rfl, h2, h3, h4, -⟩ := h
  exact KitChecks_any B a n c Y W h2 h3 h4
theorem KP.check {W : World} {v : Value} {x : Int} (h : KP W v x) :
    Calls Tryz.prog 21 #[v] W fun e w' => e = .returned (.int .i64 x) ∧ Below W.heap.size W w' := by
  obtain ⟨a, n, c, Y, B, rfl, h2, h3, h4, rfl⟩ := h
  exact Check_any B a n c Y W h2 h3
theorem MY.kp {base n : Nat} {w : World} {v : Value} {X Y : List It} (h : MY base w v X Y) (hn : n = X.length) (hs : ∀ x ∈ X, SmI x) : KP w v (chkE X) := by
  obtain ⟨h1, h2, a, c, rfl, h3⟩ := h.ri hn hs
  exact ⟨a, n, c, Y, _, rfl, h3, Nat.le_refl _, h1, h2⟩
theorem ch_sm (n : Nat) (q : Int) (hq : -9223372036854775808 ≤ q ∧ q ≤ 9223372036854775807) : ∀ x ∈ chL n q, SmI x := by
  intro x hx
  unfold chL at hx
  obtain ⟨i, -, rfl⟩ := List.mem_map.1 hx
  have hl : ∀ j, (chC j).length ≤ 1000 := fun j => by
    unfold chC
    split <;> simp
  refine ⟨hl i, ?_, ?_, ?_⟩
  · unfold chI
    simp only
    split <;> decide
  · by_cases h0 : i = 0
    · subst h0; exact (show 0 ≤ 1000 by decide)
    · rw [ch_part h0]; exact (show 1 ≤ 1000 by decide)
  · by_cases h0 : i = 0
    · subst h0; intro p hp; cases hp
    · rw [ch_part h0]
      intro p hp
      rw [List.mem_singleton] at hp
      subst hp
      exact ⟨hl _, hq⟩
theorem four_kp (w : World) : Calls Tryz.prog 23 #[] w fun e w' => ∃ v, e = .returned v ∧ KP w' v 0 ∧ Below w.heap.size w w' := by
  refine (four_any w).mono ?_
  rintro e w' ⟨rfl, h1, h2⟩
  refine ⟨_, rfl, ⟨_, _, _, _, _, rfl, h1, Nat.le_refl _, ?_, chk_four _⟩, h2⟩
  intro i hi
  have hi4 : i < 4 := hi
  rcases (show i = 0 ∨ i = 1 ∨ i = 2 ∨ i = 3 by omega) with rfl | rfl | rfl | rfl
  all_goals
    refine ⟨(show (1 : Nat) ≤ _ by decide), ?_, (show (0 : Nat) ≤ _ by decide), ?_⟩
    · first | exact (show (0 : Nat) ≤ _ by decide) | exact (show (2 : Nat) ≤ _ by decide)
    · intro p hp
      first | (cases hp; done) | (simp only [fourX, List.getD_cons_zero, List.getD_cons_succ, List.mem_cons, List.not_mem_nil, or_false] at hp; rcases hp with rfl | rfl <;> decide)
theorem chain_kp (n : Nat) (q : Int) (w : World) (h1 : 1 ≤ n) (hn : n ≤ 61) (hq : -9223372036854775808 ≤ q ∧ q ≤ 9223372036854775807) :
    Calls Tryz.prog 22 #[.int .i64 n, .int .i64 q] w fun e w' => ∃ v, e = .returned v ∧ KP w' v (chkE (chL n q)) ∧ (∃ Y, MY w.heap.size w' v (chL n q) Y) ∧ Below w.heap.size w w' := by
  refine (chain_any n q w h1 hn hq).mono ?_
  rintro e w' ⟨v, Y, rfl, h2, h3⟩
  exact ⟨v, rfl, h2.kp (chL_len n q).symm (ch_sm n q hq), ⟨Y, h2⟩, h3⟩
theorem chain3 (w : World) : Calls Tryz.prog 22 #[.int .i64 3, .int .i64 32768] w fun e w' => ∃ v, e = .returned v ∧ KP w' v (chkE (chL 3 32768)) ∧ (∃ Y, MY w.heap.size w' v (chL 3 32768) Y) ∧ Below w.heap.size w w' := chain_kp 3 32768 w (by decide) (by decide) (by decide)
theorem chain8 (w : World) : Calls Tryz.prog 22 #[.int .i64 8, .int .i64 1073741824] w fun e w' => ∃ v, e = .returned v ∧ KP w' v (chkE (chL 8 1073741824)) ∧ (∃ Y, MY w.heap.size w' v (chL 8 1073741824) Y) ∧ Below w.heap.size w w' := chain_kp 8 1073741824 w (by decide) (by decide) (by decide)
/-- A block of amounts. -/
def QB (g : Nat) (W : World) : Prop := g < W.heap.size ∧ ∀ i, i < 12 → ∃ q : Int, (-9223372036854775808 ≤ q ∧ q ≤ 9223372036854775807) ∧ W.cell? ⟨g, i, none⟩ = some (.int .i64 q)
theorem QB.below {g : Nat} {W W' : World} (h : QB g W) (hb : Below W.heap.size W W') : QB g W' := by
  refine ⟨Nat.lt_of_lt_of_le h.1 hb.size, fun i hi => ?_⟩
  obtain ⟨q, h1, h2⟩ := h.2 i hi
  exact ⟨q, h1, (hb.cell (by exact h.1)).trans h2⟩
theorem QB.new (w : World) (t : TypeId) (a b c d e f g h i j k l : Int) (hq : ∀ q ∈ [a, b, c, d, e, f, g, h, i, j, k, l], -9223372036854775808 ≤ q ∧ q ≤ 9223372036854775807) : QB w.heap.size (w.alloc (.cells #[.int .i64 a, .int .i64 b, .int .i64 c, .int .i64 d, .int .i64 e, .int .i64 f, .int .i64 g, .int .i64 h, .int .i64 i, .int .i64 j, .int .i64 k, .int .i64 l] t)) := by
  refine ⟨by rw [World.size_alloc]; omega, fun x hx => ?_⟩
  rcases (show x = 0 ∨ x = 1 ∨ x = 2 ∨ x = 3 ∨ x = 4 ∨ x = 5 ∨ x = 6 ∨ x = 7 ∨ x = 8 ∨ x = 9 ∨ x = 10 ∨ x = 11 by omega) with rfl | rfl | rfl | rfl | rfl | rfl | rfl | rfl | rfl | rfl | rfl | rfl
  all_goals
    refine ⟨_, hq _ ?_, by rw [World.cell?_alloc_new]; rfl⟩
    simp
set_option maxHeartbeats 16000000 in
set_option maxRecDepth 1000000 in
theorem num_tail (w W : World) (hbw : Below w.heap.size w W) (sl0 sl1 sl2 sl3 sl4 sl5 sl6 sl7 sl8 sl9 sl10 sl11 sl12 sl13 sl14 sl15 sl16 sl17 sl18 sl19 sl20 sl21 sl22 sl23 sl24 sl25 sl26 sl27 sl28 sl29 sl30 sl31 sl32 sl33 sl34 sl35 sl36 sl37 sl38 sl39 sl40 sl41 sl42 sl43 sl44 sl45 sl46 sl47 sl48 sl49 sl50 sl51 sl52 sl53 sl54 sl55 sl56 sl57 sl58 sl59 sl60 sl61 sl62 sl63 sl64 sl65 sl66 sl67 sl68 sl69 sl70 sl71 sl72 sl73 sl74 sl75 sl76 sl77 sl78 sl79 sl80 sl81 sl82 sl83 sl84 sl85 sl86 sl87 sl88 sl89 sl90 sl91 sl92 sl93 sl94 sl95 sl96 sl97 sl98 sl99 sl100 sl101 sl102 sl103 sl104 sl105 sl106 sl107 sl108 sl109 sl110 sl111 sl112 sl113 sl114 sl115 sl116 sl117 sl118 sl119 sl120 sl121 sl122 sl123 sl124 sl125 sl126 sl127 sl128 sl129 sl130 sl131 sl132 sl133 sl134 sl135 sl136 sl137 sl138 sl139 sl140 sl141 sl142 sl143 sl144 sl145 sl146 sl147 sl148 sl149 sl150 sl151 sl152 sl153 sl154 sl155 sl156 sl157 sl158 sl159 sl160 sl161 sl162 sl163 sl164 sl165 sl166 sl167 sl168 sl169 sl170 sl171 sl172 sl173 sl174 sl175 sl176 sl177 sl178 sl179 sl180 sl181 sl182 sl183 sl184 sl185 sl186 sl187 sl188 sl189 sl190 sl191 sl192 sl193 sl194 sl195 sl196 sl197 sl198 sl199 sl200 sl201 sl202 sl203 sl204 sl205 sl206 sl207 sl208 sl209 sl210 sl211 sl212 sl213 sl214 sl215 sl216 sl217 sl218 sl219 sl220 sl221 sl222 sl223 sl224 sl225 sl226 sl227 sl228 sl229 sl230 sl231 sl232 sl233 sl234 sl235 sl236 sl237 sl238 sl239 sl240 sl241 sl242 sl243 sl244 sl245 sl246 sl247 sl248 sl249 sl250 sl251 sl252 sl253 sl254 sl255 sl256 sl257 sl258 sl259 sl260 : Value) :
    Code.wp Tryz.prog (dropC 6 (Tryz.f4.body.getD .skip)) (bodyPost Tryz.prog Tryz.f4 fun e w' => e = .returned (.bool true) ∧ Below w.heap.size w w') ⟨List.toArray (sl0 :: sl1 :: sl2 :: sl3 :: sl4 :: sl5 :: sl6 :: sl7 :: sl8 :: sl9 :: sl10 :: sl11 :: sl12 :: sl13 :: sl14 :: sl15 :: sl16 :: sl17 :: sl18 :: sl19 :: sl20 :: sl21 :: sl22 :: sl23 :: sl24 :: sl25 :: sl26 :: sl27 :: sl28 :: sl29 :: sl30 :: sl31 :: sl32 :: sl33 :: sl34 :: sl35 :: sl36 :: sl37 :: sl38 :: sl39 :: sl40 :: sl41 :: sl42 :: sl43 :: sl44 :: sl45 :: sl46 :: sl47 :: sl48 :: sl49 :: sl50 :: sl51 :: sl52 :: sl53 :: sl54 :: sl55 :: sl56 :: sl57 :: sl58 :: sl59 :: sl60 :: sl61 :: sl62 :: sl63 :: sl64 :: sl65 :: sl66 :: sl67 :: sl68 :: sl69 :: sl70 :: sl71 :: sl72 :: sl73 :: sl74 :: sl75 :: sl76 :: sl77 :: sl78 :: sl79 :: sl80 :: sl81 :: sl82 :: sl83 :: sl84 :: sl85 :: sl86 :: sl87 :: sl88 :: sl89 :: sl90 :: sl91 :: sl92 :: sl93 :: sl94 :: sl95 :: sl96 :: sl97 :: sl98 :: sl99 :: sl100 :: sl101 :: sl102 :: sl103 :: sl104 :: sl105 :: sl106 :: sl107 :: sl108 :: sl109 :: sl110 :: sl111 :: sl112 :: sl113 :: sl114 :: sl115 :: sl116 :: sl117 :: sl118 :: sl119 :: sl120 :: sl121 :: sl122 :: sl123 :: sl124 :: sl125 :: sl126 :: sl127 :: sl128 :: sl129 :: sl130 :: sl131 :: sl132 :: sl133 :: sl134 :: sl135 :: sl136 :: sl137 :: sl138 :: sl139 :: sl140 :: sl141 :: sl142 :: sl143 :: sl144 :: sl145 :: sl146 :: sl147 :: sl148 :: sl149 :: sl150 :: sl151 :: sl152 :: sl153 :: sl154 :: sl155 :: sl156 :: sl157 :: sl158 :: sl159 :: sl160 :: sl161 :: sl162 :: sl163 :: sl164 :: sl165 :: sl166 :: sl167 :: sl168 :: sl169 :: sl170 :: sl171 :: sl172 :: sl173 :: sl174 :: sl175 :: sl176 :: sl177 :: sl178 :: sl179 :: sl180 :: sl181 :: sl182 :: sl183 :: sl184 :: sl185 :: sl186 :: sl187 :: sl188 :: sl189 :: sl190 :: sl191 :: sl192 :: sl193 :: sl194 :: sl195 :: sl196 :: sl197 :: sl198 :: sl199 :: sl200 :: sl201 :: sl202 :: sl203 :: sl204 :: sl205 :: sl206 :: sl207 :: sl208 :: sl209 :: sl210 :: sl211 :: sl212 :: sl213 :: sl214 :: sl215 :: sl216 :: sl217 :: sl218 :: sl219 :: sl220 :: sl221 :: sl222 :: sl223 :: sl224 :: sl225 :: sl226 :: sl227 :: sl228 :: sl229 :: sl230 :: sl231 :: sl232 :: sl233 :: sl234 :: sl235 :: sl236 :: sl237 :: sl238 :: sl239 :: sl240 :: sl241 :: sl242 :: sl243 :: sl244 :: sl245 :: sl246 :: sl247 :: sl248 :: sl249 :: sl250 :: sl251 :: sl252 :: sl253 :: sl254 :: sl255 :: sl256 :: sl257 :: sl258 :: sl259 :: sl260 :: []), []⟩ W := by
  have HBW := Lib.hid hbw
  clear hbw
  conv => arg 2; whnf
  go_wp2_with (fail)
  have hq0 : QB W.heap.size (W.alloc (.cells #[.int .i64 (-9223372036854775808), .int .i64 (-1), .int .i64 0, .int .i64 1, .int .i64 2, .int .i64 1048576, .int .i64 1048577, .int .i64 562949953421312, .int .i64 562949953421313, .int .i64 1125899906842624, .int .i64 1125899906842625, .int .i64 9223372036854775807] 2)) := QB.new W _ _ _ _ _ _ _ _ _ _ _ _ _ (by decide)
  have HQ0 := Lib.hid hq0
  have HB0 : Hid (Below w.heap.size w (W.alloc (.cells #[.int .i64 (-9223372036854775808), .int .i64 (-1), .int .i64 0, .int .i64 1, .int .i64 2, .int .i64 1048576, .int .i64 1048577, .int .i64 562949953421312, .int .i64 562949953421313, .int .i64 1125899906842624, .int .i64 1125899906842625, .int .i64 9223372036854775807] 2))) := Lib.hid (HBW.out.alloc HBW.out.size _)
  obtain ⟨gq, hgq⟩ : ∃ g, g = W.heap.size := ⟨_, rfl⟩
  rw [← hgq] at hq0 HQ0 ⊢
  clear hq0 hgq
  go_loopw [11] (fun i wr => ∃ j : Nat, j ≤ 12 ∧ i = .int .i64 j ∧ Hid (QB gq wr) ∧ Hid (Below w.heap.size w wr)) (fun i _ => 12 - (intOf i).toNat)
  case atStart => exact ⟨0, by omega, rfl, HQ0, HB0⟩
  case round =>
    obtain ⟨j, hj, rfl, HQ, HB⟩ := hrel
    clear HQ0 HB0 HBW
    by_cases hlt : j < 12
    · have t1 : decide ((j : Int) < 12) = true := by simp; omega
      obtain ⟨q, hqb, c0⟩ := HQ.out.2 j hlt
      have HQB := Lib.hid hqb
      have HC := Lib.hid (fun W' (h : Below wr.heap.size wr W') => (h.cell (p := ⟨gq, j, none⟩) HQ.out.1).trans c0)
      have HS := Lib.hid (Below.refl wr.heap.size wr)
      have f1 : IntKind.i64.wrap ((j : Int) + 1) = ((j + 1 : Nat) : Int) := by rw [wrap_in (by omega) (by omega)]; omega
      have i1 : (0 : Int) ≤ (j : Int) := by omega
      have i2 : (j : Int) < 12 := by omega
      clear hqb
      go_wp2_with (fail)
      go_region_held3 (fun w' => w'.cell? ⟨gq, j, none⟩ = some (.int .i64 q)) (first | (go_keep; done) | assumption) (first
        | (go_at_call 23; refine (four_kp _).mono ?_; rintro e w9 ⟨v9, rfl, hk9, hb9⟩; have HS := Lib.hid (below_next (by first | exact HS.out | exact HS.out.drew) hb9); have c0 := HC.out _ HS.out; have HK := Lib.hid hk9; clear hk9 hb9)
        | (go_at_call 22; with_reducible refine (chain3 _).mono ?_; rintro e w9 ⟨v9, rfl, hk9, -, hb9⟩; have HS := Lib.hid (below_next (by first | exact HS.out | exact HS.out.drew) hb9); have c0 := HC.out _ HS.out; have HK := Lib.hid hk9; clear hk9 hb9)
        | (go_at_call 22; with_reducible refine (chain8 _).mono ?_; rintro e w9 ⟨v9, rfl, hk9, -, hb9⟩; have HS := Lib.hid (below_next (by first | exact HS.out | exact HS.out.drew) hb9); have c0 := HC.out _ HS.out; have HK := Lib.hid hk9; clear hk9 hb9)
        | (go_at_call 3; refine (KP.parts (by first | exact HK.out | exact HK.out.drew) _ _ (by decide) HQB.out).mono ?_; rintro e w9 ⟨rfl, hb9⟩; have HS := Lib.hid (below_next (by first | exact HS.out | exact HS.out.drew) hb9); have c0 := HC.out _ HS.out; clear hb9))
      have HQ9 := Lib.hid (HQ.out.below HS.out)
      have HB9 := Lib.hid (below_next HB.out HS.out)
      clear c0 HK
      go_wp2_with (fail)
      go_roundw
      case rel => exact ⟨j + 1, by omega, by go_num, HQ9, HB9⟩
      case measure => simp [intOf]; omega
    · have t1 : decide ((j : Int) < 12) = false := by simp; omega
      clear hj hlt
      go_wp2_with (fail)
      go_at_call 6
      refine (awake_any _).mono ?_
      rintro e w9 ⟨rfl, hb9⟩
      have HB9 := Lib.hid (HB.out.trans (hb9.mono HB.out.size))
      clear hb9
      go_wp2_with (fail)
      go_ret
      exact ⟨rfl, HB9.out⟩
end Go.Proofs.YthlmnoggeggpkaaGreat
