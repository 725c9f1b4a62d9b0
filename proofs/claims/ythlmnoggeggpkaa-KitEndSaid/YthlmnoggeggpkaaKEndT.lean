/- KitEnd's walk: its end. -/
import Derived.Test.YthlmnoggeggpkaaKEndP
import Derived.Test.YthlmnoggeggpkaaKItemW
import Derived.Test.YthlmnoggeggpkaaKOwnV
import Derived.Test.YthlmnoggeggpkaaKAwake
import Derived.Test.YthlmnoggeggpkaaBelowQ
namespace Go.Proofs.Ythlmnoggeggpkaa
open Go.RowKit

/-- What stands behind the first n statements. -/
def dropC : Nat → Code → Code
  | n + 1, .seq _ b => dropC n b
  | _, c => c
/-- The law's own item, in block g. -/
structure XC (W : World) (g : Nat) (x : It) : Prop where
  at_ : W.heap[g]? = some (.cells #[encStr x.code, .int .i64 x.life, .slice x.pa x.ps.length x.pc, .slice x.oa x.os.length x.oc] 32)
theorem XC.lt {W : World} {g : Nat} {x : It} (h : XC W g x) : g < W.heap.size := (Array.getElem?_eq_some_iff.1 h.at_).1
theorem XC.below {W W' : World} {g : Nat} {x : It} {b : Nat} (h : XC W g x) (hb : Below b W W') (hg : g < b) : XC W' g x := ⟨(hb.block g hg).trans h.at_⟩
theorem XC.cells {W : World} {g : Nat} {x : It} (h : XC W g x) : W.cell? ⟨g, 0, none⟩ = some (encStr x.code) ∧ W.cell? ⟨g, 1, none⟩ = some (.int .i64 x.life) ∧ W.cell? ⟨g, 2, none⟩ = some (.slice x.pa x.ps.length x.pc) := by
  refine ⟨?_, ?_, ?_⟩ <;> (unfold World.cell?; rw [h.at_]; rfl)
/-- What the law holds of its item. -/
structure EF (X : List It) (x : It) (S1 : List Pt) : Prop where
  ok : chkE X = 0
  hx : itF X x.code = some x
  cl : x.code.length ≤ 9223372036854775807
  hS : endL X x.code 1 = some S1
theorem EF.snd {X : List It} {x : It} {S1 : List Pt} (h : EF X x S1) : Sound X := sound_of h.ok
theorem EF.mem {X : List It} {x : It} {S1 : List Pt} (h : EF X x S1) : x.code ∈ codes X := List.mem_map.2 ⟨x, List.mem_of_find?_eq_some h.hx, rfl⟩
theorem EF.ps {X : List It} {x : It} {S1 : List Pt} (h : EF X x S1) : partsX X x.code = x.ps := by unfold partsX; rw [h.hx]
theorem one_end {X : List It} {x : It} {S1 : List Pt} (h : EF X x S1) (h0 : x.ps.length = 0) : S1 = [(x.code, 1)] := by
  have h1 := h.hS
  rw [end_leaves h.snd h.mem (Int.le_refl 1) (by unfold mostA; omega), leaves_leaf (by rw [h.ps]; exact h0)] at h1
  exact (Option.some.inj h1).symm
theorem sp_join {X : List It} {x : It} {S1 : List Pt} (h : EF X x S1) (h0 : x.ps.length ≠ 0) : joinL [] (x.ps.flatMap (partT X)) = some S1 := by
  have := end_join h.snd h.mem (by rw [h.ps]; exact h0) h.hS
  rwa [h.ps] at this

set_option maxHeartbeats 16000000 in
set_option maxRecDepth 1000000 in
theorem end_tail (B : Nat) (a : Option Addr) (n c : Nat) (X : List It) (x : It) (S1 : List Pt) (V : List PV) (gx c1 wc vc : Nat) (a1 wa va : Option Addr) (w W : World) (hr : RI B W a n c X) (hB : B ≤ W.heap.size) (hbw : Below w.heap.size w W) (hF : EF X x S1) (hX : XC W gx x)
    (h1 : RP W.heap.size W a1 S1.length c1 S1) (hV : RV W.heap.size W va V.length vc V) (hfl : flatV V = x.ps.flatMap (partT X)) (hsz : (flatV V).length ≤ 1048576) (sl1 sl2 sl3 sl4 sl5 sl6 sl9 sl10 sl11 sl13 sl14 sl15 sl16 sl18 sl19 sl20 sl21 sl22 sl23 sl24 sl25 sl26 sl27 sl28 sl29 sl30 sl31 sl32 sl33 sl34 sl35 sl36 sl37 sl38 sl39 sl40 sl41 sl42 sl43 sl44 sl45 sl46 sl47 sl48 sl49 sl50 sl51 sl52 sl53 sl54 sl55 sl56 sl57 sl58 sl59 sl60 sl61 sl62 sl63 sl64 sl65 sl66 sl67 sl68 sl69 sl70 sl71 sl72 sl73 sl74 sl75 sl76 sl77 sl78 sl79 sl80 sl81 sl82 sl83 sl84 sl85 sl86 sl87 sl88 sl89 sl90 sl91 sl92 sl93 sl94 sl95 sl96 sl97 sl98 sl99 sl100 sl101 sl102 sl103 sl104 sl105 sl106 sl107 sl108 sl109 sl110 sl111 sl112 sl113 sl114 sl115 sl116 sl117 sl118 sl119 sl120 sl121 sl122 sl123 sl124 sl125 sl126 sl127 sl128 sl129 sl130 sl131 sl132 sl133 sl134 sl135 sl136 sl137 sl138 sl139 sl140 sl141 sl142 sl143 sl144 sl145 sl146 sl147 sl148 sl149 sl150 sl151 sl152 sl153 sl154 sl155 sl156 sl157 sl158 sl159 sl160 sl161 sl162 sl163 sl164 sl165 sl166 sl167 sl168 sl169 sl170 sl171 sl172 sl173 sl174 sl175 sl176 sl177 sl178 sl179 sl180 sl181 sl182 sl183 sl184 sl185 sl186 sl187 sl188 sl189 sl190 sl191 sl192 sl193 sl194 sl195 sl196 sl197 sl198 sl199 sl200 sl201 sl202 sl203 sl204 sl205 sl206 sl207 sl208 sl209 sl210 sl211 sl212 sl213 sl214 sl215 sl216 sl217 sl218 sl219 sl220 sl221 sl222 sl223 sl224 sl225 sl226 sl227 sl228 sl229 sl230 sl231 sl232 sl233 sl234 sl235 sl236 sl237 sl238 sl239 sl240 sl241 sl242 sl243 sl244 sl245 sl246 sl247 sl248 sl249 sl250 sl251 sl252 sl253 sl254 sl255 sl256 sl257 sl258 sl259 sl260 sl261 sl262 sl263 sl264 sl265 sl266 sl267 sl268 sl269 sl270 sl271 : Value) :
    Code.wp Try.prog (dropC 13 (Try.f4.body.getD .skip)) (bodyPost Try.prog Try.f4 fun e w' => e = .returned (.bool true) ∧ Below w.heap.size w w') ⟨List.toArray (.slice a n c :: sl1 :: sl2 :: sl3 :: sl4 :: sl5 :: sl6 :: .pointer (some ⟨gx, 0, none⟩) :: .slice a1 S1.length c1 :: sl9 :: sl10 :: sl11 :: .slice wa (withinL X x.code).length wc :: sl13 :: sl14 :: sl15 :: sl16 :: .slice va V.length vc :: sl18 :: sl19 :: sl20 :: sl21 :: sl22 :: sl23 :: sl24 :: sl25 :: sl26 :: sl27 :: sl28 :: sl29 :: sl30 :: sl31 :: sl32 :: sl33 :: sl34 :: sl35 :: sl36 :: sl37 :: sl38 :: sl39 :: sl40 :: sl41 :: sl42 :: sl43 :: sl44 :: sl45 :: sl46 :: sl47 :: sl48 :: sl49 :: sl50 :: sl51 :: sl52 :: sl53 :: sl54 :: sl55 :: sl56 :: sl57 :: sl58 :: sl59 :: sl60 :: sl61 :: sl62 :: sl63 :: sl64 :: sl65 :: sl66 :: sl67 :: sl68 :: sl69 :: sl70 :: sl71 :: sl72 :: sl73 :: sl74 :: sl75 :: sl76 :: sl77 :: sl78 :: sl79 :: sl80 :: sl81 :: sl82 :: sl83 :: sl84 :: sl85 :: sl86 :: sl87 :: sl88 :: sl89 :: sl90 :: sl91 :: sl92 :: sl93 :: sl94 :: sl95 :: sl96 :: sl97 :: sl98 :: sl99 :: sl100 :: sl101 :: sl102 :: sl103 :: sl104 :: sl105 :: sl106 :: sl107 :: sl108 :: sl109 :: sl110 :: sl111 :: sl112 :: sl113 :: sl114 :: sl115 :: sl116 :: sl117 :: sl118 :: sl119 :: sl120 :: sl121 :: sl122 :: sl123 :: sl124 :: sl125 :: sl126 :: sl127 :: sl128 :: sl129 :: sl130 :: sl131 :: sl132 :: sl133 :: sl134 :: sl135 :: sl136 :: sl137 :: sl138 :: sl139 :: sl140 :: sl141 :: sl142 :: sl143 :: sl144 :: sl145 :: sl146 :: sl147 :: sl148 :: sl149 :: sl150 :: sl151 :: sl152 :: sl153 :: sl154 :: sl155 :: sl156 :: sl157 :: sl158 :: sl159 :: sl160 :: sl161 :: sl162 :: sl163 :: sl164 :: sl165 :: sl166 :: sl167 :: sl168 :: sl169 :: sl170 :: sl171 :: sl172 :: sl173 :: sl174 :: sl175 :: sl176 :: sl177 :: sl178 :: sl179 :: sl180 :: sl181 :: sl182 :: sl183 :: sl184 :: sl185 :: sl186 :: sl187 :: sl188 :: sl189 :: sl190 :: sl191 :: sl192 :: sl193 :: sl194 :: sl195 :: sl196 :: sl197 :: sl198 :: sl199 :: sl200 :: sl201 :: sl202 :: sl203 :: sl204 :: sl205 :: sl206 :: sl207 :: sl208 :: sl209 :: sl210 :: sl211 :: sl212 :: sl213 :: sl214 :: sl215 :: sl216 :: sl217 :: sl218 :: sl219 :: sl220 :: sl221 :: sl222 :: sl223 :: sl224 :: sl225 :: sl226 :: sl227 :: sl228 :: sl229 :: sl230 :: sl231 :: sl232 :: sl233 :: sl234 :: sl235 :: sl236 :: sl237 :: sl238 :: sl239 :: sl240 :: sl241 :: sl242 :: sl243 :: sl244 :: sl245 :: sl246 :: sl247 :: sl248 :: sl249 :: sl250 :: sl251 :: sl252 :: sl253 :: sl254 :: sl255 :: sl256 :: sl257 :: sl258 :: sl259 :: sl260 :: sl261 :: sl262 :: sl263 :: sl264 :: sl265 :: sl266 :: sl267 :: sl268 :: sl269 :: sl270 :: sl271 :: []), []⟩ W := by
  have HR := Lib.hid hr
  have HBW := Lib.hid hbw
  have HF := Lib.hid hF
  have HX := Lib.hid hX
  have H1 := Lib.hid h1
  have HV := Lib.hid hV
  have HFL := Lib.hid hfl
  have HSZ := Lib.hid hsz
  have hp1 := h1.le
  have hp2 := h1.mx
  obtain ⟨xc0, xc1, xc2⟩ := hX.cells
  unfold encStr at xc0
  obtain ⟨np, hnp⟩ : ∃ m, m = x.ps.length := ⟨_, rfl⟩
  rw [← hnp] at xc2
  have HNP := Lib.hid hnp
  clear hr hbw hF hX h1 hV hfl hsz hnp
  conv => arg 2; whnf
  by_cases h0 : np = 0
  · have e0 : ((np : Int) == 0) = true := by simp; omega
    have hs1 := one_end HF.out (by rw [← HNP.out]; exact h0)
    have hd := fun (y : BelowW W) => Deep_any B a n c X x.code y.v (HR.out.below (y.h.mono hB)) (Nat.le_trans hB y.h.size) HF.out.cl
    have hdx : deepX X x.code = 1 := by
      unfold deepX
      rw [if_pos ⟨HF.out.ok, HF.out.mem⟩, tell_leaf HF.out.snd HF.out.mem (by rw [HF.out.ps, ← HNP.out]; exact h0)]
      rfl
    have hwl : (withinL X x.code).length = 1 := within_leaf HF.out.snd HF.out.mem (by rw [HF.out.ps, ← HNP.out]; exact h0)
    rw [hdx] at hd
    have HD := Lib.hid hd
    have hln : S1.length = 1 := by rw [hs1]; rfl
    obtain ⟨b1, o1, ha1, hb1, q0, q1⟩ := H1.out.part (i := 0) (by rw [hln]; decide)
    subst ha1
    rw [hs1] at q0 q1
    have f0 : ∀ y : BelowW W, y.v.cell? ⟨gx, 0, none⟩ = some (.string ⟨x.code.toArray⟩) := fun y => (y.h.cell (by show gx < _; exact HX.out.lt)).trans xc0
    have f1 : ∀ y : BelowW W, y.v.cell? ⟨b1, o1, none⟩ = some (.string ⟨x.code.toArray⟩) := fun y => (y.h.cell (by show b1 < _; exact hb1)).trans (by simpa [encStr] using q0)
    have f2 : ∀ y : BelowW W, y.v.cell? ⟨b1, o1 + 1, none⟩ = some (.int .i64 1) := fun y => (y.h.cell (by show b1 < _; exact hb1)).trans (by simpa using q1)
    have heq : ∀ w : World, (Op.equalIn 10000 39 (.agg #[.string ⟨x.code.toArray⟩, .int .i64 1]) (.agg #[.string ⟨x.code.toArray⟩, .int .i64 1])).run Try.prog w = .ok true w := fun w => eqPart_self x.code 1 w
    rw [hln, hwl]
    rw [hln] at hp1
    clear h0 hs1 hd hdx q0 q1 hb1 hwl hln
    go_upto_region 36 with (fail)
    refine wp_region_below W (by kernel_rfl) (by kernel_rfl) (Below.refl _ _) ?_
    repeat (go_big_quiet_step ((go_at_call 18; exact below_call (HD.out _))))
    refine wpQuiet_nil ?_
    intro _ hw'
    obtain ⟨y, hw''⟩ := hw'
    subst hw''
    clear f0 f1 f2
    go_wp2_with (fail)
    go_ret
    exact ⟨rfl, HBW.out.trans (y.h.mono HBW.out.size)⟩
  · have e0 : ((np : Int) == 0) = false := by simp; omega
    have HJ0 := sp_join HF.out (by rw [← HNP.out]; exact h0)
    have hj := Join_any (H := Unit) W.heap.size va V.length vc V W HV.out (Nat.le_refl _) HSZ.out
    rw [HFL.out, HJ0] at hj
    have HJ := Lib.hid hj
    clear h0 HJ0 hj
    go_wp2_with (fail)
    go_at_call 19
    refine HJ.out.mono ?_
    rintro e w2 ⟨hb2, hpost⟩
    obtain ⟨a2, c2, rfl, hop⟩ := hpost
    have hf : Fine S1 := H1.out.fine
    have HSP := Lib.hid (SameParts_any w2.heap.size a2 a1 S1.length S1.length c2 c1 S1 S1 w2 (hop.rp2 hf) ((H1.out.below hb2).mono hb2.size))
    rw [decide_eq_true (rfl : S1 = S1)] at HSP
    have HB2 := Lib.hid (HBW.out.trans (hb2.mono HBW.out.size))
    clear hb2 hop hf HJ
    go_wp2_with (fail)
    go_at_call 20
    refine HSP.out.mono ?_
    rintro e w3 ⟨rfl, q, rfl⟩
    have HB3 := Lib.hid (below_dn HB2.out q)
    go_wp2_with (fail)
    go_ret
    exact ⟨rfl, HB3.out⟩
end Go.Proofs.Ythlmnoggeggpkaa
