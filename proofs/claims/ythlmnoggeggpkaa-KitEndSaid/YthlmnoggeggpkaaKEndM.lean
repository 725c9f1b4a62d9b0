/- KitEnd's walk: its second loop. -/
import Derived.Test.YthlmnoggeggpkaaKEndT
import Derived.Deep.RegionHeld3
namespace Go.Proofs.Ythlmnoggeggpkaa
open Go.RowKit

theorem parts_ok {X : List It} {c : List UInt8} {q : Int} {S : List Pt} (h0 : chkE X = 0) (hc : c ∈ codes X) (h1 : 1 ≤ q) (h2 : q ≤ mostA) (hS : endL X c q = some S) : partsE X c q = 0 := by
  unfold partsE
  have h3 : okA q = true := by unfold mostA at h2; exact okA_iff.2 (by omega)
  rw [if_neg (by simp [h0]), if_neg (by simp [h1, h3]), if_neg (by simp [hc]), hS]
/-- What is in a part, by the program. -/
theorem Parts_part (B : Nat) (a : Option Addr) (n cp : Nat) (X : List It) (c : List UInt8) (q : Int) (S : List Pt) (w : World) (hr : RI B w a n cp X) (hB : B ≤ w.heap.size) (hcl : c.length ≤ 9223372036854775807) (h0 : chkE X = 0) (hc : c ∈ codes X) (h1 : 1 ≤ q) (h2 : q ≤ mostA) (hS : endL X c q = some S) :
    Calls Try.prog 13 #[.slice a n cp, .string ⟨c.toArray⟩, .int .i64 q] w fun e w' => Below w.heap.size w w' ∧ ∃ a' c', e = .returned (.tuple #[.slice a' S.length c', .int .i64 0]) ∧ OP w.heap.size w' (.slice a' S.length c') S ∧ PS X S := by
  have h3 : q ≤ 1125899906842624 := h2
  refine (Parts_any B a n cp X c q w hr hB hcl (by omega) (by omega)).mono ?_
  rintro e w' ⟨hb, v, rfl, -, hv⟩
  have he := parts_ok h0 hc h1 h2 hS
  obtain ⟨a', c', S', rfl, hS', hP, hop⟩ := hv he
  rw [hS] at hS'
  obtain rfl := Option.some.inj hS'
  exact ⟨hb, a', c', by rw [he], hop, hP⟩
/-- What stands in the loop over the parts. -/
def LV (X : List It) (ps : List Pt) (W0 : World) (V : List PV) (v : Value) (j : Nat) (wr : World) : Prop :=
  V.length = j ∧ OV W0.heap.size wr v V ∧ (∀ i, i < j → (V.getD i default).P = partT X (ps.getD i default) ∧ (V.getD i default).n = (V.getD i default).P.length ∧ PS X (V.getD i default).P ∧ OP W0.heap.size wr (encV (V.getD i default)) (V.getD i default).P) ∧ Below W0.heap.size W0 wr
theorem LV.step {X : List It} {ps : List Pt} {W0 : World} {V : List PV} {v v' : Value} {j : Nat} {wr wm w4 : World} (h : LV X ps W0 V v j wr) (hm : Below wr.heap.size wr wm) {a : Option Addr} {c : Nat} (hp : OP wr.heap.size wm (.slice a (partT X (ps.getD j default)).length c) (partT X (ps.getD j default))) (hP : PS X (partT X (ps.getD j default))) {o : Array Value} {t : TypeId}
    (ho : OV W0.heap.size w4 v' (V ++ [⟨a, (partT X (ps.getD j default)).length, c, partT X (ps.getD j default)⟩])) (hg : (wm.alloc (.cells o t)).grownBy w4 v.ownBlock) : LV X ps W0 (V ++ [⟨a, (partT X (ps.getD j default)).length, c, partT X (ps.getD j default)⟩]) v' (j + 1) w4 := by
  obtain ⟨h1, h2, h3, h4⟩ := h
  have hsz := hm.size
  have hb2 : Below wm.heap.size wm (wm.alloc (.cells o t)) := (Below.refl _ wm).alloc (Nat.le_refl _) _
  have ho2 := (h2.below hm).below hb2
  refine ⟨by rw [List.length_append, h1]; rfl, ho, fun i hi => ?_, (h4.trans ((hm.mono h4.size).trans (hb2.mono (Nat.le_trans h4.size hsz)))).grown hg (Nat.le_trans h4.size (Nat.le_trans hsz hb2.size)) (fun k e => (rows_ge ho2 k e).1)⟩
  rcases Nat.lt_or_ge i j with hij | hij
  · have e : (V ++ [(⟨a, (partT X (ps.getD j default)).length, c, partT X (ps.getD j default)⟩ : PV)]).getD i default = V.getD i default := by
      rw [List.getD_eq_getElem?_getD, List.getElem?_append_left (by omega), List.getD_eq_getElem?_getD]
    rw [e]
    obtain ⟨g1, g2, g3, g4⟩ := h3 i hij
    exact ⟨g1, g2, g3, rows_grown (by decide) ((g4.below hm).below hb2) ho2 hg⟩
  · obtain rfl : i = j := by omega
    have e : (V ++ [(⟨a, (partT X (ps.getD i default)).length, c, partT X (ps.getD i default)⟩ : PV)]).getD i default = ⟨a, (partT X (ps.getD i default)).length, c, partT X (ps.getD i default)⟩ := by
      rw [List.getD_eq_getElem?_getD, List.getElem?_append_right (by omega), h1]
      simp
    rw [e]
    exact ⟨rfl, rfl, hP, rows_grown (by decide) ((hp.mono h4.size).below hb2) ho2 hg⟩
theorem LV.below {X : List It} {ps : List Pt} {W0 : World} {V : List PV} {v : Value} {j : Nat} {wr wm : World} (h : LV X ps W0 V v j wr) (hm : Below wr.heap.size wr wm) : LV X ps W0 V v j wm := by
  obtain ⟨h1, h2, h3, h4⟩ := h
  exact ⟨h1, h2.below hm, fun i hi => ⟨(h3 i hi).1, (h3 i hi).2.1, (h3 i hi).2.2.1, (h3 i hi).2.2.2.below hm⟩, h4.trans (hm.mono h4.size)⟩
theorem fine_ps {X : List It} {S : List Pt} (hok : ∀ x ∈ X, x.code.length ≤ 9223372036854775807) (h : PS X S) : Fine S := fun p hp => by
  refine ⟨?_, ?_⟩
  · obtain ⟨y, hy, hye⟩ := List.mem_map.1 (h.sub p hp)
    rw [← hye]; exact hok y hy
  · have := okA_iff.1 (h.up.2 p hp)
    omega
theorem flat_len {X : List It} : ∀ {V : List PV}, (∀ p ∈ V, PS X p.P) → (flatV V).length ≤ V.length * X.length
  | [], _ => Nat.le_of_eq (by simp [flatV])
  | p :: V, h => by
    have h1 := flat_len fun r hr => h r (List.mem_cons_of_mem p hr)
    have h2 := (h p (List.mem_cons_self ..)).len
    unfold flatV at h1 ⊢
    rw [List.flatMap_cons, List.length_append, List.length_cons, Nat.add_mul]
    omega
/-- What stands behind the loop. -/
theorem LV.done {X : List It} {ps : List Pt} {W0 wr : World} {V : List PV} {v : Value} (h : LV X ps W0 V v ps.length wr) (hok : ∀ x ∈ X, x.code.length ≤ 9223372036854775807) (h8 : ps.length ≤ 8) (h60 : X.length ≤ 60) : ∃ va vc, v = .slice va V.length vc ∧ RV wr.heap.size wr va V.length vc V ∧ flatV V = ps.flatMap (partT X) ∧ (flatV V).length ≤ 1048576 := by
  obtain ⟨h1, h2, h3, h4⟩ := h
  obtain ⟨va, vc, e, hrv⟩ := h2.rv fun i hi => by
    obtain ⟨g1, g2, g3, g4⟩ := h3 i (by omega)
    have g5 : OP W0.heap.size wr (.slice (V.getD i default).a (V.getD i default).n (V.getD i default).c) (V.getD i default).P := g4
    exact g5.rp2 (fine_ps hok g3)
  refine ⟨va, vc, e, hrv, ?_, ?_⟩
  · have he : V.map (·.P) = ps.map (partT X) := by
      apply List.ext_getElem (by rw [List.length_map, List.length_map, h1])
      intro i hi1 hi2
      rw [List.length_map] at hi1 hi2
      have := (h3 i hi2).1
      rw [List.getD_eq_getElem?_getD, List.getElem?_eq_getElem hi1, List.getD_eq_getElem?_getD, List.getElem?_eq_getElem hi2] at this
      rw [List.getElem_map, List.getElem_map]
      exact this
    unfold flatV
    rw [List.flatMap_def, List.flatMap_def, he]
  · have := flat_len (X := X) (V := V) fun p hp => by
      obtain ⟨i, hi, rfl⟩ := List.getElem_of_mem hp
      have := (h3 i (by omega)).2.2.1
      rw [List.getD_eq_getElem?_getD, List.getElem?_eq_getElem hi] at this
      exact this
    have h9 : V.length * X.length ≤ 8 * 60 := Nat.mul_le_mul (by omega) h60
    omega

/-- Own texts read. -/
theorem OT.all {base : Nat} {w : World} {v : Value} {L : List (List UInt8)} (h : w.ownsRow base 9 1 v L.length (L.map encStr)) (hf : ∀ t ∈ L, t.length ≤ 9223372036854775807) : ∃ a c, v = .slice a L.length c ∧ RT w.heap.size w a L.length c L := by
  obtain ⟨a, c, rfl, hle, hmx, ha⟩ := rows_form h
  obtain ⟨h1, ⟨h2, h3⟩ | ⟨g, cap, cur, hv, -⟩⟩ := id h
  · injection h2 with e1 e2 e3
    refine ⟨a, c, rfl, ⟨rfl, hle, hmx, hf, fun hc => by omega⟩⟩
  · injection hv with e1 e2 e3
    subst e1
    have := (OT.rt (show OT base w (.slice (some ⟨g, 0, none⟩) L.length c) L from h) hf L.length (Nat.le_refl _)).1
    rw [List.take_of_length_le (Nat.le_refl _)] at this
    exact ⟨_, c, rfl, this⟩
theorem rt_at {B : Nat} {w : World} {a : Option Addr} {n c : Nat} {T : List (List UInt8)} (h : RT B w a n c T) {i : Nat} (hi : i < n) : ∃ b o, a = some ⟨b, o, none⟩ ∧ w.cell? ⟨b, o + i, none⟩ = some (.string ⟨(T.getD i []).toArray⟩) ∧ T.getD i [] ∈ T := by
  obtain ⟨b, o, e, -, hc⟩ := h.at_ (by have := h.le; omega)
  refine ⟨b, o, e, hc i hi, ?_⟩
  have hl := h.len
  rw [List.getD_eq_getElem?_getD, List.getElem?_eq_getElem (by omega)]
  exact List.getElem_mem _
theorem code_le {X : List It} (h : ∀ x ∈ X, x.code.length ≤ 9223372036854775807) {c : List UInt8} (hc : c ∈ codes X) : c.length ≤ 9223372036854775807 := by
  obtain ⟨x, hx, rfl⟩ := List.mem_map.1 hc
  exact h x hx
/-- What the law knows of a part of its item. -/
structure PF (X : List It) (x : It) (nm : List UInt8) (qt : Int) : Prop where
  kid : nm ∈ kidsX X x.code
  mem : nm ∈ codes X
  lo : 1 ≤ qt
  hi : qt ≤ 1073741824
  hend : endL X nm qt = some (partT X (nm, qt))
theorem EF.part {X : List It} {x : It} {S1 : List Pt} (h : EF X x S1) {nm : List UInt8} {qt : Int} (hp : (nm, qt) ∈ x.ps) : PF X x nm qt := by
  rw [← h.ps] at hp
  obtain ⟨h1, h2, h3⟩ := h.snd.parts h.mem _ hp
  exact ⟨by rw [kids_parts]; exact List.mem_map.2 ⟨_, hp, rfl⟩, h1, h2, h3, end_part h.snd h.mem h.hS hp⟩

set_option maxHeartbeats 16000000 in
set_option maxRecDepth 1000000 in
theorem end_mid (B : Nat) (a : Option Addr) (n c : Nat) (X : List It) (x : It) (S1 : List Pt) (gx c1 wc : Nat) (a1 wa : Option Addr) (w W : World) (hr : RI B W a n c X) (hB : B ≤ W.heap.size) (hbw : Below w.heap.size w W) (hF : EF X x S1) (hX : XC W gx x) (hxo : RP B W x.pa x.ps.length x.pc x.ps)
    (h1 : RP W.heap.size W a1 S1.length c1 S1) (hT : RT W.heap.size W wa (withinL X x.code).length wc (withinL X x.code)) (sl1 sl2 sl3 sl4 sl5 sl6 sl9 sl10 sl11 sl13 sl14 sl15 sl16 sl18 sl19 sl20 sl21 sl22 sl23 sl24 sl25 sl26 sl27 sl28 sl29 sl30 sl31 sl32 sl33 sl34 sl35 sl36 sl37 sl38 sl39 sl40 sl41 sl42 sl43 sl44 sl45 sl46 sl47 sl48 sl49 sl50 sl51 sl52 sl53 sl54 sl55 sl56 sl57 sl58 sl59 sl60 sl61 sl62 sl63 sl64 sl65 sl66 sl67 sl68 sl69 sl70 sl71 sl72 sl73 sl74 sl75 sl76 sl77 sl78 sl79 sl80 sl81 sl82 sl83 sl84 sl85 sl86 sl87 sl88 sl89 sl90 sl91 sl92 sl93 sl94 sl95 sl96 sl97 sl98 sl99 sl100 sl101 sl102 sl103 sl104 sl105 sl106 sl107 sl108 sl109 sl110 sl111 sl112 sl113 sl114 sl115 sl116 sl117 sl118 sl119 sl120 sl121 sl122 sl123 sl124 sl125 sl126 sl127 sl128 sl129 sl130 sl131 sl132 sl133 sl134 sl135 sl136 sl137 sl138 sl139 sl140 sl141 sl142 sl143 sl144 sl145 sl146 sl147 sl148 sl149 sl150 sl151 sl152 sl153 sl154 sl155 sl156 sl157 sl158 sl159 sl160 sl161 sl162 sl163 sl164 sl165 sl166 sl167 sl168 sl169 sl170 sl171 sl172 sl173 sl174 sl175 sl176 sl177 sl178 sl179 sl180 sl181 sl182 sl183 sl184 sl185 sl186 sl187 sl188 sl189 sl190 sl191 sl192 sl193 sl194 sl195 sl196 sl197 sl198 sl199 sl200 sl201 sl202 sl203 sl204 sl205 sl206 sl207 sl208 sl209 sl210 sl211 sl212 sl213 sl214 sl215 sl216 sl217 sl218 sl219 sl220 sl221 sl222 sl223 sl224 sl225 sl226 sl227 sl228 sl229 sl230 sl231 sl232 sl233 sl234 sl235 sl236 sl237 sl238 sl239 sl240 sl241 sl242 sl243 sl244 sl245 sl246 sl247 sl248 sl249 sl250 sl251 sl252 sl253 sl254 sl255 sl256 sl257 sl258 sl259 sl260 sl261 sl262 sl263 sl264 sl265 sl266 sl267 sl268 sl269 sl270 sl271 : Value) :
    Code.wp Try.prog (dropC 12 (Try.f4.body.getD .skip)) (bodyPost Try.prog Try.f4 fun e w' => e = .returned (.bool true) ∧ Below w.heap.size w w') ⟨List.toArray (.slice a n c :: sl1 :: sl2 :: sl3 :: sl4 :: sl5 :: sl6 :: .pointer (some ⟨gx, 0, none⟩) :: .slice a1 S1.length c1 :: sl9 :: sl10 :: sl11 :: .slice wa (withinL X x.code).length wc :: sl13 :: sl14 :: sl15 :: sl16 :: .slice none 0 0 :: sl18 :: sl19 :: sl20 :: sl21 :: sl22 :: sl23 :: sl24 :: sl25 :: sl26 :: sl27 :: sl28 :: sl29 :: sl30 :: sl31 :: sl32 :: sl33 :: sl34 :: sl35 :: sl36 :: sl37 :: sl38 :: sl39 :: sl40 :: sl41 :: sl42 :: sl43 :: sl44 :: sl45 :: sl46 :: sl47 :: sl48 :: sl49 :: sl50 :: sl51 :: sl52 :: sl53 :: sl54 :: sl55 :: sl56 :: sl57 :: sl58 :: sl59 :: sl60 :: sl61 :: sl62 :: sl63 :: sl64 :: sl65 :: sl66 :: sl67 :: sl68 :: sl69 :: sl70 :: sl71 :: sl72 :: sl73 :: sl74 :: sl75 :: sl76 :: sl77 :: sl78 :: sl79 :: sl80 :: sl81 :: sl82 :: sl83 :: sl84 :: sl85 :: sl86 :: sl87 :: sl88 :: sl89 :: sl90 :: sl91 :: sl92 :: sl93 :: sl94 :: sl95 :: sl96 :: sl97 :: sl98 :: sl99 :: sl100 :: sl101 :: sl102 :: sl103 :: sl104 :: sl105 :: sl106 :: sl107 :: sl108 :: sl109 :: sl110 :: sl111 :: sl112 :: sl113 :: sl114 :: sl115 :: sl116 :: sl117 :: sl118 :: sl119 :: sl120 :: sl121 :: sl122 :: sl123 :: sl124 :: sl125 :: sl126 :: sl127 :: sl128 :: sl129 :: sl130 :: sl131 :: sl132 :: sl133 :: sl134 :: sl135 :: sl136 :: sl137 :: sl138 :: sl139 :: sl140 :: sl141 :: sl142 :: sl143 :: sl144 :: sl145 :: sl146 :: sl147 :: sl148 :: sl149 :: sl150 :: sl151 :: sl152 :: sl153 :: sl154 :: sl155 :: sl156 :: sl157 :: sl158 :: sl159 :: sl160 :: sl161 :: sl162 :: sl163 :: sl164 :: sl165 :: sl166 :: sl167 :: sl168 :: sl169 :: sl170 :: sl171 :: sl172 :: sl173 :: sl174 :: sl175 :: sl176 :: sl177 :: sl178 :: sl179 :: sl180 :: sl181 :: sl182 :: sl183 :: sl184 :: sl185 :: sl186 :: sl187 :: sl188 :: sl189 :: sl190 :: sl191 :: sl192 :: sl193 :: sl194 :: sl195 :: sl196 :: sl197 :: sl198 :: sl199 :: sl200 :: sl201 :: sl202 :: sl203 :: sl204 :: sl205 :: sl206 :: sl207 :: sl208 :: sl209 :: sl210 :: sl211 :: sl212 :: sl213 :: sl214 :: sl215 :: sl216 :: sl217 :: sl218 :: sl219 :: sl220 :: sl221 :: sl222 :: sl223 :: sl224 :: sl225 :: sl226 :: sl227 :: sl228 :: sl229 :: sl230 :: sl231 :: sl232 :: sl233 :: sl234 :: sl235 :: sl236 :: sl237 :: sl238 :: sl239 :: sl240 :: sl241 :: sl242 :: sl243 :: sl244 :: sl245 :: sl246 :: sl247 :: sl248 :: sl249 :: sl250 :: sl251 :: sl252 :: sl253 :: sl254 :: sl255 :: sl256 :: sl257 :: sl258 :: sl259 :: sl260 :: sl261 :: sl262 :: sl263 :: sl264 :: sl265 :: sl266 :: sl267 :: sl268 :: sl269 :: sl270 :: sl271 :: []), []⟩ W := by
  have HR := Lib.hid hr
  have HBW := Lib.hid hbw
  have HF := Lib.hid hF
  have HX := Lib.hid hX
  have H1 := Lib.hid h1
  have HT := Lib.hid hT
  have HXO := Lib.hid hxo
  have hmx := hxo.mx
  have hle := hxo.le
  obtain ⟨np, hnp⟩ : ∃ m, m = x.ps.length := ⟨_, rfl⟩
  have HNP := Lib.hid hnp
  have hn8 : np ≤ 8 := by
    have h := hF.snd.k8 x.code hF.mem
    rw [kids_parts, hF.ps, List.length_map] at h
    omega
  rw [← hnp] at hle
  clear hr hbw hF hX h1 hT hxo hnp
  conv => arg 2; whnf
  go_wp2_with (fail)
  go_loopw [17, 18] (fun v i wr => ∃ (j : Nat) (V : List PV) (va : Option Addr) (vc : Nat), j ≤ np ∧ i = .int .i64 j ∧ v = .slice va j vc ∧ Hid (LV X x.ps W V (.slice va j vc) j wr)) (fun _ i _ => np - (intOf i).toNat)
  case atStart => exact ⟨0, [], none, 0, by omega, rfl, rfl, Lib.hid ⟨rfl, OV.nil _ _, fun i hi => absurd hi (Nat.not_lt_zero _), Below.refl _ _⟩⟩
  case round =>
    obtain ⟨j, V, va, vc, hj, rfl, rfl, HI⟩ := hrel
    have xc := (HX.out.below HI.out.2.2.2 HX.out.lt).cells.2.2
    rw [← HNP.out] at xc
    by_cases hlt : j < np
    · have t1 : decide ((j : Int) < (np : Int)) = true := by simp; omega
      have j0 : (0 : Int) ≤ (j : Int) := by omega
      have j1 : (j : Int) < (np : Int) := by omega
      have f1 : IntKind.i64.wrap ((j : Int) + 1) = ((j + 1 : Nat) : Int) := by rw [wrap_in (by omega) (by omega)]; omega
      have HB : Hid (Below W.heap.size W wr) := Lib.hid HI.out.2.2.2
      obtain ⟨pb, po, hpa, hpB, p0, p1⟩ := (HXO.out.below (HB.out.mono hB)).part (i := j) (by rw [← HNP.out]; exact hlt)
      obtain ⟨pj, hpj⟩ : ∃ p, p = x.ps.getD j default := ⟨_, rfl⟩
      rw [← hpj] at p0 p1
      obtain ⟨nm, qt⟩ := pj
      simp only at p0 p1
      unfold encStr at p0
      have HPJ := Lib.hid hpj
      have HPF := Lib.hid (HF.out.part (nm := nm) (qt := qt) (by rw [hpj, List.getD_eq_getElem?_getD, List.getElem?_eq_getElem (by rw [← HNP.out]; exact hlt)]; exact List.getElem_mem _))
      rw [hpa] at xc
      have HXA := Lib.hid hpa
      have HPB : Hid (pb < W.heap.size) := Lib.hid (Nat.lt_of_lt_of_le hpB hB)
      have hnl := code_le (fun y hy => (HR.out.ok y hy).code) HPF.out.mem
      have HNL := Lib.hid hnl
      have hBr := Nat.le_trans hB HB.out.size
      have HP := Lib.hid (Parts_part B a n c X nm qt (partT X (nm, qt)) wr.drew (HR.out.below (HB.out.drew.mono hB)) hBr hnl HF.out.ok HPF.out.mem HPF.out.lo (by have := HPF.out.hi; unfold mostA; omega) HPF.out.hend)
      have C1 : Hid (∀ W', Below wr.drew.heap.size wr.drew W' → W'.cell? ⟨gx, 2, none⟩ = some (.slice (some ⟨pb, po, none⟩) np x.pc) ∧ W'.cell? ⟨pb, po + j * 2, none⟩ = some (.string ⟨nm.toArray⟩) ∧ W'.cell? ⟨pb, po + j * 2 + 1, none⟩ = some (.int .i64 qt)) := Lib.hid (fun W' h => ⟨(h.cell (by show gx < _; exact Nat.lt_of_lt_of_le HX.out.lt HB.out.size)).trans xc, (h.cell (by show pb < _; exact Nat.lt_of_lt_of_le HPB.out HB.out.size)).trans p0, (h.cell (by show pb < _; exact Nat.lt_of_lt_of_le HPB.out HB.out.size)).trans p1⟩)
      clear hpj hpa hpB hnl hlt
      go_upto_region 25 with (fail)
      go_region_held3 (fun w' => w'.cell? ⟨gx, 2, none⟩ = some (.slice (some ⟨pb, po, none⟩) np x.pc) ∧ w'.cell? ⟨pb, po + j * 2, none⟩ = some (.string ⟨nm.toArray⟩) ∧ w'.cell? ⟨pb, po + j * 2 + 1, none⟩ = some (.int .i64 qt)) (first | go_keep | exact ⟨by assumption, by assumption, by assumption⟩) (first | (go_at_call 13; with_reducible refine HP.out.mono ?_; rintro e wA ⟨hbA, aT, cT, rfl, hopA, hPA⟩; obtain ⟨cA0, cA1, cA2⟩ := C1.out wA hbA; have HBA := Lib.hid hbA; have HOA := Lib.hid hopA; have HPA := Lib.hid hPA; clear hbA hopA hPA))
      clear cA1 cA2 cA0 p0 p1 xc C1 HP
      have HBA2 : Hid (Below W.heap.size W wA) := Lib.hid (HB.out.drew.trans (HBA.out.mono HB.out.drew.size))
      obtain ⟨d1, hd1⟩ : ∃ d, d = deepX X x.code := ⟨_, rfl⟩
      obtain ⟨d2, hd2⟩ : ∃ d, d = deepX X nm := ⟨_, rfl⟩
      have hDc := fun (y : BelowW wA) => Deep_any B a n c X x.code y.v ((HR.out.below (HBA2.out.mono hB)).below (y.h.mono (Nat.le_trans hB HBA2.out.size))) (Nat.le_trans (Nat.le_trans hB HBA2.out.size) y.h.size) HF.out.cl
      have hDp := fun (y : BelowW wA) => Deep_any B a n c X nm y.v ((HR.out.below (HBA2.out.mono hB)).below (y.h.mono (Nat.le_trans hB HBA2.out.size))) (Nat.le_trans (Nat.le_trans hB HBA2.out.size) y.h.size) HNL.out
      rw [← hd1] at hDc
      rw [← hd2] at hDp
      have hdl : decide (d1 ≤ d2) = false := by
        have h1 := tell_kid HF.out.snd HF.out.mem HPF.out.kid
        unfold deepX at hd1 hd2
        rw [if_pos ⟨HF.out.ok, HF.out.mem⟩] at hd1
        rw [if_pos ⟨HF.out.ok, HPF.out.mem⟩] at hd2
        rw [hd1, hd2]
        simp
        omega
      have HDC := Lib.hid hDc
      have HDP := Lib.hid hDp
      have HXA2 := HX.out.below HBA2.out HX.out.lt
      obtain ⟨xa0, -, xa2⟩ := HXA2.cells
      rw [← HNP.out, HXA.out] at xa2
      unfold encStr at xa0
      obtain ⟨pb', po', hpa', hpB', p0, -⟩ := (HXO.out.below (HBA2.out.mono hB)).part (i := j) (by rw [← HNP.out]; omega)
      rw [HXA.out] at hpa'
      injection hpa' with hpa'
      injection hpa' with e1 e2 e3
      subst e1
      subst e2
      rw [← HPJ.out] at p0
      simp only at p0
      unfold encStr at p0
      have f0 : ∀ y : BelowW wA, y.v.cell? ⟨gx, 0, none⟩ = some (.string ⟨x.code.toArray⟩) := fun y => (y.h.cell (by show gx < _; exact HXA2.lt)).trans xa0
      have f2 : ∀ y : BelowW wA, y.v.cell? ⟨gx, 2, none⟩ = some (.slice (some ⟨pb, po, none⟩) np x.pc) := fun y => (y.h.cell (by show gx < _; exact HXA2.lt)).trans xa2
      have f3 : ∀ y : BelowW wA, y.v.cell? ⟨pb, po + j * 2, none⟩ = some (.string ⟨nm.toArray⟩) := fun y => (y.h.cell (by show pb < _; exact Nat.lt_of_lt_of_le hpB' (Nat.le_trans hB HBA2.out.size))).trans p0
      clear hd1 hd2 hDc hDp HXA2 xa0 xa2 p0 hpB' e3
      go_upto_region 26 with (fail)
      refine wp_region_below wA (by kernel_rfl) (by kernel_rfl) (Below.refl _ _) ?_
      repeat (go_big_quiet_step (first | (go_at_call 18; with_reducible exact below_call (HDC.out _)) | (go_at_call 18; with_reducible exact below_call (HDP.out _))))
      refine wpQuiet_nil ?_
      intro _ hw'
      obtain ⟨y, hw''⟩ := hw'
      subst hw''
      clear f0 f2 f3
      have hbB := y.h
      generalize y.v = wB at hbB ⊢
      have HBB := Lib.hid (((Below.refl wr.heap.size wr).drew.trans HBA.out).trans (hbB.mono HBA.out.size))
      have HOB := Lib.hid (HOA.out.below hbB)
      have HBS := Lib.hid (Nat.le_trans HB.out.size HBB.out.size)
      have O3 := Lib.hid ((HI.out.2.1.below HBB.out).below ((Below.refl _ wB).alloc (Nat.le_refl _) (.cells #[.slice aT (partT X (nm, qt)).length cT] 29)))
      have HYL : Hid (V.length = j) := Lib.hid HI.out.1
      have HSRC : Hid ((wB.alloc (.cells #[.slice aT (partT X (nm, qt)).length cT] 29)).cell? ⟨wB.heap.size, 0, none⟩ = some (encV ⟨aT, (partT X (nm, qt)).length, cT, partT X (nm, qt)⟩)) := Lib.hid (by unfold World.cell?; rw [heap_alloc_new]; rfl)
      have HST := Lib.hid (fun v' w4 => HI.out.step (v' := v') (w4 := w4) (a := aT) (c := cT) (o := #[.slice aT (partT X (nm, qt)).length cT]) (t := 29) HBB.out (by rw [← HPJ.out]; exact HOB.out) (by rw [← HPJ.out]; exact HPA.out))
      rw [← HPJ.out] at HST
      clear hbB HDC HDP hdl HOA HBA HBA2
      go_wp2_with (first | (at_builtin; refine wpList_append_v rfl _ _ rfl W.heap.size (.slice va j vc) V ⟨aT, (partT X (nm, qt)).length, cT, partT X (nm, qt)⟩ rfl O3.out ⟨wB.heap.size, 0, none⟩ 1 rfl HSRC.out (by rw [World.size_alloc]; have := HBS.out; omega) (by rw [HYL.out]; omega) ?_; intro g4 c4 w4 hown4 hg4 _; have HI4 := Lib.hid (HST.out _ w4 hown4 hg4); rw [HYL.out] at HI4; clear hown4 hg4; have HB4 : Hid (Below W.heap.size W w4) := Lib.hid HI4.out.2.2.2; have xc4 := (HX.out.below HB4.out HX.out.lt).cells.2.2; rw [← HNP.out, HXA.out] at xc4; obtain ⟨pb', po', hpa', -, p4, -⟩ := (HXO.out.below (HB4.out.mono hB)).part (i := j) (by rw [← HNP.out]; omega); rw [HXA.out] at hpa'; injection hpa' with hpa'; injection hpa' with e1 e2 e3; subst e1; subst e2; rw [← HPJ.out] at p4; simp only at p4; unfold encStr at p4; clear e3))
      rw [HYL.out]
      have HW := Lib.hid (Within_any B a n c X nm w4 (HR.out.below (HB4.out.mono hB)) (Nat.le_trans hB HB4.out.size) HNL.out)
      go_at_call 14
      refine HW.out.mono ?_
      rintro e w5 ⟨hb5, v, rfl, -, hv⟩
      obtain ⟨ga, gc, rfl, hrt⟩ := OT.all (hv HF.out.ok HPF.out.mem) (fun t ht => code_le (fun y hy => (HR.out.ok y hy).code) (mem_within.1 ht).1)
      have HRT := Lib.hid hrt
      have HI5 := Lib.hid (HI4.out.below hb5)
      have HB5 := Lib.hid (HB4.out.trans (hb5.mono HB4.out.size))
      have hgl := hrt.le
      have hgm := hrt.mx
      obtain ⟨nl, hnl⟩ : ∃ m, m = (withinL X nm).length := ⟨_, rfl⟩
      rw [← hnl] at hgl HRT ⊢
      have HNW := Lib.hid hnl
      have HAM := Lib.hid (fun s (hs : s ∈ withinL X nm) => among_any W.heap.size wa (withinL X x.code).length wc (withinL X x.code) s w5 (HT.out.below HB5.out) (within_kid HPF.out.kid hs))
      clear hv hrt hb5 xc4 p4 HW HI4 HB4 HST O3 HSRC hnl
      go_wp2_with (fail)
      go_loopw [22] (fun i wq => ∃ m : Nat, i = .int .i64 m ∧ m ≤ nl ∧ wq = w5) (fun i _ => nl - (intOf i).toNat)
      case atStart => exact ⟨0, rfl, by omega, rfl⟩
      case round =>
        obtain ⟨m, rfl, hm, rfl⟩ := hrel
        by_cases hml : m < nl
        · have t2 : decide ((m : Int) < (nl : Int)) = true := by simp; omega
          have m0 : (0 : Int) ≤ (m : Int) := by omega
          have m1 : (m : Int) < (nl : Int) := by omega
          have f2 : IntKind.i64.wrap ((m : Int) + 1) = ((m + 1 : Nat) : Int) := by rw [wrap_in (by omega) (by omega)]; omega
          obtain ⟨gb, go, rfl, gc0, gmem⟩ := rt_at HRT.out hml
          have ham := HAM.out _ gmem
          generalize (withinL X nm).getD m [] = s at gc0 ham
          clear gmem hml
          go_wp2_with (fail)
          go_at_call 17
          refine ham.mono ?_
          rintro e w6 ⟨rfl, rfl⟩
          go_wp2_with (fail)
          go_roundw
          case rel => exact ⟨m + 1, rfl, by omega, trivial⟩
          case measure => simp only [intOf]; omega
        · have t2 : decide ((m : Int) < (nl : Int)) = false := by simp; omega
          go_wp2_with (fail)
          go_roundw
          case rel => exact ⟨j + 1, _, _, _, by omega, by go_num, by go_num, HI5⟩
          case measure => simp [intOf]; omega
    · have t1 : decide ((j : Int) < (np : Int)) = false := by simp; omega
      have hjn : j = np := by omega
      have hjl : j = x.ps.length := by rw [← HNP.out]; exact hjn
      have HI2 := HI.out
      rw [hjl] at HI2
      obtain ⟨va', vc', e, hrv, hfl, hsz⟩ := HI2.done (fun y hy => (HR.out.ok y hy).code) (by rw [← HNP.out]; exact hn8) HF.out.snd.len
      have hb := HI2.2.2.2
      injection e with e1 e2 e3
      subst e1
      subst e3
      have HRV := Lib.hid hrv
      have HFL := Lib.hid hfl
      have HSZ := Lib.hid hsz
      have HB := Lib.hid hb
      obtain rfl : V.length = j := HI.out.1
      clear hjl HI2 e2 hrv hfl hsz hb
      iterate 28 go_step
      exact end_tail B a n c X x S1 V gx c1 wc vc a1 wa va w wr (HR.out.below (HB.out.mono hB)) (Nat.le_trans hB HB.out.size) (HBW.out.trans (HB.out.mono HBW.out.size)) HF.out (HX.out.below HB.out HX.out.lt) ((H1.out.below HB.out).mono HB.out.size) HRV.out HFL.out HSZ.out _ _ _ _ _ _ _ _ _ _ _ _ _ _ _ _ _ _ _ _ _ _ _ _ _ _ _ _ _ _ _ _ _ _ _ _ _ _ _ _ _ _ _ _ _ _ _ _ _ _ _ _ _ _ _ _ _ _ _ _ _ _ _ _ _ _ _ _ _ _ _ _ _ _ _ _ _ _ _ _ _ _ _ _ _ _ _ _ _ _ _ _ _ _ _ _ _ _ _ _ _ _ _ _ _ _ _ _ _ _ _ _ _ _ _ _ _ _ _ _ _ _ _ _ _ _ _ _ _ _ _ _ _ _ _ _ _ _ _ _ _ _ _ _ _ _ _ _ _ _ _ _ _ _ _ _ _ _ _ _ _ _ _ _ _ _ _ _ _ _ _ _ _ _ _ _ _ _ _ _ _ _ _ _ _ _ _ _ _ _ _ _ _ _ _ _ _ _ _ _ _ _ _ _ _ _ _ _ _ _ _ _ _ _ _ _ _ _ _ _ _ _ _ _ _ _ _ _ _ _ _ _ _ _ _ _ _ _ _ _ _ _ _ _ _ _ _ _ _ _ _ _ _ _ _ _ _ _ _ _ _ _ _ _ _ _ _
end Go.Proofs.Ythlmnoggeggpkaa
