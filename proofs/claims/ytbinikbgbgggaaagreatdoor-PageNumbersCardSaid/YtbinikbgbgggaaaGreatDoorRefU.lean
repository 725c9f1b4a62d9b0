/- storemanref19.Turn, storemanref21.Turn. -/
import Derived.Test.YtbinikbgbgggaaaGreatDoorRefS
import Derived.Test.YtbinikbgbgggaaaGreatDoorKeepP
import Derived.Deep.DeepCutAuto
namespace Go.Proofs.YtbinikbgbgggaaaGreatDoor
open Go.RowKit Go.Shelf

set_option maxHeartbeats 2000000 in
set_option maxRecDepth 100000 in
theorem t19_any (ka oa na : Option Addr) (kn kc on oc nn nc : Nat) (w : World) (hk : kn ≤ 140737488355328) (ho : on ≤ 140737488355328) (hn : nn ≤ 140737488355328) :
    Calls Tryz.prog 122 #[.agg #[.slice ka kn kc, .slice oa on oc, .slice na nn nc]] w fun e w' => e = .returned (.bool (turnedB kn on nn)) ∧ Below w.heap.size w w' := by
  have Hb := Lib.hid ((Below.refl _ w).alloc (Nat.le_refl _) (.cells #[.slice ka kn kc, .slice oa on oc, .slice na nn nc] 36))
  by_cases hk1 : 1 ≤ kn
  · by_cases hk2 : kn ≤ 40
    · by_cases hk3 : kn + on ≤ 220
      · by_cases hk4 : kn + nn ≤ 220
        · by_cases hk5 : 0 < on + nn
          · have hf : turnedB kn on nn = true := by unfold turnedB; rw [Bool.eq_iff_iff]; simp only [Bool.and_eq_true, decide_eq_true_eq, Bool.false_eq_true, iff_false, iff_true]; omega
            have Hf := Lib.hid hf
            have i1 : (1 : Int) ≤ (kn : Int) := by omega
            have i2 : (kn : Int) ≤ 40 := by omega
            have i3 : (kn : Int) + (on : Int) ≤ 220 := by omega
            have i4 : (kn : Int) + (nn : Int) ≤ 220 := by omega
            have i5 : (0 : Int) < (on : Int) + (nn : Int) := by omega
            clear hf
            go_enter Tryz.func122, Tryz.ntmps122
            go_wp2_with (fail)
            go_ret
            exact ⟨by rw [Hf.out]; rfl, Hb.out⟩
          · have hf : turnedB kn on nn = false := by unfold turnedB; rw [Bool.eq_iff_iff]; simp only [Bool.and_eq_true, decide_eq_true_eq, Bool.false_eq_true, iff_false, iff_true]; omega
            have Hf := Lib.hid hf
            have i1 : (1 : Int) ≤ (kn : Int) := by omega
            have i2 : (kn : Int) ≤ 40 := by omega
            have i3 : (kn : Int) + (on : Int) ≤ 220 := by omega
            have i4 : (kn : Int) + (nn : Int) ≤ 220 := by omega
            have i5 : ¬ (0 : Int) < (on : Int) + (nn : Int) := by omega
            clear hf
            go_enter Tryz.func122, Tryz.ntmps122
            go_wp2_with (fail)
            go_ret
            exact ⟨by rw [Hf.out]; rfl, Hb.out⟩
        · have hf : turnedB kn on nn = false := by unfold turnedB; rw [Bool.eq_iff_iff]; simp only [Bool.and_eq_true, decide_eq_true_eq, Bool.false_eq_true, iff_false, iff_true]; omega
          have Hf := Lib.hid hf
          have i1 : (1 : Int) ≤ (kn : Int) := by omega
          have i2 : (kn : Int) ≤ 40 := by omega
          have i3 : (kn : Int) + (on : Int) ≤ 220 := by omega
          have i4 : ¬ (kn : Int) + (nn : Int) ≤ 220 := by omega
          clear hf
          go_enter Tryz.func122, Tryz.ntmps122
          go_wp2_with (fail)
          go_ret
          exact ⟨by rw [Hf.out]; rfl, Hb.out⟩
      · have hf : turnedB kn on nn = false := by unfold turnedB; rw [Bool.eq_iff_iff]; simp only [Bool.and_eq_true, decide_eq_true_eq, Bool.false_eq_true, iff_false, iff_true]; omega
        have Hf := Lib.hid hf
        have i1 : (1 : Int) ≤ (kn : Int) := by omega
        have i2 : (kn : Int) ≤ 40 := by omega
        have i3 : ¬ (kn : Int) + (on : Int) ≤ 220 := by omega
        clear hf
        go_enter Tryz.func122, Tryz.ntmps122
        go_wp2_with (fail)
        go_ret
        exact ⟨by rw [Hf.out]; rfl, Hb.out⟩
    · have hf : turnedB kn on nn = false := by unfold turnedB; rw [Bool.eq_iff_iff]; simp only [Bool.and_eq_true, decide_eq_true_eq, Bool.false_eq_true, iff_false, iff_true]; omega
      have Hf := Lib.hid hf
      have i1 : (1 : Int) ≤ (kn : Int) := by omega
      have i2 : ¬ (kn : Int) ≤ 40 := by omega
      clear hf
      go_enter Tryz.func122, Tryz.ntmps122
      go_wp2_with (fail)
      go_ret
      exact ⟨by rw [Hf.out]; rfl, Hb.out⟩
  · have hf : turnedB kn on nn = false := by unfold turnedB; rw [Bool.eq_iff_iff]; simp only [Bool.and_eq_true, decide_eq_true_eq, Bool.false_eq_true, iff_false, iff_true]; omega
    have Hf := Lib.hid hf
    have i1 : ¬ (1 : Int) ≤ (kn : Int) := by omega
    clear hf
    go_enter Tryz.func122, Tryz.ntmps122
    go_wp2_with (fail)
    go_ret
    exact ⟨by rw [Hf.out]; rfl, Hb.out⟩

theorem leB_eq (a b : List UInt8) : leB a b = (Op.bytesLess a b || a == b) := by
  unfold leB
  cases h : Op.bytesLess a b with
  | true =>
    have h1 := less_cb' h
    rw [decide_eq_true (by omega)]; rfl
  | false =>
    have h1 : ¬ cb a b < 0 := fun h2 => by rw [less_cb h2] at h; cases h
    by_cases e : a = b
    · subst e
      rw [cb_self]
      simp
    · have h2 : cb a b ≠ 0 := fun h3 => e (cb_zero h3)
      rw [decide_eq_false (by omega)]
      simp [e]
theorem RB.set_p3 {W : World} {B z : Nat} {l x : Int} {sa : Option Addr} {sn sc : Nat} (hp : P3 W z l x (.slice sa sn sc)) (v' : Value) {a : Option Addr} {n c : Nat} {k : List UInt8} (h : RB B W a n c k) : RB B (W.setCell ⟨z, 2, none⟩ v') a n c k :=
  ⟨h.len, h.le, h.mx, h.lm, fun hc => by
    obtain ⟨b, o, rfl, hB, hcell⟩ := h.at_ hc
    refine ⟨b, o, rfl, hB, fun i hi => ?_⟩
    have hci := hcell i hi
    have hne : z ≠ b := by
      rintro rfl
      unfold P3 at hp
      simp only [World.cell?, hp, Option.isSome_none, Bool.false_eq_true, if_false] at hci
      rcases (show o + i = 0 ∨ o + i = 1 ∨ o + i = 2 ∨ 3 ≤ o + i by omega) with h0 | h0 | h0 | h0
      · rw [h0] at hci; simp at hci
      · rw [h0] at hci; simp at hci
      · rw [h0] at hci; simp at hci
      · rw [Array.getElem?_eq_none (by simp; omega)] at hci; simp at hci
    rw [World.cell?_setCell_far _ _ _ _ (by exact hne)]
    exact hci⟩
theorem RwAt.set_p3 {W : World} {B z b o : Nat} {l x : Int} {sa : Option Addr} {sn sc : Nat} (hp : P3 W z l x (.slice sa sn sc)) (v' : Value) {r : Rw} (h : RwAt B W b o r) (hb : z ≠ b) : RwAt B (W.setCell ⟨z, 2, none⟩ v') b o r := by
  obtain ⟨ka, kn, kc, va, vn, vc, h1, h2, h3, h4⟩ := h
  exact ⟨ka, kn, kc, va, vn, vc, by rw [World.cell?_setCell_far _ _ _ _ (by exact hb)]; exact h1, by rw [World.cell?_setCell_far _ _ _ _ (by exact hb)]; exact h2, h3.set_p3 hp v', h4.set_p3 hp v'⟩
theorem OR.rows_p3 {base : Nat} {W : World} {z : Nat} {l x : Int} {sa la : Option Addr} {sn sc m lc : Nat} {R : List Rw} (h : OR base W (.slice la m lc) R) (hp : P3 W z l x (.slice sa sn sc)) (hz : z < base) (v' : Value) : RowsAt (W.setCell ⟨z, 2, none⟩ v').heap.size (W.setCell ⟨z, 2, none⟩ v') la m lc R := by
  have hr := h.at_
  have hs : (W.setCell ⟨z, 2, none⟩ v').heap.size = W.heap.size := by simp [World.setCell]
  rw [hs]
  have hge := h.own_ge
  refine ⟨hr.len, hr.le, hr.mx, fun hc => ?_⟩
  obtain ⟨b, o, e, hB, hi⟩ := hr.at_ hc
  refine ⟨b, o, e, hB, fun i r hr2 => (hi i r hr2).set_p3 hp v' (fun e2 => ?_)⟩
  obtain ⟨cs, ⟨-, ⟨h3, h4⟩ | ⟨g, cap, cur, hv, hg, -⟩⟩, -⟩ := h
  · rw [List.eq_nil_of_length_eq_zero h4] at hr2
    cases hr2
  · rw [e] at hv
    cases hv
    omega
/-- An older slice, beside a list of the call's own. -/
theorem slb_old {B C : Nat} {w w' : World} {a : Option Addr} {n c : Nat} {l : List UInt8} {g : Option Nat} (h : RB B w a n c l) (hb : Below C w w') (hB : B ≤ C) (hC : C ≤ w'.heap.size) (hg : ∀ b, g = some b → C ≤ b) : SlB w' (.slice a n c) l g := by
  have h2 := h.below (hb.mono hB)
  refine ⟨a, n, c, rfl, h2.mono (Nat.le_trans hB hC), fun hc b o s e e2 => ?_⟩
  obtain ⟨b0, o0, e0, hlt0, -⟩ := h.at_ hc
  rw [e0] at e
  cases e
  have := hg _ e2.symm
  omega
/-- append of some rows to own rows, wherever their bytes lie. -/
theorem run_append_rows_or {w : World} {base : Nat} {v : Value} {R1 R2 : List Rw} (h : OR base w v R1) (ty : TypeId) (ad : Addr) (c : Nat) (news : List Value) (h0 : 0 < R2.length) (hcell : ∀ j u, news[j]? = some u → w.cell? (ad.add j) = some u)
    (hrc : RowsCells w v.ownBlock news R2) (hbase : base ≤ w.heap.size) (hsize : (R1.length + R2.length) * 48 ≤ 140737488355328) :
    ∃ a' c' w', (Builtin.append_ #[28, 28] ty #[v, .slice (some ad) R2.length c]).run Tryz.prog w = .ok (.slice a' (R1 ++ R2).length c') w' ∧ OR base w' (.slice a' (R1 ++ R2).length c') (R1 ++ R2) ∧ w.grownBy w' v.ownBlock := by
  obtain ⟨i0, hi, hz0, hz1, hz2⟩ := info_parts Tryz.infoRow
  obtain ⟨cs, h1, h2⟩ := h
  obtain ⟨g, cap, w', hrun, hown, hg, hat, hlt⟩ := run_append_lies (P := Tryz.prog) w 28 ty base 60 i0 _ 2 48 Tryz.underlying28 hi hz0 hz1 hz2 rfl (by decide) v R1.length cs h1 ad R2.length c news hrc.len hcell
    (rowsCells_one hrc) h0 (by simp only [maxLen]; omega) hsize hbase _ rfl
  rw [List.length_append]
  refine ⟨_, _, w', hrun, ⟨cs ++ news, ?_, ?_⟩, hg⟩
  · rw [List.length_append]; exact hown
  · exact RowsCells.append (RowsCells.grown hg hat hrc) (RowsCells.grown hg hat h2)
theorem wpList_append_rows_or {w : World} {ops : Array Oper} {rest : List Oper} {o : Oper} {a : Act} {Q : Exit → Act → World → Prop} (hgd : o.guard = none) (s x : Operand)
    (ho : o.op = .call { callee := .builtin .append, args := #[s, x], argTypes := #[28, 28] }) (base : Nat) (v : Value) (R1 R2 : List Rw) (hs : a.eval s = v) (h : OR base w v R1) (ad : Addr) (c : Nat) (news : List Value)
    (hx : a.eval x = .slice (some ad) R2.length c) (h0 : 0 < R2.length) (hcell : ∀ j u, news[j]? = some u → w.cell? (ad.add j) = some u) (hrc : RowsCells w v.ownBlock news R2) (hbase : base ≤ w.heap.size) (hsize : (R1.length + R2.length) * 48 ≤ 140737488355328)
    (hK : ∀ a' c' w', OR base w' (.slice a' (R1 ++ R2).length c') (R1 ++ R2) → w.grownBy w' v.ownBlock → wpList Tryz.prog ops Q rest (a.put o.dst (.slice a' (R1 ++ R2).length c')) w') : wpList Tryz.prog ops Q (o :: rest) a w := by
  obtain ⟨a', c', w', hr, hq, hg⟩ := run_append_rows_or h o.type ad c news h0 hcell hrc hbase hsize
  refine wpList_plain hgd fun K hK' => ?_
  unfold Oper.wp
  rw [run_append_op ho hs hx hr]
  exact hK' _ _ (hK a' c' w' hq hg)

theorem enc_filter (q : Rw → Bool) : ∀ R : List Rw, (enc (R.filter q)).length ≤ (enc R).length
  | [] => by simp
  | r :: R => by
    have h := enc_filter q R
    rw [List.filter_cons]
    split
    · simp only [enc, List.length_append]; omega
    · simp only [enc, List.length_append]; omega
theorem put_bd {R S : List Rw} {p : Bool} {K N : List UInt8} {kn on nn : Nat} (h : tFin K N (S, p) = put R K N) (hs : S.length ≤ 500) (hk : kn ≤ 140737488355328) (hn : nn ≤ 140737488355328) (hkl : kn = K.length) (hnl : nn = N.length) (ht : true = turnedB kn on nn) (hf : (enc R).length ≤ 501) :
    (put R K N).length ≤ 600 ∧ (enc (put R K N)).length ≤ 100000 := by
  constructor
  · rw [← h]
    unfold tFin
    split
    · simp only; omega
    · simp only [List.length_append, List.length_cons, List.length_nil]; omega
  · unfold turnedB at ht
    have ht' := ht.symm
    simp only [Bool.and_eq_true, decide_eq_true_eq] at ht'
    have hsel : (enc (sel K N)).length ≤ 300 := by
      rw [sel_enc]
      split <;> omega
    have hb : (enc (bef R K)).length ≤ (enc R).length := enc_filter _ R
    have ha : (enc (aft R K)).length ≤ (enc R).length := enc_filter _ R
    unfold put
    rw [enc_len_append, enc_len_append]
    omega
theorem mod_below {g : Nat} {w w' : World} (h : ∀ k, k < w.heap.size → w'.heap[k]? = w.heap[k]?) (h1 : w'.os = w.os) (h2 : w'.tape = w.tape) (h3 : w'.output = w.output) (h4 : w.heap.size ≤ w'.heap.size) : Mod g w w' := ⟨h1, h2, h3, h4, fun k hk _ => h k hk⟩
/-- What the document's turn comes to. -/
theorem turn_ref {L : List UInt8} (h : 0 < behindL L) (K O N : List UInt8) : turnL L K O N = if turnedB K.length O.length N.length = false then (2, L) else if got (rowsL L) K ≠ (if O = [] then none else some O) then (6, L) else
    if 501 < (enc (put (rowsL L) K N)).length then (5, L) else (0, mkP (headOf (lsnL L) (nextL L)) (put (rowsL L) K N)) := by
  obtain ⟨hP, hL⟩ := parse h
  have h1 : lsnL L = numL ((L.take 10).take 8) := by
    have h := lsn_mk hP
    rw [← hL] at h
    exact h
  have h2 : nextL L = (bt (L.take 10) 8).toNat * 256 + (bt (L.take 10) 9).toNat := by
    have h := next_mk hP
    rw [← hL] at h
    exact h
  have h3 := turnL_mk hP K O N
  rw [← hL, head_self hP.hl, ← h1, ← h2] at h3
  exact h3

set_option maxHeartbeats 2000000 in
set_option maxRecDepth 100000 in
theorem rTurn_no (N : Nat) (a : Option Addr) (n c : Nat) (L : List UInt8) (ka oa na : Option Addr) (kn kc on oc nn nc : Nat) (w : World) (hr : RB N w a n c L) (hN : N ≤ w.heap.size) (h0 : behindL L = 0) :
    Calls Tryz.prog 82 #[.slice a n c, .agg #[.slice ka kn kc, .slice oa on oc, .slice na nn nc]] w fun e w' => e = .returned (.int .i64 4) ∧ Below w.heap.size w w' := by
  have hb0 : Below w.heap.size w (w.alloc (.cells #[.slice ka kn kc, .slice oa on oc, .slice na nn nc] 36)) := (Below.refl _ w).alloc (Nat.le_refl _) _
  have H := Lib.hid ((Of_any N a n c L _ (hr.below (hb0.mono hN)) (Nat.le_trans hN hb0.size)).mono fun e w' h => h.s)
  unfold OfS at H
  rw [decide_eq_false (by omega)] at H
  have HB0 := Lib.hid hb0
  clear hr h0 hb0
  go_enter Tryz.func82, Tryz.ntmps82
  go_wp2_with (go_at_call 49; refine H.out.mono ?_; rintro e w1 ⟨va, vc, rfl, ho, hb⟩; have HO := Lib.hid ho; have HB := Lib.hid (HB0.out.trans (hb.mono HB0.out.size)); clear ho hb)
  go_ret
  exact ⟨rfl, HB.out.alloc HB.out.size _⟩

set_option maxHeartbeats 8000000 in
set_option maxRecDepth 100000 in
theorem rTurn_yes (g c : Nat) (L : List UInt8) (X : List Value) (B : Nat) (ka oa na : Option Addr) (kn kc on oc nn nc : Nat) (K O N : List UInt8) (w : World) (hp : PG w g c L X)
    (hk : RBn g B w ka kn kc K) (ho : RBn g B w oa on oc O) (hn : RBn g B w na nn nc N) (hB : B ≤ w.heap.size) (h0 : 0 < behindL L) :
    Calls Tryz.prog 82 #[.slice (some ⟨g, 0, none⟩) 512 c, .agg #[.slice ka kn kc, .slice oa on oc, .slice na nn nc]] w (TurnPost g c w (turnL L K O N) X) := by
  have hb0 : Below w.heap.size w (w.alloc (.cells #[.slice ka kn kc, .slice oa on oc, .slice na nn nc] 36)) := (Below.refl _ w).alloc (Nat.le_refl _) _
  have ht0 := T3.new w (.slice ka kn kc) (.slice oa on oc) (.slice na nn nc)
  have H := Lib.hid ((Of_any _ _ _ c L _ (hp.below hb0 hp.lt).rb (Nat.le_refl _)).mono fun e w' h => h.s)
  unfold OfS at H
  rw [decide_eq_true h0] at H
  have hturn := turn_ref h0 K O N
  obtain ⟨b1, b2, b3, b4⟩ := right_bd h0
  obtain ⟨hP, -⟩ := parse h0
  have hup := hP.up
  have hgetL : getL L K = got (rowsL L) K := by
    obtain ⟨hP, hL⟩ := parse h0
    have h := get_mk hP K
    rw [← hL] at h
    exact h
  have Hturn := Lib.hid hturn
  have HgetL := Lib.hid hgetL
  have B1 := Lib.hid b1
  have B2 := Lib.hid b2
  have B3 := Lib.hid b3
  have B4 := Lib.hid b4
  have Hup := Lib.hid hup
  have Hp := Lib.hid hp
  have HK := Lib.hid hk
  have HO' := Lib.hid ho
  have HN := Lib.hid hn
  have hgw := hp.lt
  have hkl := hk.rb.len; have hol := ho.rb.len; have hnl := hn.rb.len
  have hkm := hk.rb.lm; have hom := ho.rb.lm; have hnm := hn.rb.lm
  have Hkl := Lib.hid hkl
  have Hol := Lib.hid hol
  have Hnl := Lib.hid hnl
  obtain ⟨z, hz⟩ : ∃ z, z = w.heap.size := ⟨_, rfl⟩
  obtain ⟨w0, hw0⟩ : ∃ w0, w0 = w.alloc (.cells #[.slice ka kn kc, .slice oa on oc, .slice na nn nc] 36) := ⟨_, rfl⟩
  rw [← hw0] at hb0 ht0 H
  rw [← hz] at ht0
  have Ht0 := Lib.hid ht0
  have Hb0 := Lib.hid hb0
  have Hz := Lib.hid hz
  have Hw0 := Lib.hid hw0
  generalize rowsL L = R at *
  generalize lsnL L = y at *
  generalize nextL L = nx at *
  clear hb0 ht0 hp hk ho hn hturn b1 b2 b3 b4 hP hup hgetL hkl hol hnl hz hw0 h0
  go_enter Tryz.func82, Tryz.ntmps82
  go_upto_region 1 with (fail)
  rw [← Hw0.out, ← Hz.out]
  go_upto_region 2 with (go_at_call 49; refine H.out.mono ?_; rintro e w1 ⟨va, vc, rfl, ho, hb⟩; have HO := Lib.hid ho; have HB := Lib.hid hb; clear ho hb)
  have hp3 := P3.new w1 (y : Int) (nx : Int) (.slice va R.length vc)
  have hb12 : Below w1.heap.size w1 (w1.alloc (.cells #[.int .i64 (y : Int), .int .i64 (nx : Int), .slice va R.length vc] 94)) := (Below.refl _ w1).alloc (Nat.le_refl _) _
  obtain ⟨z2, hz2⟩ : ∃ z2, z2 = w1.heap.size := ⟨_, rfl⟩
  obtain ⟨w2, hw2⟩ : ∃ w2, w2 = w1.alloc (.cells #[.int .i64 (y : Int), .int .i64 (nx : Int), .slice va R.length vc] 94) := ⟨_, rfl⟩
  rw [← hw2] at hp3 hb12 ⊢
  rw [← hz2] at hp3 ⊢
  have Hp3 := Lib.hid hp3
  have Hb2 := Lib.hid (HB.out.trans (hb12.mono HB.out.size))
  have HR := Lib.hid ((HO.out.below hb12).at_)
  have hzz : z < z2 := by rw [hz2]; exact Nat.lt_of_lt_of_le Ht0.out.lt HB.out.size
  have Hz2 := Lib.hid hz2
  clear hp3 hb12 hw2 hz2 HB HO
  have Hbw2 := Lib.hid (Hb0.out.trans (Hb2.out.mono Hb0.out.size))
  obtain ⟨t0, t1, t2⟩ := (Ht0.out.below Hb2.out Ht0.out.lt).cells
  have H19 := Lib.hid (t19_any ka oa na kn kc on oc nn nc w2 hkm hom hnm)
  obtain ⟨tb, htb⟩ : ∃ tb, tb = turnedB kn on nn := ⟨_, rfl⟩
  rw [← htb] at H19
  have Htb := Lib.hid htb
  clear htb
  cases tb with
  | false =>
    go_wp2_with (go_at_call 122; refine H19.out.mono ?_; rintro e w3 ⟨rfl, hb3⟩)
    go_ret
    have hb := Hbw2.out.trans (hb3.mono Hbw2.out.size)
    rw [Hturn.out, if_pos (by rw [← Hkl.out, ← Hol.out, ← Hnl.out]; exact Htb.out.symm)]
    exact ⟨rfl, Hp.out.below hb Hp.out.lt, Mod.of_below hb⟩
  | true =>
    have Hturn1 : Hid (turnL L K O N = if got R K ≠ (if O = [] then none else some O) then (6, L) else if 501 < (enc (put R K N)).length then (5, L) else (0, mkP (headOf y nx) (put R K N))) := Lib.hid (by rw [Hturn.out, if_neg]; rw [← Hkl.out, ← Hol.out, ← Hnl.out, ← Htb.out]; simp)
    clear Hturn
    go_upto_region 6 with (go_at_call 122; refine H19.out.mono ?_; rintro e w3 ⟨rfl, hb3⟩; have Hb3 := Lib.hid (Hb2.out.trans (hb3.mono Hb2.out.size)); have H23 := Lib.hid hb3; clear hb3)
    have Hbw3 := Lib.hid (Hb0.out.trans (Hb3.out.mono Hb0.out.size))
    have hbw3B : B ≤ w3.heap.size := Nat.le_trans hB Hbw3.out.size
    have HG := Lib.hid (rGet_any _ B (some ⟨g, 0, none⟩) ka 512 c kn kc L K w3 (Hp.out.below Hbw3.out Hp.out.lt).rb (HK.out.rb.below (Hbw3.out.mono hB)) (Nat.le_refl _) hbw3B)
    rw [HgetL.out] at HG
    obtain ⟨s0, s1, s2⟩ := (Ht0.out.below Hb3.out Ht0.out.lt).cells
    clear t0 t1 t2
    go_upto_region 7 with (go_at_call 26; refine HG.out.mono ?_; rintro e w4 ⟨⟨ga, gn, gc, rfl, hrb⟩, hb4⟩; have Hrb := Lib.hid hrb; have H34 := Lib.hid hb4; have Hb4 := Lib.hid (Hb3.out.trans (hb4.mono Hb3.out.size)); clear hrb hb4)
    obtain ⟨t0, t1, t2⟩ := (Ht0.out.below Hb4.out Ht0.out.lt).cells
    clear s0 s1 s2
    have Hbw4 := Lib.hid (Hb0.out.trans (Hb4.out.mono Hb0.out.size))
    have hbw4B : B ≤ w4.heap.size := Nat.le_trans hB Hbw4.out.size
    have k1 : (convert 22 9 (.slice ga gn gc)).run Tryz.prog w4 = .ok (.string ⟨((got R K).getD []).toArray⟩) w4 := run_conv Hrb.out _ _ _ Tryz.underlying22 Tryz.underlying5 Tryz.underlying9
    have k2 : (convert 22 9 (.slice oa on oc)).run Tryz.prog w4 = .ok (.string ⟨O.toArray⟩) w4 := run_conv (HO'.out.rb.below (Hbw4.out.mono hB)) _ _ _ Tryz.underlying22 Tryz.underlying5 Tryz.underlying9
    by_cases hold : got R K = (if O = [] then none else some O)
    · have HGo : Hid ((got R K).isSome = decide (0 < on) ∧ (got R K).getD [] = O) := Lib.hid (by
        by_cases hO : O = []
        · rw [if_pos hO] at hold
          rw [hold, hO]
          have h0 : on = 0 := by rw [Hol.out, hO]; rfl
          rw [h0]
          exact ⟨rfl, rfl⟩
        · rw [if_neg hO] at hold
          rw [hold]
          have h0 : 0 < on := by rw [Hol.out]; exact List.length_pos_iff.2 hO
          rw [decide_eq_true h0]
          exact ⟨rfl, rfl⟩)
      have Hturn2 : Hid (turnL L K O N = if 501 < (enc (put R K N)).length then (5, L) else (0, mkP (headOf y nx) (put R K N))) := Lib.hid (by rw [Hturn1.out, if_neg (fun h => h hold)])
      rw [HGo.out.2] at k1
      have hgi := HGo.out.1
      clear hold Hturn1 HG H19 H
      generalize (got R K).isSome = gi at *
      subst hgi
      clear HGo HgetL
      obtain ⟨pz, hpz⟩ : ∃ pz, pz = decide (N = []) := ⟨_, rfl⟩
      have hz0 : ((nn : Int) == 0) = pz := by
        rw [hpz, Bool.eq_iff_iff, beq_iff_eq, decide_eq_true_eq, ← List.length_eq_zero_iff, ← Hnl.out]
        omega
      have Hpz := Lib.hid hpz
      clear hpz
      go_upto_region 11 with (fail)
      clear k1 k2 hz0
      have hs4 : w2.heap.size ≤ w4.heap.size := Nat.le_trans H23.out.size H34.out.size
      have hzl : z < w4.heap.size := Nat.lt_of_lt_of_le Ht0.out.lt Hb4.out.size
      have hz2l : z2 < w4.heap.size := Nat.lt_of_lt_of_le Hp3.out.lt hs4
      have Hp34 := Lib.hid ((Hp3.out.below H23.out Hp3.out.lt).below H34.out (Nat.lt_of_lt_of_le Hp3.out.lt H23.out.size))
      have HR4 := Lib.hid (((HR.out.below H23.out).below (H34.out.mono H23.out.size)).mono hs4)
      have hvle := HR4.out.le
      have hvmx := HR4.out.mx
      have HK4 := Lib.hid (HK.out.rb.below (Hbw4.out.mono hB))
      have HN4 := Lib.hid (HN.out.rb.below (Hbw4.out.mono hB))
      clear t0 t1 t2
      have TC : Hid (∀ W, Below w4.heap.size w4 W → W.cell? ⟨z, 0, none⟩ = some (.slice ka kn kc) ∧ W.cell? ⟨z, 2, none⟩ = some (.slice na nn nc) ∧ W.cell? ⟨z2, 2, none⟩ = some (.slice va R.length vc) ∧ (convert 22 9 (.slice ka kn kc)).run Tryz.prog W = .ok (.string ⟨K.toArray⟩) W) := Lib.hid fun W h => by
        have h3 := (Ht0.out.below Hb4.out Ht0.out.lt).below h hzl
        exact ⟨h3.cells.1, h3.cells.2.2, (Hp34.out.below h hz2l).cells.2.2, run_conv (HK4.out.below (h.mono hbw4B)) _ _ _ Tryz.underlying22 Tryz.underlying5 Tryz.underlying9⟩
      obtain ⟨t0, t1, t2, -⟩ := TC.out w4 (Below.refl _ _)
      go_wp2_with (fail)
      clear t0 t1 t2
      go_loopw [9, 10, 11] (fun s9 s10 s11 wr => ∃ (k : Nat) (la : Option Addr) (m lc : Nat) (S : List Rw) (p : Bool), s11 = .int .i64 k ∧ k ≤ R.length ∧ s9 = .slice la m lc ∧ s10 = .bool p ∧ Hid (m = S.length) ∧ Hid ((R.take k).foldl (tStep K N) ([], pz) = (S, p)) ∧ Hid (OR w4.heap.size wr (.slice la m lc) S) ∧ Hid (Below w4.heap.size w4 wr) ∧ Hid (S.length ≤ 2 * k)) (fun _ _ s11 _ => R.length - (intOf s11).toNat)
      case atStart => exact ⟨0, none, 0, 0, [], pz, rfl, Nat.zero_le _, rfl, rfl, Lib.hid rfl, Lib.hid rfl, Lib.hid (OR.nil _ _), Lib.hid (Below.refl _ _), Lib.hid (Nat.le_refl _)⟩
      case round =>
        obtain ⟨wk, rfl⟩ : ∃ q, q = wr := ⟨_, rfl⟩
        obtain ⟨k, la, m, lc, S, p, rfl, hk, rfl, rfl, hm, hfold, ho, hb, hsl⟩ := hrel
        obtain ⟨t0, t1, t2, -⟩ := TC.out wk hb.out
        have Hb250 := B4.out
        by_cases hkn : k < R.length
        · obtain ⟨b', o', rfl, hB', hi⟩ := HR4.out.at_ (by omega)
          have hget := List.getElem?_eq_getElem hkn
          obtain ⟨ka2, kn2, kc2, va2, vn2, vc2, h1, h2, h3, h4⟩ := hi k _ hget
          have hft := fold_take K N R k _ pz hget
          rw [hfold.out] at hft
          obtain ⟨r, hrk⟩ : ∃ r, r = R[k] := ⟨_, rfl⟩
          rw [← hrk] at h3 h4 hft
          have hts : tStep K N (S, p) r = ((S ++ (if (!p && leB K r.1) = true then [(K, N)] else [])) ++ (if r.1 = K then [] else [r]), p || leB K r.1) := rfl
          rw [hts] at hft
          have Hft := Lib.hid hft
          have H3 := Lib.hid h3
          have H4 := Lib.hid h4
          have RC : Hid (∀ W, Below w4.heap.size w4 W → W.cell? ⟨b', o' + k * 2, none⟩ = some (.slice ka2 kn2 kc2) ∧ W.cell? ⟨b', o' + k * 2 + 1, none⟩ = some (.slice va2 vn2 vc2) ∧ (convert 22 9 (.slice ka2 kn2 kc2)).run Tryz.prog W = .ok (.string ⟨r.1.toArray⟩) W) := Lib.hid fun W h => ⟨(h.cell hB').trans h1, (h.cell hB').trans h2, run_conv (h3.below h) _ _ _ Tryz.underlying22 Tryz.underlying5 Tryz.underlying9⟩
          have o4 : (k : Int) < (R.length : Int) := by omega
          have o5 : (0 : Int) ≤ (k : Int) := by omega
          clear hget h1 h2 h3 h4 hi hrk hft hts
          obtain ⟨r1, hr1⟩ : ∃ r1, r1 = r.1 := ⟨_, rfl⟩
          rw [← hr1] at RC Hft
          have Hr1 := Lib.hid hr1
          clear hr1
          cases p with
          | true =>
            have HlE := Lib.hid (trivial : True)
            have f0 : ∀ x : BelowW wk, x.v.cell? ⟨z, 0, none⟩ = some (.slice ka kn kc) := fun x => (TC.out x.v (hb.out.trans (x.h.mono hb.out.size))).1
            have f1 : ∀ x : BelowW wk, x.v.cell? ⟨z2, 2, none⟩ = some (.slice (some ⟨b', o', none⟩) R.length vc) := fun x => (TC.out x.v (hb.out.trans (x.h.mono hb.out.size))).2.2.1
            have f2 : ∀ x : BelowW wk, x.v.cell? ⟨b', o' + k * 2, none⟩ = some (.slice ka2 kn2 kc2) := fun x => (RC.out x.v (hb.out.trans (x.h.mono hb.out.size))).1
            have q1 : ∀ x : BelowW wk, (convert 22 9 (.slice ka kn kc)).run Tryz.prog x.v = .ok (.string ⟨K.toArray⟩) x.v := fun x => (TC.out x.v (hb.out.trans (x.h.mono hb.out.size))).2.2.2
            have q2 : ∀ x : BelowW wk, (convert 22 9 (.slice ka2 kn2 kc2)).run Tryz.prog x.v = .ok (.string ⟨r1.toArray⟩) x.v := fun x => (RC.out x.v (hb.out.trans (x.h.mono hb.out.size))).2.2
            go_wp2_with (fail)
            refine wp_region_below wk (by kernel_rfl) (by kernel_rfl) (Below.refl _ _) ?_
            repeat (go_big_quiet_step (fail))
            refine wpQuiet_nil ?_
            intro _ hw'
            obtain ⟨y1, hw''⟩ := hw'
            subst hw''
            clear f0 f1 f2 q1 q2
            have hb1 := Lib.hid (hb.out.trans (y1.h.mono hb.out.size))
            have ho1 := Lib.hid (ho.out.below y1.h)
            clear t0 t1 t2
            by_cases hre : r1 = K
            · have HreE := Lib.hid hre
              rw [hre] at RC
              clear hre
              have f0 : ∀ x : BelowW y1.v, x.v.cell? ⟨z, 0, none⟩ = some (.slice ka kn kc) := fun x => (TC.out x.v (hb1.out.trans (x.h.mono hb1.out.size))).1
              have f1 : ∀ x : BelowW y1.v, x.v.cell? ⟨z2, 2, none⟩ = some (.slice (some ⟨b', o', none⟩) R.length vc) := fun x => (TC.out x.v (hb1.out.trans (x.h.mono hb1.out.size))).2.2.1
              have f2 : ∀ x : BelowW y1.v, x.v.cell? ⟨b', o' + k * 2, none⟩ = some (.slice ka2 kn2 kc2) := fun x => (RC.out x.v (hb1.out.trans (x.h.mono hb1.out.size))).1
              have q1 : ∀ x : BelowW y1.v, (convert 22 9 (.slice ka kn kc)).run Tryz.prog x.v = .ok (.string ⟨K.toArray⟩) x.v := fun x => (TC.out x.v (hb1.out.trans (x.h.mono hb1.out.size))).2.2.2
              have q2 : ∀ x : BelowW y1.v, (convert 22 9 (.slice ka2 kn2 kc2)).run Tryz.prog x.v = .ok (.string ⟨K.toArray⟩) x.v := fun x => (RC.out x.v (hb1.out.trans (x.h.mono hb1.out.size))).2.2
              go_wp2_with (fail)
              refine wp_region_below y1.v (by kernel_rfl) (by kernel_rfl) (Below.refl _ _) ?_
              repeat (go_big_quiet_step (fail))
              refine wpQuiet_nil ?_
              intro _ hw'
              obtain ⟨y2, hw''⟩ := hw'
              subst hw''
              clear f0 f1 f2 q1 q2
              have hb3 := Lib.hid (hb1.out.trans (y2.h.mono hb1.out.size))
              have ho3 := Lib.hid (ho1.out.below y2.h)
              go_wp2_with (fail)
              go_roundw
              case rel => exact ⟨k + 1, la, m, lc, S, true, by go_num, by omega, rfl, rfl, hm, Lib.hid (by rw [Hft.out]; rw [if_pos HreE.out]; simp), ho3, hb3, Lib.hid (by have := hsl.out; simp; omega)⟩
              case measure => simp [intOf]; omega

            · have HreE := Lib.hid hre
              have hne1 : (r1 == K) = false := by simpa using hre
              have hne2 : (r1 != K) = true := by simpa using hre
              have f0 : ∀ x : BelowW y1.v, x.v.cell? ⟨z, 0, none⟩ = some (.slice ka kn kc) := fun x => (TC.out x.v (hb1.out.trans (x.h.mono hb1.out.size))).1
              have f1 : ∀ x : BelowW y1.v, x.v.cell? ⟨z2, 2, none⟩ = some (.slice (some ⟨b', o', none⟩) R.length vc) := fun x => (TC.out x.v (hb1.out.trans (x.h.mono hb1.out.size))).2.2.1
              have f2 : ∀ x : BelowW y1.v, x.v.cell? ⟨b', o' + k * 2, none⟩ = some (.slice ka2 kn2 kc2) := fun x => (RC.out x.v (hb1.out.trans (x.h.mono hb1.out.size))).1
              have q1 : ∀ x : BelowW y1.v, (convert 22 9 (.slice ka kn kc)).run Tryz.prog x.v = .ok (.string ⟨K.toArray⟩) x.v := fun x => (TC.out x.v (hb1.out.trans (x.h.mono hb1.out.size))).2.2.2
              have q2 : ∀ x : BelowW y1.v, (convert 22 9 (.slice ka2 kn2 kc2)).run Tryz.prog x.v = .ok (.string ⟨r1.toArray⟩) x.v := fun x => (RC.out x.v (hb1.out.trans (x.h.mono hb1.out.size))).2.2
              go_wp2_with (fail)
              refine wp_region_below y1.v (by kernel_rfl) (by kernel_rfl) (Below.refl _ _) ?_
              repeat (go_big_quiet_step (fail))
              refine wpQuiet_nil ?_
              intro _ hw'
              obtain ⟨y2, hw''⟩ := hw'
              subst hw''
              clear f0 f1 f2 q1 q2
              have hb3 := Lib.hid (hb1.out.trans (y2.h.mono hb1.out.size))
              have ho3 := Lib.hid (ho1.out.below y2.h)
              obtain ⟨t0, t1, t2, -⟩ := TC.out y2.v hb3.out
              obtain ⟨u0', u1', -⟩ := RC.out y2.v hb3.out
              have HA2 := Lib.hid ((Below.refl y2.v.heap.size y2.v).alloc (Nat.le_refl _) (.cells #[.slice ka2 kn2 kc2, .slice va2 vn2 vc2] 60))
              have hbA2 := Lib.hid (hb3.out.trans (HA2.out.mono hb3.out.size))
              have hge2 := Lib.hid (fun b e => (ho3.out.own_ge b e).1 : ∀ b, (Value.slice la m lc).ownBlock = some b → w4.heap.size ≤ b)
              have hrc2 : Hid (RowsCells (y2.v.alloc (.cells #[.slice ka2 kn2 kc2, .slice va2 vn2 vc2] 60)) (Value.slice la m lc).ownBlock [.slice ka2 kn2 kc2, .slice va2 vn2 vc2] [r]) := Lib.hid ⟨slb_old H3.out hbA2.out (Nat.le_refl _) hbA2.out.size hge2.out, slb_old H4.out hbA2.out (Nat.le_refl _) hbA2.out.size hge2.out, trivial⟩
              obtain ⟨m6, hm6⟩ : ∃ m6, m6 = (S ++ [r]).length := ⟨_, rfl⟩
              have Hm6 := Lib.hid hm6
              clear hm6
              go_wp2_with (at_builtin; refine wpList_append_rows_or rfl (.tmp 88) (.tmp 94) rfl w4.heap.size _ (S) [r] rfl (ho3.out.below HA2.out) ⟨y2.v.heap.size, 0, none⟩ 1 [.slice ka2 kn2 kc2, .slice va2 vn2 vc2] rfl (by simp) (World.news_of_block (heap_alloc_new _ _)) hrc2.out (by rw [World.size_alloc]; have := hb3.out.size; omega) (by have := hsl.out; simp; omega) ?_; intro a6 c6 w6 ho6 hg6; rw [← Hm6.out] at ho6 ⊢; have ho7 := Lib.hid ho6; have hb7 := Lib.hid (hbA2.out.grown hg6 (by rw [World.size_alloc]; have := hb3.out.size; omega) (fun b e => hge2.out b e)); clear ho6 hg6)
              go_roundw
              case rel => exact ⟨k + 1, a6, m6, c6, S ++ [r], true, by go_num, by omega, rfl, rfl, Hm6, Lib.hid (by rw [Hft.out]; rw [if_neg HreE.out]; simp), ho7, hb7, Lib.hid (by have := hsl.out; simp; omega)⟩
              case measure => simp [intOf]; omega


          | false =>
            cases hl : Op.bytesLess K r1 with
            | true =>
              have HlE := Lib.hid (show leB K r1 = true by rw [leB_eq, hl]; rfl)
              have f0 : ∀ x : BelowW wk, x.v.cell? ⟨z, 0, none⟩ = some (.slice ka kn kc) := fun x => (TC.out x.v (hb.out.trans (x.h.mono hb.out.size))).1
              have f1 : ∀ x : BelowW wk, x.v.cell? ⟨z2, 2, none⟩ = some (.slice (some ⟨b', o', none⟩) R.length vc) := fun x => (TC.out x.v (hb.out.trans (x.h.mono hb.out.size))).2.2.1
              have f2 : ∀ x : BelowW wk, x.v.cell? ⟨b', o' + k * 2, none⟩ = some (.slice ka2 kn2 kc2) := fun x => (RC.out x.v (hb.out.trans (x.h.mono hb.out.size))).1
              have q1 : ∀ x : BelowW wk, (convert 22 9 (.slice ka kn kc)).run Tryz.prog x.v = .ok (.string ⟨K.toArray⟩) x.v := fun x => (TC.out x.v (hb.out.trans (x.h.mono hb.out.size))).2.2.2
              have q2 : ∀ x : BelowW wk, (convert 22 9 (.slice ka2 kn2 kc2)).run Tryz.prog x.v = .ok (.string ⟨r1.toArray⟩) x.v := fun x => (RC.out x.v (hb.out.trans (x.h.mono hb.out.size))).2.2
              go_wp2_with (fail)
              refine wp_region_below wk (by kernel_rfl) (by kernel_rfl) (Below.refl _ _) ?_
              repeat (go_big_quiet_step (fail))
              refine wpQuiet_nil ?_
              intro _ hw'
              obtain ⟨y1, hw''⟩ := hw'
              subst hw''
              clear f0 f1 f2 q1 q2
              have hb1 := Lib.hid (hb.out.trans (y1.h.mono hb.out.size))
              have ho1 := Lib.hid (ho.out.below y1.h)
              clear t0 t1 t2
              obtain ⟨t0, t1, t2, -⟩ := TC.out y1.v hb1.out
              have HA := Lib.hid ((Below.refl y1.v.heap.size y1.v).alloc (Nat.le_refl _) (.cells #[.slice ka kn kc, .slice na nn nc] 60))
              have hbA := Lib.hid (hb1.out.trans (HA.out.mono hb1.out.size))
              have hge := Lib.hid (fun b e => (ho1.out.own_ge b e).1 : ∀ b, (Value.slice la m lc).ownBlock = some b → w4.heap.size ≤ b)
              have hrc : Hid (RowsCells (y1.v.alloc (.cells #[.slice ka kn kc, .slice na nn nc] 60)) (Value.slice la m lc).ownBlock [.slice ka kn kc, .slice na nn nc] [(K, N)]) := Lib.hid ⟨slb_old HK4.out hbA.out hbw4B hbA.out.size hge.out, slb_old HN4.out hbA.out hbw4B hbA.out.size hge.out, trivial⟩
              obtain ⟨m5, hm5⟩ : ∃ m5, m5 = (S ++ [(K, N)]).length := ⟨_, rfl⟩
              have Hm5 := Lib.hid hm5
              clear hm5
              go_wp2_with (at_builtin; refine wpList_append_rows_or rfl (.tmp 69) (.tmp 75) rfl w4.heap.size _ S [(K, N)] rfl (ho1.out.below HA.out) ⟨y1.v.heap.size, 0, none⟩ 1 [.slice ka kn kc, .slice na nn nc] rfl (by simp) (World.news_of_block (heap_alloc_new _ _)) hrc.out (by rw [World.size_alloc]; have := hb1.out.size; omega) (by have := hsl.out; simp; omega) ?_; intro a5 c5 w5 ho5 hg5; rw [← Hm5.out] at ho5 ⊢; have ho2 := Lib.hid ho5; have hb2 := Lib.hid (hbA.out.grown hg5 (by rw [World.size_alloc]; have := hb1.out.size; omega) (fun b e => hge.out b e)); clear ho5 hg5)
              clear t0 t1 t2
              by_cases hre : r1 = K
              · have HreE := Lib.hid hre
                rw [hre] at RC
                clear hre
                have f0 : ∀ x : BelowW w5, x.v.cell? ⟨z, 0, none⟩ = some (.slice ka kn kc) := fun x => (TC.out x.v (hb2.out.trans (x.h.mono hb2.out.size))).1
                have f1 : ∀ x : BelowW w5, x.v.cell? ⟨z2, 2, none⟩ = some (.slice (some ⟨b', o', none⟩) R.length vc) := fun x => (TC.out x.v (hb2.out.trans (x.h.mono hb2.out.size))).2.2.1
                have f2 : ∀ x : BelowW w5, x.v.cell? ⟨b', o' + k * 2, none⟩ = some (.slice ka2 kn2 kc2) := fun x => (RC.out x.v (hb2.out.trans (x.h.mono hb2.out.size))).1
                have q1 : ∀ x : BelowW w5, (convert 22 9 (.slice ka kn kc)).run Tryz.prog x.v = .ok (.string ⟨K.toArray⟩) x.v := fun x => (TC.out x.v (hb2.out.trans (x.h.mono hb2.out.size))).2.2.2
                have q2 : ∀ x : BelowW w5, (convert 22 9 (.slice ka2 kn2 kc2)).run Tryz.prog x.v = .ok (.string ⟨K.toArray⟩) x.v := fun x => (RC.out x.v (hb2.out.trans (x.h.mono hb2.out.size))).2.2
                refine wp_region_below w5 (by kernel_rfl) (by kernel_rfl) (Below.refl _ _) ?_
                repeat (go_big_quiet_step (fail))
                refine wpQuiet_nil ?_
                intro _ hw'
                obtain ⟨y2, hw''⟩ := hw'
                subst hw''
                clear f0 f1 f2 q1 q2
                have hb3 := Lib.hid (hb2.out.trans (y2.h.mono hb2.out.size))
                have ho3 := Lib.hid (ho2.out.below y2.h)
                go_wp2_with (fail)
                go_roundw
                case rel => exact ⟨k + 1, a5, m5, c5, S ++ [(K, N)], true, by go_num, by omega, rfl, rfl, Hm5, Lib.hid (by rw [Hft.out]; rw [HlE.out]; rw [if_pos HreE.out]; simp), ho3, hb3, Lib.hid (by have := hsl.out; simp; omega)⟩
                case measure => simp [intOf]; omega

              · have HreE := Lib.hid hre
                have hne1 : (r1 == K) = false := by simpa using hre
                have hne2 : (r1 != K) = true := by simpa using hre
                have f0 : ∀ x : BelowW w5, x.v.cell? ⟨z, 0, none⟩ = some (.slice ka kn kc) := fun x => (TC.out x.v (hb2.out.trans (x.h.mono hb2.out.size))).1
                have f1 : ∀ x : BelowW w5, x.v.cell? ⟨z2, 2, none⟩ = some (.slice (some ⟨b', o', none⟩) R.length vc) := fun x => (TC.out x.v (hb2.out.trans (x.h.mono hb2.out.size))).2.2.1
                have f2 : ∀ x : BelowW w5, x.v.cell? ⟨b', o' + k * 2, none⟩ = some (.slice ka2 kn2 kc2) := fun x => (RC.out x.v (hb2.out.trans (x.h.mono hb2.out.size))).1
                have q1 : ∀ x : BelowW w5, (convert 22 9 (.slice ka kn kc)).run Tryz.prog x.v = .ok (.string ⟨K.toArray⟩) x.v := fun x => (TC.out x.v (hb2.out.trans (x.h.mono hb2.out.size))).2.2.2
                have q2 : ∀ x : BelowW w5, (convert 22 9 (.slice ka2 kn2 kc2)).run Tryz.prog x.v = .ok (.string ⟨r1.toArray⟩) x.v := fun x => (RC.out x.v (hb2.out.trans (x.h.mono hb2.out.size))).2.2
                refine wp_region_below w5 (by kernel_rfl) (by kernel_rfl) (Below.refl _ _) ?_
                repeat (go_big_quiet_step (fail))
                refine wpQuiet_nil ?_
                intro _ hw'
                obtain ⟨y2, hw''⟩ := hw'
                subst hw''
                clear f0 f1 f2 q1 q2
                have hb3 := Lib.hid (hb2.out.trans (y2.h.mono hb2.out.size))
                have ho3 := Lib.hid (ho2.out.below y2.h)
                obtain ⟨t0, t1, t2, -⟩ := TC.out y2.v hb3.out
                obtain ⟨u0', u1', -⟩ := RC.out y2.v hb3.out
                have HA2 := Lib.hid ((Below.refl y2.v.heap.size y2.v).alloc (Nat.le_refl _) (.cells #[.slice ka2 kn2 kc2, .slice va2 vn2 vc2] 60))
                have hbA2 := Lib.hid (hb3.out.trans (HA2.out.mono hb3.out.size))
                have hge2 := Lib.hid (fun b e => (ho3.out.own_ge b e).1 : ∀ b, (Value.slice a5 m5 c5).ownBlock = some b → w4.heap.size ≤ b)
                have hrc2 : Hid (RowsCells (y2.v.alloc (.cells #[.slice ka2 kn2 kc2, .slice va2 vn2 vc2] 60)) (Value.slice a5 m5 c5).ownBlock [.slice ka2 kn2 kc2, .slice va2 vn2 vc2] [r]) := Lib.hid ⟨slb_old H3.out hbA2.out (Nat.le_refl _) hbA2.out.size hge2.out, slb_old H4.out hbA2.out (Nat.le_refl _) hbA2.out.size hge2.out, trivial⟩
                obtain ⟨m6, hm6⟩ : ∃ m6, m6 = (S ++ [(K, N)] ++ [r]).length := ⟨_, rfl⟩
                have Hm6 := Lib.hid hm6
                clear hm6
                go_wp2_with (at_builtin; refine wpList_append_rows_or rfl (.tmp 88) (.tmp 94) rfl w4.heap.size _ (S ++ [(K, N)]) [r] rfl (ho3.out.below HA2.out) ⟨y2.v.heap.size, 0, none⟩ 1 [.slice ka2 kn2 kc2, .slice va2 vn2 vc2] rfl (by simp) (World.news_of_block (heap_alloc_new _ _)) hrc2.out (by rw [World.size_alloc]; have := hb3.out.size; omega) (by have := hsl.out; simp; omega) ?_; intro a6 c6 w6 ho6 hg6; rw [← Hm6.out] at ho6 ⊢; have ho7 := Lib.hid ho6; have hb7 := Lib.hid (hbA2.out.grown hg6 (by rw [World.size_alloc]; have := hb3.out.size; omega) (fun b e => hge2.out b e)); clear ho6 hg6)
                go_roundw
                case rel => exact ⟨k + 1, a6, m6, c6, S ++ [(K, N)] ++ [r], true, by go_num, by omega, rfl, rfl, Hm6, Lib.hid (by rw [Hft.out]; rw [HlE.out]; rw [if_neg HreE.out]; simp), ho7, hb7, Lib.hid (by have := hsl.out; simp; omega)⟩
                case measure => simp [intOf]; omega


            | false =>
              by_cases hkr : K = r1
              · have HlE := Lib.hid (show leB K r1 = true by rw [leB_eq, hl]; simpa using hkr)
                have hkb : (K == r1) = true := by simpa using hkr
                have hre : r1 = K := hkr.symm
                have hkb2 : (r1 == K) = true := by simpa using hkr.symm
                clear hkr
                have f0 : ∀ x : BelowW wk, x.v.cell? ⟨z, 0, none⟩ = some (.slice ka kn kc) := fun x => (TC.out x.v (hb.out.trans (x.h.mono hb.out.size))).1
                have f1 : ∀ x : BelowW wk, x.v.cell? ⟨z2, 2, none⟩ = some (.slice (some ⟨b', o', none⟩) R.length vc) := fun x => (TC.out x.v (hb.out.trans (x.h.mono hb.out.size))).2.2.1
                have f2 : ∀ x : BelowW wk, x.v.cell? ⟨b', o' + k * 2, none⟩ = some (.slice ka2 kn2 kc2) := fun x => (RC.out x.v (hb.out.trans (x.h.mono hb.out.size))).1
                have q1 : ∀ x : BelowW wk, (convert 22 9 (.slice ka kn kc)).run Tryz.prog x.v = .ok (.string ⟨K.toArray⟩) x.v := fun x => (TC.out x.v (hb.out.trans (x.h.mono hb.out.size))).2.2.2
                have q2 : ∀ x : BelowW wk, (convert 22 9 (.slice ka2 kn2 kc2)).run Tryz.prog x.v = .ok (.string ⟨r1.toArray⟩) x.v := fun x => (RC.out x.v (hb.out.trans (x.h.mono hb.out.size))).2.2
                go_wp2_with (fail)
                refine wp_region_below wk (by kernel_rfl) (by kernel_rfl) (Below.refl _ _) ?_
                repeat (go_big_quiet_step (fail))
                refine wpQuiet_nil ?_
                intro _ hw'
                obtain ⟨y1, hw''⟩ := hw'
                subst hw''
                clear f0 f1 f2 q1 q2
                have hb1 := Lib.hid (hb.out.trans (y1.h.mono hb.out.size))
                have ho1 := Lib.hid (ho.out.below y1.h)
                clear t0 t1 t2
                obtain ⟨t0, t1, t2, -⟩ := TC.out y1.v hb1.out
                have HA := Lib.hid ((Below.refl y1.v.heap.size y1.v).alloc (Nat.le_refl _) (.cells #[.slice ka kn kc, .slice na nn nc] 60))
                have hbA := Lib.hid (hb1.out.trans (HA.out.mono hb1.out.size))
                have hge := Lib.hid (fun b e => (ho1.out.own_ge b e).1 : ∀ b, (Value.slice la m lc).ownBlock = some b → w4.heap.size ≤ b)
                have hrc : Hid (RowsCells (y1.v.alloc (.cells #[.slice ka kn kc, .slice na nn nc] 60)) (Value.slice la m lc).ownBlock [.slice ka kn kc, .slice na nn nc] [(K, N)]) := Lib.hid ⟨slb_old HK4.out hbA.out hbw4B hbA.out.size hge.out, slb_old HN4.out hbA.out hbw4B hbA.out.size hge.out, trivial⟩
                obtain ⟨m5, hm5⟩ : ∃ m5, m5 = (S ++ [(K, N)]).length := ⟨_, rfl⟩
                have Hm5 := Lib.hid hm5
                clear hm5
                go_wp2_with (at_builtin; refine wpList_append_rows_or rfl (.tmp 69) (.tmp 75) rfl w4.heap.size _ S [(K, N)] rfl (ho1.out.below HA.out) ⟨y1.v.heap.size, 0, none⟩ 1 [.slice ka kn kc, .slice na nn nc] rfl (by simp) (World.news_of_block (heap_alloc_new _ _)) hrc.out (by rw [World.size_alloc]; have := hb1.out.size; omega) (by have := hsl.out; simp; omega) ?_; intro a5 c5 w5 ho5 hg5; rw [← Hm5.out] at ho5 ⊢; have ho2 := Lib.hid ho5; have hb2 := Lib.hid (hbA.out.grown hg5 (by rw [World.size_alloc]; have := hb1.out.size; omega) (fun b e => hge.out b e)); clear ho5 hg5)
                clear t0 t1 t2
                have HreE := Lib.hid hre
                rw [hre] at RC
                clear hre
                have f0 : ∀ x : BelowW w5, x.v.cell? ⟨z, 0, none⟩ = some (.slice ka kn kc) := fun x => (TC.out x.v (hb2.out.trans (x.h.mono hb2.out.size))).1
                have f1 : ∀ x : BelowW w5, x.v.cell? ⟨z2, 2, none⟩ = some (.slice (some ⟨b', o', none⟩) R.length vc) := fun x => (TC.out x.v (hb2.out.trans (x.h.mono hb2.out.size))).2.2.1
                have f2 : ∀ x : BelowW w5, x.v.cell? ⟨b', o' + k * 2, none⟩ = some (.slice ka2 kn2 kc2) := fun x => (RC.out x.v (hb2.out.trans (x.h.mono hb2.out.size))).1
                have q1 : ∀ x : BelowW w5, (convert 22 9 (.slice ka kn kc)).run Tryz.prog x.v = .ok (.string ⟨K.toArray⟩) x.v := fun x => (TC.out x.v (hb2.out.trans (x.h.mono hb2.out.size))).2.2.2
                have q2 : ∀ x : BelowW w5, (convert 22 9 (.slice ka2 kn2 kc2)).run Tryz.prog x.v = .ok (.string ⟨K.toArray⟩) x.v := fun x => (RC.out x.v (hb2.out.trans (x.h.mono hb2.out.size))).2.2
                refine wp_region_below w5 (by kernel_rfl) (by kernel_rfl) (Below.refl _ _) ?_
                repeat (go_big_quiet_step (fail))
                refine wpQuiet_nil ?_
                intro _ hw'
                obtain ⟨y2, hw''⟩ := hw'
                subst hw''
                clear f0 f1 f2 q1 q2
                have hb3 := Lib.hid (hb2.out.trans (y2.h.mono hb2.out.size))
                have ho3 := Lib.hid (ho2.out.below y2.h)
                go_wp2_with (fail)
                go_roundw
                case rel => exact ⟨k + 1, a5, m5, c5, S ++ [(K, N)], true, by go_num, by omega, rfl, rfl, Hm5, Lib.hid (by rw [Hft.out]; rw [HlE.out]; rw [if_pos HreE.out]; simp), ho3, hb3, Lib.hid (by have := hsl.out; simp; omega)⟩
                case measure => simp [intOf]; omega

              · have HlE := Lib.hid (show leB K r1 = false by rw [leB_eq, hl]; simpa using hkr)
                have hkb : (K == r1) = false := by simpa using hkr
                clear hkr
                have f0 : ∀ x : BelowW wk, x.v.cell? ⟨z, 0, none⟩ = some (.slice ka kn kc) := fun x => (TC.out x.v (hb.out.trans (x.h.mono hb.out.size))).1
                have f1 : ∀ x : BelowW wk, x.v.cell? ⟨z2, 2, none⟩ = some (.slice (some ⟨b', o', none⟩) R.length vc) := fun x => (TC.out x.v (hb.out.trans (x.h.mono hb.out.size))).2.2.1
                have f2 : ∀ x : BelowW wk, x.v.cell? ⟨b', o' + k * 2, none⟩ = some (.slice ka2 kn2 kc2) := fun x => (RC.out x.v (hb.out.trans (x.h.mono hb.out.size))).1
                have q1 : ∀ x : BelowW wk, (convert 22 9 (.slice ka kn kc)).run Tryz.prog x.v = .ok (.string ⟨K.toArray⟩) x.v := fun x => (TC.out x.v (hb.out.trans (x.h.mono hb.out.size))).2.2.2
                have q2 : ∀ x : BelowW wk, (convert 22 9 (.slice ka2 kn2 kc2)).run Tryz.prog x.v = .ok (.string ⟨r1.toArray⟩) x.v := fun x => (RC.out x.v (hb.out.trans (x.h.mono hb.out.size))).2.2
                go_wp2_with (fail)
                refine wp_region_below wk (by kernel_rfl) (by kernel_rfl) (Below.refl _ _) ?_
                repeat (go_big_quiet_step (fail))
                refine wpQuiet_nil ?_
                intro _ hw'
                obtain ⟨y1, hw''⟩ := hw'
                subst hw''
                clear f0 f1 f2 q1 q2
                have hb1 := Lib.hid (hb.out.trans (y1.h.mono hb.out.size))
                have ho1 := Lib.hid (ho.out.below y1.h)
                clear t0 t1 t2
                by_cases hre : r1 = K
                · have HreE := Lib.hid hre
                  rw [hre] at RC
                  clear hre
                  have f0 : ∀ x : BelowW y1.v, x.v.cell? ⟨z, 0, none⟩ = some (.slice ka kn kc) := fun x => (TC.out x.v (hb1.out.trans (x.h.mono hb1.out.size))).1
                  have f1 : ∀ x : BelowW y1.v, x.v.cell? ⟨z2, 2, none⟩ = some (.slice (some ⟨b', o', none⟩) R.length vc) := fun x => (TC.out x.v (hb1.out.trans (x.h.mono hb1.out.size))).2.2.1
                  have f2 : ∀ x : BelowW y1.v, x.v.cell? ⟨b', o' + k * 2, none⟩ = some (.slice ka2 kn2 kc2) := fun x => (RC.out x.v (hb1.out.trans (x.h.mono hb1.out.size))).1
                  have q1 : ∀ x : BelowW y1.v, (convert 22 9 (.slice ka kn kc)).run Tryz.prog x.v = .ok (.string ⟨K.toArray⟩) x.v := fun x => (TC.out x.v (hb1.out.trans (x.h.mono hb1.out.size))).2.2.2
                  have q2 : ∀ x : BelowW y1.v, (convert 22 9 (.slice ka2 kn2 kc2)).run Tryz.prog x.v = .ok (.string ⟨K.toArray⟩) x.v := fun x => (RC.out x.v (hb1.out.trans (x.h.mono hb1.out.size))).2.2
                  go_wp2_with (fail)
                  refine wp_region_below y1.v (by kernel_rfl) (by kernel_rfl) (Below.refl _ _) ?_
                  repeat (go_big_quiet_step (fail))
                  refine wpQuiet_nil ?_
                  intro _ hw'
                  obtain ⟨y2, hw''⟩ := hw'
                  subst hw''
                  clear f0 f1 f2 q1 q2
                  have hb3 := Lib.hid (hb1.out.trans (y2.h.mono hb1.out.size))
                  have ho3 := Lib.hid (ho1.out.below y2.h)
                  go_wp2_with (fail)
                  go_roundw
                  case rel => exact ⟨k + 1, la, m, lc, S, false, by go_num, by omega, rfl, rfl, hm, Lib.hid (by rw [Hft.out]; rw [HlE.out]; rw [if_pos HreE.out]; simp), ho3, hb3, Lib.hid (by have := hsl.out; simp; omega)⟩
                  case measure => simp [intOf]; omega

                · have HreE := Lib.hid hre
                  have hne1 : (r1 == K) = false := by simpa using hre
                  have hne2 : (r1 != K) = true := by simpa using hre
                  have f0 : ∀ x : BelowW y1.v, x.v.cell? ⟨z, 0, none⟩ = some (.slice ka kn kc) := fun x => (TC.out x.v (hb1.out.trans (x.h.mono hb1.out.size))).1
                  have f1 : ∀ x : BelowW y1.v, x.v.cell? ⟨z2, 2, none⟩ = some (.slice (some ⟨b', o', none⟩) R.length vc) := fun x => (TC.out x.v (hb1.out.trans (x.h.mono hb1.out.size))).2.2.1
                  have f2 : ∀ x : BelowW y1.v, x.v.cell? ⟨b', o' + k * 2, none⟩ = some (.slice ka2 kn2 kc2) := fun x => (RC.out x.v (hb1.out.trans (x.h.mono hb1.out.size))).1
                  have q1 : ∀ x : BelowW y1.v, (convert 22 9 (.slice ka kn kc)).run Tryz.prog x.v = .ok (.string ⟨K.toArray⟩) x.v := fun x => (TC.out x.v (hb1.out.trans (x.h.mono hb1.out.size))).2.2.2
                  have q2 : ∀ x : BelowW y1.v, (convert 22 9 (.slice ka2 kn2 kc2)).run Tryz.prog x.v = .ok (.string ⟨r1.toArray⟩) x.v := fun x => (RC.out x.v (hb1.out.trans (x.h.mono hb1.out.size))).2.2
                  go_wp2_with (fail)
                  refine wp_region_below y1.v (by kernel_rfl) (by kernel_rfl) (Below.refl _ _) ?_
                  repeat (go_big_quiet_step (fail))
                  refine wpQuiet_nil ?_
                  intro _ hw'
                  obtain ⟨y2, hw''⟩ := hw'
                  subst hw''
                  clear f0 f1 f2 q1 q2
                  have hb3 := Lib.hid (hb1.out.trans (y2.h.mono hb1.out.size))
                  have ho3 := Lib.hid (ho1.out.below y2.h)
                  obtain ⟨t0, t1, t2, -⟩ := TC.out y2.v hb3.out
                  obtain ⟨u0', u1', -⟩ := RC.out y2.v hb3.out
                  have HA2 := Lib.hid ((Below.refl y2.v.heap.size y2.v).alloc (Nat.le_refl _) (.cells #[.slice ka2 kn2 kc2, .slice va2 vn2 vc2] 60))
                  have hbA2 := Lib.hid (hb3.out.trans (HA2.out.mono hb3.out.size))
                  have hge2 := Lib.hid (fun b e => (ho3.out.own_ge b e).1 : ∀ b, (Value.slice la m lc).ownBlock = some b → w4.heap.size ≤ b)
                  have hrc2 : Hid (RowsCells (y2.v.alloc (.cells #[.slice ka2 kn2 kc2, .slice va2 vn2 vc2] 60)) (Value.slice la m lc).ownBlock [.slice ka2 kn2 kc2, .slice va2 vn2 vc2] [r]) := Lib.hid ⟨slb_old H3.out hbA2.out (Nat.le_refl _) hbA2.out.size hge2.out, slb_old H4.out hbA2.out (Nat.le_refl _) hbA2.out.size hge2.out, trivial⟩
                  obtain ⟨m6, hm6⟩ : ∃ m6, m6 = (S ++ [r]).length := ⟨_, rfl⟩
                  have Hm6 := Lib.hid hm6
                  clear hm6
                  go_wp2_with (at_builtin; refine wpList_append_rows_or rfl (.tmp 88) (.tmp 94) rfl w4.heap.size _ (S) [r] rfl (ho3.out.below HA2.out) ⟨y2.v.heap.size, 0, none⟩ 1 [.slice ka2 kn2 kc2, .slice va2 vn2 vc2] rfl (by simp) (World.news_of_block (heap_alloc_new _ _)) hrc2.out (by rw [World.size_alloc]; have := hb3.out.size; omega) (by have := hsl.out; simp; omega) ?_; intro a6 c6 w6 ho6 hg6; rw [← Hm6.out] at ho6 ⊢; have ho7 := Lib.hid ho6; have hb7 := Lib.hid (hbA2.out.grown hg6 (by rw [World.size_alloc]; have := hb3.out.size; omega) (fun b e => hge2.out b e)); clear ho6 hg6)
                  go_roundw
                  case rel => exact ⟨k + 1, a6, m6, c6, S ++ [r], false, by go_num, by omega, rfl, rfl, Hm6, Lib.hid (by rw [Hft.out]; rw [HlE.out]; rw [if_neg HreE.out]; simp), ho7, hb7, Lib.hid (by have := hsl.out; simp; omega)⟩
                  case measure => simp [intOf]; omega


        · have hS : tFin K N (S, p) = put R K N := by
            have h := turn_rows Hup.out K N
            rw [← Hpz.out] at h
            have e : R.take k = R := List.take_of_length_le (by omega)
            rw [← h, ← hfold.out, e]
          have HS := Lib.hid hS
          clear hS
          have hbw := Lib.hid (Hbw4.out.trans (hb.out.mono Hbw4.out.size))
          have hsR : (put R K N).length ≤ 600 ∧ (enc (put R K N)).length ≤ 100000 := put_bd HS.out (by have := hsl.out; omega) hkm hnm Hkl.out Hnl.out Htb.out B3.out
          have HsR := Lib.hid hsR
          clear hsR
          cases p with
          | true =>
            have hS2 : S = put R K N := HS.out
            rw [hS2] at ho hm
            have hp5 := Lib.hid (Hp34.out.below hb.out hz2l)
            obtain ⟨e0, e1, e2⟩ := hp5.out.cells
            obtain ⟨g0, g1, g2⟩ := hp5.out.frozen
            have hp6 := Lib.hid (hp5.out.set2 (.slice la m lc))
            have hrow := Lib.hid (ho.out.rows_p3 hp5.out hz2l (.slice la m lc))
            have hpg := Lib.hid (((Hp.out.below hbw.out Hp.out.lt)).mod (Mod.set z2 (Mod.refl z2 wk) 2 (.slice la m lc)) (by have := Hz.out; omega))
            have hmd := Lib.hid (Mod.of_below (g := g) (hbw.out.setCell (p := ⟨z2, 2, none⟩) (by show w.heap.size ≤ z2; have := Hz.out; omega) (.slice la m lc)))
            obtain ⟨w7, hw7⟩ : ∃ w7, w7 = wk.setCell ⟨z2, 2, none⟩ (.slice la m lc) := ⟨_, rfl⟩
            have Hw7 := Lib.hid hw7
            rw [← hw7] at hp6 hrow hpg hmd
            clear hw7
            have HSet := Lib.hid (set_any g c y nx L X la m lc (put R K N) w7 hpg.out B1.out B2.out hrow.out HsR.out.2 (by have := HsR.out.1; omega))
            unfold SetPost at HSet
            by_cases hfit : (enc (put R K N)).length ≤ 501
            · rw [decide_eq_true hfit, if_pos hfit] at HSet
              have hT : Hid (turnL L K O N = (0, mkP (headOf y nx) (put R K N))) := Lib.hid (by rw [Hturn2.out, if_neg (by omega)])
              clear hfit
              go_upto_region 22 with (fail)
              rw [← Hw7.out]
              obtain ⟨c0, c1, c2⟩ := hp6.out.cells
              go_wp2_with (go_at_call 121; refine HSet.out.mono ?_; rintro e w8 ⟨rfl, h8, h9⟩; have H8 := Lib.hid h8; have H9 := Lib.hid h9; clear h8 h9)
              go_ret
              unfold TurnPost
              rw [hT.out]
              exact ⟨rfl, H8.out, hmd.out.trans H9.out⟩
            · rw [decide_eq_false hfit, if_neg hfit] at HSet
              have hT : Hid (turnL L K O N = (5, L)) := Lib.hid (by rw [Hturn2.out, if_pos (by omega)])
              clear hfit
              go_upto_region 22 with (fail)
              rw [← Hw7.out]
              obtain ⟨c0, c1, c2⟩ := hp6.out.cells
              go_wp2_with (go_at_call 121; refine HSet.out.mono ?_; rintro e w8 ⟨rfl, h8, h9⟩; have H8 := Lib.hid h8; have H9 := Lib.hid h9; clear h8 h9)
              go_ret
              unfold TurnPost
              rw [hT.out]
              exact ⟨rfl, H8.out, hmd.out.trans H9.out⟩
          | false =>
            have hS2 : S ++ [(K, N)] = put R K N := HS.out
            have HA2 := Lib.hid ((Below.refl wk.heap.size wk).alloc (Nat.le_refl _) (.cells #[.slice ka kn kc, .slice na nn nc] 60))
            have hbA2 := Lib.hid (hb.out.trans (HA2.out.mono hb.out.size))
            have hge2 := Lib.hid (fun b e => (ho.out.own_ge b e).1 : ∀ b, (Value.slice la m lc).ownBlock = some b → w4.heap.size ≤ b)
            have hrc2 : Hid (RowsCells (wk.alloc (.cells #[.slice ka kn kc, .slice na nn nc] 60)) (Value.slice la m lc).ownBlock [.slice ka kn kc, .slice na nn nc] [(K, N)]) := Lib.hid ⟨slb_old HK4.out hbA2.out hbw4B hbA2.out.size hge2.out, slb_old HN4.out hbA2.out hbw4B hbA2.out.size hge2.out, trivial⟩
            obtain ⟨m6, hm6⟩ : ∃ m6, m6 = (S ++ [(K, N)]).length := ⟨_, rfl⟩
            have Hm6 := Lib.hid hm6
            have HS2 := Lib.hid hS2
            clear hm6 hS2
            go_upto_region 21 with (at_builtin; refine wpList_append_rows_or rfl (.tmp 98) (.tmp 104) rfl w4.heap.size _ S [(K, N)] rfl (ho.out.below HA2.out) ⟨wk.heap.size, 0, none⟩ 1 [.slice ka kn kc, .slice na nn nc] rfl (by simp) (World.news_of_block (heap_alloc_new _ _)) hrc2.out (by rw [World.size_alloc]; have := hb.out.size; omega) (by have := hsl.out; simp; omega) ?_; intro a6 c6 w6 ho6 hg6; rw [← Hm6.out] at ho6 ⊢; rw [HS2.out] at ho6; have ho7 := Lib.hid ho6; have hb7 := Lib.hid (hbA2.out.grown hg6 (by rw [World.size_alloc]; have := hb.out.size; omega) (fun b e => hge2.out b e)); clear ho6 hg6)
            clear t0 t1 t2
            have hbw6 := Lib.hid (Hbw4.out.trans (hb7.out.mono Hbw4.out.size))
            have hp5 := Lib.hid (Hp34.out.below hb7.out hz2l)
            obtain ⟨e0, e1, e2⟩ := hp5.out.cells
            obtain ⟨g0, g1, g2⟩ := hp5.out.frozen
            have hp6 := Lib.hid (hp5.out.set2 (.slice a6 m6 c6))
            have hrow := Lib.hid (ho7.out.rows_p3 hp5.out hz2l (.slice a6 m6 c6))
            have hpg := Lib.hid (((Hp.out.below hbw6.out Hp.out.lt)).mod (Mod.set z2 (Mod.refl z2 w6) 2 (.slice a6 m6 c6)) (by have := Hz.out; omega))
            have hmd := Lib.hid (Mod.of_below (g := g) (hbw6.out.setCell (p := ⟨z2, 2, none⟩) (by show w.heap.size ≤ z2; have := Hz.out; omega) (.slice a6 m6 c6)))
            obtain ⟨w7, hw7⟩ : ∃ w7, w7 = w6.setCell ⟨z2, 2, none⟩ (.slice a6 m6 c6) := ⟨_, rfl⟩
            have Hw7 := Lib.hid hw7
            rw [← hw7] at hp6 hrow hpg hmd
            clear hw7
            have HSet := Lib.hid (set_any g c y nx L X a6 m6 c6 (put R K N) w7 hpg.out B1.out B2.out hrow.out HsR.out.2 (by have := HsR.out.1; omega))
            unfold SetPost at HSet
            by_cases hfit : (enc (put R K N)).length ≤ 501
            · rw [decide_eq_true hfit, if_pos hfit] at HSet
              have hT : Hid (turnL L K O N = (0, mkP (headOf y nx) (put R K N))) := Lib.hid (by rw [Hturn2.out, if_neg (by omega)])
              clear hfit
              go_upto_region 22 with (fail)
              rw [← Hw7.out]
              obtain ⟨c0, c1, c2⟩ := hp6.out.cells
              go_wp2_with (go_at_call 121; refine HSet.out.mono ?_; rintro e w8 ⟨rfl, h8, h9⟩; have H8 := Lib.hid h8; have H9 := Lib.hid h9; clear h8 h9)
              go_ret
              unfold TurnPost
              rw [hT.out]
              exact ⟨rfl, H8.out, hmd.out.trans H9.out⟩
            · rw [decide_eq_false hfit, if_neg hfit] at HSet
              have hT : Hid (turnL L K O N = (5, L)) := Lib.hid (by rw [Hturn2.out, if_pos (by omega)])
              clear hfit
              go_upto_region 22 with (fail)
              rw [← Hw7.out]
              obtain ⟨c0, c1, c2⟩ := hp6.out.cells
              go_wp2_with (go_at_call 121; refine HSet.out.mono ?_; rintro e w8 ⟨rfl, h8, h9⟩; have H8 := Lib.hid h8; have H9 := Lib.hid h9; clear h8 h9)
              go_ret
              unfold TurnPost
              rw [hT.out]
              exact ⟨rfl, H8.out, hmd.out.trans H9.out⟩
    · have H6 : Hid (turnL L K O N = (6, L)) := Lib.hid (by rw [Hturn1.out, if_pos hold])
      have hcase : ((got R K).isSome ≠ decide (0 < on)) ∨ ((got R K).isSome = decide (0 < on) ∧ (got R K).getD [] ≠ O) := by
        by_cases hO : O = []
        · rw [if_pos hO] at hold
          left
          have h0 : on = 0 := by rw [Hol.out, hO]; rfl
          rw [h0]
          cases hg : got R K with
          | none => exact absurd hg hold
          | some v => simp
        · rw [if_neg hO] at hold
          have h0 : 0 < on := by rw [Hol.out]; exact List.length_pos_iff.2 hO
          rw [decide_eq_true h0]
          cases hg : got R K with
          | none => left; simp
          | some v => right; exact ⟨rfl, fun e => hold (by rw [hg]; exact congrArg some e)⟩
      clear hold
      have fin : ∀ w5, w4 = w5 → PG w5 g c L X ∧ Mod g w w5 := fun w5 e => e ▸ ⟨Hp.out.below Hbw4.out Hp.out.lt, Mod.of_below Hbw4.out⟩
      have Fin := Lib.hid fin
      clear fin
      generalize got R K = G at *
      rcases hcase with hc | ⟨hc, hc2⟩
      · have hne : (G.isSome != decide (0 < on)) = true := by simpa using hc
        have hne2 : (G.isSome == decide (0 < on)) = false := by simpa using hc
        go_wp2_with (fail)
        all_goals
          first
          | (go_ret
             unfold TurnPost
             rw [H6.out]
             exact ⟨rfl, Fin.out _ rfl⟩)
          | (exfalso; simp_all)
      · have hne : (G.getD [] == O) = false := by simpa using hc2
        have hne2 : (G.getD [] != O) = true := by simpa using hc2
        generalize G.isSome = gi at *
        subst hc
        go_wp2_with (fail)
        all_goals
          first
          | (go_ret
             unfold TurnPost
             rw [H6.out]
             exact ⟨rfl, Fin.out _ rfl⟩)
          | (exfalso; simp_all)
end Go.Proofs.YtbinikbgbgggaaaGreatDoor
