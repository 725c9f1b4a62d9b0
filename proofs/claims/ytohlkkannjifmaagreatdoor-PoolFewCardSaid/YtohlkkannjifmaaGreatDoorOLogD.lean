/- The log: Force's two closures. The log: Force's second closure; each; Force. -/
import Derived.Test.YtohlkkannjifmaaGreatDoorOLogB
namespace Go.Proofs.YtohlkkannjifmaaGreatDoor
open Go.RowKit
structure WaR (L : LK) (D : DK) (j : Nat) (Lj : LK) (Dj : DK) : Prop where
  eq : Lj = { L with sheets := Lj.sheets }
  drop : Lj.sheets.drop j = L.sheets.drop j
  len : Lj.sheets.length = L.sheets.length
  all : writeAll L L.sheets D = ((writeAll L (L.sheets.drop j) Dj).1, Lj.sheets.take j ++ (writeAll L (L.sheets.drop j) Dj).2.1, (writeAll L (L.sheets.drop j) Dj).2.2)
theorem WaR.start (L : LK) (D : DK) : WaR L D 0 L D := ⟨rfl, rfl, rfl, by simp⟩
theorem WaR.at_ {L : LK} {D : DK} {j : Nat} {Lj : LK} {Dj : DK} (h : WaR L D j Lj Dj) (hj : j < L.sheets.length) : Lj.sheets.getD j sh0 = L.sheets.getD j sh0 ∧ L.sheets.drop j = L.sheets.getD j sh0 :: L.sheets.drop (j + 1) ∧ Lj.sheets.drop (j + 1) = L.sheets.drop (j + 1) := by
  have h1 := h.drop
  have hl := h.len
  have e1 := List.drop_eq_getElem_cons hj
  have e2 := List.drop_eq_getElem_cons (l := Lj.sheets) (i := j) (by omega)
  rw [e1, e2] at h1
  injection h1 with h2 h3
  refine ⟨?_, ?_, h3⟩
  · rw [List.getD_eq_getElem?_getD, List.getElem?_eq_getElem (by omega), List.getD_eq_getElem?_getD, List.getElem?_eq_getElem hj, h2]
  · rw [e1, List.getD_eq_getElem?_getD, List.getElem?_eq_getElem hj]
    rfl
theorem set_split {α : Type} (l : List α) (j : Nat) (x : α) (h : j < l.length) : l.set j x = l.take j ++ x :: l.drop (j + 1) := List.set_eq_take_append_cons_drop .. |>.trans (if_pos h)
theorem WaR.same {L : LK} {D : DK} {j : Nat} {Lj : LK} {Dj : DK} (h : WaR L D j Lj Dj) (hj : j < L.sheets.length) (hw : (L.sheets.getD j sh0).wants = false) : WaR L D (j + 1) Lj Dj := by
  obtain ⟨e1, e2, e3⟩ := h.at_ hj
  refine ⟨h.eq, e3, h.len, ?_⟩
  rw [h.all, e2]
  conv => lhs; unfold writeAll
  rw [if_neg (by rw [hw]; simp)]
  have hl := h.len
  have e4 : Lj.sheets.take (j + 1) = Lj.sheets.take j ++ [L.sheets.getD j sh0] := by
    rw [List.take_succ_eq_append_getElem (by omega), ← e1, List.getD_eq_getElem?_getD, List.getElem?_eq_getElem (by omega)]
    rfl
  rw [e4]
  simp
theorem WaR.fields {L : LK} {D : DK} {j : Nat} {Lj : LK} {Dj : DK} (h : WaR L D j Lj Dj) : Lj.turn = L.turn ∧ Lj.first = L.first ∧ Lj.count = L.count := by
  have e := h.eq
  refine ⟨?_, ?_, ?_⟩ <;> rw [e]
theorem WaR.wrote {L : LK} {D : DK} {j : Nat} {Lj : LK} {Dj : DK} (h : WaR L D j Lj Dj) (hj : j < L.sheets.length) (hw : (L.sheets.getD j sh0).wants = true) (h0 : (Dj.write (L.sector (L.sheets.getD j sh0).num) (wrB L (L.sheets.getD j sh0))).1 = 0) :
    WaR L D (j + 1) (Lj.turned j) (Dj.write (L.sector (L.sheets.getD j sh0).num) (wrB L (L.sheets.getD j sh0))).2 := by
  obtain ⟨e1, e2, e3⟩ := h.at_ hj
  obtain ⟨f1, f2, f3⟩ := h.fields
  have hl := h.len
  have hs : (Lj.turned j).sheets = Lj.sheets.take j ++ { L.sheets.getD j sh0 with turn := L.turn } :: Lj.sheets.drop (j + 1) := by
    show Lj.sheets.set j _ = _
    rw [set_split _ _ _ (by omega), e1, f1]
  have hlen : (Lj.sheets.take j).length = j := by rw [List.length_take]; omega
  refine ⟨?_, ?_, ?_, ?_⟩
  · show ({ Lj with sheets := _ } : LK) = _
    rw [h.eq]
    rfl
  · rw [hs, List.drop_append, List.drop_of_length_le (by omega), hlen, List.nil_append, show j + 1 - j = 1 by omega]
    exact e3
  · show (Lj.sheets.set j _).length = _
    rw [List.length_set]; exact hl
  · rw [h.all, e2, hs]
    conv => lhs; unfold writeAll
    rw [if_pos hw]
    unfold wrB at h0 ⊢
    have ht : ∀ (x : ShV) (r : List ShV), (Lj.sheets.take j ++ x :: r).take (j + 1) = Lj.sheets.take j ++ [x] := fun x r => by
      rw [List.take_append, List.take_of_length_le (l := Lj.sheets.take j) (by omega), hlen, show j + 1 - j = 1 by omega]
      rfl
    rw [if_pos h0, ht]
    simp
theorem WaR.bad {L : LK} {D : DK} {j : Nat} {Lj : LK} {Dj : DK} (h : WaR L D j Lj Dj) (hj : j < L.sheets.length) (hw : (L.sheets.getD j sh0).wants = true) (h0 : (Dj.write (L.sector (L.sheets.getD j sh0).num) (wrB L (L.sheets.getD j sh0))).1 ≠ 0) :
    writeAll L L.sheets D = ((Dj.write (L.sector (L.sheets.getD j sh0).num) (wrB L (L.sheets.getD j sh0))).1, (Lj.turned j).sheets, (Dj.write (L.sector (L.sheets.getD j sh0).num) (wrB L (L.sheets.getD j sh0))).2) := by
  obtain ⟨e1, e2, e3⟩ := h.at_ hj
  obtain ⟨f1, f2, f3⟩ := h.fields
  have hl := h.len
  have hs : (Lj.turned j).sheets = Lj.sheets.take j ++ { L.sheets.getD j sh0 with turn := L.turn } :: Lj.sheets.drop (j + 1) := by
    show Lj.sheets.set j _ = _
    rw [set_split _ _ _ (by omega), e1, f1]
  rw [h.all, e2, hs]
  conv => lhs; unfold writeAll
  rw [if_pos hw]
  unfold wrB at h0 ⊢
  rw [if_neg h0, e3]
theorem WaR.turnedEq {L : LK} {D : DK} {j : Nat} {Lj : LK} {Dj : DK} (h : WaR L D j Lj Dj) : Lj.turned j = { L with sheets := (Lj.turned j).sheets } := by
  show ({ Lj with sheets := _ } : LK) = _
  rw [h.eq]
  rfl
theorem WaR.done {L : LK} {D : DK} {Lj : LK} {Dj : DK} (h : WaR L D L.sheets.length Lj Dj) : writeAll L L.sheets D = (0, Lj.sheets, Dj) := by
  have e := h.all
  rw [List.drop_of_length_le (Nat.le_refl _)] at e
  rw [e]
  have hl := h.len
  simp [writeAll, ← hl]
structure F1P (U : Nat → Prop) (l k : Nat) (L : LK) (d ds do_ kd : Nat) (D : DK) (sv tv : Value) (P : Nat → Nat) (V : Nat → Value) (w w' : World) : Prop where
  lf : LF w' U l d k { L with sheets := (writeAll L L.sheets D).2.1 } sv tv P V
  dk : DiskR w' d ds do_ (kd + L.sheets.length) (writeAll L L.sheets D).2.2
  tr : Trn (fun g => U g ∨ DB d ds do_ g) w w'
set_option maxRecDepth 100000 in
set_option maxHeartbeats 4000000 in
theorem force1_any (U : Nat → Prop) (l k : Nat) (L : LK) (d ds do_ kd : Nat) (D : DK) (sv tv : Value) (P : Nat → Nat) (V : Nat → Value) (fb : Nat) (w : World) (h : LF w U l d k L sv tv P V) (hD : DiskR w d ds do_ kd D) (hne : ∀ g, DB d ds do_ g → ¬ U g) (hkd : kd + L.sheets.length ≤ 1000000000)
    (hf : w.heap[fb]? = some (.cells #[ptr l] 41 (0, 0))) (hfu : ¬ U fb) (hfd : ¬ DB d ds do_ fb) :
    Calls Tryz.prog 61 #[.pointer (some ⟨fb, 0, none⟩)] w fun e w' => e = .returned (.int .i64 (writeAll L L.sheets D).1) ∧ F1P U l k L d ds do_ kd D sv tv P V w w' := by
  obtain ⟨g, cap, rfl, hle, hcp, hn8, hcell⟩ := h.get
  have c0 : w.cell? ⟨fb, 0, none⟩ = some (.pointer (some ⟨l, 0, none⟩)) := cell_of_row _ _ 0 _ _ _ hf
  have c5 : w.cell? ⟨l, 5, none⟩ = some (.slice (some ⟨g, 0, none⟩) L.sheets.length cap) := cell_of_row _ _ 5 _ _ _ h.blk
  have HF := Lib.hid hf
  have HNU := Lib.hid hfu
  have HND := Lib.hid hfd
  have HNE := Lib.hid hne
  have H0 := Lib.hid h
  have HD0 := Lib.hid hD
  have HKd := Lib.hid hkd
  have HFl : Hid (fb < w.heap.size) := Lib.hid (lt_of_heap' hf)
  obtain ⟨n, hn⟩ : ∃ n, n = L.sheets.length := ⟨_, rfl⟩
  rw [← hn] at c5 hle hn8
  have HN := Lib.hid hn
  clear h hD hne hf hfu hfd hkd hcell hn
  go_enter Tryz.func61, Tryz.ntmps61
  go_wp2_with (fail)
  go_loopw [10] (fun i wr => ∃ j : Nat, j ≤ n ∧ i = .int .i64 j ∧ ∃ Lj Dj, Hid (WaR L D j Lj Dj) ∧ Hid (LF wr U l d k Lj (.slice (some ⟨g, 0, none⟩) L.sheets.length cap) tv P V) ∧ Hid (DiskR wr d ds do_ (kd + j) Dj) ∧ Hid (Trn (fun g => U g ∨ DB d ds do_ g) w wr)) (fun i _ => n - (inOf i).toNat)
  case atStart => exact ⟨0, Nat.zero_le _, rfl, L, D, Lib.hid (WaR.start L D), H0, HD0, Lib.hid (Trn.refl _ _)⟩
  case round =>
    obtain ⟨j, hj, rfl, Lj, Dj, HW, HL, HDj, HT⟩ := hrel
    by_cases hlt : j < n
    · have hjl : j < L.sheets.length := by have := HN.out; omega
      have hjl2 : j < Lj.sheets.length := by have := HW.out.len; omega
      have d0 : wr.cell? ⟨fb, 0, none⟩ = some (.pointer (some ⟨l, 0, none⟩)) := (World.cell?_of_block (w := w) (HT.out.block fb HFl.out (fun h => by rcases h with h | h; exact HNU.out h; exact HND.out h))).trans c0
      have gj : wr.cell? ⟨g, j, none⟩ = some (.pointer (some ⟨P j, 0, none⟩)) := by
        obtain ⟨g', cap', e, -, -, -, hc⟩ := HL.out.get
        obtain ⟨ea, -, -⟩ := Value.slice.inj e
        cases ea
        exact hc j hjl2
      have HWr := Lib.hid (lwrite_any U l k Lj d ds do_ (kd + j) Dj _ tv P V j wr HL.out HDj.out HNE.out hjl2 (by have := HKd.out; omega))
      have f2 : IntKind.i64.wrap ((j : Int) + 1) = ((j + 1 : Nat) : Int) := by rw [IntWalk.i64_in _ (by omega)]; omega
      obtain ⟨z1, z2, z3⟩ := HW.out.at_ hjl
      obtain ⟨y1, y2, y3⟩ := HW.out.fields
      have hwr : wrB Lj (Lj.sheets.getD j sh0) = wrB L (L.sheets.getD j sh0) := by unfold wrB; rw [z1, y1]
      have hse : Lj.sector (Lj.sheets.getD j sh0).num = L.sector (L.sheets.getD j sh0).num := by unfold LK.sector; rw [z1, y2, y3]
      unfold WrP at HWr
      rw [hwr, hse, z1] at HWr
      clear z1 z2 z3 y1 y2 y3 hwr hse
      cases hw : (L.sheets.getD j sh0).wants with
      | false =>
        rw [hw] at HWr
        simp only [Bool.false_eq_true, if_false] at HWr
        have HW2 := Lib.hid (HW.out.same hjl hw)
        clear hw hjl hjl2
        go_wp2_with (go_at_call 62; refine HWr.out.mono ?_; rintro e w2 ⟨rfl, hl2, hd2, ht2⟩; have L2 := Lib.hid hl2; have D2 := Lib.hid hd2; have T2 := Lib.hid (HT.out.then ht2); clear hl2 hd2 ht2)
        go_roundw
        case rel => exact ⟨j + 1, by omega, by go_num, Lj, Dj, HW2, L2, D2, T2⟩
        case measure => simp [inOf]; omega
      | true =>
        rw [hw] at HWr
        simp only [if_true] at HWr
        by_cases h0 : (Dj.write (L.sector (L.sheets.getD j sh0).num) (wrB L (L.sheets.getD j sh0))).1 = 0
        · have HW2 := Lib.hid (HW.out.wrote hjl hw h0)
          rw [h0] at HWr
          clear hw h0 hjl hjl2
          generalize (Dj.write (L.sector (L.sheets.getD j sh0).num) (wrB L (L.sheets.getD j sh0))).2 = D9 at *
          generalize Lj.turned j = L9 at *
          go_wp2_with (go_at_call 62; refine HWr.out.mono ?_; rintro e w2 ⟨rfl, hl2, hd2, ht2⟩; have L2 := Lib.hid hl2; have D2 := Lib.hid hd2; have T2 := Lib.hid (HT.out.then ht2); clear hl2 hd2 ht2)
          go_roundw
          case rel => exact ⟨j + 1, by omega, by go_num, L9, D9, HW2, L2, D2, T2⟩
          case measure => simp [inOf]; omega
        · have HB := Lib.hid (HW.out.bad hjl hw h0)
          have HE := Lib.hid HW.out.turnedEq
          have e1 : ((Dj.write (L.sector (L.sheets.getD j sh0).num) (wrB L (L.sheets.getD j sh0))).1 == 0) = false := by simpa using h0
          have HJ := Lib.hid hjl
          clear hw h0 hjl hjl2
          generalize Dj.write (L.sector (L.sheets.getD j sh0).num) (wrB L (L.sheets.getD j sh0)) = res at *
          obtain ⟨r1, D9⟩ := res
          simp only at HWr HB e1
          generalize Lj.turned j = L9 at *
          go_wp2_with (go_at_call 62; refine HWr.out.mono ?_; rintro e w2 ⟨rfl, hl2, hd2, ht2⟩; have L2 := Lib.hid hl2; have D2 := Lib.hid hd2; have T2 := Lib.hid (HT.out.then ht2); clear hl2 hd2 ht2)
          go_ret
          refine ⟨by rw [HB.out]; rfl, ⟨?_, ?_, T2.out⟩⟩
          · rw [HB.out]
            have := L2.out
            rw [HE.out] at this
            exact this
          · rw [HB.out]
            exact D2.out.mono (by have := HJ.out; omega)
    · obtain rfl : j = n := by omega
      have HDn : Hid (writeAll L L.sheets D = (0, Lj.sheets, Dj)) := Lib.hid (by have := HW.out; rw [HN.out] at this; exact this.done)
      go_wp2_with (fail)
      go_ret
      refine ⟨by rw [HDn.out]; rfl, ⟨?_, ?_, HT.out⟩⟩
      · rw [HDn.out]
        have := HL.out
        rw [HW.out.eq] at this
        exact this
      · rw [HDn.out, ← HN.out]
        exact HDj.out
end Go.Proofs.YtohlkkannjifmaaGreatDoor
namespace Go.Proofs.YtohlkkannjifmaaGreatDoor
open Go.RowKit
structure SuR (L : LK) (j : Nat) (Lj : LK) : Prop where
  eq : Lj = { L with sheets := Lj.sheets }
  sh : Lj.sheets = (L.sheets.take j).map ShV.sure ++ L.sheets.drop j
theorem SuR.len {L : LK} {j : Nat} {Lj : LK} (h : SuR L j Lj) : Lj.sheets.length = L.sheets.length := by
  rw [h.sh]; simp; omega
theorem SuR.at_ {L : LK} {j : Nat} {Lj : LK} (h : SuR L j Lj) (hj : j < L.sheets.length) : Lj.sheets.getD j sh0 = L.sheets.getD j sh0 := by
  rw [h.sh, List.getD_eq_getElem?_getD, List.getElem?_append_right (by simp; omega), List.getElem?_drop, List.getD_eq_getElem?_getD]
  congr 2
  simp; omega
theorem SuR.step {L : LK} {j : Nat} {Lj : LK} (h : SuR L j Lj) (hj : j < L.sheets.length) : SuR L (j + 1) (Lj.setSh j (L.sheets.getD j sh0).sure) := by
  have hl := h.len
  refine ⟨?_, ?_⟩
  · show ({ Lj with sheets := _ } : LK) = _
    rw [h.eq]
    rfl
  · show Lj.sheets.set j _ = _
    have hlen : ((L.sheets.take j).map ShV.sure).length = j := by rw [List.length_map, List.length_take]; omega
    rw [h.sh, List.set_append_right _ _ (by omega), hlen, Nat.sub_self, List.drop_eq_getElem_cons hj, List.set_cons_zero, List.take_succ_eq_append_getElem hj, List.map_append, List.append_assoc]
    simp only [List.map_cons, List.map_nil, List.singleton_append]
    rw [List.getD_eq_getElem?_getD, List.getElem?_eq_getElem hj]
    rfl
set_option maxRecDepth 100000 in
set_option maxHeartbeats 4000000 in
theorem force2_any (U : Nat → Prop) (l d k : Nat) (L : LK) (sv tv : Value) (P : Nat → Nat) (V : Nat → Value) (fb : Nat) (w : World) (h : LF w U l d k L sv tv P V) (hf : w.heap[fb]? = some (.cells #[ptr l] 41 (0, 0))) (_hfu : ¬ U fb) :
    Calls Tryz.prog 64 #[.pointer (some ⟨fb, 0, none⟩)] w fun e w' => e = .returned (.int .i64 0) ∧ LF w' U l d k { L with sheets := L.sheets.map ShV.sure } sv tv P V ∧ Trn U w w' := by
  obtain ⟨g, cap, rfl, hle, hcp, hn8, hcell⟩ := h.get
  have c0 : w.cell? ⟨fb, 0, none⟩ = some (.pointer (some ⟨l, 0, none⟩)) := cell_of_row _ _ 0 _ _ _ hf
  have c5 : w.cell? ⟨l, 5, none⟩ = some (.slice (some ⟨g, 0, none⟩) L.sheets.length cap) := cell_of_row _ _ 5 _ _ _ h.blk
  have H0 := Lib.hid h
  obtain ⟨n, hn⟩ : ∃ n, n = L.sheets.length := ⟨_, rfl⟩
  rw [← hn] at c5 hle hn8
  have HN := Lib.hid hn
  clear h hf _hfu hcell hn
  go_enter Tryz.func64, Tryz.ntmps64
  go_wp2_with (fail)
  go_loopw [9] (fun i wr => ∃ j : Nat, j ≤ n ∧ i = .int .i64 j ∧ ∃ Lj, Hid (SuR L j Lj) ∧ Hid (LF wr U l d k Lj (.slice (some ⟨g, 0, none⟩) L.sheets.length cap) tv P V) ∧ Hid (Trn U w wr)) (fun i _ => n - (inOf i).toNat)
  case atStart => exact ⟨0, Nat.zero_le _, rfl, L, Lib.hid ⟨rfl, by simp⟩, H0, Lib.hid (Trn.refl _ _)⟩
  case round =>
    obtain ⟨j, hj, rfl, Lj, HW, HL, HT⟩ := hrel
    by_cases hlt : j < n
    · have hjl : j < L.sheets.length := by have := HN.out; omega
      have hjl2 : j < Lj.sheets.length := by have := HW.out.len; omega
      have gj : wr.cell? ⟨g, j, none⟩ = some (.pointer (some ⟨P j, 0, none⟩)) := by
        obtain ⟨g', cap', e, -, -, -, hc⟩ := HL.out.get
        obtain ⟨ea, -, -⟩ := Value.slice.inj e
        cases ea
        exact hc j hjl2
      have hs := HL.out.sh j hjl2
      rw [HW.out.at_ hjl] at hs
      have hbl := HL.out.ok.len _ (getD_mem Lj.sheets sh0 j hjl2)
      rw [HW.out.at_ hjl] at hbl
      obtain ⟨va, vc, hve, hvr⟩ := hs.body.rb (by omega)
      have k4 : wr.cell? ⟨P j, 4, none⟩ = some (.slice va (L.sheets.getD j sh0).body.length vc) := by rw [← hve]; exact cell_of_row _ _ 4 _ _ _ hs.blk
      have k5 : wr.cell? ⟨P j, 5, none⟩ = some (.int .i64 (L.sheets.getD j sh0).safe) := cell_of_row _ _ 5 _ _ _ hs.blk
      have k6 : wr.cell? ⟨P j, 6, none⟩ = some (.bool (L.sheets.getD j sh0).lost) := cell_of_row _ _ 6 _ _ _ hs.blk
      have f5 : wr.frozen? ⟨P j, 5, none⟩ = false := by simp [World.frozen?, hs.blk]
      have f6 : wr.frozen? ⟨P j, 6, none⟩ = false := by simp [World.frozen?, hs.blk]
      have hv1 := hvr.mx
      have hv2 := hvr.le
      have hP1 : ((wr.setCell ⟨P j, 5, none⟩ (.int .i64 (L.sheets.getD j sh0).body.length)).setCell ⟨P j, 6, none⟩ (.bool false)).heap[P j]? = some (shObj (L.sheets.getD j sh0).sure (V j)) := set_at (set_at hs.blk 5 _) 6 _
      have hL1 := HL.out.set (w' := ((wr.setCell ⟨P j, 5, none⟩ (.int .i64 (L.sheets.getD j sh0).body.length)).setCell ⟨P j, 6, none⟩ (.bool false))) hjl2 (s' := (L.sheets.getD j sh0).sure) (by rw [HW.out.at_ hjl]; rfl) hP1 (fun g _ hg => (set_ne hg).trans (set_ne hg)) (by rw [size_set, size_set]; exact Nat.le_refl _)
        (HL.out.ok.setSh hjl2 (by rw [HW.out.at_ hjl]; rfl) (by rw [HW.out.at_ hjl]; rfl) ⟨by simp [ShV.sure], by simp [ShV.sure]⟩ (by
          have := HL.out.ok.hd _ (getD_mem Lj.sheets sh0 j hjl2)
          rw [HW.out.at_ hjl] at this
          exact ⟨this.1, this.2.1⟩) (by rw [HW.out.at_ hjl]; rfl) (fun h => absurd h (by simp [ShV.sure])))
      have HL1 := Lib.hid hL1
      have HW1 := Lib.hid (HW.out.step hjl)
      have HT1 : Hid (Trn U w ((wr.setCell ⟨P j, 5, none⟩ (.int .i64 (L.sheets.getD j sh0).body.length)).setCell ⟨P j, 6, none⟩ (.bool false))) := Lib.hid ((HT.out.set _ _ _ (.inl (HL.out.ux j hjl2))).set _ _ _ (.inl (HL.out.ux j hjl2)))
      have f2 : IntKind.i64.wrap ((j : Int) + 1) = ((j + 1 : Nat) : Int) := by rw [IntWalk.i64_in _ (by omega)]; omega
      clear hs hve hvr hP1 hL1
      generalize Lj.setSh j (L.sheets.getD j sh0).sure = L9 at *
      generalize L.sheets.getD j sh0 = s at *
      go_wp2_with (fail)
      go_roundw
      case rel => exact ⟨j + 1, by omega, by go_num, L9, HW1, HL1, HT1⟩
      case measure => simp [inOf]; omega
    · obtain rfl : j = n := by omega
      have HE : Hid (Lj = { L with sheets := L.sheets.map ShV.sure }) := Lib.hid (by
        rw [HW.out.eq]
        congr 1
        rw [HW.out.sh, HN.out, List.take_of_length_le (Nat.le_refl _), List.drop_of_length_le (Nat.le_refl _), List.append_nil])
      go_wp2_with (fail)
      go_ret
      exact ⟨rfl, by rw [← HE.out]; exact HL.out, HT.out⟩
def fn1 (fb : Nat) : Value := .func (.func 61) #[] #[.pointer (some ⟨fb, 0, none⟩)]
def fn2 (d : Nat) : Value := .func (.func 63) #[.pointer (some ⟨d, 0, none⟩)] #[]
def fn3 (fb : Nat) : Value := .func (.func 64) #[] #[.pointer (some ⟨fb, 0, none⟩)]
set_option maxRecDepth 100000 in
set_option maxHeartbeats 4000000 in
theorem each3_any (gs fb d : Nat) (S0 S1 S2 S3 : World → Prop) (e1 e2 : Int) (w : World)
    (hS : ∀ W, (S0 W ∨ S1 W ∨ S2 W ∨ S3 W) → W.cell? ⟨gs, 0, none⟩ = some (fn1 fb) ∧ W.cell? ⟨gs, 1, none⟩ = some (fn2 d) ∧ W.cell? ⟨gs, 2, none⟩ = some (fn3 fb))
    (h1 : ∀ W, S0 W → Calls Tryz.prog 61 #[.pointer (some ⟨fb, 0, none⟩)] W fun e w' => e = .returned (.int .i64 e1) ∧ S1 w')
    (h2 : ∀ W, S1 W → e1 = 0 → Calls Tryz.prog 63 #[.pointer (some ⟨d, 0, none⟩)] W fun e w' => e = .returned (.int .i64 e2) ∧ S2 w')
    (h3 : ∀ W, S2 W → e1 = 0 → e2 = 0 → Calls Tryz.prog 64 #[.pointer (some ⟨fb, 0, none⟩)] W fun e w' => e = .returned (.int .i64 0) ∧ S3 w') (h0 : S0 w) :
    Calls Tryz.prog 60 #[.slice (some ⟨gs, 0, none⟩) 3 3] w fun e w' => (e1 ≠ 0 ∧ e = .returned (.int .i64 e1) ∧ S1 w') ∨ (e1 = 0 ∧ e2 ≠ 0 ∧ e = .returned (.int .i64 e2) ∧ S2 w') ∨ (e1 = 0 ∧ e2 = 0 ∧ e = .returned (.int .i64 0) ∧ S3 w') := by
  have HS := Lib.hid hS
  have H1 := Lib.hid h1
  have H2 := Lib.hid h2
  have H3 := Lib.hid h3
  have H0 := Lib.hid h0
  clear hS h1 h2 h3 h0
  unfold fn1 fn2 fn3 at HS
  go_enter Tryz.func60, Tryz.ntmps60
  go_wp2_with (fail)
  go_loopw [8] (fun i wr => ∃ j : Nat, j ≤ 3 ∧ i = .int .i64 j ∧ Hid ((j = 0 ∧ S0 wr) ∨ (j = 1 ∧ e1 = 0 ∧ S1 wr) ∨ (j = 2 ∧ e1 = 0 ∧ e2 = 0 ∧ S2 wr) ∨ (j = 3 ∧ e1 = 0 ∧ e2 = 0 ∧ S3 wr))) (fun i _ => 3 - (inOf i).toNat)
  case atStart => exact ⟨0, by omega, rfl, Lib.hid (.inl ⟨rfl, H0.out⟩)⟩
  case round =>
    obtain ⟨j, hj, rfl, HC⟩ := hrel
    rcases HC.out with ⟨rfl, hs⟩ | ⟨rfl, he1, hs⟩ | ⟨rfl, he1, he2, hs⟩ | ⟨rfl, he1, he2, hs⟩
    · obtain ⟨c0, -, -⟩ := HS.out wr (.inl hs)
      have HCa := Lib.hid (H1.out wr hs)
      clear hs
      by_cases he : e1 = 0
      · have HE1 := Lib.hid he
        rw [he] at HCa
        clear he
        go_wp2_with (go_at_call 61; refine HCa.out.mono ?_; rintro e w2 ⟨rfl, hs2⟩; have S2' := Lib.hid hs2; clear hs2)
        go_roundw
        case rel => exact ⟨1, by omega, by go_num, Lib.hid (.inr (.inl ⟨rfl, HE1.out, S2'.out⟩))⟩
        case measure => simp [inOf]
      · have HE1 : Hid (e1 ≠ 0) := Lib.hid he
        have q : (e1 == 0) = false := by simpa using he
        clear he
        go_wp2_with (go_at_call 61; refine HCa.out.mono ?_; rintro e w2 ⟨rfl, hs2⟩; have S2' := Lib.hid hs2; clear hs2)
        go_ret
        exact .inl ⟨HE1.out, rfl, S2'.out⟩
    · obtain ⟨-, c1, -⟩ := HS.out wr (.inr (.inl hs))
      have HCa := Lib.hid (H2.out wr hs he1)
      have HE1 := Lib.hid he1
      clear hs he1
      by_cases he : e2 = 0
      · have HE2 := Lib.hid he
        rw [he] at HCa
        clear he
        go_wp2_with (go_at_call 63; refine HCa.out.mono ?_; rintro e w2 ⟨rfl, hs2⟩; have S2' := Lib.hid hs2; clear hs2)
        go_roundw
        case rel => exact ⟨2, by omega, by go_num, Lib.hid (.inr (.inr (.inl ⟨rfl, HE1.out, HE2.out, S2'.out⟩)))⟩
        case measure => simp [inOf]
      · have HE2 : Hid (e2 ≠ 0) := Lib.hid he
        have q : (e2 == 0) = false := by simpa using he
        clear he
        go_wp2_with (go_at_call 63; refine HCa.out.mono ?_; rintro e w2 ⟨rfl, hs2⟩; have S2' := Lib.hid hs2; clear hs2)
        go_ret
        exact .inr (.inl ⟨HE1.out, HE2.out, rfl, S2'.out⟩)
    · obtain ⟨-, -, c2⟩ := HS.out wr (.inr (.inr (.inl hs)))
      have HCa := Lib.hid (H3.out wr hs he1 he2)
      have HE1 := Lib.hid he1
      have HE2 := Lib.hid he2
      clear hs he1 he2
      go_wp2_with (go_at_call 64; refine HCa.out.mono ?_; rintro e w2 ⟨rfl, hs2⟩; have S2' := Lib.hid hs2; clear hs2)
      go_roundw
      case rel => exact ⟨3, by omega, by go_num, Lib.hid (.inr (.inr (.inr ⟨rfl, HE1.out, HE2.out, S2'.out⟩)))⟩
      case measure => simp [inOf]
    · have HE1 := Lib.hid he1
      have HE2 := Lib.hid he2
      have S3' := Lib.hid hs
      clear hs he1 he2
      go_wp2_with (fail)
      go_ret
      exact .inr (.inr ⟨HE1.out, HE2.out, rfl, S3'.out⟩)
end Go.Proofs.YtohlkkannjifmaaGreatDoor
