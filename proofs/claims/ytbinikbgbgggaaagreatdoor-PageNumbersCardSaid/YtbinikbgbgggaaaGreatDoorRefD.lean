/- storemanref21: what is told of bytes: Of whatever the bytes; Right, Lsn, Next, Rows, Room, Get. -/
import Derived.Test.YtbinikbgbgggaaaGreatDoorRefC
namespace Go.Proofs.YtbinikbgbgggaaaGreatDoor
open Go.RowKit Go.Shelf

theorem Of_any (N : Nat) (a : Option Addr) (n c : Nat) (L : List UInt8) (w : World) (hr : RB N w a n c L) (hN : N ≤ w.heap.size) : Calls Tryz.prog 49 #[.slice a n c] w (OfR w L) := by
  by_cases h : n = 512
  · subst h
    obtain ⟨b, o, rfl, -, -⟩ := hr.at_ (by have := hr.le; omega)
    exact Of_512 N b o c L w hr hN
  · exact Of_len N a n c L w hr h
/-- What Of answers, with the rows' slice written out. -/
def OfS (w : World) (L : List UInt8) (e : Ending) (w' : World) : Prop := ∃ va vc, e = .returned (.tuple #[.agg #[.int .i64 (lsnL L : Nat), .int .i64 (nextL L : Nat), .slice va (rowsL L).length vc], .bool (decide (0 < behindL L))]) ∧ OR w.heap.size w' (.slice va (rowsL L).length vc) (rowsL L) ∧ Below w.heap.size w w'
theorem OfR.s {w w' : World} {L : List UInt8} {e : Ending} (h : OfR w L e w') : OfS w L e w' := by
  obtain ⟨⟨v, he, ho⟩, hb⟩ := h
  obtain ⟨va, vc, rfl, -⟩ := ho.or.rows
  exact ⟨va, vc, he, ho.or, hb⟩
/-- .. with rows whose bytes lie in memory of the call's own. -/
def OfF (w : World) (L : List UInt8) (e : Ending) (w' : World) : Prop := ∃ va vc, e = .returned (.tuple #[.agg #[.int .i64 (lsnL L : Nat), .int .i64 (nextL L : Nat), .slice va (rowsL L).length vc], .bool (decide (0 < behindL L))]) ∧ OQ w.heap.size w' (.slice va (rowsL L).length vc) (rowsL L) ∧ Below w.heap.size w w'
theorem OfR.f {w w' : World} {L : List UInt8} {e : Ending} (h : OfR w L e w') : OfF w L e w' := by
  obtain ⟨⟨v, he, ho⟩, hb⟩ := h
  obtain ⟨va, vc, rfl, -⟩ := ho.or.rows
  exact ⟨va, vc, he, ho, hb⟩

set_option maxHeartbeats 2000000 in
set_option maxRecDepth 100000 in
theorem rRight_any (N : Nat) (a : Option Addr) (n c : Nat) (L : List UInt8) (w : World) (hr : RB N w a n c L) (hN : N ≤ w.heap.size) : Calls Tryz.prog 27 #[.slice a n c] w fun e w' => e = .returned (.bool (decide (0 < behindL L))) ∧ Below w.heap.size w w' := by
  have H := Lib.hid ((Of_any N a n c L w hr hN).mono fun e w' h => h.s)
  unfold OfS at H
  clear hr
  generalize decide (0 < behindL L) = ok at H ⊢
  go_enter Tryz.func27, Tryz.ntmps27
  go_wp2_with (go_at_call 49; refine H.out.mono ?_; rintro e w1 ⟨va, vc, rfl, ho, hb⟩; have HO := Lib.hid ho; have HB := Lib.hid hb; clear ho hb)
  go_ret
  exact ⟨rfl, HB.out.alloc HB.out.size _⟩
set_option maxHeartbeats 2000000 in
set_option maxRecDepth 100000 in
theorem rLsn_any (N : Nat) (a : Option Addr) (n c : Nat) (L : List UInt8) (w : World) (hr : RB N w a n c L) (hN : N ≤ w.heap.size) : Calls Tryz.prog 28 #[.slice a n c] w fun e w' => e = .returned (.int .i64 (lsnL L : Nat)) ∧ Below w.heap.size w w' := by
  have H := Lib.hid ((Of_any N a n c L w hr hN).mono fun e w' h => h.s)
  unfold OfS at H
  clear hr
  go_enter Tryz.func28, Tryz.ntmps28
  go_wp2_with (go_at_call 49; refine H.out.mono ?_; rintro e w1 ⟨va, vc, rfl, ho, hb⟩; have HO := Lib.hid ho; have HB := Lib.hid hb; clear ho hb)
  go_ret
  exact ⟨rfl, HB.out.alloc HB.out.size _⟩
set_option maxHeartbeats 2000000 in
set_option maxRecDepth 100000 in
theorem rNext_any (N : Nat) (a : Option Addr) (n c : Nat) (L : List UInt8) (w : World) (hr : RB N w a n c L) (hN : N ≤ w.heap.size) : Calls Tryz.prog 29 #[.slice a n c] w fun e w' => e = .returned (.int .i64 (nextL L : Nat)) ∧ Below w.heap.size w w' := by
  have H := Lib.hid ((Of_any N a n c L w hr hN).mono fun e w' h => h.s)
  unfold OfS at H
  clear hr
  go_enter Tryz.func29, Tryz.ntmps29
  go_wp2_with (go_at_call 49; refine H.out.mono ?_; rintro e w1 ⟨va, vc, rfl, ho, hb⟩; have HO := Lib.hid ho; have HB := Lib.hid hb; clear ho hb)
  go_ret
  exact ⟨rfl, HB.out.alloc HB.out.size _⟩
set_option maxHeartbeats 2000000 in
set_option maxRecDepth 100000 in
theorem rRows_far (N : Nat) (a : Option Addr) (n c : Nat) (L : List UInt8) (w : World) (hr : RB N w a n c L) (hN : N ≤ w.heap.size) : Calls Tryz.prog 32 #[.slice a n c] w fun e w' => (∃ va vc, e = .returned (.slice va (rowsL L).length vc) ∧ OQ w.heap.size w' (.slice va (rowsL L).length vc) (rowsL L)) ∧ Below w.heap.size w w' := by
  have H := Lib.hid ((Of_any N a n c L w hr hN).mono fun e w' h => h.f)
  unfold OfF at H
  clear hr
  go_enter Tryz.func32, Tryz.ntmps32
  go_wp2_with (go_at_call 49; refine H.out.mono ?_; rintro e w1 ⟨va, vc, rfl, ho, hb⟩; have HO := Lib.hid ho; have HB := Lib.hid hb; clear ho hb)
  go_ret
  exact ⟨⟨va, vc, rfl, HO.out.below ((Below.refl w1.heap.size w1).alloc (Nat.le_refl _) _)⟩, HB.out.alloc HB.out.size _⟩

theorem rRows_any (N : Nat) (a : Option Addr) (n c : Nat) (L : List UInt8) (w : World) (hr : RB N w a n c L) (hN : N ≤ w.heap.size) : Calls Tryz.prog 32 #[.slice a n c] w fun e w' => (∃ va vc, e = .returned (.slice va (rowsL L).length vc) ∧ OR w.heap.size w' (.slice va (rowsL L).length vc) (rowsL L)) ∧ Below w.heap.size w w' :=
  (rRows_far N a n c L w hr hN).mono fun _ _ ⟨⟨va, vc, he, ho⟩, hb⟩ => ⟨⟨va, vc, he, ho.or⟩, hb⟩
set_option maxHeartbeats 4000000 in
set_option maxRecDepth 100000 in
theorem rRoom_any (N : Nat) (a : Option Addr) (n c : Nat) (L : List UInt8) (w : World) (hr : RB N w a n c L) (hN : N ≤ w.heap.size) : Calls Tryz.prog 30 #[.slice a n c] w fun e w' => e = .returned (.int .i64 (roomL L)) ∧ Below w.heap.size w w' := by
  have H := Lib.hid ((Of_any N a n c L w hr hN).mono fun e w' h => h.s)
  unfold OfS at H
  clear hr
  by_cases h0 : 0 < behindL L
  · have H0 := Lib.hid h0
    obtain ⟨hP, hL⟩ := parse h0
    have hroom : roomL L = 501 - (enc (rowsL L)).length := by rw [hL]; rw [room_mk hP]; rw [← hL]
    have hfit := hP.fit
    rw [decide_eq_true h0] at H
    have Hroom := Lib.hid hroom
    have Hfit := Lib.hid hfit
    clear h0 hP hL hroom hfit
    generalize rowsL L = R at H Hroom Hfit
    go_enter Tryz.func30, Tryz.ntmps30
    go_wp2_with (go_at_call 49; refine H.out.mono ?_; rintro e w1 ⟨va, vc, rfl, ho, hb⟩; have HO := Lib.hid ho; have HB := Lib.hid hb; clear ho hb)
    have hp := P3.new w1 (lsnL L : Nat) (nextL L : Nat) (.slice va R.length vc)
    have hbw : Below w1.heap.size w1 (w1.alloc (.cells #[.int .i64 (lsnL L : Nat), .int .i64 (nextL L : Nat), .slice va R.length vc] 94)) := (Below.refl _ w1).alloc (Nat.le_refl _) _
    obtain ⟨z, hz⟩ : ∃ z, z = w1.heap.size := ⟨_, rfl⟩
    obtain ⟨w2, hw2⟩ : ∃ w2, w2 = w1.alloc (.cells #[.int .i64 (lsnL L : Nat), .int .i64 (nextL L : Nat), .slice va R.length vc] 94) := ⟨_, rfl⟩
    rw [← hw2] at hp hbw ⊢
    rw [← hz] at hp ⊢
    have HBw := Lib.hid (HB.out.trans (hbw.mono HB.out.size))
    have HO2 := Lib.hid (HO.out.below hbw)
    have HP := Lib.hid hp
    obtain ⟨va', vc', e', hrows⟩ := HO2.out.rows
    cases e'
    have hvle := hrows.le
    have hvmx := hrows.mx
    have HRows := Lib.hid hrows
    clear hp hbw hz hw2 hrows
    go_loopw [5, 6] (fun s5 s6 wr => ∃ k : Nat, s6 = .int .i64 k ∧ k ≤ R.length ∧ s5 = .int .i64 (501 - ((enc (R.take k)).length : Int)) ∧ Hid (Below w2.heap.size w2 wr)) (fun _ s6 _ => R.length - (intOf s6).toNat)
    case atStart => exact ⟨0, rfl, Nat.zero_le _, by simp [enc], Lib.hid (Below.refl _ _)⟩
    case round =>
      obtain ⟨k, rfl, hk, rfl, hb⟩ := hrel
      have d2 := (HP.out.below hb.out HP.out.lt).cells.2.2
      by_cases hkn : k < R.length
      · obtain ⟨b', o', rfl, hB', hi⟩ := HRows.out.at_ (by omega)
        have hget := List.getElem?_eq_getElem hkn
        have henc := enc_take R k _ hget
        obtain ⟨ka, kn, kc, va2, vn2, vc2, h1, h2, h3, h4⟩ := hi k _ hget
        have l1 := h3.len
        have l2 := h4.len
        have hle1 := h3.le
        have hmx1 := h3.mx
        have hle2 := h4.le
        have hmx2 := h4.mx
        have hall : (enc (R.take (k + 1))).length ≤ (enc R).length := by
          have h := enc_len_append (R.take (k + 1)) (R.drop (k + 1))
          rw [List.take_append_drop] at h
          omega
        rw [← l1, ← l2] at henc
        obtain ⟨E, hE⟩ : ∃ E, E = (enc (R.take k)).length := ⟨_, rfl⟩
        rw [← hE] at henc ⊢
        have hEb : E + (2 + kn + vn2) ≤ 501 := by have := Hfit.out; omega
        have Henc := Lib.hid henc
        have f2 : ∀ x : BelowW wr, x.v.cell? ⟨z, 2, none⟩ = some (.slice (some ⟨b', o', none⟩) R.length vc) := fun x => ((HP.out.below hb.out HP.out.lt).below x.h (HP.out.below hb.out HP.out.lt).lt).cells.2.2
        have hB2 : b' < wr.heap.size := Nat.lt_of_lt_of_le hB' hb.out.size
        have f3 : ∀ x : BelowW wr, x.v.cell? ⟨b', o' + k * 2, none⟩ = some (.slice ka kn kc) := fun x => (x.h.cell hB2).trans ((hb.out.cell hB').trans h1)
        have f4 : ∀ x : BelowW wr, x.v.cell? ⟨b', o' + k * 2 + 1, none⟩ = some (.slice va2 vn2 vc2) := fun x => (x.h.cell hB2).trans ((hb.out.cell hB').trans h2)
        have o1 : IntKind.i64.wrap (501 - (E : Int) - 2) = 501 - (E : Int) - 2 := IntWalk.i64_in _ (by omega)
        have o2 : IntKind.i64.wrap (501 - (E : Int) - 2 - (kn : Int)) = 501 - (E : Int) - 2 - (kn : Int) := IntWalk.i64_in _ (by omega)
        have o3 : IntKind.i64.wrap (501 - (E : Int) - 2 - (kn : Int) - (vn2 : Int)) = 501 - (E : Int) - 2 - (kn : Int) - (vn2 : Int) := IntWalk.i64_in _ (by omega)
        have o4 : (k : Int) < (R.length : Int) := by omega
        have o5 : (0 : Int) ≤ (k : Int) := by omega
        clear hget henc h1 h2 h3 h4 l1 l2 hall hE hi
        go_wp2_with (fail)
        refine wp_region_below wr (by kernel_rfl) (by kernel_rfl) (Below.refl _ _) ?_
        repeat (go_big_quiet_step (fail))
        refine wpQuiet_nil ?_
        intro _ hw'
        obtain ⟨x, hw''⟩ := hw'
        subst hw''
        clear f2 f3 f4
        go_wp2_with (fail)
        go_roundw
        case rel => exact ⟨k + 1, by go_num, by omega, by rw [Henc.out]; congr 1; omega, Lib.hid (hb.out.trans (x.h.mono hb.out.size))⟩
        case measure => simp [intOf]; omega
      · have ek : k = R.length := by omega
        subst ek
        rw [List.take_length]
        have hE : (enc R).length ≤ 501 := Hfit.out
        go_wp2_with (fail)
        go_ret
        exact ⟨by rw [Hroom.out]; exact congrArg (fun t : Int => Ending.returned (.int .i64 t)) (by omega), HBw.out.trans (hb.out.mono HBw.out.size)⟩
  · have hroom : roomL L = 0 := by unfold roomL; rw [if_pos (by omega)]
    rw [decide_eq_false h0] at H
    have Hroom := Lib.hid hroom
    clear h0 hroom
    go_enter Tryz.func30, Tryz.ntmps30
    go_wp2_with (go_at_call 49; refine H.out.mono ?_; rintro e w1 ⟨va, vc, rfl, ho, hb⟩; have HO := Lib.hid ho; have HB := Lib.hid hb; clear ho hb)
    go_ret
    exact ⟨by rw [Hroom.out]; rfl, HB.out.alloc HB.out.size _⟩

set_option maxHeartbeats 4000000 in
set_option maxRecDepth 100000 in
theorem rGet_far (N M : Nat) (a ka : Option Addr) (n c kn kc : Nat) (L K : List UInt8) (w : World) (hr : RB N w a n c L) (hk : RB M w ka kn kc K) (hN : N ≤ w.heap.size) (hM : M ≤ w.heap.size) :
    Calls Tryz.prog 26 #[.slice a n c, .slice ka kn kc] w fun e w' => (∃ va vn vc, e = .returned (.tuple #[.slice va vn vc, .bool (getL L K).isSome]) ∧ RB w'.heap.size w' va vn vc ((getL L K).getD []) ∧ Far w.heap.size (.slice va vn vc)) ∧ Below w.heap.size w w' := by
  have hg : getL L K = got (rowsL L) K := by
    by_cases h0 : 0 < behindL L
    · obtain ⟨hP, hL⟩ := parse h0
      have h := get_mk hP K
      rw [← hL] at h
      exact h
    · unfold getL rowsL
      rw [if_pos (by omega), if_pos (by omega)]
      rfl
  rw [hg]
  have H := Lib.hid (rRows_far N a n c L w hr hN)
  have HK := Lib.hid hk
  clear hg hr hk
  generalize rowsL L = R at H ⊢
  go_enter Tryz.func26, Tryz.ntmps26
  go_wp2_with (go_at_call 32; refine H.out.mono ?_; rintro e w2 ⟨⟨va, vc, rfl, ho⟩, hb⟩; have HO := Lib.hid ho; have HB := Lib.hid hb; clear ho hb)
  obtain ⟨va', vc', e', hrows⟩ := HO.out.or.rows
  cases e'
  have hvle := hrows.le
  have hvmx := hrows.mx
  have HRows := Lib.hid hrows
  clear hrows
  go_loopw [7] (fun s7 wr => ∃ k : Nat, s7 = .int .i64 k ∧ k ≤ R.length ∧ Hid (got R K = got (R.drop k) K) ∧ Hid (Below w2.heap.size w2 wr)) (fun s7 _ => R.length - (intOf s7).toNat)
  case atStart => exact ⟨0, rfl, Nat.zero_le _, Lib.hid rfl, Lib.hid (Below.refl _ _)⟩
  case round =>
    obtain ⟨k, rfl, hk, hgk, hb⟩ := hrel
    by_cases hkn : k < R.length
    · obtain ⟨b', o', rfl, hB', hi⟩ := HRows.out.at_ (by omega)
      have hget := List.getElem?_eq_getElem hkn
      obtain ⟨ka2, kn2, kc2, va2, vn2, vc2, h1, h2, h3, h4⟩ := hi k _ hget
      have hfar : Far w.heap.size (.slice va2 vn2 vc2) := by
        obtain ⟨b8, c8, va8, vn8, vc8, e8, -, -, h8, -, f8⟩ := HO.out.get hget
        cases e8
        rw [Nat.zero_add] at h2
        rw [h8] at h2
        cases h2
        exact f8
      have Hfar := Lib.hid hfar
      clear hfar
      have hdrop : got R K = if (R[k]).1 = K then some (R[k]).2 else got (R.drop (k + 1)) K := by
        rw [hgk.out, List.drop_eq_getElem_cons hkn]
        unfold got
        by_cases he : (R[k]).1 = K
        · rw [List.find?_cons_of_pos (by simpa using he), if_pos he]; rfl
        · rw [List.find?_cons_of_neg (by simpa using he), if_neg he]
      obtain ⟨r, hrk⟩ : ∃ r, r = R[k] := ⟨_, rfl⟩
      rw [← hrk] at h3 h4 hdrop
      have Hdrop := Lib.hid hdrop
      have hB2 : b' < wr.heap.size := Nat.lt_of_lt_of_le hB' hb.out.size
      have f3 : ∀ x : BelowW wr, x.v.cell? ⟨b', o' + k * 2, none⟩ = some (.slice ka2 kn2 kc2) := fun x => (x.h.cell hB2).trans ((hb.out.cell hB').trans h1)
      have f4 : ∀ x : BelowW wr, x.v.cell? ⟨b', o' + k * 2 + 1, none⟩ = some (.slice va2 vn2 vc2) := fun x => (x.h.cell hB2).trans ((hb.out.cell hB').trans h2)
      have hbw := hb.out.size
      have hw2 := HB.out.size
      have q4 : ∀ x : BelowW wr, (convert 22 9 (.slice ka2 kn2 kc2)).run Tryz.prog x.v = .ok (.string ⟨r.1.toArray⟩) x.v := fun x => run_conv ((h3.below hb.out).below (x.h.mono hbw)) _ _ _ Tryz.underlying22 Tryz.underlying5 Tryz.underlying9
      have q5 : ∀ x : BelowW wr, (convert 22 9 (.slice ka kn kc)).run Tryz.prog x.v = .ok (.string ⟨K.toArray⟩) x.v := fun x => run_conv (((HK.out.below (HB.out.mono hM)).below (hb.out.mono (Nat.le_trans hM hw2))).below (x.h.mono (Nat.le_trans hM (Nat.le_trans hw2 hbw)))) _ _ _ Tryz.underlying22 Tryz.underlying5 Tryz.underlying9
      have o4 : (k : Int) < (R.length : Int) := by omega
      have o5 : (0 : Int) ≤ (k : Int) := by omega
      have H4 := Lib.hid h4
      clear hget h1 h2 h3 h4 hdrop hi hrk hbw hw2
      by_cases hrK : r.1 = K
      · rw [hrK] at q4
        rw [if_pos hrK] at Hdrop
        have HrK := Lib.hid hrK
        clear hrK
        go_wp2_with (fail)
        refine wp_region_below wr (by kernel_rfl) (by kernel_rfl) (Below.refl _ _) ?_
        repeat (go_big_quiet_step (fail))
        refine wpQuiet_nil ?_
        intro _ hw'
        obtain ⟨x, hw''⟩ := hw'
        subst hw''
        have e4 := f4 x
        clear f3 f4 q4 q5
        go_wp2_with (fail)
        refine bodyPost_ret (v := .tuple #[.slice va2 vn2 vc2, .bool true]) (by simp [results, Tryz.f26, go_sem]) rfl ⟨⟨va2, vn2, vc2, ?_, ?_, Hfar.out⟩, ?_⟩
        · rw [Hdrop.out]; rfl
        · rw [Hdrop.out]
          exact (((H4.out.below hb.out).below (x.h.mono hb.out.size))).mono (Nat.le_trans hb.out.size x.h.size)
        · exact (HB.out.trans (hb.out.mono HB.out.size)).trans (x.h.mono (Nat.le_trans HB.out.size hb.out.size))
      · rw [if_neg hrK] at Hdrop
        have hne : (r.1 == K) = false := by simpa using hrK
        clear hrK
        go_wp2_with (fail)
        refine wp_region_below wr (by kernel_rfl) (by kernel_rfl) (Below.refl _ _) ?_
        repeat (go_big_quiet_step (fail))
        refine wpQuiet_nil ?_
        intro _ hw'
        obtain ⟨x, hw''⟩ := hw'
        subst hw''
        clear f3 f4 q4 q5
        go_wp2_with (fail)
        go_roundw
        case rel => exact ⟨k + 1, by go_num, by omega, Hdrop, Lib.hid (hb.out.trans (x.h.mono hb.out.size))⟩
        case measure => simp [intOf]; omega
    · have hnone : got R K = none := by
        rw [hgk.out, List.drop_eq_nil_of_le (by omega)]; rfl
      have Hn := Lib.hid hnone
      clear hnone
      go_wp2_with (fail)
      refine bodyPost_ret (v := .tuple #[.slice none 0 0, .bool false]) (by simp [results, Tryz.f26, go_sem]) rfl ⟨⟨none, 0, 0, ?_, ?_, fun b o s n c he => by cases he⟩, ?_⟩
      · rw [Hn.out]; rfl
      · rw [Hn.out]; exact RB.emp _
      · exact HB.out.trans (hb.out.mono HB.out.size)
theorem rGet_any (N M : Nat) (a ka : Option Addr) (n c kn kc : Nat) (L K : List UInt8) (w : World) (hr : RB N w a n c L) (hk : RB M w ka kn kc K) (hN : N ≤ w.heap.size) (hM : M ≤ w.heap.size) :
    Calls Tryz.prog 26 #[.slice a n c, .slice ka kn kc] w fun e w' => (∃ va vn vc, e = .returned (.tuple #[.slice va vn vc, .bool (getL L K).isSome]) ∧ RB w'.heap.size w' va vn vc ((getL L K).getD [])) ∧ Below w.heap.size w w' :=
  (rGet_far N M a ka n c kn kc L K w hr hk hN hM).mono fun _ _ ⟨⟨va, vn, vc, he, h, _⟩, hb⟩ => ⟨⟨va, vn, vc, he, h⟩, hb⟩
end Go.Proofs.YtbinikbgbgggaaaGreatDoor
