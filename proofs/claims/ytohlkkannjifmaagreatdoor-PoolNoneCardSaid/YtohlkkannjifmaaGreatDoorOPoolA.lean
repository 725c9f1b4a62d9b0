/- The pool: done, at the function that Do hands to it (2). (Printed by gen/odone.py.) The pool: done, at the function that Do hands to it (3). (Printed by gen/odone.py.) -/
import Derived.Test.YtohlkkannjifmaaGreatDoorOPool8
namespace Go.Proofs.YtohlkkannjifmaaGreatDoor
open Go.RowKit Go.Shelf

set_option maxHeartbeats 8000000 in
set_option maxRecDepth 100000 in
theorem done2_any (U V : Nat → Prop) (d ds do_ l p K : Nat) (D : DK) (L : LK) (P : PK) (sv : Value) (m hand : Nat) (Q : Nat → Nat) (B : Nat → Value) (Us : Nat → Bool) (n lsn : Int) (fb : Nat) (act : List UInt8 → Int × List UInt8) (w : World) (h : RG w U V d ds do_ l p K D L P sv m hand Q B Us) (hn : 0 ≤ n ∧ n < P.count) (hK : K ≤ 800000000)
    (hlsn : 0 ≤ lsn ∧ lsn ≤ 9223372036854775807) (hact : ActC 51 #[.pointer (some ⟨fb, 0, none⟩)] act w.heap.size fun W => Trn (AllB U V d ds do_) w W) :
    Calls Tryz.prog 49 #[.pointer (some ⟨p, 0, none⟩), .int .i64 n, .int .i64 lsn, .func (.func 51) #[] #[.pointer (some ⟨fb, 0, none⟩)]] w (DoneG U V d ds do_ l p K P n lsn act L D m w) := by
  have HFr : Hid (Calls Tryz.prog 54 #[.pointer (some ⟨p, 0, none⟩), .int .i64 n] w (FrG U V d ds do_ l p K P n L D m w)) := Lib.hid (frame_any U V d ds do_ l p K D L P sv m hand Q B Us n w h hn hK)
  have HA := Lib.hid hact
  have HL := Lib.hid hlsn
  clear h hn hact hlsn
  go_enter Tryz.func49, Tryz.ntmps49
  go_upto_region 2 with (first | (go_at_call 54; refine HFr.out.mono ?_; rintro e w1 hfr; obtain ⟨pv, e1, j, P1, L1, D1, V', sv', hand', Q', B', Us', rfl, hf2, hf3, hf4, hf5, hf6⟩ := hfr.one; have F2 := Lib.hid hf2; have R1 := Lib.hid hf3; have T1 := Lib.hid hf4; have V1 := Lib.hid hf5; have C1 := Lib.hid hf6; clear hf2 hf3 hf4 hf5 hf6 hfr))
  by_cases h0 : e1 = 0
  · subst h0
    obtain ⟨hj, rfl⟩ := C1.out rfl
    have HJ := Lib.hid hj
    have hf := R1.out.pf.fr j hj
    obtain ⟨gb, c, X, hv, hge, hpg⟩ := hf.b.pg hf.len
    have q1 : w1.cell? ⟨Q' j, 1, none⟩ = some (.slice (some ⟨gb, 0, none⟩) 512 c) := by rw [← hv]; exact cell_of_row _ _ 1 _ _ _ hf.blk
    have HAt : Hid (P1.frames[j]? = some (P1.frames.getD j fr0)) := Lib.hid (by rw [List.getD_eq_getElem?_getD, List.getElem?_eq_getElem hj]; rfl)
    have HPG := Lib.hid hpg
    have HQl : Hid (Q' j < w1.heap.size) := Lib.hid (R1.out.pf.lt _ (R1.out.pf.vq j hj))
    have HBl0 := Lib.hid hf.blk
    have HLs := Lib.hid (Lsn_any _ _ _ _ _ w1 hpg.rb (Nat.le_refl _))
    have HPf : Hid (0 ≤ (P1.frames.getD j fr0).first ∧ (P1.frames.getD j fr0).first ≤ 9223372036854775807) := Lib.hid (R1.out.pf.ok.lsn _ (getD_mem P1.frames fr0 j hj))
    clear hf hj hv hge hpg
    obtain ⟨f, hfe⟩ : ∃ f, f = P1.frames.getD j fr0 := ⟨_, rfl⟩
    have HFe := Lib.hid hfe
    rw [← hfe] at HAt HPG HLs HPf
    clear hfe
    by_cases hle : lsn ≤ (lsnL f.b : Int)
    · have e2 : decide ((lsnL f.b : Int) ≥ lsn) = true := decide_eq_true hle
      have HLe := Lib.hid hle
      clear hle
      generalize (lsnL f.b : Int) = ln at HLs e2
      go_wp2_with (go_at_call 32; refine HLs.out.mono ?_; rintro e w2 ⟨rfl, hb⟩; have B2 := Lib.hid hb; clear hb)
      go_ret2
      exact ⟨(false, 0, P1, L1, D1), V', sv', hand', Q', B', Us', .was j _ f F2.out HAt.out HLe.out, R1.out.keep B2.out (Nat.le_refl _), T1.out.below B2.out T1.out.size, V1.out, rfl⟩
    · have e2 : decide ((lsnL f.b : Int) ≥ lsn) = false := decide_eq_false hle
      have HLe : Hid ((lsnL f.b : Int) < lsn) := Lib.hid (by omega)
      clear hle
      generalize (lsnL f.b : Int) = ln at HLs e2
      go_upto_region 4 with (go_at_call 32; refine HLs.out.mono ?_; rintro e w2 ⟨rfl, hb⟩; have B2 := Lib.hid hb; have p2 := HPG.out.below hb HPG.out.lt; have P2 := Lib.hid p2; have q2 : w2.cell? ⟨Q' j, 1, none⟩ = some (.slice (some ⟨gb, 0, none⟩) 512 c) := (hb.cell (p := ⟨Q' j, 1, none⟩) HQl.out).trans q1; clear hb p2)
      have HCl := Lib.hid (sclone_any _ _ _ _ _ w2 P2.out.rb (Nat.le_refl _))
      have T2 : Hid (Trn (AllB U V d ds do_) w w2) := Lib.hid (T1.out.below B2.out T1.out.size)
      clear q1
      obtain ⟨e3, b3, hact⟩ : ∃ e3 b3, act f.b = (e3, b3) := ⟨_, _, rfl⟩
      have HE := Lib.hid hact
      have HA2 : Hid (∀ W g c X, Below w2.heap.size w2 W → PG W g c f.b X → w2.heap.size ≤ g → Calls Tryz.prog 51 (#[.slice (some ⟨g, 0, none⟩) 512 c] ++ #[.pointer (some ⟨fb, 0, none⟩)]) W fun e w' => ∃ g' c' X', e = .returned (.tuple #[.slice (some ⟨g', 0, none⟩) 512 c', .int .i64 e3]) ∧ (e3 = 0 → PG w' g' c' b3 X') ∧ w2.heap.size ≤ g' ∧ Below w2.heap.size W w') := Lib.hid fun W g c X h1 h2 h3 => by
        have := HA.out W w2.heap.size g c X f.b (T2.out.below h1 T2.out.size) T2.out.size h2 h3 h1.size
        rw [hact] at this
        exact this
      clear hact
      by_cases h3 : e3 = 0
      · subst h3
        go_upto_region 8 with (first | (go_at_call 55; refine HCl.out.mono ?_; rintro e w3 ⟨⟨v3, rfl, ho⟩, hb⟩; have B3 := Lib.hid hb; obtain ⟨g3, c3, X3, rfl, hge3, hpg3⟩ := ho.pg HPG.out.len; have HD := Lib.hid (HA2.out w3 g3 c3 X3 hb hpg3 hge3); clear ho hb hge3 hpg3) | (go_at_call 51; refine HD.out.mono ?_; rintro e w4 ⟨g4, c4, X4, rfl, hp4, hge4, hb4⟩; have B4 := Lib.hid (B3.out.trans hb4); have G4 := Lib.hid hge4; have S4 := Lib.hid (SetLsn_any g4 c4 b3 X4 lsn w4 (hp4 (by simp)) HL.out.2); clear hp4 hge4 hb4) | (go_at_call 27; refine S4.out.mono ?_; rintro e w5 ⟨rfl, hp5, hm5⟩; have P5 := Lib.hid hp5; have hb5 := B4.out.grown hm5 B4.out.size (fun k e => by cases e; exact G4.out); have B5 := Lib.hid hb5; clear hp5 hm5 hb5))
        have b15 : Hid (Below w1.heap.size w1 w5) := Lib.hid (B2.out.trans (B5.out.mono B2.out.size))
        have hb5 : w5.heap[Q' j]? = some (frObj f (B' j) (Us' j)) := by rw [HFe.out]; exact (b15.out.block _ HQl.out).trans HBl0.out
        have HB5 := Lib.hid hb5
        have q3 : w5.cell? ⟨Q' j, 3, none⟩ = some (.bool f.dirty) := cell_of_row _ _ 3 _ _ _ hb5
        have f1 : w5.frozen? ⟨Q' j, 1, none⟩ = false := by simp [World.frozen?, hb5, frObj]
        have f3 : w5.frozen? ⟨Q' j, 3, none⟩ = false := by simp [World.frozen?, hb5, frObj]
        have f4 : w5.frozen? ⟨Q' j, 4, none⟩ = false := by simp [World.frozen?, hb5, frObj]
        have q5 : w5.cell? ⟨Q' j, 1, none⟩ = some (B' j) := cell_of_row _ _ 1 _ _ _ hb5
        have q4 : w5.cell? ⟨Q' j, 4, none⟩ = some (.int .i64 f.first) := cell_of_row _ _ 4 _ _ _ hb5
        clear hb5 q2
        have HDd : Hid (∀ f', f' = { f with b := setLsnL b3 lsn, dirty := true, first := if f.dirty then f.first else lsn } → DoneP P n lsn act L D (true, 0, P1.setFr j f', L1, D1)) := Lib.hid fun f' hf' => by
          have := DoneP.did (lsn := lsn) (act := act) j _ f F2.out HAt.out HLe.out (by rw [HE.out])
          rw [HE.out] at this
          rw [hf']
          exact this
        cases hd : f.dirty with
        | true =>
          rw [hd] at q3
          have HDy := Lib.hid hd
          clear hd
          go_wp2_with (fail)
          go_ret2
          obtain ⟨hr, ht⟩ := R1.out.did HJ.out b15.out P5.out (Nat.le_trans B2.out.size G4.out) { f with b := setLsnL b3 lsn, dirty := true } (by rw [HFe.out]) HPf.out rfl (w6 := w5.setCell ⟨Q' j, 1, none⟩ (.slice (some ⟨g4, 0, none⟩) 512 c4)) (by rw [← HDy.out]; exact set_at HB5.out 1 _) ((Trn.refl (fun g => g = Q' j) w5).set _ _ _ (.inl rfl))
          exact ⟨(true, 0, P1.setFr j _, L1, D1), _, sv', hand', Q', _, _, HDd.out _ (by simp [HDy.out]), hr, T1.out.trans ht fun g hg => by (rcases V1.out g hg with h | h; exact .inl (.inr (.inl h)); exact .inr h), fun g hg => by
            rcases hg with hg | hg
            · exact V1.out g hg
            · exact .inr (Nat.le_trans T1.out.size hg.1), rfl⟩
        | false =>
          rw [hd] at q3
          have HDy := Lib.hid hd
          clear hd
          go_wp2_with (fail)
          go_ret2
          obtain ⟨hr, ht⟩ := R1.out.did HJ.out b15.out P5.out (Nat.le_trans B2.out.size G4.out) { f with b := setLsnL b3 lsn, dirty := true, first := lsn } (by rw [HFe.out]) HL.out rfl (w6 := ((w5.setCell ⟨Q' j, 1, none⟩ (.slice (some ⟨g4, 0, none⟩) 512 c4)).setCell ⟨Q' j, 3, none⟩ (.bool true)).setCell ⟨Q' j, 4, none⟩ (.int .i64 lsn)) (set_at (set_at (set_at HB5.out 1 _) 3 _) 4 _) ((((Trn.refl (fun g => g = Q' j) w5).set _ _ _ (.inl rfl)).set _ _ _ (.inl rfl)).set _ _ _ (.inl rfl))
          exact ⟨(true, 0, P1.setFr j _, L1, D1), _, sv', hand', Q', _, _, HDd.out _ (by simp [HDy.out]), hr, T1.out.trans ht fun g hg => by (rcases V1.out g hg with h | h; exact .inl (.inr (.inl h)); exact .inr h), fun g hg => by
            rcases hg with hg | hg
            · exact V1.out g hg
            · exact .inr (Nat.le_trans T1.out.size hg.1), rfl⟩
      · have H3 := Lib.hid h3
        have ee3 : (e3 == 0) = false := by simpa using h3
        clear h3
        go_wp2_with (first | (go_at_call 55; refine HCl.out.mono ?_; rintro e w3 ⟨⟨v3, rfl, ho⟩, hb⟩; have B3 := Lib.hid hb; obtain ⟨g3, c3, X3, rfl, hge3, hpg3⟩ := ho.pg HPG.out.len; have HD := Lib.hid (HA2.out w3 g3 c3 X3 hb hpg3 hge3); clear ho hb hge3 hpg3) | (go_at_call 51; refine HD.out.mono ?_; rintro e w4 ⟨g4, c4, X4, rfl, -, -, hb4⟩; have B4 := Lib.hid (B3.out.trans hb4); clear hb4))
        go_ret2
        have b14 : Below w1.heap.size w1 w4 := B2.out.trans (B4.out.mono B2.out.size)
        exact ⟨(false, e3, P1, L1, D1), V', sv', hand', Q', B', Us', by
          have := DoneP.not (lsn := lsn) (act := act) j _ f F2.out HAt.out HLe.out (by rw [HE.out]; exact H3.out)
          rw [HE.out] at this
          exact this, R1.out.keep b14 (Nat.le_refl _), T1.out.below b14 T1.out.size, V1.out, rfl⟩
  · have E1 := Lib.hid h0
    have ee : (e1 == 0) = false := by simpa using h0
    clear h0
    go_wp2_with (fail)
    go_ret2
    exact ⟨(false, e1, P1, L1, D1), V', sv', hand', Q', B', Us', .bad e1 j _ F2.out E1.out, R1.out, T1.out, V1.out, rfl⟩
end Go.Proofs.YtohlkkannjifmaaGreatDoor
namespace Go.Proofs.YtohlkkannjifmaaGreatDoor
open Go.RowKit Go.Shelf

set_option maxHeartbeats 8000000 in
set_option maxRecDepth 100000 in
theorem done3_any (U V : Nat → Prop) (d ds do_ l p K : Nat) (D : DK) (L : LK) (P : PK) (sv : Value) (m hand : Nat) (Q : Nat → Nat) (B : Nat → Value) (Us : Nat → Bool) (n lsn : Int) (act : List UInt8 → Int × List UInt8) (w : World) (h : RG w U V d ds do_ l p K D L P sv m hand Q B Us) (hn : 0 ≤ n ∧ n < P.count) (hK : K ≤ 800000000)
    (hlsn : 0 ≤ lsn ∧ lsn ≤ 9223372036854775807) (hact : ActC 53 #[] act w.heap.size fun W => Trn (AllB U V d ds do_) w W) :
    Calls Tryz.prog 49 #[.pointer (some ⟨p, 0, none⟩), .int .i64 n, .int .i64 lsn, .func (.func 53) #[] #[]] w (DoneG U V d ds do_ l p K P n lsn act L D m w) := by
  have HFr : Hid (Calls Tryz.prog 54 #[.pointer (some ⟨p, 0, none⟩), .int .i64 n] w (FrG U V d ds do_ l p K P n L D m w)) := Lib.hid (frame_any U V d ds do_ l p K D L P sv m hand Q B Us n w h hn hK)
  have HA := Lib.hid hact
  have HL := Lib.hid hlsn
  clear h hn hact hlsn
  go_enter Tryz.func49, Tryz.ntmps49
  go_upto_region 2 with (first | (go_at_call 54; refine HFr.out.mono ?_; rintro e w1 hfr; obtain ⟨pv, e1, j, P1, L1, D1, V', sv', hand', Q', B', Us', rfl, hf2, hf3, hf4, hf5, hf6⟩ := hfr.one; have F2 := Lib.hid hf2; have R1 := Lib.hid hf3; have T1 := Lib.hid hf4; have V1 := Lib.hid hf5; have C1 := Lib.hid hf6; clear hf2 hf3 hf4 hf5 hf6 hfr))
  by_cases h0 : e1 = 0
  · subst h0
    obtain ⟨hj, rfl⟩ := C1.out rfl
    have HJ := Lib.hid hj
    have hf := R1.out.pf.fr j hj
    obtain ⟨gb, c, X, hv, hge, hpg⟩ := hf.b.pg hf.len
    have q1 : w1.cell? ⟨Q' j, 1, none⟩ = some (.slice (some ⟨gb, 0, none⟩) 512 c) := by rw [← hv]; exact cell_of_row _ _ 1 _ _ _ hf.blk
    have HAt : Hid (P1.frames[j]? = some (P1.frames.getD j fr0)) := Lib.hid (by rw [List.getD_eq_getElem?_getD, List.getElem?_eq_getElem hj]; rfl)
    have HPG := Lib.hid hpg
    have HQl : Hid (Q' j < w1.heap.size) := Lib.hid (R1.out.pf.lt _ (R1.out.pf.vq j hj))
    have HBl0 := Lib.hid hf.blk
    have HLs := Lib.hid (Lsn_any _ _ _ _ _ w1 hpg.rb (Nat.le_refl _))
    have HPf : Hid (0 ≤ (P1.frames.getD j fr0).first ∧ (P1.frames.getD j fr0).first ≤ 9223372036854775807) := Lib.hid (R1.out.pf.ok.lsn _ (getD_mem P1.frames fr0 j hj))
    clear hf hj hv hge hpg
    obtain ⟨f, hfe⟩ : ∃ f, f = P1.frames.getD j fr0 := ⟨_, rfl⟩
    have HFe := Lib.hid hfe
    rw [← hfe] at HAt HPG HLs HPf
    clear hfe
    by_cases hle : lsn ≤ (lsnL f.b : Int)
    · have e2 : decide ((lsnL f.b : Int) ≥ lsn) = true := decide_eq_true hle
      have HLe := Lib.hid hle
      clear hle
      generalize (lsnL f.b : Int) = ln at HLs e2
      go_wp2_with (go_at_call 32; refine HLs.out.mono ?_; rintro e w2 ⟨rfl, hb⟩; have B2 := Lib.hid hb; clear hb)
      go_ret2
      exact ⟨(false, 0, P1, L1, D1), V', sv', hand', Q', B', Us', .was j _ f F2.out HAt.out HLe.out, R1.out.keep B2.out (Nat.le_refl _), T1.out.below B2.out T1.out.size, V1.out, rfl⟩
    · have e2 : decide ((lsnL f.b : Int) ≥ lsn) = false := decide_eq_false hle
      have HLe : Hid ((lsnL f.b : Int) < lsn) := Lib.hid (by omega)
      clear hle
      generalize (lsnL f.b : Int) = ln at HLs e2
      go_upto_region 4 with (go_at_call 32; refine HLs.out.mono ?_; rintro e w2 ⟨rfl, hb⟩; have B2 := Lib.hid hb; have p2 := HPG.out.below hb HPG.out.lt; have P2 := Lib.hid p2; have q2 : w2.cell? ⟨Q' j, 1, none⟩ = some (.slice (some ⟨gb, 0, none⟩) 512 c) := (hb.cell (p := ⟨Q' j, 1, none⟩) HQl.out).trans q1; clear hb p2)
      have HCl := Lib.hid (sclone_any _ _ _ _ _ w2 P2.out.rb (Nat.le_refl _))
      have T2 : Hid (Trn (AllB U V d ds do_) w w2) := Lib.hid (T1.out.below B2.out T1.out.size)
      clear q1
      obtain ⟨e3, b3, hact⟩ : ∃ e3 b3, act f.b = (e3, b3) := ⟨_, _, rfl⟩
      have HE := Lib.hid hact
      have HA2 : Hid (∀ W g c X, Below w2.heap.size w2 W → PG W g c f.b X → w2.heap.size ≤ g → Calls Tryz.prog 53 (#[.slice (some ⟨g, 0, none⟩) 512 c] ++ #[]) W fun e w' => ∃ g' c' X', e = .returned (.tuple #[.slice (some ⟨g', 0, none⟩) 512 c', .int .i64 e3]) ∧ (e3 = 0 → PG w' g' c' b3 X') ∧ w2.heap.size ≤ g' ∧ Below w2.heap.size W w') := Lib.hid fun W g c X h1 h2 h3 => by
        have := HA.out W w2.heap.size g c X f.b (T2.out.below h1 T2.out.size) T2.out.size h2 h3 h1.size
        rw [hact] at this
        exact this
      clear hact
      by_cases h3 : e3 = 0
      · subst h3
        go_upto_region 8 with (first | (go_at_call 55; refine HCl.out.mono ?_; rintro e w3 ⟨⟨v3, rfl, ho⟩, hb⟩; have B3 := Lib.hid hb; obtain ⟨g3, c3, X3, rfl, hge3, hpg3⟩ := ho.pg HPG.out.len; have HD := Lib.hid (HA2.out w3 g3 c3 X3 hb hpg3 hge3); clear ho hb hge3 hpg3) | (go_at_call 53; refine HD.out.mono ?_; rintro e w4 ⟨g4, c4, X4, rfl, hp4, hge4, hb4⟩; have B4 := Lib.hid (B3.out.trans hb4); have G4 := Lib.hid hge4; have S4 := Lib.hid (SetLsn_any g4 c4 b3 X4 lsn w4 (hp4 (by simp)) HL.out.2); clear hp4 hge4 hb4) | (go_at_call 27; refine S4.out.mono ?_; rintro e w5 ⟨rfl, hp5, hm5⟩; have P5 := Lib.hid hp5; have hb5 := B4.out.grown hm5 B4.out.size (fun k e => by cases e; exact G4.out); have B5 := Lib.hid hb5; clear hp5 hm5 hb5))
        have b15 : Hid (Below w1.heap.size w1 w5) := Lib.hid (B2.out.trans (B5.out.mono B2.out.size))
        have hb5 : w5.heap[Q' j]? = some (frObj f (B' j) (Us' j)) := by rw [HFe.out]; exact (b15.out.block _ HQl.out).trans HBl0.out
        have HB5 := Lib.hid hb5
        have q3 : w5.cell? ⟨Q' j, 3, none⟩ = some (.bool f.dirty) := cell_of_row _ _ 3 _ _ _ hb5
        have f1 : w5.frozen? ⟨Q' j, 1, none⟩ = false := by simp [World.frozen?, hb5, frObj]
        have f3 : w5.frozen? ⟨Q' j, 3, none⟩ = false := by simp [World.frozen?, hb5, frObj]
        have f4 : w5.frozen? ⟨Q' j, 4, none⟩ = false := by simp [World.frozen?, hb5, frObj]
        have q5 : w5.cell? ⟨Q' j, 1, none⟩ = some (B' j) := cell_of_row _ _ 1 _ _ _ hb5
        have q4 : w5.cell? ⟨Q' j, 4, none⟩ = some (.int .i64 f.first) := cell_of_row _ _ 4 _ _ _ hb5
        clear hb5 q2
        have HDd : Hid (∀ f', f' = { f with b := setLsnL b3 lsn, dirty := true, first := if f.dirty then f.first else lsn } → DoneP P n lsn act L D (true, 0, P1.setFr j f', L1, D1)) := Lib.hid fun f' hf' => by
          have := DoneP.did (lsn := lsn) (act := act) j _ f F2.out HAt.out HLe.out (by rw [HE.out])
          rw [HE.out] at this
          rw [hf']
          exact this
        cases hd : f.dirty with
        | true =>
          rw [hd] at q3
          have HDy := Lib.hid hd
          clear hd
          go_wp2_with (fail)
          go_ret2
          obtain ⟨hr, ht⟩ := R1.out.did HJ.out b15.out P5.out (Nat.le_trans B2.out.size G4.out) { f with b := setLsnL b3 lsn, dirty := true } (by rw [HFe.out]) HPf.out rfl (w6 := w5.setCell ⟨Q' j, 1, none⟩ (.slice (some ⟨g4, 0, none⟩) 512 c4)) (by rw [← HDy.out]; exact set_at HB5.out 1 _) ((Trn.refl (fun g => g = Q' j) w5).set _ _ _ (.inl rfl))
          exact ⟨(true, 0, P1.setFr j _, L1, D1), _, sv', hand', Q', _, _, HDd.out _ (by simp [HDy.out]), hr, T1.out.trans ht fun g hg => by (rcases V1.out g hg with h | h; exact .inl (.inr (.inl h)); exact .inr h), fun g hg => by
            rcases hg with hg | hg
            · exact V1.out g hg
            · exact .inr (Nat.le_trans T1.out.size hg.1), rfl⟩
        | false =>
          rw [hd] at q3
          have HDy := Lib.hid hd
          clear hd
          go_wp2_with (fail)
          go_ret2
          obtain ⟨hr, ht⟩ := R1.out.did HJ.out b15.out P5.out (Nat.le_trans B2.out.size G4.out) { f with b := setLsnL b3 lsn, dirty := true, first := lsn } (by rw [HFe.out]) HL.out rfl (w6 := ((w5.setCell ⟨Q' j, 1, none⟩ (.slice (some ⟨g4, 0, none⟩) 512 c4)).setCell ⟨Q' j, 3, none⟩ (.bool true)).setCell ⟨Q' j, 4, none⟩ (.int .i64 lsn)) (set_at (set_at (set_at HB5.out 1 _) 3 _) 4 _) ((((Trn.refl (fun g => g = Q' j) w5).set _ _ _ (.inl rfl)).set _ _ _ (.inl rfl)).set _ _ _ (.inl rfl))
          exact ⟨(true, 0, P1.setFr j _, L1, D1), _, sv', hand', Q', _, _, HDd.out _ (by simp [HDy.out]), hr, T1.out.trans ht fun g hg => by (rcases V1.out g hg with h | h; exact .inl (.inr (.inl h)); exact .inr h), fun g hg => by
            rcases hg with hg | hg
            · exact V1.out g hg
            · exact .inr (Nat.le_trans T1.out.size hg.1), rfl⟩
      · have H3 := Lib.hid h3
        have ee3 : (e3 == 0) = false := by simpa using h3
        clear h3
        go_wp2_with (first | (go_at_call 55; refine HCl.out.mono ?_; rintro e w3 ⟨⟨v3, rfl, ho⟩, hb⟩; have B3 := Lib.hid hb; obtain ⟨g3, c3, X3, rfl, hge3, hpg3⟩ := ho.pg HPG.out.len; have HD := Lib.hid (HA2.out w3 g3 c3 X3 hb hpg3 hge3); clear ho hb hge3 hpg3) | (go_at_call 53; refine HD.out.mono ?_; rintro e w4 ⟨g4, c4, X4, rfl, -, -, hb4⟩; have B4 := Lib.hid (B3.out.trans hb4); clear hb4))
        go_ret2
        have b14 : Below w1.heap.size w1 w4 := B2.out.trans (B4.out.mono B2.out.size)
        exact ⟨(false, e3, P1, L1, D1), V', sv', hand', Q', B', Us', by
          have := DoneP.not (lsn := lsn) (act := act) j _ f F2.out HAt.out HLe.out (by rw [HE.out]; exact H3.out)
          rw [HE.out] at this
          exact this, R1.out.keep b14 (Nat.le_refl _), T1.out.below b14 T1.out.size, V1.out, rfl⟩
  · have E1 := Lib.hid h0
    have ee : (e1 == 0) = false := by simpa using h0
    clear h0
    go_wp2_with (fail)
    go_ret2
    exact ⟨(false, e1, P1, L1, D1), V', sv', hand', Q', B', Us', .bad e1 j _ F2.out E1.out, R1.out, T1.out, V1.out, rfl⟩
end Go.Proofs.YtohlkkannjifmaaGreatDoor
