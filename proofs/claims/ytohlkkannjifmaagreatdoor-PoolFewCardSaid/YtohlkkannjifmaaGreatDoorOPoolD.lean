/- The pool: done, at the function that Do hands to it (2). (Printed by gen/odone.py.) The pool: done, at the function that Do hands to it (3). (Printed by gen/odone.py.) The pool: what Do does. (Printed by gen/odo.py.) The pool: Do, at kinds that it does not do. (Printed by gen/odo.py.) -/
import Derived.Test.YtohlkkannjifmaaGreatDoorOPool8
namespace Go.Proofs.YtohlkkannjifmaaGreatDoor
open Go.RowKit Go.Shelf
set_option maxHeartbeats 8000000 in
set_option maxRecDepth 100000 in
theorem done2_any (U V : Nat → Prop) (d ds do_ l p K : Nat) (D : DK) (L : LK) (P : PK) (sv : Value) (m hand : Nat) (Q : Nat → Nat) (B : Nat → Value) (Us : Nat → Bool) (n lsn : Int) (fb : Nat) (act : List UInt8 → Int × List UInt8) (w : World) (h : RG w U V d ds do_ l p K D L P sv m hand Q B Us) (hn : 0 ≤ n ∧ n < P.count) (hK : K ≤ 800000000)
    (hlsn : 0 ≤ lsn ∧ lsn ≤ 9223372036854775807) (hact : ActC 51 #[.pointer (some ⟨fb, 0, none⟩)] act w.heap.size fun W => Trn (AllB U V d ds do_) w W) :
    Calls Tryz.prog 49 #[.pointer (some ⟨p, 0, none⟩), .int .i64 n, .int .i64 lsn, .func (.func 51) #[] #[.pointer (some ⟨fb, 0, none⟩)]] w (DoneG U V d ds do_ l p K P n lsn act L D m w) := by
  have HFr : Hid (Calls Tryz.prog 54 #[.pointer (some ⟨p, 0, none⟩), .int .i64 n] w (FrG U V d ds do_ l p K P n L D m w)) := Lib.hid (frame_any U V d ds do_ l p K D L P sv m hand Q B Us n w h hn hK)
  have HA := Lib.hid hact
  have HL := Lib.hid hlsn
  clear h hn hact hlsn
  go_enter Tryz.func49, Tryz.ntmps49
  go_upto_region 2 with (first | (go_at_call 54; refine HFr.out.mono ?_; rintro e w1 hfr; obtain ⟨pv, e1, j, P1, L1, D1, V', sv', hand', Q', B', Us', rfl, hf2, hf3, hf4, hf5, hf6⟩ := hfr.one; have F2 := Lib.hid hf2; have R1 := Lib.hid hf3; have T1 := Lib.hid hf4; have V1 := Lib.hid hf5; have C1 := Lib.hid hf6; clear hf2 hf3 hf4 hf5 hf6 hfr))
  by_cases h0 : e1 = 0
  · subst h0
    obtain ⟨hj, rfl⟩ := C1.out rfl
    have HJ := Lib.hid hj
    have hf := R1.out.pf.fr j hj
    obtain ⟨gb, c, X, hv, hge, hpg⟩ := hf.b.pg hf.len
    have q1 : w1.cell? ⟨Q' j, 1, none⟩ = some (.slice (some ⟨gb, 0, none⟩) 512 c) := by rw [← hv]; exact cell_of_row _ _ 1 _ _ _ hf.blk
    have HAt : Hid (P1.frames[j]? = some (P1.frames.getD j fr0)) := Lib.hid (by rw [List.getD_eq_getElem?_getD, List.getElem?_eq_getElem hj]; rfl)
    have HPG := Lib.hid hpg
    have HQl : Hid (Q' j < w1.heap.size) := Lib.hid (R1.out.pf.lt _ (R1.out.pf.vq j hj))
    have HBl0 := Lib.hid hf.blk
    have HLs := Lib.hid (Lsn_any _ _ _ _ _ w1 hpg.rb (Nat.le_refl _))
    have HPf : Hid (0 ≤ (P1.frames.getD j fr0).first ∧ (P1.frames.getD j fr0).first ≤ 9223372036854775807) := Lib.hid (R1.out.pf.ok.lsn _ (getD_mem P1.frames fr0 j hj))
    clear hf hj hv hge hpg
    obtain ⟨f, hfe⟩ : ∃ f, f = P1.frames.getD j fr0 := ⟨_, rfl⟩
    have HFe := Lib.hid hfe
    rw [← hfe] at HAt HPG HLs HPf
    clear hfe
    by_cases hle : lsn ≤ (lsnL f.b : Int)
    · have e2 : decide ((lsnL f.b : Int) ≥ lsn) = true := decide_eq_true hle
      have HLe := Lib.hid hle
      clear hle
      generalize (lsnL f.b : Int) = ln at HLs e2
      go_wp2_with (go_at_call 32; refine HLs.out.mono ?_; rintro e w2 ⟨rfl, hb⟩; have B2 := Lib.hid hb; clear hb)
      go_ret2
      exact ⟨(false, 0, P1, L1, D1), V', sv', hand', Q', B', Us', .was j _ f F2.out HAt.out HLe.out, R1.out.keep B2.out (Nat.le_refl _), T1.out.below B2.out T1.out.size, V1.out, rfl⟩
    · have e2 : decide ((lsnL f.b : Int) ≥ lsn) = false := decide_eq_false hle
      have HLe : Hid ((lsnL f.b : Int) < lsn) := Lib.hid (by omega)
      clear hle
      generalize (lsnL f.b : Int) = ln at HLs e2
      go_upto_region 4 with (go_at_call 32; refine HLs.out.mono ?_; rintro e w2 ⟨rfl, hb⟩; have B2 := Lib.hid hb; have p2 := HPG.out.below hb HPG.out.lt; have P2 := Lib.hid p2; have q2 : w2.cell? ⟨Q' j, 1, none⟩ = some (.slice (some ⟨gb, 0, none⟩) 512 c) := (hb.cell (p := ⟨Q' j, 1, none⟩) HQl.out).trans q1; clear hb p2)
      have HCl := Lib.hid (sclone_any _ _ _ _ _ w2 P2.out.rb (Nat.le_refl _))
      have T2 : Hid (Trn (AllB U V d ds do_) w w2) := Lib.hid (T1.out.below B2.out T1.out.size)
      clear q1
      obtain ⟨e3, b3, hact⟩ : ∃ e3 b3, act f.b = (e3, b3) := ⟨_, _, rfl⟩
      have HE := Lib.hid hact
      have HA2 : Hid (∀ W g c X, Below w2.heap.size w2 W → PG W g c f.b X → w2.heap.size ≤ g → Calls Tryz.prog 51 (#[.slice (some ⟨g, 0, none⟩) 512 c] ++ #[.pointer (some ⟨fb, 0, none⟩)]) W fun e w' => ∃ g' c' X', e = .returned (.tuple #[.slice (some ⟨g', 0, none⟩) 512 c', .int .i64 e3]) ∧ (e3 = 0 → PG w' g' c' b3 X') ∧ w2.heap.size ≤ g' ∧ Below w2.heap.size W w') := Lib.hid fun W g c X h1 h2 h3 => by
        have := HA.out W w2.heap.size g c X f.b (T2.out.below h1 T2.out.size) T2.out.size h2 h3 h1.size
        rw [hact] at this
        exact this
      clear hact
      by_cases h3 : e3 = 0
      · subst h3
        go_upto_region 8 with (first | (go_at_call 55; refine HCl.out.mono ?_; rintro e w3 ⟨⟨v3, rfl, ho⟩, hb⟩; have B3 := Lib.hid hb; obtain ⟨g3, c3, X3, rfl, hge3, hpg3⟩ := ho.pg HPG.out.len; have HD := Lib.hid (HA2.out w3 g3 c3 X3 hb hpg3 hge3); clear ho hb hge3 hpg3) | (go_at_call 51; refine HD.out.mono ?_; rintro e w4 ⟨g4, c4, X4, rfl, hp4, hge4, hb4⟩; have B4 := Lib.hid (B3.out.trans hb4); have G4 := Lib.hid hge4; have S4 := Lib.hid (SetLsn_any g4 c4 b3 X4 lsn w4 (hp4 (by simp)) HL.out.2); clear hp4 hge4 hb4) | (go_at_call 27; refine S4.out.mono ?_; rintro e w5 ⟨rfl, hp5, hm5⟩; have P5 := Lib.hid hp5; have hb5 := B4.out.grown hm5 B4.out.size (fun k e => by cases e; exact G4.out); have B5 := Lib.hid hb5; clear hp5 hm5 hb5))
        have b15 : Hid (Below w1.heap.size w1 w5) := Lib.hid (B2.out.trans (B5.out.mono B2.out.size))
        have hb5 : w5.heap[Q' j]? = some (frObj f (B' j) (Us' j)) := by rw [HFe.out]; exact (b15.out.block _ HQl.out).trans HBl0.out
        have HB5 := Lib.hid hb5
        have q3 : w5.cell? ⟨Q' j, 3, none⟩ = some (.bool f.dirty) := cell_of_row _ _ 3 _ _ _ hb5
        have f1 : w5.frozen? ⟨Q' j, 1, none⟩ = false := by simp [World.frozen?, hb5, frObj]
        have f3 : w5.frozen? ⟨Q' j, 3, none⟩ = false := by simp [World.frozen?, hb5, frObj]
        have f4 : w5.frozen? ⟨Q' j, 4, none⟩ = false := by simp [World.frozen?, hb5, frObj]
        have q5 : w5.cell? ⟨Q' j, 1, none⟩ = some (B' j) := cell_of_row _ _ 1 _ _ _ hb5
        have q4 : w5.cell? ⟨Q' j, 4, none⟩ = some (.int .i64 f.first) := cell_of_row _ _ 4 _ _ _ hb5
        clear hb5 q2
        have HDd : Hid (∀ f', f' = { f with b := setLsnL b3 lsn, dirty := true, first := if f.dirty then f.first else lsn } → DoneP P n lsn act L D (true, 0, P1.setFr j f', L1, D1)) := Lib.hid fun f' hf' => by
          have := DoneP.did (lsn := lsn) (act := act) j _ f F2.out HAt.out HLe.out (by rw [HE.out])
          rw [HE.out] at this
          rw [hf']
          exact this
        cases hd : f.dirty with
        | true =>
          rw [hd] at q3
          have HDy := Lib.hid hd
          clear hd
          go_wp2_with (fail)
          go_ret2
          obtain ⟨hr, ht⟩ := R1.out.did HJ.out b15.out P5.out (Nat.le_trans B2.out.size G4.out) { f with b := setLsnL b3 lsn, dirty := true } (by rw [HFe.out]) HPf.out rfl (w6 := w5.setCell ⟨Q' j, 1, none⟩ (.slice (some ⟨g4, 0, none⟩) 512 c4)) (by rw [← HDy.out]; exact set_at HB5.out 1 _) ((Trn.refl (fun g => g = Q' j) w5).set _ _ _ (.inl rfl))
          exact ⟨(true, 0, P1.setFr j _, L1, D1), _, sv', hand', Q', _, _, HDd.out _ (by simp [HDy.out]), hr, T1.out.trans ht fun g hg => by (rcases V1.out g hg with h | h; exact .inl (.inr (.inl h)); exact .inr h), fun g hg => by
            rcases hg with hg | hg
            · exact V1.out g hg
            · exact .inr (Nat.le_trans T1.out.size hg.1), rfl⟩
        | false =>
          rw [hd] at q3
          have HDy := Lib.hid hd
          clear hd
          go_wp2_with (fail)
          go_ret2
          obtain ⟨hr, ht⟩ := R1.out.did HJ.out b15.out P5.out (Nat.le_trans B2.out.size G4.out) { f with b := setLsnL b3 lsn, dirty := true, first := lsn } (by rw [HFe.out]) HL.out rfl (w6 := ((w5.setCell ⟨Q' j, 1, none⟩ (.slice (some ⟨g4, 0, none⟩) 512 c4)).setCell ⟨Q' j, 3, none⟩ (.bool true)).setCell ⟨Q' j, 4, none⟩ (.int .i64 lsn)) (set_at (set_at (set_at HB5.out 1 _) 3 _) 4 _) ((((Trn.refl (fun g => g = Q' j) w5).set _ _ _ (.inl rfl)).set _ _ _ (.inl rfl)).set _ _ _ (.inl rfl))
          exact ⟨(true, 0, P1.setFr j _, L1, D1), _, sv', hand', Q', _, _, HDd.out _ (by simp [HDy.out]), hr, T1.out.trans ht fun g hg => by (rcases V1.out g hg with h | h; exact .inl (.inr (.inl h)); exact .inr h), fun g hg => by
            rcases hg with hg | hg
            · exact V1.out g hg
            · exact .inr (Nat.le_trans T1.out.size hg.1), rfl⟩
      · have H3 := Lib.hid h3
        have ee3 : (e3 == 0) = false := by simpa using h3
        clear h3
        go_wp2_with (first | (go_at_call 55; refine HCl.out.mono ?_; rintro e w3 ⟨⟨v3, rfl, ho⟩, hb⟩; have B3 := Lib.hid hb; obtain ⟨g3, c3, X3, rfl, hge3, hpg3⟩ := ho.pg HPG.out.len; have HD := Lib.hid (HA2.out w3 g3 c3 X3 hb hpg3 hge3); clear ho hb hge3 hpg3) | (go_at_call 51; refine HD.out.mono ?_; rintro e w4 ⟨g4, c4, X4, rfl, -, -, hb4⟩; have B4 := Lib.hid (B3.out.trans hb4); clear hb4))
        go_ret2
        have b14 : Below w1.heap.size w1 w4 := B2.out.trans (B4.out.mono B2.out.size)
        exact ⟨(false, e3, P1, L1, D1), V', sv', hand', Q', B', Us', by
          have := DoneP.not (lsn := lsn) (act := act) j _ f F2.out HAt.out HLe.out (by rw [HE.out]; exact H3.out)
          rw [HE.out] at this
          exact this, R1.out.keep b14 (Nat.le_refl _), T1.out.below b14 T1.out.size, V1.out, rfl⟩
  · have E1 := Lib.hid h0
    have ee : (e1 == 0) = false := by simpa using h0
    clear h0
    go_wp2_with (fail)
    go_ret2
    exact ⟨(false, e1, P1, L1, D1), V', sv', hand', Q', B', Us', .bad e1 j _ F2.out E1.out, R1.out, T1.out, V1.out, rfl⟩
end Go.Proofs.YtohlkkannjifmaaGreatDoor
namespace Go.Proofs.YtohlkkannjifmaaGreatDoor
open Go.RowKit Go.Shelf
set_option maxHeartbeats 8000000 in
set_option maxRecDepth 100000 in
theorem done3_any (U V : Nat → Prop) (d ds do_ l p K : Nat) (D : DK) (L : LK) (P : PK) (sv : Value) (m hand : Nat) (Q : Nat → Nat) (B : Nat → Value) (Us : Nat → Bool) (n lsn : Int) (act : List UInt8 → Int × List UInt8) (w : World) (h : RG w U V d ds do_ l p K D L P sv m hand Q B Us) (hn : 0 ≤ n ∧ n < P.count) (hK : K ≤ 800000000)
    (hlsn : 0 ≤ lsn ∧ lsn ≤ 9223372036854775807) (hact : ActC 53 #[] act w.heap.size fun W => Trn (AllB U V d ds do_) w W) :
    Calls Tryz.prog 49 #[.pointer (some ⟨p, 0, none⟩), .int .i64 n, .int .i64 lsn, .func (.func 53) #[] #[]] w (DoneG U V d ds do_ l p K P n lsn act L D m w) := by
  have HFr : Hid (Calls Tryz.prog 54 #[.pointer (some ⟨p, 0, none⟩), .int .i64 n] w (FrG U V d ds do_ l p K P n L D m w)) := Lib.hid (frame_any U V d ds do_ l p K D L P sv m hand Q B Us n w h hn hK)
  have HA := Lib.hid hact
  have HL := Lib.hid hlsn
  clear h hn hact hlsn
  go_enter Tryz.func49, Tryz.ntmps49
  go_upto_region 2 with (first | (go_at_call 54; refine HFr.out.mono ?_; rintro e w1 hfr; obtain ⟨pv, e1, j, P1, L1, D1, V', sv', hand', Q', B', Us', rfl, hf2, hf3, hf4, hf5, hf6⟩ := hfr.one; have F2 := Lib.hid hf2; have R1 := Lib.hid hf3; have T1 := Lib.hid hf4; have V1 := Lib.hid hf5; have C1 := Lib.hid hf6; clear hf2 hf3 hf4 hf5 hf6 hfr))
  by_cases h0 : e1 = 0
  · subst h0
    obtain ⟨hj, rfl⟩ := C1.out rfl
    have HJ := Lib.hid hj
    have hf := R1.out.pf.fr j hj
    obtain ⟨gb, c, X, hv, hge, hpg⟩ := hf.b.pg hf.len
    have q1 : w1.cell? ⟨Q' j, 1, none⟩ = some (.slice (some ⟨gb, 0, none⟩) 512 c) := by rw [← hv]; exact cell_of_row _ _ 1 _ _ _ hf.blk
    have HAt : Hid (P1.frames[j]? = some (P1.frames.getD j fr0)) := Lib.hid (by rw [List.getD_eq_getElem?_getD, List.getElem?_eq_getElem hj]; rfl)
    have HPG := Lib.hid hpg
    have HQl : Hid (Q' j < w1.heap.size) := Lib.hid (R1.out.pf.lt _ (R1.out.pf.vq j hj))
    have HBl0 := Lib.hid hf.blk
    have HLs := Lib.hid (Lsn_any _ _ _ _ _ w1 hpg.rb (Nat.le_refl _))
    have HPf : Hid (0 ≤ (P1.frames.getD j fr0).first ∧ (P1.frames.getD j fr0).first ≤ 9223372036854775807) := Lib.hid (R1.out.pf.ok.lsn _ (getD_mem P1.frames fr0 j hj))
    clear hf hj hv hge hpg
    obtain ⟨f, hfe⟩ : ∃ f, f = P1.frames.getD j fr0 := ⟨_, rfl⟩
    have HFe := Lib.hid hfe
    rw [← hfe] at HAt HPG HLs HPf
    clear hfe
    by_cases hle : lsn ≤ (lsnL f.b : Int)
    · have e2 : decide ((lsnL f.b : Int) ≥ lsn) = true := decide_eq_true hle
      have HLe := Lib.hid hle
      clear hle
      generalize (lsnL f.b : Int) = ln at HLs e2
      go_wp2_with (go_at_call 32; refine HLs.out.mono ?_; rintro e w2 ⟨rfl, hb⟩; have B2 := Lib.hid hb; clear hb)
      go_ret2
      exact ⟨(false, 0, P1, L1, D1), V', sv', hand', Q', B', Us', .was j _ f F2.out HAt.out HLe.out, R1.out.keep B2.out (Nat.le_refl _), T1.out.below B2.out T1.out.size, V1.out, rfl⟩
    · have e2 : decide ((lsnL f.b : Int) ≥ lsn) = false := decide_eq_false hle
      have HLe : Hid ((lsnL f.b : Int) < lsn) := Lib.hid (by omega)
      clear hle
      generalize (lsnL f.b : Int) = ln at HLs e2
      go_upto_region 4 with (go_at_call 32; refine HLs.out.mono ?_; rintro e w2 ⟨rfl, hb⟩; have B2 := Lib.hid hb; have p2 := HPG.out.below hb HPG.out.lt; have P2 := Lib.hid p2; have q2 : w2.cell? ⟨Q' j, 1, none⟩ = some (.slice (some ⟨gb, 0, none⟩) 512 c) := (hb.cell (p := ⟨Q' j, 1, none⟩) HQl.out).trans q1; clear hb p2)
      have HCl := Lib.hid (sclone_any _ _ _ _ _ w2 P2.out.rb (Nat.le_refl _))
      have T2 : Hid (Trn (AllB U V d ds do_) w w2) := Lib.hid (T1.out.below B2.out T1.out.size)
      clear q1
      obtain ⟨e3, b3, hact⟩ : ∃ e3 b3, act f.b = (e3, b3) := ⟨_, _, rfl⟩
      have HE := Lib.hid hact
      have HA2 : Hid (∀ W g c X, Below w2.heap.size w2 W → PG W g c f.b X → w2.heap.size ≤ g → Calls Tryz.prog 53 (#[.slice (some ⟨g, 0, none⟩) 512 c] ++ #[]) W fun e w' => ∃ g' c' X', e = .returned (.tuple #[.slice (some ⟨g', 0, none⟩) 512 c', .int .i64 e3]) ∧ (e3 = 0 → PG w' g' c' b3 X') ∧ w2.heap.size ≤ g' ∧ Below w2.heap.size W w') := Lib.hid fun W g c X h1 h2 h3 => by
        have := HA.out W w2.heap.size g c X f.b (T2.out.below h1 T2.out.size) T2.out.size h2 h3 h1.size
        rw [hact] at this
        exact this
      clear hact
      by_cases h3 : e3 = 0
      · subst h3
        go_upto_region 8 with (first | (go_at_call 55; refine HCl.out.mono ?_; rintro e w3 ⟨⟨v3, rfl, ho⟩, hb⟩; have B3 := Lib.hid hb; obtain ⟨g3, c3, X3, rfl, hge3, hpg3⟩ := ho.pg HPG.out.len; have HD := Lib.hid (HA2.out w3 g3 c3 X3 hb hpg3 hge3); clear ho hb hge3 hpg3) | (go_at_call 53; refine HD.out.mono ?_; rintro e w4 ⟨g4, c4, X4, rfl, hp4, hge4, hb4⟩; have B4 := Lib.hid (B3.out.trans hb4); have G4 := Lib.hid hge4; have S4 := Lib.hid (SetLsn_any g4 c4 b3 X4 lsn w4 (hp4 (by simp)) HL.out.2); clear hp4 hge4 hb4) | (go_at_call 27; refine S4.out.mono ?_; rintro e w5 ⟨rfl, hp5, hm5⟩; have P5 := Lib.hid hp5; have hb5 := B4.out.grown hm5 B4.out.size (fun k e => by cases e; exact G4.out); have B5 := Lib.hid hb5; clear hp5 hm5 hb5))
        have b15 : Hid (Below w1.heap.size w1 w5) := Lib.hid (B2.out.trans (B5.out.mono B2.out.size))
        have hb5 : w5.heap[Q' j]? = some (frObj f (B' j) (Us' j)) := by rw [HFe.out]; exact (b15.out.block _ HQl.out).trans HBl0.out
        have HB5 := Lib.hid hb5
        have q3 : w5.cell? ⟨Q' j, 3, none⟩ = some (.bool f.dirty) := cell_of_row _ _ 3 _ _ _ hb5
        have f1 : w5.frozen? ⟨Q' j, 1, none⟩ = false := by simp [World.frozen?, hb5, frObj]
        have f3 : w5.frozen? ⟨Q' j, 3, none⟩ = false := by simp [World.frozen?, hb5, frObj]
        have f4 : w5.frozen? ⟨Q' j, 4, none⟩ = false := by simp [World.frozen?, hb5, frObj]
        have q5 : w5.cell? ⟨Q' j, 1, none⟩ = some (B' j) := cell_of_row _ _ 1 _ _ _ hb5
        have q4 : w5.cell? ⟨Q' j, 4, none⟩ = some (.int .i64 f.first) := cell_of_row _ _ 4 _ _ _ hb5
        clear hb5 q2
        have HDd : Hid (∀ f', f' = { f with b := setLsnL b3 lsn, dirty := true, first := if f.dirty then f.first else lsn } → DoneP P n lsn act L D (true, 0, P1.setFr j f', L1, D1)) := Lib.hid fun f' hf' => by
          have := DoneP.did (lsn := lsn) (act := act) j _ f F2.out HAt.out HLe.out (by rw [HE.out])
          rw [HE.out] at this
          rw [hf']
          exact this
        cases hd : f.dirty with
        | true =>
          rw [hd] at q3
          have HDy := Lib.hid hd
          clear hd
          go_wp2_with (fail)
          go_ret2
          obtain ⟨hr, ht⟩ := R1.out.did HJ.out b15.out P5.out (Nat.le_trans B2.out.size G4.out) { f with b := setLsnL b3 lsn, dirty := true } (by rw [HFe.out]) HPf.out rfl (w6 := w5.setCell ⟨Q' j, 1, none⟩ (.slice (some ⟨g4, 0, none⟩) 512 c4)) (by rw [← HDy.out]; exact set_at HB5.out 1 _) ((Trn.refl (fun g => g = Q' j) w5).set _ _ _ (.inl rfl))
          exact ⟨(true, 0, P1.setFr j _, L1, D1), _, sv', hand', Q', _, _, HDd.out _ (by simp [HDy.out]), hr, T1.out.trans ht fun g hg => by (rcases V1.out g hg with h | h; exact .inl (.inr (.inl h)); exact .inr h), fun g hg => by
            rcases hg with hg | hg
            · exact V1.out g hg
            · exact .inr (Nat.le_trans T1.out.size hg.1), rfl⟩
        | false =>
          rw [hd] at q3
          have HDy := Lib.hid hd
          clear hd
          go_wp2_with (fail)
          go_ret2
          obtain ⟨hr, ht⟩ := R1.out.did HJ.out b15.out P5.out (Nat.le_trans B2.out.size G4.out) { f with b := setLsnL b3 lsn, dirty := true, first := lsn } (by rw [HFe.out]) HL.out rfl (w6 := ((w5.setCell ⟨Q' j, 1, none⟩ (.slice (some ⟨g4, 0, none⟩) 512 c4)).setCell ⟨Q' j, 3, none⟩ (.bool true)).setCell ⟨Q' j, 4, none⟩ (.int .i64 lsn)) (set_at (set_at (set_at HB5.out 1 _) 3 _) 4 _) ((((Trn.refl (fun g => g = Q' j) w5).set _ _ _ (.inl rfl)).set _ _ _ (.inl rfl)).set _ _ _ (.inl rfl))
          exact ⟨(true, 0, P1.setFr j _, L1, D1), _, sv', hand', Q', _, _, HDd.out _ (by simp [HDy.out]), hr, T1.out.trans ht fun g hg => by (rcases V1.out g hg with h | h; exact .inl (.inr (.inl h)); exact .inr h), fun g hg => by
            rcases hg with hg | hg
            · exact V1.out g hg
            · exact .inr (Nat.le_trans T1.out.size hg.1), rfl⟩
      · have H3 := Lib.hid h3
        have ee3 : (e3 == 0) = false := by simpa using h3
        clear h3
        go_wp2_with (first | (go_at_call 55; refine HCl.out.mono ?_; rintro e w3 ⟨⟨v3, rfl, ho⟩, hb⟩; have B3 := Lib.hid hb; obtain ⟨g3, c3, X3, rfl, hge3, hpg3⟩ := ho.pg HPG.out.len; have HD := Lib.hid (HA2.out w3 g3 c3 X3 hb hpg3 hge3); clear ho hb hge3 hpg3) | (go_at_call 53; refine HD.out.mono ?_; rintro e w4 ⟨g4, c4, X4, rfl, -, -, hb4⟩; have B4 := Lib.hid (B3.out.trans hb4); clear hb4))
        go_ret2
        have b14 : Below w1.heap.size w1 w4 := B2.out.trans (B4.out.mono B2.out.size)
        exact ⟨(false, e3, P1, L1, D1), V', sv', hand', Q', B', Us', by
          have := DoneP.not (lsn := lsn) (act := act) j _ f F2.out HAt.out HLe.out (by rw [HE.out]; exact H3.out)
          rw [HE.out] at this
          exact this, R1.out.keep b14 (Nat.le_refl _), T1.out.below b14 T1.out.size, V1.out, rfl⟩
  · have E1 := Lib.hid h0
    have ee : (e1 == 0) = false := by simpa using h0
    clear h0
    go_wp2_with (fail)
    go_ret2
    exact ⟨(false, e1, P1, L1, D1), V', sv', hand', Q', B', Us', .bad e1 j _ F2.out E1.out, R1.out, T1.out, V1.out, rfl⟩
end Go.Proofs.YtohlkkannjifmaaGreatDoor
namespace Go.Proofs.YtohlkkannjifmaaGreatDoor
open Go.RowKit Go.Shelf
def argBad (r : RecV) (L : LK) : Prop := (r.kind ≠ 6 ∧ r.kind ≠ 1 ∧ r.kind ≠ 2) ∨ r.lsn < 1 ∨ L.end_ ≤ r.lsn
def pageBad (r : RecV) (c : Int) : Prop := ¬ (0 ≤ r.page ∧ r.page < c) ∨ (r.kind = 6 ∧ ¬ (0 ≤ r.next ∧ r.next < c))
inductive DoP (P : PK) (r : RecV) (L : LK) (D : DK) : Bool × Int × PK × LK × DK → Prop
  | arg : argBad r L → DoP P r L D (false, 2, P, L, D)
  | none : ¬ argBad r L → pageBad r P.count → DoP P r L D (false, 6, P, L, D)
  | one (x : Bool × Int × PK × LK × DK) : ¬ argBad r L → ¬ pageBad r P.count → r.kind ≠ 6 → DoneP P r.page r.lsn (actTurn r.key r.old r.new) L D x → DoP P r L D x
  | bad (x : Bool × Int × PK × LK × DK) : ¬ argBad r L → ¬ pageBad r P.count → r.kind = 6 → DoneP P r.page r.lsn (actNext r.next) L D x → x.2.1 ≠ 0 → DoP P r L D (false, x.2.1, x.2.2)
  | two (x y : Bool × Int × PK × LK × DK) : ¬ argBad r L → ¬ pageBad r P.count → r.kind = 6 → DoneP P r.page r.lsn (actNext r.next) L D x → x.2.1 = 0 → DoneP x.2.2.1 r.next r.lsn actNew x.2.2.2.1 x.2.2.2.2 y → DoP P r L D ((x.1 || y.1) && decide (y.2.1 = 0), y.2.1, y.2.2)
def DoG (U V : Nat → Prop) (d ds do_ l p K : Nat) (P : PK) (r : RecV) (L : LK) (D : DK) (m : Nat) (w : World) (e : Ending) (w' : World) : Prop :=
  ∃ x V' sv hand Q B Us, DoP P r L D x ∧ RG w' U V' d ds do_ l p (K + 20000) x.2.2.2.2 x.2.2.2.1 x.2.2.1 sv m hand Q B Us ∧ Trn (AllB U V d ds do_) w w' ∧ (∀ g, V' g → V g ∨ w.heap.size ≤ g) ∧
    e = .returned (.tuple #[.bool x.1, .int .i64 x.2.1])
structure DoE (N : Nat) (w : World) (U V : Nat → Prop) (d ds do_ : Nat) (r : RecV) (ka oa na : Option Addr) (kc oc nc : Nat) : Prop where
  k : RB N w ka r.key.length kc r.key
  o : RB N w oa r.old.length oc r.old
  n : RB N w na r.new.length nc r.new
  lt : N ≤ w.heap.size
  out : ∀ a b o s, (a = ka ∨ a = oa ∨ a = na) → a = some (⟨b, o, s⟩ : Addr) → ¬ AllB U V d ds do_ b
  ls : r.lsn ≤ 9223372036854775807
structure BoxE (w W : World) (U V : Nat → Prop) (d ds do_ : Nat) (r : RecV) (ka oa na da pa : Option Addr) (kc oc nc dc pc : Nat) : Prop where
  blk : W.heap[w.heap.size]? = some (recObj r ka oa na da pa kc oc nc dc pc)
  below : Below w.heap.size w W
theorem BoxE.act {w W : World} {U V : Nat → Prop} {d ds do_ : Nat} {r : RecV} {ka oa na da pa : Option Addr} {kc oc nc dc pc N : Nat} (h : BoxE w W U V d ds do_ r ka oa na da pa kc oc nc dc pc) (hE : DoE N w U V d ds do_ r ka oa na kc oc nc) (hlt : ∀ g, AllB U V d ds do_ g → g < w.heap.size) :
    ∀ W', Trn (AllB U V d ds do_) W W' → W'.heap[w.heap.size]? = some (recObj r ka oa na da pa kc oc nc dc pc) ∧ RB W.heap.size W' ka r.key.length kc r.key ∧ RB W.heap.size W' oa r.old.length oc r.old ∧ RB W.heap.size W' na r.new.length nc r.new := fun W' hT => by
  have hs : N ≤ W.heap.size := Nat.le_trans hE.lt h.below.size
  have hb : ∀ a n c l, (a = ka ∨ a = oa ∨ a = na) → RB N w a n c l → RB W.heap.size W' a n c l := fun a n c l ha hr => RB.mono (RB.of_block hr fun b o s e _ hbN => (hT.block b (Nat.lt_of_lt_of_le hbN hs) (fun hA => hE.out a b o s ha e hA)).trans (h.below.block b (Nat.lt_of_lt_of_le hbN hE.lt))) hs
  exact ⟨(hT.block _ (Array.getElem?_eq_some_iff.1 h.blk).1 (fun hA => by have := hlt _ hA; omega)).trans h.blk, hb _ _ _ _ (.inl rfl) hE.k, hb _ _ _ _ (.inr (.inl rfl)) hE.o, hb _ _ _ _ (.inr (.inr rfl)) hE.n⟩
theorem DoneG.do1 {U V : Nat → Prop} {d ds do_ l p K : Nat} {P : PK} {r : RecV} {L : LK} {D : DK} {m : Nat} {w W : World} {e : Ending} {w' : World} (h : DoneG U V d ds do_ l p K P r.page r.lsn (actTurn r.key r.old r.new) L D m W e w') (hb : Below w.heap.size w W) (h1 : ¬ argBad r L) (h2 : ¬ pageBad r P.count) (h6 : r.kind ≠ 6) : DoG U V d ds do_ l p K P r L D m w e w' := by
  obtain ⟨x, V', sv, hand, Q, B, Us, g1, g2, g3, g4, g5⟩ := h
  exact ⟨x, V', sv, hand, Q, B, Us, .one x h1 h2 h6 g1, g2.mono (by omega), ((Trn.refl _ w).below hb (Nat.le_refl _)).then g3, fun g hg => by (rcases g4 g hg with h | h; exact .inl h; exact .inr (Nat.le_trans hb.size h)), g5⟩
theorem DoG.stay {w w' : World} {U V : Nat → Prop} {d ds do_ l p K : Nat} {D : DK} {L : LK} {P : PK} {sv : Value} {m hand : Nat} {Q : Nat → Nat} {B : Nat → Value} {Us : Nat → Bool} {r : RecV} (h : RG w U V d ds do_ l p K D L P sv m hand Q B Us) (hb : Below w.heap.size w w') {x : Int} (hx : DoP P r L D (false, x, P, L, D)) :
    DoG U V d ds do_ l p K P r L D m w (.returned (.tuple #[.bool false, .int .i64 x])) w' :=
  ⟨(false, x, P, L, D), V, sv, hand, Q, B, Us, hx, h.keep hb (by omega), (Trn.refl _ w).below hb (Nat.le_refl _), fun g hg => .inl hg, rfl⟩
end Go.Proofs.YtohlkkannjifmaaGreatDoor
namespace Go.Proofs.YtohlkkannjifmaaGreatDoor
open Go.RowKit Go.Shelf
set_option maxHeartbeats 8000000 in
set_option maxRecDepth 100000 in
theorem do_other (U V : Nat → Prop) (d ds do_ l p KK : Nat) (D : DK) (L : LK) (P : PK) (sv : Value) (m hand : Nat) (Q : Nat → Nat) (B : Nat → Value) (Us : Nat → Bool) (N : Nat) (ls wk pv nx : Int) (kd : Nat) (pg : Int) (ka oa na da pa : Option Addr) (kc oc nc dc pc : Nat) (K O N' : List UInt8) (DD MM : List (Int × Int)) (w : World) (h : RG w U V d ds do_ l p KK D L P sv m hand Q B Us) (_hK : KK ≤ 700000000)
    (hE : DoE N w U V d ds do_ ⟨ls, wk, pv, nx, kd, pg, K, O, N', DD, MM⟩ ka oa na kc oc nc) (h6 : kd ≠ 6) (h1 : kd ≠ 1) (h2 : kd ≠ 2) :
    Calls Tryz.prog 12 #[.pointer (some ⟨p, 0, none⟩), .agg #[.int .i64 ls, .int .i64 wk, .int .i64 pv, .int .i64 nx, .int .u8 (kd : Int), .int .i64 pg, .slice ka K.length kc, .slice oa O.length oc, .slice na N'.length nc, .slice da DD.length dc, .slice pa MM.length pc]] w (DoG U V d ds do_ l p KK P ⟨ls, wk, pv, nx, kd, pg, K, O, N', DD, MM⟩ L D m w) := by
  have e6 : ((kd : Int) == 6) = false := by simp; omega
  have n1 : ((kd : Int) != 1) = true := by simp; omega
  have n2 : ((kd : Int) != 2) = true := by simp; omega
  have HX : Hid (DoP P ⟨ls, wk, pv, nx, kd, pg, K, O, N', DD, MM⟩ L D (false, 2, P, L, D)) := Lib.hid (.arg (.inl ⟨h6, h1, h2⟩))
  clear h6 h1 h2
  go_enter Tryz.func12, Tryz.ntmps12
  go_upto_region 2 with (fail)
  have hb0 : Below w.heap.size w (w.alloc (.cells #[.int .i64 ls, .int .i64 wk, .int .i64 pv, .int .i64 nx, .int .u8 (kd : Int), .int .i64 pg, .slice ka K.length kc, .slice oa O.length oc, .slice na N'.length nc, .slice da DD.length dc, .slice pa MM.length pc] 33)) := (Below.refl _ w).alloc (Nat.le_refl _) _
  obtain ⟨w0, hw0⟩ : ∃ w0, w0 = w.alloc (.cells #[.int .i64 ls, .int .i64 wk, .int .i64 pv, .int .i64 nx, .int .u8 (kd : Int), .int .i64 pg, .slice ka K.length kc, .slice oa O.length oc, .slice na N'.length nc, .slice da DD.length dc, .slice pa MM.length pc] 33) := ⟨_, rfl⟩
  have hx0 : BoxE w w0 U V d ds do_ ⟨ls, wk, pv, nx, kd, pg, K, O, N', DD, MM⟩ ka oa na da pa kc oc nc dc pc := ⟨by rw [hw0]; exact heap_alloc_last w _, by rw [hw0]; exact hb0⟩
  rw [← hw0]
  have X0 := Lib.hid hx0
  have R0 := Lib.hid (h.keep hx0.below (Nat.le_refl KK))
  have c0 : w0.cell? ⟨w.heap.size, 0, none⟩ = some (.int .i64 ls) := cell_of_row _ _ 0 _ _ _ hx0.blk
  have c3 : w0.cell? ⟨w.heap.size, 3, none⟩ = some (.int .i64 nx) := cell_of_row _ _ 3 _ _ _ hx0.blk
  have c4 : w0.cell? ⟨w.heap.size, 4, none⟩ = some (.int .u8 (kd : Int)) := cell_of_row _ _ 4 _ _ _ hx0.blk
  have c5 : w0.cell? ⟨w.heap.size, 5, none⟩ = some (.int .i64 pg) := cell_of_row _ _ 5 _ _ _ hx0.blk
  have p5 : w0.cell? ⟨p, 5, none⟩ = some (.pointer (some ⟨l, 0, none⟩)) := cell_of_row _ _ 5 _ _ _ R0.out.pf.blk
  have p7 : w0.cell? ⟨p, 7, none⟩ = some (.int .i64 P.count) := cell_of_row _ _ 7 _ _ _ R0.out.pf.blk
  have HTh : Hid (Calls Tryz.prog 46 #[.pointer (some ⟨p, 0, none⟩)] w0 fun e w' => e = .returned (.bool true) ∧ w' = w0) := Lib.hid (pthere_any p d w0 (cell_of_row _ _ 4 _ _ _ R0.out.pf.blk))
  have HEn : Hid (∀ W, Below w0.heap.size w0 W → Calls Tryz.prog 47 #[.pointer (some ⟨l, 0, none⟩)] W fun e w' => e = .returned (.int .i64 L.end_) ∧ Below w0.heap.size w0 w') := Lib.hid fun W hW => (end_any W U l d KK L (R0.out.keep hW (Nat.le_refl _)).log).mono fun e w' hh => ⟨hh.1, by rw [hh.2]; exact hW.drew⟩
  have HHs : Hid (∀ b, (decide (0 ≤ pg) && decide (pg < P.count)) = b → ∀ W, Below w0.heap.size w0 W → Calls Tryz.prog 48 #[.pointer (some ⟨p, 0, none⟩), .int .i64 pg] W fun e w' => e = .returned (.bool b) ∧ w' = W) := Lib.hid fun b hb W hW => (phas_any p pg P.count W (cell_of_row _ _ 7 _ _ _ (R0.out.keep hW (Nat.le_refl _)).pf.blk)).mono fun e w' hh => ⟨by rw [hh.1, hb], hh.2⟩
  have H := Lib.hid h
  have HE := Lib.hid hE
  clear hw0 hx0 hb0 h hE
  have HB : Hid True := Lib.hid trivial
  have HDn : Hid True := Lib.hid trivial
  go_wp2_with (first | (go_at_call 46; refine HTh.out.mono ?_; rintro e w1 ⟨rfl, hw1⟩; subst hw1) | (go_at_call 47; refine (HEn.out _ (by first | exact Below.refl _ _ | exact (Below.refl _ _).drew)).mono ?_; rintro e w2 ⟨rfl, hb2⟩; have B2 := Lib.hid hb2; have c0x : w2.cell? ⟨w.heap.size, 0, none⟩ = some (.int .i64 ls) := (hb2.cell (lt_of_cell c0)).trans c0; have c3x : w2.cell? ⟨w.heap.size, 3, none⟩ = some (.int .i64 nx) := (hb2.cell (lt_of_cell c3)).trans c3; have c5x : w2.cell? ⟨w.heap.size, 5, none⟩ = some (.int .i64 pg) := (hb2.cell (lt_of_cell c5)).trans c5; have p5x : w2.cell? ⟨p, 5, none⟩ = some (.pointer (some ⟨l, 0, none⟩)) := (hb2.cell (lt_of_cell p5)).trans p5; have p7x : w2.cell? ⟨p, 7, none⟩ = some (.int .i64 P.count) := (hb2.cell (lt_of_cell p7)).trans p7; clear hb2) | (go_at_call 48; refine (HHs.out _ HB.out _ (by first | exact B2.out | exact B2.out.drew)).mono ?_; rintro e w1 ⟨rfl, hw1⟩; subst hw1) | (go_at_call 49; refine (HDn.out _ (by first | exact B2.out | exact B2.out.drew | exact below_dn B2.out _)).mono ?_; rintro e w3 hd; obtain ⟨x, V3, sv3, hand3, Q3, B3, Us3, g1, g2, g3, g4, rfl⟩ := hd; have G1 := Lib.hid g1; have G2 := Lib.hid g2; have G3 := Lib.hid g3; have G4 := Lib.hid g4; clear g1 g2 g3 g4))
  go_ret2
  exact DoG.stay H.out X0.out.below HX.out
end Go.Proofs.YtohlkkannjifmaaGreatDoor
