/- KitMore's walk: its first loop. -/
import Derived.Test.YthlmnoggeggpkaaKMoreC
import Derived.Deep.DeepCutAuto
namespace Go.Proofs.Ythlmnoggeggpkaa
open Go.RowKit

/-- What the loop knows of the parts ahead. -/
structure FD (X : List It) (P : List Pt) (m : Nat) (dp : Int) (f : Bool) : Prop where
  lo : 0 ≤ dp
  hi : dp ≤ 9
  yes : f = true → (1 ≤ P.length ∧ P.length ≤ 8) ∧ (∀ j, j < m → okPart P j = true ∧ (P.getD j default).1 ∈ codes (X ++ [z8]) ∧ (tellX (X ++ [z8]) (P.getD j default).1 : Int) + 1 ≤ dp) ∧ ∀ k : Int, 0 ≤ k → (∀ j, j < m → (tellX (X ++ [z8]) (P.getD j default).1 : Int) + 1 ≤ k) → dp ≤ k
  no : f = false → ¬ (okShape 0 P = true ∧ FineP (X ++ [z8]) P)
theorem shape_parts {P : List Pt} (h : okShape 0 P = true) : 1 ≤ P.length ∧ P.length ≤ 8 ∧ ∀ i, i < P.length → okPart P i = true := by
  unfold okShape at h
  split at h
  · rw [decide_eq_true_eq] at h; omega
  · rw [Bool.and_eq_true, decide_eq_true_eq, decide_eq_true_eq] at h
    exact ⟨by omega, h.1.2, h.2⟩
theorem FD.start (X : List It) (P : List Pt) : FD X P 0 0 (decide (1 ≤ P.length) && decide (P.length ≤ 8)) := by
  refine ⟨Int.le_refl _, by omega, fun h => ?_, fun h hn => ?_⟩
  · rw [Bool.and_eq_true, decide_eq_true_eq, decide_eq_true_eq] at h
    exact ⟨h, fun j hj => absurd hj (Nat.not_lt_zero _), fun k hk _ => hk⟩
  · obtain ⟨h1, h2, -⟩ := shape_parts hn.1
    rw [decide_eq_true h1, decide_eq_true h2] at h
    cases h
theorem part_mem {P : List Pt} {m : Nat} (hm : m < P.length) : P.getD m default ∈ P := by
  rw [List.getD_eq_getElem?_getD, List.getElem?_eq_getElem hm]; exact List.getElem_mem _
theorem FD.step {X : List It} {P : List Pt} {m : Nat} {dp d : Int} {bb : Bool} (hQ : QF X) (h : FD X P m dp true) (hm : m < P.length) (hd : d = deepX (X ++ [z8]) (P.getD m default).1)
    (hb : bb = ((decide (0 < d) && (decide (1 ≤ (P.getD m default).2) && decide ((P.getD m default).2 ≤ 1073741824))) && decide (∀ j, j < m → (P.getD j default).1 ≠ (P.getD m default).1))) : FD X P (m + 1) (max dp (d + 1)) bb := by
  have hz := deep_z8 hQ.snd hQ.len hQ.beh (P.getD m default).1
  rw [← hd] at hz
  have hl := h.lo
  have hh := h.hi
  obtain ⟨h1, h2, h3⟩ := h.yes rfl
  refine ⟨by omega, by omega, fun hy => ?_, fun hn hall => ?_⟩
  · rw [hy] at hb
    have hb := hb.symm
    simp only [Bool.and_eq_true, decide_eq_true_eq] at hb
    obtain ⟨⟨b1, b2, b3⟩, b4⟩ := hb
    obtain ⟨z1, z2, z3, z4⟩ := hz.resolve_right (fun z => by omega)
    refine ⟨h1, fun j hj => ?_, fun k hk hall => ?_⟩
    · by_cases e : j = m
      · subst e
        refine ⟨?_, z1, by omega⟩
        unfold okPart
        rw [decide_eq_true (show 1 ≤ (P.getD j default).2 ∧ (P.getD j default).2 ≤ 1073741824 from ⟨b2, b3⟩), decide_eq_true b4]
        rfl
      · obtain ⟨g1, g2, g3⟩ := h2 j (by omega)
        exact ⟨g1, g2, by omega⟩
    · have g1 := h3 k hk fun j hj => hall j (by omega)
      have g2 := hall m (by omega)
      omega
  · obtain ⟨s1, s2, s3⟩ := shape_parts hall.1
    have s4 := s3 m hm
    unfold okPart at s4
    rw [Bool.and_eq_true, decide_eq_true_eq, decide_eq_true_eq] at s4
    obtain ⟨f1, -⟩ := hall.2 _ (part_mem hm)
    obtain ⟨z1, z2, z3, z4⟩ := hz.resolve_right (fun z => z.1 f1)
    rw [hn, decide_eq_true (show 0 < d by omega), decide_eq_true s4.1.1, decide_eq_true s4.1.2, decide_eq_true s4.2] at hb
    cases hb
theorem FD.done {X : List It} {P : List Pt} {m : Nat} {dp : Int} {f : Bool} (hQ : QF X) (h : FD X P m dp f) (hm : f = true → m = P.length) (ap : Option Addr) (cp : Nat) : chkE (X ++ [z8] ++ [z9 ap cp P]) = 0 ↔ f = true ∧ dp ≤ 8 := by
  rw [chk_z9 hQ.snd hQ.len hQ.beh]
  constructor
  · rintro ⟨h1, h2⟩
    cases f with
    | false => exact absurd ⟨h1, h2⟩ (h.no rfl)
    | true =>
      obtain rfl := hm rfl
      refine ⟨rfl, (h.yes rfl).2.2 8 (by omega) fun j hj => ?_⟩
      have := (h2 _ (part_mem hj)).2
      omega
  · rintro ⟨rfl, h8⟩
    obtain rfl := hm rfl
    obtain ⟨h1, h2, -⟩ := h.yes rfl
    refine ⟨?_, fun p hp => ?_⟩
    · rw [okShape_yes (by omega) fun i hi => (h2 i hi).1]
      exact decide_eq_true ⟨rfl, h1.2⟩
    · obtain ⟨j, hj, rfl⟩ := List.mem_iff_getElem.1 hp
      have := h2 j hj
      rw [List.getD_eq_getElem?_getD, List.getElem?_eq_getElem hj] at this
      simp only [Option.getD_some] at this
      exact ⟨this.2.1, by omega⟩
theorem ne_more {P : List Pt} {nm : List UInt8} {k : Nat} (h : (P.getD k default).1 ≠ nm) : decide (∀ j, j < k + 1 → (P.getD j default).1 ≠ nm) = decide (∀ j, j < k → (P.getD j default).1 ≠ nm) := by
  rw [decide_eq_decide]
  constructor
  · exact fun g j hj => g j (by omega)
  · intro g j hj
    by_cases e : j = k
    · rw [e]; exact h
    · exact g j (by omega)
theorem ne_stop {P : List Pt} {nm : List UInt8} {k : Nat} (h : (P.getD k default).1 = nm) : decide (∀ j, j < k + 1 → (P.getD j default).1 ≠ nm) = false := decide_eq_false fun g => g k (by omega) h

set_option maxHeartbeats 16000000 in
set_option maxRecDepth 1000000 in
theorem more_one (B base : Nat) (a : Option Addr) (n c : Nat) (X Y : List It) (ap : Option Addr) (cp : Nat) (P : List Pt) (a8 : Option Addr) (c8 : Nat) (f : Bool) (w W : World) (hr : RI B W a n c X) (hP : RP B W ap P.length cp P) (hB : B ≤ W.heap.size) (hbase : base ≤ W.heap.size) (hwb : w.heap.size ≤ base) (hbw : Below w.heap.size w W) (hQ : QF X) (hK : KM base W (.slice a8 (n + 1) c8) X Y [z8])
    (hBb : B ≤ base) (hf : f = (decide (1 ≤ P.length) && decide (P.length ≤ 8))) (hp100 : P.length ≤ 100) (sl2 sl3 sl4 sl8 sl9 sl10 sl11 sl12 sl13 sl14 sl15 sl16 sl17 sl18 sl19 sl20 sl21 sl22 sl23 sl24 sl25 sl26 sl27 sl28 sl29 sl30 sl31 sl32 sl33 sl34 sl35 sl36 sl37 sl38 sl39 sl40 sl41 sl42 sl43 sl44 sl45 sl46 sl47 sl48 sl49 sl50 sl51 sl52 sl53 sl54 sl55 sl56 sl57 sl58 sl59 sl60 sl61 sl62 sl63 sl64 sl65 sl66 sl67 sl68 sl69 sl70 sl71 sl72 sl73 sl74 sl75 sl76 sl77 sl78 sl79 sl80 sl81 sl82 sl83 sl84 sl85 sl86 sl87 sl88 sl89 sl90 sl91 sl92 sl93 sl94 sl95 sl96 sl97 sl98 sl99 sl100 sl101 sl102 sl103 sl104 sl105 sl106 sl107 sl108 sl109 sl110 sl111 sl112 sl113 sl114 sl115 sl116 sl117 sl118 sl119 sl120 sl121 sl122 sl123 sl124 sl125 sl126 sl127 sl128 sl129 sl130 sl131 sl132 sl133 sl134 sl135 sl136 sl137 sl138 sl139 sl140 sl141 sl142 sl143 sl144 sl145 sl146 sl147 sl148 sl149 sl150 sl151 sl152 sl153 sl154 sl155 sl156 sl157 sl158 sl159 sl160 sl161 sl162 sl163 sl164 sl165 sl166 : Value) :
    Code.wp Try.prog (dropC 7 (Try.f5.body.getD .skip)) (bodyPost Try.prog Try.f5 fun e w' => e = .returned (.bool true) ∧ Below w.heap.size w w') ⟨List.toArray (.slice a n c :: .slice ap P.length cp :: sl2 :: sl3 :: sl4 :: .slice a8 (n + 1) c8 :: .int .i64 0 :: .bool f :: sl8 :: sl9 :: sl10 :: sl11 :: sl12 :: sl13 :: sl14 :: sl15 :: sl16 :: sl17 :: sl18 :: sl19 :: sl20 :: sl21 :: sl22 :: sl23 :: sl24 :: sl25 :: sl26 :: sl27 :: sl28 :: sl29 :: sl30 :: sl31 :: sl32 :: sl33 :: sl34 :: sl35 :: sl36 :: sl37 :: sl38 :: sl39 :: sl40 :: sl41 :: sl42 :: sl43 :: sl44 :: sl45 :: sl46 :: sl47 :: sl48 :: sl49 :: sl50 :: sl51 :: sl52 :: sl53 :: sl54 :: sl55 :: sl56 :: sl57 :: sl58 :: sl59 :: sl60 :: sl61 :: sl62 :: sl63 :: sl64 :: sl65 :: sl66 :: sl67 :: sl68 :: sl69 :: sl70 :: sl71 :: sl72 :: sl73 :: sl74 :: sl75 :: sl76 :: sl77 :: sl78 :: sl79 :: sl80 :: sl81 :: sl82 :: sl83 :: sl84 :: sl85 :: sl86 :: sl87 :: sl88 :: sl89 :: sl90 :: sl91 :: sl92 :: sl93 :: sl94 :: sl95 :: sl96 :: sl97 :: sl98 :: sl99 :: sl100 :: sl101 :: sl102 :: sl103 :: sl104 :: sl105 :: sl106 :: sl107 :: sl108 :: sl109 :: sl110 :: sl111 :: sl112 :: sl113 :: sl114 :: sl115 :: sl116 :: sl117 :: sl118 :: sl119 :: sl120 :: sl121 :: sl122 :: sl123 :: sl124 :: sl125 :: sl126 :: sl127 :: sl128 :: sl129 :: sl130 :: sl131 :: sl132 :: sl133 :: sl134 :: sl135 :: sl136 :: sl137 :: sl138 :: sl139 :: sl140 :: sl141 :: sl142 :: sl143 :: sl144 :: sl145 :: sl146 :: sl147 :: sl148 :: sl149 :: sl150 :: sl151 :: sl152 :: sl153 :: sl154 :: sl155 :: sl156 :: sl157 :: sl158 :: sl159 :: sl160 :: sl161 :: sl162 :: sl163 :: sl164 :: sl165 :: sl166 :: []), []⟩ W := by
  have HR := Lib.hid hr
  have HP := Lib.hid hP
  have HBW := Lib.hid hbw
  have HQ := Lib.hid hQ
  have HK := Lib.hid hK
  have HF0 : Hid (FD X P 0 0 f) := Lib.hid (by rw [hf]; exact FD.start X P)
  have hmx := hP.mx
  have hle := hP.le
  obtain ⟨np, hnp⟩ : ∃ m, m = P.length := ⟨_, rfl⟩
  have HNP := Lib.hid hnp
  rw [← hnp] at hp100 hle ⊢
  have HDM := Lib.hid (fun (W' : World) (h : Below W.heap.size W W') (s : List UInt8) (hs : s.length ≤ 9223372036854775807) => Deep_any W'.heap.size a8 (n + 1) c8 (Y ++ [z8]) s W' ((hK.below h).ri (fun x hx => hr.ok x hx) (fun z hz => by
    rw [List.mem_singleton] at hz
    subst hz
    exact z8_ok _ _)) (Nat.le_refl _) hs)
  have HDE := Lib.hid (fun s => deepX_app (Z := [z8]) hK.len hK.like s)
  clear hr hP hbw hQ hK hf hnp
  conv => arg 2; whnf
  go_wp2_with (fail)
  go_loopw [6, 7, 8] (fun s6 s7 s8 wr => ∃ (m : Nat) (dp : Int) (f : Bool), m ≤ np ∧ s6 = .int .i64 dp ∧ s7 = .bool f ∧ s8 = .int .i64 m ∧ Hid (FD X P m dp f) ∧ Hid (Below W.heap.size W wr)) (fun _ _ s8 _ => np - (intOf s8).toNat)
  case atStart => exact ⟨0, 0, f, by omega, rfl, rfl, rfl, HF0, Lib.hid (Below.refl _ _)⟩
  case round =>
    obtain ⟨m, dp, f, hm, rfl, rfl, rfl, HF, HB⟩ := hrel
    cases f with
    | false =>
      have HD := Lib.hid (HF.out.done HQ.out (fun h => by cases h) ap cp)
      by_cases hlt : m < np
      · have t1 : decide ((m : Int) < (np : Int)) = true := by simp; omega
        go_upto_if 76 with (fail)
        iterate 6 go_step
        have hnp := HNP.out
        subst hnp
        exact more_mid B base a n c X Y ap cp P a8 c8 dp false w wr (HR.out.below (HB.out.mono hB)) (HP.out.below (HB.out.mono hB)) (Nat.le_trans hB HB.out.size) (Nat.le_trans hbase HB.out.size) hwb (HBW.out.trans (HB.out.mono HBW.out.size)) HQ.out (HK.out.below HB.out) hBb HD.out _ _ _ _ _ _ _ _ _ _ _ _ _ _ _ _ _ _ _ _ _ _ _ _ _ _ _ _ _ _ _ _ _ _ _ _ _ _ _ _ _ _ _ _ _ _ _ _ _ _ _ _ _ _ _ _ _ _ _ _ _ _ _ _ _ _ _ _ _ _ _ _ _ _ _ _ _ _ _ _ _ _ _ _ _ _ _ _ _ _ _ _ _ _ _ _ _ _ _ _ _ _ _ _ _ _ _ _ _ _ _ _ _ _ _ _ _ _ _ _ _ _ _ _ _ _ _ _ _ _ _ _ _ _ _ _ _ _ _ _ _ _ _ _ _ _ _ _ _ _ _ _ _ _ _ _ _ _ _ _ _ _
      · have t1 : decide ((m : Int) < (np : Int)) = false := by simp; omega
        go_upto_if 76 with (fail)
        iterate 6 go_step
        have hnp := HNP.out
        subst hnp
        exact more_mid B base a n c X Y ap cp P a8 c8 dp false w wr (HR.out.below (HB.out.mono hB)) (HP.out.below (HB.out.mono hB)) (Nat.le_trans hB HB.out.size) (Nat.le_trans hbase HB.out.size) hwb (HBW.out.trans (HB.out.mono HBW.out.size)) HQ.out (HK.out.below HB.out) hBb HD.out _ _ _ _ _ _ _ _ _ _ _ _ _ _ _ _ _ _ _ _ _ _ _ _ _ _ _ _ _ _ _ _ _ _ _ _ _ _ _ _ _ _ _ _ _ _ _ _ _ _ _ _ _ _ _ _ _ _ _ _ _ _ _ _ _ _ _ _ _ _ _ _ _ _ _ _ _ _ _ _ _ _ _ _ _ _ _ _ _ _ _ _ _ _ _ _ _ _ _ _ _ _ _ _ _ _ _ _ _ _ _ _ _ _ _ _ _ _ _ _ _ _ _ _ _ _ _ _ _ _ _ _ _ _ _ _ _ _ _ _ _ _ _ _ _ _ _ _ _ _ _ _ _ _ _ _ _ _ _ _ _ _
    | true =>
      by_cases hlt : m < np
      · have t1 : decide ((m : Int) < (np : Int)) = true := by simp; omega
        have m0 : (0 : Int) ≤ (m : Int) := by omega
        have m1 : (m : Int) < (np : Int) := by omega
        have f1 : IntKind.i64.wrap ((m : Int) + 1) = ((m + 1 : Nat) : Int) := by rw [wrap_in (by omega) (by omega)]; omega
        obtain ⟨b, o, ha, hbB, p0, p1⟩ := (HP.out.below (HB.out.mono hB)).part (i := m) (by rw [← HNP.out]; exact hlt)
        subst ha
        have hnl := (HP.out.fine.at_ (i := m) (by rw [← HNP.out]; exact hlt)).1
        obtain ⟨pj, hpj⟩ : ∃ p, p = P.getD m default := ⟨_, rfl⟩
        rw [← hpj] at p0 p1 hnl
        obtain ⟨nm, qt⟩ := pj
        simp only at p0 p1 hnl
        unfold encStr at p0
        obtain ⟨d, hd⟩ : ∃ d, d = deepX (X ++ [z8]) nm := ⟨_, rfl⟩
        have hdc := HDM.out wr HB.out nm hnl
        rw [HDE.out, ← hd] at hdc
        have hdz := deep_z8 HQ.out.snd HQ.out.len HQ.out.beh nm
        rw [← hd] at hdz
        have hdb : 0 ≤ d ∧ d ≤ 8 := by omega
        have HDC := Lib.hid hdc
        have HPJ := Lib.hid hpj
        have HDD := Lib.hid hd
        have HST := Lib.hid (fun bb (hb : bb = ((decide (0 < d) && (decide (1 ≤ qt) && decide (qt ≤ 1073741824))) && decide (∀ j, j < m → (P.getD j default).1 ≠ nm))) => HF.out.step (bb := bb) (d := d) HQ.out (by rw [← HNP.out]; exact hlt) (by rw [← hpj]; exact hd) (by rw [← hpj]; exact hb))
        have hBr := Nat.le_trans hB HB.out.size
        have dlo := HF.out.lo
        have dhi := HF.out.hi
        clear hpj hd hdc hdz hnl
        go_wp2_with (fail)
        go_at_call 18
        refine HDC.out.mono ?_
        rintro e w5 ⟨rfl, hb5⟩
        have HB5 := Lib.hid hb5
        have HBW5 := Lib.hid (HB.out.trans (hb5.mono HB.out.size))
        have q1 := (hb5.cell (p := ⟨b, o + m * 2 + 1, none⟩) (Nat.lt_of_lt_of_le hbB hBr)).trans p1
        have HBB := Lib.hid (Nat.lt_of_lt_of_le hbB hBr)
        clear p0 p1 hb5 hbB
        go_upto_region 14 with (fail)
        go_cut [7] (fun s7 wx => s7 = .bool (decide (0 < d) && (decide (1 ≤ qt) && decide (qt ≤ 1073741824))) ∧ w5 = wx)
        case first =>
          by_cases g1 : 0 < d
          · have g1' : decide (0 < d) = true := decide_eq_true g1
            by_cases g2 : 1 ≤ qt
            · have g2' : decide (1 ≤ qt) = true := decide_eq_true g2
              by_cases g3 : qt ≤ 1073741824
              · have g3' : decide (qt ≤ 1073741824) = true := decide_eq_true g3
                go_wp2_with (fail)
                go_meet
                case rel => exact ⟨by rw [g1', g2', g3']; rfl, rfl⟩
              · have g3' : decide (qt ≤ 1073741824) = false := decide_eq_false g3
                go_wp2_with (fail)
                go_meet
                case rel => exact ⟨by rw [g1', g2', g3']; rfl, rfl⟩
            · have g2' : decide (1 ≤ qt) = false := decide_eq_false g2
              go_wp2_with (fail)
              go_meet
              case rel => exact ⟨by rw [g1', g2']; rfl, rfl⟩
          · have g1' : decide (0 < d) = false := decide_eq_false g1
            go_wp2_with (fail)
            go_meet
            case rel => exact ⟨by rw [g1']; rfl, rfl⟩
        case rest =>
        obtain ⟨rfl, rfl⟩ := hcut
        obtain ⟨f0, hf0⟩ : ∃ f0, f0 = (decide (0 < d) && (decide (1 ≤ qt) && decide (qt ≤ 1073741824))) := ⟨_, rfl⟩
        rw [← hf0] at HST ⊢
        clear hf0 q1
        go_wp2_with (fail)
        go_loopw [7, 10] (fun s7 s10 wq => ∃ (k : Nat) (bb : Bool), k ≤ m ∧ s7 = .bool bb ∧ s10 = .int .i64 k ∧ Hid (bb = (f0 && decide (∀ j, j < k → (P.getD j default).1 ≠ nm))) ∧ Hid (Below w5.heap.size w5 wq)) (fun _ s10 _ => m - (intOf s10).toNat)
        case atStart => exact ⟨0, f0, by omega, rfl, rfl, Lib.hid (by rw [decide_eq_true (fun j hj => absurd hj (Nat.not_lt_zero _)), Bool.and_true]), Lib.hid (Below.refl _ _)⟩
        case round =>
          obtain ⟨k, bb, hk, rfl, rfl, HBB2, HBQ⟩ := hrel
          by_cases hkm : k < m
          · have t2 : decide ((k : Int) < (m : Int)) = true := by simp; omega
            have k0 : (0 : Int) ≤ (k : Int) := by omega
            have k1 : (k : Int) < (np : Int) := by omega
            have f2 : IntKind.i64.wrap ((k : Int) + 1) = ((k + 1 : Nat) : Int) := by rw [wrap_in (by omega) (by omega)]; omega
            cases bb with
            | false =>
              go_upto_region 18 with (fail)
              refine wp_region_below wr (by kernel_rfl) (by kernel_rfl) (Below.refl _ _) ?_
              repeat (go_big_quiet_step (fail))
              refine wpQuiet_nil ?_
              intro _ hw'
              obtain ⟨v, hw''⟩ := hw'
              subst hw''
              go_wp2_with (fail)
              go_roundw
              case rel =>
                refine ⟨k + 1, false, by omega, rfl, by go_num, Lib.hid ?_, Lib.hid (HBQ.out.trans (v.h.mono HBQ.out.size))⟩
                have h1 := HBB2.out
                cases f0 with
                | false => rfl
                | true =>
                  have h2 : decide (∀ j, j < k → (P.getD j default).1 ≠ nm) = false := by simpa using h1.symm
                  rw [Bool.true_and]
                  refine (decide_eq_false fun g => ?_).symm
                  exact of_decide_eq_false h2 fun j hj => g j (by omega)
              case measure => simp [intOf]; omega
            | true =>
              have hbq : Below W.heap.size W wr := HBW5.out.trans (HBQ.out.mono HBW5.out.size)
              obtain ⟨b', o', ha, hb', p0, -⟩ := (HP.out.below (hbq.mono hB)).part (i := k) (by rw [← HNP.out]; omega)
              injection ha with ha
              injection ha with e1 e2 e3
              subst e1
              subst e2
              obtain ⟨b', o', ha, -, p2, -⟩ := (HP.out.below (hbq.mono hB)).part (i := m) (by rw [← HNP.out]; exact hlt)
              injection ha with ha
              injection ha with e1 e2 e4
              subst e1
              subst e2
              rw [← HPJ.out] at p2
              simp only at p2
              obtain ⟨s, hs⟩ : ∃ s, s = (P.getD k default).1 := ⟨_, rfl⟩
              rw [← hs] at p0
              unfold encStr at p0 p2
              have hbl := Nat.lt_of_lt_of_le hb' (Nat.le_trans hB hbq.size)
              have g0 : ∀ y : BelowW wr, y.v.cell? ⟨b, o + k * 2, none⟩ = some (.string ⟨s.toArray⟩) := fun y => (y.h.cell (by show b < _; exact hbl)).trans p0
              have g1 : ∀ y : BelowW wr, y.v.cell? ⟨b, o + m * 2, none⟩ = some (.string ⟨nm.toArray⟩) := fun y => (y.h.cell (by show b < _; exact hbl)).trans p2
              have HS := Lib.hid hs
              clear p0 p2 e3 e4 hbl hb' hbq hs
              by_cases hsn : s = nm
              · have e1 : (s == nm) = true := by simpa using hsn
                have e2 : (s != nm) = false := by simpa using hsn
                have HSN := Lib.hid hsn
                clear hsn
                go_upto_region 18 with (fail)
                refine wp_region_below wr (by kernel_rfl) (by kernel_rfl) (Below.refl _ _) ?_
                repeat (go_big_quiet_step (fail))
                refine wpQuiet_nil ?_
                intro _ hw'
                obtain ⟨v, hw''⟩ := hw'
                subst hw''
                clear g0 g1
                go_wp2_with (fail)
                go_roundw
                case rel => exact ⟨k + 1, false, by omega, rfl, by go_num, Lib.hid (by rw [ne_stop (by rw [← HS.out]; exact HSN.out), Bool.and_false]), Lib.hid (HBQ.out.trans (v.h.mono HBQ.out.size))⟩
                case measure => simp [intOf]; omega
              · have e1 : (s == nm) = false := by simpa using hsn
                have e2 : (s != nm) = true := by simpa using hsn
                have HSN := Lib.hid hsn
                clear hsn
                go_upto_region 18 with (fail)
                refine wp_region_below wr (by kernel_rfl) (by kernel_rfl) (Below.refl _ _) ?_
                repeat (go_big_quiet_step (fail))
                refine wpQuiet_nil ?_
                intro _ hw'
                obtain ⟨v, hw''⟩ := hw'
                subst hw''
                clear g0 g1
                go_wp2_with (fail)
                go_roundw
                case rel => exact ⟨k + 1, true, by omega, rfl, by go_num, Lib.hid (by rw [ne_more (by rw [← HS.out]; exact HSN.out)]; exact HBB2.out), Lib.hid (HBQ.out.trans (v.h.mono HBQ.out.size))⟩
                case measure => simp [intOf]; omega
          · have t2 : decide ((k : Int) < (m : Int)) = false := by simp; omega
            have hkm2 : k = m := by omega
            have HFN := Lib.hid (HST.out bb (by rw [← hkm2]; exact HBB2.out))
            have f3 : IntKind.i64.wrap (d + 1) = d + 1 := wrap_in (by omega) (by omega)
            clear hkm2
            go_wp2_with (fail)
            go_roundw
            case rel =>
              refine ⟨m + 1, max dp (d + 1), bb, by omega, ?_, rfl, by go_num, HFN, Lib.hid (HBW5.out.trans (HBQ.out.mono HBW5.out.size))⟩
              first | rfl | (congr 1; done) | (congr 1; split <;> omega)
            case measure => simp [intOf]; omega
      · have t1 : decide ((m : Int) < (np : Int)) = false := by simp; omega
        have HD := Lib.hid (HF.out.done HQ.out (fun _ => by rw [← HNP.out]; omega) ap cp)
        go_upto_if 76 with (fail)
        iterate 6 go_step
        have hnp := HNP.out
        subst hnp
        exact more_mid B base a n c X Y ap cp P a8 c8 dp true w wr (HR.out.below (HB.out.mono hB)) (HP.out.below (HB.out.mono hB)) (Nat.le_trans hB HB.out.size) (Nat.le_trans hbase HB.out.size) hwb (HBW.out.trans (HB.out.mono HBW.out.size)) HQ.out (HK.out.below HB.out) hBb HD.out _ _ _ _ _ _ _ _ _ _ _ _ _ _ _ _ _ _ _ _ _ _ _ _ _ _ _ _ _ _ _ _ _ _ _ _ _ _ _ _ _ _ _ _ _ _ _ _ _ _ _ _ _ _ _ _ _ _ _ _ _ _ _ _ _ _ _ _ _ _ _ _ _ _ _ _ _ _ _ _ _ _ _ _ _ _ _ _ _ _ _ _ _ _ _ _ _ _ _ _ _ _ _ _ _ _ _ _ _ _ _ _ _ _ _ _ _ _ _ _ _ _ _ _ _ _ _ _ _ _ _ _ _ _ _ _ _ _ _ _ _ _ _ _ _ _ _ _ _ _ _ _ _ _ _ _ _ _ _ _ _ _
end Go.Proofs.Ythlmnoggeggpkaa
