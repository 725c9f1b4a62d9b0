/- KitMore's walk: its last loop. KitMore's walk: the kit that is put. -/
import Derived.Test.YthlmnoggeggpkaaKMoreA
import Derived.Test.YthlmnoggeggpkaaBelowQ
namespace Go.Proofs.Ythlmnoggeggpkaa
open Go.RowKit

/-- What the law holds of its items. -/
structure QF (X : List It) : Prop where
  ok : chkE X = 0
  len : X.length ≤ 58
  beh : Behind X [90, 56]
theorem QF.snd {X : List It} (h : QF X) : Sound X := sound_of h.ok
set_option maxHeartbeats 16000000 in
set_option maxRecDepth 1000000 in
theorem more_two (B base : Nat) (a : Option Addr) (n c : Nat) (X Y : List It) (ap : Option Addr) (cp : Nat) (P : List Pt) (a9 : Option Addr) (c9 : Nat) (w W : World) (hr : RI B W a n c X) (hP : RP B W ap P.length cp P) (hB : B ≤ W.heap.size) (hbw : Below w.heap.size w W) (hQ : QF X) (hK : KM base W (.slice a9 (n + 2) c9) X Y [z8, z9 ap cp P]) (sl1 sl2 sl3 sl4 sl6 sl7 sl8 sl9 sl10 sl11 sl12 sl13 sl14 sl15 sl16 sl17 sl18 sl19 sl20 sl21 sl22 sl23 sl24 sl25 sl26 sl27 sl28 sl29 sl30 sl31 sl32 sl33 sl34 sl35 sl36 sl37 sl38 sl39 sl40 sl41 sl42 sl43 sl44 sl45 sl46 sl47 sl48 sl49 sl50 sl51 sl52 sl53 sl54 sl55 sl56 sl57 sl58 sl59 sl60 sl61 sl62 sl63 sl64 sl65 sl66 sl67 sl68 sl69 sl70 sl71 sl72 sl73 sl74 sl75 sl76 sl77 sl78 sl79 sl80 sl81 sl82 sl83 sl84 sl85 sl86 sl87 sl88 sl89 sl90 sl91 sl92 sl93 sl94 sl95 sl96 sl97 sl98 sl99 sl100 sl101 sl102 sl103 sl104 sl105 sl106 sl107 sl108 sl109 sl110 sl111 sl112 sl113 sl114 sl115 sl116 sl117 sl118 sl119 sl120 sl121 sl122 sl123 sl124 sl125 sl126 sl127 sl128 sl129 sl130 sl131 sl132 sl133 sl134 sl135 sl136 sl137 sl138 sl139 sl140 sl141 sl142 sl143 sl144 sl145 sl146 sl147 sl148 sl149 sl150 sl151 sl152 sl153 sl154 sl155 sl156 sl157 sl158 sl159 sl160 sl161 sl162 sl163 sl164 sl165 sl166 : Value) :
    Code.wp Try.prog (dropC 10 (Try.f5.body.getD .skip)) (bodyPost Try.prog Try.f5 fun e w' => e = .returned (.bool true) ∧ Below w.heap.size w w') ⟨List.toArray (.slice a n c :: sl1 :: sl2 :: sl3 :: sl4 :: .slice a9 (n + 2) c9 :: sl6 :: sl7 :: sl8 :: sl9 :: sl10 :: sl11 :: sl12 :: sl13 :: sl14 :: sl15 :: sl16 :: sl17 :: sl18 :: sl19 :: sl20 :: sl21 :: sl22 :: sl23 :: sl24 :: sl25 :: sl26 :: sl27 :: sl28 :: sl29 :: sl30 :: sl31 :: sl32 :: sl33 :: sl34 :: sl35 :: sl36 :: sl37 :: sl38 :: sl39 :: sl40 :: sl41 :: sl42 :: sl43 :: sl44 :: sl45 :: sl46 :: sl47 :: sl48 :: sl49 :: sl50 :: sl51 :: sl52 :: sl53 :: sl54 :: sl55 :: sl56 :: sl57 :: sl58 :: sl59 :: sl60 :: sl61 :: sl62 :: sl63 :: sl64 :: sl65 :: sl66 :: sl67 :: sl68 :: sl69 :: sl70 :: sl71 :: sl72 :: sl73 :: sl74 :: sl75 :: sl76 :: sl77 :: sl78 :: sl79 :: sl80 :: sl81 :: sl82 :: sl83 :: sl84 :: sl85 :: sl86 :: sl87 :: sl88 :: sl89 :: sl90 :: sl91 :: sl92 :: sl93 :: sl94 :: sl95 :: sl96 :: sl97 :: sl98 :: sl99 :: sl100 :: sl101 :: sl102 :: sl103 :: sl104 :: sl105 :: sl106 :: sl107 :: sl108 :: sl109 :: sl110 :: sl111 :: sl112 :: sl113 :: sl114 :: sl115 :: sl116 :: sl117 :: sl118 :: sl119 :: sl120 :: sl121 :: sl122 :: sl123 :: sl124 :: sl125 :: sl126 :: sl127 :: sl128 :: sl129 :: sl130 :: sl131 :: sl132 :: sl133 :: sl134 :: sl135 :: sl136 :: sl137 :: sl138 :: sl139 :: sl140 :: sl141 :: sl142 :: sl143 :: sl144 :: sl145 :: sl146 :: sl147 :: sl148 :: sl149 :: sl150 :: sl151 :: sl152 :: sl153 :: sl154 :: sl155 :: sl156 :: sl157 :: sl158 :: sl159 :: sl160 :: sl161 :: sl162 :: sl163 :: sl164 :: sl165 :: sl166 :: []), []⟩ W := by
  have HR := Lib.hid hr
  have HP := Lib.hid hP
  have HBW := Lib.hid hbw
  have HQ := Lib.hid hQ
  have HK := Lib.hid hK
  have hle := hr.le
  have hmx := hr.mx
  have HCK := Lib.hid (fun (W' : World) (h : Below W.heap.size W W') => Check_any W'.heap.size a9 (n + 2) c9 (Y ++ [z8, z9 ap cp P]) W' ((hK.below h).ri (fun x hx => hr.ok x hx) (fun z hz => by
    rcases List.mem_cons.1 hz with rfl | hz
    · exact z8_ok _ _
    · rw [List.mem_singleton] at hz
      subst hz
      exact (z9_ok (hP.below (h.mono hB))).mono (Nat.le_trans hB h.size))) (Nat.le_refl _))
  have HDM := Lib.hid (fun (W' : World) (h : Below W.heap.size W W') (s : List UInt8) (hs : s.length ≤ 9223372036854775807) => Deep_any W'.heap.size a9 (n + 2) c9 (Y ++ [z8, z9 ap cp P]) s W' ((hK.below h).ri (fun x hx => hr.ok x hx) (fun z hz => by
    rcases List.mem_cons.1 hz with rfl | hz
    · exact z8_ok _ _
    · rw [List.mem_singleton] at hz
      subst hz
      exact (z9_ok (hP.below (h.mono hB))).mono (Nat.le_trans hB h.size))) (Nat.le_refl _) hs)
  have HDX := Lib.hid (fun (W' : World) (h : Below W.heap.size W W') (s : List UInt8) (hs : s.length ≤ 9223372036854775807) => Deep_any B a n c X s W' (hr.below (h.mono hB)) (Nat.le_trans hB h.size) hs)
  have hce : chkE (Y ++ [z8, z9 ap cp P]) = chkE (X ++ [z8] ++ [z9 ap cp P]) := by rw [chkE_app hK.len hK.like, List.append_assoc]; rfl
  have hde : ∀ s, deepX (Y ++ [z8, z9 ap cp P]) s = deepX (X ++ [z8] ++ [z9 ap cp P]) s := fun s => by rw [deepX_app hK.len hK.like, List.append_assoc]; rfl
  rw [hce] at HCK
  have HDE := Lib.hid hde
  obtain ⟨r, hrr⟩ : ∃ r, r = chkE (X ++ [z8] ++ [z9 ap cp P]) := ⟨_, rfl⟩
  rw [← hrr] at HCK
  have HRR := Lib.hid hrr
  clear hr hP hbw hQ hK hce hde hrr
  conv => arg 2; whnf
  go_wp2_with (fail)
  go_loopw [11] (fun i wr => ∃ m : Nat, m ≤ n ∧ i = .int .i64 m ∧ Hid (Below W.heap.size W wr)) (fun i _ => n - (intOf i).toNat)
  case atStart => exact ⟨0, by omega, rfl, Lib.hid (Below.refl _ _)⟩
  case round =>
    obtain ⟨m, hm, rfl, HB⟩ := hrel
    by_cases hlt : m < n
    · have t1 : decide ((m : Int) < (n : Int)) = true := by simp; omega
      have m0 : (0 : Int) ≤ (m : Int) := by omega
      have m1 : (m : Int) < (n : Int) := by omega
      have f1 : IntKind.i64.wrap ((m : Int) + 1) = ((m + 1 : Nat) : Int) := by rw [wrap_in (by omega) (by omega)]; omega
      have hck := fun (y : BelowW wr) => HCK.out y.v (HB.out.trans (y.h.mono HB.out.size))
      by_cases h0 : r = 0
      · obtain ⟨b, o, ha, hbB, hok, c0, -, -, -⟩ := (HR.out.below (HB.out.mono hB)).item (i := m) hlt
        subst ha
        have hcm : (X.getD m default).code ∈ codes X := List.mem_map.2 ⟨_, getD_mem (by rw [← HR.out.len]; exact hlt), rfl⟩
        have hcl := hok.code
        obtain ⟨s, hs⟩ : ∃ s, s = (X.getD m default).code := ⟨_, rfl⟩
        rw [← hs] at c0 hcm hcl
        unfold encStr at c0
        have hd1 := fun (y : BelowW wr) => HDM.out y.v (HB.out.trans (y.h.mono HB.out.size)) s hcl
        have hd2 := fun (y : BelowW wr) => HDX.out y.v (HB.out.trans (y.h.mono HB.out.size)) s hcl
        have hdd : deepX (Y ++ [z8, z9 ap cp P]) s = deepX X s := by rw [HDE.out]; exact deep_z9 HQ.out.snd HQ.out.ok HQ.out.len HQ.out.beh (by rw [← HRR.out]; exact h0) hcm
        rw [hdd] at hd1
        generalize deepX X s = d at hd1 hd2
        have HC := Lib.hid hck
        have HD1 := Lib.hid hd1
        have HD2 := Lib.hid hd2
        have hdn : (d != d) = false := by simp
        have e0 : (r == 0) = true := by simpa using h0
        have g0 : ∀ y : BelowW wr, y.v.cell? ⟨b, o + m * 4, none⟩ = some (.string ⟨s.toArray⟩) := fun y => (y.h.cell (by show b < _; exact Nat.lt_of_lt_of_le hbB (Nat.le_trans hB HB.out.size))).trans c0
        clear c0 hok hck hd1 hd2 hcl hcm hs hdd h0
        go_upto_region 26 with (fail)
        refine wp_region_below wr (by kernel_rfl) (by kernel_rfl) (Below.refl _ _) ?_
        repeat (go_big_quiet_step (first | (go_at_call 9; with_reducible exact below_call (HC.out _)) | (go_at_call 18; with_reducible exact below_call (HD1.out _)) | (go_at_call 18; with_reducible exact below_call (HD2.out _))))
        refine wpQuiet_nil ?_
        intro _ hw'
        obtain ⟨v, hw''⟩ := hw'
        subst hw''
        clear g0
        go_wp2_with (fail)
        go_roundw
        case rel => exact ⟨m + 1, by omega, by go_num, Lib.hid (HB.out.trans (v.h.mono HB.out.size))⟩
        case measure => simp [intOf]; omega
      · have e0 : (r == 0) = false := by simpa using h0
        have HC := Lib.hid hck
        clear hck h0
        go_upto_region 26 with (fail)
        refine wp_region_below wr (by kernel_rfl) (by kernel_rfl) (Below.refl _ _) ?_
        repeat (go_big_quiet_step (first | (go_at_call 9; with_reducible exact below_call (HC.out _))))
        refine wpQuiet_nil ?_
        intro _ hw'
        obtain ⟨v, hw''⟩ := hw'
        subst hw''
        go_wp2_with (fail)
        go_roundw
        case rel => exact ⟨m + 1, by omega, by go_num, Lib.hid (HB.out.trans (v.h.mono HB.out.size))⟩
        case measure => simp [intOf]; omega
    · have t1 : decide ((m : Int) < (n : Int)) = false := by simp; omega
      go_wp2_with (fail)
      go_ret
      exact ⟨rfl, HBW.out.trans (HB.out.mono HBW.out.size)⟩
end Go.Proofs.Ythlmnoggeggpkaa
namespace Go.Proofs.Ythlmnoggeggpkaa
open Go.RowKit

theorem km_more {base : Nat} {W W' : World} {a8 a9 : Option Addr} {n c8 c9 : Nat} {X Y : List It} {z : It} (h : KM base W (.slice a8 (n + 1) c8) X Y [z8]) {o : Array Value} {t : TypeId} (ho : OIt base W' (.slice a9 (n + 2) c9) ((Y ++ [z8]) ++ [z])) (hg : (W.alloc (.cells o t)).grownBy W' (Value.slice a8 (n + 1) c8).ownBlock) : KM base W' (.slice a9 (n + 2) c9) X Y [z8, z] := by
  have hb : Below W.heap.size W (W.alloc (.cells o t)) := (Below.refl _ W).alloc (Nat.le_refl _) _
  rw [List.append_assoc] at ho
  exact (h.below hb).grown ho hg
set_option maxHeartbeats 16000000 in
set_option maxRecDepth 1000000 in
theorem more_mid (B base : Nat) (a : Option Addr) (n c : Nat) (X Y : List It) (ap : Option Addr) (cp : Nat) (P : List Pt) (a8 : Option Addr) (c8 : Nat) (dp : Int) (f : Bool) (w W : World) (hr : RI B W a n c X) (hP : RP B W ap P.length cp P) (hB : B ≤ W.heap.size) (hbase : base ≤ W.heap.size) (hwb : w.heap.size ≤ base) (hbw : Below w.heap.size w W) (hQ : QF X) (hK : KM base W (.slice a8 (n + 1) c8) X Y [z8])
    (hBb : B ≤ base) (hf : chkE (X ++ [z8] ++ [z9 ap cp P]) = 0 ↔ f = true ∧ dp ≤ 8) (sl2 sl3 sl4 sl8 sl9 sl10 sl11 sl12 sl13 sl14 sl15 sl16 sl17 sl18 sl19 sl20 sl21 sl22 sl23 sl24 sl25 sl26 sl27 sl28 sl29 sl30 sl31 sl32 sl33 sl34 sl35 sl36 sl37 sl38 sl39 sl40 sl41 sl42 sl43 sl44 sl45 sl46 sl47 sl48 sl49 sl50 sl51 sl52 sl53 sl54 sl55 sl56 sl57 sl58 sl59 sl60 sl61 sl62 sl63 sl64 sl65 sl66 sl67 sl68 sl69 sl70 sl71 sl72 sl73 sl74 sl75 sl76 sl77 sl78 sl79 sl80 sl81 sl82 sl83 sl84 sl85 sl86 sl87 sl88 sl89 sl90 sl91 sl92 sl93 sl94 sl95 sl96 sl97 sl98 sl99 sl100 sl101 sl102 sl103 sl104 sl105 sl106 sl107 sl108 sl109 sl110 sl111 sl112 sl113 sl114 sl115 sl116 sl117 sl118 sl119 sl120 sl121 sl122 sl123 sl124 sl125 sl126 sl127 sl128 sl129 sl130 sl131 sl132 sl133 sl134 sl135 sl136 sl137 sl138 sl139 sl140 sl141 sl142 sl143 sl144 sl145 sl146 sl147 sl148 sl149 sl150 sl151 sl152 sl153 sl154 sl155 sl156 sl157 sl158 sl159 sl160 sl161 sl162 sl163 sl164 sl165 sl166 : Value) :
    Code.wp Try.prog (dropC 8 (Try.f5.body.getD .skip)) (bodyPost Try.prog Try.f5 fun e w' => e = .returned (.bool true) ∧ Below w.heap.size w w') ⟨List.toArray (.slice a n c :: .slice ap P.length cp :: sl2 :: sl3 :: sl4 :: .slice a8 (n + 1) c8 :: .int .i64 dp :: .bool f :: sl8 :: sl9 :: sl10 :: sl11 :: sl12 :: sl13 :: sl14 :: sl15 :: sl16 :: sl17 :: sl18 :: sl19 :: sl20 :: sl21 :: sl22 :: sl23 :: sl24 :: sl25 :: sl26 :: sl27 :: sl28 :: sl29 :: sl30 :: sl31 :: sl32 :: sl33 :: sl34 :: sl35 :: sl36 :: sl37 :: sl38 :: sl39 :: sl40 :: sl41 :: sl42 :: sl43 :: sl44 :: sl45 :: sl46 :: sl47 :: sl48 :: sl49 :: sl50 :: sl51 :: sl52 :: sl53 :: sl54 :: sl55 :: sl56 :: sl57 :: sl58 :: sl59 :: sl60 :: sl61 :: sl62 :: sl63 :: sl64 :: sl65 :: sl66 :: sl67 :: sl68 :: sl69 :: sl70 :: sl71 :: sl72 :: sl73 :: sl74 :: sl75 :: sl76 :: sl77 :: sl78 :: sl79 :: sl80 :: sl81 :: sl82 :: sl83 :: sl84 :: sl85 :: sl86 :: sl87 :: sl88 :: sl89 :: sl90 :: sl91 :: sl92 :: sl93 :: sl94 :: sl95 :: sl96 :: sl97 :: sl98 :: sl99 :: sl100 :: sl101 :: sl102 :: sl103 :: sl104 :: sl105 :: sl106 :: sl107 :: sl108 :: sl109 :: sl110 :: sl111 :: sl112 :: sl113 :: sl114 :: sl115 :: sl116 :: sl117 :: sl118 :: sl119 :: sl120 :: sl121 :: sl122 :: sl123 :: sl124 :: sl125 :: sl126 :: sl127 :: sl128 :: sl129 :: sl130 :: sl131 :: sl132 :: sl133 :: sl134 :: sl135 :: sl136 :: sl137 :: sl138 :: sl139 :: sl140 :: sl141 :: sl142 :: sl143 :: sl144 :: sl145 :: sl146 :: sl147 :: sl148 :: sl149 :: sl150 :: sl151 :: sl152 :: sl153 :: sl154 :: sl155 :: sl156 :: sl157 :: sl158 :: sl159 :: sl160 :: sl161 :: sl162 :: sl163 :: sl164 :: sl165 :: sl166 :: []), []⟩ W := by
  have HR := Lib.hid hr
  have HP := Lib.hid hP
  have HBW := Lib.hid hbw
  have HQ := Lib.hid hQ
  have HK := Lib.hid hK
  have HF := Lib.hid hf
  have hyl : (Y ++ [z8]).length = n + 1 := by
    have h1 := hr.len
    have h2 := hK.len
    rw [List.length_append]
    show Y.length + 1 = n + 1
    omega
  have HYL := Lib.hid hyl
  have HN : Hid (n ≤ 58) := Lib.hid (by have := hr.len; have := hQ.len; omega)
  obtain ⟨np, hnp⟩ : ∃ m, m = P.length := ⟨_, rfl⟩
  have HNP := Lib.hid hnp
  rw [← hnp]
  have O3 := Lib.hid (hK.own.below ((Below.refl _ W).alloc (Nat.le_refl _) (.cells #[.string ⟨#[90, 57]⟩, .int .i64 0, .slice ap np cp, .slice none 0 0] 32)))
  have HSRC : Hid (∀ j u, (cellsI [z9 ap cp P])[j]? = some u → (W.alloc (.cells #[.string ⟨#[90, 57]⟩, .int .i64 0, .slice ap np cp, .slice none 0 0] 32)).cell? ((⟨W.heap.size, 0, none⟩ : Addr).add j) = some u) := Lib.hid (by rw [hnp]; exact one_item W (z9 ap cp P) 32)
  clear hr hP hbw hQ hK hf hyl hnp
  conv => arg 2; whnf
  go_wp2_with (first | (at_builtin; refine wpList_append_item2 rfl _ _ rfl base (.slice a8 (n + 1) c8) (Y ++ [z8]) (z9 ap cp P) rfl O3.out _ 1 rfl HSRC.out (by rw [World.size_alloc]; omega) (by rw [HYL.out]; have := HN.out; omega) ?_; intro g9 c9 w1 hown _ hg _; have HB1 : Hid (Below w.heap.size w w1) := Lib.hid ((HBW.out.alloc HBW.out.size _).grown hg (HBW.out.alloc HBW.out.size _).size (fun k e => Nat.le_trans hwb (O3.out.ge k e).1)); have hbB : Below B W w1 := ((Below.refl B W).alloc hB _).grown hg (Nat.le_trans hB (by rw [World.size_alloc]; omega)) (fun k e => Nat.le_trans hBb (O3.out.ge k e).1); have HR1 := Lib.hid (HR.out.below hbB); have HP1 := Lib.hid (HP.out.below hbB); rw [HYL.out] at hown; have HK1 := Lib.hid (km_more HK.out hown hg); have HS1 : Hid (B ≤ w1.heap.size) := Lib.hid (Nat.le_trans hB (Nat.le_trans (by rw [World.size_alloc]; omega) hg.size)); clear hown hg hbB))
  have hYn : Y.length = n := by
    have h1 := HR.out.len
    have h2 := HK.out.len
    omega
  rw [hYn, show n + 1 + 1 = n + 2 from rfl]
  have hce : chkE (Y ++ [z8, z9 ap cp P]) = chkE (X ++ [z8] ++ [z9 ap cp P]) := by rw [chkE_app HK.out.len HK.out.like, List.append_assoc]; rfl
  have hck := Check_any w1.heap.size (some ⟨g9, 0, none⟩) (n + 2) c9 (Y ++ [z8, z9 ap cp P]) w1 (HK1.out.ri (fun x hx => HR.out.ok x hx) (fun z hz => by
    rcases List.mem_cons.1 hz with rfl | hz
    · exact z8_ok _ _
    · rw [List.mem_singleton] at hz
      subst hz
      exact (z9_ok HP1.out).mono HS1.out)) (Nat.le_refl _)
  rw [hce] at hck
  have HF2 := HF.out
  obtain ⟨r, hrr⟩ : ∃ r, r = chkE (X ++ [z8] ++ [z9 ap cp P]) := ⟨_, rfl⟩
  rw [← hrr] at hck HF2
  clear hYn hce hrr
  go_at_call 9
  refine hck.mono ?_
  rintro e w2 ⟨rfl, hb2⟩
  have HB2 := Lib.hid (HB1.out.trans (hb2.mono HB1.out.size))
  have HR2 := Lib.hid (HR1.out.below (hb2.mono HS1.out))
  have HP2 := Lib.hid (HP1.out.below (hb2.mono HS1.out))
  have HK2 := Lib.hid (HK1.out.below hb2)
  have HS2 : Hid (B ≤ w2.heap.size) := Lib.hid (Nat.le_trans HS1.out hb2.size)
  clear hck hb2
  cases f with
  | false =>
    have e0 : (r == 0) = false := by
      have : r ≠ 0 := fun e => by have := (HF2.1 e).1; cases this
      simpa using this
    clear HF2
    go_upto_if 140 with (fail)
    iterate 4 go_step
    exact more_two B base a n c X Y ap cp P (some ⟨g9, 0, none⟩) c9 w w2 HR2.out HP2.out HS2.out HB2.out HQ.out HK2.out _ _ _ _ _ _ _ _ _ _ _ _ _ _ _ _ _ _ _ _ _ _ _ _ _ _ _ _ _ _ _ _ _ _ _ _ _ _ _ _ _ _ _ _ _ _ _ _ _ _ _ _ _ _ _ _ _ _ _ _ _ _ _ _ _ _ _ _ _ _ _ _ _ _ _ _ _ _ _ _ _ _ _ _ _ _ _ _ _ _ _ _ _ _ _ _ _ _ _ _ _ _ _ _ _ _ _ _ _ _ _ _ _ _ _ _ _ _ _ _ _ _ _ _ _ _ _ _ _ _ _ _ _ _ _ _ _ _ _ _ _ _ _ _ _ _ _ _ _ _ _ _ _ _ _ _ _ _ _ _ _ _ _ _ _
  | true =>
    by_cases d8 : dp ≤ 8
    · have e0 : (r == 0) = true := by
        have := HF2.2 ⟨rfl, d8⟩
        simpa using this
      have e1 : decide (dp ≤ 8) = true := decide_eq_true d8
      clear HF2
      go_upto_if 140 with (fail)
      iterate 4 go_step
      exact more_two B base a n c X Y ap cp P (some ⟨g9, 0, none⟩) c9 w w2 HR2.out HP2.out HS2.out HB2.out HQ.out HK2.out _ _ _ _ _ _ _ _ _ _ _ _ _ _ _ _ _ _ _ _ _ _ _ _ _ _ _ _ _ _ _ _ _ _ _ _ _ _ _ _ _ _ _ _ _ _ _ _ _ _ _ _ _ _ _ _ _ _ _ _ _ _ _ _ _ _ _ _ _ _ _ _ _ _ _ _ _ _ _ _ _ _ _ _ _ _ _ _ _ _ _ _ _ _ _ _ _ _ _ _ _ _ _ _ _ _ _ _ _ _ _ _ _ _ _ _ _ _ _ _ _ _ _ _ _ _ _ _ _ _ _ _ _ _ _ _ _ _ _ _ _ _ _ _ _ _ _ _ _ _ _ _ _ _ _ _ _ _ _ _ _ _ _ _ _
    · have e0 : (r == 0) = false := by
        have : r ≠ 0 := fun e => d8 (HF2.1 e).2
        simpa using this
      have e1 : decide (dp ≤ 8) = false := decide_eq_false d8
      clear HF2
      go_upto_if 140 with (fail)
      iterate 4 go_step
      exact more_two B base a n c X Y ap cp P (some ⟨g9, 0, none⟩) c9 w w2 HR2.out HP2.out HS2.out HB2.out HQ.out HK2.out _ _ _ _ _ _ _ _ _ _ _ _ _ _ _ _ _ _ _ _ _ _ _ _ _ _ _ _ _ _ _ _ _ _ _ _ _ _ _ _ _ _ _ _ _ _ _ _ _ _ _ _ _ _ _ _ _ _ _ _ _ _ _ _ _ _ _ _ _ _ _ _ _ _ _ _ _ _ _ _ _ _ _ _ _ _ _ _ _ _ _ _ _ _ _ _ _ _ _ _ _ _ _ _ _ _ _ _ _ _ _ _ _ _ _ _ _ _ _ _ _ _ _ _ _ _ _ _ _ _ _ _ _ _ _ _ _ _ _ _ _ _ _ _ _ _ _ _ _ _ _ _ _ _ _ _ _ _ _ _ _ _ _ _ _
end Go.Proofs.Ythlmnoggeggpkaa
