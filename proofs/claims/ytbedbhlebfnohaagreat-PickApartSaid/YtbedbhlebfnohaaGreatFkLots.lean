/- The walk of storemankit.flatLots. (Printed by gen/flatk.py.) -/
import Derived.Test.YtbedbhlebfnohaaGreatFkBase
import Derived.Test.YtbedbhlebfnohaaGreatQStK
namespace Go.Proofs.YtbedbhlebfnohaaGreat.Tx
open Go.RowKit

def TLots (_w : World) (X : List Value) (k i : Nat) : Prop := ∀ t, t < i → X[t * 6]? = some (.int .i64 ((markN k t : Nat) : Int)) ∧ X[t * 6 + 1]? = some (.string ⟨#[]⟩) ∧ X[t * 6 + 2]? = some (.int .i64 0) ∧ X[t * 6 + 3]? = some (.int .i64 0) ∧ X[t * 6 + 4]? = some (.int .i64 0) ∧ X[t * 6 + 5]? = some (.bool false)
theorem TLots_stab {e le : TypeId} : Stab e le TLots :=
  ⟨fun _ h => h, fun h t ht => by
    obtain ⟨h0, h1, h2, h3, h4, h5⟩ := h t ht
    refine ⟨?_, ?_, ?_, ?_, ?_, ?_⟩ <;> (rw [List.getElem?_append_left (List.getElem?_eq_some_iff.1 (by assumption)).1]; assumption), fun _ _ _ t ht => absurd ht (Nat.not_lt_zero _), fun h hi t ht => h t (Nat.lt_of_lt_of_le ht hi)⟩
theorem TLots_set {w w' : World} {X : List Value} {k i : Nat} (h : TLots w X k i) (hi : i * 6 + 5 < X.length) : TLots w' ((((((X.set (i * 6) (.int .i64 ((markN k i : Nat) : Int))).set (i * 6 + 1) (.string ⟨#[]⟩)).set (i * 6 + 2) (.int .i64 0)).set (i * 6 + 3) (.int .i64 0)).set (i * 6 + 4) (.int .i64 0)).set (i * 6 + 5) (.bool false)) k (i + 1) := fun t ht => by
  by_cases e : t = i
  · subst e
    refine ⟨?_, ?_, ?_, ?_, ?_, ?_⟩ <;> simp only [List.getElem?_set, List.length_set] <;> (repeat (first | rw [if_pos True.intro] | rw [if_pos (by omega)] | rw [if_neg (by omega)]))
  · obtain ⟨h0, h1, h2, h3, h4, h5⟩ := h t (by omega)
    refine ⟨?_, ?_, ?_, ?_, ?_, ?_⟩ <;> simp only [List.getElem?_set, List.length_set] <;> (repeat (rw [if_neg (by omega)])) <;> assumption
theorem TLots_app {w : World} {X : List Value} {k i : Nat} (h : TLots w X k i) (hi : X.length = i * 6) : TLots w (X ++ [.int .i64 ((markN k i : Nat) : Int), .string ⟨#[]⟩, .int .i64 0, .int .i64 0, .int .i64 0, .bool false]) k (i + 1) := fun t ht => by
  by_cases e : t = i
  · subst e
    refine ⟨?_, ?_, ?_, ?_, ?_, ?_⟩ <;> (rw [List.getElem?_append_right (by omega), hi]; first | (rw [Nat.sub_self]; rfl) | (rw [Nat.add_sub_cancel_left]; rfl))
  · obtain ⟨h0, h1, h2, h3, h4, h5⟩ := h t (by omega)
    refine ⟨?_, ?_, ?_, ?_, ?_, ?_⟩ <;> (rw [List.getElem?_append_left (by omega)]; assumption)
theorem TLots_zero : ∀ u ∈ (madeCells (Value.agg #[.int .i64 0, .string ⟨#[]⟩, .int .i64 0, .int .i64 0, .int .i64 0, .bool false]).cells (64 * 6)).toList, u.oneCell' = true := by
  have h : ((madeCells (Value.agg #[.int .i64 0, .string ⟨#[]⟩, .int .i64 0, .int .i64 0, .int .i64 0, .bool false]).cells (64 * 6)).toList.all fun u => u.oneCell') = true := by kernel_rfl
  exact fun u hu => List.all_eq_true.1 h u hu
theorem markLot_K (k i : Nat) (w : World) (hk : k ≤ 1000000) (hi : i ≤ 1125899906842624) :
    Calls Tryz.prog 43 #[.int .i64 (k : Int), .int .i64 (i : Int)] w fun e w' => e = .returned (.agg #[.int .i64 (markN k i : Nat), .string ⟨#[]⟩, .int .i64 0, .int .i64 0, .int .i64 0, .bool false]) ∧ Below w.heap.size w w' := by
  have HM := Lib.hid (fun W => mark_any k i W hk hi)
  have hm := markN_bd k i hk hi
  generalize markN k i = m at HM hm
  have hw := wrap_in (x := (m : Int)) (by omega) (by omega)
  have HB := Lib.hid (fun c : Array Value => (Below.refl w.heap.size w).alloc (Nat.le_refl _) (.cells c 46))
  have HB2 := Lib.hid (fun (c : Array Value) (v : Value) => ((Below.refl w.heap.size w).alloc (Nat.le_refl _) (.cells c 46)).setCell (p := ⟨w.heap.size, 0, none⟩) (Nat.le_refl _) v)
  go_enter Tryz.func43, Tryz.ntmps43
  go_wp2_with (go_at_call 92; refine (HM.out _).mono ?_; rintro e w' ⟨rfl, rfl⟩)
  go_returns
  exact ⟨rfl, by first | exact HB.out _ | exact HB2.out _ _⟩
set_option maxHeartbeats 8000000 in
set_option maxRecDepth 100000 in
theorem flatLots_c6 (B N r cK lb gb : Nat) (V : Nat → Value) (n : Nat → Nat) (w wr : World) (_HBN : Hid (B ≤ N)) (_ha0N : Hid (N ≤ w.heap.size)) (hK : r ≤ 100000) (hc1 : r ≤ cK) (hc2 : cK ≤ 9223372036854775807) (hlb1 : N ≤ lb) (hlb2 : lb < w.heap.size)
    (HLS : Hid (∀ k, k < r → w.cell? ⟨lb, k, none⟩ = some (V k))) (HF : Hid (∀ k, k < r → n k ≤ 1000000)) (ha : Hid (Ap 46 6 TLots B N r V n n wr)) (hgr : Hid (Grs 46 23 6 TLots B w.heap.size gb r V (fun j => n j + 64) n r wr)) (hout : Hid (Out r V w wr)) (s1 s2 s3 s4 s6 s7 s8 s9 s10 s11 s12 s13 s14 s15 s16 s17 s18 s19 s20 s21 s22 s23 s24 s25 s26 s27 s28 s29 s30 s31 s32 s33 s34 s35 s36 s37 s38 s39 s40 s41 s42 s43 s44 s45 s46 s47 s48 s49 s50 s51 s52 s53 s54 s55 s56 s57 s58 s59 s60 s61 s62 s63 s64 s65 s66 s67 s68 s69 s70 s71 s72 s73 s74 s75 s76 s77 s78 s79 s80 s81 s82 s83 s84 s85 s86 s87 s88 s89 s90 s91 s92 s93 s94 s95 s96 s97 s98 s99 s100 s101 s102 s103 s104 s105 s106 s107 s108 s109 s110 s111 s112 s113 s114 s115 s116 s117 s118 s119 s120 s121 s122 s123 s124 s125 s126 s127 s128 s129 s130 s131 s132 s133 s134 s135 s136 s137 s138 s139 s140 s141 s142 s143 s144 s145 s146 s147 s148 s149 s150 s151 s152 s153 s154 s155 s156 s157 s158 s159 s160 s161 s162 s163 s164 s165 s166 s167 s168 s169 s170 s171 s172 s173 s174 s175 s176 s177 s178 s179 s180 s181 s182 s183 s184 s185 s186 s187 s188 s189 s190 s191 s192 : Value) :
    Code.wp Tryz.prog (dropQ 6 (Tryz.f73.body.getD .skip)) (bodyPost Tryz.prog Tryz.f73 fun e w' => e = .returned (.bool true) ∧ Out r V w w') ⟨List.toArray ((.slice (some ⟨lb, 0, none⟩) r cK) :: s1 :: s2 :: s3 :: s4 :: (.slice (some ⟨gb, 0, none⟩) r r) :: s6 :: s7 :: s8 :: s9 :: s10 :: s11 :: s12 :: s13 :: s14 :: s15 :: s16 :: s17 :: s18 :: s19 :: s20 :: s21 :: s22 :: s23 :: s24 :: s25 :: s26 :: s27 :: s28 :: s29 :: s30 :: s31 :: s32 :: s33 :: s34 :: s35 :: s36 :: s37 :: s38 :: s39 :: s40 :: s41 :: s42 :: s43 :: s44 :: s45 :: s46 :: s47 :: s48 :: s49 :: s50 :: s51 :: s52 :: s53 :: s54 :: s55 :: s56 :: s57 :: s58 :: s59 :: s60 :: s61 :: s62 :: s63 :: s64 :: s65 :: s66 :: s67 :: s68 :: s69 :: s70 :: s71 :: s72 :: s73 :: s74 :: s75 :: s76 :: s77 :: s78 :: s79 :: s80 :: s81 :: s82 :: s83 :: s84 :: s85 :: s86 :: s87 :: s88 :: s89 :: s90 :: s91 :: s92 :: s93 :: s94 :: s95 :: s96 :: s97 :: s98 :: s99 :: s100 :: s101 :: s102 :: s103 :: s104 :: s105 :: s106 :: s107 :: s108 :: s109 :: s110 :: s111 :: s112 :: s113 :: s114 :: s115 :: s116 :: s117 :: s118 :: s119 :: s120 :: s121 :: s122 :: s123 :: s124 :: s125 :: s126 :: s127 :: s128 :: s129 :: s130 :: s131 :: s132 :: s133 :: s134 :: s135 :: s136 :: s137 :: s138 :: s139 :: s140 :: s141 :: s142 :: s143 :: s144 :: s145 :: s146 :: s147 :: s148 :: s149 :: s150 :: s151 :: s152 :: s153 :: s154 :: s155 :: s156 :: s157 :: s158 :: s159 :: s160 :: s161 :: s162 :: s163 :: s164 :: s165 :: s166 :: s167 :: s168 :: s169 :: s170 :: s171 :: s172 :: s173 :: s174 :: s175 :: s176 :: s177 :: s178 :: s179 :: s180 :: s181 :: s182 :: s183 :: s184 :: s185 :: s186 :: s187 :: s188 :: s189 :: s190 :: s191 :: s192 :: []), []⟩ wr := by
  have St : Hid (Stab 46 23 TLots) := Lib.hid TLots_stab
  obtain ⟨i1, hi, hz0, hz1, hz2⟩ := info_parts (P := Tryz.prog) (e := 23) (z := .slice none 0 0) (size := 1) (bytes := 24) (by kernel_rfl)
  have Hi := Lib.hid hi
  have Hz0 := Lib.hid hz0
  have Hz1 := Lib.hid hz1
  have hb0 : i1.bytes * r ≤ 281474976710656 := by rw [hz2]; omega
  have Hb0 := Lib.hid hb0
  clear hi hz0 hz1 hz2 hb0
  obtain ⟨i0, hi, hz0, hz1, hz2⟩ := info_parts (P := Tryz.prog) (e := 46) (z := (Value.agg #[.int .i64 0, .string ⟨#[]⟩, .int .i64 0, .int .i64 0, .int .i64 0, .bool false])) (size := 6) (bytes := 56) (by kernel_rfl)
  have Hi2 := Lib.hid hi
  have Hz02 := Lib.hid hz0
  have Hz12 := Lib.hid hz1
  have hb02 : i0.bytes * 64 ≤ 281474976710656 := by rw [hz2]; omega
  have Hb02 := Lib.hid hb02
  have Hby : Hid (i0.bytes = 56) := Lib.hid hz2
  clear hi hz0 hz1 hz2 hb02
  conv => arg 2; whnf
  go_wp2_with (fail)
  go_loopw [14] (fun s14 wr => ∃ t : Nat, s14 = .int .i64 t ∧ t ≤ r ∧ Hid (Ap 46 6 TLots B N r V n n wr) ∧ Hid (Grs 46 23 6 TLots B w.heap.size gb r V (fun j => n j + 64) n r wr) ∧ Hid (Out r V w wr)) (fun s14 _ => r - (intOf s14).toNat)
  case atStart => exact ⟨0, rfl, by omega, ha, hgr, hout⟩
  case round =>
    clear ha hgr hout
    obtain ⟨w5, rfl⟩ : ∃ z, z = wr := ⟨_, rfl⟩
    obtain ⟨t, rfl, ht, ha, hgr, hout⟩ := hrel
    by_cases htr : t < r
    · obtain ⟨g, c, Y, hgc, hgo, hgT⟩ := hgr.out.cell htr htr
      obtain ⟨a9, c9, e9, hcc1, hcc2, -⟩ := rows_form hgo
      cases e9
      have hnm := HF.out t htr
      obtain ⟨a6, c6, hv6, hcd1, hcd2, hsome6⟩ := ha.out.split htr
      obtain ⟨X6, hop6, hT6⟩ := ha.out.own t htr
      obtain ⟨nk, hnk⟩ : ∃ m, m = n t := ⟨_, rfl⟩
      rw [← hnk] at hgc hgo hgT hcc1 hnm hv6 hcd1 hsome6 hop6 hT6
      have Hgc := Lib.hid hgc
      have Hgo := Lib.hid hgo
      have HgT := Lib.hid hgT
      have HV6 := Lib.hid hv6
      have Hsome6 := Lib.hid hsome6
      have hcl6 := (hout.out.cell (p := ⟨lb, t, none⟩) (fun j hj => ha.out.ne hj hlb1) hlb2).trans (HLS.out t htr)
      rw [hv6] at hcl6 hop6
      have Hcl6 := Lib.hid hcl6
      have Hop6 := Lib.hid hop6
      have HT6 := Lib.hid hT6
      have hszr : gb < w5.heap.size ∧ lb < w5.heap.size := ⟨hgr.out.row.2, Nat.lt_of_lt_of_le hlb2 hout.out.size⟩
      obtain ⟨hsz1, hsz2⟩ := hszr
      clear hv6 hsome6 hop6 hT6 hgo hgT hnk hgc
      go_wp2_with (fail)
      go_loopw [15] (fun s15 wx => ∃ j : Nat, s15 = .int .i64 j ∧ j ≤ nk ∧ Hid (Below w5.heap.size w5 wx)) (fun s15 _ => nk - (intOf s15).toNat)
      case atStart => exact ⟨0, rfl, by omega, Lib.hid (Below.refl _ _)⟩
      case round =>
        clear hcl6
        obtain ⟨j, rfl, hj, hb⟩ := hrel
        have hcl6 := (hb.out.cell (p := ⟨lb, t, none⟩) hsz2).trans Hcl6.out
        have hszx := hb.out.size
        by_cases hjk : j < nk
        · obtain ⟨g', rfl⟩ := Hsome6.out (by omega)
          have hg7 := (row_lt Hgo.out).2
          have hg8 := (row_lt Hop6.out).2
          have hmk := fun W => markLot_K t j W (by omega) (by omega)
          have hjn : j < nk + 64 := by omega
          have hj1 : (j : Int) < (nk : Int) + 64 := by omega
          have hj0 : (0 : Int) ≤ (j : Int) := by omega
          obtain ⟨k0, k1, k2, k3, k4, k5⟩ := HgT.out j (by omega)
          have k0 := (Hgo.out.cellAt (j * 6) (by omega)).trans k0
          have k1 := (Hgo.out.cellAt (j * 6 + 1) (by omega)).trans k1
          have k2 := (Hgo.out.cellAt (j * 6 + 2) (by omega)).trans k2
          have k3 := (Hgo.out.cellAt (j * 6 + 3) (by omega)).trans k3
          have k4 := (Hgo.out.cellAt (j * 6 + 4) (by omega)).trans k4
          have k5 := (Hgo.out.cellAt (j * 6 + 5) (by omega)).trans k5
          obtain ⟨l0, l1, l2, l3, l4, l5⟩ := HT6.out j (by omega)
          have l0 := (Hop6.out.cellAt (j * 6) (by omega)).trans l0
          have l1 := (Hop6.out.cellAt (j * 6 + 1) (by omega)).trans l1
          have l2 := (Hop6.out.cellAt (j * 6 + 2) (by omega)).trans l2
          have l3 := (Hop6.out.cellAt (j * 6 + 3) (by omega)).trans l3
          have l4 := (Hop6.out.cellAt (j * 6 + 4) (by omega)).trans l4
          have l5 := (Hop6.out.cellAt (j * 6 + 5) (by omega)).trans l5
          generalize ((markN t j : Nat) : Int) = m at k0 hmk l0
          have HC : ∀ (b o : Nat) (u : Value), b < w5.heap.size → w5.cell? ⟨b, o, none⟩ = some u → ∀ y : BelowW wr, y.v.cell? ⟨b, o, none⟩ = some u := fun b o u h1 h2 y => (y.h.cell (by show b < wr.heap.size; omega)).trans ((hb.out.cell (by exact h1)).trans h2)
          have f0 := HC gb t _ hsz1 Hgc.out
          have fg0 := HC g (j * 6) _ hg7 k0
          have fg1 := HC g (j * 6 + 1) _ hg7 k1
          have fg2 := HC g (j * 6 + 2) _ hg7 k2
          have fg3 := HC g (j * 6 + 3) _ hg7 k3
          have fg4 := HC g (j * 6 + 4) _ hg7 k4
          have fg5 := HC g (j * 6 + 5) _ hg7 k5
          have f3 := HC lb t _ hsz2 Hcl6.out
          have fl0 := HC g' (j * 6) _ hg8 l0
          have fl1 := HC g' (j * 6 + 1) _ hg8 l1
          have fl2 := HC g' (j * 6 + 2) _ hg8 l2
          have fl3 := HC g' (j * 6 + 3) _ hg8 l3
          have fl4 := HC g' (j * 6 + 4) _ hg8 l4
          have fl5 := HC g' (j * 6 + 5) _ hg8 l5
          clear HC k0 k1 k2 k3 k4 k5 l0 l1 l2 l3 l4 l5
          have heq : ∀ w : World, (Op.equalIn 10000 46 (.agg #[.int .i64 m, .string ⟨#[]⟩, .int .i64 0, .int .i64 0, .int .i64 0, .bool false]) (.agg #[.int .i64 m, .string ⟨#[]⟩, .int .i64 0, .int .i64 0, .int .i64 0, .bool false])).run Tryz.prog w = .ok true w := fun w => eqLot_self m [] 0 0 0 false w
          obtain ⟨sv, hsv⟩ : ∃ z, z = Value.string ⟨#[]⟩ := ⟨_, rfl⟩
          simp only [← hsv] at heq hmk fg1 fl1
          clear hsv
          obtain ⟨zv, hzv⟩ : ∃ z, z = Value.int .i64 0 := ⟨_, rfl⟩
          simp only [← hzv] at heq hmk fg2 fg3 fg4 fl2 fl3 fl4
          clear hzv
          obtain ⟨bv, hbv⟩ : ∃ z, z = Value.bool false := ⟨_, rfl⟩
          simp only [← hbv] at heq hmk fg5 fl5
          clear hbv
          have HM : Tryz.prog.eqGuardType Tryz.prog.depth 46 = false := by kernel_rfl
          go_wp2_with (fail)
          refine wp_region_below wr (by kernel_rfl) (by kernel_rfl) (Below.refl _ _) ?_
          repeat (first | (go_big_quiet_want; refine quiet_eql _ _ true rfl rfl HM heq ?_; go_big_quiet_op; go_big_quiet_on) | go_big_quiet_step ((go_at_call 43; exact below_call (hmk _))))
          refine wpQuiet_nil ?_
          intro _ hw'
          obtain ⟨y, hw''⟩ := hw'
          subst hw''
          clear f0 f3 fg0 fg1 fg2 fg3 fg4 fg5 fl0 fl1 fl2 fl3 fl4 fl5
          go_wp2_with (fail)
          go_roundw
          case rel => exact ⟨j + 1, by go_num, by omega, Lib.hid (hb.out.trans (y.h.mono hszx))⟩
          case measure => simp [intOf]; omega
        · have y1 := Lib.hid (ha.out.below St.out hb.out)
          have y2 := Lib.hid (hgr.out.below St.out hb.out)
          have y3 := Lib.hid (hout.out.below hb.out)
          go_wp2_with (fail)
          go_roundw
          case rel => exact ⟨t + 1, by go_num, by omega, y1, y2, y3⟩
          case measure => simp [intOf]; omega
    · go_wp2_with (fail)
      go_ret
      exact ⟨rfl, hout.out⟩

set_option maxHeartbeats 8000000 in
set_option maxRecDepth 100000 in
theorem flatLots_c5 (B N p cK lb gb : Nat) (V : Nat → Value) (n : Nat → Nat) (w wr : World) (HBN : Hid (B ≤ N)) (ha0N : Hid (N ≤ w.heap.size)) (hK : p ≤ 100000) (hc1 : p ≤ cK) (hc2 : cK ≤ 9223372036854775807) (hlb1 : N ≤ lb) (hlb2 : lb < w.heap.size)
    (HLS : Hid (∀ k, k < p → w.cell? ⟨lb, k, none⟩ = some (V k))) (HF : Hid (∀ k, k < p → n k ≤ 1000000)) (ha : Hid (Ap 46 6 TLots B N p V n n wr)) (hgr : Hid (Grs 46 23 6 TLots B w.heap.size gb p V (fun j => n j + 64) n 0 wr)) (hout : Hid (Out p V w wr)) (s1 s2 s3 s4 s6 s7 s8 s9 s10 s11 s12 s13 s14 s15 s16 s17 s18 s19 s20 s21 s22 s23 s24 s25 s26 s27 s28 s29 s30 s31 s32 s33 s34 s35 s36 s37 s38 s39 s40 s41 s42 s43 s44 s45 s46 s47 s48 s49 s50 s51 s52 s53 s54 s55 s56 s57 s58 s59 s60 s61 s62 s63 s64 s65 s66 s67 s68 s69 s70 s71 s72 s73 s74 s75 s76 s77 s78 s79 s80 s81 s82 s83 s84 s85 s86 s87 s88 s89 s90 s91 s92 s93 s94 s95 s96 s97 s98 s99 s100 s101 s102 s103 s104 s105 s106 s107 s108 s109 s110 s111 s112 s113 s114 s115 s116 s117 s118 s119 s120 s121 s122 s123 s124 s125 s126 s127 s128 s129 s130 s131 s132 s133 s134 s135 s136 s137 s138 s139 s140 s141 s142 s143 s144 s145 s146 s147 s148 s149 s150 s151 s152 s153 s154 s155 s156 s157 s158 s159 s160 s161 s162 s163 s164 s165 s166 s167 s168 s169 s170 s171 s172 s173 s174 s175 s176 s177 s178 s179 s180 s181 s182 s183 s184 s185 s186 s187 s188 s189 s190 s191 s192 : Value) :
    Code.wp Tryz.prog (dropQ 5 (Tryz.f73.body.getD .skip)) (bodyPost Tryz.prog Tryz.f73 fun e w' => e = .returned (.bool true) ∧ Out p V w w') ⟨List.toArray ((.slice (some ⟨lb, 0, none⟩) p cK) :: s1 :: s2 :: s3 :: s4 :: (.slice (some ⟨gb, 0, none⟩) p p) :: s6 :: s7 :: s8 :: s9 :: s10 :: s11 :: s12 :: s13 :: s14 :: s15 :: s16 :: s17 :: s18 :: s19 :: s20 :: s21 :: s22 :: s23 :: s24 :: s25 :: s26 :: s27 :: s28 :: s29 :: s30 :: s31 :: s32 :: s33 :: s34 :: s35 :: s36 :: s37 :: s38 :: s39 :: s40 :: s41 :: s42 :: s43 :: s44 :: s45 :: s46 :: s47 :: s48 :: s49 :: s50 :: s51 :: s52 :: s53 :: s54 :: s55 :: s56 :: s57 :: s58 :: s59 :: s60 :: s61 :: s62 :: s63 :: s64 :: s65 :: s66 :: s67 :: s68 :: s69 :: s70 :: s71 :: s72 :: s73 :: s74 :: s75 :: s76 :: s77 :: s78 :: s79 :: s80 :: s81 :: s82 :: s83 :: s84 :: s85 :: s86 :: s87 :: s88 :: s89 :: s90 :: s91 :: s92 :: s93 :: s94 :: s95 :: s96 :: s97 :: s98 :: s99 :: s100 :: s101 :: s102 :: s103 :: s104 :: s105 :: s106 :: s107 :: s108 :: s109 :: s110 :: s111 :: s112 :: s113 :: s114 :: s115 :: s116 :: s117 :: s118 :: s119 :: s120 :: s121 :: s122 :: s123 :: s124 :: s125 :: s126 :: s127 :: s128 :: s129 :: s130 :: s131 :: s132 :: s133 :: s134 :: s135 :: s136 :: s137 :: s138 :: s139 :: s140 :: s141 :: s142 :: s143 :: s144 :: s145 :: s146 :: s147 :: s148 :: s149 :: s150 :: s151 :: s152 :: s153 :: s154 :: s155 :: s156 :: s157 :: s158 :: s159 :: s160 :: s161 :: s162 :: s163 :: s164 :: s165 :: s166 :: s167 :: s168 :: s169 :: s170 :: s171 :: s172 :: s173 :: s174 :: s175 :: s176 :: s177 :: s178 :: s179 :: s180 :: s181 :: s182 :: s183 :: s184 :: s185 :: s186 :: s187 :: s188 :: s189 :: s190 :: s191 :: s192 :: []), []⟩ wr := by
  have St : Hid (Stab 46 23 TLots) := Lib.hid TLots_stab
  obtain ⟨i1, hi, hz0, hz1, hz2⟩ := info_parts (P := Tryz.prog) (e := 23) (z := .slice none 0 0) (size := 1) (bytes := 24) (by kernel_rfl)
  have Hi := Lib.hid hi
  have Hz0 := Lib.hid hz0
  have Hz1 := Lib.hid hz1
  have hb0 : i1.bytes * p ≤ 281474976710656 := by rw [hz2]; omega
  have Hb0 := Lib.hid hb0
  clear hi hz0 hz1 hz2 hb0
  obtain ⟨i0, hi, hz0, hz1, hz2⟩ := info_parts (P := Tryz.prog) (e := 46) (z := (Value.agg #[.int .i64 0, .string ⟨#[]⟩, .int .i64 0, .int .i64 0, .int .i64 0, .bool false])) (size := 6) (bytes := 56) (by kernel_rfl)
  have Hi2 := Lib.hid hi
  have Hz02 := Lib.hid hz0
  have Hz12 := Lib.hid hz1
  have hb02 : i0.bytes * 64 ≤ 281474976710656 := by rw [hz2]; omega
  have Hb02 := Lib.hid hb02
  have Hby : Hid (i0.bytes = 56) := Lib.hid hz2
  clear hi hz0 hz1 hz2 hb02
  conv => arg 2; whnf
  go_wp2_with (fail)
  have hgr0 := hgr
  clear hgr
  go_loopw [11] (fun s11 wr => ∃ r : Nat, s11 = .int .i64 r ∧ r ≤ p ∧ Hid (Ap 46 6 TLots B N p V n n wr) ∧ Hid (Grs 46 23 6 TLots B w.heap.size gb p V (fun j => n j + 64) n r wr) ∧ Hid (Out p V w wr)) (fun s11 _ => p - (intOf s11).toNat)
  case atStart => exact ⟨0, rfl, by omega, ha, hgr0, hout⟩
  case round =>
    clear ha hgr0 hout
    obtain ⟨wk, rfl⟩ : ∃ z, z = wr := ⟨_, rfl⟩
    obtain ⟨r, rfl, hr, ha, hgr, hout⟩ := hrel
    by_cases hrp : r < p
    · have hnm := HF.out r hrp
      obtain ⟨a, c, hv, hcc1, hcc2, -⟩ := ha.out.split hrp
      obtain ⟨nk, hnk⟩ : ∃ m, m = n r := ⟨_, rfl⟩
      rw [← hnk] at hnm hv hcc1
      have HV := Lib.hid hv
      have Hnk := Lib.hid hnk
      clear hv hnk
      obtain ⟨gm, hgm⟩ : ∃ z, z = wk.heap.size := ⟨_, rfl⟩
      have Hgm := Lib.hid hgm
      clear hgm
      obtain ⟨w6, hrun, hown6, hg6⟩ := run_make_full (P := Tryz.prog) (w := wk) wk.heap.size 23 46 i0 (Value.agg #[.int .i64 0, .string ⟨#[]⟩, .int .i64 0, .int .i64 0, .int .i64 0, .bool false]) 6 Tryz.underlying23 Hi2.out Hz02.out Hz12.out .i64 .i64 64 Hb02.out (by simp only [maxLen]; omega) (Nat.le_refl _)
      rw [← Hgm.out] at hrun hown6
      have hrun' : (Instr.makeSlice 23 (.int .i64 64) (.int .i64 64)).run Tryz.prog wk = .ok (.slice (some ⟨gm, 0, none⟩) 64 64) w6 := hrun
      have HO6 : Hid (∃ Z, w6.ownsRow gm 46 6 (.slice (some ⟨gm, 0, none⟩) 64 64) 64 Z ∧ ∀ u ∈ Z, u.oneCell' = true) := Lib.hid ⟨_, hown6, TLots_zero⟩
      have HB6 : Hid (Below wk.heap.size wk w6) := Lib.hid ((Below.refl _ wk).grown hg6 (Nat.le_refl _) (fun k e => by cases e))
      clear hown6 hg6 hrun
      go_wp2_with (fail)
      go_loopw [13] (fun s13 wx => ∃ i : Nat, s13 = .int .i64 i ∧ i ≤ 64 ∧ Hid (∃ Z, wx.ownsRow gm 46 6 (.slice (some ⟨gm, 0, none⟩) 64 64) 64 Z ∧ ∀ u ∈ Z, u.oneCell' = true) ∧ Hid (Below wk.heap.size wk wx)) (fun s13 _ => 64 - (intOf s13).toNat)
      case atStart => exact ⟨0, rfl, by omega, HO6, HB6⟩
      case round =>
        clear HO6 HB6
        obtain ⟨i, rfl, hi, ho, hb⟩ := hrel
        by_cases hin : i < 64
        · have hmk := fun W => markLot_K (r + p) i W (by omega) (by omega)
          simp only [Int.natCast_add] at hmk
          generalize ((markN (r + p) i : Nat) : Int) = m at hmk
          have i7 := wrap_in (x := (r : Int) + (p : Int)) (by omega) (by omega)
          have Hfun := Lib.hid (fun (wm : World) (hbm : Below wr.heap.size wr wm) => by
            obtain ⟨Z, h2, h3⟩ := ho.out
            have h2 := rows_below h2 hbm
            exact (⟨⟨Z, h2, h3⟩, (⟨rowc_at h2 (k := i * 6) (by omega), rowc_at h2 (k := i * 6 + 1) (by omega), rowc_at h2 (k := i * 6 + 2) (by omega), rowc_at h2 (k := i * 6 + 3) (by omega), rowc_at h2 (k := i * 6 + 4) (by omega), rowc_at h2 (k := i * 6 + 5) (by omega)⟩ : _ ∧ _ ∧ _ ∧ _ ∧ _ ∧ _), hb.out.trans (hbm.mono hb.out.size)⟩ : (∃ Z, wm.ownsRow gm 46 6 (.slice (some ⟨gm, 0, none⟩) 64 64) 64 Z ∧ ∀ u ∈ Z, u.oneCell' = true) ∧ _ ∧ _))
          go_wp2_with (go_at_call 43; refine (hmk _).mono ?_; rintro e wm ⟨rfl, hbm⟩; obtain ⟨z1, ⟨⟨⟨c0, d0⟩, f0⟩, ⟨⟨c1, d1⟩, f1⟩, ⟨⟨c2, d2⟩, f2⟩, ⟨⟨c3, d3⟩, f3⟩, ⟨⟨c4, d4⟩, f4⟩, ⟨⟨c5, d5⟩, f5⟩⟩, z3⟩ := Hfun.out wm hbm; have Z1 := Lib.hid z1; have Z3 := Lib.hid z3; clear z1 z3 hbm)
          have O7 : Hid (∃ Z, ((((((wm.setCell ⟨gm, i * 6, none⟩ (.int .i64 m)).setCell ⟨gm, i * 6 + 1, none⟩ (.string ⟨#[]⟩)).setCell ⟨gm, i * 6 + 2, none⟩ (.int .i64 0)).setCell ⟨gm, i * 6 + 3, none⟩ (.int .i64 0)).setCell ⟨gm, i * 6 + 4, none⟩ (.int .i64 0)).setCell ⟨gm, i * 6 + 5, none⟩ (.bool false)).ownsRow gm 46 6 (.slice (some ⟨gm, 0, none⟩) 64 64) 64 Z ∧ ∀ u ∈ Z, u.oneCell' = true) := Lib.hid (by
            obtain ⟨Z, h2, h3⟩ := Z1.out
            exact ⟨_, (row_set (row_set (row_set (row_set (row_set (row_set h2 (i * 6) _) (i * 6 + 1) _) (i * 6 + 2) _) (i * 6 + 3) _) (i * 6 + 4) _) (i * 6 + 5) _), (fun u hu => (fun hu => (List.mem_or_eq_of_mem_set hu).elim (fun hu => (List.mem_or_eq_of_mem_set hu).elim (fun hu => (List.mem_or_eq_of_mem_set hu).elim (fun hu => (List.mem_or_eq_of_mem_set hu).elim (fun hu => (List.mem_or_eq_of_mem_set hu).elim (fun hu => (List.mem_or_eq_of_mem_set hu).elim (h3 u) (fun h => by rw [h]; rfl)) (fun h => by rw [h]; rfl)) (fun h => by rw [h]; rfl)) (fun h => by rw [h]; rfl)) (fun h => by rw [h]; rfl)) (fun h => by rw [h]; rfl)) hu)⟩)
          have B7 : Hid (Below wk.heap.size wk ((((((wm.setCell ⟨gm, i * 6, none⟩ (.int .i64 m)).setCell ⟨gm, i * 6 + 1, none⟩ (.string ⟨#[]⟩)).setCell ⟨gm, i * 6 + 2, none⟩ (.int .i64 0)).setCell ⟨gm, i * 6 + 3, none⟩ (.int .i64 0)).setCell ⟨gm, i * 6 + 4, none⟩ (.int .i64 0)).setCell ⟨gm, i * 6 + 5, none⟩ (.bool false))) := Lib.hid ((((((Z3.out.setCell (p := ⟨gm, i * 6, none⟩) (Nat.le_of_eq Hgm.out.symm) _).setCell (p := ⟨gm, i * 6 + 1, none⟩) (Nat.le_of_eq Hgm.out.symm) _).setCell (p := ⟨gm, i * 6 + 2, none⟩) (Nat.le_of_eq Hgm.out.symm) _).setCell (p := ⟨gm, i * 6 + 3, none⟩) (Nat.le_of_eq Hgm.out.symm) _).setCell (p := ⟨gm, i * 6 + 4, none⟩) (Nat.le_of_eq Hgm.out.symm) _).setCell (p := ⟨gm, i * 6 + 5, none⟩) (Nat.le_of_eq Hgm.out.symm) _)
          go_roundw
          case rel => exact ⟨i + 1, by go_num, by omega, O7, B7⟩
          case measure => simp [intOf]; omega
        · have ei : i = 64 := by omega
          subst ei
          obtain ⟨Z, hoM, hone⟩ := ho.out
          have hzl := hoM.1
          have Hzl := Lib.hid hzl
          have Hone := Lib.hid hone
          have hsrc := World.ownsRow.cells (g := gm) hoM rfl
          have Hsrc := Lib.hid hsrc
          have HA8 := Lib.hid (ha.out.below St.out hb.out)
          have HG8 := Lib.hid (hgr.out.below St.out hb.out)
          have HT8 := Lib.hid (hout.out.below hb.out)
          have hcl := (HT8.out.cell (p := ⟨lb, r, none⟩) (fun j hj => ha.out.ne hj hlb1) hlb2).trans (HLS.out r hrp)
          rw [HV.out] at hcl
          obtain ⟨X8, hop, hT8⟩ := HA8.out.own r hrp
          rw [← Hnk.out] at hop hT8
          rw [HV.out] at hop
          have Hop := Lib.hid hop
          have HTx := Lib.hid hT8
          have HgeB : Hid (B ≤ wr.heap.size) := Lib.hid (Nat.le_trans HBN.out HA8.out.size)
          clear hoM hsrc hop hT8 hone hzl
          go_wp2_with (at_builtin; refine wpList_append_keepCW rfl _ _ 23 rfl 46 i0 (Value.agg #[.int .i64 0, .string ⟨#[]⟩, .int .i64 0, .int .i64 0, .int .i64 0, .bool false]) Tryz.underlying23 Hi2.out Hz02.out Hz12.out rfl rfl Hop.out _ 64 rfl ⟨_, rfl, Hsrc.out⟩ Hone.out Hzl.out (by decide) HgeB.out (by rw [Hby.out]; omega) (by omega) ?_; intro g4 c4 w4 ho4 hov4 hg4 hb4; have hfr4 : Fr 46 23 wr w4 := Fr.own hg4 Hop.out; have hkp4 : Kp wr.heap.size (V r) wr w4 := Kp.refl.grown hg4 (fun k e => .inl (by rw [HV.out]; exact e)); have hgr4 := HG8.out.keep St.out HA8.out hrp ha0N.out hfr4 hkp4.block; obtain ⟨⟨u0, hu0⟩, hfz⟩ := hgr4.slot hrp; have O4 := Lib.hid ho4; have OV4 := Lib.hid hov4; have G4 := Lib.hid hg4; have B4 := Lib.hid hb4; have GR4 := Lib.hid hgr4; have F4 := Lib.hid hfr4; clear ho4 hov4 hg4 hb4 hkp4 hgr4 hfr4)
          have hgbb : w.heap.size ≤ gb := hgr.out.row.1
          have O9 : Hid (w4.ownsRow B 46 6 (.slice (some ⟨g4, 0, none⟩) (n r + 64) c4) (n r + 64) (X8 ++ Z)) := Lib.hid (by
            have h := O4.out
            rw [Hnk.out] at h
            exact h)
          have T9' : Hid (TLots w4 (X8 ++ Z) r (n r)) := Lib.hid (St.out.ext (St.out.st F4.out (by have h := HTx.out; rw [Hnk.out] at h; exact h)))
          have D9 : Hid (((V r).ownBlock = some g4 ∨ w.heap.size ≤ g4) ∧ g4 ≠ gb) := Lib.hid (by
            have h5 := HA8.out.lt r hrp g4
            rw [HV.out] at h5 ⊢
            have h6 := ha0N.out
            have h7 : gb < wr.heap.size := HG8.out.row.2
            rcases B4.out with h | h
            · exact ⟨.inl h, by have := h5 h; omega⟩
            · exact ⟨.inr (by have := HT8.out.size; omega), by omega⟩)
          have A9 := Lib.hid (HA8.out.keepgrow St.out (by decide) hrp Hop.out (by rw [Hnk.out]; exact Nat.le_refl _) (fun b e => .inl (by rw [HV.out]; exact e)) G4.out OV4.out)
          have T9 := Lib.hid (HT8.out.grown G4.out (fun b e => .inl ⟨r, hrp, by rw [HV.out]; exact e⟩))
          rw [Hnk.out]
          refine ⟨⟨r + 1, by go_num, by omega, Lib.hid (A9.out.new St.out (grown_one w4 gb r _) (fun b e => by cases e; exact Nat.le_trans ha0N.out hgbb) (GR4.out.fr r _)), Lib.hid (GR4.out.put St.out hrp O9.out T9'.out D9.out.1 D9.out.2), Lib.hid (T9.out.grown (grown_one w4 gb r _) (fun b e => by cases e; exact .inr hgbb))⟩, by simp [intOf]; omega⟩
    · have ep : r = p := by omega
      subst ep
      go_upto_region 27 with (fail)
      iterate 22 go_step
      exact flatLots_c6 B N r cK lb gb V n w _ HBN ha0N hK hc1 hc2 hlb1 hlb2 HLS HF ha hgr hout _ _ _ _ _ _ _ _ _ _ _ _ _ _ _ _ _ _ _ _ _ _ _ _ _ _ _ _ _ _ _ _ _ _ _ _ _ _ _ _ _ _ _ _ _ _ _ _ _ _ _ _ _ _ _ _ _ _ _ _ _ _ _ _ _ _ _ _ _ _ _ _ _ _ _ _ _ _ _ _ _ _ _ _ _ _ _ _ _ _ _ _ _ _ _ _ _ _ _ _ _ _ _ _ _ _ _ _ _ _ _ _ _ _ _ _ _ _ _ _ _ _ _ _ _ _ _ _ _ _ _ _ _ _ _ _ _ _ _ _ _ _ _ _ _ _ _ _ _ _ _ _ _ _ _ _ _ _ _ _ _ _ _ _ _ _ _ _ _ _ _ _ _ _ _ _ _ _ _ _ _ _ _ _ _ _ _ _ _ _ _

set_option maxHeartbeats 8000000 in
set_option maxRecDepth 100000 in
theorem flatLots_c4 (B N q cK lb gb : Nat) (V : Nat → Value) (n : Nat → Nat) (w wr : World) (HBN : Hid (B ≤ N)) (ha0N : Hid (N ≤ w.heap.size)) (hK : q ≤ 100000) (hc1 : q ≤ cK) (hc2 : cK ≤ 9223372036854775807) (hlb1 : N ≤ lb) (hlb2 : lb < w.heap.size)
    (HLS : Hid (∀ k, k < q → w.cell? ⟨lb, k, none⟩ = some (V k))) (HF : Hid (∀ k, k < q → n k ≤ 1000000)) (ha : Hid (Ap 46 6 TLots B N q V n n wr)) (hgr : Hid (Grs 46 23 6 TLots B w.heap.size gb q V (fun j => n j + 64) (fun j => n j + 64) q wr)) (hout : Hid (Out q V w wr)) (s1 s2 s3 s4 s6 s7 s8 s9 s10 s11 s12 s13 s14 s15 s16 s17 s18 s19 s20 s21 s22 s23 s24 s25 s26 s27 s28 s29 s30 s31 s32 s33 s34 s35 s36 s37 s38 s39 s40 s41 s42 s43 s44 s45 s46 s47 s48 s49 s50 s51 s52 s53 s54 s55 s56 s57 s58 s59 s60 s61 s62 s63 s64 s65 s66 s67 s68 s69 s70 s71 s72 s73 s74 s75 s76 s77 s78 s79 s80 s81 s82 s83 s84 s85 s86 s87 s88 s89 s90 s91 s92 s93 s94 s95 s96 s97 s98 s99 s100 s101 s102 s103 s104 s105 s106 s107 s108 s109 s110 s111 s112 s113 s114 s115 s116 s117 s118 s119 s120 s121 s122 s123 s124 s125 s126 s127 s128 s129 s130 s131 s132 s133 s134 s135 s136 s137 s138 s139 s140 s141 s142 s143 s144 s145 s146 s147 s148 s149 s150 s151 s152 s153 s154 s155 s156 s157 s158 s159 s160 s161 s162 s163 s164 s165 s166 s167 s168 s169 s170 s171 s172 s173 s174 s175 s176 s177 s178 s179 s180 s181 s182 s183 s184 s185 s186 s187 s188 s189 s190 s191 s192 : Value) :
    Code.wp Tryz.prog (dropQ 4 (Tryz.f73.body.getD .skip)) (bodyPost Tryz.prog Tryz.f73 fun e w' => e = .returned (.bool true) ∧ Out q V w w') ⟨List.toArray ((.slice (some ⟨lb, 0, none⟩) q cK) :: s1 :: s2 :: s3 :: s4 :: (.slice (some ⟨gb, 0, none⟩) q q) :: s6 :: s7 :: s8 :: s9 :: s10 :: s11 :: s12 :: s13 :: s14 :: s15 :: s16 :: s17 :: s18 :: s19 :: s20 :: s21 :: s22 :: s23 :: s24 :: s25 :: s26 :: s27 :: s28 :: s29 :: s30 :: s31 :: s32 :: s33 :: s34 :: s35 :: s36 :: s37 :: s38 :: s39 :: s40 :: s41 :: s42 :: s43 :: s44 :: s45 :: s46 :: s47 :: s48 :: s49 :: s50 :: s51 :: s52 :: s53 :: s54 :: s55 :: s56 :: s57 :: s58 :: s59 :: s60 :: s61 :: s62 :: s63 :: s64 :: s65 :: s66 :: s67 :: s68 :: s69 :: s70 :: s71 :: s72 :: s73 :: s74 :: s75 :: s76 :: s77 :: s78 :: s79 :: s80 :: s81 :: s82 :: s83 :: s84 :: s85 :: s86 :: s87 :: s88 :: s89 :: s90 :: s91 :: s92 :: s93 :: s94 :: s95 :: s96 :: s97 :: s98 :: s99 :: s100 :: s101 :: s102 :: s103 :: s104 :: s105 :: s106 :: s107 :: s108 :: s109 :: s110 :: s111 :: s112 :: s113 :: s114 :: s115 :: s116 :: s117 :: s118 :: s119 :: s120 :: s121 :: s122 :: s123 :: s124 :: s125 :: s126 :: s127 :: s128 :: s129 :: s130 :: s131 :: s132 :: s133 :: s134 :: s135 :: s136 :: s137 :: s138 :: s139 :: s140 :: s141 :: s142 :: s143 :: s144 :: s145 :: s146 :: s147 :: s148 :: s149 :: s150 :: s151 :: s152 :: s153 :: s154 :: s155 :: s156 :: s157 :: s158 :: s159 :: s160 :: s161 :: s162 :: s163 :: s164 :: s165 :: s166 :: s167 :: s168 :: s169 :: s170 :: s171 :: s172 :: s173 :: s174 :: s175 :: s176 :: s177 :: s178 :: s179 :: s180 :: s181 :: s182 :: s183 :: s184 :: s185 :: s186 :: s187 :: s188 :: s189 :: s190 :: s191 :: s192 :: []), []⟩ wr := by
  have St : Hid (Stab 46 23 TLots) := Lib.hid TLots_stab
  obtain ⟨i1, hi, hz0, hz1, hz2⟩ := info_parts (P := Tryz.prog) (e := 23) (z := .slice none 0 0) (size := 1) (bytes := 24) (by kernel_rfl)
  have Hi := Lib.hid hi
  have Hz0 := Lib.hid hz0
  have Hz1 := Lib.hid hz1
  have hb0 : i1.bytes * q ≤ 281474976710656 := by rw [hz2]; omega
  have Hb0 := Lib.hid hb0
  clear hi hz0 hz1 hz2 hb0
  obtain ⟨i0, hi, hz0, hz1, hz2⟩ := info_parts (P := Tryz.prog) (e := 46) (z := (Value.agg #[.int .i64 0, .string ⟨#[]⟩, .int .i64 0, .int .i64 0, .int .i64 0, .bool false])) (size := 6) (bytes := 56) (by kernel_rfl)
  have Hi2 := Lib.hid hi
  have Hz02 := Lib.hid hz0
  have Hz12 := Lib.hid hz1
  have hb02 : i0.bytes * 64 ≤ 281474976710656 := by rw [hz2]; omega
  have Hb02 := Lib.hid hb02
  have Hby : Hid (i0.bytes = 56) := Lib.hid hz2
  clear hi hz0 hz1 hz2 hb02
  conv => arg 2; whnf
  go_wp2_with (fail)
  go_loopw [9] (fun s9 wr => ∃ p : Nat, s9 = .int .i64 p ∧ p ≤ q ∧ Hid (Ap 46 6 TLots B N q V n n wr) ∧ Hid (Grs 46 23 6 TLots B w.heap.size gb q V (fun j => n j + 64) (fun j => n j + 64) q wr) ∧ Hid (Out q V w wr)) (fun s9 _ => q - (intOf s9).toNat)
  case atStart => exact ⟨0, rfl, by omega, ha, hgr, hout⟩
  case round =>
    clear ha hgr hout
    obtain ⟨w5, rfl⟩ : ∃ z, z = wr := ⟨_, rfl⟩
    obtain ⟨p, rfl, hp, ha, hgr, hout⟩ := hrel
    by_cases hpk : p < q
    · obtain ⟨g, c, Y, hgc, hgo, hgT⟩ := hgr.out.cell hpk hpk
      obtain ⟨a9, c9, e9, hcc1, hcc2, -⟩ := rows_form hgo
      cases e9
      have hnm := HF.out p hpk
      obtain ⟨a6, c6, hv6, hcd1, hcd2, hsome6⟩ := ha.out.split hpk
      obtain ⟨X6, hop6, hT6⟩ := ha.out.own p hpk
      obtain ⟨nk, hnk⟩ : ∃ m, m = n p := ⟨_, rfl⟩
      rw [← hnk] at hgc hgo hgT hcc1 hnm hv6 hcd1 hsome6 hop6 hT6
      have Hgc := Lib.hid hgc
      have Hgo := Lib.hid hgo
      have HgT := Lib.hid hgT
      have HV6 := Lib.hid hv6
      have Hsome6 := Lib.hid hsome6
      have hcl6 := (hout.out.cell (p := ⟨lb, p, none⟩) (fun j hj => ha.out.ne hj hlb1) hlb2).trans (HLS.out p hpk)
      rw [hv6] at hcl6 hop6
      have Hcl6 := Lib.hid hcl6
      have Hop6 := Lib.hid hop6
      have HT6 := Lib.hid hT6
      have hszr : gb < w5.heap.size ∧ lb < w5.heap.size := ⟨hgr.out.row.2, Nat.lt_of_lt_of_le hlb2 hout.out.size⟩
      obtain ⟨hsz1, hsz2⟩ := hszr
      clear hv6 hsome6 hcl6 hop6 hT6 hgo hgT hnk
      go_wp2_with (fail)
      go_loopw [10] (fun s10 wx => ∃ j : Nat, s10 = .int .i64 j ∧ j ≤ nk + 64 ∧ Hid (Below w5.heap.size w5 wx)) (fun s10 _ => nk + 64 - (intOf s10).toNat)
      case atStart => exact ⟨0, rfl, by omega, Lib.hid (Below.refl _ _)⟩
      case round =>
        clear hgc
        obtain ⟨j, rfl, hj, hb⟩ := hrel
        have hgc := (hb.out.cell (p := ⟨gb, p, none⟩) hsz1).trans Hgc.out
        have hszx := hb.out.size
        by_cases hjn : j < nk + 64
        · have hg7 := (row_lt Hgo.out).2
          have hmk := fun W => markLot_K p j W (by omega) (by omega)
          by_cases hjk : j < nk
          · obtain ⟨g', rfl⟩ := Hsome6.out (by omega)
            have hg8 := (row_lt Hop6.out).2
            have hd1 : decide ((j : Int) < (nk : Int)) = true := decide_eq_true (by omega)
            have hd2 : decide (j < nk) = true := decide_eq_true hjk
            obtain ⟨k0, k1, k2, k3, k4, k5⟩ := HgT.out j (by omega)
            have k0 := (Hgo.out.cellAt (j * 6) (by omega)).trans k0
            have k1 := (Hgo.out.cellAt (j * 6 + 1) (by omega)).trans k1
            have k2 := (Hgo.out.cellAt (j * 6 + 2) (by omega)).trans k2
            have k3 := (Hgo.out.cellAt (j * 6 + 3) (by omega)).trans k3
            have k4 := (Hgo.out.cellAt (j * 6 + 4) (by omega)).trans k4
            have k5 := (Hgo.out.cellAt (j * 6 + 5) (by omega)).trans k5
            obtain ⟨l0, l1, l2, l3, l4, l5⟩ := HT6.out j (by omega)
            have l0 := (Hop6.out.cellAt (j * 6) (by omega)).trans l0
            have l1 := (Hop6.out.cellAt (j * 6 + 1) (by omega)).trans l1
            have l2 := (Hop6.out.cellAt (j * 6 + 2) (by omega)).trans l2
            have l3 := (Hop6.out.cellAt (j * 6 + 3) (by omega)).trans l3
            have l4 := (Hop6.out.cellAt (j * 6 + 4) (by omega)).trans l4
            have l5 := (Hop6.out.cellAt (j * 6 + 5) (by omega)).trans l5
            generalize ((markN p j : Nat) : Int) = m at k0 hmk l0
            have HC : ∀ (b o : Nat) (u : Value), b < w5.heap.size → w5.cell? ⟨b, o, none⟩ = some u → ∀ y : BelowW wr, y.v.cell? ⟨b, o, none⟩ = some u := fun b o u h1 h2 y => (y.h.cell (by show b < wr.heap.size; omega)).trans ((hb.out.cell (by exact h1)).trans h2)
            have f0 := HC gb p _ hsz1 Hgc.out
            have fg0 := HC g (j * 6) _ hg7 k0
            have fg1 := HC g (j * 6 + 1) _ hg7 k1
            have fg2 := HC g (j * 6 + 2) _ hg7 k2
            have fg3 := HC g (j * 6 + 3) _ hg7 k3
            have fg4 := HC g (j * 6 + 4) _ hg7 k4
            have fg5 := HC g (j * 6 + 5) _ hg7 k5
            have f3 := HC lb p _ hsz2 Hcl6.out
            have fl0 := HC g' (j * 6) _ hg8 l0
            have fl1 := HC g' (j * 6 + 1) _ hg8 l1
            have fl2 := HC g' (j * 6 + 2) _ hg8 l2
            have fl3 := HC g' (j * 6 + 3) _ hg8 l3
            have fl4 := HC g' (j * 6 + 4) _ hg8 l4
            have fl5 := HC g' (j * 6 + 5) _ hg8 l5
            clear HC k0 k1 k2 k3 k4 k5 l0 l1 l2 l3 l4 l5
            have heq : ∀ w : World, (Op.equalIn 10000 46 (.agg #[.int .i64 m, .string ⟨#[]⟩, .int .i64 0, .int .i64 0, .int .i64 0, .bool false]) (.agg #[.int .i64 m, .string ⟨#[]⟩, .int .i64 0, .int .i64 0, .int .i64 0, .bool false])).run Tryz.prog w = .ok true w := fun w => eqLot_self m [] 0 0 0 false w
            obtain ⟨sv, hsv⟩ : ∃ z, z = Value.string ⟨#[]⟩ := ⟨_, rfl⟩
            simp only [← hsv] at heq hmk fg1 fl1
            clear hsv
            obtain ⟨zv, hzv⟩ : ∃ z, z = Value.int .i64 0 := ⟨_, rfl⟩
            simp only [← hzv] at heq hmk fg2 fg3 fg4 fl2 fl3 fl4
            clear hzv
            obtain ⟨bv, hbv⟩ : ∃ z, z = Value.bool false := ⟨_, rfl⟩
            simp only [← hbv] at heq hmk fg5 fl5
            clear hbv
            have HM : Tryz.prog.eqGuardType Tryz.prog.depth 46 = false := by kernel_rfl
            go_wp2_with (fail)
            refine wp_region_below wr (by kernel_rfl) (by kernel_rfl) (Below.refl _ _) ?_
            repeat (first | (go_big_quiet_want; refine quiet_eql _ _ true rfl rfl HM heq ?_; go_big_quiet_op; go_big_quiet_on) | go_big_quiet_step ((go_at_call 43; exact below_call (hmk _))))
            refine wpQuiet_nil ?_
            intro _ hw'
            obtain ⟨y, hw''⟩ := hw'
            subst hw''
            clear f0 f3 fg0 fg1 fg2 fg3 fg4 fg5 fl0 fl1 fl2 fl3 fl4 fl5
            go_wp2_with (fail)
            go_roundw
            case rel => exact ⟨j + 1, by go_num, by omega, Lib.hid (hb.out.trans (y.h.mono hszx))⟩
            case measure => simp [intOf]; omega
          · have hd1 : decide ((j : Int) < (nk : Int)) = false := decide_eq_false (by omega)
            have hd2 : decide (j < nk) = false := decide_eq_false hjk
            obtain ⟨k0, k1, k2, k3, k4, k5⟩ := HgT.out j (by omega)
            have k0 := (Hgo.out.cellAt (j * 6) (by omega)).trans k0
            have k1 := (Hgo.out.cellAt (j * 6 + 1) (by omega)).trans k1
            have k2 := (Hgo.out.cellAt (j * 6 + 2) (by omega)).trans k2
            have k3 := (Hgo.out.cellAt (j * 6 + 3) (by omega)).trans k3
            have k4 := (Hgo.out.cellAt (j * 6 + 4) (by omega)).trans k4
            have k5 := (Hgo.out.cellAt (j * 6 + 5) (by omega)).trans k5
            generalize ((markN p j : Nat) : Int) = m at k0 hmk
            have HC : ∀ (b o : Nat) (u : Value), b < w5.heap.size → w5.cell? ⟨b, o, none⟩ = some u → ∀ y : BelowW wr, y.v.cell? ⟨b, o, none⟩ = some u := fun b o u h1 h2 y => (y.h.cell (by show b < wr.heap.size; omega)).trans ((hb.out.cell (by exact h1)).trans h2)
            have f0 := HC gb p _ hsz1 Hgc.out
            have fg0 := HC g (j * 6) _ hg7 k0
            have fg1 := HC g (j * 6 + 1) _ hg7 k1
            have fg2 := HC g (j * 6 + 2) _ hg7 k2
            have fg3 := HC g (j * 6 + 3) _ hg7 k3
            have fg4 := HC g (j * 6 + 4) _ hg7 k4
            have fg5 := HC g (j * 6 + 5) _ hg7 k5
            have f3 := HC lb p _ hsz2 Hcl6.out
            clear HC k0 k1 k2 k3 k4 k5
            have heq : ∀ w : World, (Op.equalIn 10000 46 (.agg #[.int .i64 m, .string ⟨#[]⟩, .int .i64 0, .int .i64 0, .int .i64 0, .bool false]) (.agg #[.int .i64 m, .string ⟨#[]⟩, .int .i64 0, .int .i64 0, .int .i64 0, .bool false])).run Tryz.prog w = .ok true w := fun w => eqLot_self m [] 0 0 0 false w
            obtain ⟨sv, hsv⟩ : ∃ z, z = Value.string ⟨#[]⟩ := ⟨_, rfl⟩
            simp only [← hsv] at heq hmk fg1
            clear hsv
            obtain ⟨zv, hzv⟩ : ∃ z, z = Value.int .i64 0 := ⟨_, rfl⟩
            simp only [← hzv] at heq hmk fg2 fg3 fg4
            clear hzv
            obtain ⟨bv, hbv⟩ : ∃ z, z = Value.bool false := ⟨_, rfl⟩
            simp only [← hbv] at heq hmk fg5
            clear hbv
            have HM : Tryz.prog.eqGuardType Tryz.prog.depth 46 = false := by kernel_rfl
            go_wp2_with (fail)
            refine wp_region_below wr (by kernel_rfl) (by kernel_rfl) (Below.refl _ _) ?_
            repeat (first | (go_big_quiet_want; refine quiet_eql _ _ true rfl rfl HM heq ?_; go_big_quiet_op; go_big_quiet_on) | go_big_quiet_step ((go_at_call 43; exact below_call (hmk _))))
            refine wpQuiet_nil ?_
            intro _ hw'
            obtain ⟨y, hw''⟩ := hw'
            subst hw''
            clear f0 f3 fg0 fg1 fg2 fg3 fg4 fg5
            go_wp2_with (fail)
            go_roundw
            case rel => exact ⟨j + 1, by go_num, by omega, Lib.hid (hb.out.trans (y.h.mono hszx))⟩
            case measure => simp [intOf]; omega
        · have y1 := Lib.hid (ha.out.below St.out hb.out)
          have y2 := Lib.hid (hgr.out.below St.out hb.out)
          have y3 := Lib.hid (hout.out.below hb.out)
          go_wp2_with (fail)
          go_roundw
          case rel => exact ⟨p + 1, by go_num, by omega, y1, y2, y3⟩
          case measure => simp [intOf]; omega
    · have ep : p = q := by omega
      subst ep
      have hgr0 : Hid (Grs 46 23 6 TLots B w.heap.size gb p V (fun j => n j + 64) n 0 w5) := Lib.hid (hgr.out.none _ _)
      clear hgr
      go_upto_region 19 with (fail)
      iterate 22 go_step
      exact flatLots_c5 B N p cK lb gb V n w _ HBN ha0N hK hc1 hc2 hlb1 hlb2 HLS HF ha hgr0 hout _ _ _ _ _ _ _ _ _ _ _ _ _ _ _ _ _ _ _ _ _ _ _ _ _ _ _ _ _ _ _ _ _ _ _ _ _ _ _ _ _ _ _ _ _ _ _ _ _ _ _ _ _ _ _ _ _ _ _ _ _ _ _ _ _ _ _ _ _ _ _ _ _ _ _ _ _ _ _ _ _ _ _ _ _ _ _ _ _ _ _ _ _ _ _ _ _ _ _ _ _ _ _ _ _ _ _ _ _ _ _ _ _ _ _ _ _ _ _ _ _ _ _ _ _ _ _ _ _ _ _ _ _ _ _ _ _ _ _ _ _ _ _ _ _ _ _ _ _ _ _ _ _ _ _ _ _ _ _ _ _ _ _ _ _ _ _ _ _ _ _ _ _ _ _ _ _ _ _ _ _ _ _ _ _ _ _ _ _ _ _

set_option maxHeartbeats 8000000 in
set_option maxRecDepth 100000 in
theorem flatLots_any (B N K cK lb : Nat) (V : Nat → Value) (n : Nat → Nat) (w : World) (hBN : B ≤ N) (hA : Ap 46 6 TLots B N K V n (fun _ => 0) w) (hK : K ≤ 100000) (hc : K ≤ cK ∧ cK ≤ 9223372036854775807) (hlb : N ≤ lb ∧ lb < w.heap.size)
    (hls : ∀ k, k < K → w.cell? ⟨lb, k, none⟩ = some (V k)) (hF : ∀ k, k < K → n k ≤ 1000000) :
    Calls Tryz.prog 73 #[.slice (some ⟨lb, 0, none⟩) K cK] w fun e w' => e = .returned (.bool true) ∧ Out K V w w' := by
  obtain ⟨hc1, hc2⟩ := hc
  obtain ⟨hlb1, hlb2⟩ := hlb
  have HA := Lib.hid hA
  have HBN := Lib.hid hBN
  clear hBN
  have ha0N := Lib.hid hA.size
  have HLS := Lib.hid hls
  have HF := Lib.hid hF
  have St : Hid (Stab 46 23 TLots) := Lib.hid TLots_stab
  clear hA hls hF
  obtain ⟨i1, hi, hz0, hz1, hz2⟩ := info_parts (P := Tryz.prog) (e := 23) (z := .slice none 0 0) (size := 1) (bytes := 24) (by kernel_rfl)
  have Hi := Lib.hid hi
  have Hz0 := Lib.hid hz0
  have Hz1 := Lib.hid hz1
  have hb0 : i1.bytes * K ≤ 281474976710656 := by rw [hz2]; omega
  have Hb0 := Lib.hid hb0
  clear hi hz0 hz1 hz2 hb0
  obtain ⟨i0, hi, hz0, hz1, hz2⟩ := info_parts (P := Tryz.prog) (e := 46) (z := (Value.agg #[.int .i64 0, .string ⟨#[]⟩, .int .i64 0, .int .i64 0, .int .i64 0, .bool false])) (size := 6) (bytes := 56) (by kernel_rfl)
  have Hi2 := Lib.hid hi
  have Hz02 := Lib.hid hz0
  have Hz12 := Lib.hid hz1
  have hb02 : i0.bytes * 64 ≤ 281474976710656 := by rw [hz2]; omega
  have Hb02 := Lib.hid hb02
  have Hby : Hid (i0.bytes = 56) := Lib.hid hz2
  clear hi hz0 hz1 hz2 hb02
  go_enter Tryz.func73, Tryz.ntmps73
  go_wp2_with (fail)
  go_loopw [3] (fun s3 wr => ∃ k : Nat, s3 = .int .i64 k ∧ k ≤ K ∧ Hid (Ap 46 6 TLots B N K V n (fun j => if j < k then n j else 0) wr) ∧ Hid (Out K V w wr)) (fun s3 _ => K - (intOf s3).toNat)
  case atStart => exact ⟨0, rfl, by omega, Lib.hid (HA.out.congr fun j _ => by simp), Lib.hid (Out.refl _ _ _)⟩
  case round =>
    obtain ⟨k, rfl, hk, ha, hout⟩ := hrel
    by_cases hkn : k < K
    · have hcl := (hout.out.cell (p := ⟨lb, k, none⟩) (fun j hj => ha.out.ne hj hlb1) hlb2).trans (HLS.out k hkn)
      have hFk := HF.out k hkn
      obtain ⟨a, c, hv, hcc1, hcc2, hsome⟩ := ha.out.split hkn
      obtain ⟨nk, hnk⟩ : ∃ m, m = n k := ⟨_, rfl⟩
      rw [← hnk] at hFk hv hcc1 hsome
      have Hnk := Lib.hid hnk
      have HV := Lib.hid hv
      have Hsome := Lib.hid hsome
      have HA0 : Hid (Ap 46 6 TLots B N K V n (fun j => if j < k then n j else if j = k then 0 else 0) wr) := Lib.hid (ha.out.congr fun j hj => by simp)
      rw [hv] at hcl
      clear hv hsome hnk ha
      go_wp2_with (fail)
      go_loopw [4] (fun s4 wx => ∃ i : Nat, s4 = .int .i64 i ∧ i ≤ nk ∧ Hid (Ap 46 6 TLots B N K V n (fun j => if j < k then n j else if j = k then i else 0) wx) ∧ Hid (Out K V w wx)) (fun s4 _ => nk - (intOf s4).toNat)
      case atStart => exact ⟨0, rfl, by omega, HA0, hout⟩
      case round =>
        clear hcl hout HA0
        obtain ⟨i, rfl, hi, ha, hout⟩ := hrel
        have hcl := (hout.out.cell (p := ⟨lb, k, none⟩) (fun j hj => ha.out.ne hj hlb1) hlb2).trans (HLS.out k hkn)
        rw [HV.out] at hcl
        by_cases hin : i < nk
        · obtain ⟨g, rfl⟩ := Hsome.out (by omega)
          have hgb := ha.out.lt k hkn g (by rw [HV.out]; rfl)
          have hne : g ≠ lb := by omega
          have hne2 : lb ≠ g := by omega
          have hsz := hout.out.size
          have hmk := fun W => markLot_K k i W (by omega) (by omega)
          have Hfun := Lib.hid (fun (wm : World) (hbm : Below wr.drew.heap.size wr.drew wm) => by
            have hb : Below wr.heap.size wr wm := ((Below.refl _ wr).drew).trans hbm
            have h1 := ha.out.below St.out hb
            obtain ⟨X, h2, h3⟩ := h1.own k hkn
            rw [← Hnk.out, HV.out] at h2
            rw [if_neg (Nat.lt_irrefl k), if_pos rfl] at h3
            exact (⟨h1, ⟨X, h2, h3⟩, (⟨rowc_at h2 (k := i * 6) (by omega), rowc_at h2 (k := i * 6 + 1) (by omega), rowc_at h2 (k := i * 6 + 2) (by omega), rowc_at h2 (k := i * 6 + 3) (by omega), rowc_at h2 (k := i * 6 + 4) (by omega), rowc_at h2 (k := i * 6 + 5) (by omega)⟩ : _ ∧ _ ∧ _ ∧ _ ∧ _ ∧ _), hout.out.below hb, (hb.cell (p := ⟨lb, k, none⟩) (by show lb < wr.heap.size; omega)).trans hcl⟩ : _ ∧ (∃ X, wm.ownsRow B 46 6 (.slice (some ⟨g, 0, none⟩) nk c) nk X ∧ TLots wm X k i) ∧ _ ∧ _ ∧ _))
          obtain ⟨m, hm⟩ : ∃ m : Int, m = ((markN k i : Nat) : Int) := ⟨_, rfl⟩
          have Hm := Lib.hid hm
          simp only [← hm] at hmk
          clear hm
          go_wp2_with (fail)
          go_region_held3 (fun w' => w'.cell? ⟨lb, k, none⟩ = some (.slice (some ⟨g, 0, none⟩) nk c)) (first | go_keep | assumption) ((go_at_call 43; refine (hmk _).mono ?_; rintro e wm ⟨rfl, hbm⟩; obtain ⟨q1, q2, ⟨⟨⟨c0, d0⟩, f0⟩, ⟨⟨c1, d1⟩, f1⟩, ⟨⟨c2, d2⟩, f2⟩, ⟨⟨c3, d3⟩, f3⟩, ⟨⟨c4, d4⟩, f4⟩, ⟨⟨c5, d5⟩, f5⟩⟩, q4, q5⟩ := Hfun.out wm hbm; have Hq1 := Lib.hid q1; have Hq2 := Lib.hid q2; have Hq4 := Lib.hid q4; clear q1 q2 q4 hbm))
          have HA1 : Hid (Ap 46 6 TLots B N K V n (fun j => if j < k then n j else if j = k then i + 1 else 0) ((((((wm.setCell ⟨g, i * 6, none⟩ (.int .i64 m)).setCell ⟨g, i * 6 + 1, none⟩ (.string ⟨#[]⟩)).setCell ⟨g, i * 6 + 2, none⟩ (.int .i64 0)).setCell ⟨g, i * 6 + 3, none⟩ (.int .i64 0)).setCell ⟨g, i * 6 + 4, none⟩ (.int .i64 0)).setCell ⟨g, i * 6 + 5, none⟩ (.bool false))) := Lib.hid (by
            obtain ⟨X, x1, x2⟩ := Hq2.out
            have h3 := Hq1.out.grow St.out hkn (w' := ((((((wm.setCell ⟨g, i * 6, none⟩ (.int .i64 m)).setCell ⟨g, i * 6 + 1, none⟩ (.string ⟨#[]⟩)).setCell ⟨g, i * 6 + 2, none⟩ (.int .i64 0)).setCell ⟨g, i * 6 + 3, none⟩ (.int .i64 0)).setCell ⟨g, i * 6 + 4, none⟩ (.int .i64 0)).setCell ⟨g, i * 6 + 5, none⟩ (.bool false))) (i := i + 1) (by rw [HV.out]; exact (grown_trans (grown_trans (grown_trans (grown_trans (grown_trans (grown_one wm g (i * 6) _) (grown_one _ g (i * 6 + 1) _)) (grown_one _ g (i * 6 + 2) _)) (grown_one _ g (i * 6 + 3) _)) (grown_one _ g (i * 6 + 4) _)) (grown_one _ g (i * 6 + 5) _))) (by rw [HV.out, ← Hnk.out]; exact (row_set (row_set (row_set (row_set (row_set (row_set x1 (i * 6) _) (i * 6 + 1) _) (i * 6 + 2) _) (i * 6 + 3) _) (i * 6 + 4) _) (i * 6 + 5) _)) (by rw [Hm.out]; exact TLots_set x2 (by rw [x1.1]; omega))
            exact h3.congr fun j hj => by
              by_cases e : j = k
              · rw [if_pos e, if_neg (by omega), if_pos e]
              · rw [if_neg e]
                simp [e])
          have HO1 : Hid (Out K V w ((((((wm.setCell ⟨g, i * 6, none⟩ (.int .i64 m)).setCell ⟨g, i * 6 + 1, none⟩ (.string ⟨#[]⟩)).setCell ⟨g, i * 6 + 2, none⟩ (.int .i64 0)).setCell ⟨g, i * 6 + 3, none⟩ (.int .i64 0)).setCell ⟨g, i * 6 + 4, none⟩ (.int .i64 0)).setCell ⟨g, i * 6 + 5, none⟩ (.bool false))) := Lib.hid (Hq4.out.grown (r := some g) (grown_trans (grown_trans (grown_trans (grown_trans (grown_trans (grown_one wm g (i * 6) _) (grown_one _ g (i * 6 + 1) _)) (grown_one _ g (i * 6 + 2) _)) (grown_one _ g (i * 6 + 3) _)) (grown_one _ g (i * 6 + 4) _)) (grown_one _ g (i * 6 + 5) _)) fun b e => by
            cases e
            exact .inl ⟨k, hkn, by rw [HV.out]; rfl⟩)
          go_wp2_with (fail)
          go_roundw
          case rel => exact ⟨i + 1, by go_num, by omega, HA1, HO1⟩
          case measure => simp [intOf]; omega
        · have ei : i = nk := by omega
          have HA2 : Hid (Ap 46 6 TLots B N K V n (fun j => if j < k + 1 then n j else 0) wr) := Lib.hid (ha.out.congr fun j hj => by
            by_cases e : j = k
            · rw [if_pos (by omega), if_neg (by omega), if_pos e, ei, Hnk.out, e]
            · by_cases e2 : j < k
              · rw [if_pos (by omega), if_pos e2]
              · rw [if_neg (by omega), if_neg e2, if_neg e])
          clear ei
          go_wp2_with (fail)
          go_roundw
          case rel => exact ⟨k + 1, by go_num, by omega, HA2, hout⟩
          case measure => simp [intOf]; omega
    · have ek : k = K := by omega
      subst ek
      have HA3 : Hid (Ap 46 6 TLots B N k V n n wr) := Lib.hid (ha.out.congr fun j hj => by rw [if_pos hj])
      clear ha
      obtain ⟨gb, hgb⟩ : ∃ z, z = wr.heap.size := ⟨_, rfl⟩
      have Hgb := Lib.hid hgb
      clear hgb
      go_wp2_with (refine wpList_make_full wr rfl _ _ 81 rfl w.heap.size 23 i1 (.slice none 0 0) 1 Tryz.underlying81 Hi.out Hz0.out Hz1.out .i64 .i64 _ _ k rfl rfl rfl rfl Hb0.out (by simp only [maxLen]; omega) hout.out.size ?_; intro w1 hown1 hg1; rw [← Hgb.out] at hown1 ⊢; have HG1 : Hid (Grs 46 23 6 TLots B w.heap.size gb k V (fun j => n j + 64) (fun j => n j + 64) 0 w1) := Lib.hid ⟨_, by simpa using hown1.1, hown1, fun j hj => absurd hj (Nat.not_lt_zero _)⟩; have HA5 := Lib.hid (HA3.out.new St.out hg1 (fun b e => by cases e) (Fr.grown hg1 (fun b e => by cases e))); have HO4 := Lib.hid (hout.out.grown hg1 (fun b e => by cases e)); clear hown1 hg1)
      clear HA3 hout HA
      have hsz1 := HO4.out.size
      go_loopw [6] (fun s6 wk => ∃ q : Nat, s6 = .int .i64 q ∧ q ≤ k ∧ Hid (Ap 46 6 TLots B N k V n n wk) ∧ Hid (Grs 46 23 6 TLots B w.heap.size gb k V (fun j => n j + 64) (fun j => n j + 64) q wk) ∧ Hid (Out k V w wk)) (fun s6 _ => k - (intOf s6).toNat)
      case atStart => exact ⟨0, rfl, by omega, HA5, HG1, HO4⟩
      case round =>
        clear HA5 HG1 HO4 hsz1
        obtain ⟨wk, rfl⟩ : ∃ z, z = wr := ⟨_, rfl⟩
        obtain ⟨q, rfl, hq, ha, hgr, hout⟩ := hrel
        by_cases hqk : q < k
        · have hnm := HF.out q hqk
          obtain ⟨a, c, hv, hcc1, hcc2, hsome⟩ := ha.out.split hqk
          obtain ⟨X0, hown0, hT0⟩ := ha.out.own q hqk
          obtain ⟨nk, hnk⟩ : ∃ m, m = n q := ⟨_, rfl⟩
          rw [← hnk] at hnm hv hcc1 hsome hown0 hT0
          have HV := Lib.hid hv
          have Hsome := Lib.hid hsome
          have HOW : Hid (∃ X, wk.ownsRow B 46 6 (V q) nk X ∧ TLots wk X q nk) := Lib.hid ⟨X0, hown0, hT0⟩
          have Hnk := Lib.hid hnk
          have hcl := (hout.out.cell (p := ⟨lb, q, none⟩) (fun j hj => ha.out.ne hj hlb1) hlb2).trans (HLS.out q hqk)
          rw [hv] at hcl
          clear hv hsome hnk hown0 hT0
          go_wp2_with (fail)
          go_loopw [7, 8] (fun s7 s8 wx => ∃ (i : Nat) (a7 : Option Addr) (c7 : Nat), s8 = .int .i64 i ∧ s7 = .slice a7 (nk + i) c7 ∧ i ≤ 64 ∧ Hid (∃ X, wx.ownsRow B 46 6 (.slice a7 (nk + i) c7) (nk + i) X ∧ TLots wx X q (nk + i)) ∧ Hid (∀ b, (Value.slice a7 (nk + i) c7).ownBlock = some b → (V q).ownBlock = some b ∨ wk.heap.size ≤ b) ∧ Hid (Ap 46 6 TLots B N k V n n wx) ∧ Hid (Out k V w wx) ∧ Hid (Kp wk.heap.size (V q) wk wx) ∧ Hid (Fr 46 23 wk wx)) (fun _ s8 _ => 64 - (intOf s8).toNat)
          case atStart => exact ⟨0, a, c, rfl, rfl, by omega, by rw [Nat.add_zero, ← HV.out]; exact HOW, Lib.hid (fun b e => .inl (by rw [HV.out]; exact e)), ha, hout, Lib.hid Kp.refl, Lib.hid (Fr.refl _ _ _)⟩
          case round =>
            clear hcl
            obtain ⟨wx, rfl⟩ : ∃ z, z = wr := ⟨_, rfl⟩
            obtain ⟨i, a7, c7, rfl, rfl, hi, ho, hblk, ha2, hout2, hkp, hfr⟩ := hrel
            have hcl := (hout2.out.cell (p := ⟨lb, q, none⟩) (fun j hj => ha.out.ne hj hlb1) hlb2).trans (HLS.out q hqk)
            rw [HV.out] at hcl
            have hgeB : B ≤ wx.heap.size := by have := ha2.out.size; have := HBN.out; omega
            by_cases hin : i < 64
            · have hmk := fun W => markLot_K q (nk + i) W (by omega) (by omega)
              simp only [Int.natCast_add] at hmk
              obtain ⟨m, hm⟩ : ∃ m : Int, m = ((markN q (nk + i) : Nat) : Int) := ⟨_, rfl⟩
              have Hm := Lib.hid hm
              simp only [← hm] at hmk
              clear hm
              have Hfun := Lib.hid (fun (wm : World) (hbm : Below wx.heap.size wx wm) (c : Array Value) => by
                have hb := hbm.alloc hbm.size (.cells c 46)
                obtain ⟨X, h2, h3⟩ := ho.out
                exact (⟨⟨X, rows_below h2 hb, St.out.st (Fr.below hb) h3⟩, ha2.out.below St.out hb, hout2.out.below hb, hkp.out.below hb, hfr.out.trans (Fr.below hb), Nat.le_trans hgeB hb.size⟩ : (∃ X, (wm.alloc (.cells c 46)).ownsRow B 46 6 (.slice a7 (nk + i) c7) (nk + i) X ∧ TLots (wm.alloc (.cells c 46)) X q (nk + i)) ∧ _ ∧ _ ∧ _ ∧ _ ∧ _))
              have i7 := wrap_in (x := (nk : Int) + (i : Int)) (by omega) (by omega)
              clear ho hgeB
              go_wp2_with (first | (go_at_call 43; refine (hmk _).mono ?_; rintro e wm ⟨rfl, hbm⟩; obtain ⟨z1, z2, z3, z4, z4b, z5⟩ := Hfun.out wm hbm #[.int .i64 m, .string ⟨#[]⟩, .int .i64 0, .int .i64 0, .int .i64 0, .bool false]; have Z1 := Lib.hid z1; have Z2 := Lib.hid z2; have Z3 := Lib.hid z3; have Z4 := Lib.hid z4; have Z4b := Lib.hid z4b; have Z5 := Lib.hid z5; clear z1 z2 z3 z4 z4b z5; skip; clear hbm) | (at_builtin; obtain ⟨X1, x1, x2⟩ := Z1.out; refine wpList_append_keepCW rfl _ _ 23 rfl 46 i0 (Value.agg #[.int .i64 0, .string ⟨#[]⟩, .int .i64 0, .int .i64 0, .int .i64 0, .bool false]) Tryz.underlying23 Hi2.out Hz02.out Hz12.out rfl rfl x1 _ 1 rfl ⟨_, rfl, lst_src wm [.int .i64 m, .string ⟨#[]⟩, .int .i64 0, .int .i64 0, .int .i64 0, .bool false] _⟩ (by intro u hu; simp only [List.mem_cons, List.not_mem_nil, or_false] at hu; rcases hu with rfl | rfl | rfl | rfl | rfl | rfl <;> rfl) rfl (by decide) Z5.out (by rw [Hby.out]; omega) (by omega) ?_; intro g4 c4 w4 ho4 hov4 hg4 hb4; have X2 := Lib.hid x2; have X1o := Lib.hid x1; have O4 := Lib.hid ho4; have OV4 := Lib.hid hov4; have G4 := Lib.hid hg4; have B4 := Lib.hid hb4; clear ho4 hov4 hg4 hb4 x1 x2))
              have F4 : Hid (Fr 46 23 (wm.alloc (.cells #[.int .i64 m, .string ⟨#[]⟩, .int .i64 0, .int .i64 0, .int .i64 0, .bool false] 46)) w4) := Lib.hid (Fr.own G4.out X1o.out)
              have O5 : Hid (∃ X, w4.ownsRow B 46 6 (.slice (some ⟨g4, 0, none⟩) (nk + (i + 1)) c4) (nk + (i + 1)) X ∧ TLots w4 X q (nk + (i + 1))) := Lib.hid ⟨_, O4.out, (by rw [Hm.out]; exact TLots_app (TLots_stab.st F4.out X2.out) X1o.out.1)⟩
              have B5 : Hid (∀ b, (Value.slice (some ⟨g4, 0, none⟩) (nk + (i + 1)) c4).ownBlock = some b → (V q).ownBlock = some b ∨ wk.heap.size ≤ b) := Lib.hid (fun b e => by
                cases e
                rcases B4.out with h | h
                · exact hblk.out _ h
                · exact .inr (by rw [h]; exact Z4.out.size))
              have A5 : Hid (Ap 46 6 TLots B N k V n n w4) := Lib.hid (Z2.out.keepgrow St.out (by decide) hqk X1o.out (by rw [← Hnk.out]; omega) (fun b e => (hblk.out b e).imp id (fun h => by have := ha.out.size; omega)) G4.out OV4.out)
              have T5 : Hid (Out k V w w4) := Lib.hid (Z3.out.grown G4.out (fun b e => by
                rcases hblk.out b e with h | h
                · exact .inl ⟨q, hqk, h⟩
                · exact .inr (Nat.le_trans hout.out.size h)))
              have K5 : Hid (Kp wk.heap.size (V q) wk w4) := Lib.hid (Z4.out.grown G4.out hblk.out)
              have F5 : Hid (Fr 46 23 wk w4) := Lib.hid (Z4b.out.trans F4.out)
              go_roundw
              case rel => exact ⟨i + 1, some ⟨g4, 0, none⟩, c4, by go_num, rfl, by omega, O5, B5, A5, T5, K5, F5⟩
              case measure => simp [intOf]; omega
            · have ei : i = 64 := by omega
              subst ei
              have hgr2 := hgr.out.keep St.out ha.out hqk ha0N.out hfr.out hkp.out.block
              obtain ⟨⟨u0, hu0⟩, hfz⟩ := hgr2.slot hqk
              have Hgr2 := Lib.hid hgr2
              clear hgr2
              obtain ⟨g7, e7⟩ : ∃ g, a7 = some ⟨g, 0, none⟩ := by
                obtain ⟨X, h1, -⟩ := ho.out
                obtain ⟨a, c, e1, -, -, e4⟩ := rows_form h1
                cases e1
                exact e4 (by omega)
              subst e7
              have hgbb : w.heap.size ≤ gb ∧ gb < wk.heap.size := hgr.out.row
              have HP : Hid (Grs 46 23 6 TLots B w.heap.size gb k V (fun j => n j + 64) (fun j => n j + 64) (q + 1) (wx.setCell ⟨gb, q, none⟩ (.slice (some ⟨g7, 0, none⟩) (nk + 64) c7))) := Lib.hid (by
                have hx : (V q).ownBlock = some g7 ∨ w.heap.size ≤ g7 := (hblk.out g7 rfl).imp id (fun h => Nat.le_trans hout.out.size h)
                have hy : g7 ≠ gb := by
                  rcases hblk.out g7 rfl with h | h
                  · have := ha.out.lt q hqk g7 h; have := ha0N.out; omega
                  · omega
                obtain ⟨X, h1, h2⟩ := ho.out
                rw [Hnk.out] at h1 h2 ⊢
                exact Hgr2.out.put St.out hqk h1 h2 hx hy)
              have HAp : Hid (Ap 46 6 TLots B N k V n n (wx.setCell ⟨gb, q, none⟩ (.slice (some ⟨g7, 0, none⟩) (nk + 64) c7))) := Lib.hid (ha2.out.new St.out (grown_one wx gb q _) (fun b e => by cases e; exact Nat.le_trans ha0N.out hgbb.1) (Hgr2.out.fr q _))
              have HOu : Hid (Out k V w (wx.setCell ⟨gb, q, none⟩ (.slice (some ⟨g7, 0, none⟩) (nk + 64) c7))) := Lib.hid (hout2.out.grown (grown_one wx gb q _) (fun b e => by cases e; exact .inr hgbb.1))
              go_wp2_with (fail)
              go_roundw
              case rel => exact ⟨q + 1, by go_num, by omega, HAp, HP, HOu⟩
              case measure => simp [intOf]; omega
        · have eq : q = k := by omega
          subst eq
          go_upto_region 10 with (fail)
          iterate 22 go_step
          exact flatLots_c4 B N q cK lb gb V n w _ HBN ha0N hK hc1 hc2 hlb1 hlb2 HLS HF ha hgr hout _ _ _ _ _ _ _ _ _ _ _ _ _ _ _ _ _ _ _ _ _ _ _ _ _ _ _ _ _ _ _ _ _ _ _ _ _ _ _ _ _ _ _ _ _ _ _ _ _ _ _ _ _ _ _ _ _ _ _ _ _ _ _ _ _ _ _ _ _ _ _ _ _ _ _ _ _ _ _ _ _ _ _ _ _ _ _ _ _ _ _ _ _ _ _ _ _ _ _ _ _ _ _ _ _ _ _ _ _ _ _ _ _ _ _ _ _ _ _ _ _ _ _ _ _ _ _ _ _ _ _ _ _ _ _ _ _ _ _ _ _ _ _ _ _ _ _ _ _ _ _ _ _ _ _ _ _ _ _ _ _ _ _ _ _ _ _ _ _ _ _ _ _ _ _ _ _ _ _ _ _ _ _ _ _ _ _ _ _ _ _
end Go.Proofs.YtbedbhlebfnohaaGreat.Tx
