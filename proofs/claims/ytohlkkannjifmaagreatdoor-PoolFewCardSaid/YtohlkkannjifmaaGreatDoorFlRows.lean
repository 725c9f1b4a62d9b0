/- The walk of storemankit.flatRows. -/
import Derived.Test.YtohlkkannjifmaaGreatDoorFlBytes
import Derived.Test.YtohlkkannjifmaaGreatDoorTxA
namespace Go.Proofs.YtohlkkannjifmaaGreatDoor
open Go.RowKit
theorem two_list (W : World) (v u0 : Value) (t : TypeId) : ∀ j u, [v, u0][j]? = some u → (W.alloc (.cells #[v, u0] t)).cell? ((⟨W.heap.size, 0, none⟩ : Addr).add j) = some u := by
  intro j u hu
  match j, hu with
  | 0, hu =>
    simp only [List.getElem?_cons_zero, Option.some.injEq] at hu
    subst hu
    have e : (⟨W.heap.size, 0, none⟩ : Addr).add 0 = ⟨W.heap.size, 0, none⟩ := by unfold Addr.add; simp
    rw [e]
    simp only [World.cell?, heap_alloc_new]
    rfl
  | 1, hu =>
    simp only [List.getElem?_cons_succ, List.getElem?_cons_zero, Option.some.injEq] at hu
    subst hu
    have e : (⟨W.heap.size, 0, none⟩ : Addr).add 1 = ⟨W.heap.size, 1, none⟩ := by unfold Addr.add; simp
    rw [e]
    simp only [World.cell?, heap_alloc_new]
    rfl
def MB (w : World) (b : Nat) (m : UInt8) : Prop := w.heap[b]? = some (.cells #[.int .u8 (m.toNat : Int)] 5 (0, 0))
theorem MB.lt {w : World} {b : Nat} {m : UInt8} (h : MB w b m) : b < w.heap.size := (Array.getElem?_eq_some_iff.1 h).1
theorem MB.below {B : Nat} {w w' : World} {b : Nat} {m : UInt8} (h : MB w b m) (hb : Below B w w') (hB : b < B) : MB w' b m := (hb.block b hB).trans h
theorem MB.fr {w w' : World} {b : Nat} {m : UInt8} (h : MB w b m) (hf : Fr 185 94 w w') : MB w' b m := hf b _ h rfl rfl
theorem MB.rb {w : World} {b : Nat} {m : UInt8} (h : MB w b m) : RB w.heap.size w (some ⟨b, 0, none⟩) 1 1 [m] :=
  ⟨rfl, Nat.le_refl _, by omega, by omega, fun _ => ⟨b, 0, rfl, h.lt, fun i hi => by
    obtain rfl : i = 0 := by omega
    unfold MB at h
    simp [World.cell?, h, bt]⟩⟩
def TR (w : World) (X : List Value) (k i : Nat) : Prop := ∀ t, t < i → ∃ b, X[t * 2]? = some (.slice (some ⟨b, 0, none⟩) 1 1) ∧ X[t * 2 + 1]? = some (.slice none 0 0) ∧ MB w b (mkB k t)
theorem TR_stab : Stab 185 94 TR :=
  ⟨fun hf h t ht => by obtain ⟨b, h1, h2, h3⟩ := h t ht; exact ⟨b, h1, h2, h3.fr hf⟩, fun h t ht => by
    obtain ⟨b, h1, h2, h3⟩ := h t ht
    exact ⟨b, by rw [List.getElem?_append_left (List.getElem?_eq_some_iff.1 h1).1]; exact h1, by rw [List.getElem?_append_left (List.getElem?_eq_some_iff.1 h2).1]; exact h2, h3⟩, fun _ _ _ t ht => absurd ht (Nat.not_lt_zero _), fun h hi t ht => h t (Nat.lt_of_lt_of_le ht hi)⟩
theorem TR_set {w w' : World} {X : List Value} {k i b : Nat} (h : TR w X k i) (hf : Fr 185 94 w w') (hi : i * 2 + 1 < X.length) (hm : MB w b (mkB k i)) : TR w' ((X.set (i * 2) (.slice (some ⟨b, 0, none⟩) 1 1)).set (i * 2 + 1) (.slice none 0 0)) k (i + 1) := fun t ht => by
  by_cases e : t = i
  · subst e
    refine ⟨b, ?_, ?_, hm.fr hf⟩
    · rw [List.getElem?_set_ne (by omega), List.getElem?_set_self (by omega)]
    · rw [List.getElem?_set_self (by rw [List.length_set]; exact hi)]
  · obtain ⟨b', h1, h2, h3⟩ := h t (by omega)
    refine ⟨b', ?_, ?_, h3.fr hf⟩
    · rw [List.getElem?_set_ne (by omega), List.getElem?_set_ne (by omega)]; exact h1
    · rw [List.getElem?_set_ne (by omega), List.getElem?_set_ne (by omega)]; exact h2
theorem TR_app {w : World} {X : List Value} {k i b : Nat} (h : TR w X k i) (hi : X.length = i * 2) (hm : MB w b (mkB k i)) : TR w (X ++ [.slice (some ⟨b, 0, none⟩) 1 1, .slice none 0 0]) k (i + 1) := fun t ht => by
  by_cases e : t = i
  · subst e
    refine ⟨b, ?_, ?_, hm⟩
    · rw [List.getElem?_append_right (by omega), hi, Nat.sub_self]; rfl
    · rw [List.getElem?_append_right (by omega), hi, Nat.add_sub_cancel_left]; rfl
  · obtain ⟨b', h1, h2, h3⟩ := h t (by omega)
    exact ⟨b', by rw [List.getElem?_append_left (by omega)]; exact h1, by rw [List.getElem?_append_left (by omega)]; exact h2, h3⟩
set_option maxHeartbeats 1000000 in
theorem markRow_R (k i : Nat) (w : World) (hk : k ≤ 1000000) (hi : i ≤ 1000000000) :
    Calls Tryz.prog 156 #[.int .i64 (k : Int), .int .i64 (i : Int)] w fun e w' => ∃ b, e = .returned (.agg #[.slice (some ⟨b, 0, none⟩) 1 1, .slice none 0 0]) ∧ MB w' b (mkB k i) ∧ Below w.heap.size w w' := by
  have H := Lib.hid (fun W => markByte_any k i W hk hi)
  obtain ⟨m, hm⟩ : ∃ m, m = mkB k i := ⟨_, rfl⟩
  rw [← hm] at H ⊢
  clear hm
  go_enter Tryz.func156, Tryz.ntmps156
  go_wp2_with (go_at_call 141; refine (H.out _).mono ?_; rintro e w1 ⟨rfl, rfl⟩)
  go_returns
  refine ⟨_, rfl, ?_, ((Below.refl w.heap.size w).alloc (Nat.le_refl _) _).alloc (by simp) _⟩
  have h9 := heap_alloc_new (w.alloc (.cells #[.slice (some ⟨w.heap.size + 1, 0, none⟩) 1 1, .slice none 0 0] 185)) (.cells #[.int .u8 (m.toNat : Int)] 5)
  rw [World.size_alloc] at h9
  exact h9
theorem ent_markRow : Enters Tryz.prog 156 := enters_of Tryz.func156 (by kernel_rfl) rfl
theorem ent_SameRow : Enters Tryz.prog 157 := enters_of Tryz.func157 (by kernel_rfl) rfl
theorem SameRow_R (m : UInt8) (W : World) (x y : Nat) (hx : MB W x m) (hy : MB W y m) : Calls Tryz.prog 157 #[.agg #[.slice (some ⟨x, 0, none⟩) 1 1, .slice none 0 0], .agg #[.slice (some ⟨y, 0, none⟩) 1 1, .slice none 0 0]] W fun e w' => e = .returned (.bool true) ∧ Below W.heap.size W w' := by
  refine (SameRow_any W.heap.size _ _ _ _ _ _ _ _ _ _ _ _ [m] [] [m] [] W (Nat.le_refl _) hx.rb (RB.emp _) hy.rb (RB.emp _)).mono ?_
  rintro e w' ⟨rfl, hb⟩
  exact ⟨by rw [eqB_self, eqB_self]; rfl, hb⟩
set_option maxHeartbeats 8000000 in
set_option maxRecDepth 100000 in
theorem flatRows_any (B N K cK lb : Nat) (V : Nat → Value) (n : Nat → Nat) (w : World) (hBN : B ≤ N) (hA : Ap 185 2 TR B N K V n (fun _ => 0) w) (hK : K ≤ 100000) (hc : K ≤ cK ∧ cK ≤ 9223372036854775807) (hlb : N ≤ lb ∧ lb < w.heap.size)
    (hls : ∀ k, k < K → w.cell? ⟨lb, k, none⟩ = some (V k)) (hF : ∀ k, k < K → n k ≤ 1000000) :
    Calls Tryz.prog 108 #[.slice (some ⟨lb, 0, none⟩) K cK] w fun e w' => e = .returned (.bool true) ∧ Out K V w w' := by
  obtain ⟨hc1, hc2⟩ := hc
  obtain ⟨hlb1, hlb2⟩ := hlb
  have HA := Lib.hid hA
  have HBN := Lib.hid hBN
  clear hBN
  have ha0N := Lib.hid hA.size
  have HLS := Lib.hid hls
  have HF := Lib.hid hF
  have St : Hid (Stab 185 94 TR) := Lib.hid TR_stab
  clear hA hls hF
  obtain ⟨i1, hi, hz0, hz1, hz2⟩ := info_parts (P := Tryz.prog) (e := 94) (z := .slice none 0 0) (size := 1) (bytes := 24) (by kernel_rfl)
  have Hi := Lib.hid hi
  have Hz0 := Lib.hid hz0
  have Hz1 := Lib.hid hz1
  have hb0 : i1.bytes * K ≤ 281474976710656 := by rw [hz2]; omega
  have Hb0 := Lib.hid hb0
  clear hi hz0 hz1 hz2 hb0
  obtain ⟨i0, hi, hz0, hz1, hz2⟩ := info_parts (P := Tryz.prog) (e := 185) (z := (Value.agg #[.slice none 0 0, .slice none 0 0])) (size := 2) (bytes := 48) (by kernel_rfl)
  have Hi2 := Lib.hid hi
  have Hz02 := Lib.hid hz0
  have Hz12 := Lib.hid hz1
  have hb02 : i0.bytes * 64 ≤ 281474976710656 := by rw [hz2]; omega
  have Hb02 := Lib.hid hb02
  have Hby : Hid (i0.bytes = 48) := Lib.hid hz2
  clear hi hz0 hz1 hz2 hb02
  go_enter Tryz.func108, Tryz.ntmps108
  go_wp2_with (fail)
  go_loopw [3] (fun s3 wr => ∃ k : Nat, s3 = .int .i64 k ∧ k ≤ K ∧ Hid (Ap 185 2 TR B N K V n (fun j => if j < k then n j else 0) wr) ∧ Hid (Out K V w wr)) (fun s3 _ => K - (intOf s3).toNat)
  case atStart => exact ⟨0, rfl, by omega, Lib.hid (HA.out.congr fun j _ => by simp), Lib.hid (Out.refl _ _ _)⟩
  case round =>
    obtain ⟨k, rfl, hk, ha, hout⟩ := hrel
    by_cases hkn : k < K
    · have hcl := (hout.out.cell (p := ⟨lb, k, none⟩) (fun j hj => ha.out.ne hj hlb1) hlb2).trans (HLS.out k hkn)
      have hFk := HF.out k hkn
      obtain ⟨a, c, hv, hcc1, hcc2, hsome⟩ := ha.out.split hkn
      obtain ⟨nk, hnk⟩ : ∃ m, m = n k := ⟨_, rfl⟩
      rw [← hnk] at hFk hv hcc1 hsome
      have Hnk := Lib.hid hnk
      have HV := Lib.hid hv
      have Hsome := Lib.hid hsome
      have HA0 : Hid (Ap 185 2 TR B N K V n (fun j => if j < k then n j else if j = k then 0 else 0) wr) := Lib.hid (ha.out.congr fun j hj => by simp)
      rw [hv] at hcl
      clear hv hsome hnk ha
      go_wp2_with (fail)
      go_loopw [4] (fun s4 wx => ∃ i : Nat, s4 = .int .i64 i ∧ i ≤ nk ∧ Hid (Ap 185 2 TR B N K V n (fun j => if j < k then n j else if j = k then i else 0) wx) ∧ Hid (Out K V w wx)) (fun s4 _ => nk - (intOf s4).toNat)
      case atStart => exact ⟨0, rfl, by omega, HA0, hout⟩
      case round =>
        clear hcl hout HA0
        obtain ⟨i, rfl, hi, ha, hout⟩ := hrel
        have hcl := (hout.out.cell (p := ⟨lb, k, none⟩) (fun j hj => ha.out.ne hj hlb1) hlb2).trans (HLS.out k hkn)
        rw [HV.out] at hcl
        by_cases hin : i < nk
        · obtain ⟨g, rfl⟩ := Hsome.out (by omega)
          have hgb := ha.out.lt k hkn g (by rw [HV.out]; rfl)
          have hne : g ≠ lb := by omega
          have hne2 : lb ≠ g := by omega
          have hsz := hout.out.size
          have hmk := fun W => markRow_R k i W (by omega) (by omega)
          have Hfun := Lib.hid (fun (wm : World) (hbm : Below wr.drew.heap.size wr.drew wm) => by
            have hb : Below wr.heap.size wr wm := ((Below.refl _ wr).drew).trans hbm
            have h1 := ha.out.below St.out hb
            obtain ⟨X, h2, h3⟩ := h1.own k hkn
            rw [← Hnk.out, HV.out] at h2
            rw [if_neg (Nat.lt_irrefl k), if_pos rfl] at h3
            exact (⟨h1, ⟨X, h2, h3⟩, (⟨rowc_at h2 (k := i * 2) (by omega), rowc_at h2 (k := i * 2 + 1) (by omega)⟩ : _ ∧ _), hout.out.below hb, (hb.cell (p := ⟨lb, k, none⟩) (by show lb < wr.heap.size; omega)).trans hcl⟩ : _ ∧ (∃ X, wm.ownsRow B 185 2 (.slice (some ⟨g, 0, none⟩) nk c) nk X ∧ TR wm X k i) ∧ _ ∧ _ ∧ _))
          skip
          go_wp2_with (fail)
          go_region_held3 (fun w' => w'.cell? ⟨lb, k, none⟩ = some (.slice (some ⟨g, 0, none⟩) nk c)) (first | go_keep | assumption) ((go_at_call 156; refine (hmk _).mono ?_; rintro e wm ⟨b, rfl, hmb, hbm⟩; have Hmb := Lib.hid hmb; clear hmb; obtain ⟨q1, q2, ⟨⟨⟨c1, c1x⟩, f1⟩, ⟨c2, c2x⟩, f2⟩, q4, q5⟩ := Hfun.out wm hbm; have Hq1 := Lib.hid q1; have Hq2 := Lib.hid q2; have Hq4 := Lib.hid q4; clear q1 q2 q4 hbm))
          have HA1 : Hid (Ap 185 2 TR B N K V n (fun j => if j < k then n j else if j = k then i + 1 else 0) ((wm.setCell ⟨g, i * 2, none⟩ (.slice (some ⟨b, 0, none⟩) 1 1)).setCell ⟨g, i * 2 + 1, none⟩ (.slice none 0 0))) := Lib.hid (by
            obtain ⟨X, x1, x2⟩ := Hq2.out
            have h3 := Hq1.out.grow St.out hkn (w' := ((wm.setCell ⟨g, i * 2, none⟩ (.slice (some ⟨b, 0, none⟩) 1 1)).setCell ⟨g, i * 2 + 1, none⟩ (.slice none 0 0))) (i := i + 1) (by rw [HV.out]; exact (grown_trans (grown_one wm g (i * 2) _) (grown_one _ g (i * 2 + 1) _))) (by rw [HV.out, ← Hnk.out]; exact (row_set (row_set x1 (i * 2) _) (i * 2 + 1) _)) (TR_set x2 (Fr.own (v := .slice (some ⟨g, 0, none⟩) nk c) (grown_trans (grown_one wm g (i * 2) _) (grown_one _ g (i * 2 + 1) _)) x1) (by rw [x1.1]; omega) Hmb.out)
            exact h3.congr fun j hj => by
              by_cases e : j = k
              · rw [if_pos e, if_neg (by omega), if_pos e]
              · rw [if_neg e]
                simp [e])
          have HO1 : Hid (Out K V w ((wm.setCell ⟨g, i * 2, none⟩ (.slice (some ⟨b, 0, none⟩) 1 1)).setCell ⟨g, i * 2 + 1, none⟩ (.slice none 0 0))) := Lib.hid (Hq4.out.grown (r := some g) (grown_trans (grown_one wm g (i * 2) _) (grown_one _ g (i * 2 + 1) _)) fun b e => by
            cases e
            exact .inl ⟨k, hkn, by rw [HV.out]; rfl⟩)
          go_wp2_with (fail)
          go_roundw
          case rel => exact ⟨i + 1, by go_num, by omega, HA1, HO1⟩
          case measure => simp [intOf]; omega
        · have ei : i = nk := by omega
          have HA2 : Hid (Ap 185 2 TR B N K V n (fun j => if j < k + 1 then n j else 0) wr) := Lib.hid (ha.out.congr fun j hj => by
            by_cases e : j = k
            · rw [if_pos (by omega), if_neg (by omega), if_pos e, ei, Hnk.out, e]
            · by_cases e2 : j < k
              · rw [if_pos (by omega), if_pos e2]
              · rw [if_neg (by omega), if_neg e2, if_neg e])
          clear ei
          go_wp2_with (fail)
          go_roundw
          case rel => exact ⟨k + 1, by go_num, by omega, HA2, hout⟩
          case measure => simp [intOf]; omega
    · have ek : k = K := by omega
      subst ek
      have HA3 : Hid (Ap 185 2 TR B N k V n n wr) := Lib.hid (ha.out.congr fun j hj => by rw [if_pos hj])
      clear ha
      obtain ⟨gb, hgb⟩ : ∃ z, z = wr.heap.size := ⟨_, rfl⟩
      have Hgb := Lib.hid hgb
      clear hgb
      go_wp2_with (refine wpList_make_full wr rfl _ _ 137 rfl w.heap.size 94 i1 (.slice none 0 0) 1 Tryz.underlying137 Hi.out Hz0.out Hz1.out .i64 .i64 _ _ k rfl rfl rfl rfl Hb0.out (by simp only [maxLen]; omega) hout.out.size ?_; intro w1 hown1 hg1; rw [← Hgb.out] at hown1 ⊢; have HG1 : Hid (Grs 185 94 2 TR B w.heap.size gb k V (fun j => n j + 64) (fun j => n j + 64) 0 w1) := Lib.hid ⟨_, by simpa using hown1.1, hown1, fun j hj => absurd hj (Nat.not_lt_zero _)⟩; have HA5 := Lib.hid (HA3.out.new St.out hg1 (fun b e => by cases e) (Fr.grown hg1 (fun b e => by cases e))); have HO4 := Lib.hid (hout.out.grown hg1 (fun b e => by cases e)); clear hown1 hg1)
      clear HA3 hout HA
      have hsz1 := HO4.out.size
      go_loopw [6] (fun s6 wk => ∃ q : Nat, s6 = .int .i64 q ∧ q ≤ k ∧ Hid (Ap 185 2 TR B N k V n n wk) ∧ Hid (Grs 185 94 2 TR B w.heap.size gb k V (fun j => n j + 64) (fun j => n j + 64) q wk) ∧ Hid (Out k V w wk)) (fun s6 _ => k - (intOf s6).toNat)
      case atStart => exact ⟨0, rfl, by omega, HA5, HG1, HO4⟩
      case round =>
        clear HA5 HG1 HO4 hsz1
        obtain ⟨wk, rfl⟩ : ∃ z, z = wr := ⟨_, rfl⟩
        obtain ⟨q, rfl, hq, ha, hgr, hout⟩ := hrel
        by_cases hqk : q < k
        · have hnm := HF.out q hqk
          obtain ⟨a, c, hv, hcc1, hcc2, hsome⟩ := ha.out.split hqk
          obtain ⟨X0, hown0, hT0⟩ := ha.out.own q hqk
          obtain ⟨nk, hnk⟩ : ∃ m, m = n q := ⟨_, rfl⟩
          rw [← hnk] at hnm hv hcc1 hsome hown0 hT0
          have HV := Lib.hid hv
          have Hsome := Lib.hid hsome
          have HOW : Hid (∃ X, wk.ownsRow B 185 2 (V q) nk X ∧ TR wk X q nk) := Lib.hid ⟨X0, hown0, hT0⟩
          have Hnk := Lib.hid hnk
          have hcl := (hout.out.cell (p := ⟨lb, q, none⟩) (fun j hj => ha.out.ne hj hlb1) hlb2).trans (HLS.out q hqk)
          rw [hv] at hcl
          clear hv hsome hnk hown0 hT0
          go_wp2_with (fail)
          go_loopw [7, 8] (fun s7 s8 wx => ∃ (i : Nat) (a7 : Option Addr) (c7 : Nat), s8 = .int .i64 i ∧ s7 = .slice a7 (nk + i) c7 ∧ i ≤ 64 ∧ Hid (∃ X, wx.ownsRow B 185 2 (.slice a7 (nk + i) c7) (nk + i) X ∧ TR wx X q (nk + i)) ∧ Hid (∀ b, (Value.slice a7 (nk + i) c7).ownBlock = some b → (V q).ownBlock = some b ∨ wk.heap.size ≤ b) ∧ Hid (Ap 185 2 TR B N k V n n wx) ∧ Hid (Out k V w wx) ∧ Hid (Kp wk.heap.size (V q) wk wx) ∧ Hid (Fr 185 94 wk wx)) (fun _ s8 _ => 64 - (intOf s8).toNat)
          case atStart => exact ⟨0, a, c, rfl, rfl, by omega, by rw [Nat.add_zero, ← HV.out]; exact HOW, Lib.hid (fun b e => .inl (by rw [HV.out]; exact e)), ha, hout, Lib.hid Kp.refl, Lib.hid (Fr.refl _ _ _)⟩
          case round =>
            clear hcl
            obtain ⟨wx, rfl⟩ : ∃ z, z = wr := ⟨_, rfl⟩
            obtain ⟨i, a7, c7, rfl, rfl, hi, ho, hblk, ha2, hout2, hkp, hfr⟩ := hrel
            have hcl := (hout2.out.cell (p := ⟨lb, q, none⟩) (fun j hj => ha.out.ne hj hlb1) hlb2).trans (HLS.out q hqk)
            rw [HV.out] at hcl
            have hgeB : B ≤ wx.heap.size := by have := ha2.out.size; have := HBN.out; omega
            by_cases hin : i < 64
            · have hmk := fun W => markRow_R q (nk + i) W (by omega) (by omega)
              simp only [Int.natCast_add] at hmk
              skip
              have Hfun := Lib.hid (fun (wm : World) (hbm : Below wx.heap.size wx wm) (c : Array Value) => by
                have hb := hbm.alloc hbm.size (.cells c 185)
                obtain ⟨X, h2, h3⟩ := ho.out
                exact (⟨⟨X, rows_below h2 hb, St.out.st (Fr.below hb) h3⟩, ha2.out.below St.out hb, hout2.out.below hb, hkp.out.below hb, hfr.out.trans (Fr.below hb), Nat.le_trans hgeB hb.size⟩ : (∃ X, (wm.alloc (.cells c 185)).ownsRow B 185 2 (.slice a7 (nk + i) c7) (nk + i) X ∧ TR (wm.alloc (.cells c 185)) X q (nk + i)) ∧ _ ∧ _ ∧ _ ∧ _ ∧ _))
              have i7 := wrap_in (x := (nk : Int) + (i : Int)) (by omega) (by omega)
              clear ho hgeB
              go_wp2_with (first | (go_at_call 156; refine (hmk _).mono ?_; rintro e wm ⟨b, rfl, hmb, hbm⟩; have Hmb := Lib.hid hmb; clear hmb; obtain ⟨z1, z2, z3, z4, z4b, z5⟩ := Hfun.out wm hbm #[.slice (some ⟨b, 0, none⟩) 1 1, .slice none 0 0]; have Z1 := Lib.hid z1; have Z2 := Lib.hid z2; have Z3 := Lib.hid z3; have Z4 := Lib.hid z4; have Z4b := Lib.hid z4b; have Z5 := Lib.hid z5; clear z1 z2 z3 z4 z4b z5; have Hmw := Lib.hid (Hmb.out.below ((Below.refl wm.heap.size wm).alloc (Nat.le_refl _) (.cells #[.slice (some ⟨b, 0, none⟩) 1 1, .slice none 0 0] 185)) Hmb.out.lt); clear hbm) | (at_builtin; obtain ⟨X1, x1, x2⟩ := Z1.out; refine wpList_append_keepC rfl _ _ 94 rfl 185 i0 (Value.agg #[.slice none 0 0, .slice none 0 0]) Tryz.underlying94 Hi2.out Hz02.out Hz12.out rfl rfl x1 _ 1 rfl ⟨_, rfl, two_list wm (.slice (some ⟨b, 0, none⟩) 1 1) (.slice none 0 0) _⟩ (by intro u hu; simp only [List.mem_cons, List.not_mem_nil, or_false] at hu; rcases hu with rfl | rfl <;> rfl) rfl (by decide) Z5.out (by rw [Hby.out]; omega) (by omega) ?_; intro g4 c4 w4 ho4 hov4 hg4 hb4; have X2 := Lib.hid x2; have X1o := Lib.hid x1; have O4 := Lib.hid ho4; have OV4 := Lib.hid hov4; have G4 := Lib.hid hg4; have B4 := Lib.hid hb4; clear ho4 hov4 hg4 hb4 x1 x2))
              have F4 : Hid (Fr 185 94 (wm.alloc (.cells #[.slice (some ⟨b, 0, none⟩) 1 1, .slice none 0 0] 185)) w4) := Lib.hid (Fr.own G4.out X1o.out)
              have O5 : Hid (∃ X, w4.ownsRow B 185 2 (.slice (some ⟨g4, 0, none⟩) (nk + (i + 1)) c4) (nk + (i + 1)) X ∧ TR w4 X q (nk + (i + 1))) := Lib.hid ⟨_, O4.out, (TR_app (TR_stab.st F4.out X2.out) (by rw [X1o.out.1]; rfl) (Hmw.out.fr F4.out))⟩
              have B5 : Hid (∀ b, (Value.slice (some ⟨g4, 0, none⟩) (nk + (i + 1)) c4).ownBlock = some b → (V q).ownBlock = some b ∨ wk.heap.size ≤ b) := Lib.hid (fun b e => by
                cases e
                rcases B4.out with h | h
                · exact hblk.out _ h
                · exact .inr (by rw [h]; exact Z4.out.size))
              have A5 : Hid (Ap 185 2 TR B N k V n n w4) := Lib.hid (Z2.out.keepgrow St.out (by decide) hqk X1o.out (by rw [← Hnk.out]; omega) (fun b e => (hblk.out b e).imp id (fun h => by have := ha.out.size; omega)) G4.out OV4.out)
              have T5 : Hid (Out k V w w4) := Lib.hid (Z3.out.grown G4.out (fun b e => by
                rcases hblk.out b e with h | h
                · exact .inl ⟨q, hqk, h⟩
                · exact .inr (Nat.le_trans hout.out.size h)))
              have K5 : Hid (Kp wk.heap.size (V q) wk w4) := Lib.hid (Z4.out.grown G4.out hblk.out)
              have F5 : Hid (Fr 185 94 wk w4) := Lib.hid (Z4b.out.trans F4.out)
              go_roundw
              case rel => exact ⟨i + 1, some ⟨g4, 0, none⟩, c4, by go_num, rfl, by omega, O5, B5, A5, T5, K5, F5⟩
              case measure => simp [intOf]; omega
            · have ei : i = 64 := by omega
              subst ei
              have hgr2 := hgr.out.keep St.out ha.out hqk ha0N.out hfr.out hkp.out.block
              obtain ⟨⟨u0, hu0⟩, hfz⟩ := hgr2.slot hqk
              have Hgr2 := Lib.hid hgr2
              clear hgr2
              obtain ⟨g7, e7⟩ : ∃ g, a7 = some ⟨g, 0, none⟩ := by
                obtain ⟨X, h1, -⟩ := ho.out
                obtain ⟨a, c, e1, -, -, e4⟩ := rows_form h1
                cases e1
                exact e4 (by omega)
              subst e7
              have hgbb : w.heap.size ≤ gb ∧ gb < wk.heap.size := hgr.out.row
              have HP : Hid (Grs 185 94 2 TR B w.heap.size gb k V (fun j => n j + 64) (fun j => n j + 64) (q + 1) (wx.setCell ⟨gb, q, none⟩ (.slice (some ⟨g7, 0, none⟩) (nk + 64) c7))) := Lib.hid (by
                have hx : (V q).ownBlock = some g7 ∨ w.heap.size ≤ g7 := (hblk.out g7 rfl).imp id (fun h => Nat.le_trans hout.out.size h)
                have hy : g7 ≠ gb := by
                  rcases hblk.out g7 rfl with h | h
                  · have := ha.out.lt q hqk g7 h; have := ha0N.out; omega
                  · omega
                obtain ⟨X, h1, h2⟩ := ho.out
                rw [Hnk.out] at h1 h2 ⊢
                exact Hgr2.out.put St.out hqk h1 h2 hx hy)
              have HAp : Hid (Ap 185 2 TR B N k V n n (wx.setCell ⟨gb, q, none⟩ (.slice (some ⟨g7, 0, none⟩) (nk + 64) c7))) := Lib.hid (ha2.out.new St.out (grown_one wx gb q _) (fun b e => by cases e; exact Nat.le_trans ha0N.out hgbb.1) (Hgr2.out.fr q _))
              have HOu : Hid (Out k V w (wx.setCell ⟨gb, q, none⟩ (.slice (some ⟨g7, 0, none⟩) (nk + 64) c7))) := Lib.hid (hout2.out.grown (grown_one wx gb q _) (fun b e => by cases e; exact .inr hgbb.1))
              go_wp2_with (fail)
              go_roundw
              case rel => exact ⟨q + 1, by go_num, by omega, HAp, HP, HOu⟩
              case measure => simp [intOf]; omega
        · have eq : q = k := by omega
          subst eq
          go_wp2_with (fail)
          go_loopw [9] (fun s9 wr => ∃ p : Nat, s9 = .int .i64 p ∧ p ≤ q ∧ Hid (Ap 185 2 TR B N q V n n wr) ∧ Hid (Grs 185 94 2 TR B w.heap.size gb q V (fun j => n j + 64) (fun j => n j + 64) q wr) ∧ Hid (Out q V w wr)) (fun s9 _ => q - (intOf s9).toNat)
          case atStart => exact ⟨0, rfl, by omega, ha, hgr, hout⟩
          case round =>
            clear ha hgr hout
            obtain ⟨w5, rfl⟩ : ∃ z, z = wr := ⟨_, rfl⟩
            obtain ⟨p, rfl, hp, ha, hgr, hout⟩ := hrel
            by_cases hpk : p < q
            · obtain ⟨g, c, Y, hgc, hgo, hgT⟩ := hgr.out.cell hpk hpk
              obtain ⟨a9, c9, e9, hcc1, hcc2, -⟩ := rows_form hgo
              cases e9
              have hnm := HF.out p hpk
              obtain ⟨a6, c6, hv6, hcd1, hcd2, hsome6⟩ := ha.out.split hpk
              obtain ⟨X6, hop6, hT6⟩ := ha.out.own p hpk
              obtain ⟨nk, hnk⟩ : ∃ m, m = n p := ⟨_, rfl⟩
              rw [← hnk] at hgc hgo hgT hcc1 hnm hv6 hcd1 hsome6 hop6 hT6
              have Hgc := Lib.hid hgc
              have Hgo := Lib.hid hgo
              have HgT := Lib.hid hgT
              have HV6 := Lib.hid hv6
              have Hsome6 := Lib.hid hsome6
              have hcl6 := (hout.out.cell (p := ⟨lb, p, none⟩) (fun j hj => ha.out.ne hj hlb1) hlb2).trans (HLS.out p hpk)
              rw [hv6] at hcl6 hop6
              have Hcl6 := Lib.hid hcl6
              have Hop6 := Lib.hid hop6
              have HT6 := Lib.hid hT6
              have hszr : gb < w5.heap.size ∧ lb < w5.heap.size := ⟨hgr.out.row.2, Nat.lt_of_lt_of_le hlb2 hout.out.size⟩
              obtain ⟨hsz1, hsz2⟩ := hszr
              clear hv6 hsome6 hcl6 hop6 hT6 hgo hgT hnk
              go_wp2_with (fail)
              go_loopw [10] (fun s10 wx => ∃ j : Nat, s10 = .int .i64 j ∧ j ≤ nk + 64 ∧ Hid (Below w5.heap.size w5 wx)) (fun s10 _ => nk + 64 - (intOf s10).toNat)
              case atStart => exact ⟨0, rfl, by omega, Lib.hid (Below.refl _ _)⟩
              case round =>
                clear hgc
                obtain ⟨j, rfl, hj, hb⟩ := hrel
                have hgc := (hb.out.cell (p := ⟨gb, p, none⟩) hsz1).trans Hgc.out
                have hszx := hb.out.size
                by_cases hjn : j < nk + 64
                · have hg7 := (row_lt Hgo.out).2
                  have hmk := fun W => markRow_R p j W (by omega) (by omega)
                  by_cases hjk : j < nk
                  · obtain ⟨g', rfl⟩ := Hsome6.out (by omega)
                    have hg8 := (row_lt Hop6.out).2
                    have hd1 : decide ((j : Int) < (nk : Int)) = true := decide_eq_true (by omega)
                    have hd2 : decide (j < nk) = true := decide_eq_true hjk
                    obtain ⟨b1, k1, k2, hm1⟩ := HgT.out j (by omega)
                    have k1 := (Hgo.out.cellAt (j * 2) (by omega)).trans k1
                    have k2 := (Hgo.out.cellAt (j * 2 + 1) (by omega)).trans k2
                    have HM1 := Lib.hid (hm1.below hb.out hm1.lt)
                    obtain ⟨b2, k3, k4, hm2⟩ := HT6.out j (by omega)
                    have k3 := (Hop6.out.cellAt (j * 2) (by omega)).trans k3
                    have k4 := (Hop6.out.cellAt (j * 2 + 1) (by omega)).trans k4
                    have HM2 := Lib.hid (hm2.below hb.out hm2.lt)
                    generalize mkB p j = m at hmk HM1 HM2
                    have HC : Hid (∀ W, Below wr.heap.size wr W → W.cell? ⟨gb, p, none⟩ = some (.slice (some ⟨g, 0, none⟩) (nk + 64) c) ∧ W.cell? ⟨g, j * 2, none⟩ = some (.slice (some ⟨b1, 0, none⟩) 1 1) ∧ W.cell? ⟨g, j * 2 + 1, none⟩ = some (.slice none 0 0) ∧ W.cell? ⟨lb, p, none⟩ = some (.slice (some ⟨g', 0, none⟩) nk c6) ∧ W.cell? ⟨g', j * 2, none⟩ = some (.slice (some ⟨b2, 0, none⟩) 1 1) ∧ W.cell? ⟨g', j * 2 + 1, none⟩ = some (.slice none 0 0)) := Lib.hid fun W hW =>
                      ⟨(hW.cell (by show gb < _; omega)).trans ((hb.out.cell (by exact hsz1)).trans Hgc.out), (hW.cell (by show g < _; omega)).trans ((hb.out.cell (by exact hg7)).trans k1), (hW.cell (by show g < _; omega)).trans ((hb.out.cell (by exact hg7)).trans k2), (hW.cell (by show lb < _; omega)).trans ((hb.out.cell (by exact hsz2)).trans Hcl6.out), (hW.cell (by show g' < _; omega)).trans ((hb.out.cell (by exact hg8)).trans k3), (hW.cell (by show g' < _; omega)).trans ((hb.out.cell (by exact hg8)).trans k4)⟩
                    have HB : Hid (Below wr.heap.size wr wr.drew) := Lib.hid (Below.refl _ _).drew
                    have HSR := Lib.hid (fun W x y hx hy => SameRow_R m W x y hx hy)
                    obtain ⟨s0, s1, s2, s3, s4, s5⟩ := HC.out _ HB.out
                    clear k1 k2 hm1 k3 k4 hm2
                    go_wp2_with (fail)
                    go_region_held3 (fun w' => w'.cell? ⟨gb, p, none⟩ = some (.slice (some ⟨g, 0, none⟩) (nk + 64) c) ∧ w'.cell? ⟨g, j * 2, none⟩ = some (.slice (some ⟨b1, 0, none⟩) 1 1) ∧ w'.cell? ⟨g, j * 2 + 1, none⟩ = some (.slice none 0 0) ∧ w'.cell? ⟨lb, p, none⟩ = some (.slice (some ⟨g', 0, none⟩) nk c6) ∧ w'.cell? ⟨g', j * 2, none⟩ = some (.slice (some ⟨b2, 0, none⟩) 1 1) ∧ w'.cell? ⟨g', j * 2 + 1, none⟩ = some (.slice none 0 0)) (first | go_keep | exact ⟨s0, s1, s2, s3, s4, s5⟩) (first | (go_at_call 156; refine (hmk _).mono ?_; rintro e wA ⟨b3, rfl, mA, bA⟩; have HB := Lib.hid (HB.out.trans (bA.mono HB.out.size)); have HM3 := Lib.hid mA; obtain ⟨s0, s1, s2, s3, s4, s5⟩ := HC.out _ HB.out; clear mA bA) | (go_at_call 157; refine (HSR.out _ _ _ (by first | exact HM1.out.below HB.out HM1.out.lt | exact HM2.out.below HB.out HM2.out.lt) HM3.out).mono ?_; rintro e wA ⟨rfl, bA⟩; have HB := Lib.hid (HB.out.trans (bA.mono HB.out.size)); obtain ⟨s0, s1, s2, s3, s4, s5⟩ := HC.out _ HB.out; clear bA))
                    go_wp2_with (fail)
                    go_roundw
                    case rel => exact ⟨j + 1, by go_num, by omega, Lib.hid (hb.out.trans (HB.out.mono hszx))⟩
                    case measure => simp [intOf]; omega
                  · have hd1 : decide ((j : Int) < (nk : Int)) = false := decide_eq_false (by omega)
                    have hd2 : decide (j < nk) = false := decide_eq_false hjk
                    obtain ⟨b1, k1, k2, hm1⟩ := HgT.out j (by omega)
                    have k1 := (Hgo.out.cellAt (j * 2) (by omega)).trans k1
                    have k2 := (Hgo.out.cellAt (j * 2 + 1) (by omega)).trans k2
                    have HM1 := Lib.hid (hm1.below hb.out hm1.lt)
                    have HM2 := HM1
                    generalize mkB p j = m at hmk HM1 HM2
                    have HC : Hid (∀ W, Below wr.heap.size wr W → W.cell? ⟨gb, p, none⟩ = some (.slice (some ⟨g, 0, none⟩) (nk + 64) c) ∧ W.cell? ⟨g, j * 2, none⟩ = some (.slice (some ⟨b1, 0, none⟩) 1 1) ∧ W.cell? ⟨g, j * 2 + 1, none⟩ = some (.slice none 0 0) ∧ W.cell? ⟨lb, p, none⟩ = some (.slice a6 nk c6)) := Lib.hid fun W hW =>
                      ⟨(hW.cell (by show gb < _; omega)).trans ((hb.out.cell (by exact hsz1)).trans Hgc.out), (hW.cell (by show g < _; omega)).trans ((hb.out.cell (by exact hg7)).trans k1), (hW.cell (by show g < _; omega)).trans ((hb.out.cell (by exact hg7)).trans k2), (hW.cell (by show lb < _; omega)).trans ((hb.out.cell (by exact hsz2)).trans Hcl6.out)⟩
                    have HB : Hid (Below wr.heap.size wr wr.drew) := Lib.hid (Below.refl _ _).drew
                    have HSR := Lib.hid (fun W x y hx hy => SameRow_R m W x y hx hy)
                    obtain ⟨s0, s1, s2, s3⟩ := HC.out _ HB.out
                    clear k1 k2 hm1
                    go_wp2_with (fail)
                    refine wp_region_held_drew (S := (fun w' => w'.cell? ⟨gb, p, none⟩ = some (.slice (some ⟨g, 0, none⟩) (nk + 64) c) ∧ w'.cell? ⟨g, j * 2, none⟩ = some (.slice (some ⟨b1, 0, none⟩) 1 1) ∧ w'.cell? ⟨g, j * 2 + 1, none⟩ = some (.slice none 0 0) ∧ w'.cell? ⟨lb, p, none⟩ = some (.slice a6 nk c6))) (by kernel_rfl) (HC.out _ HB.out) (fun _ => ?_)
                    refine wpAnyH_take (i := 0) (v := .slice (some ⟨gb, 0, none⟩) q q) rfl (by kernel_rfl) (by kernel_rfl) (by kernel_rfl) (fun _ _ _ h => h) (Or.inl ⟨by rfl, fun w' hSw => ?_⟩) (HC.out _ HB.out) ?_
                    · dsimp only at hSw
                      go_simp
                    change wpAnyH _ _ _ _ _ _ _ (Act.put _ (some 88) _) _
                    simp only [Act.put, List.setIfInBounds_toArray, List.set_cons_zero, List.set_cons_succ]
                    refine wpAnyH_take (i := 1) (v := .int .i64 p) rfl (by kernel_rfl) (by kernel_rfl) (by kernel_rfl) (fun _ _ _ h => h) (Or.inl ⟨by rfl, fun w' hSw => ?_⟩) (HC.out _ HB.out) ?_
                    · dsimp only at hSw
                      go_simp
                    change wpAnyH _ _ _ _ _ _ _ (Act.put _ (some 89) _) _
                    simp only [Act.put, List.setIfInBounds_toArray, List.set_cons_zero, List.set_cons_succ]
                    refine wpAnyH_take (i := 2) (v := .pointer (some ⟨gb, p, none⟩)) rfl (by kernel_rfl) (by kernel_rfl) (by kernel_rfl) (fun _ _ _ h => h) (Or.inl ⟨by rfl, fun w' hSw => ?_⟩) (HC.out _ HB.out) ?_
                    · dsimp only at hSw
                      go_simp
                    change wpAnyH _ _ _ _ _ _ _ (Act.put _ (some 90) _) _
                    simp only [Act.put, List.setIfInBounds_toArray, List.set_cons_zero, List.set_cons_succ]
                    refine wpAnyH_take (i := 3) (v := .slice (some ⟨g, 0, none⟩) (nk + 64) c) rfl (by kernel_rfl) (by kernel_rfl) (by kernel_rfl) (fun _ _ _ h => h) (Or.inl ⟨by rfl, fun w' hSw => ?_⟩) (HC.out _ HB.out) ?_
                    · dsimp only at hSw
                      go_simp
                    change wpAnyH _ _ _ _ _ _ _ (Act.put _ (some 91) _) _
                    simp only [Act.put, List.setIfInBounds_toArray, List.set_cons_zero, List.set_cons_succ]
                    refine wpAnyH_take (i := 4) (v := .int .i64 j) rfl (by kernel_rfl) (by kernel_rfl) (by kernel_rfl) (fun _ _ _ h => h) (Or.inl ⟨by rfl, fun w' hSw => ?_⟩) (HC.out _ HB.out) ?_
                    · dsimp only at hSw
                      go_simp
                    change wpAnyH _ _ _ _ _ _ _ (Act.put _ (some 92) _) _
                    simp only [Act.put, List.setIfInBounds_toArray, List.set_cons_zero, List.set_cons_succ]
                    refine wpAnyH_take (i := 5) (v := .pointer (some ⟨g, j * 2, none⟩)) rfl (by kernel_rfl) (by kernel_rfl) (by kernel_rfl) (fun _ _ _ h => h) (Or.inl ⟨by rfl, fun w' hSw => ?_⟩) (HC.out _ HB.out) ?_
                    · dsimp only at hSw
                      go_simp
                    change wpAnyH _ _ _ _ _ _ _ (Act.put _ (some 93) _) _
                    simp only [Act.put, List.setIfInBounds_toArray, List.set_cons_zero, List.set_cons_succ]
                    refine wpAnyH_take (i := 6) (v := .agg #[.slice (some ⟨b1, 0, none⟩) 1 1, .slice none 0 0]) rfl (by kernel_rfl) (by kernel_rfl) (by kernel_rfl) (fun _ _ _ h => h) (Or.inl ⟨by rfl, fun w' hSw => ?_⟩) (HC.out _ HB.out) ?_
                    · dsimp only at hSw
                      go_simp
                    change wpAnyH _ _ _ _ _ _ _ (Act.put _ (some 94) _) _
                    simp only [Act.put, List.setIfInBounds_toArray, List.set_cons_zero, List.set_cons_succ]
                    refine wpAnyH_take (i := 7) (v := .int .i64 p) rfl (by kernel_rfl) (by kernel_rfl) (by kernel_rfl) (fun _ _ _ h => h) (Or.inl ⟨by rfl, fun w' hSw => ?_⟩) (HC.out _ HB.out) ?_
                    · dsimp only at hSw
                      go_simp
                    change wpAnyH _ _ _ _ _ _ _ (Act.put _ (some 95) _) _
                    simp only [Act.put, List.setIfInBounds_toArray, List.set_cons_zero, List.set_cons_succ]
                    refine wpAnyH_take (i := 8) (v := .int .i64 j) rfl (by kernel_rfl) (by kernel_rfl) (by kernel_rfl) (fun _ _ _ h => h) (Or.inl ⟨by rfl, fun w' hSw => ?_⟩) (HC.out _ HB.out) ?_
                    · dsimp only at hSw
                      go_simp
                    change wpAnyH _ _ _ _ _ _ _ (Act.put _ (some 96) _) _
                    simp only [Act.put, List.setIfInBounds_toArray, List.set_cons_zero, List.set_cons_succ]
                    refine wpAnyH_ready (rs := [9]) (by kernel_rfl) (by simp) ?_
                    refine step_fn (f := 156) (args := #[.int .i64 p, .int .i64 j]) (by rfl) (by rfl) (by exact run_fn2 (by rfl) (by rfl) ent_markRow _ (by rfl) (by rfl)) ((hmk _).mono ?_) AllReadyH.nil
                    rintro _ wA ⟨b3, rfl, mA, bA⟩
                    have HB := Lib.hid (HB.out.trans (bA.mono HB.out.size))
                    have HM3 := Lib.hid mA
                    clear mA bA
                    refine ⟨_, rfl, HC.out _ HB.out, ?_⟩
                    change wpAnyH _ _ _ _ _ _ _ (Act.put _ (some 97) _) _
                    simp only [Act.put, List.setIfInBounds_toArray, List.set_cons_zero, List.set_cons_succ]
                    refine wpAnyH_ready (rs := [10]) (by kernel_rfl) (by simp) ?_
                    refine step_fn (f := 157) (args := #[.agg #[.slice (some ⟨b1, 0, none⟩) 1 1, .slice none 0 0], .agg #[.slice (some ⟨b3, 0, none⟩) 1 1, .slice none 0 0]]) (by rfl) (by rfl) (by exact run_fn2 (by rfl) (by rfl) ent_SameRow _ (by rfl) (by rfl)) ((HSR.out _ _ _ (HM1.out.below HB.out HM1.out.lt) HM3.out).mono ?_) AllReadyH.nil
                    rintro _ wB ⟨rfl, bA⟩
                    have HB := Lib.hid (HB.out.trans (bA.mono HB.out.size))
                    clear bA
                    refine ⟨_, rfl, HC.out _ HB.out, ?_⟩
                    change wpAnyH _ _ _ _ _ _ _ (Act.put _ (some 98) _) _
                    simp only [Act.put, List.setIfInBounds_toArray, List.set_cons_zero, List.set_cons_succ]
                    refine wpAnyH_take (i := 11) (v := .bool false) rfl (by kernel_rfl) (by kernel_rfl) (by kernel_rfl) (fun _ _ _ h => h) (Or.inl ⟨by rfl, fun w' hSw => ?_⟩) (HC.out _ HB.out) ?_
                    · dsimp only at hSw
                      go_simp
                    change wpAnyH _ _ _ _ _ _ _ (Act.put _ (some 99) _) _
                    simp only [Act.put, List.setIfInBounds_toArray, List.set_cons_zero, List.set_cons_succ]
                    refine wpAnyH_take (i := 12) (v := .bool false) rfl (by kernel_rfl) (by kernel_rfl) (by kernel_rfl) (fun _ _ _ h => h) (Or.inl ⟨by rfl, fun w' hSw => ?_⟩) (HC.out _ HB.out) ?_
                    · dsimp only at hSw
                      go_simp
                    change wpAnyH _ _ _ _ _ _ _ (Act.put _ (some 100) _) _
                    simp only [Act.put, List.setIfInBounds_toArray, List.set_cons_zero, List.set_cons_succ]
                    refine wpAnyH_take (i := 13) (v := .int .i64 j) rfl (by kernel_rfl) (by kernel_rfl) (by kernel_rfl) (fun _ _ _ h => h) (Or.inl ⟨by rfl, fun w' hSw => ?_⟩) (HC.out _ HB.out) ?_
                    · dsimp only at hSw
                      go_simp
                    change wpAnyH _ _ _ _ _ _ _ (Act.put _ (some 101) _) _
                    simp only [Act.put, List.setIfInBounds_toArray, List.set_cons_zero, List.set_cons_succ]
                    refine wpAnyH_take (i := 14) (v := .slice (some ⟨lb, 0, none⟩) q cK) rfl (by kernel_rfl) (by kernel_rfl) (by kernel_rfl) (fun _ _ _ h => h) (Or.inl ⟨by rfl, fun w' hSw => ?_⟩) (HC.out _ HB.out) ?_
                    · dsimp only at hSw
                      go_simp
                    change wpAnyH _ _ _ _ _ _ _ (Act.put _ (some 102) _) _
                    simp only [Act.put, List.setIfInBounds_toArray, List.set_cons_zero, List.set_cons_succ]
                    refine wpAnyH_take (i := 15) (v := .int .i64 p) rfl (by kernel_rfl) (by kernel_rfl) (by kernel_rfl) (fun _ _ _ h => h) (Or.inl ⟨by rfl, fun w' hSw => ?_⟩) (HC.out _ HB.out) ?_
                    · dsimp only at hSw
                      go_simp
                    change wpAnyH _ _ _ _ _ _ _ (Act.put _ (some 103) _) _
                    simp only [Act.put, List.setIfInBounds_toArray, List.set_cons_zero, List.set_cons_succ]
                    refine wpAnyH_take (i := 16) (v := .pointer (some ⟨lb, p, none⟩)) rfl (by kernel_rfl) (by kernel_rfl) (by kernel_rfl) (fun _ _ _ h => h) (Or.inl ⟨by rfl, fun w' hSw => ?_⟩) (HC.out _ HB.out) ?_
                    · dsimp only at hSw
                      go_simp
                    change wpAnyH _ _ _ _ _ _ _ (Act.put _ (some 104) _) _
                    simp only [Act.put, List.setIfInBounds_toArray, List.set_cons_zero, List.set_cons_succ]
                    refine wpAnyH_take (i := 17) (v := .slice a6 nk c6) rfl (by kernel_rfl) (by kernel_rfl) (by kernel_rfl) (fun _ _ _ h => h) (Or.inl ⟨by rfl, fun w' hSw => ?_⟩) (HC.out _ HB.out) ?_
                    · dsimp only at hSw
                      go_simp
                    change wpAnyH _ _ _ _ _ _ _ (Act.put _ (some 105) _) _
                    simp only [Act.put, List.setIfInBounds_toArray, List.set_cons_zero, List.set_cons_succ]
                    refine wpAnyH_take (i := 18) (v := .int .i64 nk) rfl (by kernel_rfl) (by kernel_rfl) (by kernel_rfl) (fun _ _ _ h => h) (Or.inl ⟨by rfl, fun w' hSw => ?_⟩) (HC.out _ HB.out) ?_
                    · dsimp only at hSw
                      go_simp
                    change wpAnyH _ _ _ _ _ _ _ (Act.put _ (some 106) _) _
                    simp only [Act.put, List.setIfInBounds_toArray, List.set_cons_zero, List.set_cons_succ]
                    refine wpAnyH_take (i := 19) (v := .bool false) rfl (by kernel_rfl) (by kernel_rfl) (by kernel_rfl) (fun _ _ _ h => h) (Or.inl ⟨by rfl, fun w' hSw => ?_⟩) (HC.out _ HB.out) ?_
                    · dsimp only at hSw
                      go_simp
                    change wpAnyH _ _ _ _ _ _ _ (Act.put _ (some 107) _) _
                    simp only [Act.put, List.setIfInBounds_toArray, List.set_cons_zero, List.set_cons_succ]
                    refine wpAnyH_take (i := 20) (v := .bool false) rfl (by kernel_rfl) (by kernel_rfl) (by kernel_rfl) (fun _ _ _ h => h) (Or.inl ⟨by rfl, fun w' hSw => ?_⟩) (HC.out _ HB.out) ?_
                    · dsimp only at hSw
                      go_simp
                    change wpAnyH _ _ _ _ _ _ _ (Act.put _ (some 108) _) _
                    simp only [Act.put, List.setIfInBounds_toArray, List.set_cons_zero, List.set_cons_succ]
                    refine wpAnyH_take (i := 21) (v := undef) rfl (by kernel_rfl) (by kernel_rfl) (by kernel_rfl) (fun _ _ _ h => h) (Or.inr ⟨by rfl, rfl⟩) (HC.out _ HB.out) ?_
                    change wpAnyH _ _ _ _ _ _ _ (Act.put _ (some 109) _) _
                    simp only [Act.put, List.setIfInBounds_toArray, List.set_cons_zero, List.set_cons_succ]
                    refine wpAnyH_take (i := 22) (v := undef) rfl (by kernel_rfl) (by kernel_rfl) (by kernel_rfl) (fun _ _ _ h => h) (Or.inr ⟨by rfl, rfl⟩) (HC.out _ HB.out) ?_
                    change wpAnyH _ _ _ _ _ _ _ (Act.put _ (some 110) _) _
                    simp only [Act.put, List.setIfInBounds_toArray, List.set_cons_zero, List.set_cons_succ]
                    refine wpAnyH_take (i := 23) (v := undef) rfl (by kernel_rfl) (by kernel_rfl) (by kernel_rfl) (fun _ _ _ h => h) (Or.inr ⟨by rfl, rfl⟩) (HC.out _ HB.out) ?_
                    change wpAnyH _ _ _ _ _ _ _ (Act.put _ (some 111) _) _
                    simp only [Act.put, List.setIfInBounds_toArray, List.set_cons_zero, List.set_cons_succ]
                    refine wpAnyH_take (i := 24) (v := undef) rfl (by kernel_rfl) (by kernel_rfl) (by kernel_rfl) (fun _ _ _ h => h) (Or.inr ⟨by rfl, rfl⟩) (HC.out _ HB.out) ?_
                    change wpAnyH _ _ _ _ _ _ _ (Act.put _ (some 112) _) _
                    simp only [Act.put, List.setIfInBounds_toArray, List.set_cons_zero, List.set_cons_succ]
                    refine wpAnyH_take (i := 25) (v := undef) rfl (by kernel_rfl) (by kernel_rfl) (by kernel_rfl) (fun _ _ _ h => h) (Or.inr ⟨by rfl, rfl⟩) (HC.out _ HB.out) ?_
                    change wpAnyH _ _ _ _ _ _ _ (Act.put _ (some 113) _) _
                    simp only [Act.put, List.setIfInBounds_toArray, List.set_cons_zero, List.set_cons_succ]
                    refine wpAnyH_take (i := 26) (v := undef) rfl (by kernel_rfl) (by kernel_rfl) (by kernel_rfl) (fun _ _ _ h => h) (Or.inr ⟨by rfl, rfl⟩) (HC.out _ HB.out) ?_
                    change wpAnyH _ _ _ _ _ _ _ (Act.put _ (some 114) _) _
                    simp only [Act.put, List.setIfInBounds_toArray, List.set_cons_zero, List.set_cons_succ]
                    refine wpAnyH_take (i := 27) (v := undef) rfl (by kernel_rfl) (by kernel_rfl) (by kernel_rfl) (fun _ _ _ h => h) (Or.inr ⟨by rfl, rfl⟩) (HC.out _ HB.out) ?_
                    change wpAnyH _ _ _ _ _ _ _ (Act.put _ (some 115) _) _
                    simp only [Act.put, List.setIfInBounds_toArray, List.set_cons_zero, List.set_cons_succ]
                    refine wpAnyH_take (i := 28) (v := undef) rfl (by kernel_rfl) (by kernel_rfl) (by kernel_rfl) (fun _ _ _ h => h) (Or.inr ⟨by rfl, rfl⟩) (HC.out _ HB.out) ?_
                    change wpAnyH _ _ _ _ _ _ _ (Act.put _ (some 116) _) _
                    simp only [Act.put, List.setIfInBounds_toArray, List.set_cons_zero, List.set_cons_succ]
                    refine wpAnyH_take (i := 29) (v := undef) rfl (by kernel_rfl) (by kernel_rfl) (by kernel_rfl) (fun _ _ _ h => h) (Or.inr ⟨by rfl, rfl⟩) (HC.out _ HB.out) ?_
                    change wpAnyH _ _ _ _ _ _ _ (Act.put _ (some 117) _) _
                    simp only [Act.put, List.setIfInBounds_toArray, List.set_cons_zero, List.set_cons_succ]
                    refine wpAnyH_take (i := 30) (v := undef) rfl (by kernel_rfl) (by kernel_rfl) (by kernel_rfl) (fun _ _ _ h => h) (Or.inr ⟨by rfl, rfl⟩) (HC.out _ HB.out) ?_
                    change wpAnyH _ _ _ _ _ _ _ (Act.put _ (some 118) _) _
                    simp only [Act.put, List.setIfInBounds_toArray, List.set_cons_zero, List.set_cons_succ]
                    refine wpAnyH_take (i := 31) (v := undef) rfl (by kernel_rfl) (by kernel_rfl) (by kernel_rfl) (fun _ _ _ h => h) (Or.inr ⟨by rfl, rfl⟩) (HC.out _ HB.out) ?_
                    change wpAnyH _ _ _ _ _ _ _ (Act.put _ (some 119) _) _
                    simp only [Act.put, List.setIfInBounds_toArray, List.set_cons_zero, List.set_cons_succ]
                    refine wpAnyH_take (i := 32) (v := undef) rfl (by kernel_rfl) (by kernel_rfl) (by kernel_rfl) (fun _ _ _ h => h) (Or.inr ⟨by rfl, rfl⟩) (HC.out _ HB.out) ?_
                    change wpAnyH _ _ _ _ _ _ _ (Act.put _ (some 120) _) _
                    simp only [Act.put, List.setIfInBounds_toArray, List.set_cons_zero, List.set_cons_succ]
                    refine wpAnyH_take (i := 33) (v := .bool false) rfl (by kernel_rfl) (by kernel_rfl) (by kernel_rfl) (fun _ _ _ h => h) (Or.inl ⟨by rfl, fun w' hSw => ?_⟩) (HC.out _ HB.out) ?_
                    · dsimp only at hSw
                      go_simp
                    change wpAnyH _ _ _ _ _ _ _ (Act.put _ (some 121) _) _
                    simp only [Act.put, List.setIfInBounds_toArray, List.set_cons_zero, List.set_cons_succ]
                    refine wpAnyH_take (i := 34) (v := .bool false) rfl (by kernel_rfl) (by kernel_rfl) (by kernel_rfl) (fun _ _ _ h => h) (Or.inl ⟨by rfl, fun w' hSw => ?_⟩) (HC.out _ HB.out) ?_
                    · dsimp only at hSw
                      go_simp
                    change wpAnyH _ _ _ _ _ _ _ (Act.put _ (some 122) _) _
                    simp only [Act.put, List.setIfInBounds_toArray, List.set_cons_zero, List.set_cons_succ]
                    refine wpAnyH_done (by kernel_rfl) ?_ _
                    go_wp2_with (fail)
                    go_roundw
                    case rel => exact ⟨j + 1, by go_num, by omega, Lib.hid (hb.out.trans (HB.out.mono hszx))⟩
                    case measure => simp [intOf]; omega
                · have y1 := Lib.hid (ha.out.below St.out hb.out)
                  have y2 := Lib.hid (hgr.out.below St.out hb.out)
                  have y3 := Lib.hid (hout.out.below hb.out)
                  go_wp2_with (fail)
                  go_roundw
                  case rel => exact ⟨p + 1, by go_num, by omega, y1, y2, y3⟩
                  case measure => simp [intOf]; omega
            · have ep : p = q := by omega
              subst ep
              have hgr0 : Hid (Grs 185 94 2 TR B w.heap.size gb p V (fun j => n j + 64) n 0 w5) := Lib.hid (hgr.out.none _ _)
              clear hgr
              go_wp2_with (fail)
              go_loopw [11] (fun s11 wr => ∃ r : Nat, s11 = .int .i64 r ∧ r ≤ p ∧ Hid (Ap 185 2 TR B N p V n n wr) ∧ Hid (Grs 185 94 2 TR B w.heap.size gb p V (fun j => n j + 64) n r wr) ∧ Hid (Out p V w wr)) (fun s11 _ => p - (intOf s11).toNat)
              case atStart => exact ⟨0, rfl, by omega, ha, hgr0, hout⟩
              case round =>
                clear ha hgr0 hout
                obtain ⟨wk, rfl⟩ : ∃ z, z = wr := ⟨_, rfl⟩
                obtain ⟨r, rfl, hr, ha, hgr, hout⟩ := hrel
                by_cases hrp : r < p
                · have hnm := HF.out r hrp
                  obtain ⟨a, c, hv, hcc1, hcc2, -⟩ := ha.out.split hrp
                  obtain ⟨nk, hnk⟩ : ∃ m, m = n r := ⟨_, rfl⟩
                  rw [← hnk] at hnm hv hcc1
                  have HV := Lib.hid hv
                  have Hnk := Lib.hid hnk
                  clear hv hnk
                  obtain ⟨gm, hgm⟩ : ∃ z, z = wk.heap.size := ⟨_, rfl⟩
                  have Hgm := Lib.hid hgm
                  clear hgm
                  obtain ⟨w6, hrun, hown6, hg6⟩ := run_make_full (P := Tryz.prog) (w := wk) wk.heap.size 94 185 i0 (Value.agg #[.slice none 0 0, .slice none 0 0]) 2 Tryz.underlying94 Hi2.out Hz02.out Hz12.out .i64 .i64 64 Hb02.out (by simp only [maxLen]; omega) (Nat.le_refl _)
                  rw [← Hgm.out] at hrun hown6
                  have hrun' : (Instr.makeSlice 94 (.int .i64 64) (.int .i64 64)).run Tryz.prog wk = .ok (.slice (some ⟨gm, 0, none⟩) 64 64) w6 := hrun
                  have HO6 : Hid (∃ Z, w6.ownsRow gm 185 2 (.slice (some ⟨gm, 0, none⟩) 64 64) 64 Z ∧ ∀ u ∈ Z, u.oneCell' = true) := Lib.hid ⟨_, hown6, (by rw [show (madeCells (Value.agg #[.slice none 0 0, .slice none 0 0]).cells (64 * 2)).toList = List.replicate 128 (Value.slice none 0 0) from by kernel_rfl]; intro u hu; rw [(List.mem_replicate.1 hu).2]; rfl)⟩
                  have HB6 : Hid (Below wk.heap.size wk w6) := Lib.hid ((Below.refl _ wk).grown hg6 (Nat.le_refl _) (fun k e => by cases e))
                  clear hown6 hg6 hrun
                  go_wp2_with (fail)
                  go_loopw [13] (fun s13 wx => ∃ i : Nat, s13 = .int .i64 i ∧ i ≤ 64 ∧ Hid (∃ Z, wx.ownsRow gm 185 2 (.slice (some ⟨gm, 0, none⟩) 64 64) 64 Z ∧ ∀ u ∈ Z, u.oneCell' = true) ∧ Hid (Below wk.heap.size wk wx)) (fun s13 _ => 64 - (intOf s13).toNat)
                  case atStart => exact ⟨0, rfl, by omega, HO6, HB6⟩
                  case round =>
                    clear HO6 HB6
                    obtain ⟨i, rfl, hi, ho, hb⟩ := hrel
                    by_cases hin : i < 64
                    · have hmk := fun W => markRow_R (r + p) i W (by omega) (by omega)
                      simp only [Int.natCast_add] at hmk
                      skip
                      have i7 := wrap_in (x := (r : Int) + (p : Int)) (by omega) (by omega)
                      have Hfun := Lib.hid (fun (wm : World) (hbm : Below wr.heap.size wr wm) => by
                        obtain ⟨Z, h2, h3⟩ := ho.out
                        have h2 := rows_below h2 hbm
                        exact (⟨⟨Z, h2, h3⟩, (⟨rowc_at h2 (k := i * 2) (by omega), rowc_at h2 (k := i * 2 + 1) (by omega)⟩ : _ ∧ _), hb.out.trans (hbm.mono hb.out.size)⟩ : (∃ Z, wm.ownsRow gm 185 2 (.slice (some ⟨gm, 0, none⟩) 64 64) 64 Z ∧ ∀ u ∈ Z, u.oneCell' = true) ∧ _ ∧ _))
                      go_wp2_with (go_at_call 156; refine (hmk _).mono ?_; rintro e wm ⟨b, rfl, hmb, hbm⟩; have Hmb := Lib.hid hmb; clear hmb; obtain ⟨z1, ⟨⟨⟨c1, c1x⟩, f1⟩, ⟨c2, c2x⟩, f2⟩, z3⟩ := Hfun.out wm hbm; have Z1 := Lib.hid z1; have Z3 := Lib.hid z3; clear z1 z3 hbm)
                      have O7 : Hid (∃ Z, ((wm.setCell ⟨gm, i * 2, none⟩ (.slice (some ⟨b, 0, none⟩) 1 1)).setCell ⟨gm, i * 2 + 1, none⟩ (.slice none 0 0)).ownsRow gm 185 2 (.slice (some ⟨gm, 0, none⟩) 64 64) 64 Z ∧ ∀ u ∈ Z, u.oneCell' = true) := Lib.hid (by
                        obtain ⟨Z, h2, h3⟩ := Z1.out
                        exact ⟨_, (row_set (row_set h2 (i * 2) _) (i * 2 + 1) _), (fun u hu => (List.mem_or_eq_of_mem_set hu).elim (fun hu => (List.mem_or_eq_of_mem_set hu).elim (h3 u) (fun h => by rw [h]; rfl)) (fun h => by rw [h]; rfl))⟩)
                      have B7 : Hid (Below wk.heap.size wk ((wm.setCell ⟨gm, i * 2, none⟩ (.slice (some ⟨b, 0, none⟩) 1 1)).setCell ⟨gm, i * 2 + 1, none⟩ (.slice none 0 0))) := Lib.hid ((Z3.out.setCell (p := ⟨gm, i * 2, none⟩) (Nat.le_of_eq Hgm.out.symm) _).setCell (p := ⟨gm, i * 2 + 1, none⟩) (Nat.le_of_eq Hgm.out.symm) _)
                      go_roundw
                      case rel => exact ⟨i + 1, by go_num, by omega, O7, B7⟩
                      case measure => simp [intOf]; omega
                    · have ei : i = 64 := by omega
                      subst ei
                      obtain ⟨Z, hoM, hone⟩ := ho.out
                      have hzl := hoM.1
                      have Hzl := Lib.hid hzl
                      have Hone := Lib.hid hone
                      have hsrc := World.ownsRow.cells (g := gm) hoM rfl
                      have Hsrc := Lib.hid hsrc
                      have HA8 := Lib.hid (ha.out.below St.out hb.out)
                      have HG8 := Lib.hid (hgr.out.below St.out hb.out)
                      have HT8 := Lib.hid (hout.out.below hb.out)
                      have hcl := (HT8.out.cell (p := ⟨lb, r, none⟩) (fun j hj => ha.out.ne hj hlb1) hlb2).trans (HLS.out r hrp)
                      rw [HV.out] at hcl
                      obtain ⟨X8, hop, hT8⟩ := HA8.out.own r hrp
                      rw [← Hnk.out] at hop hT8
                      rw [HV.out] at hop
                      have Hop := Lib.hid hop
                      have HTx := Lib.hid hT8
                      have HgeB : Hid (B ≤ wr.heap.size) := Lib.hid (Nat.le_trans HBN.out HA8.out.size)
                      clear hoM hsrc hop hT8 hone hzl
                      go_wp2_with (at_builtin; refine wpList_append_keepC rfl _ _ 94 rfl 185 i0 (Value.agg #[.slice none 0 0, .slice none 0 0]) Tryz.underlying94 Hi2.out Hz02.out Hz12.out rfl rfl Hop.out _ 64 rfl ⟨_, rfl, Hsrc.out⟩ Hone.out Hzl.out (by decide) HgeB.out (by rw [Hby.out]; omega) (by omega) ?_; intro g4 c4 w4 ho4 hov4 hg4 hb4; have hfr4 : Fr 185 94 wr w4 := Fr.own hg4 Hop.out; have hkp4 : Kp wr.heap.size (V r) wr w4 := Kp.refl.grown hg4 (fun k e => .inl (by rw [HV.out]; exact e)); have hgr4 := HG8.out.keep St.out HA8.out hrp ha0N.out hfr4 hkp4.block; obtain ⟨⟨u0, hu0⟩, hfz⟩ := hgr4.slot hrp; have O4 := Lib.hid ho4; have OV4 := Lib.hid hov4; have G4 := Lib.hid hg4; have B4 := Lib.hid hb4; have GR4 := Lib.hid hgr4; have F4 := Lib.hid hfr4; clear ho4 hov4 hg4 hb4 hkp4 hgr4 hfr4)
                      have hgbb : w.heap.size ≤ gb := hgr.out.row.1
                      have O9 : Hid (w4.ownsRow B 185 2 (.slice (some ⟨g4, 0, none⟩) (n r + 64) c4) (n r + 64) (X8 ++ Z)) := Lib.hid (by
                        have h := O4.out
                        rw [Hnk.out] at h
                        exact h)
                      have T9' : Hid (TR w4 (X8 ++ Z) r (n r)) := Lib.hid (St.out.ext (St.out.st F4.out (by have h := HTx.out; rw [Hnk.out] at h; exact h)))
                      have D9 : Hid (((V r).ownBlock = some g4 ∨ w.heap.size ≤ g4) ∧ g4 ≠ gb) := Lib.hid (by
                        have h5 := HA8.out.lt r hrp g4
                        rw [HV.out] at h5 ⊢
                        have h6 := ha0N.out
                        have h7 : gb < wr.heap.size := HG8.out.row.2
                        rcases B4.out with h | h
                        · exact ⟨.inl h, by have := h5 h; omega⟩
                        · exact ⟨.inr (by have := HT8.out.size; omega), by omega⟩)
                      have A9 := Lib.hid (HA8.out.keepgrow St.out (by decide) hrp Hop.out (by rw [Hnk.out]; exact Nat.le_refl _) (fun b e => .inl (by rw [HV.out]; exact e)) G4.out OV4.out)
                      have T9 := Lib.hid (HT8.out.grown G4.out (fun b e => .inl ⟨r, hrp, by rw [HV.out]; exact e⟩))
                      rw [Hnk.out]
                      refine ⟨⟨r + 1, by go_num, by omega, Lib.hid (A9.out.new St.out (grown_one w4 gb r _) (fun b e => by cases e; exact Nat.le_trans ha0N.out hgbb) (GR4.out.fr r _)), Lib.hid (GR4.out.put St.out hrp O9.out T9'.out D9.out.1 D9.out.2), Lib.hid (T9.out.grown (grown_one w4 gb r _) (fun b e => by cases e; exact .inr hgbb))⟩, by simp [intOf]; omega⟩
                · have ep : r = p := by omega
                  subst ep
                  go_wp2_with (fail)
                  go_loopw [14] (fun s14 wr => ∃ t : Nat, s14 = .int .i64 t ∧ t ≤ r ∧ Hid (Ap 185 2 TR B N r V n n wr) ∧ Hid (Grs 185 94 2 TR B w.heap.size gb r V (fun j => n j + 64) n r wr) ∧ Hid (Out r V w wr)) (fun s14 _ => r - (intOf s14).toNat)
                  case atStart => exact ⟨0, rfl, by omega, ha, hgr, hout⟩
                  case round =>
                    clear ha hgr hout
                    obtain ⟨w5, rfl⟩ : ∃ z, z = wr := ⟨_, rfl⟩
                    obtain ⟨t, rfl, ht, ha, hgr, hout⟩ := hrel
                    by_cases htr : t < r
                    · obtain ⟨g, c, Y, hgc, hgo, hgT⟩ := hgr.out.cell htr htr
                      obtain ⟨a9, c9, e9, hcc1, hcc2, -⟩ := rows_form hgo
                      cases e9
                      have hnm := HF.out t htr
                      obtain ⟨a6, c6, hv6, hcd1, hcd2, hsome6⟩ := ha.out.split htr
                      obtain ⟨X6, hop6, hT6⟩ := ha.out.own t htr
                      obtain ⟨nk, hnk⟩ : ∃ m, m = n t := ⟨_, rfl⟩
                      rw [← hnk] at hgc hgo hgT hcc1 hnm hv6 hcd1 hsome6 hop6 hT6
                      have Hgc := Lib.hid hgc
                      have Hgo := Lib.hid hgo
                      have HgT := Lib.hid hgT
                      have HV6 := Lib.hid hv6
                      have Hsome6 := Lib.hid hsome6
                      have hcl6 := (hout.out.cell (p := ⟨lb, t, none⟩) (fun j hj => ha.out.ne hj hlb1) hlb2).trans (HLS.out t htr)
                      rw [hv6] at hcl6 hop6
                      have Hcl6 := Lib.hid hcl6
                      have Hop6 := Lib.hid hop6
                      have HT6 := Lib.hid hT6
                      have hszr : gb < w5.heap.size ∧ lb < w5.heap.size := ⟨hgr.out.row.2, Nat.lt_of_lt_of_le hlb2 hout.out.size⟩
                      obtain ⟨hsz1, hsz2⟩ := hszr
                      clear hv6 hsome6 hop6 hT6 hgo hgT hnk hgc
                      go_wp2_with (fail)
                      go_loopw [15] (fun s15 wx => ∃ j : Nat, s15 = .int .i64 j ∧ j ≤ nk ∧ Hid (Below w5.heap.size w5 wx)) (fun s15 _ => nk - (intOf s15).toNat)
                      case atStart => exact ⟨0, rfl, by omega, Lib.hid (Below.refl _ _)⟩
                      case round =>
                        clear hcl6
                        obtain ⟨j, rfl, hj, hb⟩ := hrel
                        have hcl6 := (hb.out.cell (p := ⟨lb, t, none⟩) hsz2).trans Hcl6.out
                        have hszx := hb.out.size
                        by_cases hjk : j < nk
                        · obtain ⟨g', rfl⟩ := Hsome6.out (by omega)
                          have hg7 := (row_lt Hgo.out).2
                          have hg8 := (row_lt Hop6.out).2
                          have hmk := fun W => markRow_R t j W (by omega) (by omega)
                          have hjn : j < nk + 64 := by omega
                          have hj1 : (j : Int) < (nk : Int) + 64 := by omega
                          have hj0 : (0 : Int) ≤ (j : Int) := by omega
                          obtain ⟨b1, k1, k2, hm1⟩ := HgT.out j (by omega)
                          have k1 := (Hgo.out.cellAt (j * 2) (by omega)).trans k1
                          have k2 := (Hgo.out.cellAt (j * 2 + 1) (by omega)).trans k2
                          have HM1 := Lib.hid (hm1.below hb.out hm1.lt)
                          obtain ⟨b2, k3, k4, hm2⟩ := HT6.out j (by omega)
                          have k3 := (Hop6.out.cellAt (j * 2) (by omega)).trans k3
                          have k4 := (Hop6.out.cellAt (j * 2 + 1) (by omega)).trans k4
                          have HM2 := Lib.hid (hm2.below hb.out hm2.lt)
                          generalize mkB t j = m at hmk HM1 HM2
                          have HC : Hid (∀ W, Below wr.heap.size wr W → W.cell? ⟨gb, t, none⟩ = some (.slice (some ⟨g, 0, none⟩) (nk + 64) c) ∧ W.cell? ⟨g, j * 2, none⟩ = some (.slice (some ⟨b1, 0, none⟩) 1 1) ∧ W.cell? ⟨g, j * 2 + 1, none⟩ = some (.slice none 0 0) ∧ W.cell? ⟨lb, t, none⟩ = some (.slice (some ⟨g', 0, none⟩) nk c6) ∧ W.cell? ⟨g', j * 2, none⟩ = some (.slice (some ⟨b2, 0, none⟩) 1 1) ∧ W.cell? ⟨g', j * 2 + 1, none⟩ = some (.slice none 0 0)) := Lib.hid fun W hW =>
                            ⟨(hW.cell (by show gb < _; omega)).trans ((hb.out.cell (by exact hsz1)).trans Hgc.out), (hW.cell (by show g < _; omega)).trans ((hb.out.cell (by exact hg7)).trans k1), (hW.cell (by show g < _; omega)).trans ((hb.out.cell (by exact hg7)).trans k2), (hW.cell (by show lb < _; omega)).trans ((hb.out.cell (by exact hsz2)).trans Hcl6.out), (hW.cell (by show g' < _; omega)).trans ((hb.out.cell (by exact hg8)).trans k3), (hW.cell (by show g' < _; omega)).trans ((hb.out.cell (by exact hg8)).trans k4)⟩
                          have HB : Hid (Below wr.heap.size wr wr.drew) := Lib.hid (Below.refl _ _).drew
                          have HSR := Lib.hid (fun W x y hx hy => SameRow_R m W x y hx hy)
                          obtain ⟨s0, s1, s2, s3, s4, s5⟩ := HC.out _ HB.out
                          clear k1 k2 hm1 k3 k4 hm2
                          go_wp2_with (fail)
                          go_region_held3 (fun w' => w'.cell? ⟨gb, t, none⟩ = some (.slice (some ⟨g, 0, none⟩) (nk + 64) c) ∧ w'.cell? ⟨g, j * 2, none⟩ = some (.slice (some ⟨b1, 0, none⟩) 1 1) ∧ w'.cell? ⟨g, j * 2 + 1, none⟩ = some (.slice none 0 0) ∧ w'.cell? ⟨lb, t, none⟩ = some (.slice (some ⟨g', 0, none⟩) nk c6) ∧ w'.cell? ⟨g', j * 2, none⟩ = some (.slice (some ⟨b2, 0, none⟩) 1 1) ∧ w'.cell? ⟨g', j * 2 + 1, none⟩ = some (.slice none 0 0)) (first | go_keep | exact ⟨s0, s1, s2, s3, s4, s5⟩) (first | (go_at_call 156; refine (hmk _).mono ?_; rintro e wA ⟨b3, rfl, mA, bA⟩; have HB := Lib.hid (HB.out.trans (bA.mono HB.out.size)); have HM3 := Lib.hid mA; obtain ⟨s0, s1, s2, s3, s4, s5⟩ := HC.out _ HB.out; clear mA bA) | (go_at_call 157; refine (HSR.out _ _ _ (by first | exact HM1.out.below HB.out HM1.out.lt | exact HM2.out.below HB.out HM2.out.lt) HM3.out).mono ?_; rintro e wA ⟨rfl, bA⟩; have HB := Lib.hid (HB.out.trans (bA.mono HB.out.size)); obtain ⟨s0, s1, s2, s3, s4, s5⟩ := HC.out _ HB.out; clear bA))
                          go_wp2_with (fail)
                          go_roundw
                          case rel => exact ⟨j + 1, by go_num, by omega, Lib.hid (hb.out.trans (HB.out.mono hszx))⟩
                          case measure => simp [intOf]; omega
                        · have y1 := Lib.hid (ha.out.below St.out hb.out)
                          have y2 := Lib.hid (hgr.out.below St.out hb.out)
                          have y3 := Lib.hid (hout.out.below hb.out)
                          go_wp2_with (fail)
                          go_roundw
                          case rel => exact ⟨t + 1, by go_num, by omega, y1, y2, y3⟩
                          case measure => simp [intOf]; omega
                    · go_wp2_with (fail)
                      go_ret
                      exact ⟨rfl, hout.out⟩
end Go.Proofs.YtohlkkannjifmaaGreatDoor
