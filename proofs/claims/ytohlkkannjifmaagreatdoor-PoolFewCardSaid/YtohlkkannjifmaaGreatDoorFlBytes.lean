/- The walk of storemankit.flatBytes. -/
import Derived.Test.YtohlkkannjifmaaGreatDoorLent
import Derived.Test.YtohlkkannjifmaaGreatDoorTxA
import Derived.Test.YtohlkkannjifmaaGreatDoorPure3
import Derived.Deep.RegionHeld3
namespace Go.Proofs.YtohlkkannjifmaaGreatDoor
open Go.RowKit
theorem wrap_in {x : Int} (h : -9223372036854775808 ≤ x) (h' : x ≤ 9223372036854775807) : IntKind.i64.wrap x = x := IntWalk.i64_in _ (by omega)
theorem one_list (W : World) (v : Value) (t : TypeId) : ∀ j u, [v][j]? = some u → (W.alloc (.cells #[v] t)).cell? ((⟨W.heap.size, 0, none⟩ : Addr).add j) = some u := by
  intro j u hu
  match j, hu with
  | 0, hu =>
    simp only [List.getElem?_cons_zero, Option.some.injEq] at hu
    subst hu
    have e : (⟨W.heap.size, 0, none⟩ : Addr).add 0 = ⟨W.heap.size, 0, none⟩ := by unfold Addr.add; simp
    rw [e]
    simp only [World.cell?, heap_alloc_new]
    rfl
def TB (_w : World) (X : List Value) (k i : Nat) : Prop := ∀ t, t < i → X[t]? = some (.int .u8 ((mkB k t).toNat : Int))
theorem TB_stab {e le : TypeId} : Stab e le TB :=
  ⟨fun _ h => h, fun h t ht => by rw [List.getElem?_append_left (List.getElem?_eq_some_iff.1 (h t ht)).1]; exact h t ht, fun _ _ _ t ht => absurd ht (Nat.not_lt_zero _), fun h hi t ht => h t (Nat.lt_of_lt_of_le ht hi)⟩
theorem TB_set {w w' : World} {X : List Value} {k i : Nat} (h : TB w X k i) (hi : i < X.length) : TB w' (X.set i (.int .u8 ((mkB k i).toNat : Int))) k (i + 1) := fun t ht => by
  by_cases e : t = i
  · subst e; rw [List.getElem?_set_self hi]
  · rw [List.getElem?_set_ne (fun h => e h.symm)]; exact h t (by omega)
theorem TB_app {w w' : World} {X : List Value} {k i : Nat} (h : TB w X k i) (hi : X.length = i) : TB w' (X ++ [.int .u8 ((mkB k i).toNat : Int)]) k (i + 1) := fun t ht => by
  by_cases e : t = i
  · subst e; rw [List.getElem?_append_right (by omega), hi, Nat.sub_self]; rfl
  · rw [List.getElem?_append_left (by omega)]; exact h t (by omega)
theorem markByte_B (k i : Nat) (w : World) (hk : k ≤ 1000000) (hi : i ≤ 1000000000) :
    Calls Tryz.prog 141 #[.int .i64 (k : Int), .int .i64 (i : Int)] w fun e w' => e = .returned (.int .u8 ((mkB k i).toNat : Int)) ∧ Below w.heap.size w w' :=
  (markByte_any k i w hk hi).mono fun _ _ h => ⟨h.1, h.2 ▸ Below.refl _ _⟩
set_option maxHeartbeats 8000000 in
set_option maxRecDepth 100000 in
theorem flatBytes_any (B N K cK lb : Nat) (V : Nat → Value) (n : Nat → Nat) (w : World) (hBN : B ≤ N) (hA : Ap 5 1 TB B N K V n (fun _ => 0) w) (hK : K ≤ 100000) (hc : K ≤ cK ∧ cK ≤ 9223372036854775807) (hlb : N ≤ lb ∧ lb < w.heap.size)
    (hls : ∀ k, k < K → w.cell? ⟨lb, k, none⟩ = some (V k)) (hF : ∀ k, k < K → n k ≤ 1000000) :
    Calls Tryz.prog 97 #[.slice (some ⟨lb, 0, none⟩) K cK] w fun e w' => e = .returned (.bool true) ∧ Out K V w w' := by
  obtain ⟨hc1, hc2⟩ := hc
  obtain ⟨hlb1, hlb2⟩ := hlb
  have HA := Lib.hid hA
  have HBN := Lib.hid hBN
  clear hBN
  have ha0N := Lib.hid hA.size
  have HLS := Lib.hid hls
  have HF := Lib.hid hF
  have St : Hid (Stab 5 27 TB) := Lib.hid TB_stab
  clear hA hls hF
  obtain ⟨i1, hi, hz0, hz1, hz2⟩ := info_parts (P := Tryz.prog) (e := 27) (z := .slice none 0 0) (size := 1) (bytes := 24) (by kernel_rfl)
  have Hi := Lib.hid hi
  have Hz0 := Lib.hid hz0
  have Hz1 := Lib.hid hz1
  have hb0 : i1.bytes * K ≤ 281474976710656 := by rw [hz2]; omega
  have Hb0 := Lib.hid hb0
  clear hi hz0 hz1 hz2 hb0
  obtain ⟨i0, hi, hz0, hz1, hz2⟩ := info_parts (P := Tryz.prog) (e := 5) (z := (Value.int .u8 0)) (size := 1) (bytes := 1) (by kernel_rfl)
  have Hi2 := Lib.hid hi
  have Hz02 := Lib.hid hz0
  have Hz12 := Lib.hid hz1
  have hb02 : i0.bytes * 64 ≤ 281474976710656 := by rw [hz2]; omega
  have Hb02 := Lib.hid hb02
  have Hby : Hid (i0.bytes = 1) := Lib.hid hz2
  clear hi hz0 hz1 hz2 hb02
  go_enter Tryz.func97, Tryz.ntmps97
  go_wp2_with (fail)
  go_loopw [3] (fun s3 wr => ∃ k : Nat, s3 = .int .i64 k ∧ k ≤ K ∧ Hid (Ap 5 1 TB B N K V n (fun j => if j < k then n j else 0) wr) ∧ Hid (Out K V w wr)) (fun s3 _ => K - (intOf s3).toNat)
  case atStart => exact ⟨0, rfl, by omega, Lib.hid (HA.out.congr fun j _ => by simp), Lib.hid (Out.refl _ _ _)⟩
  case round =>
    obtain ⟨k, rfl, hk, ha, hout⟩ := hrel
    by_cases hkn : k < K
    · have hcl := (hout.out.cell (p := ⟨lb, k, none⟩) (fun j hj => ha.out.ne hj hlb1) hlb2).trans (HLS.out k hkn)
      have hFk := HF.out k hkn
      obtain ⟨a, c, hv, hcc1, hcc2, hsome⟩ := ha.out.split hkn
      obtain ⟨nk, hnk⟩ : ∃ m, m = n k := ⟨_, rfl⟩
      rw [← hnk] at hFk hv hcc1 hsome
      have Hnk := Lib.hid hnk
      have HV := Lib.hid hv
      have Hsome := Lib.hid hsome
      have HA0 : Hid (Ap 5 1 TB B N K V n (fun j => if j < k then n j else if j = k then 0 else 0) wr) := Lib.hid (ha.out.congr fun j hj => by simp)
      rw [hv] at hcl
      clear hv hsome hnk ha
      go_wp2_with (fail)
      go_loopw [4] (fun s4 wx => ∃ i : Nat, s4 = .int .i64 i ∧ i ≤ nk ∧ Hid (Ap 5 1 TB B N K V n (fun j => if j < k then n j else if j = k then i else 0) wx) ∧ Hid (Out K V w wx)) (fun s4 _ => nk - (intOf s4).toNat)
      case atStart => exact ⟨0, rfl, by omega, HA0, hout⟩
      case round =>
        clear hcl hout HA0
        obtain ⟨i, rfl, hi, ha, hout⟩ := hrel
        have hcl := (hout.out.cell (p := ⟨lb, k, none⟩) (fun j hj => ha.out.ne hj hlb1) hlb2).trans (HLS.out k hkn)
        rw [HV.out] at hcl
        by_cases hin : i < nk
        · obtain ⟨g, rfl⟩ := Hsome.out (by omega)
          have hgb := ha.out.lt k hkn g (by rw [HV.out]; rfl)
          have hne : g ≠ lb := by omega
          have hne2 : lb ≠ g := by omega
          have hsz := hout.out.size
          have hmk := fun W => markByte_B k i W (by omega) (by omega)
          have Hfun := Lib.hid (fun (wm : World) (hbm : Below wr.drew.heap.size wr.drew wm) => by
            have hb : Below wr.heap.size wr wm := ((Below.refl _ wr).drew).trans hbm
            have h1 := ha.out.below St.out hb
            obtain ⟨X, h2, h3⟩ := h1.own k hkn
            rw [← Hnk.out, HV.out] at h2
            rw [if_neg (Nat.lt_irrefl k), if_pos rfl] at h3
            exact (⟨h1, ⟨X, h2, h3⟩, rowc_at h2 (k := i) (by omega), hout.out.below hb, (hb.cell (p := ⟨lb, k, none⟩) (by show lb < wr.heap.size; omega)).trans hcl⟩ : _ ∧ (∃ X, wm.ownsRow B 5 1 (.slice (some ⟨g, 0, none⟩) nk c) nk X ∧ TB wm X k i) ∧ _ ∧ _ ∧ _))
          obtain ⟨m, hm⟩ : ∃ m : Int, m = ((mkB k i).toNat : Int) := ⟨_, rfl⟩
          have Hm := Lib.hid hm
          simp only [← hm] at hmk
          clear hm
          go_wp2_with (fail)
          go_region_held3 (fun w' => w'.cell? ⟨lb, k, none⟩ = some (.slice (some ⟨g, 0, none⟩) nk c)) (first | go_keep | assumption) ((go_at_call 141; refine (hmk _).mono ?_; rintro e wm ⟨rfl, hbm⟩; obtain ⟨q1, q2, ⟨⟨c1, c2⟩, f1⟩, q4, q5⟩ := Hfun.out wm hbm; have Hq1 := Lib.hid q1; have Hq2 := Lib.hid q2; have Hq4 := Lib.hid q4; clear q1 q2 q4 hbm))
          have HA1 : Hid (Ap 5 1 TB B N K V n (fun j => if j < k then n j else if j = k then i + 1 else 0) (wm.setCell ⟨g, i, none⟩ (.int .u8 m))) := Lib.hid (by
            obtain ⟨X, x1, x2⟩ := Hq2.out
            have h3 := Hq1.out.grow St.out hkn (w' := (wm.setCell ⟨g, i, none⟩ (.int .u8 m))) (i := i + 1) (by rw [HV.out]; exact (grown_one wm g i _)) (by rw [HV.out, ← Hnk.out]; exact (row_set x1 i _)) (by rw [Hm.out]; exact TB_set x2 (by rw [x1.1]; omega))
            exact h3.congr fun j hj => by
              by_cases e : j = k
              · rw [if_pos e, if_neg (by omega), if_pos e]
              · rw [if_neg e]
                simp [e])
          have HO1 : Hid (Out K V w (wm.setCell ⟨g, i, none⟩ (.int .u8 m))) := Lib.hid (Hq4.out.grown (r := some g) (grown_one wm g i _) fun b e => by
            cases e
            exact .inl ⟨k, hkn, by rw [HV.out]; rfl⟩)
          go_wp2_with (fail)
          go_roundw
          case rel => exact ⟨i + 1, by go_num, by omega, HA1, HO1⟩
          case measure => simp [intOf]; omega
        · have ei : i = nk := by omega
          have HA2 : Hid (Ap 5 1 TB B N K V n (fun j => if j < k + 1 then n j else 0) wr) := Lib.hid (ha.out.congr fun j hj => by
            by_cases e : j = k
            · rw [if_pos (by omega), if_neg (by omega), if_pos e, ei, Hnk.out, e]
            · by_cases e2 : j < k
              · rw [if_pos (by omega), if_pos e2]
              · rw [if_neg (by omega), if_neg e2, if_neg e])
          clear ei
          go_wp2_with (fail)
          go_roundw
          case rel => exact ⟨k + 1, by go_num, by omega, HA2, hout⟩
          case measure => simp [intOf]; omega
    · have ek : k = K := by omega
      subst ek
      have HA3 : Hid (Ap 5 1 TB B N k V n n wr) := Lib.hid (ha.out.congr fun j hj => by rw [if_pos hj])
      clear ha
      obtain ⟨gb, hgb⟩ : ∃ z, z = wr.heap.size := ⟨_, rfl⟩
      have Hgb := Lib.hid hgb
      clear hgb
      go_wp2_with (refine wpList_make_full wr rfl _ _ 53 rfl w.heap.size 27 i1 (.slice none 0 0) 1 Tryz.underlying53 Hi.out Hz0.out Hz1.out .i64 .i64 _ _ k rfl rfl rfl rfl Hb0.out (by simp only [maxLen]; omega) hout.out.size ?_; intro w1 hown1 hg1; rw [← Hgb.out] at hown1 ⊢; have HG1 : Hid (Grs 5 27 1 TB B w.heap.size gb k V (fun j => n j + 64) (fun j => n j + 64) 0 w1) := Lib.hid ⟨_, by simpa using hown1.1, hown1, fun j hj => absurd hj (Nat.not_lt_zero _)⟩; have HA5 := Lib.hid (HA3.out.new St.out hg1 (fun b e => by cases e) (Fr.grown hg1 (fun b e => by cases e))); have HO4 := Lib.hid (hout.out.grown hg1 (fun b e => by cases e)); clear hown1 hg1)
      clear HA3 hout HA
      have hsz1 := HO4.out.size
      go_loopw [6] (fun s6 wk => ∃ q : Nat, s6 = .int .i64 q ∧ q ≤ k ∧ Hid (Ap 5 1 TB B N k V n n wk) ∧ Hid (Grs 5 27 1 TB B w.heap.size gb k V (fun j => n j + 64) (fun j => n j + 64) q wk) ∧ Hid (Out k V w wk)) (fun s6 _ => k - (intOf s6).toNat)
      case atStart => exact ⟨0, rfl, by omega, HA5, HG1, HO4⟩
      case round =>
        clear HA5 HG1 HO4 hsz1
        obtain ⟨wk, rfl⟩ : ∃ z, z = wr := ⟨_, rfl⟩
        obtain ⟨q, rfl, hq, ha, hgr, hout⟩ := hrel
        by_cases hqk : q < k
        · have hnm := HF.out q hqk
          obtain ⟨a, c, hv, hcc1, hcc2, hsome⟩ := ha.out.split hqk
          obtain ⟨X0, hown0, hT0⟩ := ha.out.own q hqk
          obtain ⟨nk, hnk⟩ : ∃ m, m = n q := ⟨_, rfl⟩
          rw [← hnk] at hnm hv hcc1 hsome hown0 hT0
          have HV := Lib.hid hv
          have Hsome := Lib.hid hsome
          have HOW : Hid (∃ X, wk.ownsRow B 5 1 (V q) nk X ∧ TB wk X q nk) := Lib.hid ⟨X0, hown0, hT0⟩
          have Hnk := Lib.hid hnk
          have hcl := (hout.out.cell (p := ⟨lb, q, none⟩) (fun j hj => ha.out.ne hj hlb1) hlb2).trans (HLS.out q hqk)
          rw [hv] at hcl
          clear hv hsome hnk hown0 hT0
          go_wp2_with (fail)
          go_loopw [7, 8] (fun s7 s8 wx => ∃ (i : Nat) (a7 : Option Addr) (c7 : Nat), s8 = .int .i64 i ∧ s7 = .slice a7 (nk + i) c7 ∧ i ≤ 64 ∧ Hid (∃ X, wx.ownsRow B 5 1 (.slice a7 (nk + i) c7) (nk + i) X ∧ TB wx X q (nk + i)) ∧ Hid (∀ b, (Value.slice a7 (nk + i) c7).ownBlock = some b → (V q).ownBlock = some b ∨ wk.heap.size ≤ b) ∧ Hid (Ap 5 1 TB B N k V n n wx) ∧ Hid (Out k V w wx) ∧ Hid (Kp wk.heap.size (V q) wk wx) ∧ Hid (Fr 5 27 wk wx)) (fun _ s8 _ => 64 - (intOf s8).toNat)
          case atStart => exact ⟨0, a, c, rfl, rfl, by omega, by rw [Nat.add_zero, ← HV.out]; exact HOW, Lib.hid (fun b e => .inl (by rw [HV.out]; exact e)), ha, hout, Lib.hid Kp.refl, Lib.hid (Fr.refl _ _ _)⟩
          case round =>
            clear hcl
            obtain ⟨wx, rfl⟩ : ∃ z, z = wr := ⟨_, rfl⟩
            obtain ⟨i, a7, c7, rfl, rfl, hi, ho, hblk, ha2, hout2, hkp, hfr⟩ := hrel
            have hcl := (hout2.out.cell (p := ⟨lb, q, none⟩) (fun j hj => ha.out.ne hj hlb1) hlb2).trans (HLS.out q hqk)
            rw [HV.out] at hcl
            have hgeB : B ≤ wx.heap.size := by have := ha2.out.size; have := HBN.out; omega
            by_cases hin : i < 64
            · have hmk := fun W => markByte_B q (nk + i) W (by omega) (by omega)
              simp only [Int.natCast_add] at hmk
              obtain ⟨m, hm⟩ : ∃ m : Int, m = ((mkB q (nk + i)).toNat : Int) := ⟨_, rfl⟩
              have Hm := Lib.hid hm
              simp only [← hm] at hmk
              clear hm
              have Hfun := Lib.hid (fun (wm : World) (hbm : Below wx.heap.size wx wm) (c : Array Value) => by
                have hb := hbm.alloc hbm.size (.cells c 5)
                obtain ⟨X, h2, h3⟩ := ho.out
                exact (⟨⟨X, rows_below h2 hb, St.out.st (Fr.below hb) h3⟩, ha2.out.below St.out hb, hout2.out.below hb, hkp.out.below hb, hfr.out.trans (Fr.below hb), Nat.le_trans hgeB hb.size⟩ : (∃ X, (wm.alloc (.cells c 5)).ownsRow B 5 1 (.slice a7 (nk + i) c7) (nk + i) X ∧ TB (wm.alloc (.cells c 5)) X q (nk + i)) ∧ _ ∧ _ ∧ _ ∧ _ ∧ _))
              have i7 := wrap_in (x := (nk : Int) + (i : Int)) (by omega) (by omega)
              clear ho hgeB
              go_wp2_with (first | (go_at_call 141; refine (hmk _).mono ?_; rintro e wm ⟨rfl, hbm⟩; obtain ⟨z1, z2, z3, z4, z4b, z5⟩ := Hfun.out wm hbm #[.int .u8 m]; have Z1 := Lib.hid z1; have Z2 := Lib.hid z2; have Z3 := Lib.hid z3; have Z4 := Lib.hid z4; have Z4b := Lib.hid z4b; have Z5 := Lib.hid z5; clear z1 z2 z3 z4 z4b z5; skip; clear hbm) | (at_builtin; obtain ⟨X1, x1, x2⟩ := Z1.out; refine wpList_append_keepC rfl _ _ 27 rfl 5 i0 (Value.int .u8 0) Tryz.underlying27 Hi2.out Hz02.out Hz12.out rfl rfl x1 _ 1 rfl ⟨_, rfl, one_list wm (.int .u8 m) _⟩ (by intro u hu; rcases List.mem_singleton.1 hu with rfl; rfl) rfl (by decide) Z5.out (by rw [Hby.out]; omega) (by omega) ?_; intro g4 c4 w4 ho4 hov4 hg4 hb4; have X2 := Lib.hid x2; have X1o := Lib.hid x1; have O4 := Lib.hid ho4; have OV4 := Lib.hid hov4; have G4 := Lib.hid hg4; have B4 := Lib.hid hb4; clear ho4 hov4 hg4 hb4 x1 x2))
              have F4 : Hid (Fr 5 27 (wm.alloc (.cells #[.int .u8 m] 5)) w4) := Lib.hid (Fr.own G4.out X1o.out)
              have O5 : Hid (∃ X, w4.ownsRow B 5 1 (.slice (some ⟨g4, 0, none⟩) (nk + (i + 1)) c4) (nk + (i + 1)) X ∧ TB w4 X q (nk + (i + 1))) := Lib.hid ⟨_, O4.out, (by rw [Hm.out]; exact TB_app (TB_stab.st F4.out X2.out) (by rw [X1o.out.1]; omega))⟩
              have B5 : Hid (∀ b, (Value.slice (some ⟨g4, 0, none⟩) (nk + (i + 1)) c4).ownBlock = some b → (V q).ownBlock = some b ∨ wk.heap.size ≤ b) := Lib.hid (fun b e => by
                cases e
                rcases B4.out with h | h
                · exact hblk.out _ h
                · exact .inr (by rw [h]; exact Z4.out.size))
              have A5 : Hid (Ap 5 1 TB B N k V n n w4) := Lib.hid (Z2.out.keepgrow St.out (by decide) hqk X1o.out (by rw [← Hnk.out]; omega) (fun b e => (hblk.out b e).imp id (fun h => by have := ha.out.size; omega)) G4.out OV4.out)
              have T5 : Hid (Out k V w w4) := Lib.hid (Z3.out.grown G4.out (fun b e => by
                rcases hblk.out b e with h | h
                · exact .inl ⟨q, hqk, h⟩
                · exact .inr (Nat.le_trans hout.out.size h)))
              have K5 : Hid (Kp wk.heap.size (V q) wk w4) := Lib.hid (Z4.out.grown G4.out hblk.out)
              have F5 : Hid (Fr 5 27 wk w4) := Lib.hid (Z4b.out.trans F4.out)
              go_roundw
              case rel => exact ⟨i + 1, some ⟨g4, 0, none⟩, c4, by go_num, rfl, by omega, O5, B5, A5, T5, K5, F5⟩
              case measure => simp [intOf]; omega
            · have ei : i = 64 := by omega
              subst ei
              have hgr2 := hgr.out.keep St.out ha.out hqk ha0N.out hfr.out hkp.out.block
              obtain ⟨⟨u0, hu0⟩, hfz⟩ := hgr2.slot hqk
              have Hgr2 := Lib.hid hgr2
              clear hgr2
              obtain ⟨g7, e7⟩ : ∃ g, a7 = some ⟨g, 0, none⟩ := by
                obtain ⟨X, h1, -⟩ := ho.out
                obtain ⟨a, c, e1, -, -, e4⟩ := rows_form h1
                cases e1
                exact e4 (by omega)
              subst e7
              have hgbb : w.heap.size ≤ gb ∧ gb < wk.heap.size := hgr.out.row
              have HP : Hid (Grs 5 27 1 TB B w.heap.size gb k V (fun j => n j + 64) (fun j => n j + 64) (q + 1) (wx.setCell ⟨gb, q, none⟩ (.slice (some ⟨g7, 0, none⟩) (nk + 64) c7))) := Lib.hid (by
                have hx : (V q).ownBlock = some g7 ∨ w.heap.size ≤ g7 := (hblk.out g7 rfl).imp id (fun h => Nat.le_trans hout.out.size h)
                have hy : g7 ≠ gb := by
                  rcases hblk.out g7 rfl with h | h
                  · have := ha.out.lt q hqk g7 h; have := ha0N.out; omega
                  · omega
                obtain ⟨X, h1, h2⟩ := ho.out
                rw [Hnk.out] at h1 h2 ⊢
                exact Hgr2.out.put St.out hqk h1 h2 hx hy)
              have HAp : Hid (Ap 5 1 TB B N k V n n (wx.setCell ⟨gb, q, none⟩ (.slice (some ⟨g7, 0, none⟩) (nk + 64) c7))) := Lib.hid (ha2.out.new St.out (grown_one wx gb q _) (fun b e => by cases e; exact Nat.le_trans ha0N.out hgbb.1) (Hgr2.out.fr q _))
              have HOu : Hid (Out k V w (wx.setCell ⟨gb, q, none⟩ (.slice (some ⟨g7, 0, none⟩) (nk + 64) c7))) := Lib.hid (hout2.out.grown (grown_one wx gb q _) (fun b e => by cases e; exact .inr hgbb.1))
              go_wp2_with (fail)
              go_roundw
              case rel => exact ⟨q + 1, by go_num, by omega, HAp, HP, HOu⟩
              case measure => simp [intOf]; omega
        · have eq : q = k := by omega
          subst eq
          go_wp2_with (fail)
          go_loopw [9] (fun s9 wr => ∃ p : Nat, s9 = .int .i64 p ∧ p ≤ q ∧ Hid (Ap 5 1 TB B N q V n n wr) ∧ Hid (Grs 5 27 1 TB B w.heap.size gb q V (fun j => n j + 64) (fun j => n j + 64) q wr) ∧ Hid (Out q V w wr)) (fun s9 _ => q - (intOf s9).toNat)
          case atStart => exact ⟨0, rfl, by omega, ha, hgr, hout⟩
          case round =>
            clear ha hgr hout
            obtain ⟨w5, rfl⟩ : ∃ z, z = wr := ⟨_, rfl⟩
            obtain ⟨p, rfl, hp, ha, hgr, hout⟩ := hrel
            by_cases hpk : p < q
            · obtain ⟨g, c, Y, hgc, hgo, hgT⟩ := hgr.out.cell hpk hpk
              obtain ⟨a9, c9, e9, hcc1, hcc2, -⟩ := rows_form hgo
              cases e9
              have hnm := HF.out p hpk
              obtain ⟨a6, c6, hv6, hcd1, hcd2, hsome6⟩ := ha.out.split hpk
              obtain ⟨X6, hop6, hT6⟩ := ha.out.own p hpk
              obtain ⟨nk, hnk⟩ : ∃ m, m = n p := ⟨_, rfl⟩
              rw [← hnk] at hgc hgo hgT hcc1 hnm hv6 hcd1 hsome6 hop6 hT6
              have Hgc := Lib.hid hgc
              have Hgo := Lib.hid hgo
              have HgT := Lib.hid hgT
              have HV6 := Lib.hid hv6
              have Hsome6 := Lib.hid hsome6
              have hcl6 := (hout.out.cell (p := ⟨lb, p, none⟩) (fun j hj => ha.out.ne hj hlb1) hlb2).trans (HLS.out p hpk)
              rw [hv6] at hcl6 hop6
              have Hcl6 := Lib.hid hcl6
              have Hop6 := Lib.hid hop6
              have HT6 := Lib.hid hT6
              have hszr : gb < w5.heap.size ∧ lb < w5.heap.size := ⟨hgr.out.row.2, Nat.lt_of_lt_of_le hlb2 hout.out.size⟩
              obtain ⟨hsz1, hsz2⟩ := hszr
              clear hv6 hsome6 hcl6 hop6 hT6 hgo hgT hnk
              go_wp2_with (fail)
              go_loopw [10] (fun s10 wx => ∃ j : Nat, s10 = .int .i64 j ∧ j ≤ nk + 64 ∧ Hid (Below w5.heap.size w5 wx)) (fun s10 _ => nk + 64 - (intOf s10).toNat)
              case atStart => exact ⟨0, rfl, by omega, Lib.hid (Below.refl _ _)⟩
              case round =>
                clear hgc
                obtain ⟨j, rfl, hj, hb⟩ := hrel
                have hgc := (hb.out.cell (p := ⟨gb, p, none⟩) hsz1).trans Hgc.out
                have hszx := hb.out.size
                by_cases hjn : j < nk + 64
                · have hg7 := (row_lt Hgo.out).2
                  have hmk := fun W => markByte_B p j W (by omega) (by omega)
                  by_cases hjk : j < nk
                  · obtain ⟨g', rfl⟩ := Hsome6.out (by omega)
                    have hg8 := (row_lt Hop6.out).2
                    have hd1 : decide ((j : Int) < (nk : Int)) = true := decide_eq_true (by omega)
                    have hd2 : decide (j < nk) = true := decide_eq_true hjk
                    have k1 := (Hgo.out.cellAt j (by omega)).trans (HgT.out j (by omega))
                    have k3 := (Hop6.out.cellAt j (by omega)).trans (HT6.out j (by omega))
                    generalize ((mkB p j).toNat : Int) = m at k1 hmk k3
                    have HC : ∀ (b o : Nat) (u : Value), b < w5.heap.size → w5.cell? ⟨b, o, none⟩ = some u → ∀ y : BelowW wr, y.v.cell? ⟨b, o, none⟩ = some u := fun b o u h1 h2 y => (y.h.cell (by show b < wr.heap.size; omega)).trans ((hb.out.cell (by exact h1)).trans h2)
                    have f0 := HC gb p _ hsz1 Hgc.out
                    have f1 := HC g j _ hg7 k1
                    have f3 := HC lb p _ hsz2 Hcl6.out
                    have f4 := HC g' j _ hg8 k3
                    clear HC k1 k3
                    go_wp2_with (fail)
                    refine wp_region_below wr (by kernel_rfl) (by kernel_rfl) (Below.refl _ _) ?_
                    repeat (go_big_quiet_step ((go_at_call 141; exact below_call (hmk _))))
                    refine wpQuiet_nil ?_
                    intro _ hw'
                    obtain ⟨y, hw''⟩ := hw'
                    subst hw''
                    clear f0 f1 f3 f4
                    go_wp2_with (fail)
                    go_roundw
                    case rel => exact ⟨j + 1, by go_num, by omega, Lib.hid (hb.out.trans (y.h.mono hszx))⟩
                    case measure => simp [intOf]; omega
                  · have hd1 : decide ((j : Int) < (nk : Int)) = false := decide_eq_false (by omega)
                    have hd2 : decide (j < nk) = false := decide_eq_false hjk
                    have k1 := (Hgo.out.cellAt j (by omega)).trans (HgT.out j (by omega))
                    generalize ((mkB p j).toNat : Int) = m at k1 hmk
                    have HC : ∀ (b o : Nat) (u : Value), b < w5.heap.size → w5.cell? ⟨b, o, none⟩ = some u → ∀ y : BelowW wr, y.v.cell? ⟨b, o, none⟩ = some u := fun b o u h1 h2 y => (y.h.cell (by show b < wr.heap.size; omega)).trans ((hb.out.cell (by exact h1)).trans h2)
                    have f0 := HC gb p _ hsz1 Hgc.out
                    have f1 := HC g j _ hg7 k1
                    have f3 := HC lb p _ hsz2 Hcl6.out
                    clear HC k1
                    go_wp2_with (fail)
                    refine wp_region_below wr (by kernel_rfl) (by kernel_rfl) (Below.refl _ _) ?_
                    repeat (go_big_quiet_step ((go_at_call 141; exact below_call (hmk _))))
                    refine wpQuiet_nil ?_
                    intro _ hw'
                    obtain ⟨y, hw''⟩ := hw'
                    subst hw''
                    clear f0 f1 f3
                    go_wp2_with (fail)
                    go_roundw
                    case rel => exact ⟨j + 1, by go_num, by omega, Lib.hid (hb.out.trans (y.h.mono hszx))⟩
                    case measure => simp [intOf]; omega
                · have y1 := Lib.hid (ha.out.below St.out hb.out)
                  have y2 := Lib.hid (hgr.out.below St.out hb.out)
                  have y3 := Lib.hid (hout.out.below hb.out)
                  go_wp2_with (fail)
                  go_roundw
                  case rel => exact ⟨p + 1, by go_num, by omega, y1, y2, y3⟩
                  case measure => simp [intOf]; omega
            · have ep : p = q := by omega
              subst ep
              have hgr0 : Hid (Grs 5 27 1 TB B w.heap.size gb p V (fun j => n j + 64) n 0 w5) := Lib.hid (hgr.out.none _ _)
              clear hgr
              go_wp2_with (fail)
              go_loopw [11] (fun s11 wr => ∃ r : Nat, s11 = .int .i64 r ∧ r ≤ p ∧ Hid (Ap 5 1 TB B N p V n n wr) ∧ Hid (Grs 5 27 1 TB B w.heap.size gb p V (fun j => n j + 64) n r wr) ∧ Hid (Out p V w wr)) (fun s11 _ => p - (intOf s11).toNat)
              case atStart => exact ⟨0, rfl, by omega, ha, hgr0, hout⟩
              case round =>
                clear ha hgr0 hout
                obtain ⟨wk, rfl⟩ : ∃ z, z = wr := ⟨_, rfl⟩
                obtain ⟨r, rfl, hr, ha, hgr, hout⟩ := hrel
                by_cases hrp : r < p
                · have hnm := HF.out r hrp
                  obtain ⟨a, c, hv, hcc1, hcc2, -⟩ := ha.out.split hrp
                  obtain ⟨nk, hnk⟩ : ∃ m, m = n r := ⟨_, rfl⟩
                  rw [← hnk] at hnm hv hcc1
                  have HV := Lib.hid hv
                  have Hnk := Lib.hid hnk
                  clear hv hnk
                  obtain ⟨gm, hgm⟩ : ∃ z, z = wk.heap.size := ⟨_, rfl⟩
                  have Hgm := Lib.hid hgm
                  clear hgm
                  obtain ⟨w6, hrun, hown6, hg6⟩ := run_make_full (P := Tryz.prog) (w := wk) wk.heap.size 27 5 i0 (Value.int .u8 0) 1 Tryz.underlying27 Hi2.out Hz02.out Hz12.out .i64 .i64 64 Hb02.out (by simp only [maxLen]; omega) (Nat.le_refl _)
                  rw [← Hgm.out] at hrun hown6
                  have hrun' : (Instr.makeSlice 27 (.int .i64 64) (.int .i64 64)).run Tryz.prog wk = .ok (.slice (some ⟨gm, 0, none⟩) 64 64) w6 := hrun
                  have HO6 : Hid (∃ Z, w6.ownsRow gm 5 1 (.slice (some ⟨gm, 0, none⟩) 64 64) 64 Z ∧ ∀ u ∈ Z, u.oneCell' = true) := Lib.hid ⟨_, hown6, (by rw [show (madeCells (Value.int .u8 0).cells (64 * 1)).toList = List.replicate 64 (Value.int .u8 0) from by kernel_rfl]; intro u hu; rw [(List.mem_replicate.1 hu).2]; rfl)⟩
                  have HB6 : Hid (Below wk.heap.size wk w6) := Lib.hid ((Below.refl _ wk).grown hg6 (Nat.le_refl _) (fun k e => by cases e))
                  clear hown6 hg6 hrun
                  go_wp2_with (fail)
                  go_loopw [13] (fun s13 wx => ∃ i : Nat, s13 = .int .i64 i ∧ i ≤ 64 ∧ Hid (∃ Z, wx.ownsRow gm 5 1 (.slice (some ⟨gm, 0, none⟩) 64 64) 64 Z ∧ ∀ u ∈ Z, u.oneCell' = true) ∧ Hid (Below wk.heap.size wk wx)) (fun s13 _ => 64 - (intOf s13).toNat)
                  case atStart => exact ⟨0, rfl, by omega, HO6, HB6⟩
                  case round =>
                    clear HO6 HB6
                    obtain ⟨i, rfl, hi, ho, hb⟩ := hrel
                    by_cases hin : i < 64
                    · have hmk := fun W => markByte_B (r + p) i W (by omega) (by omega)
                      simp only [Int.natCast_add] at hmk
                      generalize ((mkB (r + p) i).toNat : Int) = m at hmk
                      have i7 := wrap_in (x := (r : Int) + (p : Int)) (by omega) (by omega)
                      have Hfun := Lib.hid (fun (wm : World) (hbm : Below wr.heap.size wr wm) => by
                        obtain ⟨Z, h2, h3⟩ := ho.out
                        have h2 := rows_below h2 hbm
                        exact (⟨⟨Z, h2, h3⟩, rowc_at h2 (k := i) (by omega), hb.out.trans (hbm.mono hb.out.size)⟩ : (∃ Z, wm.ownsRow gm 5 1 (.slice (some ⟨gm, 0, none⟩) 64 64) 64 Z ∧ ∀ u ∈ Z, u.oneCell' = true) ∧ _ ∧ _))
                      go_wp2_with (go_at_call 141; refine (hmk _).mono ?_; rintro e wm ⟨rfl, hbm⟩; obtain ⟨z1, ⟨⟨c1, c2⟩, f1⟩, z3⟩ := Hfun.out wm hbm; have Z1 := Lib.hid z1; have Z3 := Lib.hid z3; clear z1 z3 hbm)
                      have O7 : Hid (∃ Z, (wm.setCell ⟨gm, i, none⟩ (.int .u8 m)).ownsRow gm 5 1 (.slice (some ⟨gm, 0, none⟩) 64 64) 64 Z ∧ ∀ u ∈ Z, u.oneCell' = true) := Lib.hid (by
                        obtain ⟨Z, h2, h3⟩ := Z1.out
                        exact ⟨_, (row_set h2 i _), (fun u hu => (List.mem_or_eq_of_mem_set hu).elim (h3 u) (fun h => by rw [h]; rfl))⟩)
                      have B7 : Hid (Below wk.heap.size wk (wm.setCell ⟨gm, i, none⟩ (.int .u8 m))) := Lib.hid (Z3.out.setCell (p := ⟨gm, i, none⟩) (Nat.le_of_eq Hgm.out.symm) _)
                      go_roundw
                      case rel => exact ⟨i + 1, by go_num, by omega, O7, B7⟩
                      case measure => simp [intOf]; omega
                    · have ei : i = 64 := by omega
                      subst ei
                      obtain ⟨Z, hoM, hone⟩ := ho.out
                      have hzl := hoM.1
                      have Hzl := Lib.hid hzl
                      have Hone := Lib.hid hone
                      have hsrc := World.ownsRow.cells (g := gm) hoM rfl
                      have Hsrc := Lib.hid hsrc
                      have HA8 := Lib.hid (ha.out.below St.out hb.out)
                      have HG8 := Lib.hid (hgr.out.below St.out hb.out)
                      have HT8 := Lib.hid (hout.out.below hb.out)
                      have hcl := (HT8.out.cell (p := ⟨lb, r, none⟩) (fun j hj => ha.out.ne hj hlb1) hlb2).trans (HLS.out r hrp)
                      rw [HV.out] at hcl
                      obtain ⟨X8, hop, hT8⟩ := HA8.out.own r hrp
                      rw [← Hnk.out] at hop hT8
                      rw [HV.out] at hop
                      have Hop := Lib.hid hop
                      have HTx := Lib.hid hT8
                      have HgeB : Hid (B ≤ wr.heap.size) := Lib.hid (Nat.le_trans HBN.out HA8.out.size)
                      clear hoM hsrc hop hT8 hone hzl
                      go_wp2_with (at_builtin; refine wpList_append_keepC rfl _ _ 27 rfl 5 i0 (Value.int .u8 0) Tryz.underlying27 Hi2.out Hz02.out Hz12.out rfl rfl Hop.out _ 64 rfl ⟨_, rfl, Hsrc.out⟩ Hone.out Hzl.out (by decide) HgeB.out (by rw [Hby.out]; omega) (by omega) ?_; intro g4 c4 w4 ho4 hov4 hg4 hb4; have hfr4 : Fr 5 27 wr w4 := Fr.own hg4 Hop.out; have hkp4 : Kp wr.heap.size (V r) wr w4 := Kp.refl.grown hg4 (fun k e => .inl (by rw [HV.out]; exact e)); have hgr4 := HG8.out.keep St.out HA8.out hrp ha0N.out hfr4 hkp4.block; obtain ⟨⟨u0, hu0⟩, hfz⟩ := hgr4.slot hrp; have O4 := Lib.hid ho4; have OV4 := Lib.hid hov4; have G4 := Lib.hid hg4; have B4 := Lib.hid hb4; have GR4 := Lib.hid hgr4; have F4 := Lib.hid hfr4; clear ho4 hov4 hg4 hb4 hkp4 hgr4 hfr4)
                      have hgbb : w.heap.size ≤ gb := hgr.out.row.1
                      have O9 : Hid (w4.ownsRow B 5 1 (.slice (some ⟨g4, 0, none⟩) (n r + 64) c4) (n r + 64) (X8 ++ Z)) := Lib.hid (by
                        have h := O4.out
                        rw [Hnk.out] at h
                        exact h)
                      have T9' : Hid (TB w4 (X8 ++ Z) r (n r)) := Lib.hid (St.out.ext (St.out.st F4.out (by have h := HTx.out; rw [Hnk.out] at h; exact h)))
                      have D9 : Hid (((V r).ownBlock = some g4 ∨ w.heap.size ≤ g4) ∧ g4 ≠ gb) := Lib.hid (by
                        have h5 := HA8.out.lt r hrp g4
                        rw [HV.out] at h5 ⊢
                        have h6 := ha0N.out
                        have h7 : gb < wr.heap.size := HG8.out.row.2
                        rcases B4.out with h | h
                        · exact ⟨.inl h, by have := h5 h; omega⟩
                        · exact ⟨.inr (by have := HT8.out.size; omega), by omega⟩)
                      have A9 := Lib.hid (HA8.out.keepgrow St.out (by decide) hrp Hop.out (by rw [Hnk.out]; exact Nat.le_refl _) (fun b e => .inl (by rw [HV.out]; exact e)) G4.out OV4.out)
                      have T9 := Lib.hid (HT8.out.grown G4.out (fun b e => .inl ⟨r, hrp, by rw [HV.out]; exact e⟩))
                      rw [Hnk.out]
                      refine ⟨⟨r + 1, by go_num, by omega, Lib.hid (A9.out.new St.out (grown_one w4 gb r _) (fun b e => by cases e; exact Nat.le_trans ha0N.out hgbb) (GR4.out.fr r _)), Lib.hid (GR4.out.put St.out hrp O9.out T9'.out D9.out.1 D9.out.2), Lib.hid (T9.out.grown (grown_one w4 gb r _) (fun b e => by cases e; exact .inr hgbb))⟩, by simp [intOf]; omega⟩
                · have ep : r = p := by omega
                  subst ep
                  go_wp2_with (fail)
                  go_loopw [14] (fun s14 wr => ∃ t : Nat, s14 = .int .i64 t ∧ t ≤ r ∧ Hid (Ap 5 1 TB B N r V n n wr) ∧ Hid (Grs 5 27 1 TB B w.heap.size gb r V (fun j => n j + 64) n r wr) ∧ Hid (Out r V w wr)) (fun s14 _ => r - (intOf s14).toNat)
                  case atStart => exact ⟨0, rfl, by omega, ha, hgr, hout⟩
                  case round =>
                    clear ha hgr hout
                    obtain ⟨w5, rfl⟩ : ∃ z, z = wr := ⟨_, rfl⟩
                    obtain ⟨t, rfl, ht, ha, hgr, hout⟩ := hrel
                    by_cases htr : t < r
                    · obtain ⟨g, c, Y, hgc, hgo, hgT⟩ := hgr.out.cell htr htr
                      obtain ⟨a9, c9, e9, hcc1, hcc2, -⟩ := rows_form hgo
                      cases e9
                      have hnm := HF.out t htr
                      obtain ⟨a6, c6, hv6, hcd1, hcd2, hsome6⟩ := ha.out.split htr
                      obtain ⟨X6, hop6, hT6⟩ := ha.out.own t htr
                      obtain ⟨nk, hnk⟩ : ∃ m, m = n t := ⟨_, rfl⟩
                      rw [← hnk] at hgc hgo hgT hcc1 hnm hv6 hcd1 hsome6 hop6 hT6
                      have Hgc := Lib.hid hgc
                      have Hgo := Lib.hid hgo
                      have HgT := Lib.hid hgT
                      have HV6 := Lib.hid hv6
                      have Hsome6 := Lib.hid hsome6
                      have hcl6 := (hout.out.cell (p := ⟨lb, t, none⟩) (fun j hj => ha.out.ne hj hlb1) hlb2).trans (HLS.out t htr)
                      rw [hv6] at hcl6 hop6
                      have Hcl6 := Lib.hid hcl6
                      have Hop6 := Lib.hid hop6
                      have HT6 := Lib.hid hT6
                      have hszr : gb < w5.heap.size ∧ lb < w5.heap.size := ⟨hgr.out.row.2, Nat.lt_of_lt_of_le hlb2 hout.out.size⟩
                      obtain ⟨hsz1, hsz2⟩ := hszr
                      clear hv6 hsome6 hop6 hT6 hgo hgT hnk hgc
                      go_wp2_with (fail)
                      go_loopw [15] (fun s15 wx => ∃ j : Nat, s15 = .int .i64 j ∧ j ≤ nk ∧ Hid (Below w5.heap.size w5 wx)) (fun s15 _ => nk - (intOf s15).toNat)
                      case atStart => exact ⟨0, rfl, by omega, Lib.hid (Below.refl _ _)⟩
                      case round =>
                        clear hcl6
                        obtain ⟨j, rfl, hj, hb⟩ := hrel
                        have hcl6 := (hb.out.cell (p := ⟨lb, t, none⟩) hsz2).trans Hcl6.out
                        have hszx := hb.out.size
                        by_cases hjk : j < nk
                        · obtain ⟨g', rfl⟩ := Hsome6.out (by omega)
                          have hg7 := (row_lt Hgo.out).2
                          have hg8 := (row_lt Hop6.out).2
                          have hmk := fun W => markByte_B t j W (by omega) (by omega)
                          have hjn : j < nk + 64 := by omega
                          have hj1 : (j : Int) < (nk : Int) + 64 := by omega
                          have hj0 : (0 : Int) ≤ (j : Int) := by omega
                          have k1 := (Hgo.out.cellAt j (by omega)).trans (HgT.out j (by omega))
                          have k3 := (Hop6.out.cellAt j (by omega)).trans (HT6.out j (by omega))
                          generalize ((mkB t j).toNat : Int) = m at k1 hmk k3
                          have HC : ∀ (b o : Nat) (u : Value), b < w5.heap.size → w5.cell? ⟨b, o, none⟩ = some u → ∀ y : BelowW wr, y.v.cell? ⟨b, o, none⟩ = some u := fun b o u h1 h2 y => (y.h.cell (by show b < wr.heap.size; omega)).trans ((hb.out.cell (by exact h1)).trans h2)
                          have f0 := HC gb t _ hsz1 Hgc.out
                          have f1 := HC g j _ hg7 k1
                          have f3 := HC lb t _ hsz2 Hcl6.out
                          have f4 := HC g' j _ hg8 k3
                          clear HC k1 k3
                          go_wp2_with (fail)
                          refine wp_region_below wr (by kernel_rfl) (by kernel_rfl) (Below.refl _ _) ?_
                          repeat (go_big_quiet_step ((go_at_call 141; exact below_call (hmk _))))
                          refine wpQuiet_nil ?_
                          intro _ hw'
                          obtain ⟨y, hw''⟩ := hw'
                          subst hw''
                          clear f0 f1 f3 f4
                          go_wp2_with (fail)
                          go_roundw
                          case rel => exact ⟨j + 1, by go_num, by omega, Lib.hid (hb.out.trans (y.h.mono hszx))⟩
                          case measure => simp [intOf]; omega
                        · have y1 := Lib.hid (ha.out.below St.out hb.out)
                          have y2 := Lib.hid (hgr.out.below St.out hb.out)
                          have y3 := Lib.hid (hout.out.below hb.out)
                          go_wp2_with (fail)
                          go_roundw
                          case rel => exact ⟨t + 1, by go_num, by omega, y1, y2, y3⟩
                          case measure => simp [intOf]; omega
                    · go_wp2_with (fail)
                      go_ret
                      exact ⟨rfl, hout.out⟩
end Go.Proofs.YtohlkkannjifmaaGreatDoor
