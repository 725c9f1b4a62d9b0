/- The walk of flatParts. -/
import Derived.Test.YthlmnoggeggpkaaGreatJApA
import Derived.Test.YthlmnoggeggpkaaGreatJKeptP
import Derived.Deep.RegionHeld3
namespace Go.Proofs.YthlmnoggeggpkaaGreat
open Go.RowKit

set_option maxHeartbeats 8000000 in
set_option maxRecDepth 100000 in
theorem flatParts_any (B N K cK lb : Nat) (V : Nat → Value) (F : Nat → List Pt) (w : World) (hBN : B ≤ N) (hA : Ap B N K V F w) (hK : K ≤ 100000) (hc : K ≤ cK ∧ cK ≤ 9223372036854775807) (hlb : N ≤ lb ∧ lb < w.heap.size)
    (hls : ∀ k, k < K → w.cell? ⟨lb, k, none⟩ = some (V k)) (hF : ∀ k, k < K → (F k).length ≤ 1000000) :
    Calls Tryz.prog 79 #[.slice (some ⟨lb, 0, none⟩) K cK] w fun e w' => e = .returned (.bool true) ∧ Out B N w w' := by
  obtain ⟨hc1, hc2⟩ := hc
  obtain ⟨hlb1, hlb2⟩ := hlb
  have HA := Lib.hid hA
  have HBN := Lib.hid hBN
  clear hBN
  have ha0N := Lib.hid hA.size
  have HLS := Lib.hid hls
  have HF := Lib.hid hF
  clear hA hls hF
  obtain ⟨i1, hi, hz0, hz1, hz2⟩ := info_parts Tryz.infoLists
  have Hi := Lib.hid hi
  have Hz0 := Lib.hid hz0
  have Hz1 := Lib.hid hz1
  have hb0 : i1.bytes * K ≤ 281474976710656 := by rw [hz2]; omega
  have Hb0 := Lib.hid hb0
  clear hi hz0 hz1 hz2 hb0
  go_enter Tryz.func79, Tryz.ntmps79
  go_wp2_with (fail)
  go_loopw [3] (fun s3 wr => ∃ (k : Nat) (G : Nat → List Pt), s3 = .int .i64 k ∧ k ≤ K ∧ Hid (Ap B N K V G wr) ∧ Hid (∀ j, j < k → G j = marksP j (F j).length) ∧ Hid (∀ j, k ≤ j → G j = F j) ∧ Hid (Out B N w wr)) (fun s3 _ => K - (intOf s3).toNat)
  case atStart => exact ⟨0, F, rfl, by omega, HA, Lib.hid (fun j hj => by omega), Lib.hid (fun _ _ => rfl), Lib.hid (Out.refl _ _ _)⟩
  case round =>
    obtain ⟨k, G, rfl, hk, ha, hg1, hg2, hout⟩ := hrel
    by_cases hkn : k < K
    · have hcl := (hout.out.cell (p := ⟨lb, k, none⟩) hlb1 hlb2).trans (HLS.out k hkn)
      have hop := ha.out.own k hkn
      rw [hg2.out k (Nat.le_refl _)] at hop
      have hFk := HF.out k hkn
      obtain ⟨nk, hnk⟩ : ∃ m, m = (F k).length := ⟨_, rfl⟩
      have Hnk := Lib.hid hnk
      have hcase : ∃ a c, V k = .slice a nk c ∧ nk ≤ c ∧ c ≤ 9223372036854775807 ∧ (0 < nk → ∃ g, a = some ⟨g, 0, none⟩) := by
        by_cases e : V k = .slice none 0 0
        · obtain ⟨h1, ⟨-, h2⟩ | ⟨g, cap, cur, hv, -⟩⟩ := hop
          · exact ⟨none, 0, by rw [e, hnk, h2], by omega, by omega, fun h => by omega⟩
          · rw [e] at hv; cases hv
        · obtain ⟨g, c, h1, h2, h3⟩ := hop.form e
          exact ⟨_, c, by rw [hnk]; exact h1, by omega, h3, fun _ => ⟨g, rfl⟩⟩
      rw [← hnk] at hFk
      obtain ⟨a, c, hv, hcc1, hcc2, hsome⟩ := hcase
      have HV := Lib.hid hv
      have Hsome := Lib.hid hsome
      have HA0 : Hid (Ap B N K V (fun j => if j = k then marksP k 0 ++ (F k).drop 0 else G j) wr) := Lib.hid (ha.out.congr fun j hj => by
        show (if j = k then marksP k 0 ++ (F k).drop 0 else G j) = G j
        by_cases e : j = k
        · rw [if_pos e, e, hg2.out k (Nat.le_refl _)]; rfl
        · rw [if_neg e])
      rw [hv] at hcl
      clear hv hsome hop hnk ha
      go_wp2_with (fail)
      go_loopw [4] (fun s4 wx => ∃ i : Nat, s4 = .int .i64 i ∧ i ≤ nk ∧ Hid (Ap B N K V (fun j => if j = k then marksP k i ++ (F k).drop i else G j) wx) ∧ Hid (Out B N w wx)) (fun s4 _ => nk - (intOf s4).toNat)
      case atStart => exact ⟨0, rfl, by omega, HA0, hout⟩
      case round =>
        clear hcl hout HA0
        obtain ⟨i, rfl, hi, ha, hout⟩ := hrel
        have hcl := (hout.out.cell (p := ⟨lb, k, none⟩) hlb1 hlb2).trans (HLS.out k hkn)
        rw [HV.out] at hcl
        by_cases hin : i < nk
        · obtain ⟨g, rfl⟩ := Hsome.out (by omega)
          have hgb := ha.out.lt k hkn g (by rw [HV.out]; rfl)
          have hne : g ≠ lb := by omega
          have hne2 : lb ≠ g := by omega
          have hsz := hout.out.size
          have hmk := fun W => markPart_any k i W (by omega) (by omega)
          have Hfun := Lib.hid (fun (wm : World) (hbm : Below wr.drew.heap.size wr.drew wm) => by
            have hb : Below wr.heap.size wr wm := ((Below.refl _ wr).drew).trans hbm
            have h1 := ha.out.below hb
            have h2 := h1.own k hkn
            rw [if_pos rfl, HV.out] at h2
            have hl : i < (marksP k i ++ (F k).drop i).length := by rw [List.length_append, marksP_len, List.length_drop, ← Hnk.out]; omega
            exact (⟨h1, h2, h2.at_ hl, hl, hout.out.below hb, (hb.cell (p := ⟨lb, k, none⟩) (by show lb < wr.heap.size; omega)).trans hcl⟩ : _ ∧ _ ∧ _ ∧ _ ∧ _ ∧ _))
          obtain ⟨m, hm⟩ : ∃ m, m = markN k i := ⟨_, rfl⟩
          have Hm := Lib.hid hm
          rw [← hm] at hmk
          clear hm
          go_wp2_with (fail)
          go_region_held3 (fun w' => w'.cell? ⟨lb, k, none⟩ = some (.slice (some ⟨g, 0, none⟩) nk c)) (first | go_keep | assumption) ((go_at_call 93; refine (hmk _).mono ?_; rintro e wm ⟨rfl, hbm⟩; obtain ⟨q1, q2, ⟨⟨c1, c2⟩, f1, f2⟩, q3, q4, q5⟩ := Hfun.out wm hbm; have Hq1 := Lib.hid q1; have Hq2 := Lib.hid q2; have Hq3 := Lib.hid q3; have Hq4 := Lib.hid q4; clear q1 q2 q3 q4 hbm))
          have HA1 : Hid (Ap B N K V (fun j => if j = k then marksP k (i + 1) ++ (F k).drop (i + 1) else G j) ((wm.setCell ⟨g, i * 2, none⟩ (.string ⟨#[]⟩)).setCell ⟨g, i * 2 + 1, none⟩ (.int .i64 (m : Int)))) := Lib.hid (by
            have h2 := Hq2.out.set Hq3.out (mkPt k i)
            rw [marksP_set k i (F k) (by rw [← Hnk.out]; exact hin)] at h2
            unfold mkPt at h2
            rw [← Hm.out] at h2
            have h3 := Hq1.out.grow hkn (by rw [HV.out]; exact grown_set wm g (i * 2) (i * 2 + 1) (.string ⟨#[]⟩) (.int .i64 (m : Int))) (by rw [HV.out]; exact h2)
            exact h3.congr fun j hj => by
              by_cases e : j = k
              · rw [if_pos e, if_pos e]
              · rw [if_neg e, if_neg e, if_neg e])
          have HO1 : Hid (Out B N w ((wm.setCell ⟨g, i * 2, none⟩ (.string ⟨#[]⟩)).setCell ⟨g, i * 2 + 1, none⟩ (.int .i64 (m : Int)))) := Lib.hid (Hq4.out.grown (grown_set wm g (i * 2) (i * 2 + 1) _ _) fun b e => by
            cases e
            exact .inl ⟨((ha.out.own k hkn).ge g (by rw [HV.out]; rfl)).1, hgb⟩)
          go_wp2_with (fail)
          go_roundw
          case rel => exact ⟨i + 1, by go_num, by omega, HA1, HO1⟩
          case measure => simp [intOf]; omega
        · have ei : i = nk := by omega
          subst ei
          have HA2 : Hid (∃ G', Ap B N K V G' wr ∧ (∀ j, j < k + 1 → G' j = marksP j (F j).length) ∧ (∀ j, k + 1 ≤ j → G' j = F j)) := Lib.hid ⟨_, ha.out, fun j hj => by
            by_cases e : j = k
            · rw [if_pos e, e, Hnk.out, List.drop_length, List.append_nil]
            · rw [if_neg e]
              exact hg1.out j (by omega), fun j hj => by
            rw [if_neg (by omega)]
            exact hg2.out j (by omega)⟩
          go_wp2_with (fail)
          go_roundw
          case rel =>
            obtain ⟨G', y1, y2, y3⟩ := HA2.out
            exact ⟨k + 1, G', by go_num, by omega, Lib.hid y1, Lib.hid y2, Lib.hid y3, hout⟩
          case measure => simp [intOf]; omega
    · have ek : k = K := by omega
      subst ek
      have HA3 : Hid (Ap B N k V (fun j => marksP j (F j).length) wr) := Lib.hid (ha.out.congr fun j hj => (hg1.out j hj).symm)
      clear ha hg1 hg2
      obtain ⟨gb, hgb⟩ : ∃ z, z = wr.heap.size := ⟨_, rfl⟩
      have Hgb := Lib.hid hgb
      clear hgb
      have Hln : Hid (∃ n : Nat → Nat, n = fun j => (F j).length) := Lib.hid ⟨_, rfl⟩
      obtain ⟨n, hn⟩ := Hln.out
      have Hn := Lib.hid hn
      clear hn
      go_wp2_with (refine wpList_make_full wr rfl _ _ 38 rfl w.heap.size 26 i1 (.slice none 0 0) 1 Tryz.underlying38 Hi.out Hz0.out Hz1.out .i64 .i64 _ _ k rfl rfl rfl rfl Hb0.out (by simp only [maxLen]; omega) hout.out.size ?_; intro w1 hown1 hg1; rw [← Hgb.out] at hown1 ⊢; have HG1 : Hid (Grs B w.heap.size gb k V n (fun j => marksP j (n j + 64)) 0 w1) := Lib.hid ⟨_, by simpa using hown1.1, hown1, fun j hj => absurd hj (Nat.not_lt_zero _)⟩; have HA4 := Lib.hid (HA3.out.new hg1 (fun b e => by cases e)); have HO4 := Lib.hid (hout.out.grown hg1 (fun b e => by cases e)); clear hown1 hg1)
      clear HA3 hout
      have HA5 : Hid (Ap B N k V (fun j => marksP j (n j)) w1) := Lib.hid (by rw [Hn.out]; exact HA4.out)
      have HF2 : Hid (∀ j, j < k → n j ≤ 1000000) := Lib.hid (by rw [Hn.out]; exact HF.out)
      clear HA4 HF Hn HA
      have hsz1 := HO4.out.size
      go_loopw [6] (fun s6 wk => ∃ q : Nat, s6 = .int .i64 q ∧ q ≤ k ∧ Hid (Ap B N k V (fun j => marksP j (n j)) wk) ∧ Hid (Grs B w.heap.size gb k V n (fun j => marksP j (n j + 64)) q wk) ∧ Hid (Out B N w wk)) (fun s6 _ => k - (intOf s6).toNat)
      case atStart => exact ⟨0, rfl, by omega, HA5, HG1, HO4⟩
      case round =>
        clear HA5 HG1 HO4 hsz1
        obtain ⟨wk, rfl⟩ : ∃ z, z = wr := ⟨_, rfl⟩
        obtain ⟨q, rfl, hq, ha, hgr, hout⟩ := hrel
        by_cases hqk : q < k
        · obtain ⟨nk, hnk⟩ : ∃ m, m = n q := ⟨_, rfl⟩
          have hnm := HF2.out q hqk
          rw [← hnk] at hnm
          obtain ⟨a, c, hv, hcc1, hcc2, hsome⟩ := ha.out.split hqk (nk := nk) (by rw [marksP_len]; exact hnk)
          have HV := Lib.hid hv
          have Hsome := Lib.hid hsome
          have hown0 := ha.out.own q hqk
          rw [← hnk] at hown0
          have HOW := Lib.hid hown0
          have Hnk := Lib.hid hnk
          have hcl := (hout.out.cell (p := ⟨lb, q, none⟩) hlb1 hlb2).trans (HLS.out q hqk)
          rw [hv] at hcl
          clear hv hsome hnk hown0
          go_wp2_with (fail)
          go_loopw [7, 8] (fun s7 s8 wx => ∃ (i : Nat) (a7 : Option Addr) (c7 : Nat), s8 = .int .i64 i ∧ s7 = .slice a7 (nk + i) c7 ∧ i ≤ 64 ∧ Hid (OP B wx (.slice a7 (nk + i) c7) (marksP q (nk + i))) ∧ Hid (∀ b, (Value.slice a7 (nk + i) c7).ownBlock = some b → (V q).ownBlock = some b ∨ wk.heap.size ≤ b) ∧ Hid (Ap B N k V (fun j => marksP j (n j)) wx) ∧ Hid (Out B N w wx) ∧ Hid (Kp wk.heap.size (V q) wk wx)) (fun _ s8 _ => 64 - (intOf s8).toNat)
          case atStart => exact ⟨0, a, c, rfl, rfl, by omega, by rw [Nat.add_zero, ← HV.out]; exact HOW, Lib.hid (fun b e => .inl (by rw [HV.out]; exact e)), ha, hout, Lib.hid Kp.refl⟩
          case round =>
            clear hcl
            obtain ⟨wx, rfl⟩ : ∃ z, z = wr := ⟨_, rfl⟩
            obtain ⟨i, a7, c7, rfl, rfl, hi, ho, hblk, ha2, hout2, hkp⟩ := hrel
            have hcl := (hout2.out.cell (p := ⟨lb, q, none⟩) hlb1 hlb2).trans (HLS.out q hqk)
            rw [HV.out] at hcl
            have hgeB : B ≤ wx.heap.size := by have := ha2.out.size; have := HBN.out; omega
            by_cases hin : i < 64
            · have hmk : ∀ W : World, Calls Tryz.prog 93 #[.int .i64 q, .int .i64 ((nk : Int) + (i : Int))] W fun e w' => e = .returned (.agg #[.string ⟨#[]⟩, .int .i64 (markN q (nk + i) : Nat)]) ∧ Below W.heap.size W w' := fun W => by
                have h := markPart_any q (nk + i) W (by omega) (by omega)
                rw [Int.natCast_add] at h
                exact h
              obtain ⟨m, hm⟩ : ∃ m, m = markN q (nk + i) := ⟨_, rfl⟩
              have Hm := Lib.hid (show marksP q (nk + (i + 1)) = marksP q (nk + i) ++ [([], (m : Int))] by rw [show nk + (i + 1) = nk + i + 1 by omega, marksP_succ]; unfold mkPt; rw [← hm])
              rw [← hm] at hmk
              clear hm
              have hpl := marksP_len q (nk + i)
              have Hpl := Lib.hid hpl
              clear hpl
              have Hfun := Lib.hid (fun (wm : World) (hbm : Below wx.heap.size wx wm) (c : Array Value) => by
                have hb := hbm.alloc hbm.size (.cells c 45)
                exact (⟨ho.out.below hb, ha2.out.below hb, hout2.out.below hb, hkp.out.below hb, Nat.le_trans hgeB hb.size⟩ : _ ∧ _ ∧ _ ∧ _ ∧ _))
              have i7 := wrap_in (x := (nk : Int) + (i : Int)) (by omega) (by omega)
              clear ho hgeB
              go_wp2_with (first | (go_at_call 93; refine (hmk _).mono ?_; rintro e wm ⟨rfl, hbm⟩; obtain ⟨z1, z2, z3, z4, z5⟩ := Hfun.out wm hbm #[.string ⟨#[]⟩, .int .i64 (m : Int)]; have Z1 := Lib.hid z1; have Z2 := Lib.hid z2; have Z3 := Lib.hid z3; have Z4 := Lib.hid z4; have Z5 := Lib.hid z5; clear z1 z2 z3 z4 z5 hbm) | (at_builtin; refine wpList_append_keep rfl _ _ rfl B (.slice a7 (nk + i) c7) (marksP q (nk + i)) [([], (m : Int))] rfl Z1.out _ 1 _ rfl rfl ⟨_, rfl, one_part _ ([], (m : Int)) _⟩ (by simp) Z5.out (by rw [Hpl.out]; simp; omega) ?_; intro g4 c4 w4 ho4 hov4 hg4 hb4; have O4 := Lib.hid ho4; have OV4 := Lib.hid hov4; have G4 := Lib.hid hg4; have B4 := Lib.hid hb4; clear ho4 hov4 hg4 hb4))
              have hszk := ha.out.size
              have O5 : Hid (OP B w4 (.slice (some ⟨g4, 0, none⟩) (nk + (i + 1)) c4) (marksP q (nk + (i + 1)))) := Lib.hid (by
                have h := O4.out
                rw [Hpl.out, ← Hm.out] at h
                exact h)
              have B5 : Hid (∀ b, (Value.slice (some ⟨g4, 0, none⟩) (nk + (i + 1)) c4).ownBlock = some b → (V q).ownBlock = some b ∨ wk.heap.size ≤ b) := Lib.hid (fun b e => by
                cases e
                rcases B4.out with h | h
                · exact hblk.out _ h
                · exact .inr (by rw [h]; exact Z4.out.size))
              have A5 : Hid (Ap B N k V (fun j => marksP j (n j)) w4) := Lib.hid (Z2.out.keepgrow hqk Z1.out (by
                show (marksP q (nk + i)).take (marksP q (n q)).length = marksP q (n q)
                rw [marksP_len, ← Hnk.out]
                exact marksP_take q nk (nk + i) (by omega)) (fun b e => (hblk.out b e).imp id (fun h => by omega)) G4.out OV4.out)
              have T5 : Hid (Out B N w w4) := Lib.hid (Z3.out.grown G4.out (fun b e => by
                rcases hblk.out b e with h | h
                · exact .inl ⟨((ha.out.own q hqk).ge b h).1, ha.out.lt q hqk b h⟩
                · exact .inr (Nat.le_trans hout.out.size h)))
              have K5 : Hid (Kp wk.heap.size (V q) wk w4) := Lib.hid (Z4.out.grown G4.out hblk.out)
              go_roundw
              case rel => exact ⟨i + 1, some ⟨g4, 0, none⟩, c4, by go_num, by rw [Hpl.out]; rfl, by omega, O5, B5, A5, T5, K5⟩
              case measure => simp [intOf]; omega
            · have ei : i = 64 := by omega
              subst ei
              have hgr2 := hgr.out.keep ha.out hqk ha0N.out hkp.out.block
              obtain ⟨⟨u0, hu0⟩, hfz⟩ := hgr2.slot hqk
              have Hgr2 := Lib.hid hgr2
              clear hgr2
              have ho7 := ho.out
              obtain ⟨g7, c7', e7, l7, l8⟩ := ho7.form (fun e => by
                have h := ho7.1
                rw [e] at ho7
                obtain ⟨-, ⟨-, h2⟩ | ⟨g, cap, cur, hv, -⟩⟩ := ho7
                · rw [marksP_len] at h2; omega
                · cases hv)
              rw [marksP_len] at e7
              cases e7
              clear ho7 l7 l8
              have hgbb : w.heap.size ≤ gb ∧ gb < wk.heap.size := by
                obtain ⟨Vs, -, hrow, -⟩ := hgr.out
                exact row_lt hrow
              have HP : Hid (Grs B w.heap.size gb k V n (fun j => marksP j (n j + 64)) (q + 1) (wx.setCell ⟨gb, q, none⟩ (.slice (some ⟨g7, 0, none⟩) (nk + 64) c7))) := Lib.hid (by
                have hx : (V q).ownBlock = some g7 ∨ w.heap.size ≤ g7 := (hblk.out g7 rfl).imp id (fun h => Nat.le_trans hout.out.size h)
                have hy : g7 ≠ gb := by
                  rcases hblk.out g7 rfl with h | h
                  · have := ha.out.lt q hqk g7 h; have := ha0N.out; omega
                  · omega
                have hz := ho.out
                rw [Hnk.out] at hz ⊢
                exact Hgr2.out.put hqk hz hx hy)
              have HAp : Hid (Ap B N k V (fun j => marksP j (n j)) (wx.setCell ⟨gb, q, none⟩ (.slice (some ⟨g7, 0, none⟩) (nk + 64) c7))) := Lib.hid (ha2.out.new (grown_one wx gb q _) (fun b e => by cases e; exact Nat.le_trans ha0N.out hgbb.1))
              have HOu : Hid (Out B N w (wx.setCell ⟨gb, q, none⟩ (.slice (some ⟨g7, 0, none⟩) (nk + 64) c7))) := Lib.hid (hout2.out.grown (grown_one wx gb q _) (fun b e => by cases e; exact .inr hgbb.1))
              go_wp2_with (fail)
              go_roundw
              case rel => exact ⟨q + 1, by go_num, by omega, HAp, HP, HOu⟩
              case measure => simp [intOf]; omega
        · have eq : q = k := by omega
          subst eq
          go_wp2_with (fail)
          go_loopw [9] (fun s9 wr => ∃ p : Nat, s9 = .int .i64 p ∧ p ≤ q ∧ Hid (Ap B N q V (fun j => marksP j (n j)) wr) ∧ Hid (Grs B w.heap.size gb q V n (fun j => marksP j (n j + 64)) q wr) ∧ Hid (Out B N w wr)) (fun s9 _ => q - (intOf s9).toNat)
          case atStart => exact ⟨0, rfl, by omega, ha, hgr, hout⟩
          case round =>
            clear ha hgr hout
            obtain ⟨w5, rfl⟩ : ∃ z, z = wr := ⟨_, rfl⟩
            obtain ⟨p, rfl, hp, ha, hgr, hout⟩ := hrel
            by_cases hpk : p < q
            · obtain ⟨g, c, hgc, hgo⟩ := hgr.out.cell hpk hpk
              have hcc := hgo.some_len
              rw [marksP_len] at hcc
              obtain ⟨-, hcc1, hcc2⟩ := hcc
              have hnm := HF2.out p hpk
              obtain ⟨nk, hnk⟩ : ∃ m, m = n p := ⟨_, rfl⟩
              rw [← hnk] at hgc hgo hcc1 hnm
              have Hnk := Lib.hid hnk
              have Hgc := Lib.hid hgc
              have Hgo := Lib.hid hgo
              clear hnk hgo
              have HG6 := hgr
              obtain ⟨a6, c6, hv6, hcd1, hcd2, hsome6⟩ := ha.out.split hpk (nk := nk) (by rw [marksP_len]; exact Hnk.out)
              have HV6 := Lib.hid hv6
              have Hsome6 := Lib.hid hsome6
              have hcl6 := (hout.out.cell (p := ⟨lb, p, none⟩) hlb1 hlb2).trans (HLS.out p hpk)
              rw [hv6] at hcl6
              have Hcl6 := Lib.hid hcl6
              have hop6 := ha.out.own p hpk
              rw [← Hnk.out, hv6] at hop6
              have Hop6 := Lib.hid hop6
              have hszr : gb < w5.heap.size ∧ lb < w5.heap.size := by
                obtain ⟨Vs, -, hrow, -⟩ := hgr.out
                exact ⟨(row_lt hrow).2, Nat.lt_of_lt_of_le hlb2 hout.out.size⟩
              obtain ⟨hsz1, hsz2⟩ := hszr
              clear hv6 hsome6 hcl6 hop6
              go_wp2_with (fail)
              go_loopw [10] (fun s10 wx => ∃ j : Nat, s10 = .int .i64 j ∧ j ≤ nk + 64 ∧ Hid (Below w5.heap.size w5 wx)) (fun s10 _ => nk + 64 - (intOf s10).toNat)
              case atStart => exact ⟨0, rfl, by omega, Lib.hid (Below.refl _ _)⟩
              case round =>
                clear hgc
                obtain ⟨j, rfl, hj, hb⟩ := hrel
                have hgc := (hb.out.cell (p := ⟨gb, p, none⟩) hsz1).trans Hgc.out
                have hszx := hb.out.size
                by_cases hjn : j < nk + 64
                · obtain ⟨⟨k1, k2⟩, -, -⟩ := Hgo.out.at_ (i := j) (by rw [marksP_len]; exact hjn)
                  have hg7 := (Hgo.out.ge g rfl).2
                  rw [marksP_at p (nk + 64) j hjn] at k1 k2
                  have hmk := fun W => markPart_any p j W (by omega) (by omega)
                  have Hm0 := Lib.hid (fun (g' cc : Nat) (h : a6 = some ⟨g', 0, none⟩) (hlt : j < nk) => by
                    have h1 := Hop6.out
                    rw [h] at h1
                    have h2 := (h1.at_ (i := j) (by rw [marksP_len]; exact hlt)).1
                    rw [marksP_at p nk j hlt] at h2
                    exact (⟨h2.1, h2.2, (h1.ge g' rfl).2⟩ : _ ∧ _ ∧ _))
                  unfold mkPt at k1 k2 Hm0
                  simp only at k1 k2
                  generalize ((markN p j : Nat) : Int) = m at k1 k2 hmk Hm0
                  have HC : ∀ (b o : Nat) (u : Value), b < w5.heap.size → w5.cell? ⟨b, o, none⟩ = some u → ∀ y : BelowW wr, y.v.cell? ⟨b, o, none⟩ = some u := fun b o u h1 h2 y => (y.h.cell (by show b < wr.heap.size; omega)).trans ((hb.out.cell (by exact h1)).trans h2)
                  have f0 := HC gb p _ hsz1 Hgc.out
                  have f1 := HC g (j * 2) _ hg7 k1
                  have f2 := HC g (j * 2 + 1) _ hg7 k2
                  have f3 := HC lb p _ hsz2 Hcl6.out
                  have heq : ∀ w : World, (Op.equalIn 10000 45 (.agg #[.string ⟨#[]⟩, .int .i64 m]) (.agg #[.string ⟨#[]⟩, .int .i64 m])).run Tryz.prog w = .ok true w := fun w => eqPart_self [] m w
                  have e0 : encStr [] = .string ⟨#[]⟩ := rfl
                  rw [e0] at f1
                  by_cases hjk : j < nk
                  · obtain ⟨g', rfl⟩ := Hsome6.out (by omega)
                    obtain ⟨k3, k4, k5⟩ := Hm0.out g' 0 rfl hjk
                    have f4 := HC g' (j * 2) _ k5 k3
                    have f5 := HC g' (j * 2 + 1) _ k5 k4
                    rw [e0] at f4
                    have hd1 : decide ((j : Int) < (nk : Int)) = true := decide_eq_true (by omega)
                    have hd2 : decide (j < nk) = true := decide_eq_true hjk
                    clear HC k1 k2 k3 k4 k5 Hm0 e0
                    obtain ⟨sv, hsv⟩ : ∃ z, z = Value.string ⟨#[]⟩ := ⟨_, rfl⟩
                    rw [← hsv] at f1 f4
                    simp only [← hsv] at hmk heq
                    clear hsv
                    go_wp2_with (fail)
                    refine wp_region_below wr (by kernel_rfl) (by kernel_rfl) (Below.refl _ _) ?_
                    repeat (go_big_quiet_step ((go_at_call 93; exact below_call (hmk _))))
                    refine wpQuiet_nil ?_
                    intro _ hw'
                    obtain ⟨y, hw''⟩ := hw'
                    subst hw''
                    clear f0 f1 f2 f3 f4 f5
                    go_wp2_with (fail)
                    go_roundw
                    case rel => exact ⟨j + 1, by go_num, by omega, Lib.hid (hb.out.trans (y.h.mono hszx))⟩
                    case measure => simp [intOf]; omega
                  · have hd1 : decide ((j : Int) < (nk : Int)) = false := decide_eq_false (by omega)
                    have hd2 : decide (j < nk) = false := decide_eq_false hjk
                    clear HC k1 k2 Hm0 e0
                    obtain ⟨sv, hsv⟩ : ∃ z, z = Value.string ⟨#[]⟩ := ⟨_, rfl⟩
                    rw [← hsv] at f1
                    simp only [← hsv] at hmk heq
                    clear hsv
                    go_wp2_with (fail)
                    refine wp_region_below wr (by kernel_rfl) (by kernel_rfl) (Below.refl _ _) ?_
                    repeat (go_big_quiet_step ((go_at_call 93; exact below_call (hmk _))))
                    refine wpQuiet_nil ?_
                    intro _ hw'
                    obtain ⟨y, hw''⟩ := hw'
                    subst hw''
                    clear f0 f1 f2 f3
                    go_wp2_with (fail)
                    go_roundw
                    case rel => exact ⟨j + 1, by go_num, by omega, Lib.hid (hb.out.trans (y.h.mono hszx))⟩
                    case measure => simp [intOf]; omega
                · have y1 := Lib.hid (ha.out.below hb.out)
                  have y2 := Lib.hid (hgr.out.below hb.out)
                  have y3 := Lib.hid (hout.out.below hb.out)
                  go_wp2_with (fail)
                  go_roundw
                  case rel => exact ⟨p + 1, by go_num, by omega, y1, y2, y3⟩
                  case measure => simp [intOf]; omega
            · have ep : p = q := by omega
              subst ep
              have hgr0 : Hid (Grs B w.heap.size gb p V n (fun j => marksP j (n j) ++ marksP (j + p) 64) 0 w5) := Lib.hid (by
                obtain ⟨Vs, e1, e2, -⟩ := hgr.out
                exact ⟨Vs, e1, e2, fun j hj => absurd hj (Nat.not_lt_zero _)⟩)
              clear hgr
              obtain ⟨i0, hi, hz0, hz1, hz2⟩ := info_parts Tryz.infoPart
              have Hi2 := Lib.hid hi
              have Hz02 := Lib.hid hz0
              have Hz12 := Lib.hid hz1
              have hb02 : i0.bytes * 64 ≤ 281474976710656 := by rw [hz2]; omega
              have Hb02 := Lib.hid hb02
              clear hi hz0 hz1 hz2 hb02
              go_wp2_with (fail)
              go_loopw [11] (fun s11 wr => ∃ r : Nat, s11 = .int .i64 r ∧ r ≤ p ∧ Hid (Ap B N p V (fun j => marksP j (n j)) wr) ∧ Hid (Grs B w.heap.size gb p V n (fun j => marksP j (n j) ++ marksP (j + p) 64) r wr) ∧ Hid (Out B N w wr)) (fun s11 _ => p - (intOf s11).toNat)
              case atStart => exact ⟨0, rfl, by omega, ha, hgr0, hout⟩
              case round =>
                clear ha hgr0 hout
                obtain ⟨wk, rfl⟩ : ∃ z, z = wr := ⟨_, rfl⟩
                obtain ⟨r, rfl, hr, ha, hgr, hout⟩ := hrel
                by_cases hrp : r < p
                · obtain ⟨nk, hnk⟩ : ∃ m, m = n r := ⟨_, rfl⟩
                  have hnm := HF2.out r hrp
                  rw [← hnk] at hnm
                  obtain ⟨a, c, hv, hcc1, hcc2, -⟩ := ha.out.split hrp (nk := nk) (by rw [marksP_len]; exact hnk)
                  have HV := Lib.hid hv
                  have Hnk := Lib.hid hnk
                  clear hv hnk
                  obtain ⟨gm, hgm⟩ : ∃ z, z = wk.heap.size := ⟨_, rfl⟩
                  have Hgm := Lib.hid hgm
                  obtain ⟨Z, hZ⟩ : ∃ Z : List Pt, Z = List.replicate 64 ([], 0) := ⟨_, rfl⟩
                  have HZ := Lib.hid hZ
                  have hzl : Z.length = 64 := by rw [hZ]; simp
                  have HZl := Lib.hid hzl
                  clear hgm hZ hzl
                  obtain ⟨w6, hrun, hown6, hg6⟩ := run_make_full (P := Tryz.prog) (w := wk) wk.heap.size 26 45 i0 (.agg #[.string ByteArray.empty, .int .i64 0]) 2 Tryz.underlying26 Hi2.out Hz02.out Hz12.out .i64 .i64 64 Hb02.out (by simp only [maxLen]; omega) (Nat.le_refl _)
                  rw [← Hgm.out] at hrun hown6
                  have hrun' : (Instr.makeSlice 26 (.int .i64 64) (.int .i64 64)).run Tryz.prog wk = .ok (.slice (some ⟨gm, 0, none⟩) 64 64) w6 := hrun
                  have HO6 : Hid (OP gm w6 (.slice (some ⟨gm, 0, none⟩) 64 64) Z) := Lib.hid (by unfold OP; rw [HZl.out, HZ.out, ← zeroP]; exact hown6)
                  have HB6 : Hid (Below wk.heap.size wk w6) := Lib.hid ((Below.refl _ wk).grown hg6 (Nat.le_refl _) (fun k e => by cases e))
                  clear hown6 hg6 hrun
                  go_wp2_with (fail)
                  go_loopw [13] (fun s13 wx => ∃ i : Nat, s13 = .int .i64 i ∧ i ≤ 64 ∧ Hid (OP gm wx (.slice (some ⟨gm, 0, none⟩) 64 64) (marksP (r + p) i ++ Z.drop i)) ∧ Hid (Below wk.heap.size wk wx)) (fun s13 _ => 64 - (intOf s13).toNat)
                  case atStart => exact ⟨0, rfl, by omega, HO6, HB6⟩
                  case round =>
                    clear HO6 HB6
                    obtain ⟨i, rfl, hi, ho, hb⟩ := hrel
                    by_cases hin : i < 64
                    · have hmk : ∀ W : World, Calls Tryz.prog 93 #[.int .i64 ((r : Int) + (p : Int)), .int .i64 i] W fun e w' => e = .returned (.agg #[.string ⟨#[]⟩, .int .i64 (markN (r + p) i : Nat)]) ∧ Below W.heap.size W w' := fun W => by
                        have h := markPart_any (r + p) i W (by omega) (by omega)
                        rw [Int.natCast_add] at h
                        exact h
                      obtain ⟨m, hm⟩ : ∃ m, m = markN (r + p) i := ⟨_, rfl⟩
                      have Hm := Lib.hid hm
                      rw [← hm] at hmk
                      clear hm
                      have i7 := wrap_in (x := (r : Int) + (p : Int)) (by omega) (by omega)
                      have hl : i < (marksP (r + p) i ++ Z.drop i).length := by rw [List.length_append, marksP_len, List.length_drop, HZl.out]; omega
                      have Hfun := Lib.hid (fun (wm : World) (hbm : Below wr.heap.size wr wm) => (⟨ho.out.below hbm, (ho.out.below hbm).at_ hl, hb.out.trans (hbm.mono hb.out.size)⟩ : _ ∧ _ ∧ _))
                      clear hl
                      go_wp2_with (go_at_call 93; refine (hmk _).mono ?_; rintro e wm ⟨rfl, hbm⟩; obtain ⟨z1, ⟨⟨c1, c2⟩, f1, f2⟩, z3⟩ := Hfun.out wm hbm; have Z1 := Lib.hid z1; have Z3 := Lib.hid z3; clear z1 z3 hbm)
                      have O7 : Hid (OP gm ((wm.setCell ⟨gm, i * 2, none⟩ (.string ⟨#[]⟩)).setCell ⟨gm, i * 2 + 1, none⟩ (.int .i64 (m : Int))) (.slice (some ⟨gm, 0, none⟩) 64 64) (marksP (r + p) (i + 1) ++ Z.drop (i + 1))) := Lib.hid (by
                        have h2 := Z1.out.set (i := i) (by rw [List.length_append, marksP_len, List.length_drop, HZl.out]; omega) (mkPt (r + p) i)
                        rw [marksP_set (r + p) i Z (by rw [HZl.out]; exact hin)] at h2
                        unfold mkPt at h2
                        rw [← Hm.out] at h2
                        exact h2)
                      have B7 : Hid (Below wk.heap.size wk ((wm.setCell ⟨gm, i * 2, none⟩ (.string ⟨#[]⟩)).setCell ⟨gm, i * 2 + 1, none⟩ (.int .i64 (m : Int)))) := Lib.hid ((Z3.out.setCell (p := ⟨gm, i * 2, none⟩) (Nat.le_of_eq Hgm.out.symm) _).setCell (p := ⟨gm, i * 2 + 1, none⟩) (Nat.le_of_eq Hgm.out.symm) _)
                      go_roundw
                      case rel => exact ⟨i + 1, by go_num, by omega, O7, B7⟩
                      case measure => simp [intOf]; omega
                    · have ei : i = 64 := by omega
                      subst ei
                      have hoM := ho.out
                      rw [List.drop_eq_nil_of_le (by rw [HZl.out]; exact Nat.le_refl _), List.append_nil] at hoM
                      have hsrc := World.ownsRow.cells (g := gm) hoM rfl
                      have Hsrc := Lib.hid hsrc
                      have HA8 := Lib.hid (ha.out.below hb.out)
                      have HG8 := Lib.hid (hgr.out.below hb.out)
                      have HT8 := Lib.hid (hout.out.below hb.out)
                      have hcl := (HT8.out.cell (p := ⟨lb, r, none⟩) hlb1 hlb2).trans (HLS.out r hrp)
                      rw [HV.out] at hcl
                      have hop := HA8.out.own r hrp
                      rw [← Hnk.out, HV.out] at hop
                      have Hop := Lib.hid hop
                      have HgeB : Hid (B ≤ wr.heap.size) := Lib.hid (Nat.le_trans HBN.out HA8.out.size)
                      clear hoM hsrc hop
                      go_wp2_with (at_builtin; refine wpList_append_keep rfl _ _ rfl B (.slice a nk c) (marksP r nk) (marksP (r + p) 64) rfl Hop.out _ 64 _ rfl (marksP_len _ _).symm ⟨_, rfl, Hsrc.out⟩ (by rw [marksP_len]; omega) HgeB.out (by rw [marksP_len, marksP_len]; omega) ?_; intro g4 c4 w4 ho4 hov4 hg4 hb4; have hkp4 : Kp wr.heap.size (V r) wr w4 := Kp.refl.grown hg4 (fun k e => .inl (by rw [HV.out]; exact e)); have hgr4 := HG8.out.keep HA8.out hrp ha0N.out hkp4.block; obtain ⟨⟨u0, hu0⟩, hfz⟩ := hgr4.slot hrp; have O4 := Lib.hid ho4; have OV4 := Lib.hid hov4; have G4 := Lib.hid hg4; have B4 := Lib.hid hb4; have GR4 := Lib.hid hgr4; clear ho4 hov4 hg4 hb4 hkp4 hgr4)
                      have hgbb : w.heap.size ≤ gb := by
                        obtain ⟨Vs, -, hrow, -⟩ := hgr.out
                        exact (row_lt hrow).1
                      rw [marksP_len, marksP_len]
                      have O9 : Hid (OP B w4 (.slice (some ⟨g4, 0, none⟩) (n r + 64) c4) (marksP r (n r) ++ marksP (r + p) 64)) := Lib.hid (by
                        have h := O4.out
                        rw [marksP_len, marksP_len, Hnk.out] at h
                        exact h)
                      have D9 : Hid (((V r).ownBlock = some g4 ∨ w.heap.size ≤ g4) ∧ g4 ≠ gb) := Lib.hid (by
                        have h5 := HA8.out.lt r hrp g4
                        rw [HV.out] at h5 ⊢
                        have h6 := ha0N.out
                        have h7 : gb < wr.heap.size := by
                          obtain ⟨Vs, -, hrow, -⟩ := HG8.out
                          exact (row_lt hrow).2
                        rcases B4.out with h | h
                        · exact ⟨.inl h, by have := h5 h; omega⟩
                        · exact ⟨.inr (by have := HT8.out.size; omega), by omega⟩)
                      have A9 := Lib.hid (HA8.out.keepgrow hrp Hop.out (by
                        show (marksP r nk).take (marksP r (n r)).length = marksP r (n r)
                        rw [marksP_len, ← Hnk.out]
                        exact marksP_take r nk nk (Nat.le_refl _)) (fun b e => .inl (by rw [HV.out]; exact e)) G4.out OV4.out)
                      have T9 := Lib.hid (HT8.out.grown G4.out (fun b e => .inl ⟨(Hop.out.ge b e).1, HA8.out.lt r hrp b (by rw [HV.out]; exact e)⟩))
                      rw [Hnk.out]
                      refine ⟨⟨r + 1, by go_num, by omega, Lib.hid (A9.out.new (grown_one w4 gb r _) (fun b e => by cases e; exact Nat.le_trans ha0N.out hgbb)), Lib.hid (GR4.out.put hrp O9.out D9.out.1 D9.out.2), Lib.hid (T9.out.grown (grown_one w4 gb r _) (fun b e => by cases e; exact .inr hgbb))⟩, by simp [intOf]; omega⟩
                · have ep : r = p := by omega
                  subst ep
                  go_wp2_with (fail)
                  go_loopw [14] (fun s14 wr => ∃ t : Nat, s14 = .int .i64 t ∧ t ≤ r ∧ Hid (Ap B N r V (fun j => marksP j (n j)) wr) ∧ Hid (Grs B w.heap.size gb r V n (fun j => marksP j (n j) ++ marksP (j + r) 64) r wr) ∧ Hid (Out B N w wr)) (fun s14 _ => r - (intOf s14).toNat)
                  case atStart => exact ⟨0, rfl, by omega, ha, hgr, hout⟩
                  case round =>
                    clear ha hgr hout
                    obtain ⟨w5, rfl⟩ : ∃ z, z = wr := ⟨_, rfl⟩
                    obtain ⟨t, rfl, ht, ha, hgr, hout⟩ := hrel
                    by_cases htr : t < r
                    · obtain ⟨g, c, hgc, hgo⟩ := hgr.out.cell htr htr
                      have hcc := hgo.some_len
                      rw [List.length_append, marksP_len, marksP_len] at hcc
                      obtain ⟨-, hcc1, hcc2⟩ := hcc
                      have hnm := HF2.out t htr
                      obtain ⟨nk, hnk⟩ : ∃ m, m = n t := ⟨_, rfl⟩
                      rw [← hnk] at hgc hgo hcc1 hnm
                      have Hnk := Lib.hid hnk
                      have Hgc := Lib.hid hgc
                      have Hgo := Lib.hid hgo
                      clear hnk hgo
                      obtain ⟨a6, c6, hv6, hcd1, hcd2, hsome6⟩ := ha.out.split htr (nk := nk) (by rw [marksP_len]; exact Hnk.out)
                      have HV6 := Lib.hid hv6
                      have Hsome6 := Lib.hid hsome6
                      have hcl6 := (hout.out.cell (p := ⟨lb, t, none⟩) hlb1 hlb2).trans (HLS.out t htr)
                      rw [hv6] at hcl6
                      have Hcl6 := Lib.hid hcl6
                      have hop6 := ha.out.own t htr
                      rw [← Hnk.out, hv6] at hop6
                      have Hop6 := Lib.hid hop6
                      have hszr : gb < w5.heap.size ∧ lb < w5.heap.size := by
                        obtain ⟨Vs, -, hrow, -⟩ := hgr.out
                        exact ⟨(row_lt hrow).2, Nat.lt_of_lt_of_le hlb2 hout.out.size⟩
                      obtain ⟨hsz1, hsz2⟩ := hszr
                      clear hv6 hsome6 hop6 hgc
                      go_wp2_with (fail)
                      go_loopw [15] (fun s15 wx => ∃ j : Nat, s15 = .int .i64 j ∧ j ≤ nk ∧ Hid (Below w5.heap.size w5 wx)) (fun s15 _ => nk - (intOf s15).toNat)
                      case atStart => exact ⟨0, rfl, by omega, Lib.hid (Below.refl _ _)⟩
                      case round =>
                        clear hcl6
                        obtain ⟨j, rfl, hj, hb⟩ := hrel
                        have hcl6 := (hb.out.cell (p := ⟨lb, t, none⟩) hsz2).trans Hcl6.out
                        have hszx := hb.out.size
                        by_cases hjk : j < nk
                        · obtain ⟨g', rfl⟩ := Hsome6.out (by omega)
                          obtain ⟨⟨k1, k2⟩, -, -⟩ := Hgo.out.at_ (i := j) (by rw [List.length_append, marksP_len, marksP_len]; omega)
                          have hg7 := (Hgo.out.ge g rfl).2
                          rw [marksP_app t nk j _ hjk] at k1 k2
                          obtain ⟨⟨k3, k4⟩, -, -⟩ := Hop6.out.at_ (i := j) (by rw [marksP_len]; exact hjk)
                          have k5 := (Hop6.out.ge g' rfl).2
                          rw [marksP_at t nk j hjk] at k3 k4
                          have hmk := fun W => markPart_any t j W (by omega) (by omega)
                          unfold mkPt at k1 k2 k3 k4
                          simp only at k1 k2 k3 k4
                          generalize ((markN t j : Nat) : Int) = m at k1 k2 k3 k4 hmk
                          have HC : ∀ (b o : Nat) (u : Value), b < w5.heap.size → w5.cell? ⟨b, o, none⟩ = some u → ∀ y : BelowW wr, y.v.cell? ⟨b, o, none⟩ = some u := fun b o u h1 h2 y => (y.h.cell (by show b < wr.heap.size; omega)).trans ((hb.out.cell (by exact h1)).trans h2)
                          have f0 := HC gb t _ hsz1 Hgc.out
                          have f1 := HC g (j * 2) _ hg7 k1
                          have f2 := HC g (j * 2 + 1) _ hg7 k2
                          have f3 := HC lb t _ hsz2 Hcl6.out
                          have heq : ∀ w : World, (Op.equalIn 10000 45 (.agg #[.string ⟨#[]⟩, .int .i64 m]) (.agg #[.string ⟨#[]⟩, .int .i64 m])).run Tryz.prog w = .ok true w := fun w => eqPart_self [] m w
                          have e0 : encStr [] = .string ⟨#[]⟩ := rfl
                          rw [e0] at f1
                          have f4 := HC g' (j * 2) _ k5 k3
                          have f5 := HC g' (j * 2 + 1) _ k5 k4
                          rw [e0] at f4
                          clear HC k1 k2 k3 k4 k5 e0
                          obtain ⟨sv, hsv⟩ : ∃ z, z = Value.string ⟨#[]⟩ := ⟨_, rfl⟩
                          rw [← hsv] at f1 f4
                          simp only [← hsv] at hmk heq
                          clear hsv
                          go_wp2_with (fail)
                          refine wp_region_below wr (by kernel_rfl) (by kernel_rfl) (Below.refl _ _) ?_
                          repeat (go_big_quiet_step ((go_at_call 93; exact below_call (hmk _))))
                          refine wpQuiet_nil ?_
                          intro _ hw'
                          obtain ⟨y, hw''⟩ := hw'
                          subst hw''
                          clear f0 f1 f2 f3 f4 f5
                          go_wp2_with (fail)
                          go_roundw
                          case rel => exact ⟨j + 1, by go_num, by omega, Lib.hid (hb.out.trans (y.h.mono hszx))⟩
                          case measure => simp [intOf]; omega
                        · have y1 := Lib.hid (ha.out.below hb.out)
                          have y2 := Lib.hid (hgr.out.below hb.out)
                          have y3 := Lib.hid (hout.out.below hb.out)
                          go_wp2_with (fail)
                          go_roundw
                          case rel => exact ⟨t + 1, by go_num, by omega, y1, y2, y3⟩
                          case measure => simp [intOf]; omega
                    · go_wp2_with (fail)
                      go_ret
                      exact ⟨rfl, hout.out⟩
end Go.Proofs.YthlmnoggeggpkaaGreat
