/- storemanlaw21.PageLives: its walk. -/
import Derived.Test.YtbinikbgbgggaaaGreatDoorStepY
import Derived.Test.YtbinikbgbgggaaaGreatDoorLawC
namespace Go.Proofs.YtbinikbgbgggaaaGreatDoor
open Go.RowKit Go.Shelf

set_option maxHeartbeats 1000000 in
theorem rNew_any (w : World) :
    Calls Tryz.prog 44 #[] w fun e w' => e = .returned (.slice (some ⟨w.heap.size, 0, none⟩) 512 512) ∧ PG w' w.heap.size 512 (List.replicate 512 0) [] ∧ Below w.heap.size w w' := by
  obtain ⟨i0, hi, hz0, hz1, hz2⟩ := info_parts Tryz.infoU8
  have hmk := run_make (P := Tryz.prog) w 22 5 i0 _ Tryz.underlying22 hi hz0 .i64 .i64 512 512 (by decide) (by decide) (by rw [hz2]; decide) (by decide)
  obtain ⟨blk, hblk⟩ : ∃ blk, blk = madeCells (Value.int .u8 0).cells ((512 : Int).toNat * i0.size) := ⟨_, rfl⟩
  rw [← hblk] at hmk
  have hpg : PG (w.alloc (.cells blk 5)) w.heap.size 512 (List.replicate 512 0) [] := by
    refine ⟨?_, by rw [List.length_replicate], rfl, by omega⟩
    rw [heap_alloc_new, hblk, hz1]
    have e : madeCells (Value.int .u8 0).cells ((512 : Int).toNat * 1) = ((List.replicate 512 (0 : UInt8)).map bv ++ []).toArray := by
      apply Array.ext'
      rw [List.append_nil, List.map_replicate]
      exact toList_madeCells_one _ _
    rw [e]
  have hbl : Below w.heap.size w (w.alloc (.cells blk 5)) := (Below.refl _ w).alloc (Nat.le_refl _) _
  have Hpg := Lib.hid hpg
  have Hbl := Lib.hid hbl
  clear hblk hpg hbl hi hz0 hz1 hz2
  have e1 : (512 : Int).toNat = 512 := rfl
  rw [e1] at hmk
  clear e1
  go_enter Tryz.func44, Tryz.ntmps44
  go_wp2
  go_ret
  exact ⟨rfl, Hpg.out, Hbl.out⟩

theorem PG.mod2 {g h : Nat} {W W' : World} {p c : Nat} {L : List UInt8} {X : List Value} (k : PG W p c L X) (m : Mod2 g h W W') (h1 : p ≠ g) (h2 : p ≠ h) : PG W' p c L X :=
  ⟨(m.block p k.lt h1 h2).trans k.blk, k.len, k.cap, k.mx⟩

/-- step on two pages that read the same. -/
theorem step_any (g g' c c' : Nat) (L : List UInt8) (X X' : List Value) (B : Nat) (d : DoV) (w : World) (hp : PG w g c L X) (hp' : PG w g' c' L X') (hgg : g ≠ g') (hk : RB B w d.ka d.kn d.kc d.K) (ho : RB B w d.oa d.on d.oc d.O) (hn : RB B w d.na d.nn d.nc d.N)
    (hB : B ≤ w.heap.size) (hg : B ≤ g) (hg' : B ≤ g') (hs : longB d.kn d.on d.nn = false) (hd : DoOk d) :
    Calls Tryz.prog 47 #[.slice (some ⟨g, 0, none⟩) 512 c, .slice (some ⟨g', 0, none⟩) 512 c', .agg #[.int .i64 d.op, .int .i64 d.next, .int .i64 d.lsn, .slice d.ka d.kn d.kc, .slice d.oa d.on d.oc, .slice d.na d.nn d.nc, .bool d.take]] w fun e w' => e = .returned (.bool true) ∧ (∃ L', PG w' g c L' X ∧ PG w' g' c' L' X') ∧ Mod2 g g' w w' := by
  have h5 : ¬ 5000 < d.kn + d.on + d.nn := of_decide_eq_false hs
  by_cases h0 : 0 < behindL L
  · exact step_yes g g' c c' L X X' B d.op d.next d.lsn d.ka d.oa d.na d.kn d.kc d.on d.oc d.nn d.nc d.K d.O d.N d.take w hp hp' hgg hk ho hn hB hg hg' (by omega) (by omega) (by omega) hd.o0 hd.o1 hd.l1 h0
  · refine (step_no w.heap.size B (some ⟨g, 0, none⟩) (some ⟨g', 0, none⟩) 512 c 512 c' L d.op d.next d.lsn d.ka d.oa d.na d.kn d.kc d.on d.oc d.nn d.nc d.K d.O d.N d.take w hp.rb hp'.rb hk ho hn (Nat.le_refl _) hB (by omega) (by omega) (by omega) hd.o0 hd.o1 (by omega)).mono ?_
    rintro e w' ⟨rfl, hb⟩
    exact ⟨rfl, ⟨L, hp.below hb hp.lt, hp'.below hb hp'.lt⟩, Mod2.of_below hb (Nat.le_refl _)⟩

/-- Where the loop of PageLives stands. -/
structure LS (w W : World) (gp gq : Nat) (aa ba : Option Addr) (m ca cb : Nat) : Prop where
  bl : Below w.heap.size w W
  pq : ∃ L, PG W gp 512 L [] ∧ PG W gq 512 L []
  gw : w.heap.size ≤ gp
  gw' : w.heap.size ≤ gq
  ne : gp ≠ gq
  ab : (∃ ga gb X X' L, aa = some ⟨ga, 0, none⟩ ∧ ba = some ⟨gb, 0, none⟩ ∧ m = 512 ∧ PG W ga ca L X ∧ PG W gb cb L X' ∧ w.heap.size ≤ ga ∧ w.heap.size ≤ gb ∧ ga ≠ gb ∧ ga ≠ gp ∧ ga ≠ gq ∧ gb ≠ gp ∧ gb ≠ gq) ∨
    (∃ L, behindL L = 0 ∧ RBm gp gq W.heap.size W aa m ca L ∧ RBm gp gq W.heap.size W ba m cb L)
theorem LS.below {w W W' : World} {gp gq : Nat} {aa ba : Option Addr} {m ca cb : Nat} (s : LS w W gp gq aa ba m ca cb) (hb : Below W.heap.size W W') : LS w W' gp gq aa ba m ca cb := by
  obtain ⟨L, p, q⟩ := s.pq
  refine ⟨s.bl.trans (hb.mono s.bl.size), ⟨L, p.below hb p.lt, q.below hb q.lt⟩, s.gw, s.gw', s.ne, ?_⟩
  rcases s.ab with ⟨ga, gb, X, X', L, h1, h2, h3, h4, h5, r⟩ | ⟨L, h1, h2, h3⟩
  · exact .inl ⟨ga, gb, X, X', L, h1, h2, h3, h4.below hb h4.lt, h5.below hb h5.lt, r⟩
  · exact .inr ⟨L, h1, (h2.below hb).mono hb.size, (h3.below hb).mono hb.size⟩
theorem LS.step_pq {w W : World} {gp gq : Nat} {aa ba : Option Addr} {m ca cb : Nat} (s : LS w W gp gq aa ba m ca cb) (d : DoV) (hk : RB w.heap.size w d.ka d.kn d.kc d.K) (ho : RB w.heap.size w d.oa d.on d.oc d.O) (hn : RB w.heap.size w d.na d.nn d.nc d.N) (hs : longB d.kn d.on d.nn = false) (hd : DoOk d) :
    Calls Tryz.prog 47 #[.slice (some ⟨gp, 0, none⟩) 512 512, .slice (some ⟨gq, 0, none⟩) 512 512, .agg #[.int .i64 d.op, .int .i64 d.next, .int .i64 d.lsn, .slice d.ka d.kn d.kc, .slice d.oa d.on d.oc, .slice d.na d.nn d.nc, .bool d.take]] W fun e W' => e = .returned (.bool true) ∧ LS w W' gp gq aa ba m ca cb := by
  obtain ⟨L, p, q⟩ := s.pq
  refine (step_any gp gq 512 512 L [] [] w.heap.size d W p q s.ne (hk.below s.bl) (ho.below s.bl) (hn.below s.bl) s.bl.size s.gw s.gw' hs hd).mono ?_
  rintro e W' ⟨rfl, hL, hm⟩
  refine ⟨rfl, s.bl.trans (hm.low s.gw s.gw' s.bl.size), hL, s.gw, s.gw', s.ne, ?_⟩
  rcases s.ab with ⟨ga, gb, X, X', L, h1, h2, h3, h4, h5, h6, h7, h8, h9, h10, h11, h12⟩ | ⟨L, h1, h2, h3⟩
  · exact .inl ⟨ga, gb, X, X', L, h1, h2, h3, h4.mod2 hm h9 h10, h5.mod2 hm h11 h12, h6, h7, h8, h9, h10, h11, h12⟩
  · exact .inr ⟨L, h1, (h2.mod2 hm (Nat.le_refl _)).mono hm.size, (h3.mod2 hm (Nat.le_refl _)).mono hm.size⟩
theorem LS.step_ab {w W : World} {gp gq : Nat} {aa ba : Option Addr} {m ca cb : Nat} (s : LS w W gp gq aa ba m ca cb) (d : DoV) (hk : RB w.heap.size w d.ka d.kn d.kc d.K) (ho : RB w.heap.size w d.oa d.on d.oc d.O) (hn : RB w.heap.size w d.na d.nn d.nc d.N) (hs : longB d.kn d.on d.nn = false) (hd : DoOk d) :
    Calls Tryz.prog 47 #[.slice aa m ca, .slice ba m cb, .agg #[.int .i64 d.op, .int .i64 d.next, .int .i64 d.lsn, .slice d.ka d.kn d.kc, .slice d.oa d.on d.oc, .slice d.na d.nn d.nc, .bool d.take]] W fun e W' => e = .returned (.bool true) ∧ LS w W' gp gq aa ba m ca cb := by
  have h5 : ¬ 5000 < d.kn + d.on + d.nn := of_decide_eq_false hs
  rcases s.ab with ⟨ga, gb, X, X', L, rfl, rfl, rfl, k4, k5, h6, h7, h8, h9, h10, h11, h12⟩ | ⟨L, k1, k2, k3⟩
  · refine (step_any ga gb ca cb L X X' w.heap.size d W k4 k5 h8 (hk.below s.bl) (ho.below s.bl) (hn.below s.bl) s.bl.size h6 h7 hs hd).mono ?_
    rintro e W' ⟨rfl, ⟨L', q4, q5⟩, hm⟩
    obtain ⟨L0, p, q⟩ := s.pq
    exact ⟨rfl, s.bl.trans (hm.low h6 h7 s.bl.size), ⟨L0, p.mod2 hm h9.symm h11.symm, q.mod2 hm h10.symm h12.symm⟩, s.gw, s.gw', s.ne, .inl ⟨ga, gb, X, X', L', rfl, rfl, rfl, q4, q5, h6, h7, h8, h9, h10, h11, h12⟩⟩
  · refine (step_no W.heap.size w.heap.size aa ba m ca m cb L d.op d.next d.lsn d.ka d.oa d.na d.kn d.kc d.on d.oc d.nn d.nc d.K d.O d.N d.take W k2.rb k3.rb (hk.below s.bl) (ho.below s.bl) (hn.below s.bl) (Nat.le_refl _) s.bl.size (by omega) (by omega) (by omega) hd.o0 hd.o1 k1).mono ?_
    rintro e W' ⟨rfl, hb⟩
    exact ⟨rfl, s.below hb⟩
theorem LS.tells {w W : World} {gp gq : Nat} {aa ba : Option Addr} {m ca cb : Nat} (s : LS w W gp gq aa ba m ca cb) (ka : Option Addr) (kn kc : Nat) (K : List UInt8) (hk : RB w.heap.size w ka kn kc K) :
    Calls Tryz.prog 7 #[.slice (some ⟨gp, 0, none⟩) 512 512, .slice ka kn kc] W fun e W' => e = .returned (.bool true) ∧ LS w W' gp gq aa ba m ca cb := by
  obtain ⟨L, p, q⟩ := s.pq
  refine (tells_any W.heap.size w.heap.size (some ⟨gp, 0, none⟩) ka 512 512 kn kc L K W p.rb (hk.below s.bl) (Nat.le_refl _) s.bl.size).mono ?_
  rintro e W' ⟨rfl, hb⟩
  exact ⟨rfl, s.below hb⟩
/-- Two copies of some bytes, behind two new pages. -/
theorem LS.start {w W1 W2 W3 W4 : World} {v v' : Value} {S : List UInt8} {m : Nat} (hm : m = S.length) (hs : S.length ≤ 5000) (hb0 : Below w.heap.size w W1) (h1 : PG W1 w.heap.size 512 (List.replicate 512 0) []) (h2 : PG W2 W1.heap.size 512 (List.replicate 512 0) []) (hb2 : Below W1.heap.size W1 W2)
    (h3 : OB W2.heap.size W3 v S) (hb3 : Below W2.heap.size W2 W3) (h4 : OB W3.heap.size W4 v' S) (hb4 : Below W3.heap.size W3 W4) :
    ∃ aa ba ca cb, v = .slice aa m ca ∧ v' = .slice ba m cb ∧ LS w W4 w.heap.size W1.heap.size aa ba m ca cb := by
  have l1 := h1.lt
  have l2 := h2.lt
  have s1 := hb0.size
  have s2 := hb2.size
  have s3 := hb3.size
  have s4 := hb4.size
  have bl : Below w.heap.size w W4 := ((hb0.trans (hb2.mono s1)).trans (hb3.mono (by omega))).trans (hb4.mono (by omega))
  have p : PG W4 w.heap.size 512 (List.replicate 512 0) [] := ((h1.below hb2 l1).below hb3 (by omega)).below hb4 (by omega)
  have q : PG W4 W1.heap.size 512 (List.replicate 512 0) [] := (h2.below hb3 l2).below hb4 (by omega)
  subst hm
  by_cases h : S.length = 512
  · obtain ⟨ga, ca, X, rfl, g1, pa⟩ := h3.pg h
    obtain ⟨gb, cb, X', rfl, g2, pb⟩ := h4.pg h
    have la := pa.lt
    rw [h]
    exact ⟨_, _, _, _, rfl, rfl, bl, ⟨_, p, q⟩, Nat.le_refl _, s1, by omega, .inl ⟨ga, gb, X, X', S, rfl, rfl, rfl, pa.below hb4 la, pb, by omega, by omega, by omega, by omega, by omega, by omega, by omega⟩⟩
  · obtain ⟨aa, ca, rfl, ra⟩ := h3.rb (by omega)
    obtain ⟨ba, cb, rfl, rb⟩ := h4.rb (by omega)
    have hz : behindL S = 0 := by
      rcases Nat.eq_zero_or_pos (behindL S) with h0 | h0
      · exact h0
      · exact absurd (right_len h0) h
    refine ⟨_, _, _, _, rfl, rfl, bl, ⟨_, p, q⟩, Nat.le_refl _, s1, by omega, .inr ⟨S, hz, ?_, ?_⟩⟩
    · refine ⟨(ra.below hb4).mono s4, fun hc b o s e => ?_⟩
      have := h3.own b (by rw [e]; rfl)
      omega
    · refine ⟨rb, fun hc b o s e => ?_⟩
      have := h4.own b (by rw [e]; rfl)
      omega

set_option maxHeartbeats 8000000 in
set_option maxRecDepth 100000 in
theorem PageLives_any (sa la : Option Addr) (sn sc ln lc : Nat) (S : List UInt8) (D : Nat → DoV) (w : World) (hs : RB w.heap.size w sa sn sc S) (hl : DosAt w.heap.size w la ln lc D) (hD : ∀ i, i < ln → DoOk (D i)) :
    Calls Tryz.prog 21 #[.slice sa sn sc, .slice la ln lc] w fun e w' => e = .returned (.bool true) ∧ Below w.heap.size w w' := by
  have hlmx := hl.mx
  have hlle := hl.le
  have hsl := hs.lm
  have hsle := hs.le
  have hsmx := hs.mx
  have HS := Lib.hid hs
  have HL := Lib.hid hl
  have HD := Lib.hid hD
  clear hs hl hD
  go_enter Tryz.func21, Tryz.ntmps21
  by_cases hA : 100 < ln
  · have hA' : (100 : Int) < (ln : Int) := by omega
    go_wp2_with (fail)
    go_at_call 5
    refine (awake_any _).mono ?_
    rintro e w1 ⟨rfl, hb1⟩
    have Hb1 := Lib.hid hb1
    clear hb1
    go_wp2_with (fail)
    go_ret
    exact ⟨rfl, Hb1.out⟩
  have hA' : ¬ (100 : Int) < (ln : Int) := by omega
  by_cases hB : 5000 < sn
  · have hB' : (5000 : Int) < (sn : Int) := by omega
    go_wp2_with (fail)
    go_at_call 5
    refine (awake_any _).mono ?_
    rintro e w1 ⟨rfl, hb1⟩
    have Hb1 := Lib.hid hb1
    clear hb1
    go_wp2_with (fail)
    go_ret
    exact ⟨rfl, Hb1.out⟩
  have hB' : ¬ (5000 : Int) < (sn : Int) := by omega
  go_wp2_with (fail)
  go_at_call 13
  refine (New_any _).mono ?_
  rintro e w1 ⟨rfl, hp1, hb1⟩
  have P1 := Lib.hid hp1
  have B1 := Lib.hid hb1
  clear hp1 hb1
  go_wp2_with (fail)
  go_at_call 44
  refine (rNew_any _).mono ?_
  rintro e w2 ⟨rfl, hp2, hb2⟩
  have P2 := Lib.hid hp2
  have B2 := Lib.hid hb2
  have HS2 := Lib.hid (HS.out.below (B1.out.trans (hb2.mono B1.out.size)))
  have hs2 : w.heap.size ≤ w2.heap.size := Nat.le_trans B1.out.size hb2.size
  have HC := Lib.hid (CopyBytes_any w.heap.size sa sn sc S w2 HS2.out hs2)
  clear hp2 hb2
  go_wp2_with (fail)
  go_at_call 45
  refine HC.out.mono ?_
  rintro e w3 ⟨⟨v3, rfl, ho3⟩, hb3⟩
  have O3 := Lib.hid ho3
  have B3 := Lib.hid hb3
  have HC2 := Lib.hid (CopyBytes_any w.heap.size sa sn sc S w3 (HS2.out.below (hb3.mono hs2)) (Nat.le_trans hs2 hb3.size))
  clear ho3 hb3 HC
  go_wp2_with (fail)
  go_at_call 45
  refine HC2.out.mono ?_
  rintro e w4 ⟨⟨v4, rfl, ho4⟩, hb4⟩
  have hls : ∃ aa ba ca cb, v3 = .slice aa sn ca ∧ v4 = .slice ba sn cb ∧ LS w w4 w.heap.size w1.heap.size aa ba sn ca cb := LS.start HS.out.len (by have := HS.out.len; omega) B1.out P1.out P2.out B2.out O3.out B3.out ho4 hb4
  obtain ⟨aa, ba, ca, cb, rfl, rfl, hls⟩ := hls
  have HLS := Lib.hid hls
  obtain ⟨gp, hgp⟩ : ∃ g, g = w.heap.size := ⟨_, rfl⟩
  obtain ⟨gq, hgq⟩ : ∃ g, g = w1.heap.size := ⟨_, rfl⟩
  have HLS0 : Hid (LS w w4 gp gq aa ba sn ca cb) := Lib.hid (by rw [hgp, hgq]; exact hls)
  rw [← hgp, ← hgq]
  clear HC2 ho4 hb4 hls HLS HS2 O3 B3 P1 P2 B1 B2 hgp hgq hs2
  go_wp2_with (fail)
  go_loopw [9] (fun i wr => ∃ j : Nat, j ≤ ln ∧ i = .int .i64 j ∧ Hid (LS w wr gp gq aa ba sn ca cb)) (fun i _ => ln - (intOf i).toNat)
  case atStart => exact ⟨0, Nat.zero_le _, rfl, HLS0⟩
  case round =>
    clear HLS0
    obtain ⟨j, hj, rfl, Hst⟩ := hrel
    by_cases hlt : j < ln
    · obtain ⟨b, o, rfl, hbB, hat⟩ := HL.out.at_ (by omega)
      have Hat := Lib.hid (hat j hlt)
      have hok := Lib.hid (HD.out j hlt)
      obtain ⟨d, hd⟩ : ∃ d, d = D j := ⟨_, rfl⟩
      rw [← hd] at Hat hok
      clear hat hd
      obtain ⟨p0, p1, p2, p3, p4, p5, p6, pk, po, pn⟩ := Hat.out.below Hst.out.bl hbB
      have hkm := pk.lm
      have hom := po.lm
      have hnm := pn.lm
      clear pk po pn
      go_wp2_with (fail)
      go_at_call 46
      refine (long_any _ _ _ _ _ _ _ _ _ _ _ _ _ _ hkm hom hnm).mono ?_
      rintro e w3 ⟨rfl, hb3⟩
      have Hst3 := Lib.hid (Hst.out.below hb3)
      clear hb3 p0 p1 p2 p3 p4 p5 p6
      obtain ⟨p0, p1, p2, p3, p4, p5, p6, -, -, -⟩ := Hat.out.below Hst3.out.bl hbB
      cases hlg : longB d.kn d.on d.nn with
      | true =>
        go_wp2_with (fail)
        go_at_call 5
        refine (awake_any _).mono ?_
        rintro e w5 ⟨rfl, hb5⟩
        have Hst5 := Lib.hid (Hst3.out.below hb5)
        clear hb5
        go_wp2_with (fail)
        go_ret
        exact ⟨rfl, Hst5.out.bl⟩
      | false =>
        have HP := Lib.hid (Hst3.out.step_pq d Hat.out.rk Hat.out.ro Hat.out.rn hlg hok.out)
        go_wp2_with (fail)
        go_at_call 47
        refine HP.out.mono ?_
        rintro e w5 ⟨rfl, hst5⟩
        have Hst5 := Lib.hid hst5
        clear hst5 p0 p1 p2 p3 p4 p5 p6 HP
        obtain ⟨p0, p1, p2, p3, p4, p5, p6, -, -, -⟩ := Hat.out.below Hst5.out.bl hbB
        have HT := Lib.hid (Hst5.out.tells d.ka d.kn d.kc d.K Hat.out.rk)
        go_wp2_with (fail)
        go_at_call 7
        refine HT.out.mono ?_
        rintro e w6 ⟨rfl, hst6⟩
        have Hst6 := Lib.hid hst6
        clear hst6 p0 p1 p2 p3 p4 p5 p6 HT
        obtain ⟨p0, p1, p2, p3, p4, p5, p6, -, -, -⟩ := Hat.out.below Hst6.out.bl hbB
        have HP := Lib.hid (Hst6.out.step_ab d Hat.out.rk Hat.out.ro Hat.out.rn hlg hok.out)
        go_wp2_with (fail)
        go_at_call 47
        refine HP.out.mono ?_
        rintro e w7 ⟨rfl, hst7⟩
        have Hst7 := Lib.hid hst7
        clear hst7 p0 p1 p2 p3 p4 p5 p6 HP
        go_wp2_with (fail)
        go_roundw
        case rel => exact ⟨j + 1, by omega, by go_num, Hst7⟩
        case measure => simp [intOf]; omega
    · go_wp2_with (fail)
      go_at_call 5
      refine (awake_any _).mono ?_
      rintro e w5 ⟨rfl, hb5⟩
      have Hst5 := Lib.hid (Hst.out.below hb5)
      clear hb5
      go_wp2_with (fail)
      go_ret
      exact ⟨rfl, Hst5.out.bl⟩
end Go.Proofs.YtbinikbgbgggaaaGreatDoor
