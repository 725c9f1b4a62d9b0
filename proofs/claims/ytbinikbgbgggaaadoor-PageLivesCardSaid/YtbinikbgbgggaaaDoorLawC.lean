/- The walk of the law PageRoom. -/
import Derived.Test.YtbinikbgbgggaaaDoorLawB
import Derived.Test.YtbinikbgbgggaaaDoorPure3
namespace Go.Proofs.YtbinikbgbgggaaaDoor
open Go.RowKit Go.Shelf

/-- One Do of the law's list, as it lies in memory. -/
structure DoV where
  op : Int
  next : Int
  lsn : Int
  ka : Option Addr
  kn : Nat
  kc : Nat
  K : List UInt8
  oa : Option Addr
  on : Nat
  oc : Nat
  O : List UInt8
  na : Option Addr
  nn : Nat
  nc : Nat
  N : List UInt8
  take : Bool
instance : Inhabited DoV := ⟨⟨0, 0, 0, none, 0, 0, [], none, 0, 0, [], none, 0, 0, [], false⟩⟩

structure DoAt (B : Nat) (w : World) (b o : Nat) (d : DoV) : Prop where
  c0 : w.cell? ⟨b, o, none⟩ = some (.int .i64 d.op)
  c1 : w.cell? ⟨b, o + 1, none⟩ = some (.int .i64 d.next)
  c2 : w.cell? ⟨b, o + 2, none⟩ = some (.int .i64 d.lsn)
  c3 : w.cell? ⟨b, o + 3, none⟩ = some (.slice d.ka d.kn d.kc)
  c4 : w.cell? ⟨b, o + 4, none⟩ = some (.slice d.oa d.on d.oc)
  c5 : w.cell? ⟨b, o + 5, none⟩ = some (.slice d.na d.nn d.nc)
  c6 : w.cell? ⟨b, o + 6, none⟩ = some (.bool d.take)
  rk : RB B w d.ka d.kn d.kc d.K
  ro : RB B w d.oa d.on d.oc d.O
  rn : RB B w d.na d.nn d.nc d.N
theorem DoAt.below {B : Nat} {w w' : World} {b o : Nat} {d : DoV} (h : DoAt B w b o d) (hb : Below B w w') (hB : b < B) : DoAt B w' b o d :=
  ⟨(hb.cell hB).trans h.c0, (hb.cell hB).trans h.c1, (hb.cell hB).trans h.c2, (hb.cell hB).trans h.c3, (hb.cell hB).trans h.c4, (hb.cell hB).trans h.c5, (hb.cell hB).trans h.c6, h.rk.below hb, h.ro.below hb, h.rn.below hb⟩
/-- The law's list. -/
structure DosAt (B : Nat) (w : World) (la : Option Addr) (ln lc : Nat) (D : Nat → DoV) : Prop where
  le : ln ≤ lc
  mx : lc ≤ 9223372036854775807
  at_ : 0 < lc → ∃ b o, la = some ⟨b, o, none⟩ ∧ b < B ∧ ∀ i, i < ln → DoAt B w b (o + i * 7) (D i)

/-- The block of a boxed row. -/
def T2 (W : World) (z : Nat) (v0 v1 : Value) : Prop := W.heap[z]? = some (.cells #[v0, v1] 25 (0, 0))
theorem T2.below {B : Nat} {W W' : World} {z : Nat} {v0 v1 : Value} (h : T2 W z v0 v1) (hb : Below B W W') (hz : z < B) : T2 W' z v0 v1 := (hb.block z hz).trans h
theorem T2.cells {W : World} {z : Nat} {v0 v1 : Value} (h : T2 W z v0 v1) : W.cell? ⟨z, 0, none⟩ = some v0 ∧ W.cell? ⟨z, 1, none⟩ = some v1 := by
  unfold T2 at h; simp [World.cell?, h]
theorem T2.mod {g : Nat} {W W' : World} {z : Nat} {v0 v1 : Value} (h : T2 W z v0 v1) (hm : Mod g W W') (hne : z ≠ g) : T2 W' z v0 v1 := (hm.block' (Array.getElem?_eq_some_iff.1 h).1 hne).trans h

/-- The page that the law turns. -/
def z10 : List UInt8 := List.replicate 10 0
/-- Where the law stands, in its loop and behind it. -/
structure Standing (w wr : World) (g : Nat) (kv vv : Value) (R : List Rw) : Prop where
  pg : PG wr g 512 (mkP z10 R) []
  ok : PageOf z10 R
  bl : Below w.heap.size w wr
  row : T2 wr w.heap.size kv vv
  gw : w.heap.size < g
theorem Standing.below {w wr w' : World} {g : Nat} {kv vv : Value} {R : List Rw} (h : Standing w wr g kv vv R) (hb : Below wr.heap.size wr w') : Standing w w' g kv vv R :=
  ⟨h.pg.below hb h.pg.lt, h.ok, h.bl.trans (hb.mono h.bl.size), h.row.below hb (Nat.lt_trans h.gw h.pg.lt), h.gw⟩
theorem Standing.mod {w wr w' : World} {g : Nat} {kv vv : Value} {R R' : List Rw} (h : Standing w wr g kv vv R) (hm : Mod g wr w') (hp : PG w' g 512 (mkP z10 R') []) (ho : PageOf z10 R') : Standing w w' g kv vv R' :=
  ⟨hp, ho, Below.mod h.bl hm (Nat.le_of_lt h.gw) h.bl.size, h.row.mod hm (Nat.ne_of_lt h.gw), h.gw⟩

/-- A turn of the law's page. -/
theorem Standing.turn {w wr : World} {g : Nat} {kv vv : Value} {R : List Rw} (h : Standing w wr g kv vv R) (ka oa na : Option Addr) (kn kc on oc nn nc : Nat) (K O N : List UInt8)
    (hk : RB w.heap.size w ka kn kc K) (ho : RB w.heap.size w oa on oc O) (hn : RB w.heap.size w na nn nc N) :
    Calls Tryd.prog 9 #[.slice (some ⟨g, 0, none⟩) 512 512, .agg #[.slice ka kn kc, .slice oa on oc, .slice na nn nc]] wr fun e w' =>
      e = .returned (.int .i64 ((turnL (mkP z10 R) K O N).1 : Nat)) ∧ ∃ R', (turnL (mkP z10 R) K O N).2 = mkP z10 R' ∧ Standing w w' g kv vv R' := by
  have hgw := h.gw
  have f : ∀ {a n c l}, RB w.heap.size w a n c l → RBn g w.heap.size wr a n c l := fun hr => ⟨hr.below h.bl, fun hc b o s e => by
    obtain ⟨b', o', e', hb, -⟩ := hr.at_ hc
    rw [e] at e'; cases e'; omega⟩
  refine (Turn_any g 512 (mkP z10 R) [] w.heap.size ka oa na kn kc on oc nn nc K O N wr h.pg (f hk) (f ho) (f hn) h.bl.size).mono ?_
  rintro e w' ⟨rfl, hp, hm⟩
  refine ⟨rfl, ?_⟩
  have ht := turnL_mk h.ok K O N
  by_cases ht0 : turnedB K.length O.length N.length = false
  · rw [if_pos ht0] at ht
    rw [ht] at hp ⊢
    exact ⟨R, rfl, h.mod hm hp h.ok⟩
  rw [if_neg ht0] at ht
  by_cases hg : got R K ≠ (if O = [] then none else some O)
  · rw [if_pos hg] at ht
    rw [ht] at hp ⊢
    exact ⟨R, rfl, h.mod hm hp h.ok⟩
  rw [if_neg hg] at ht
  by_cases hf : 501 < (enc (put R K N)).length
  · rw [if_pos hf] at ht
    rw [ht] at hp ⊢
    exact ⟨R, rfl, h.mod hm hp h.ok⟩
  rw [if_neg hf] at ht
  rw [ht] at hp ⊢
  obtain ⟨t1, t2, t3, t4, t5⟩ := (turned_iff K O N).1 (by simpa using ht0)
  exact ⟨_, rfl, h.mod hm hp (put_page h.ok (fun hN => ⟨t1, t2, List.length_pos_iff.2 hN, t5⟩) (by omega))⟩

/-- What the law finds behind its loop: the row that is not there. -/
theorem room_in {R : List Rw} (H : PageOf z10 R) {K V : List UInt8} (hg : got R K = none) (hk : 1 ≤ K.length) (hk2 : K.length ≤ 40) (hv : 1 ≤ V.length) (hs : K.length + V.length ≤ 220) :
    roomL (mkP z10 R) = 501 - (enc R).length ∧ (enc R).length ≤ 501 ∧
    (if 501 - (enc R).length < 2 + K.length + V.length then turnL (mkP z10 R) K [] V = (5, mkP z10 R) else
      turnL (mkP z10 R) K [] V = (0, mkP z10 (put R K V)) ∧ PageOf z10 (put R K V) ∧ roomL (mkP z10 (put R K V)) = 501 - (enc R).length - (2 + K.length + V.length) ∧
      turnL (mkP z10 (put R K V)) K V [] = (0, mkP z10 R)) := by
  have hf := H.fit
  refine ⟨room_mk H, hf, ?_⟩
  have hv0 : V ≠ [] := List.length_pos_iff.1 hv
  have he := enc_put_none H.up hg hv0
  have ht := turnL_mk H K [] V
  rw [if_neg (by rw [(turned_iff K [] V).2 ⟨hk, hk2, .inr hv, by simp; omega, hs⟩]; simp), if_neg (by rw [hg]; simp)] at ht
  split
  · rw [if_pos (by omega)] at ht; exact ht
  · rw [if_neg (by omega)] at ht
    have H' : PageOf z10 (put R K V) := put_page H (fun _ => ⟨hk, hk2, hv, hs⟩) (by omega)
    refine ⟨ht, H', by rw [room_mk H']; omega, ?_⟩
    have ht2 := turnL_mk H' K V []
    rw [if_neg (by rw [(turned_iff K V []).2 ⟨hk, hk2, .inl hv, hs, by simp; omega⟩]; simp), if_neg (by rw [got_put, if_neg hv0]; simp), put_put, put_none H.up hg, if_neg (by omega)] at ht2
    exact ht2

set_option maxHeartbeats 4000000 in
set_option maxRecDepth 100000 in
theorem PageRoom_any (la : Option Addr) (ln lc : Nat) (D : Nat → DoV) (ka va : Option Addr) (kn kc vn vc : Nat) (K V : List UInt8) (w : World) (hl : DosAt w.heap.size w la ln lc D)
    (hk : RB w.heap.size w ka kn kc K) (hv : RB w.heap.size w va vn vc V) :
    Calls Tryd.prog 3 #[.slice la ln lc, .agg #[.slice ka kn kc, .slice va vn vc]] w fun e w' => e = .returned (.bool true) ∧ Below w.heap.size w w' := by
  have hkl := hk.len
  have hvl := hv.len
  have hklm := hk.lm
  have hvlm := hv.lm
  have hlmx := hl.mx
  have hlle := hl.le
  have Hkl := Lib.hid hkl
  have Hvl := Lib.hid hvl
  clear hkl hvl
  have Hb0 := Lib.hid ((Below.refl _ w).alloc (Nat.le_refl _) (.cells #[.slice ka kn kc, .slice va vn vc] 25))
  have Hz0 := Lib.hid (show T2 (w.alloc (.cells #[.slice ka kn kc, .slice va vn vc] 25)) w.heap.size (.slice ka kn kc) (.slice va vn vc) from heap_alloc_new w _)
  have Hs0 : Hid ((w.alloc (.cells #[.slice ka kn kc, .slice va vn vc] 25)).heap.size = w.heap.size + 1) := Lib.hid (by simp)
  go_enter Tryd.func3, Tryd.ntmps3
  go_wp2_with (fail)
  go_at_call 6
  refine (awake_any _).mono ?_
  rintro e w1 ⟨rfl, hb1⟩
  have Hb1 := Lib.hid (Hb0.out.trans (hb1.mono (by have := Hs0.out; omega)))
  have hz1 := Hz0.out.below hb1 (by have := Hs0.out; omega)
  have Hz1 := Lib.hid hz1
  have Hs1 := Lib.hid (show w.heap.size < w1.heap.size by have := hb1.size; have := Hs0.out; omega)
  clear hb1 Hb0 Hz0 Hs0
  obtain ⟨y0, y1⟩ := hz1.cells
  by_cases hA : 100 < ln
  · have hA' : (100 : Int) < (ln : Int) := by omega
    go_wp2_with (fail)
    go_ret
    exact ⟨rfl, Hb1.out⟩
  have hA' : ¬ (100 : Int) < (ln : Int) := by omega
  by_cases hB : 5000 < kn + vn
  · have hB' : (5000 : Int) < (kn : Int) + (vn : Int) := by omega
    go_wp2_with (fail)
    go_ret
    exact ⟨rfl, Hb1.out⟩
  have hB' : ¬ (5000 : Int) < (kn : Int) + (vn : Int) := by omega
  have hln : ln ≤ 100 := by omega
  go_wp2_with (fail)
  go_at_call 7
  refine (New_any _).mono ?_
  rintro e w2 ⟨rfl, hpg2, hb2⟩
  rw [new_mk] at hpg2
  have Hst2 : Hid (Standing w w2 w1.heap.size (.slice ka kn kc) (.slice va vn vc) []) := Lib.hid ⟨hpg2, new_page, Hb1.out.trans (hb2.mono Hb1.out.size), Hz1.out.below hb2 Hs1.out, Hs1.out⟩
  clear hpg2 hb2 hz1 y0 y1 Hb1 Hz1
  obtain ⟨g, hg⟩ : ∃ g, g = w1.heap.size := ⟨_, rfl⟩
  rw [← hg] at Hst2 ⊢
  clear hg
  go_wp2_with (fail)
  go_loopw [6] (fun i wr => ∃ (j : Nat) (R : List Rw), j ≤ ln ∧ i = .int .i64 j ∧ Hid (Standing w wr g (.slice ka kn kc) (.slice va vn vc) R)) (fun i _ => ln - (intOf i).toNat)
  case atStart => exact ⟨0, [], Nat.zero_le _, rfl, Hst2⟩
  case round =>
    obtain ⟨j, R, hj, rfl, Hst⟩ := hrel
    by_cases hlt : j < ln
    · obtain ⟨b, o, rfl, hbB, hat⟩ := hl.at_ (by omega)
      have Hat := Lib.hid ((hat j hlt).below Hst.out.bl hbB)
      obtain ⟨p0, p1, p2, p3, p4, p5, p6, pk, po, pn⟩ := Hat.out
      have hkm := pk.lm
      have hom := po.lm
      have hnm := pn.lm
      have Pk := Lib.hid (hat j hlt).rk
      have Po := Lib.hid (hat j hlt).ro
      have Pn := Lib.hid (hat j hlt).rn
      clear hat pk po pn Hat
      go_wp2_with (fail)
      go_at_call 8
      refine (long_any _ _ _ _ _ _ _ _ _ _ _ _ _ _ hkm hom hnm).mono ?_
      rintro e w3 ⟨rfl, hb3⟩
      have Hst3 := Lib.hid (Hst.out.below hb3)
      have Hat3 := ((hl.at_ (by omega)))
      obtain ⟨b', o', e', -, hat⟩ := Hat3
      cases e'
      obtain ⟨p0, p1, p2, p3, p4, p5, p6, pk, po, pn⟩ := (hat j hlt).below Hst3.out.bl hbB
      clear hat pk po pn hb3
      cases hlg : longB (D j).kn (D j).on (D j).nn with
      | true =>
        go_wp2_with (fail)
        go_ret
        exact ⟨rfl, Hst3.out.bl⟩
      | false =>
        go_wp2_with (fail)
        go_at_call 9
        refine (Hst3.out.turn _ _ _ _ _ _ _ _ _ _ _ _ Pk.out Po.out Pn.out).mono ?_
        rintro e w4 ⟨rfl, R', -, hst4⟩
        have Hst4 := Lib.hid hst4
        clear hst4
        go_wp2_with (fail)
        go_roundw
        case rel => exact ⟨j + 1, R', by omega, by go_num, Hst4⟩
        case measure => simp [intOf]; omega
    · have hge : ln ≤ j := by omega
      obtain ⟨y0, y1⟩ := Hst.out.row.cells
      go_wp2_with (fail)
      go_at_call 10
      have hget := Get_any _ _ _ _ _ (mkP z10 R) _ _ _ K _ Hst.out.pg.rb (hk.below Hst.out.bl) (Nat.le_refl _) Hst.out.bl.size
      rw [get_mk Hst.out.ok] at hget
      refine Calls.mono hget ?_
      rintro e w5 ⟨⟨v, rfl, -⟩, hb5⟩
      have Hst5 := Lib.hid (Hst.out.below hb5)
      clear hget hb5 Hst y0 y1
      obtain ⟨y0, y1⟩ := Hst5.out.row.cells
      cases hgot : got R K with
      | some v' =>
        go_wp2_with (fail)
        go_ret
        exact ⟨rfl, Hst5.out.bl⟩
      | none =>
        have Hgot := Lib.hid hgot
        clear hgot
        by_cases hc1 : kn < 1
        · have hc1' : (kn : Int) < 1 := by omega
          go_wp2_with (fail)
          go_ret
          exact ⟨rfl, Hst5.out.bl⟩
        have hc1' : ¬ (kn : Int) < 1 := by omega
        by_cases hc2 : 40 < kn
        · have hc2' : (40 : Int) < kn := by omega
          go_wp2_with (fail)
          go_ret
          exact ⟨rfl, Hst5.out.bl⟩
        have hc2' : ¬ (40 : Int) < kn := by omega
        by_cases hc3 : vn < 1
        · have hc3' : (vn : Int) < 1 := by omega
          go_wp2_with (fail)
          go_ret
          exact ⟨rfl, Hst5.out.bl⟩
        have hc3' : ¬ (vn : Int) < 1 := by omega
        by_cases hc4 : 220 < kn + vn
        · have hc4' : (220 : Int) < (kn : Int) + (vn : Int) := by omega
          go_wp2_with (fail)
          go_ret
          exact ⟨rfl, Hst5.out.bl⟩
        have hc4' : ¬ (220 : Int) < (kn : Int) + (vn : Int) := by omega
        have hri := room_in Hst5.out.ok Hgot.out (V := V) (by rw [← Hkl.out]; omega) (by rw [← Hkl.out]; omega) (by rw [← Hvl.out]; omega) (by rw [← Hkl.out, ← Hvl.out]; omega)
        rw [← Hkl.out, ← Hvl.out] at hri
        obtain ⟨r1, r2, r3⟩ := hri
        obtain ⟨u, hu⟩ : ∃ u, u = 501 - (enc R).length := ⟨_, rfl⟩
        rw [← hu] at r1 r3
        have hu5 : u ≤ 501 := by omega
        have Hr1 := Lib.hid r1
        have Hr3 := Lib.hid r3
        clear r1 r2 r3 hu
        go_wp2_with (fail)
        go_at_call 11
        have hroom := Room_any _ _ _ _ (mkP z10 R) w5 Hst5.out.pg.rb (Nat.le_refl _)
        rw [Hr1.out] at hroom
        refine Calls.mono hroom ?_
        rintro e w6 ⟨rfl, hb6⟩
        have Hst6 := Lib.hid (Hst5.out.below hb6)
        clear hroom hb6 Hst5 y0 y1
        obtain ⟨y0, y1⟩ := Hst6.out.row.cells
        have x1 : IntKind.i64.wrap (2 + (kn : Int) + (vn : Int)) = 2 + (kn : Int) + (vn : Int) := IntWalk.i64_in _ (by omega)
        go_wp2_with (fail)
        go_at_call 9
        have hturn := Hst6.out.turn ka none va kn kc 0 0 vn vc K [] V hk (RB.emp _) hv
        by_cases hbig : u < 2 + kn + vn
        · have hbig' : (u : Int) < 2 + (kn : Int) + (vn : Int) := by omega
          have hr3 := Hr3.out
          rw [if_pos hbig] at hr3
          rw [hr3] at hturn
          refine Calls.mono hturn ?_
          rintro e w7 ⟨rfl, R', hR', hst7⟩
          have Hst7 := Lib.hid hst7
          have HR' := Lib.hid hR'
          clear hturn hr3 hst7 hR' Hst6 y0 y1
          go_wp2_with (fail)
          go_at_call 11
          have hroom := Room_any _ _ _ _ (mkP z10 R') w7 Hst7.out.pg.rb (Nat.le_refl _)
          rw [← HR'.out, Hr1.out] at hroom
          refine Calls.mono hroom ?_
          rintro e w8 ⟨rfl, hb8⟩
          have Hst8 := Lib.hid (Hst7.out.below hb8)
          clear hroom hb8
          go_wp2_with (fail)
          go_ret
          exact ⟨by simp, Hst8.out.bl⟩
        · have hbig' : ¬ (u : Int) < 2 + (kn : Int) + (vn : Int) := by omega
          have hr3 := Hr3.out
          rw [if_neg hbig] at hr3
          obtain ⟨t1, t2, t3, t4⟩ := hr3
          rw [t1] at hturn
          refine Calls.mono hturn ?_
          rintro e w7 ⟨rfl, R', hR', hst7⟩
          have Hst7 := Lib.hid hst7
          have HR' := Lib.hid hR'
          have Ht3 := Lib.hid t3
          have Ht4 := Lib.hid t4
          clear hturn hst7 hR' Hst6 y0 y1 t1 t2 t3 t4
          obtain ⟨m, hm⟩ : ∃ m, m = u - (2 + kn + vn) := ⟨_, rfl⟩
          have hmI : (u : Int) - (2 + (kn : Int) + (vn : Int)) = (m : Int) := by omega
          have x2 : IntKind.i64.wrap ((u : Int) - (2 + (kn : Int) + (vn : Int))) = (m : Int) := by rw [hmI]; exact IntWalk.i64_in _ (by omega)
          have Hm := Lib.hid hm
          clear hm hmI
          obtain ⟨y0, y1⟩ := Hst7.out.row.cells
          go_wp2_with (fail)
          go_at_call 11
          have hroom := Room_any _ _ _ _ (mkP z10 R') w7 Hst7.out.pg.rb (Nat.le_refl _)
          rw [← HR'.out, Ht3.out, ← Hm.out] at hroom
          refine Calls.mono hroom ?_
          rintro e w8 ⟨rfl, hb8⟩
          have Hst8 := Lib.hid (Hst7.out.below hb8)
          clear hroom hb8 Hst7 y0 y1
          obtain ⟨y0, y1⟩ := Hst8.out.row.cells
          go_wp2_with (fail)
          go_at_call 9
          have hturn := Hst8.out.turn ka va none kn kc vn vc 0 0 K V [] hk hv (RB.emp _)
          rw [← HR'.out, Ht4.out] at hturn
          refine Calls.mono hturn ?_
          rintro e w9 ⟨rfl, R2, hR2, hst9⟩
          have Hst9 := Lib.hid hst9
          have HR2 := Lib.hid hR2
          clear hturn hst9 hR2 Hst8 y0 y1
          go_wp2_with (fail)
          go_at_call 11
          have hroom := Room_any _ _ _ _ (mkP z10 R2) w9 Hst9.out.pg.rb (Nat.le_refl _)
          rw [← HR2.out, Hr1.out] at hroom
          refine Calls.mono hroom ?_
          rintro e w10 ⟨rfl, hb10⟩
          have Hst10 := Lib.hid (Hst9.out.below hb10)
          clear hroom hb10
          go_wp2_with (fail)
          go_ret
          exact ⟨by simp, Hst10.out.bl⟩
end Go.Proofs.YtbinikbgbgggaaaDoor
