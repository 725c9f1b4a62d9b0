/- The walk of the law PageRoom. -/
import Derived.Test.YtbinikbgbgggaaaGreatDoorLawB
import Derived.Test.YtbinikbgbgggaaaGreatDoorPure3
namespace Go.Proofs.YtbinikbgbgggaaaGreatDoor
open Go.RowKit Go.Shelf

/-- One Do of the law's list, as it lies in memory. -/
structure DoV where
  op : Int
  next : Int
  lsn : Int
  ka : Option Addr
  kn : Nat
  kc : Nat
  K : List UInt8
  oa : Option Addr
  on : Nat
  oc : Nat
  O : List UInt8
  na : Option Addr
  nn : Nat
  nc : Nat
  N : List UInt8
  take : Bool
instance : Inhabited DoV := ⟨⟨0, 0, 0, none, 0, 0, [], none, 0, 0, [], none, 0, 0, [], false⟩⟩

structure DoAt (B : Nat) (w : World) (b o : Nat) (d : DoV) : Prop where
  c0 : w.cell? ⟨b, o, none⟩ = some (.int .i64 d.op)
  c1 : w.cell? ⟨b, o + 1, none⟩ = some (.int .i64 d.next)
  c2 : w.cell? ⟨b, o + 2, none⟩ = some (.int .i64 d.lsn)
  c3 : w.cell? ⟨b, o + 3, none⟩ = some (.slice d.ka d.kn d.kc)
  c4 : w.cell? ⟨b, o + 4, none⟩ = some (.slice d.oa d.on d.oc)
  c5 : w.cell? ⟨b, o + 5, none⟩ = some (.slice d.na d.nn d.nc)
  c6 : w.cell? ⟨b, o + 6, none⟩ = some (.bool d.take)
  rk : RB B w d.ka d.kn d.kc d.K
  ro : RB B w d.oa d.on d.oc d.O
  rn : RB B w d.na d.nn d.nc d.N
theorem DoAt.below {B : Nat} {w w' : World} {b o : Nat} {d : DoV} (h : DoAt B w b o d) (hb : Below B w w') (hB : b < B) : DoAt B w' b o d :=
  ⟨(hb.cell hB).trans h.c0, (hb.cell hB).trans h.c1, (hb.cell hB).trans h.c2, (hb.cell hB).trans h.c3, (hb.cell hB).trans h.c4, (hb.cell hB).trans h.c5, (hb.cell hB).trans h.c6, h.rk.below hb, h.ro.below hb, h.rn.below hb⟩
/-- The law's list. -/
structure DosAt (B : Nat) (w : World) (la : Option Addr) (ln lc : Nat) (D : Nat → DoV) : Prop where
  le : ln ≤ lc
  mx : lc ≤ 9223372036854775807
  at_ : 0 < lc → ∃ b o, la = some ⟨b, o, none⟩ ∧ b < B ∧ ∀ i, i < ln → DoAt B w b (o + i * 7) (D i)

/-- The block of a boxed row. -/
def T2 (W : World) (z : Nat) (v0 v1 : Value) : Prop := W.heap[z]? = some (.cells #[v0, v1] 60 (0, 0))
theorem T2.below {B : Nat} {W W' : World} {z : Nat} {v0 v1 : Value} (h : T2 W z v0 v1) (hb : Below B W W') (hz : z < B) : T2 W' z v0 v1 := (hb.block z hz).trans h
theorem T2.cells {W : World} {z : Nat} {v0 v1 : Value} (h : T2 W z v0 v1) : W.cell? ⟨z, 0, none⟩ = some v0 ∧ W.cell? ⟨z, 1, none⟩ = some v1 := by
  unfold T2 at h; simp [World.cell?, h]
theorem T2.mod {g : Nat} {W W' : World} {z : Nat} {v0 v1 : Value} (h : T2 W z v0 v1) (hm : Mod g W W') (hne : z ≠ g) : T2 W' z v0 v1 := (hm.block' (Array.getElem?_eq_some_iff.1 h).1 hne).trans h

/-- The page that the law turns. -/
def z10 : List UInt8 := List.replicate 10 0
/-- Where the law stands, in its loop and behind it. -/
structure Standing (w wr : World) (g : Nat) (kv vv : Value) (R : List Rw) : Prop where
  pg : PG wr g 512 (mkP z10 R) []
  ok : PageOf z10 R
  bl : Below w.heap.size w wr
  row : T2 wr w.heap.size kv vv
  gw : w.heap.size < g
theorem Standing.below {w wr w' : World} {g : Nat} {kv vv : Value} {R : List Rw} (h : Standing w wr g kv vv R) (hb : Below wr.heap.size wr w') : Standing w w' g kv vv R :=
  ⟨h.pg.below hb h.pg.lt, h.ok, h.bl.trans (hb.mono h.bl.size), h.row.below hb (Nat.lt_trans h.gw h.pg.lt), h.gw⟩
theorem Standing.mod {w wr w' : World} {g : Nat} {kv vv : Value} {R R' : List Rw} (h : Standing w wr g kv vv R) (hm : Mod g wr w') (hp : PG w' g 512 (mkP z10 R') []) (ho : PageOf z10 R') : Standing w w' g kv vv R' :=
  ⟨hp, ho, Below.mod h.bl hm (Nat.le_of_lt h.gw) h.bl.size, h.row.mod hm (Nat.ne_of_lt h.gw), h.gw⟩

/-- A turn of the law's page. -/
theorem Standing.turn {w wr : World} {g : Nat} {kv vv : Value} {R : List Rw} (h : Standing w wr g kv vv R) (ka oa na : Option Addr) (kn kc on oc nn nc : Nat) (K O N : List UInt8)
    (hk : RB w.heap.size w ka kn kc K) (ho : RB w.heap.size w oa on oc O) (hn : RB w.heap.size w na nn nc N) :
    Calls Tryz.prog 14 #[.slice (some ⟨g, 0, none⟩) 512 512, .agg #[.slice ka kn kc, .slice oa on oc, .slice na nn nc]] wr fun e w' =>
      e = .returned (.int .i64 ((turnL (mkP z10 R) K O N).1 : Nat)) ∧ ∃ R', (turnL (mkP z10 R) K O N).2 = mkP z10 R' ∧ Standing w w' g kv vv R' := by
  have hgw := h.gw
  have f : ∀ {a n c l}, RB w.heap.size w a n c l → RBn g w.heap.size wr a n c l := fun hr => ⟨hr.below h.bl, fun hc b o s e => by
    obtain ⟨b', o', e', hb, -⟩ := hr.at_ hc
    rw [e] at e'; cases e'; omega⟩
  refine (Turn_any g 512 (mkP z10 R) [] w.heap.size ka oa na kn kc on oc nn nc K O N wr h.pg (f hk) (f ho) (f hn) h.bl.size).mono ?_
  rintro e w' ⟨rfl, hp, hm⟩
  refine ⟨rfl, ?_⟩
  have ht := turnL_mk h.ok K O N
  by_cases ht0 : turnedB K.length O.length N.length = false
  · rw [if_pos ht0] at ht
    rw [ht] at hp ⊢
    exact ⟨R, rfl, h.mod hm hp h.ok⟩
  rw [if_neg ht0] at ht
  by_cases hg : got R K ≠ (if O = [] then none else some O)
  · rw [if_pos hg] at ht
    rw [ht] at hp ⊢
    exact ⟨R, rfl, h.mod hm hp h.ok⟩
  rw [if_neg hg] at ht
  by_cases hf : 501 < (enc (put R K N)).length
  · rw [if_pos hf] at ht
    rw [ht] at hp ⊢
    exact ⟨R, rfl, h.mod hm hp h.ok⟩
  rw [if_neg hf] at ht
  rw [ht] at hp ⊢
  obtain ⟨t1, t2, t3, t4, t5⟩ := (turned_iff K O N).1 (by simpa using ht0)
  exact ⟨_, rfl, h.mod hm hp (put_page h.ok (fun hN => ⟨t1, t2, List.length_pos_iff.2 hN, t5⟩) (by omega))⟩

/-- What the law finds behind its loop: the row that is not there. -/
theorem room_in {R : List Rw} (H : PageOf z10 R) {K V : List UInt8} (hg : got R K = none) (hk : 1 ≤ K.length) (hk2 : K.length ≤ 40) (hv : 1 ≤ V.length) (hs : K.length + V.length ≤ 220) :
    roomL (mkP z10 R) = 501 - (enc R).length ∧ (enc R).length ≤ 501 ∧
    (if 501 - (enc R).length < 2 + K.length + V.length then turnL (mkP z10 R) K [] V = (5, mkP z10 R) else
      turnL (mkP z10 R) K [] V = (0, mkP z10 (put R K V)) ∧ PageOf z10 (put R K V) ∧ roomL (mkP z10 (put R K V)) = 501 - (enc R).length - (2 + K.length + V.length) ∧
      turnL (mkP z10 (put R K V)) K V [] = (0, mkP z10 R)) := by
  have hf := H.fit
  refine ⟨room_mk H, hf, ?_⟩
  have hv0 : V ≠ [] := List.length_pos_iff.1 hv
  have he := enc_put_none H.up hg hv0
  have ht := turnL_mk H K [] V
  rw [if_neg (by rw [(turned_iff K [] V).2 ⟨hk, hk2, .inr hv, by simp; omega, hs⟩]; simp), if_neg (by rw [hg]; simp)] at ht
  split
  · rw [if_pos (by omega)] at ht; exact ht
  · rw [if_neg (by omega)] at ht
    have H' : PageOf z10 (put R K V) := put_page H (fun _ => ⟨hk, hk2, hv, hs⟩) (by omega)
    refine ⟨ht, H', by rw [room_mk H']; omega, ?_⟩
    have ht2 := turnL_mk H' K V []
    rw [if_neg (by rw [(turned_iff K V []).2 ⟨hk, hk2, .inl hv, hs, by simp; omega⟩]; simp), if_neg (by rw [got_put, if_neg hv0]; simp), put_put, put_none H.up hg, if_neg (by omega)] at ht2
    exact ht2

end Go.Proofs.YtbinikbgbgggaaaGreatDoor
