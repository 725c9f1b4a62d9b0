/- The walk of the law PageRoom. Arguments opened: slices of bytes; a list of Dos; a row. -/
import Derived.Test.YtbinikbgbgggaaaGreatDoorLawB
import Derived.Test.YtbinikbgbgggaaaGreatDoorPure3
import Derived.ProofKit
import Derived.OpenShut
import Derived.Deep.Slices
import Derived.Deep.Strs
namespace Go.Proofs.YtbinikbgbgggaaaGreatDoor
open Go.RowKit Go.Shelf

/-- One Do of the law's list, as it lies in memory. -/
structure DoV where
  op : Int
  next : Int
  lsn : Int
  ka : Option Addr
  kn : Nat
  kc : Nat
  K : List UInt8
  oa : Option Addr
  on : Nat
  oc : Nat
  O : List UInt8
  na : Option Addr
  nn : Nat
  nc : Nat
  N : List UInt8
  take : Bool
instance : Inhabited DoV := ⟨⟨0, 0, 0, none, 0, 0, [], none, 0, 0, [], none, 0, 0, [], false⟩⟩

structure DoAt (B : Nat) (w : World) (b o : Nat) (d : DoV) : Prop where
  c0 : w.cell? ⟨b, o, none⟩ = some (.int .i64 d.op)
  c1 : w.cell? ⟨b, o + 1, none⟩ = some (.int .i64 d.next)
  c2 : w.cell? ⟨b, o + 2, none⟩ = some (.int .i64 d.lsn)
  c3 : w.cell? ⟨b, o + 3, none⟩ = some (.slice d.ka d.kn d.kc)
  c4 : w.cell? ⟨b, o + 4, none⟩ = some (.slice d.oa d.on d.oc)
  c5 : w.cell? ⟨b, o + 5, none⟩ = some (.slice d.na d.nn d.nc)
  c6 : w.cell? ⟨b, o + 6, none⟩ = some (.bool d.take)
  rk : RB B w d.ka d.kn d.kc d.K
  ro : RB B w d.oa d.on d.oc d.O
  rn : RB B w d.na d.nn d.nc d.N
theorem DoAt.below {B : Nat} {w w' : World} {b o : Nat} {d : DoV} (h : DoAt B w b o d) (hb : Below B w w') (hB : b < B) : DoAt B w' b o d :=
  ⟨(hb.cell hB).trans h.c0, (hb.cell hB).trans h.c1, (hb.cell hB).trans h.c2, (hb.cell hB).trans h.c3, (hb.cell hB).trans h.c4, (hb.cell hB).trans h.c5, (hb.cell hB).trans h.c6, h.rk.below hb, h.ro.below hb, h.rn.below hb⟩
/-- The law's list. -/
structure DosAt (B : Nat) (w : World) (la : Option Addr) (ln lc : Nat) (D : Nat → DoV) : Prop where
  le : ln ≤ lc
  mx : lc ≤ 9223372036854775807
  at_ : 0 < lc → ∃ b o, la = some ⟨b, o, none⟩ ∧ b < B ∧ ∀ i, i < ln → DoAt B w b (o + i * 7) (D i)

/-- The block of a boxed row. -/
def T2 (W : World) (z : Nat) (v0 v1 : Value) : Prop := W.heap[z]? = some (.cells #[v0, v1] 60 (0, 0))
theorem T2.below {B : Nat} {W W' : World} {z : Nat} {v0 v1 : Value} (h : T2 W z v0 v1) (hb : Below B W W') (hz : z < B) : T2 W' z v0 v1 := (hb.block z hz).trans h
theorem T2.cells {W : World} {z : Nat} {v0 v1 : Value} (h : T2 W z v0 v1) : W.cell? ⟨z, 0, none⟩ = some v0 ∧ W.cell? ⟨z, 1, none⟩ = some v1 := by
  unfold T2 at h; simp [World.cell?, h]
theorem T2.mod {g : Nat} {W W' : World} {z : Nat} {v0 v1 : Value} (h : T2 W z v0 v1) (hm : Mod g W W') (hne : z ≠ g) : T2 W' z v0 v1 := (hm.block' (Array.getElem?_eq_some_iff.1 h).1 hne).trans h

/-- The page that the law turns. -/
def z10 : List UInt8 := List.replicate 10 0
/-- Where the law stands, in its loop and behind it. -/
structure Standing (w wr : World) (g : Nat) (kv vv : Value) (R : List Rw) : Prop where
  pg : PG wr g 512 (mkP z10 R) []
  ok : PageOf z10 R
  bl : Below w.heap.size w wr
  row : T2 wr w.heap.size kv vv
  gw : w.heap.size < g
theorem Standing.below {w wr w' : World} {g : Nat} {kv vv : Value} {R : List Rw} (h : Standing w wr g kv vv R) (hb : Below wr.heap.size wr w') : Standing w w' g kv vv R :=
  ⟨h.pg.below hb h.pg.lt, h.ok, h.bl.trans (hb.mono h.bl.size), h.row.below hb (Nat.lt_trans h.gw h.pg.lt), h.gw⟩
theorem Standing.mod {w wr w' : World} {g : Nat} {kv vv : Value} {R R' : List Rw} (h : Standing w wr g kv vv R) (hm : Mod g wr w') (hp : PG w' g 512 (mkP z10 R') []) (ho : PageOf z10 R') : Standing w w' g kv vv R' :=
  ⟨hp, ho, Below.mod h.bl hm (Nat.le_of_lt h.gw) h.bl.size, h.row.mod hm (Nat.ne_of_lt h.gw), h.gw⟩

/-- A turn of the law's page. -/
theorem Standing.turn {w wr : World} {g : Nat} {kv vv : Value} {R : List Rw} (h : Standing w wr g kv vv R) (ka oa na : Option Addr) (kn kc on oc nn nc : Nat) (K O N : List UInt8)
    (hk : RB w.heap.size w ka kn kc K) (ho : RB w.heap.size w oa on oc O) (hn : RB w.heap.size w na nn nc N) :
    Calls Tryz.prog 14 #[.slice (some ⟨g, 0, none⟩) 512 512, .agg #[.slice ka kn kc, .slice oa on oc, .slice na nn nc]] wr fun e w' =>
      e = .returned (.int .i64 ((turnL (mkP z10 R) K O N).1 : Nat)) ∧ ∃ R', (turnL (mkP z10 R) K O N).2 = mkP z10 R' ∧ Standing w w' g kv vv R' := by
  have hgw := h.gw
  have f : ∀ {a n c l}, RB w.heap.size w a n c l → RBn g w.heap.size wr a n c l := fun hr => ⟨hr.below h.bl, fun hc b o s e => by
    obtain ⟨b', o', e', hb, -⟩ := hr.at_ hc
    rw [e] at e'; cases e'; omega⟩
  refine (Turn_any g 512 (mkP z10 R) [] w.heap.size ka oa na kn kc on oc nn nc K O N wr h.pg (f hk) (f ho) (f hn) h.bl.size).mono ?_
  rintro e w' ⟨rfl, hp, hm⟩
  refine ⟨rfl, ?_⟩
  have ht := turnL_mk h.ok K O N
  by_cases ht0 : turnedB K.length O.length N.length = false
  · rw [if_pos ht0] at ht
    rw [ht] at hp ⊢
    exact ⟨R, rfl, h.mod hm hp h.ok⟩
  rw [if_neg ht0] at ht
  by_cases hg : got R K ≠ (if O = [] then none else some O)
  · rw [if_pos hg] at ht
    rw [ht] at hp ⊢
    exact ⟨R, rfl, h.mod hm hp h.ok⟩
  rw [if_neg hg] at ht
  by_cases hf : 501 < (enc (put R K N)).length
  · rw [if_pos hf] at ht
    rw [ht] at hp ⊢
    exact ⟨R, rfl, h.mod hm hp h.ok⟩
  rw [if_neg hf] at ht
  rw [ht] at hp ⊢
  obtain ⟨t1, t2, t3, t4, t5⟩ := (turned_iff K O N).1 (by simpa using ht0)
  exact ⟨_, rfl, h.mod hm hp (put_page h.ok (fun hN => ⟨t1, t2, List.length_pos_iff.2 hN, t5⟩) (by omega))⟩

/-- What the law finds behind its loop: the row that is not there. -/
theorem room_in {R : List Rw} (H : PageOf z10 R) {K V : List UInt8} (hg : got R K = none) (hk : 1 ≤ K.length) (hk2 : K.length ≤ 40) (hv : 1 ≤ V.length) (hs : K.length + V.length ≤ 220) :
    roomL (mkP z10 R) = 501 - (enc R).length ∧ (enc R).length ≤ 501 ∧
    (if 501 - (enc R).length < 2 + K.length + V.length then turnL (mkP z10 R) K [] V = (5, mkP z10 R) else
      turnL (mkP z10 R) K [] V = (0, mkP z10 (put R K V)) ∧ PageOf z10 (put R K V) ∧ roomL (mkP z10 (put R K V)) = 501 - (enc R).length - (2 + K.length + V.length) ∧
      turnL (mkP z10 (put R K V)) K V [] = (0, mkP z10 R)) := by
  have hf := H.fit
  refine ⟨room_mk H, hf, ?_⟩
  have hv0 : V ≠ [] := List.length_pos_iff.1 hv
  have he := enc_put_none H.up hg hv0
  have ht := turnL_mk H K [] V
  rw [if_neg (by rw [(turned_iff K [] V).2 ⟨hk, hk2, .inr hv, by simp; omega, hs⟩]; simp), if_neg (by rw [hg]; simp)] at ht
  split
  · rw [if_pos (by omega)] at ht; exact ht
  · rw [if_neg (by omega)] at ht
    have H' : PageOf z10 (put R K V) := put_page H (fun _ => ⟨hk, hk2, hv, hs⟩) (by omega)
    refine ⟨ht, H', by rw [room_mk H']; omega, ?_⟩
    have ht2 := turnL_mk H' K V []
    rw [if_neg (by rw [(turned_iff K V []).2 ⟨hk, hk2, .inl hv, hs, by simp; omega⟩]; simp), if_neg (by rw [got_put, if_neg hv0]; simp), put_put, put_none H.up hg, if_neg (by omega)] at ht2
    exact ht2

end Go.Proofs.YtbinikbgbgggaaaGreatDoor
namespace Go.Proofs.YtbinikbgbgggaaaGreatDoor
open Go.ChangeShapes Go.WideShapes Go.ChangeAt Go.RowKit Go.Shelf

section
variable {H : Type} {enc : TypeId × Value → H}

set_option maxRecDepth 100000 in
theorem Tryz.cellsU8 : Tryz.prog.cellsOf 5 = 1 := by kernel_rfl
set_option maxRecDepth 100000 in
theorem Tryz.bytesU8 : Tryz.prog.bytesOf 5 = 1 := by kernel_rfl
/-- What the form's own reach says of a reading. -/
def Sized (t : TypeId) (d : DataW H) : Prop := ∀ n ∈ d.weights Tryz.prog t, n ≤ reachBytes

set_option maxRecDepth 100000 in
theorem add_plain (b o i : Nat) : (⟨b, o, none⟩ : Addr).add i = ⟨b, o + i, none⟩ := by unfold Addr.add; split <;> simp_all
set_option maxRecDepth 100000 in
theorem cell_lt {w : World} {a : Addr} {v : Value} (h : w.cell? a = some v) : a.block < w.heap.size := by
  unfold World.cell? at h
  rcases Nat.lt_or_ge a.block w.heap.size with hl | hl
  · exact hl
  · rw [Array.getElem?_eq_none hl] at h; simp at h

set_option maxRecDepth 100000 in
theorem open_bytes {W : World} {fuel : Nat} {cs : List Value} {x : DataW H × List MemPlace} (h : DataW.trod enc Tryz.prog W 0 (fun _ => true) true fuel 22 cs = some x) (hs : Sized 22 x.1) :
    ∃ a n c l, cs = [.slice a n c] ∧ RB W.heap.size W a n c l := by
  rcases open_ints Tryz.underlying22 Tryz.underlying5 Tryz.cellsU8 h with ⟨rfl, -⟩ | ⟨a, len, cap, zs, rfl, -, hl, hm, hz, rfl, hcell, hwf⟩
  · exact ⟨none, 0, 0, [], rfl, RB.emp _⟩
  · have hz' : zs.length = cap := by simpa using hz
    have hw := hs ((len + (cap - len)) * 1) (by
      simp only [DataW.weights, Tryz.underlying22, Tryz.bytesU8, List.mem_cons, lits, List.length_map, List.length_take, List.length_drop]
      left; rw [hz']; congr 1; omega)
    have hr : reachBytes = 140737488351232 := rfl
    have hv : ∀ i, i < cap → 0 ≤ zs.getD i 0 ∧ zs.getD i 0 < 256 := fun i hi => by
      have hi' : i < zs.length := by omega
      have := hwf (zs.getD i 0) (by rw [List.getD_eq_getElem?_getD, List.getElem?_eq_getElem hi']; exact List.getElem_mem hi')
      simp only [Lit.wf, Bool.and_eq_true, decide_eq_true_eq] at this
      have e1 : IntKind.u8.min = 0 := by decide
      have e2 : IntKind.u8.max = 255 := by decide
      rw [e1, e2] at this
      omega
    refine ⟨some a, len, cap, (zs.take len).map fun z => UInt8.ofNat z.toNat, rfl, ⟨by simp; omega, hl, by simpa [maxLen] using hm, by omega, fun hc => ?_⟩⟩
    obtain ⟨b, o, s⟩ := a
    have h0 := hcell 0 (by omega)
    have hspot : s = none := by simpa [Addr.add] using World.cell?_spot h0
    subst hspot
    refine ⟨b, o, rfl, by simpa [Addr.add] using cell_lt h0, fun i hi => ?_⟩
    have hc := hcell i (by omega)
    rw [add_plain] at hc
    rw [hc]
    have hi' : i < zs.length := by omega
    obtain ⟨h1, h2⟩ := hv i (by omega)
    have e2 : zs.getD i 0 = zs[i] := by rw [List.getD_eq_getElem?_getD, List.getElem?_eq_getElem hi']; rfl
    rw [e2] at h1 h2 ⊢
    unfold bt
    simp [List.getD_eq_getElem?_getD, List.getElem?_take, hi, List.getElem?_eq_getElem hi']
    omega

set_option maxRecDepth 100000 in
theorem weightsAll_mem {P : Program} {e : TypeId} : ∀ {l : List (DataW H)} {d : DataW H}, d ∈ l → ∀ n ∈ d.weights P e, n ∈ DataW.weightsAll P e l
  | d' :: r, d, hd, n, hn => by
    simp only [DataW.weightsAll, List.mem_append]
    rcases List.mem_cons.1 hd with rfl | h
    · exact Or.inl hn
    · exact Or.inr (weightsAll_mem h n hn)
set_option maxRecDepth 100000 in
theorem Sized.field {t : TypeId} {fs : Array Field} {l : List (DataW H)} (h : Sized t (.agg l)) (ht : Tryz.prog.underlying t = some (.struct fs)) {j : Nat} {f : Field} {d : DataW H} (hf : fs[j]? = some f) (hd : l[j]? = some d) : Sized f.type d := fun n hn => by
  refine h n ?_
  simp only [DataW.weights, ht]
  exact DataW.weights_mem_each (by simp [hf]) hd n hn
set_option maxRecDepth 100000 in
theorem Sized.elem {t e : TypeId} {l sp : List (DataW H)} (h : Sized t (.slice l sp)) (ht : Tryz.prog.underlying t = some (.slice e)) {d : DataW H} (hd : d ∈ l) : Sized e d := fun n hn => by
  refine h n ?_
  simp only [DataW.weights, ht, List.mem_cons, List.mem_append]
  exact Or.inr (Or.inl (weightsAll_mem hd n hn))

set_option maxRecDepth 100000 in
theorem Tryz.cellsInt : Tryz.prog.cellsOf 3 = 1 := by kernel_rfl
set_option maxRecDepth 100000 in
theorem Tryz.cellsI64 : Tryz.prog.cellsOf 2 = 1 := by kernel_rfl
set_option maxRecDepth 100000 in
theorem Tryz.cellsBool : Tryz.prog.cellsOf 4 = 1 := by kernel_rfl
set_option maxRecDepth 100000 in
theorem Tryz.cellsBytes : Tryz.prog.cellsOf 22 = 1 := by kernel_rfl
set_option maxRecDepth 100000 in
theorem Tryz.cellsTurn : Tryz.prog.cellsOf 36 = 3 := by kernel_rfl
set_option maxRecDepth 100000 in
theorem Tryz.cellsDo : Tryz.prog.cellsOf 47 = 7 := by kernel_rfl
set_option maxRecDepth 100000 in
theorem Tryz.cellsRow : Tryz.prog.cellsOf 60 = 2 := by kernel_rfl

set_option maxRecDepth 100000 in
theorem open_do {W : World} {fuel : Nat} {b o : Nat} {cs : List Value} {x : DataW H × List MemPlace} (hc : ∀ i, i < 7 → W.cell? ⟨b, o + i, none⟩ = cs[i]?) (h : DataW.trod enc Tryz.prog W 0 (fun _ => true) true fuel 47 cs = some x) (hs : Sized 47 x.1) :
    ∃ d : DoV, DoAt W.heap.size W b o d := by
  obtain ⟨xs, n, -, rfl, hl, hxl, hf⟩ := DataW.trod_struct Tryz.underlying47 h
  rw [Tryz.cellsDo] at hl
  match cs, hl with
  | [v0, v1, v2, v3, v4, v5, v6], _ =>
    match xs, hxl with
    | [x0, x1, x2, x3, x4], _ =>
      have g0 := hf 0 _ rfl
      have g1 := hf 1 _ rfl
      have g2 := hf 2 _ rfl
      have g3 := hf 3 _ rfl
      have g4 := hf 4 _ rfl
      simp only [Tryz.cellsInt, Tryz.cellsI64, Tryz.cellsBool, Tryz.cellsTurn, List.drop_succ_cons, List.drop_zero, List.take_succ_cons, List.take_zero, List.getElem?_cons_zero, List.getElem?_cons_succ] at g0 g1 g2 g3 g4
      obtain ⟨n0, e0, -, -⟩ := DataW.trod_int Tryz.underlying3 g0
      obtain ⟨n1, e1, -, -⟩ := DataW.trod_int Tryz.underlying3 g1
      obtain ⟨n2, e2, -, -⟩ := DataW.trod_int Tryz.underlying2 g2
      obtain ⟨b4, e4, -⟩ := DataW.trod_bool Tryz.underlying4 g4
      have s3 := hs.field Tryz.underlying47 (j := 3) rfl (by rfl)
      obtain ⟨y0, y1, y2, m, rfl, -, k0, k1, k2⟩ := Go.Deep.trod_struct3 Tryz.underlying36 g3
      simp only [Tryz.cellsBytes, List.drop_succ_cons, List.drop_zero, List.take_succ_cons, List.take_zero] at k0 k1 k2
      have t0 := s3.field Tryz.underlying36 (j := 0) rfl (by rfl)
      have t1 := s3.field Tryz.underlying36 (j := 1) rfl (by rfl)
      have t2 := s3.field Tryz.underlying36 (j := 2) rfl (by rfl)
      obtain ⟨a0, l0, c0, L0, f0, r0⟩ := open_bytes k0 t0
      obtain ⟨a1, l1, c1, L1, f1, r1⟩ := open_bytes k1 t1
      obtain ⟨a2, l2, c2, L2, f2, r2⟩ := open_bytes k2 t2
      cases e0; cases e1; cases e2; cases e4; cases f0; cases f1; cases f2
      exact ⟨⟨n0, n1, n2, a0, l0, c0, L0, a1, l1, c1, L1, a2, l2, c2, L2, b4⟩, hc 0 (by decide), hc 1 (by decide), hc 2 (by decide), hc 3 (by decide), hc 4 (by decide), hc 5 (by decide), hc 6 (by decide), r0, r1, r2⟩

set_option maxRecDepth 100000 in
theorem open_dos {W : World} {fuel : Nat} {cs : List Value} {x : DataW H × List MemPlace} (h : DataW.trod enc Tryz.prog W 0 (fun _ => true) true fuel 44 cs = some x) (hs : Sized 44 x.1) :
    ∃ a n c D, cs = [.slice a n c] ∧ DosAt W.heap.size W a n c D := by
  rcases Go.Deep.open_slice Tryz.underlying44 h with ⟨rfl, -⟩ | ⟨a, len, cap, m, n, D, Pl, rfl, -, hl, hm, hmm, rfl, hel⟩
  · exact ⟨none, 0, 0, fun _ => default, rfl, Nat.le_refl _, by omega, fun h => by omega⟩
  · have hmc : m = cap := by simpa using hmm
    subst hmc
    by_cases h0 : m = 0
    · subst h0
      obtain rfl : len = 0 := by omega
      exact ⟨_, _, _, fun _ => default, rfl, Nat.le_refl _, by omega, fun h => by omega⟩
    obtain ⟨b, o, s⟩ := a
    have hspot : s = none ∧ b < W.heap.size := by
      obtain ⟨cs', h1, -⟩ := hel 0 (by omega)
      obtain ⟨-, h3, h4⟩ := World.cells?_some h1
      rw [Tryz.cellsDo] at h3 h4
      have h5 := h4 0 (by decide)
      rw [List.getElem?_eq_getElem (by omega)] at h5
      exact ⟨by simpa [Addr.add] using World.cell?_spot h5, by simpa [Addr.add] using cell_lt h5⟩
    obtain ⟨rfl, hb⟩ := hspot
    have each : ∀ i, i < len → ∃ d : DoV, DoAt W.heap.size W b (o + i * 7) d := fun i hi => by
      obtain ⟨cs', h1, h2⟩ := hel i (by omega)
      obtain ⟨-, h3, h4⟩ := World.cells?_some h1
      rw [Tryz.cellsDo] at h3 h4
      refine open_do (fun j hj => ?_) h2 (hs.elem Tryz.underlying44 (List.mem_map.2 ⟨i, List.mem_range.2 hi, rfl⟩))
      rw [← h4 j hj]
      rw [add_plain, add_plain]
    obtain ⟨F, hF⟩ := Go.Deep.choose_lt each
    exact ⟨_, _, _, F, rfl, hl, by simpa [maxLen] using hm, fun _ => ⟨b, o, rfl, hb, hF⟩⟩
end
end Go.Proofs.YtbinikbgbgggaaaGreatDoor
