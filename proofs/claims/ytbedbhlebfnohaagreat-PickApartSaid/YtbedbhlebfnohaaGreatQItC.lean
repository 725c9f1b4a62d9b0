/- Items by their codes. A field of an item that is a value. The walks of storemankit.SameItem, LentItem, KeptItem. Marked items; lists of items in memory of the call's own. Items, parts, texts as kinds of elements. slices.Clone at items, at parts, at texts: walks. (Printed by gen/clones2.py.) -/
import Derived.Test.YtbedbhlebfnohaaGreatKRight
import Derived.Test.YtbedbhlebfnohaaGreatKGraph
import Derived.Test.YtbedbhlebfnohaaGreatBelowQ
import Derived.Laws.OwnMore
import Derived.Test.YtbedbhlebfnohaaGreatJSame
import Derived.Lib.SliceRun
import Derived.Lib.Walk
namespace Go.Proofs.YtbedbhlebfnohaaGreat
open Go.RowKit

def bookF (X : List It) : List UInt8 → Value := X.foldl (fun f x => setO f x.code x.val) (fun _ => zItem)
theorem book_next {X : List It} {i : Nat} (hi : i < X.length) : bookF (X.take (i + 1)) = setO (bookF (X.take i)) (X.getD i default).code (X.getD i default).val := by
  unfold bookF
  rw [List.take_succ_eq_append_getElem hi, List.foldl_append, List.getD_eq_getElem?_getD, List.getElem?_eq_getElem hi]
  rfl
theorem val_ne {x : It} (h : x.code ≠ []) : x.val ≠ zItem := fun e => by
  unfold It.val zItem encStr at e
  simp at e
  exact h (by simpa using e.1)
theorem four_at {W : World} {g : Nat} {u v p q : Value} {t : TypeId} (h : W.heap[g]? = some (.cells #[u, v, p, q] t)) : W.cell? ⟨g, 0, none⟩ = some u ∧ W.cell? ⟨g, 1, none⟩ = some v ∧ W.cell? ⟨g, 2, none⟩ = some p ∧ W.cell? ⟨g, 3, none⟩ = some q := by
  refine ⟨?_, ?_, ?_, ?_⟩ <;> (unfold World.cell?; rw [h]; rfl)

set_option maxHeartbeats 4000000 in
set_option maxRecDepth 100000 in
theorem book_any (B : Nat) (a : Option Addr) (n cp : Nat) (X : List It) (w : World) (hr : RI B w a n cp X) (hB : B ≤ w.heap.size) (hne : ∀ x ∈ X, x.code ≠ []) : Calls Tryz.prog 95 #[.slice a n cp] w fun e w' => (∃ mb, e = .returned (.map (some mb)) ∧ MF w' mb n zItem (bookF X) ∧ w.heap.size ≤ mb) ∧ Below w.heap.size w w' := by
  have hle := hr.le
  have hmx := hr.mx
  have HR := Lib.hid (hr.mono hB)
  have HNA := Lib.hid hne
  clear hne
  have hmk := @run_makeMap Tryz.prog
  have hM0 := Lib.hid (MF.made w zItem)
  have hB0 : Hid (Below w.heap.size w (w.alloc (.map #[] 0))) := Lib.hid ((Below.refl _ w).alloc (Nat.le_refl _) _)
  obtain ⟨gb, hgb⟩ : ∃ g, g = w.heap.size := ⟨_, rfl⟩
  clear hr
  rw [← hgb] at hM0 hB0 HR
  have HG := Lib.hid hgb
  go_enter Tryz.func95, Tryz.ntmps95
  go_upto_region 2 with (fail)
  rw [← hgb]
  clear hgb
  go_wp2_with (fail)
  go_loopw [9] (fun s9 wr => ∃ i : Nat, s9 = .int .i64 i ∧ i ≤ n ∧ Hid (MF wr gb i zItem (bookF (X.take i))) ∧ Hid (Below gb w wr)) (fun s9 _ => n - (intOf s9).toNat)
  case atStart => exact ⟨0, rfl, by omega, hM0, hB0⟩
  case round =>
    obtain ⟨i, rfl, hi, HM, HB⟩ := hrel
    by_cases hin : i < n
    · have t1 : decide ((i : Int) < (n : Int)) = true := by simp; omega
      have i0 : (0 : Int) ≤ (i : Int) := by omega
      have i1 : (i : Int) < (n : Int) := by omega
      have f1 : IntKind.i64.wrap ((i : Int) + 1) = ((i + 1 : Nat) : Int) := by rw [wrap_in (by omega) (by omega)]; omega
      obtain ⟨b, o, rfl, hbB, hok1, c0, c1, c2, c3⟩ := (HR.out.below HB.out).item hin
      have HOK := Lib.hid hok1
      have hnv := val_ne (HNA.out _ (getD_mem (by have := HR.out.len; omega : i < X.length)))
      have HNX := Lib.hid (book_next (X := X) (i := i) (by have := HR.out.len; omega))
      clear hok1
      obtain ⟨x, hx⟩ : ∃ x, x = X.getD i default := ⟨_, rfl⟩
      rw [← hx] at c0 c1 c2 c3 HNX HOK hnv
      have HNE := Lib.hid hnv
      clear hnv
      clear hx
      have hpc : (wr.alloc (.cells #[encStr x.code, .int .i64 x.life, .slice x.pa x.ps.length x.pc, .slice x.oa x.os.length x.oc] 102)).heap[wr.heap.size]? = _ := heap_alloc_new wr _
      have hal : Below wr.heap.size wr (wr.alloc (.cells #[encStr x.code, .int .i64 x.life, .slice x.pa x.ps.length x.pc, .slice x.oa x.os.length x.oc] 102)) := (Below.refl _ wr).alloc (Nat.le_refl _) _
      have hM2 := HM.out.below hal HM.out.lt
      have hB2 := HB.out.trans (hal.mono (by have := HM.out.lt; omega))
      obtain ⟨q0, q1, q2, q3⟩ := four_at hpc
      unfold encStr at c0 q0 q1 q2 q3 hM2 hB2
      have HM2 := Lib.hid hM2
      have HB2 := Lib.hid hB2
      have hgw := HM.out.lt
      clear hpc hal hM2 hB2
      go_wp2_with (at_mapUpdate; refine wpList_put_mf rfl _ _ _ 110 rfl Tryz.underlying110 HM2.out (by omega) x.code x.val rfl rfl rfl HOK.out.code HNE.out ?_; intro w2 hM3 hg2; have HM3 := Lib.hid hM3; have HB3 := Lib.hid (HB2.out.grown hg2 (by rw [World.size_alloc]; omega) (fun k e => by have := Option.some.inj e; omega)); clear hM3 hg2)
      go_roundw
      case rel => exact ⟨i + 1, rfl, by omega, Lib.hid (by rw [HNX.out]; exact HM3.out), HB3⟩
      case measure => simp only [intOf]; omega
    · have t1 : decide ((i : Int) < (n : Int)) = false := by simp; omega
      have ht : X.take i = X := List.take_of_length_le (by have := HR.out.len; omega)
      have hin2 : i = n := by omega
      have HM9 : Hid (MF wr gb n zItem (bookF X)) := Lib.hid (by have h := HM.out; rw [ht, hin2] at h; exact h)
      clear ht hin2
      go_wp2_with (fail)
      go_ret
      exact ⟨⟨gb, rfl, HM9.out, HG.out ▸ Nat.le_refl _⟩, HG.out ▸ HB.out⟩
end Go.Proofs.YtbedbhlebfnohaaGreat
namespace Go.Proofs.YtbedbhlebfnohaaGreat
open Go.RowKit
theorem field_code (w : World) (a b p q : Value) : (Instr.field 102 (.agg #[a, b, p, q]) 0).run Tryz.prog w = .ok a w := by
  first
  | kernel_rfl
  | rfl
theorem field_parts (w : World) (a b p q : Value) : (Instr.field 102 (.agg #[a, b, p, q]) 2).run Tryz.prog w = .ok p w := by
  first
  | kernel_rfl
  | rfl
end Go.Proofs.YtbedbhlebfnohaaGreat
namespace Go.Proofs.YtbedbhlebfnohaaGreat
open Go.RowKit

structure LikeI (x y : It) : Prop where
  code : x.code = y.code
  life : x.life = y.life
  ps : x.ps = y.ps
  os : x.os = y.os
set_option maxHeartbeats 2000000 in
set_option maxRecDepth 100000 in
theorem SameItem_like (B : Nat) (x y : It) (w : World) (hx : ItOk B w x) (hy : ItOk B w y) (hB : B ≤ w.heap.size) (hxy : LikeI x y) :
    Calls Tryz.prog 63 #[x.val, y.val] w fun e w' => e = .returned (.bool true) ∧ Below w.heap.size w w' := by
  obtain ⟨code, life, pa, pc, ps, oa, oc, os⟩ := x
  obtain ⟨code', life', pa', pc', ps', oa', oc', os'⟩ := y
  obtain ⟨rfl, rfl, rfl, rfl⟩ := hxy
  obtain ⟨np, hnp⟩ : ∃ k, k = ps.length := ⟨_, rfl⟩
  obtain ⟨no, hno⟩ : ∃ k, k = os.length := ⟨_, rfl⟩
  have hp1 := hx.rp.mono hB
  have hp2 := hy.rp.mono hB
  have ht1 := hx.rt.mono hB
  have ht2 := hy.rt.mono hB
  simp only at hp1 hp2 ht1 ht2
  unfold It.val encStr
  simp only
  rw [← hnp] at hp1 hp2 ⊢
  rw [← hno] at ht1 ht2 ⊢
  have HP : Hid (∀ W, Below w.heap.size w W → Calls Tryz.prog 117 #[.slice pa np pc, .slice pa' np pc'] W fun e w' => e = .returned (.bool true) ∧ ∃ q, w' = W.drewN q) := Lib.hid fun W h => (SameParts_any _ _ _ _ _ _ _ _ _ W (hp1.below h) (hp2.below h)).mono (by
    rintro e w' ⟨rfl, q, rfl⟩
    exact ⟨by simp, q, rfl⟩)
  have HT : Hid (∀ W, Below w.heap.size w W → Calls Tryz.prog 118 #[.slice oa no oc, .slice oa' no oc'] W fun e w' => e = .returned (.bool true) ∧ ∃ q, w' = W.drewN q) := Lib.hid fun W h => (SameTexts_any _ _ _ _ _ _ _ _ _ W (ht1.below h) (ht2.below h)).mono (by
    rintro e w' ⟨rfl, q, rfl⟩
    exact ⟨by simp, q, rfl⟩)
  have HB2 : Hid (∀ c d : Array Value, Below w.heap.size w ((w.alloc (.cells c 102)).alloc (.cells d 102))) := Lib.hid fun c d => ((Below.refl _ w).alloc (Nat.le_refl _) _).alloc (by rw [World.size_alloc]; omega) _
  clear hx hy hp1 hp2 ht1 ht2 hnp hno
  go_enter Tryz.func63, Tryz.ntmps63
  go_wp2_with (fail)
  go_at_call 117
  refine (HP.out _ (HB2.out _ _)).mono ?_
  rintro e W3 ⟨rfl, q, rfl⟩
  go_wp2_with (fail)
  go_at_call 118
  refine (HT.out _ (below_dn (HB2.out _ _) q)).mono ?_
  rintro e W3 ⟨rfl, q2, rfl⟩
  go_wp2_with (fail)
  go_ret
  exact ⟨rfl, below_dn (HB2.out _ _) _⟩
theorem sc_at {W : World} {g : Nat} {c : Array Value} {t : TypeId} {fr : Nat × Nat} (i : Nat) (v : Value) (h : W.heap[g]? = some (.cells c t fr)) : (W.setCell ⟨g, i, none⟩ v).heap[g]? = some (.cells (c.setIfInBounds i v) t fr) := by
  unfold World.setCell
  simp only [Array.getElem?_modify, if_true, h, Option.map_some]
  rfl
end Go.Proofs.YtbedbhlebfnohaaGreat
namespace Go.Proofs.YtbedbhlebfnohaaGreat
open Go.RowKit

def encI (y : It) : List Value := [encStr y.code, .int .i64 y.life, .slice y.pa y.ps.length y.pc, .slice y.oa y.os.length y.oc]
def cellsI (Y : List It) : List Value := Y.flatMap encI
theorem cellsI_len : ∀ Y : List It, (cellsI Y).length = Y.length * 4
  | [] => rfl
  | y :: Y => by
    have := cellsI_len Y
    unfold cellsI at *
    rw [List.flatMap_cons, List.length_append, this]
    simp [encI]; omega
theorem cellsI_append (Y Z : List It) : cellsI (Y ++ Z) = cellsI Y ++ cellsI Z := by simp [cellsI]
theorem cellsI_one {Y : List It} : ∀ u ∈ cellsI Y, u.oneCell' = true := by
  intro u hu
  obtain ⟨p, _, hp⟩ := List.mem_flatMap.1 hu
  simp only [encI, List.mem_cons, List.not_mem_nil, or_false] at hp
  rcases hp with rfl | rfl | rfl | rfl <;> rfl
def OIt (base : Nat) (w : World) (v : Value) (Y : List It) : Prop := w.ownsRow base 102 4 v Y.length (cellsI Y)
theorem Tryz.infoItem : (Tryz.prog.info? 102).map (fun i => (i.zero, i.size, i.bytes)) = some (some (.agg #[.string ByteArray.empty, .int .i64 0, .slice none 0 0, .slice none 0 0]), 4, 72) := by kernel_rfl
theorem OIt.keep {base : Nat} {W W' : World} {v : Value} {Y : List It} (h : OIt base W v Y) (hk : ∀ b, v.ownBlock = some b → W'.heap[b]? = W.heap[b]?) : OIt base W' v Y := by
  obtain ⟨e1, h3 | ⟨g, cap, cur, hv, hg, hh, r⟩⟩ := h
  · exact ⟨e1, .inl h3⟩
  · exact ⟨e1, .inr ⟨g, cap, cur, hv, hg, (hk g (by rw [hv]; rfl)).trans hh, r⟩⟩
theorem OIt.ge {base : Nat} {W : World} {v : Value} {Y : List It} (h : OIt base W v Y) : ∀ b, v.ownBlock = some b → base ≤ b ∧ b < W.heap.size := by
  intro b hb
  obtain ⟨e1, ⟨rfl, -⟩ | ⟨g, cap, cur, rfl, hg, hh, r⟩⟩ := h
  · cases hb
  · cases hb
    exact ⟨hg, (Array.getElem?_eq_some_iff.1 hh).1⟩
theorem OIt.below {base : Nat} {W W' : World} {v : Value} {Y : List It} (h : OIt base W v Y) (hb : Below W.heap.size W W') : OIt base W' v Y :=
  h.keep fun b e => hb.block b (h.ge b e).2
theorem one_item (W : World) (y : It) (t : TypeId) : ∀ j u, (cellsI [y])[j]? = some u → (W.alloc (.cells #[encStr y.code, .int .i64 y.life, .slice y.pa y.ps.length y.pc, .slice y.oa y.os.length y.oc] t)).cell? ((⟨W.heap.size, 0, none⟩ : Addr).add j) = some u := by
  intro j u hu
  have e : (⟨W.heap.size, 0, none⟩ : Addr).add j = ⟨W.heap.size, 0 + j, none⟩ := by unfold Addr.add; split <;> simp_all
  rw [e]
  simp only [World.cell?, (Go.MapKept.heap_alloc W _).1]
  simpa [cellsI, encI] using hu
theorem one_item2 (W : World) (y : It) (c : Array Value) (t t' : TypeId) : ∀ j u, (cellsI [y])[j]? = some u → ((W.alloc (.cells c t)).alloc (.cells #[.string ⟨y.code.toArray⟩, .int .i64 y.life, .slice y.pa y.ps.length y.pc, .slice y.oa y.os.length y.oc] t')).cell? ((⟨W.heap.size + 1, 0, none⟩ : Addr).add j) = some u := by
  have := one_item (W.alloc (.cells c t)) y t'
  rw [World.size_alloc] at this
  exact this
end Go.Proofs.YtbedbhlebfnohaaGreat
namespace Go.Proofs.YtbedbhlebfnohaaGreat
open Go.RowKit

set_option maxRecDepth 100000 in
theorem itE_under : Tryz.prog.underlying 22 = some (.slice 102) := Tryz.underlying22
def itE : El It where
  e := 102
  t := 22
  k := 4
  bytes := 72
  z := .agg #[.string ByteArray.empty, .int .i64 0, .slice none 0 0, .slice none 0 0]
  enc := encI
  ok := fun x => x.code.length ≤ 9223372036854775807 ∧ -9223372036854775808 ≤ x.life ∧ x.life ≤ 9223372036854775807
  len := fun _ => rfl
  one := fun x u hu => by
    unfold encI at hu
    simp only [List.mem_cons, List.not_mem_nil, or_false] at hu
    rcases hu with rfl | rfl | rfl | rfl <;> rfl
  kpos := by decide
  under := itE_under
  info := Tryz.infoItem
  zc := rfl
  small := by decide
set_option maxRecDepth 100000 in
theorem ptE_under : Tryz.prog.underlying 55 = some (.slice 60) := Tryz.underlying55
theorem ptE_info : (Tryz.prog.info? 60).map (fun i => (i.zero, i.size, i.bytes)) = some (some (.agg #[.string ByteArray.empty, .int .i64 0]), 2, 24) := by kernel_rfl
def ptE : El Pt where
  e := 60
  t := 55
  k := 2
  bytes := 24
  z := .agg #[.string ByteArray.empty, .int .i64 0]
  enc := encP
  ok := fun x => x.1.length ≤ 9223372036854775807 ∧ -9223372036854775808 ≤ x.2 ∧ x.2 ≤ 9223372036854775807
  len := fun _ => rfl
  one := fun x u hu => by
    unfold encP at hu
    simp only [List.mem_cons, List.not_mem_nil, or_false] at hu
    rcases hu with rfl | rfl <;> rfl
  kpos := by decide
  under := ptE_under
  info := ptE_info
  zc := rfl
  small := by decide
set_option maxRecDepth 100000 in
theorem txE_under : Tryz.prog.underlying 100 = some (.slice 9) := Tryz.underlying100
theorem txE_info : (Tryz.prog.info? 9).map (fun i => (i.zero, i.size, i.bytes)) = some (some (.string ByteArray.empty), 1, 16) := by kernel_rfl
def txE : El (List UInt8) where
  e := 9
  t := 100
  k := 1
  bytes := 16
  z := .string ByteArray.empty
  enc := fun t => [encStr t]
  ok := fun t => t.length ≤ 9223372036854775807
  len := fun _ => rfl
  one := fun x u hu => by
    simp only [List.mem_cons, List.not_mem_nil, or_false] at hu
    subst hu
    rfl
  kpos := by decide
  under := txE_under
  info := txE_info
  zc := rfl
  small := by decide
theorem RI.el {B : Nat} {w : World} {a : Option Addr} {n c : Nat} {X : List It} (h : RI B w a n c X) : itE.In B w a n c X := by
  refine ⟨h.len, h.le, h.mx, fun x hx => ⟨(h.ok x hx).code, (h.ok x hx).lo, (h.ok x hx).hi⟩, fun hc => ?_⟩
  obtain ⟨b, o, e, hB, hcell⟩ := h.at_ hc
  refine ⟨b, o, e, hB, fun i hi j hj => ?_⟩
  obtain ⟨k0, k1, k2, k3⟩ := hcell i hi
  have hj4 : j < 4 := hj
  match j, hj4 with
  | 0, _ => exact k0
  | 1, _ => exact k1
  | 2, _ => exact k2
  | 3, _ => exact k3
theorem RP.el {B : Nat} {w : World} {a : Option Addr} {n c : Nat} {P : List Pt} (h : RP B w a n c P) : ptE.In B w a n c P := by
  refine ⟨h.len, h.le, h.mx, fun x hx => h.fine x hx, fun hc => ?_⟩
  obtain ⟨b, o, e, hB, hcell⟩ := h.at_ hc
  refine ⟨b, o, e, hB, fun i hi j hj => ?_⟩
  obtain ⟨k0, k1⟩ := hcell i hi
  have hj4 : j < 2 := hj
  match j, hj4 with
  | 0, _ => exact k0
  | 1, _ => exact k1
theorem RT.el {B : Nat} {w : World} {a : Option Addr} {n c : Nat} {T : List (List UInt8)} (h : RT B w a n c T) : txE.In B w a n c T := by
  refine ⟨h.len, h.le, h.mx, fun x hx => h.fine x hx, fun hc => ?_⟩
  obtain ⟨b, o, e, hB, hcell⟩ := h.at_ hc
  refine ⟨b, o, e, hB, fun i hi j hj => ?_⟩
  have hj4 : j < 1 := hj
  match j, hj4 with
  | 0, _ =>
    show w.cell? ⟨b, o + i * 1 + 0, none⟩ = _
    rw [Nat.mul_one]
    exact hcell i hi
theorem ptE_rp {B : Nat} {w : World} {a : Option Addr} {n c : Nat} {P : List Pt} (h : ptE.In B w a n c P) : RP B w a n c P := by
  refine ⟨h.len, h.le, h.mx, fun x hx => h.fine x hx, fun hc => ?_⟩
  obtain ⟨b, o, e, hB, hcell⟩ := h.at_ hc
  exact ⟨b, o, e, hB, fun i hi => ⟨hcell i hi 0 (by decide), hcell i hi 1 (by decide)⟩⟩
theorem txE_rt {B : Nat} {w : World} {a : Option Addr} {n c : Nat} {T : List (List UInt8)} (h : txE.In B w a n c T) : RT B w a n c T := by
  refine ⟨h.len, h.le, h.mx, fun x hx => h.fine x hx, fun hc => ?_⟩
  obtain ⟨b, o, e, hB, hcell⟩ := h.at_ hc
  refine ⟨b, o, e, hB, fun i hi => ?_⟩
  have := hcell i hi 0 (by decide)
  rw [show txE.k = 1 from rfl, Nat.mul_one] at this
  exact this
end Go.Proofs.YtbedbhlebfnohaaGreat
namespace Go.Proofs.YtbedbhlebfnohaaGreat
open Go.RowKit

namespace El
theorem run_appendB {α : Type} {E : El α} (hbp : 1 ≤ E.bytes) {w : World} {base : Nat} {v : Value} {X Y : List α} (h : E.Own base w v X) (ty : TypeId) (sa : Option Addr) (c : Nat) (hsrc : ∃ ad, sa = some ad ∧ ∀ j u, (E.cells Y)[j]? = some u → w.cell? (ad.add j) = some u) (hY : 0 < Y.length)
    (hbase : base ≤ w.heap.size) (hl : (X.length + Y.length) * E.bytes ≤ 140737488355328) :
    ∃ g cap w', (Builtin.append_ #[E.t, E.t] ty #[v, .slice sa Y.length c]).run Tryz.prog w = .ok (.slice (some ⟨g, 0, none⟩) (X.length + Y.length) cap) w' ∧ E.Own base w' (.slice (some ⟨g, 0, none⟩) (X.length + Y.length) cap) (X ++ Y) ∧ E.Own base w' v X ∧ w.grownBy w' v.ownBlock ∧ (v.ownBlock = some g ∨ g = w.heap.size) := by
  obtain ⟨i0, hi, hz0, hz1, hz2⟩ := E.info'
  have hcnt : X.length + Y.length ≤ 140737488355328 := Nat.le_trans (Nat.le_mul_of_pos_right _ hbp) hl
  obtain ⟨g, cap, w', hr, h1, h2, h3, h4⟩ := Tx.append_keepC (P := Tryz.prog) (m := Y.length) (cs := E.k) (Q := E.cells Y) E.t ty E.e i0 E.z E.under hi hz0 hz1 E.zc h sa c hsrc E.cells_one (E.cells_len Y) hY hbase (by rw [hz2]; exact hl) hcnt
  refine ⟨g, cap, w', hr, ?_, h2, h3, h4⟩
  unfold Own
  rw [List.length_append, E.cells_append]
  exact h1
theorem wpList_append2B {α : Type} [Inhabited α] {w : World} {ops : Array Oper} {rest : List Oper} {o : Oper} {a : Act} {K : Exit → Act → World → Prop} (E : El α) (hbp : 1 ≤ E.bytes) (hgd : o.guard = none) (s x : Operand)
    (ho : o.op = .call { callee := .builtin .append, args := #[s, x], argTypes := #[E.t, E.t] }) (base g0 n0 c0 : Nat) (X Y : List α) (hs : a.eval s = .slice (some ⟨g0, 0, none⟩) n0 c0) (h : E.Own base w (.slice (some ⟨g0, 0, none⟩) n0 c0) X) (sa : Option Addr) (m c : Nat)
    (hx : a.eval x = .slice sa m c) (hm : m = Y.length) (hsrc : 0 < Y.length → ∃ ad, sa = some ad ∧ ∀ j u, (E.cells Y)[j]? = some u → w.cell? (ad.add j) = some u) (hbase : base ≤ w.heap.size) (hl : (X.length + Y.length) * E.bytes ≤ 140737488355328)
    (hK : ∀ g' c' w', (n0 + m ≤ c' ∧ c' ≤ 9223372036854775807) → E.Own base w' (.slice (some ⟨g', 0, none⟩) (n0 + m) c') (X ++ Y) → w.grownBy w' (some g0) → wpList Tryz.prog ops K rest (a.put o.dst (.slice (some ⟨g', 0, none⟩) (n0 + m) c')) w') : wpList Tryz.prog ops K (o :: rest) a w := by
  subst hm
  obtain ⟨hn0, hle, hmx, -⟩ := h.cell
  subst hn0
  by_cases h0 : Y.length = 0
  · obtain rfl : Y = [] := List.eq_nil_of_length_eq_zero h0
    obtain ⟨i0, hi, -⟩ := E.info'
    have hr := run_append_nothing (P := Tryz.prog) w E.t o.type E.e i0 E.under hi (some ⟨g0, 0, none⟩) sa X.length c0 c hle
    refine wpList_plain hgd fun K' hK' => ?_
    unfold Oper.wp execOp
    simp only [List.length_nil] at hx
    simp only [ho, resolve, invoke, builtin, Sem.run_bind, Sem.run_pure, Result.andThen_ok, List.map_toArray, List.map_cons, List.map_nil, hs, hx, hr]
    exact hK' _ _ (hK g0 c0 w (by simpa using ⟨hle, hmx⟩) (by simpa using h) ⟨rfl, rfl, rfl, Nat.le_refl _, fun _ _ _ => rfl⟩)
  · obtain ⟨g, cap, w', hr, h1, h2, h3, h4⟩ := run_appendB hbp h o.type sa c (hsrc (by omega)) (by omega) hbase hl
    refine wpList_plain hgd fun K' hK' => ?_
    unfold Oper.wp execOp
    simp only [ho, resolve, invoke, builtin, Sem.run_bind, Sem.run_pure, Result.andThen_ok, List.map_toArray, List.map_cons, List.map_nil, hs, hx, hr]
    have hc := h1.cell
    exact hK' _ _ (hK g cap w' ⟨hc.2.1, hc.2.2.1⟩ h1 h3)
end El
set_option maxHeartbeats 1000000 in
set_option maxRecDepth 100000 in
theorem cloneItem_any (B : Nat) (a : Option Addr) (n c : Nat) (X : List It) (w : World) (h : itE.In B w a n c X) (hB : B ≤ w.heap.size) (hn : n ≤ 100000000) :
    Calls Tryz.prog 164 #[.slice a n c] w fun e w' => (∃ a' c', e = .returned (.slice a' n c') ∧ (a'.isNone = a.isNone) ∧ itE.Own w.heap.size w' (.slice a' n c') X) ∧ Below w.heap.size w w' := by
  have hln := h.len
  have Hln := Lib.hid hln
  have H := Lib.hid h
  have hq := fun (w : World) (a : Option Addr) (n c n' c' : Nat) => Lib.run_eql_slice_nil (P := Tryz.prog) w 22 102 a n c n' c' Tryz.underlying22
  cases a with
  | none =>
    have hc0 : c = 0 := by
      rcases Nat.eq_zero_or_pos c with h0 | h0
      · exact h0
      · obtain ⟨b, o, e, -⟩ := h.at_ h0; cases e
    have hn0 : n = 0 := by have := h.le; omega
    have hX : X = [] := List.eq_nil_of_length_eq_zero (by omega)
    subst hc0
    subst hn0
    have HX := Lib.hid hX
    clear h hln hX
    go_enter Tryz.func164, Tryz.ntmps164
    go_wp2
    go_ret
    refine ⟨⟨none, 0, rfl, rfl, ?_⟩, Below.refl _ _⟩
    rw [HX.out]
    exact El.Own.nil _ _ _
  | some ad =>
    clear h hln
    have hb0 := Lib.hid ((Below.refl w.heap.size w).alloc (Nat.le_refl _) (.cells #[] 102))
    have ho0 : Hid (itE.Own w.heap.size (w.alloc (.cells #[] 102)) (.slice (some ⟨w.heap.size, 0, none⟩) 0 0) []) := Lib.hid (World.ownsRow_lit (e := 102) (size := itE.k) w #[] 0 (Nat.le_refl _) (Nat.zero_le _) (by simp))
    go_enter Tryz.func164, Tryz.ntmps164
    go_wp2_with (at_builtin; refine El.wpList_append2 itE rfl _ _ rfl w.heap.size w.heap.size 0 0 [] X rfl ho0.out _ n _ rfl Hln.out (H.out.below (hb0.out.mono hB)).src hb0.out.size (by have := Hln.out; simp; omega) ?_; intro g2 c2 w2 hc2 hown2 hg2)
    rw [List.nil_append, Nat.zero_add] at hown2
    have B2 : Hid (Below w.heap.size w w2) := Lib.hid (hb0.out.grown hg2 hb0.out.size (fun r e => by cases e; exact Nat.le_refl _))
    have O2 := Lib.hid hown2
    clear hown2 hg2
    go_wp2
    go_ret
    exact ⟨⟨some ⟨g2, 0, none⟩, c2, by first | rfl | simp, rfl, O2.out⟩, B2.out⟩
set_option maxHeartbeats 1000000 in
set_option maxRecDepth 100000 in
theorem clonePart_any (B : Nat) (a : Option Addr) (n c : Nat) (X : List Pt) (w : World) (h : ptE.In B w a n c X) (hB : B ≤ w.heap.size) (hn : n * 24 ≤ 140737488355328) :
    Calls Tryz.prog 165 #[.slice a n c] w fun e w' => (∃ a' c', e = .returned (.slice a' n c') ∧ (a'.isNone = a.isNone) ∧ ptE.Own w.heap.size w' (.slice a' n c') X) ∧ Below w.heap.size w w' := by
  have hln := h.len
  have Hln := Lib.hid hln
  have H := Lib.hid h
  have hq := fun (w : World) (a : Option Addr) (n c n' c' : Nat) => Lib.run_eql_slice_nil (P := Tryz.prog) w 55 60 a n c n' c' Tryz.underlying55
  cases a with
  | none =>
    have hc0 : c = 0 := by
      rcases Nat.eq_zero_or_pos c with h0 | h0
      · exact h0
      · obtain ⟨b, o, e, -⟩ := h.at_ h0; cases e
    have hn0 : n = 0 := by have := h.le; omega
    have hX : X = [] := List.eq_nil_of_length_eq_zero (by omega)
    subst hc0
    subst hn0
    have HX := Lib.hid hX
    clear h hln hX
    go_enter Tryz.func165, Tryz.ntmps165
    go_wp2
    go_ret
    refine ⟨⟨none, 0, rfl, rfl, ?_⟩, Below.refl _ _⟩
    rw [HX.out]
    exact El.Own.nil _ _ _
  | some ad =>
    clear h hln
    have hb0 := Lib.hid ((Below.refl w.heap.size w).alloc (Nat.le_refl _) (.cells #[] 60))
    have ho0 : Hid (ptE.Own w.heap.size (w.alloc (.cells #[] 60)) (.slice (some ⟨w.heap.size, 0, none⟩) 0 0) []) := Lib.hid (World.ownsRow_lit (e := 60) (size := ptE.k) w #[] 0 (Nat.le_refl _) (Nat.zero_le _) (by simp))
    go_enter Tryz.func165, Tryz.ntmps165
    go_wp2_with (at_builtin; refine El.wpList_append2B ptE (by decide) rfl _ _ rfl w.heap.size w.heap.size 0 0 [] X rfl ho0.out _ n _ rfl Hln.out (H.out.below (hb0.out.mono hB)).src hb0.out.size (by have := Hln.out; show (0 + X.length) * 24 ≤ 140737488355328; omega) ?_; intro g2 c2 w2 hc2 hown2 hg2)
    rw [List.nil_append, Nat.zero_add] at hown2
    have B2 : Hid (Below w.heap.size w w2) := Lib.hid (hb0.out.grown hg2 hb0.out.size (fun r e => by cases e; exact Nat.le_refl _))
    have O2 := Lib.hid hown2
    clear hown2 hg2
    go_wp2
    go_ret
    exact ⟨⟨some ⟨g2, 0, none⟩, c2, by first | rfl | simp, rfl, O2.out⟩, B2.out⟩
set_option maxHeartbeats 1000000 in
set_option maxRecDepth 100000 in
theorem cloneText_any (B : Nat) (a : Option Addr) (n c : Nat) (X : List (List UInt8)) (w : World) (h : txE.In B w a n c X) (hB : B ≤ w.heap.size) (hn : n * 16 ≤ 140737488355328) :
    Calls Tryz.prog 166 #[.slice a n c] w fun e w' => (∃ a' c', e = .returned (.slice a' n c') ∧ (a'.isNone = a.isNone) ∧ txE.Own w.heap.size w' (.slice a' n c') X) ∧ Below w.heap.size w w' := by
  have hln := h.len
  have Hln := Lib.hid hln
  have H := Lib.hid h
  have hq := fun (w : World) (a : Option Addr) (n c n' c' : Nat) => Lib.run_eql_slice_nil (P := Tryz.prog) w 100 9 a n c n' c' Tryz.underlying100
  cases a with
  | none =>
    have hc0 : c = 0 := by
      rcases Nat.eq_zero_or_pos c with h0 | h0
      · exact h0
      · obtain ⟨b, o, e, -⟩ := h.at_ h0; cases e
    have hn0 : n = 0 := by have := h.le; omega
    have hX : X = [] := List.eq_nil_of_length_eq_zero (by omega)
    subst hc0
    subst hn0
    have HX := Lib.hid hX
    clear h hln hX
    go_enter Tryz.func166, Tryz.ntmps166
    go_wp2
    go_ret
    refine ⟨⟨none, 0, rfl, rfl, ?_⟩, Below.refl _ _⟩
    rw [HX.out]
    exact El.Own.nil _ _ _
  | some ad =>
    clear h hln
    have hb0 := Lib.hid ((Below.refl w.heap.size w).alloc (Nat.le_refl _) (.cells #[] 9))
    have ho0 : Hid (txE.Own w.heap.size (w.alloc (.cells #[] 9)) (.slice (some ⟨w.heap.size, 0, none⟩) 0 0) []) := Lib.hid (World.ownsRow_lit (e := 9) (size := txE.k) w #[] 0 (Nat.le_refl _) (Nat.zero_le _) (by simp))
    go_enter Tryz.func166, Tryz.ntmps166
    go_wp2_with (at_builtin; refine El.wpList_append2B txE (by decide) rfl _ _ rfl w.heap.size w.heap.size 0 0 [] X rfl ho0.out _ n _ rfl Hln.out (H.out.below (hb0.out.mono hB)).src hb0.out.size (by have := Hln.out; show (0 + X.length) * 16 ≤ 140737488355328; omega) ?_; intro g2 c2 w2 hc2 hown2 hg2)
    rw [List.nil_append, Nat.zero_add] at hown2
    have B2 : Hid (Below w.heap.size w w2) := Lib.hid (hb0.out.grown hg2 hb0.out.size (fun r e => by cases e; exact Nat.le_refl _))
    have O2 := Lib.hid hown2
    clear hown2 hg2
    go_wp2
    go_ret
    exact ⟨⟨some ⟨g2, 0, none⟩, c2, by first | rfl | simp, rfl, O2.out⟩, B2.out⟩
end Go.Proofs.YtbedbhlebfnohaaGreat
