/- Items by their codes. A field of an item that is a value. The walks of storemankit.SameItem, LentItem, KeptItem. -/
import Derived.Test.YtbedbhlebfnohaaGreatKRight
import Derived.Test.YtbedbhlebfnohaaGreatKGraph
import Derived.Test.YtbedbhlebfnohaaGreatBelowQ
namespace Go.Proofs.YtbedbhlebfnohaaGreat
open Go.RowKit

/-- Items by their codes: the last one of a code. -/
def bookF (X : List It) : List UInt8 → Value := X.foldl (fun f x => setO f x.code x.val) (fun _ => zItem)
theorem book_next {X : List It} {i : Nat} (hi : i < X.length) : bookF (X.take (i + 1)) = setO (bookF (X.take i)) (X.getD i default).code (X.getD i default).val := by
  unfold bookF
  rw [List.take_succ_eq_append_getElem hi, List.foldl_append, List.getD_eq_getElem?_getD, List.getElem?_eq_getElem hi]
  rfl
theorem val_ne {x : It} (h : x.code ≠ []) : x.val ≠ zItem := fun e => by
  unfold It.val zItem encStr at e
  simp at e
  exact h (by simpa using e.1)
theorem four_at {W : World} {g : Nat} {u v p q : Value} {t : TypeId} (h : W.heap[g]? = some (.cells #[u, v, p, q] t)) : W.cell? ⟨g, 0, none⟩ = some u ∧ W.cell? ⟨g, 1, none⟩ = some v ∧ W.cell? ⟨g, 2, none⟩ = some p ∧ W.cell? ⟨g, 3, none⟩ = some q := by
  refine ⟨?_, ?_, ?_, ?_⟩ <;> (unfold World.cell?; rw [h]; rfl)

set_option maxHeartbeats 4000000 in
set_option maxRecDepth 100000 in
theorem book_any (B : Nat) (a : Option Addr) (n cp : Nat) (X : List It) (w : World) (hr : RI B w a n cp X) (hB : B ≤ w.heap.size) (hne : ∀ x ∈ X, x.code ≠ []) : Calls Tryz.prog 95 #[.slice a n cp] w fun e w' => (∃ mb, e = .returned (.map (some mb)) ∧ MF w' mb n zItem (bookF X) ∧ w.heap.size ≤ mb) ∧ Below w.heap.size w w' := by
  have hle := hr.le
  have hmx := hr.mx
  have HR := Lib.hid (hr.mono hB)
  have HNA := Lib.hid hne
  clear hne
  have hmk := @run_makeMap Tryz.prog
  have hM0 := Lib.hid (MF.made w zItem)
  have hB0 : Hid (Below w.heap.size w (w.alloc (.map #[] 0))) := Lib.hid ((Below.refl _ w).alloc (Nat.le_refl _) _)
  obtain ⟨gb, hgb⟩ : ∃ g, g = w.heap.size := ⟨_, rfl⟩
  clear hr
  rw [← hgb] at hM0 hB0 HR
  have HG := Lib.hid hgb
  go_enter Tryz.func95, Tryz.ntmps95
  go_upto_region 2 with (fail)
  rw [← hgb]
  clear hgb
  go_wp2_with (fail)
  go_loopw [9] (fun s9 wr => ∃ i : Nat, s9 = .int .i64 i ∧ i ≤ n ∧ Hid (MF wr gb i zItem (bookF (X.take i))) ∧ Hid (Below gb w wr)) (fun s9 _ => n - (intOf s9).toNat)
  case atStart => exact ⟨0, rfl, by omega, hM0, hB0⟩
  case round =>
    obtain ⟨i, rfl, hi, HM, HB⟩ := hrel
    by_cases hin : i < n
    · have t1 : decide ((i : Int) < (n : Int)) = true := by simp; omega
      have i0 : (0 : Int) ≤ (i : Int) := by omega
      have i1 : (i : Int) < (n : Int) := by omega
      have f1 : IntKind.i64.wrap ((i : Int) + 1) = ((i + 1 : Nat) : Int) := by rw [wrap_in (by omega) (by omega)]; omega
      obtain ⟨b, o, rfl, hbB, hok1, c0, c1, c2, c3⟩ := (HR.out.below HB.out).item hin
      have HOK := Lib.hid hok1
      have hnv := val_ne (HNA.out _ (getD_mem (by have := HR.out.len; omega : i < X.length)))
      have HNX := Lib.hid (book_next (X := X) (i := i) (by have := HR.out.len; omega))
      clear hok1
      obtain ⟨x, hx⟩ : ∃ x, x = X.getD i default := ⟨_, rfl⟩
      rw [← hx] at c0 c1 c2 c3 HNX HOK hnv
      have HNE := Lib.hid hnv
      clear hnv
      clear hx
      have hpc : (wr.alloc (.cells #[encStr x.code, .int .i64 x.life, .slice x.pa x.ps.length x.pc, .slice x.oa x.os.length x.oc] 102)).heap[wr.heap.size]? = _ := heap_alloc_new wr _
      have hal : Below wr.heap.size wr (wr.alloc (.cells #[encStr x.code, .int .i64 x.life, .slice x.pa x.ps.length x.pc, .slice x.oa x.os.length x.oc] 102)) := (Below.refl _ wr).alloc (Nat.le_refl _) _
      have hM2 := HM.out.below hal HM.out.lt
      have hB2 := HB.out.trans (hal.mono (by have := HM.out.lt; omega))
      obtain ⟨q0, q1, q2, q3⟩ := four_at hpc
      unfold encStr at c0 q0 q1 q2 q3 hM2 hB2
      have HM2 := Lib.hid hM2
      have HB2 := Lib.hid hB2
      have hgw := HM.out.lt
      clear hpc hal hM2 hB2
      go_wp2_with (at_mapUpdate; refine wpList_put_mf rfl _ _ _ 110 rfl Tryz.underlying110 HM2.out (by omega) x.code x.val rfl rfl rfl HOK.out.code HNE.out ?_; intro w2 hM3 hg2; have HM3 := Lib.hid hM3; have HB3 := Lib.hid (HB2.out.grown hg2 (by rw [World.size_alloc]; omega) (fun k e => by have := Option.some.inj e; omega)); clear hM3 hg2)
      go_roundw
      case rel => exact ⟨i + 1, rfl, by omega, Lib.hid (by rw [HNX.out]; exact HM3.out), HB3⟩
      case measure => simp only [intOf]; omega
    · have t1 : decide ((i : Int) < (n : Int)) = false := by simp; omega
      have ht : X.take i = X := List.take_of_length_le (by have := HR.out.len; omega)
      have hin2 : i = n := by omega
      have HM9 : Hid (MF wr gb n zItem (bookF X)) := Lib.hid (by have h := HM.out; rw [ht, hin2] at h; exact h)
      clear ht hin2
      go_wp2_with (fail)
      go_ret
      exact ⟨⟨gb, rfl, HM9.out, HG.out ▸ Nat.le_refl _⟩, HG.out ▸ HB.out⟩
end Go.Proofs.YtbedbhlebfnohaaGreat
namespace Go.Proofs.YtbedbhlebfnohaaGreat
open Go.RowKit
theorem field_code (w : World) (a b p q : Value) : (Instr.field 102 (.agg #[a, b, p, q]) 0).run Tryz.prog w = .ok a w := by
  first
  | kernel_rfl
  | rfl
theorem field_parts (w : World) (a b p q : Value) : (Instr.field 102 (.agg #[a, b, p, q]) 2).run Tryz.prog w = .ok p w := by
  first
  | kernel_rfl
  | rfl
end Go.Proofs.YtbedbhlebfnohaaGreat
namespace Go.Proofs.YtbedbhlebfnohaaGreat
open Go.RowKit

/-- Like items. -/
structure LikeI (x y : It) : Prop where
  code : x.code = y.code
  life : x.life = y.life
  ps : x.ps = y.ps
  os : x.os = y.os
set_option maxHeartbeats 2000000 in
set_option maxRecDepth 100000 in
theorem SameItem_like (B : Nat) (x y : It) (w : World) (hx : ItOk B w x) (hy : ItOk B w y) (hB : B ≤ w.heap.size) (hxy : LikeI x y) :
    Calls Tryz.prog 63 #[x.val, y.val] w fun e w' => e = .returned (.bool true) ∧ Below w.heap.size w w' := by
  obtain ⟨code, life, pa, pc, ps, oa, oc, os⟩ := x
  obtain ⟨code', life', pa', pc', ps', oa', oc', os'⟩ := y
  obtain ⟨rfl, rfl, rfl, rfl⟩ := hxy
  obtain ⟨np, hnp⟩ : ∃ k, k = ps.length := ⟨_, rfl⟩
  obtain ⟨no, hno⟩ : ∃ k, k = os.length := ⟨_, rfl⟩
  have hp1 := hx.rp.mono hB
  have hp2 := hy.rp.mono hB
  have ht1 := hx.rt.mono hB
  have ht2 := hy.rt.mono hB
  simp only at hp1 hp2 ht1 ht2
  unfold It.val encStr
  simp only
  rw [← hnp] at hp1 hp2 ⊢
  rw [← hno] at ht1 ht2 ⊢
  have HP : Hid (∀ W, Below w.heap.size w W → Calls Tryz.prog 117 #[.slice pa np pc, .slice pa' np pc'] W fun e w' => e = .returned (.bool true) ∧ ∃ q, w' = W.drewN q) := Lib.hid fun W h => (SameParts_any _ _ _ _ _ _ _ _ _ W (hp1.below h) (hp2.below h)).mono (by
    rintro e w' ⟨rfl, q, rfl⟩
    exact ⟨by simp, q, rfl⟩)
  have HT : Hid (∀ W, Below w.heap.size w W → Calls Tryz.prog 118 #[.slice oa no oc, .slice oa' no oc'] W fun e w' => e = .returned (.bool true) ∧ ∃ q, w' = W.drewN q) := Lib.hid fun W h => (SameTexts_any _ _ _ _ _ _ _ _ _ W (ht1.below h) (ht2.below h)).mono (by
    rintro e w' ⟨rfl, q, rfl⟩
    exact ⟨by simp, q, rfl⟩)
  have HB2 : Hid (∀ c d : Array Value, Below w.heap.size w ((w.alloc (.cells c 102)).alloc (.cells d 102))) := Lib.hid fun c d => ((Below.refl _ w).alloc (Nat.le_refl _) _).alloc (by rw [World.size_alloc]; omega) _
  clear hx hy hp1 hp2 ht1 ht2 hnp hno
  go_enter Tryz.func63, Tryz.ntmps63
  go_wp2_with (fail)
  go_at_call 117
  refine (HP.out _ (HB2.out _ _)).mono ?_
  rintro e W3 ⟨rfl, q, rfl⟩
  go_wp2_with (fail)
  go_at_call 118
  refine (HT.out _ (below_dn (HB2.out _ _) q)).mono ?_
  rintro e W3 ⟨rfl, q2, rfl⟩
  go_wp2_with (fail)
  go_ret
  exact ⟨rfl, below_dn (HB2.out _ _) _⟩
theorem sc_at {W : World} {g : Nat} {c : Array Value} {t : TypeId} {fr : Nat × Nat} (i : Nat) (v : Value) (h : W.heap[g]? = some (.cells c t fr)) : (W.setCell ⟨g, i, none⟩ v).heap[g]? = some (.cells (c.setIfInBounds i v) t fr) := by
  unfold World.setCell
  simp only [Array.getElem?_modify, if_true, h, Option.map_some]
  rfl
/-- The lent item: like the item, in memory of its own. -/
structure LI (base : Nat) (w : World) (x y : It) : Prop where
  like : LikeI y x
  op : ∃ g, y.pa = some ⟨g, 0, none⟩ ∧ x.ps.length + 12 ≤ y.pc ∧ y.pc ≤ 9223372036854775807 ∧ OP base w (.slice (some ⟨g, 0, none⟩) (x.ps.length + 12) y.pc) (x.ps ++ lentP)
  ot : ∃ g, y.oa = some ⟨g, 0, none⟩ ∧ x.os.length + 12 ≤ y.oc ∧ y.oc ≤ 9223372036854775807 ∧ OT base w (.slice (some ⟨g, 0, none⟩) (x.os.length + 12) y.oc) (x.os ++ lentX)
theorem LI.keep {base : Nat} {w w' : World} {x y : It} (h : LI base w x y) (hb : Below w.heap.size w w') : LI base w' x y := by
  obtain ⟨g, e1, e2, e3, e4⟩ := h.op
  obtain ⟨k, f1, f2, f3, f4⟩ := h.ot
  exact ⟨h.like, ⟨g, e1, e2, e3, e4.below hb⟩, ⟨k, f1, f2, f3, f4.below hb⟩⟩
set_option maxHeartbeats 2000000 in
set_option maxRecDepth 100000 in
theorem LentItem_any (N : Nat) (x : It) (w : World) (hx : ItOk N w x) (hN : N ≤ w.heap.size) (h1 : x.ps.length * 24 ≤ 140737488355328) (h2 : x.os.length * 16 ≤ 140737488355328) :
    Calls Tryz.prog 41 #[x.val] w fun e w' => Below w.heap.size w w' ∧ ∃ y, e = .returned y.val ∧ LI w.heap.size w' x y := by
  obtain ⟨code, life, pa, pc, ps, oa, oc, os⟩ := x
  have hp1 := hx.rp.mono hN
  have ht1 := hx.rt.mono hN
  simp only at hp1 ht1 h1 h2
  obtain ⟨np, hnp⟩ : ∃ k, k = ps.length := ⟨_, rfl⟩
  obtain ⟨no, hno⟩ : ∃ k, k = os.length := ⟨_, rfl⟩
  have HNP := Lib.hid hnp
  have HNO := Lib.hid hno
  rw [← hnp] at hp1 h1
  rw [← hno] at ht1 h2
  have HP : Hid (∀ W, Below w.heap.size w W → Calls Tryz.prog 90 #[.slice pa np pc] W fun e w' => (∃ g c', e = .returned (.slice (some ⟨g, 0, none⟩) np c') ∧ (np + 12 ≤ c' ∧ c' ≤ 9223372036854775807) ∧ OP W.heap.size w' (.slice (some ⟨g, 0, none⟩) (np + 12) c') (ps ++ lentP)) ∧ Below W.heap.size W w') := Lib.hid fun W h => LentParts_any w.heap.size pa np pc ps W (hp1.below h) h.size h1
  have HT : Hid (∀ W, Below w.heap.size w W → Calls Tryz.prog 91 #[.slice oa no oc] W fun e w' => (∃ g c', e = .returned (.slice (some ⟨g, 0, none⟩) no c') ∧ (no + 12 ≤ c' ∧ c' ≤ 9223372036854775807) ∧ OT W.heap.size w' (.slice (some ⟨g, 0, none⟩) (no + 12) c') (os ++ lentX)) ∧ Below W.heap.size W w') := Lib.hid fun W h => LentTexts_any w.heap.size oa no oc os W (ht1.below h) h.size h2
  unfold It.val encStr
  simp only
  rw [← hnp, ← hno]
  clear hx hp1 ht1 hnp hno
  go_enter Tryz.func41, Tryz.ntmps41
  go_wp2_with (fail)
  obtain ⟨W2, hW2⟩ : ∃ W, W = (w.alloc (.cells #[.string ⟨code.toArray⟩, .int .i64 life, .slice pa np pc, .slice oa no oc] 102)).alloc (.cells #[.string ⟨#[]⟩, .int .i64 0, .slice none 0 0, .slice none 0 0] 102) := ⟨_, rfl⟩
  rw [← hW2]
  have hs2 : W2.heap.size = w.heap.size + 2 := by rw [hW2, World.size_alloc, World.size_alloc]
  have ha2 : W2.heap[w.heap.size]? = some (.cells #[.string ⟨code.toArray⟩, .int .i64 life, .slice pa np pc, .slice oa no oc] 102) := by
    rw [hW2]
    exact (((Below.refl _ (w.alloc (.cells #[.string ⟨code.toArray⟩, .int .i64 life, .slice pa np pc, .slice oa no oc] 102))).alloc (Nat.le_refl _) _).block w.heap.size (by rw [World.size_alloc]; omega)).trans (heap_alloc_new _ _)
  have hz2 : W2.heap[w.heap.size + 1]? = some (.cells #[.string ⟨#[]⟩, .int .i64 0, .slice none 0 0, .slice none 0 0] 102) := by
    rw [hW2]
    have := heap_alloc_new (w.alloc (.cells #[.string ⟨code.toArray⟩, .int .i64 life, .slice pa np pc, .slice oa no oc] 102)) (.cells #[.string ⟨#[]⟩, .int .i64 0, .slice none 0 0, .slice none 0 0] 102)
    rw [World.size_alloc] at this
    exact this
  have hb2 : Below w.heap.size w W2 := by rw [hW2]; exact ((Below.refl _ w).alloc (Nat.le_refl _) _).alloc (by rw [World.size_alloc]; omega) _
  clear hW2
  go_at_call 90
  refine (HP.out _ hb2).mono ?_
  rintro e W3 ⟨⟨g, c', rfl, hc', hop⟩, hb3⟩
  have ha3 := (hb3.block w.heap.size (by omega)).trans ha2
  have i0 : W3.cell? ⟨w.heap.size, 0, none⟩ = some (.string ⟨code.toArray⟩) := by unfold World.cell?; rw [ha3]; rfl
  have i1 : W3.cell? ⟨w.heap.size, 1, none⟩ = some (.int .i64 life) := by unfold World.cell?; rw [ha3]; rfl
  have i2 : W3.cell? ⟨w.heap.size, 2, none⟩ = some (.slice pa np pc) := by unfold World.cell?; rw [ha3]; rfl
  have i3 : W3.cell? ⟨w.heap.size, 3, none⟩ = some (.slice oa no oc) := by unfold World.cell?; rw [ha3]; rfl
  have fz : W3.frozen? ⟨w.heap.size, 2, none⟩ = false := by unfold World.frozen?; rw [ha3]; simp
  have HOP := Lib.hid hop
  have HB3 := Lib.hid hb3
  have HB2 := Lib.hid hb2
  clear hop hb3 hb2 ha2
  go_wp2_with (fail)
  obtain ⟨W4, hW4⟩ : ∃ W, W = W3.setCell ⟨w.heap.size, 2, none⟩ (.slice (some ⟨g, 0, none⟩) np c') := ⟨_, rfl⟩
  rw [← hW4]
  have ha4 : W4.heap[w.heap.size]? = some (.cells #[.string ⟨code.toArray⟩, .int .i64 life, .slice (some ⟨g, 0, none⟩) np c', .slice oa no oc] 102) := by
    rw [hW4]
    unfold World.setCell
    simp only [Array.getElem?_modify, if_true, ha3, Option.map_some]
    rfl
  have hs4 : W4.heap.size = W3.heap.size := by rw [hW4]; simp [World.setCell]
  have hk4 : ∀ k, k ≠ w.heap.size → W4.heap[k]? = W3.heap[k]? := fun k hk => by rw [hW4]; exact Below.heap_setCell W3 ⟨w.heap.size, 2, none⟩ _ k hk
  have hb4 : Below w.heap.size w W4 := by rw [hW4]; exact (HB2.out.trans (HB3.out.mono (by omega))).setCell (p := ⟨w.heap.size, 2, none⟩) (Nat.le_refl _) _
  have hz4 := (hk4 (w.heap.size + 1) (by omega)).trans ((HB3.out.block (w.heap.size + 1) (by omega)).trans hz2)
  have hop4 : OP W2.heap.size W4 (.slice (some ⟨g, 0, none⟩) (np + 12) c') (ps ++ lentP) := HOP.out.keep fun b e => hk4 b (by have := (HOP.out.ge b e).1; omega)
  have hs34 : W2.heap.size ≤ W4.heap.size := by rw [hs4]; exact HB3.out.size
  have HOP4 := Lib.hid hop4
  have HB4 := Lib.hid hb4
  clear hW4 ha3 i0 i1 i2 i3 fz hk4 hop4 hb4
  go_at_call 91
  refine (HT.out _ HB4.out).mono ?_
  rintro e W5 ⟨⟨k, d', rfl, hd', hot⟩, hb5⟩
  have ha5 := (hb5.block w.heap.size (by omega)).trans ha4
  have j0 : W5.cell? ⟨w.heap.size, 0, none⟩ = some (.string ⟨code.toArray⟩) := by unfold World.cell?; rw [ha5]; rfl
  have j1 : W5.cell? ⟨w.heap.size, 1, none⟩ = some (.int .i64 life) := by unfold World.cell?; rw [ha5]; rfl
  have j2 : W5.cell? ⟨w.heap.size, 2, none⟩ = some (.slice (some ⟨g, 0, none⟩) np c') := by unfold World.cell?; rw [ha5]; rfl
  have j3 : W5.cell? ⟨w.heap.size, 3, none⟩ = some (.slice oa no oc) := by unfold World.cell?; rw [ha5]; rfl
  have hz5 := (hb5.block (w.heap.size + 1) (by omega)).trans hz4
  have l0 : W5.cell? ⟨w.heap.size + 1, 0, none⟩ = some (.string ⟨#[]⟩) := by unfold World.cell?; rw [hz5]; rfl
  have m0 : W5.frozen? ⟨w.heap.size + 1, 0, none⟩ = false := by unfold World.frozen?; rw [hz5]; simp
  have l1 : W5.cell? ⟨w.heap.size + 1, 1, none⟩ = some (.int .i64 0) := by unfold World.cell?; rw [hz5]; rfl
  have m1 : W5.frozen? ⟨w.heap.size + 1, 1, none⟩ = false := by unfold World.frozen?; rw [hz5]; simp
  have l2 : W5.cell? ⟨w.heap.size + 1, 2, none⟩ = some (.slice none 0 0) := by unfold World.cell?; rw [hz5]; rfl
  have m2 : W5.frozen? ⟨w.heap.size + 1, 2, none⟩ = false := by unfold World.frozen?; rw [hz5]; simp
  have l3 : W5.cell? ⟨w.heap.size + 1, 3, none⟩ = some (.slice none 0 0) := by unfold World.cell?; rw [hz5]; rfl
  have m3 : W5.frozen? ⟨w.heap.size + 1, 3, none⟩ = false := by unfold World.frozen?; rw [hz5]; simp
  have fz5 : W5.frozen? ⟨w.heap.size, 3, none⟩ = false := by unfold World.frozen?; rw [ha5]; simp
  have hop5 := HOP4.out.below (hb5.mono (Nat.le_refl _))
  have HOP5 := Lib.hid hop5
  have HOT5 := Lib.hid hot
  have HB5 := Lib.hid (HB4.out.trans (hb5.mono (by omega)))
  have HZ5 := Lib.hid hz5
  clear hot hb5 hop5 ha4 ha5 hz5 hz4 hz2
  go_wp2_with (fail)
  have hfin : ∀ (a b c d e : Value) (k : Nat), w.heap.size + 2 ≤ k → (((((W5.setCell ⟨w.heap.size, 3, none⟩ a).setCell ⟨w.heap.size + 1, 0, none⟩ b).setCell ⟨w.heap.size + 1, 1, none⟩ c).setCell ⟨w.heap.size + 1, 2, none⟩ d).setCell ⟨w.heap.size + 1, 3, none⟩ e).heap[k]? = W5.heap[k]? := by
    intro a b c d e k hk
    have q1 : k ≠ w.heap.size := by omega
    have q2 : k ≠ w.heap.size + 1 := by omega
    exact (Below.heap_setCell _ ⟨w.heap.size + 1, 3, none⟩ _ k q2).trans ((Below.heap_setCell _ ⟨w.heap.size + 1, 2, none⟩ _ k q2).trans ((Below.heap_setCell _ ⟨w.heap.size + 1, 1, none⟩ _ k q2).trans ((Below.heap_setCell _ ⟨w.heap.size + 1, 0, none⟩ _ k q2).trans (Below.heap_setCell _ ⟨w.heap.size, 3, none⟩ _ k q1))))
  have hblk := sc_at 3 (.slice (some ⟨k, 0, none⟩) no d') (sc_at 2 (.slice (some ⟨g, 0, none⟩) np c') (sc_at 1 (.int .i64 life) (sc_at 0 (.string ⟨code.toArray⟩) ((Below.heap_setCell W5 ⟨w.heap.size, 3, none⟩ (.slice (some ⟨k, 0, none⟩) no d') (w.heap.size + 1) (by show _ ≠ w.heap.size; omega)).trans HZ5.out))))
  have hbel := ((((HB5.out.setCell (p := ⟨w.heap.size, 3, none⟩) (Nat.le_refl _) (.slice (some ⟨k, 0, none⟩) no d')).setCell (p := ⟨w.heap.size + 1, 0, none⟩) (Nat.le_succ _) (.string ⟨code.toArray⟩)).setCell (p := ⟨w.heap.size + 1, 1, none⟩) (Nat.le_succ _) (.int .i64 life)).setCell (p := ⟨w.heap.size + 1, 2, none⟩) (Nat.le_succ _) (.slice (some ⟨g, 0, none⟩) np c')).setCell (p := ⟨w.heap.size + 1, 3, none⟩) (Nat.le_succ _) (.slice (some ⟨k, 0, none⟩) no d')
  have hfin2 := hfin (.slice (some ⟨k, 0, none⟩) no d') (.string ⟨code.toArray⟩) (.int .i64 life) (.slice (some ⟨g, 0, none⟩) np c') (.slice (some ⟨k, 0, none⟩) no d')
  obtain ⟨W6, hW6⟩ : ∃ W, W = (((((W5.setCell ⟨w.heap.size, 3, none⟩ (.slice (some ⟨k, 0, none⟩) no d')).setCell ⟨w.heap.size + 1, 0, none⟩ (.string ⟨code.toArray⟩)).setCell ⟨w.heap.size + 1, 1, none⟩ (.int .i64 life)).setCell ⟨w.heap.size + 1, 2, none⟩ (.slice (some ⟨g, 0, none⟩) np c')).setCell ⟨w.heap.size + 1, 3, none⟩ (.slice (some ⟨k, 0, none⟩) no d')) := ⟨_, rfl⟩
  rw [← hW6] at hblk hbel hfin2 ⊢
  have r0 : W6.cell? ⟨w.heap.size + 1, 0, none⟩ = some (.string ⟨code.toArray⟩) := by unfold World.cell?; rw [hblk]; rfl
  have r1 : W6.cell? ⟨w.heap.size + 1, 1, none⟩ = some (.int .i64 life) := by unfold World.cell?; rw [hblk]; rfl
  have r2 : W6.cell? ⟨w.heap.size + 1, 2, none⟩ = some (.slice (some ⟨g, 0, none⟩) np c') := by unfold World.cell?; rw [hblk]; rfl
  have r3 : W6.cell? ⟨w.heap.size + 1, 3, none⟩ = some (.slice (some ⟨k, 0, none⟩) no d') := by unfold World.cell?; rw [hblk]; rfl
  clear hW6 hfin hblk
  refine bodyPost_ret (by simp [results, Tryz.results41, go_sem, r0, r1, r2, r3]; try rfl) rfl ?_
  refine ⟨hbel, ⟨code, life, some ⟨g, 0, none⟩, c', ps, some ⟨k, 0, none⟩, d', os⟩, by rw [HNP.out, HNO.out], ⟨rfl, rfl, rfl, rfl⟩, ⟨g, rfl, ?_, hc'.2, ?_⟩, ⟨k, rfl, ?_, hd'.2, ?_⟩⟩
  · show ps.length + 12 ≤ c'
    rw [← HNP.out]; exact hc'.1
  · show OP w.heap.size _ (.slice (some ⟨g, 0, none⟩) (ps.length + 12) c') (ps ++ lentP)
    rw [← HNP.out]
    exact (HOP5.out.keep fun b e => hfin2 b (by have := (HOP5.out.ge b e).1; omega)).mono (by omega)
  · show os.length + 12 ≤ d'
    rw [← HNO.out]; exact hd'.1
  · show OT w.heap.size _ (.slice (some ⟨k, 0, none⟩) (os.length + 12) d') (os ++ lentX)
    rw [← HNO.out]
    exact (HOT5.out.keep fun b e => hfin2 b (by have := (HOT5.out.ge b e).1; omega)).mono (by omega)
end Go.Proofs.YtbedbhlebfnohaaGreat
