/- The log: Force. The disk: Read. The log: get; read and Open on a fresh disk. -/
import Derived.Test.YtohlkkannjifmaaGreatDoorOLogD
import Derived.Test.YtohlkkannjifmaaGreatDoorODsk2
import Derived.Laws.BitsLemmas
namespace Go.Proofs.YtohlkkannjifmaaGreatDoor
open Go.RowKit

theorem LF.ok' {w : World} {U : Nat → Prop} {l d k : Nat} {L : LK} {sv tv : Value} {P : Nat → Nat} {V : Nat → Value} (h : LF w U l d k L sv tv P V) : L.Ok k := h.ok
/-- What stands between Force's steps. -/
structure FK (U : Nat → Prop) (d ds do_ fb gs l : Nat) (w W : World) : Prop where
  box : W.heap[fb]? = some (.cells #[ptr l] 41 (0, 0))
  fns : W.heap[gs]? = some (.cells #[fn1 fb, fn2 d, fn3 fb] 58 (0, 0))
  tr : Trn (fun g => U g ∨ DB d ds do_ g) w W
def NotSafe (L : LK) : Prop := ¬ L.safe = L.end_
def ForceP (U : Nat → Prop) (l k d ds do_ kd : Nat) (x : Int × LK × DK) (w : World) (e : Ending) (w' : World) : Prop :=
  e = .returned (.int .i64 x.1) ∧ LogR w' U l d k x.2.1 ∧ DiskR w' d ds do_ (kd + 8192) x.2.2 ∧ Trn (fun g => U g ∨ DB d ds do_ g) w w'
theorem FK.next {U : Nat → Prop} {d ds do_ fb gs l : Nat} {w W W' : World} (h : FK U d ds do_ fb gs l w W) (ht : Trn (fun g => U g ∨ DB d ds do_ g) W W') (h1 : ¬ (U fb ∨ DB d ds do_ fb)) (h2 : ¬ (U gs ∨ DB d ds do_ gs)) : FK U d ds do_ fb gs l w W' :=
  ⟨(ht.block fb (lt_of_heap' h.box) h1).trans h.box, (ht.block gs (lt_of_heap' h.fns) h2).trans h.fns, h.tr.then ht⟩
theorem force_each (U : Nat → Prop) (l k : Nat) (L : LK) (d ds do_ kd : Nat) (D : DK) (sv tv : Value) (P : Nat → Nat) (V : Nat → Value) (fb gs : Nat) (w W : World) (hK : FK U d ds do_ fb gs l w W) (hL : LF W U l d k L sv tv P V) (hD : DiskR W d ds do_ kd D) (hne : ∀ g, DB d ds do_ g → ¬ U g)
    (h1 : ¬ (U fb ∨ DB d ds do_ fb)) (h2 : ¬ (U gs ∨ DB d ds do_ gs)) (hs : ¬ L.safe = L.end_) (hkd : kd ≤ 900000000) (hn8 : L.sheets.length ≤ 8191) :
    Calls Tryz.prog 60 #[.slice (some ⟨gs, 0, none⟩) 3 3] W (ForceP U l k d ds do_ kd (L.force D) w) := by
  have hFl : L.force D = if (writeAll L L.sheets D).1 ≠ 0 then ((writeAll L L.sheets D).1, { L with sheets := (writeAll L L.sheets D).2.1 }, (writeAll L L.sheets D).2.2)
      else if ((writeAll L L.sheets D).2.2.sync).1 ≠ 0 then (((writeAll L L.sheets D).2.2.sync).1, { L with sheets := (writeAll L L.sheets D).2.1 }, ((writeAll L L.sheets D).2.2.sync).2)
      else (0, { L with sheets := (writeAll L L.sheets D).2.1.map ShV.sure }, ((writeAll L L.sheets D).2.2.sync).2) := by unfold LK.force; rw [if_neg hs]
  refine (each3_any gs fb d (fun X => X = W) (fun X => FK U d ds do_ fb gs l w X ∧ LF X U l d k { L with sheets := (writeAll L L.sheets D).2.1 } sv tv P V ∧ DiskR X d ds do_ (kd + L.sheets.length) (writeAll L L.sheets D).2.2)
    (fun X => FK U d ds do_ fb gs l w X ∧ LF X U l d k { L with sheets := (writeAll L L.sheets D).2.1 } sv tv P V ∧ DiskR X d ds do_ (kd + L.sheets.length) ((writeAll L L.sheets D).2.2.sync).2)
    (fun X => FK U d ds do_ fb gs l w X ∧ LF X U l d k { L with sheets := (writeAll L L.sheets D).2.1.map ShV.sure } sv tv P V ∧ DiskR X d ds do_ (kd + L.sheets.length) ((writeAll L L.sheets D).2.2.sync).2)
    (writeAll L L.sheets D).1 ((writeAll L L.sheets D).2.2.sync).1 W ?_ ?_ ?_ ?_ rfl).mono ?_
  · have key : ∀ X, FK U d ds do_ fb gs l w X → X.cell? ⟨gs, 0, none⟩ = some (fn1 fb) ∧ X.cell? ⟨gs, 1, none⟩ = some (fn2 d) ∧ X.cell? ⟨gs, 2, none⟩ = some (fn3 fb) := fun X hX =>
      ⟨cell_of_row _ _ 0 _ _ _ hX.fns, cell_of_row _ _ 1 _ _ _ hX.fns, cell_of_row _ _ 2 _ _ _ hX.fns⟩
    rintro X (rfl | ⟨hX, -⟩ | ⟨hX, -⟩ | ⟨hX, -⟩)
    · exact key _ hK
    · exact key _ hX
    · exact key _ hX
    · exact key _ hX
  · rintro X rfl
    refine (force1_any U l k L d ds do_ kd D sv tv P V fb X hL hD hne (by omega) hK.box (fun h => h1 (.inl h)) (fun h => h1 (.inr h))).mono ?_
    rintro e w' ⟨he, hf⟩
    exact ⟨he, hK.next hf.tr h1 h2, hf.lf, hf.dk⟩
  · rintro X ⟨a1, a2, a3⟩ -
    refine (sync_any d ds do_ _ _ X a3 (by omega)).mono ?_
    rintro e w' ⟨he, hd, ht⟩
    exact ⟨he, a1.next (ht.mono fun i hi => .inl (.inr hi)) h1 h2, a2.keep (fun i hi => ht.block i (a2.lt i hi) (fun h => hne i h hi)) ht.size, hd⟩
  · rintro X ⟨a1, a2, a3⟩ - -
    refine (force2_any U l d k _ sv tv P V fb X a2 a1.box (fun h => h1 (.inl h))).mono ?_
    rintro e w' ⟨he, hf, ht⟩
    exact ⟨he, a1.next (ht.mono fun i hi => .inl (.inl hi)) h1 h2, hf, a3.keep fun i hi => ht.block i (a3.lt hi) (fun h => hne i hi h)⟩
  · rintro e w' (⟨b1, rfl, a1, a2, a3⟩ | ⟨b1, b2, rfl, a1, a2, a3⟩ | ⟨b1, b2, rfl, a1, a2, a3⟩)
    · rw [hFl, if_pos b1]
      exact ⟨rfl, a2.log, a3.mono (by omega), a1.tr⟩
    · rw [hFl, if_neg (by omega), if_pos b2]
      exact ⟨rfl, a2.log, a3.mono (by omega), a1.tr⟩
    · rw [hFl, if_neg (by omega), if_neg (by omega)]
      exact ⟨rfl, a2.log, a3.mono (by omega), a1.tr⟩
set_option maxRecDepth 100000 in
set_option maxHeartbeats 4000000 in
theorem force_any (U : Nat → Prop) (l k : Nat) (L : LK) (d ds do_ kd : Nat) (D : DK) (w : World) (h : LogR w U l d k L) (hD : DiskR w d ds do_ kd D) (hne : ∀ g, DB d ds do_ g → ¬ U g) (hkd : kd ≤ 900000000) (hk : k ≤ 1000000000) :
    Calls Tryz.prog 20 #[.pointer (some ⟨l, 0, none⟩)] w (ForceP U l k d ds do_ kd (L.force D) w) := by
  have hbx := (Below.refl w.heap.size w).alloc (Nat.le_refl _) (.cells #[.pointer (some ⟨l, 0, none⟩)] 41)
  have hlog : ∀ W, Below w.heap.size w W → LogR W U l d k L := fun W hW => h.keep (fun i hi => hW.block i (h.lt i hi)) hW.size
  have HLog := Lib.hid hlog
  have HT : Hid (∀ W, Below w.heap.size w W → Calls Tryz.prog 41 #[.pointer (some ⟨l, 0, none⟩)] W fun e w' => e = .returned (.bool true) ∧ w' = W) := Lib.hid fun W hW => lthere_any W l d (by obtain ⟨sv, tv, P, V, hf⟩ := LF.of (hlog W hW); exact cell_of_row _ _ 0 _ _ _ hf.blk)
  have HSf : Hid (∀ W, Below w.heap.size w W → Calls Tryz.prog 59 #[.pointer (some ⟨l, 0, none⟩)] W fun e w' => e = .returned (.int .i64 L.safe) ∧ ∃ q, w' = W.drewN q) := Lib.hid fun W hW => safe_any W U l d k L (hlog W hW) hk
  have HEn : Hid (∀ W, Below w.heap.size w W → Calls Tryz.prog 47 #[.pointer (some ⟨l, 0, none⟩)] W fun e w' => e = .returned (.int .i64 L.end_) ∧ w' = W.drew) := Lib.hid fun W hW => end_any W U l d k L (hlog W hW)
  have HB0 := Lib.hid hbx
  have hc0 : (w.alloc (.cells #[.pointer (some ⟨l, 0, none⟩)] 41)).cell? ⟨w.heap.size, 0, none⟩ = some (.pointer (some ⟨l, 0, none⟩)) := cell_of_row _ _ 0 _ _ _ (heap_alloc_last w _)
  by_cases hs : L.safe = L.end_
  · have HF : Hid (L.force D = (0, L, D)) := Lib.hid (by unfold LK.force; rw [if_pos hs])
    have HD := Lib.hid hD
    rw [HF.out]
    rw [hs] at HSf
    have e1 : (L.end_ == L.end_) = true := by simp
    clear hs h hD hbx hlog
    generalize L.end_ = en at *
    go_enter Tryz.func20, Tryz.ntmps20
    go_upto_region 3 with (go_at_call 41; refine (HT.out _ HB0.out).mono ?_; rintro e w1 ⟨rfl, hw1⟩; subst hw1)
    go_region_held3 (fun w' => w'.cell? ⟨w.heap.size, 0, none⟩ = some (.pointer (some ⟨l, 0, none⟩))) (first | go_keep | assumption) (first | (go_at_call 59; refine (HSf.out _ HB0.out.drew).mono ?_; rintro e w2 ⟨rfl, q, hw2⟩; have B2 : Hid (Below w.heap.size w w2) := Lib.hid (by rw [hw2]; exact below_dn HB0.out.drew q); have c2 : w2.cell? ⟨w.heap.size, 0, none⟩ = some (.pointer (some ⟨l, 0, none⟩)) := (by rw [hw2]; exact hc0); clear hw2) | (go_at_call 47; refine (HEn.out _ B2.out).mono ?_; rintro e w3 ⟨rfl, hw3⟩; subst hw3))
    go_wp2_with (fail)
    go_ret
    exact ⟨rfl, HLog.out _ B2.out.drew, (HD.out.keep fun i hi => B2.out.drew.block i (HD.out.lt hi)).mono (by omega), (Trn.refl _ w).below B2.out.drew (Nat.le_refl _)⟩
  · obtain ⟨sv, tv, P, V, hf⟩ := LF.of h
    have e1 : (L.safe == L.end_) = false := by simpa using hs
    have hn8 : L.sheets.length ≤ 8191 := by have := hf.get; obtain ⟨_, _, _, _, _, h8, _⟩ := this; exact h8
    have HLF := Lib.hid hf
    have HD := Lib.hid hD
    have HNE := Lib.hid hne
    have HS : Hid (NotSafe L) := Lib.hid hs
    have H8 := Lib.hid hn8
    clear hs h hD hbx hlog hf hn8 hne
    obtain ⟨res, hres⟩ : ∃ res, res = L.force D := ⟨_, rfl⟩
    rw [← hres]
    have HRes := Lib.hid hres
    clear hres
    generalize L.end_ = en at *
    generalize L.safe = sf at *
    go_enter Tryz.func20, Tryz.ntmps20
    go_upto_region 3 with (go_at_call 41; refine (HT.out _ HB0.out).mono ?_; rintro e w1 ⟨rfl, hw1⟩; subst hw1)
    go_region_held3 (fun w' => w'.cell? ⟨w.heap.size, 0, none⟩ = some (.pointer (some ⟨l, 0, none⟩))) (first | go_keep | assumption) (first | (go_at_call 59; refine (HSf.out _ HB0.out.drew).mono ?_; rintro e w2 ⟨rfl, q, hw2⟩; have B2 : Hid (Below w.heap.size w w2) := Lib.hid (by rw [hw2]; exact below_dn HB0.out.drew q); have c2 : w2.cell? ⟨w.heap.size, 0, none⟩ = some (.pointer (some ⟨l, 0, none⟩)) := (by rw [hw2]; exact hc0); have X2 : Hid (w2.heap[w.heap.size]? = some (.cells #[ptr l] 41 (0, 0))) := Lib.hid (by rw [hw2]; exact heap_alloc_last w _); clear hw2) | (go_at_call 47; refine (HEn.out _ B2.out).mono ?_; rintro e w3 ⟨rfl, hw3⟩; subst hw3))
    have V2 : Hid (LF w2 U l d k L sv tv P V) := Lib.hid (HLF.out.keep (fun i hi => B2.out.block i (HLF.out.lt i hi)) B2.out.size)
    have m0 : w2.cell? ⟨l, 0, none⟩ = some (.pointer (some ⟨d, 0, none⟩)) := cell_of_row _ _ 0 _ _ _ V2.out.blk
    have hfns : (w2.drew.alloc (.cells #[fn1 w.heap.size, fn2 d, fn3 w.heap.size] 58)).heap[w2.heap.size]? = some (.cells #[fn1 w.heap.size, fn2 d, fn3 w.heap.size] 58 (0, 0)) := heap_alloc_last w2.drew _
    have hBa := B2.out.drew.alloc B2.out.drew.size (.cells #[fn1 w.heap.size, fn2 d, fn3 w.heap.size] 58)
    have hlt2 := lt_of_heap' X2.out
    have HEa := Lib.hid (force_each U l k L d ds do_ kd D sv tv P V w.heap.size w2.heap.size w (w2.drew.alloc (.cells #[fn1 w.heap.size, fn2 d, fn3 w.heap.size] 58)) ⟨(alloc_old (w := w2.drew) hlt2).trans X2.out, hfns, (Trn.refl _ w).below hBa (Nat.le_refl _)⟩
      (HLF.out.keep (fun i hi => hBa.block i (HLF.out.lt i hi)) hBa.size) (HD.out.keep fun i hi => hBa.block i (HD.out.lt hi)) HNE.out (by
        rintro (h | h)
        · have := HLF.out.lt _ h; omega
        · have := HD.out.lt h; omega) (by
        rintro (h | h)
        · have := HLF.out.lt _ h; omega
        · have := HD.out.lt h; omega) HS.out hkd H8.out)
    rw [← HRes.out] at HEa
    unfold fn1 fn2 fn3 at HEa
    clear hfns hBa hlt2
    go_wp2_with (go_at_call 60; refine HEa.out.mono ?_; rintro e w5 h5; obtain ⟨rfl, q1, q2, q3⟩ := h5; have Q1 := Lib.hid q1; have Q2 := Lib.hid q2; have Q3 := Lib.hid q3; clear q1 q2 q3)
    go_ret
    exact ⟨rfl, Q1.out, Q2.out, Q3.out⟩
end Go.Proofs.YtohlkkannjifmaaGreatDoor
namespace Go.Proofs.YtohlkkannjifmaaGreatDoor
open Go.RowKit

theorem OB.emp (B : Nat) (W : World) (hB : B ≤ W.heap.size) : OB B (W.alloc (.cells #[] 5)) (.slice (some ⟨W.heap.size, 0, none⟩) 0 0) [] :=
  ⟨rfl, .inr ⟨W.heap.size, 0, #[], rfl, hB, heap_alloc_last W _, Nat.le_refl _, by decide, rfl, rfl⟩⟩
theorem rb_cellsB {W : World} {g : Nat} {l : List UInt8} {t : TypeId} (h : W.heap[g]? = some (.cells (cellsB l) t (0, 0))) (hl : l.length = 512) : RB W.heap.size W (some ⟨g, 0, none⟩) 512 512 l :=
  ⟨hl.symm, Nat.le_refl _, by omega, by omega, fun _ => ⟨g, 0, rfl, (Array.getElem?_eq_some_iff.1 h).1, fun i hi => by
    have := bv_getD l i (by omega)
    rw [Nat.zero_add, cell_of_row _ _ i (cellsB l) t (0, 0) h]
    unfold cellsB
    simpa using this⟩⟩
theorem dread_facts (w w2 : World) (l : List UInt8) (hb : Below w.heap.size w w2) (hl : l.length = 512) :
    OB w.heap.size ((w2.alloc (.cells (cellsB l) 163)).alloc (.cells #[] 5)) (.slice (some ⟨w2.heap.size + 1, 0, none⟩) 0 0) [] ∧
    RB ((w2.alloc (.cells (cellsB l) 163)).alloc (.cells #[] 5)).heap.size ((w2.alloc (.cells (cellsB l) 163)).alloc (.cells #[] 5)) (some ⟨w2.heap.size, 0, none⟩) 512 512 l ∧
    Below w.heap.size w ((w2.alloc (.cells (cellsB l) 163)).alloc (.cells #[] 5)) := by
  have h1 := OB.emp w.heap.size (w2.alloc (.cells (cellsB l) 163)) (by rw [World.size_alloc]; have := hb.size; omega)
  rw [World.size_alloc] at h1
  refine ⟨h1, rb_cellsB (t := 163) ?_ hl, (hb.alloc hb.size _).alloc (by have := hb.size; simp; omega) _⟩
  rw [(Go.MapKept.heap_alloc _ _).2 _ (by rw [World.size_alloc]; omega)]
  exact heap_alloc_last w2 _
set_option maxRecDepth 100000 in
set_option maxHeartbeats 1000000 in
theorem dread_any (d s o k : Nat) (K : DK) (i : Int) (w : World) (h : DiskR w d s o k K) (hi1 : -9223372036854775808 ≤ i) (hi2 : i ≤ 9223372036854775807) :
    Calls Tryz.prog 34 #[.pointer (some ⟨d, 0, none⟩), .int .i64 i] w fun e w' =>
      (K.may i ≠ 0 ∧ e = .returned (.tuple #[.slice none 0 0, .int .i64 (K.may i)]) ∧ w' = w) ∨ (K.may i = 0 ∧ ∃ v, e = .returned (.tuple #[v, .int .i64 0]) ∧ OB w.heap.size w' v (K.latest i) ∧ Below w.heap.size w w') := by
  have HM := Lib.hid (may_any d s o k K i w h)
  have HL := Lib.hid (latest_any d s o k K i w h hi1 hi2)
  have hl := h.ok.latest i
  have hz := zero_sector
  by_cases hm : K.may i = 0
  · have hd := h.lt (.inl rfl)
    rw [hm] at HM
    have hcs := cellsB_size (K.latest i)
    have hi0 : (Tryz.prog.info? 163).map (·.size) = some (cellsB (K.latest i)).size := by rw [hcs, hl]; exact size_sector
    have hst := Lib.hid fun W : World => run_storeAt_new (P := Tryz.prog) W 163 (cellsB zB) (cellsB (K.latest i)) hi0 (by rw [cellsB_size, zB_len, hcs, hl]) (one_cellsB _)
    have Hl := Lib.hid hl
    have Hm := Lib.hid hm
    clear h hm hl hcs hi0
    simp only [arrV] at *
    generalize K.latest i = l at *
    go_enter Tryz.func34, Tryz.ntmps34
    go_wp2_with (first | (go_at_call 80; refine HM.out.mono ?_; rintro e w1 ⟨rfl, hw1⟩; replace hw1 := hw1.symm; subst hw1) | (go_at_call 81; refine HL.out.mono ?_; rintro e w2 ⟨rfl, hb2⟩; have B2 := Lib.hid hb2; have S2 := hst.out w2; obtain ⟨o2, r2, b2⟩ := dread_facts w w2 l hb2 Hl.out; have O2 := Lib.hid o2; have R2 := Lib.hid r2; have BA := Lib.hid b2; clear hb2 o2 r2 b2) | refine wpList_store_run S2 rfl _ _ rfl rfl rfl ?_ | (at_builtin; refine wpList_append_bytes rfl _ _ rfl w.heap.size _ _ [] rfl O2.out _ _ _ l rfl R2.out (by have := Hl.out; simp only [List.length_nil]; omega) BA.out.size ?_; intro v3 w3 ho3 hg3 hn3; have O3 := Lib.hid ho3; have B3 := Lib.hid (BA.out.grown hg3 BA.out.size (fun k e => by cases e; have := B2.out.size; simp only; omega)); clear ho3 hg3 hn3))
    go_ret2
    exact .inr ⟨Hm.out, _, rfl, by simpa using O3.out, B3.out⟩
  · have HS : Hid (K.may i ≠ 0) := Lib.hid hm
    have e0 : (K.may i == 0) = false := by simpa using hm
    clear hm h hl
    generalize K.may i = m at *
    go_enter Tryz.func34, Tryz.ntmps34
    go_wp2_with (go_at_call 80; refine HM.out.mono ?_; rintro e w1 ⟨rfl, hw1⟩; replace hw1 := hw1.symm; subst hw1)
    go_ret2
    exact .inl ⟨HS.out, rfl, rfl⟩
end Go.Proofs.YtohlkkannjifmaaGreatDoor
namespace Go.Proofs.YtohlkkannjifmaaGreatDoor
open Go.RowKit

set_option maxHeartbeats 1000000 in
set_option maxRecDepth 100000 in
theorem get_any (N b o n c : Nat) (L : List UInt8) (at_ size : Nat) (w : World) (hr : RB N w (some ⟨b, o, none⟩) n c L) (ha : at_ + size ≤ n) (hn : n ≤ 512) (h0 : 0 < size) (hs : ∀ j, j < size → numL ((L.drop at_).take j) < 36028797018963968) :
    Calls Tryz.prog 121 #[.slice (some ⟨b, o, none⟩) n c, .int .i64 at_, .int .i64 size] w fun e w' => e = .returned (.int .i64 (numL ((L.drop at_).take size))) ∧ w' = w := by
  have hle := hr.le
  have hmx := hr.mx
  have Hlen := Lib.hid hr.len
  have HS := Lib.hid hs
  have HRB := Lib.hid hr
  have e1 : IntKind.i64.wrap ((at_ : Int) + size) = (at_ : Int) + size := IntWalk.i64_in _ (by omega)
  have hca : ¬ c = at_ := by omega
  clear hr hs
  go_enter Tryz.func121, Tryz.ntmps121
  go_wp2_with (fail)
  go_loopw [7, 17] (fun s i wr => ∃ j : Nat, j ≤ size ∧ i = .int .i64 j ∧ s = .int .i64 (numL ((L.drop at_).take j)) ∧ wr = w) (fun _ i _ => size - (intOf i).toNat)
  case atStart => exact ⟨0, by omega, rfl, rfl, rfl⟩
  case round =>
    obtain ⟨j, hj, rfl, rfl, rfl⟩ := hrel
    by_cases hlt : j < size
    · obtain ⟨b', o', e0, -, hcell⟩ := HRB.out.at_ (by omega)
      cases e0
      have g0 := hcell (at_ + j) (by omega)
      rw [← Nat.add_assoc] at g0
      have hlenL := Hlen.out
      have hbt : bt (L.drop at_) j = bt L (at_ + j) := by unfold bt; rw [List.getD_eq_getElem?_getD, List.getElem?_drop, List.getD_eq_getElem?_getD]
      have hnx0 := numL_take (L.drop at_) j (by rw [List.length_drop]; omega)
      rw [hbt] at hnx0
      have hvb := HS.out j hlt
      clear hcell hlenL hbt
      obtain ⟨v, hv⟩ : ∃ v, v = numL ((L.drop at_).take j) := ⟨_, rfl⟩
      rw [← hv] at hvb hnx0 ⊢
      have HNx := Lib.hid hnx0
      clear hv hnx0
      have hor := or256 v (bt L (at_ + j)).toNat hvb (by have := bt_bd L (at_ + j); omega)
      have hbj : ((bt L (at_ + j)).toNat : Int) = bt L (at_ + j) := by have := bt_bd L (at_ + j); omega
      rw [hbj] at hor
      go_wp2_with (fail)
      go_roundw
      case rel => exact ⟨j + 1, by omega, by go_num, by rw [HNx.out]; congr 1, trivial⟩
      case measure => simp [intOf]; omega
    · obtain rfl : j = size := by omega
      go_wp2_with (fail)
      go_ret
      exact ⟨rfl, rfl⟩
theorem zB_num (a s : Nat) : numL ((zB.drop a).take s) = 0 := by
  unfold zB
  rw [List.drop_replicate, List.take_replicate]
  generalize min s (512 - a) = n
  induction n with
  | zero => rfl
  | succ n ih =>
    rw [List.replicate_succ', numL_snoc, ih]
    rfl
set_option maxHeartbeats 1000000 in
set_option maxRecDepth 100000 in
theorem read_fresh (N : Nat) (a : Option Addr) (c : Nat) (t : Int) (w : World) (hr : RB N w a 512 c zB) :
    Calls Tryz.prog 72 #[.slice a 512 c, .int .i64 0, .int .i64 t] w fun e w' => e = .returned (.tuple #[.pointer none, .bool false]) ∧ Below w.heap.size w w' := by
  obtain ⟨b, o, rfl, -, -⟩ := hr.at_ (by have := hr.le; omega)
  have G : ∀ (x s : Nat), x + s ≤ 512 → 0 < s → Calls Tryz.prog 121 #[.slice (some ⟨b, o, none⟩) 512 c, .int .i64 x, .int .i64 s] w fun e w' => e = .returned (.int .i64 0) ∧ w' = w := fun x s h1 h2 => by
    have := get_any N b o 512 c zB x s w hr h1 (Nat.le_refl _) h2 (fun j _ => by rw [zB_num]; omega)
    rw [zB_num] at this
    exact this
  have G1 : Hid (Calls Tryz.prog 121 #[.slice (some ⟨b, o, none⟩) 512 c, .int .i64 0, .int .i64 8] w fun e w' => e = .returned (.int .i64 0) ∧ w' = w) := Lib.hid (G 0 8 (by omega) (by omega))
  have G2 : Hid (Calls Tryz.prog 121 #[.slice (some ⟨b, o, none⟩) 512 c, .int .i64 8, .int .i64 4] w fun e w' => e = .returned (.int .i64 0) ∧ w' = w) := Lib.hid (G 8 4 (by omega) (by omega))
  have G3 : Hid (Calls Tryz.prog 121 #[.slice (some ⟨b, o, none⟩) 512 c, .int .i64 12, .int .i64 2] w fun e w' => e = .returned (.int .i64 0) ∧ w' = w) := Lib.hid (G 12 2 (by omega) (by omega))
  have G4 : Hid (Calls Tryz.prog 121 #[.slice (some ⟨b, o, none⟩) 512 c, .int .i64 14, .int .i64 2] w fun e w' => e = .returned (.int .i64 0) ∧ w' = w) := Lib.hid (G 14 2 (by omega) (by omega))
  clear G hr
  go_enter Tryz.func72, Tryz.ntmps72
  go_wp2_with (go_at_call 121; (first | (with_reducible refine G1.out.mono ?_) | (with_reducible refine G2.out.mono ?_) | (with_reducible refine G3.out.mono ?_) | (with_reducible refine G4.out.mono ?_)); rintro e w1 ⟨rfl, hw1⟩; subst hw1)
  go_ret2
  exact ⟨rfl, (Below.refl _ _).alloc (Nat.le_refl _) _⟩
end Go.Proofs.YtohlkkannjifmaaGreatDoor
