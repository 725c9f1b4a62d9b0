/- The disk: Write. The disk: Sync. -/
import Derived.Test.YtohlkkannjifmaaGreatDoorODsk2
import Derived.StillTailTactics
import Derived.Laws.Cover3
namespace Go.Proofs.YtohlkkannjifmaaGreatDoor
open Go.RowKit
theorem RB.range {B : Nat} {w : World} {b o n c : Nat} {l : List UInt8} (h : RB B w (some ⟨b, o, none⟩) n c l) (hc : 0 < c) : w.rangeAt b o (cellsB l).toList := fun j v hj => by
  obtain ⟨b', o', e, hB, hcell⟩ := h.at_ hc
  cases e
  have hl := h.len
  unfold cellsB at hj
  have hjl : j < l.length := by
    have := (List.getElem?_eq_some_iff.1 hj).1
    simpa using this
  rw [hcell j (by omega), ← hj]
  simp only [List.getElem?_map, List.getElem?_eq_getElem hjl, Option.map_some, bt, bv, List.getD_eq_getElem?_getD, Option.getD_some]
theorem still_load_run {op : Oper} {a : Act} {w : World} {K : Act → Prop} {t : TypeId} {p v : Value} (hrun : (Instr.loadAt t p).run Tryz.prog w = .ok v w) (x : Operand) (ho : op.op = .load t x) (hx : a.eval x = p) (h : K (a.put op.dst v)) : op.still Tryz.prog a w K := by
  unfold Oper.still execOp
  simp only [ho, hx, Sem.run_bind, Sem.run_pure, Result.andThen_ok, hrun]
  exact ⟨rfl, h⟩
theorem DiskR.putMap {w w2 : World} {d s o k ks ko : Nat} {K : DK} (h : DiskR w d s o k K) (i : Int) (l : List UInt8) (hl : l.length = 512) {f f' : Int → Value} {g g' : Int → Bool} (h0 : ks + ko ≤ k) (h1 : MH w s ks (arrV zB) f g) (h2 : ∀ i, f i = arrV (K.sf i))
    (hm : MH w2 o (ko + 1) (arrV zB) (updV f' i (arrV l)) (fun x => if x = i then true else g' x)) (hg : w.drew.grownBy w2 (some o)) (hg' : ∀ j, (K.op j).isSome = g' j) (hf' : ∀ j l, K.op j = some l → f' j = arrV l) : DiskR w2 d s o (k + 1) (K.put i l) := by
  refine ⟨(hg.block d (h.lt (.inl rfl)) (fun e => by cases e; exact h.od rfl)).trans h.blk, ⟨ks, ko + 1, f, g, _, _, by omega, h1.block (hg.block s (h.lt (.inr (.inl rfl))) (fun e => by cases e; exact h.so rfl)), h2, hm, fun j => ?_, fun j l' e => ?_⟩, h.ok.put i hl, h.sd, h.od, h.so⟩
  · show (if j = i then some l else K.op j).isSome = _
    by_cases e : j = i
    · rw [if_pos e, if_pos e]; rfl
    · rw [if_neg e, if_neg e]; exact hg' j
  · have e' : (if j = i then some l else K.op j) = some l' := e
    unfold updV
    by_cases e2 : j = i
    · rw [if_pos e2] at e' ⊢; cases e'; rfl
    · rw [if_neg e2] at e' ⊢; exact hf' j l' e'
set_option maxRecDepth 100000 in
set_option maxHeartbeats 1000000 in
theorem dwrite_any (d s o k B : Nat) (K : DK) (i : Int) (a : Option Addr) (n c : Nat) (l : List UInt8) (w : World) (h : DiskR w d s o k K) (hb : RB B w a n c l) (hi1 : -9223372036854775808 ≤ i) (hi2 : i ≤ 9223372036854775807) (hk : k < 9223372036854775807) :
    Calls Tryz.prog 116 #[.pointer (some ⟨d, 0, none⟩), .int .i64 i, .slice a n c] w fun e w' =>
      e = .returned (.int .i64 (K.write i l).1) ∧ DiskR w' d s o (k + 1) (K.write i l).2 ∧ Trn (DB d s o) w w' := by
  have HM := Lib.hid (may_any d s o k K i w h)
  have H := Lib.hid h
  have hl := hb.len
  by_cases hm : K.may i = 0
  · by_cases h5 : l.length = 512
    · have hn : n = 512 := by omega
      subst hn
      obtain ⟨b, off, rfl, hbB, -⟩ := hb.at_ (by have := hb.le; omega)
      have e3 : K.write i l = (if (K.put i l).crash.down then 8 else 0, (K.put i l).crash) := by
        unfold DK.write
        rw [if_neg (by omega), if_neg (by omega)]
      rw [e3]
      obtain ⟨r, hr8⟩ : ∃ r : Int, r = (if (K.put i l).crash.down then 8 else 0) := ⟨_, rfl⟩
      rw [← hr8]
      have HR := Lib.hid hr8
      clear hr8
      have c2 : w.drew.cell? ⟨d, 2, none⟩ = some (.map (some o)) := h.cell (i := 2) rfl
      have hr := hb.range (by have := hb.le; omega)
      have hld := run_loadAt_mid (P := Tryz.prog) w.drew b off 163 (cellsB l).toList (.array 512 5) ((World.rangeAt_drew ..).2 hr) Tryz.underlying163 rfl (by rw [Array.length_toList, cellsB_size, h5]; exact size_sector)
      simp only [Array.toArray_toList] at hld
      have hat : (Instr.arrayAt 163 (.slice (some ⟨b, off, none⟩) 512 c)).run Tryz.prog w.drew = .ok (.pointer (some ⟨b, off, none⟩)) w.drew := run_arrayAt _ _ _ _ _ _ _ Tryz.underlying163 (Nat.le_refl _)
      rw [hm] at HM
      clear h hb hm hr hl e3
      go_enter Tryz.func116, Tryz.ntmps116
      go_upto_region 6 with (first | (go_at_call 80; refine HM.out.mono ?_; rintro e w1 ⟨rfl, hw1⟩; replace hw1 := hw1.symm; subst hw1))
      refine wp_region_still_tail 8 (by kernel_rfl) (by kernel_rfl) ?_
      simp only [List.take_succ_cons, List.take_zero, List.drop_succ_cons, List.drop_zero]
      change wpStill _ _ (World.drew _) _ _ _
      iterate 7 still_step
      refine wpStill_step (fun K hK => ?_)
      rw [if_pos (by rfl)]
      refine still_load_run hld _ rfl rfl (hK _ ?_)
      clear hK K
      refine wpStill_nil ?_
      obtain ⟨ks, ko, f, g, f', g', h0, hms, hf, hmo, hg', hf'⟩ := H.out.mm
      refine wpList_put_mh rfl _ _ _ _ rfl Tryz.underlying148 (hmo.block (w' := w.drew) rfl) (by omega) i (arrV l) rfl rfl rfl hi1 hi2 ?_
      intro w2 hm2 hg2
      have D2 := Lib.hid (H.out.putMap i l h5 h0 hms hf hm2 hg2 hg' hf')
      have T2 := Lib.hid (((Trn.refl (DB d s o) w).drew).grown hg2 (fun j e => by cases e; exact .inl (.inr (.inr rfl))))
      have HC := Lib.hid (crash_any d s o (k + 1) _ w2 D2.out)
      clear hm2 hg2 hms hf hmo hg' hf' h0 HM c2 hld H
      obtain ⟨dn, hdn⟩ : ∃ dn, dn = (K.put i l).crash.down := ⟨_, rfl⟩
      rw [← hdn] at HC
      have HD := Lib.hid hdn
      clear hdn
      cases dn with
      | true =>
        go_wp2_with (go_at_call 118; refine HC.out.mono ?_; rintro e w3 ⟨rfl, hd3, ht3⟩; have D3 := Lib.hid hd3; have T3 := Lib.hid (T2.out.trans ht3 (fun j e => .inl (.inl e))); clear hd3 ht3)
        go_ret
        exact ⟨by rw [HR.out, ← HD.out]; rfl, D3.out, T3.out⟩
      | false =>
        go_wp2_with (go_at_call 118; refine HC.out.mono ?_; rintro e w3 ⟨rfl, hd3, ht3⟩; have D3 := Lib.hid hd3; have T3 := Lib.hid (T2.out.trans ht3 (fun j e => .inl (.inl e))); clear hd3 ht3)
        go_ret
        exact ⟨by rw [HR.out, ← HD.out]; rfl, D3.out, T3.out⟩
    · have e3 : K.write i l = (2, K) := by
        unfold DK.write
        rw [if_neg (by omega), if_pos h5]
      rw [e3]
      have e5 : ((n : Int) == 512) = false := by simp; omega
      rw [hm] at HM
      clear h hb hm hl e3
      go_enter Tryz.func116, Tryz.ntmps116
      go_wp2_with (go_at_call 80; refine HM.out.mono ?_; rintro e w1 ⟨rfl, hw1⟩; replace hw1 := hw1.symm; subst hw1)
      go_ret
      exact ⟨rfl, H.out.mono (by omega), Trn.refl _ _⟩
  · have e3 : K.write i l = (K.may i, K) := by
      unfold DK.write
      rw [if_pos hm]
    rw [e3]
    have e0 : (K.may i == 0) = false := by simpa using hm
    clear hm h hl hb e3
    generalize K.may i = m at *
    go_enter Tryz.func116, Tryz.ntmps116
    go_wp2_with (go_at_call 80; refine HM.out.mono ?_; rintro e w1 ⟨rfl, hw1⟩; replace hw1 := hw1.symm; subst hw1)
    go_ret
    exact ⟨rfl, H.out.mono (by omega), Trn.refl _ _⟩
end Go.Proofs.YtohlkkannjifmaaGreatDoor
namespace Go.Proofs.YtohlkkannjifmaaGreatDoor
open Go.RowKit
def SyncR (w0 w : World) (d s o r k : Nat) (K : DK) : Prop :=
  w.heap[d]? = some (.cells #[.int .i64 K.n, .map (some s), .map (some o), .int .i64 K.armed, .bool K.down] 150 (0, 0)) ∧ Trn (DB d s o) w0 w ∧ w0.heap.size ≤ r ∧
  ∃ ks ko cnt f f' g g' lf, ks + cnt ≤ k ∧ MH w s ks (arrV zB) f g ∧ MR w o r ko (arrV zB) f' g' lf cnt ∧ (∀ i, (K.op i).isSome = g' i) ∧ (∀ i l, K.op i = some l → f' i = arrV l) ∧ (∀ i, lf i = true → g' i = true) ∧
    ∀ i, f i = arrV (if lf i then K.sf i else K.latest i)
theorem load_sec {W : World} {g : Nat} {l : List UInt8} (h : W.heap[g]? = some (.cells (cellsB l) 163 (0, 0))) (hl : l.length = 512) : (Instr.loadAt 163 (.pointer (some ⟨g, 0, none⟩))).run Tryz.prog W = .ok (arrV l) W := by
  simp only [Instr.loadAt, Instr.sureAddr, Sem.run_bind, Sem.run_pure, Result.andThen]
  exact run_loadVar_row W g _ _ (cellsB l) (0, 0) _ h Tryz.underlying163 rfl (by rw [cellsB_size, hl]; exact size_sector)
theorem sync_round (w w3 : World) (d s o _r : Nat) (K : DK) (l : List UInt8) (hl : l.length = 512) (hb : w3.heap[d]? = some (.cells #[.int .i64 K.n, .map (some s), .map (some o), .int .i64 K.armed, .bool K.down] 150 (0, 0))) (ht : Trn (DB d s o) w w3) :
    (Instr.storeAt 163 (.pointer (some ⟨w3.heap.size, 0, none⟩)) (arrV l)).run Tryz.prog (w3.alloc (.cells (cellsB zB) 163)) = .ok () (w3.alloc (.cells (cellsB l) 163)) ∧
    (w3.alloc (.cells (cellsB l) 163)).drew.cell? ⟨d, 1, none⟩ = some (.map (some s)) ∧
    (Instr.loadAt 163 (.pointer (some ⟨w3.heap.size, 0, none⟩))).run Tryz.prog (w3.alloc (.cells (cellsB l) 163)).drew = .ok (arrV l) (w3.alloc (.cells (cellsB l) 163)).drew ∧
    (w3.alloc (.cells (cellsB l) 163)).drew.heap[d]? = some (.cells #[.int .i64 K.n, .map (some s), .map (some o), .int .i64 K.armed, .bool K.down] 150 (0, 0)) ∧
    (∀ i, i < w3.heap.size → (w3.alloc (.cells (cellsB l) 163)).drew.heap[i]? = w3.heap[i]?) ∧ Trn (DB d s o) w (w3.alloc (.cells (cellsB l) 163)).drew := by
  have hd := (Array.getElem?_eq_some_iff.1 hb).1
  have hh : ∀ i, i < w3.heap.size → (w3.alloc (.cells (cellsB l) 163)).drew.heap[i]? = w3.heap[i]? := fun i hi => (Go.MapKept.heap_alloc w3 _).2 i hi
  have hb' := (hh d hd).trans hb
  exact ⟨run_storeAt_new (P := Tryz.prog) w3 163 (cellsB zB) (cellsB l) (by rw [cellsB_size, hl]; exact size_sector) (by rw [cellsB_size, cellsB_size, zB_len, hl]) (one_cellsB l), by simp [World.cell?, hb'],
    load_sec (heap_alloc_last w3 _) hl, hb', hh, (ht.alloc _).drew⟩
theorem SyncR.cells {w0 w : World} {d s o r k : Nat} {K : DK} (h : SyncR w0 w d s o r k K) : w.cell? ⟨d, 1, none⟩ = some (.map (some s)) ∧ w.cell? ⟨d, 2, none⟩ = some (.map (some o)) := by
  have hb := h.1
  constructor <;> simp [World.cell?, hb]
set_option maxRecDepth 100000 in
set_option maxHeartbeats 1000000 in
theorem sync_loop (d s o k : Nat) (K : DK) (w : World) (h : DiskR w d s o k K) (hk : k < 9223372036854775807) (hm : K.may 0 = 0) (hn : K.crash.down = false) :
    Calls Tryz.prog 63 #[.pointer (some ⟨d, 0, none⟩)] w fun e w' => e = .returned (.int .i64 0) ∧ DiskR w' d s o k K.crash.shut ∧ Trn (DB d s o) w w' := by
  have Hlt := Lib.hid (fun i (hi : DB d s o i) => h.lt hi)
  have HM := Lib.hid (may_any d s o k K 0 w h)
  have HC := Lib.hid (crash_any d s o k K w h)
  rw [hm] at HM
  rw [hn] at HC
  have hz := zero_sector
  clear hm hn
  simp only [arrV] at hz
  go_enter Tryz.func63, Tryz.ntmps63
  go_upto_region 6 with (first | (go_at_call 80; refine HM.out.mono ?_; rintro e w1 ⟨rfl, hw1⟩; replace hw1 := hw1.symm; subst hw1) | (go_at_call 118; refine HC.out.mono ?_; rintro e w1 ⟨rfl, hd1, ht1⟩; have D1 := Lib.hid hd1; have T1 := Lib.hid (ht1.mono (T := DB d s o) fun i e => .inl (.inl e)); clear hd1 ht1))
  obtain ⟨K1, hK1⟩ : ∃ K1, K1 = K.crash := ⟨_, rfl⟩
  rw [← hK1] at D1
  have HK := Lib.hid hK1
  clear hK1
  have c2 : w1.cell? ⟨d, 2, none⟩ = some (.map (some o)) := D1.out.cell (i := 2) rfl
  obtain ⟨ks, ko, f, g, f', g', h0, hms, hf, hmo, hg', hf'⟩ := D1.out.mm
  have HMs := Lib.hid hms
  have Hf := Lib.hid hf
  have HMo := Lib.hid hmo
  have Hg' := Lib.hid hg'
  have Hf' := Lib.hid hf'
  clear hms hf hmo hg' hf' HM HC h
  go_wp2_with (first | (at_range; refine wpList_range_mh rfl _ _ rfl Tryz.underlying148 HMo.out rfl ?_; intro w2 cnt hc2 hr2 hg2 hs2))
  have HS : Hid (SyncR w w2 d s o w1.heap.size k K1) := Lib.hid ⟨(hg2.block d (D1.out.lt (.inl rfl)) (by simp)).trans D1.out.blk, T1.out.grown hg2 (by simp), T1.out.size, ks, ko, cnt, f, f', g, g', g', by omega, HMs.out.block (hg2.block s (D1.out.lt (.inr (.inl rfl))) (by simp)), hr2, Hg'.out, Hf'.out, fun _ h => h, fun i => by
    rw [Hf.out i]
    cases hgi : g' i with
    | true => rfl
    | false =>
      have := Hg'.out i
      rw [hgi] at this
      rw [if_neg (by simp)]
      unfold DK.latest
      have e9 : K1.op i = none := by simpa using this
      rw [e9]
      rfl⟩
  clear hc2 hr2 hg2 hs2 HMs Hf HMo Hg' Hf' h0
  generalize w1.heap.size = r at *
  have Hdo := Lib.hid (⟨D1.out.sd, D1.out.od, D1.out.so⟩ : s ≠ d ∧ o ≠ d ∧ s ≠ o)
  have Hok := Lib.hid D1.out.ok
  clear D1 T1 c2
  clear w1
  go_frame
  go_loopw [] (fun wr => Hid (SyncR w wr d s o r k K1)) (fun wr => wr.rangeLeft o r)
  case atStart => exact HS
  case round =>
    obtain ⟨hb, ht, hr0, ks, ko, cnt, f, f', g, g', lf, hkc, hms, hmr, hg', hf', hlf, hf⟩ := hrel.out
    have c2 := hrel.out.cells.2
    rcases hmr.next 0 with ⟨hl, hrun⟩ | ⟨x, w3, cnt3, hx1, hx2, hlx, hrun, hr3, hlt, hg3, hs3, hen⟩
    · obtain ⟨w4, hcl, hmc, hgc⟩ := hmr.mh.clear Tryz.underlying148 0
      have HT := Lib.hid (ht.grown hgc (fun j e => by cases e; exact .inl (.inr (.inr rfl))))
      have HD : Hid (DiskR w4 d s o k K1.shut) := Lib.hid ⟨(hgc.block d (by have := (Array.getElem?_eq_some_iff.1 hb).1; exact this) (fun e => by cases e; exact Hdo.out.2.1 rfl)).trans hb, ⟨ks, 0, f, g, _, _, by omega, hms.block (hgc.block s hms.lt (fun e => by cases e; exact Hdo.out.2.2 rfl)), fun i => by rw [hf i, hl i]; rfl, hmc, fun i => rfl, fun i l e => by cases e⟩, Hok.out.shut, Hdo.out.1, Hdo.out.2.1, Hdo.out.2.2⟩
      clear hb ht hr0 hkc hms hmr hg' hf' hlf hf hl hmc hgc hrel
      go_wp2_with (fail)
      go_ret
      exact ⟨rfl, by rw [← HK.out]; exact HD.out, HT.out⟩
    · obtain ⟨l, hl⟩ : ∃ l, K1.op x = some l := Option.isSome_iff_exists.1 (by rw [hg']; exact hlf x hlx)
      have hfx := hf' x l hl
      have hl5 := Hok.out.ol x l hl
      rw [hfx] at hrun hen
      have hdS := Hlt.out d (.inl rfl)
      have hsS := Hlt.out s (.inr (.inl rfl))
      have hoS := Hlt.out o (.inr (.inr rfl))
      have hw3 := ht.size
      obtain ⟨hst, hc1, hld, hW4, hg4, hT4⟩ := sync_round w w3 d s o r K1 l hl5 ((hg3.block d (by omega) (fun e => by cases e; omega)).trans hb) (ht.grown hg3 (fun j e => by cases e; exact .inr hr0))
      have hm4 : MH (w3.alloc (.cells (cellsB l) 163)).drew s ks (arrV zB) f g := (hms.block (hg3.block s (by omega) (fun e => by cases e; omega))).block (hg4 s (by omega))
      have hr4 : MR (w3.alloc (.cells (cellsB l) 163)).drew o r ko (arrV zB) f' g' (fun i => lf i && !decide (i = x)) cnt3 := hr3.alloc _
      have Hm4 := Lib.hid hm4
      have Hr4 := Lib.hid hr4
      have HW4 := Lib.hid hW4
      have HT4 := Lib.hid hT4
      have Hn := Lib.hid (⟨hkc, hlt, hmr.left_eq, hg', hf', hlf, hf, hl⟩ : ks + cnt ≤ k ∧ cnt3 < cnt ∧ wr.rangeLeft o r = cnt ∧ (∀ i, (K1.op i).isSome = g' i) ∧ (∀ i l, K1.op i = some l → f' i = arrV l) ∧ (∀ i, lf i = true → g' i = true) ∧ (∀ i, f i = arrV (if lf i then K1.sf i else K1.latest i)) ∧ K1.op x = some l)
      clear hkc hlt hmr hg' hf' hlf hf hl hm4 hr4 hW4 hT4 hg4 hms hr3 hg3 hs3 hrel hb ht hfx hl5 hlx hw3 c2
      simp only [arrV] at hrun hen hst hld
      go_upto_region 9 with (first | refine wpList_store_run hst rfl _ _ rfl rfl rfl ?_)
      refine wp_region_still_tail 6 (by kernel_rfl) (by kernel_rfl) ?_
      simp only [List.take_succ_cons, List.take_zero, List.drop_succ_cons, List.drop_zero]
      change wpStill _ _ (World.drew _) _ _ _
      iterate 5 still_step
      refine wpStill_step (fun K hK => ?_)
      rw [if_pos (by rfl)]
      refine still_load_run hld _ rfl rfl (hK _ ?_)
      clear hK K
      refine wpStill_nil ?_
      refine wpList_put_mh rfl _ _ _ _ rfl Tryz.underlying148 Hm4.out (by have := Hn.out.1; omega) x (arrV l) rfl rfl rfl hx1 hx2 ?_
      intro w5 hm5 hg5
      have HN : Hid (SyncR w w5 d s o r k K1 ∧ w5.rangeLeft o r < wr.rangeLeft o r) := Lib.hid (by
        obtain ⟨n1, n2, n3, n4, n5, n6, n7, n8⟩ := Hn.out
        have hr5 := Hr4.out.kept hg5 (fun e => Hdo.out.2.2 (Option.some.inj e).symm) (fun e => by cases e; omega)
        have hdl : d < (w3.alloc (.cells (cellsB l) 163)).drew.heap.size := (Array.getElem?_eq_some_iff.1 HW4.out).1
        refine ⟨⟨(hg5.block d hdl (fun e => by cases e; exact Hdo.out.1 rfl)).trans HW4.out, HT4.out.grown hg5 (fun j e => by cases e; exact .inl (.inr (.inl rfl))), hr0, ks + 1, ko, cnt3, _, f', _, g', _, by omega, hm5, hr5, n4, n5, fun i hi => n6 i (by simp only [Bool.and_eq_true] at hi; exact hi.1), fun i => ?_⟩, by rw [hr5.left_eq, n3]; exact n2⟩
        by_cases e : i = x
        · subst e
          have e2 : K1.latest i = l := by unfold DK.latest; rw [n8]; rfl
          simp [updV, e2]
        · simp only [updV, if_neg e, n7 i, decide_eq_false e, Bool.not_false, Bool.and_true])
      clear hm5 hg5 hrun hen hst hc1 hld Hm4 Hr4 HW4 HT4 Hn
      go_wp2_with (fail)
      go_roundw
      case rel => exact ⟨_, _, _, _, _, _, _, _, _, _, _, _, _, Lib.hid HN.out.1, rfl⟩
      case measure => exact HN.out.2
theorem sync_any (d s o k : Nat) (K : DK) (w : World) (h : DiskR w d s o k K) (hk : k < 9223372036854775807) :
    Calls Tryz.prog 63 #[.pointer (some ⟨d, 0, none⟩)] w fun e w' => e = .returned (.int .i64 K.sync.1) ∧ DiskR w' d s o k K.sync.2 ∧ Trn (DB d s o) w w' := by
  have HM := Lib.hid (may_any d s o k K 0 w h)
  by_cases hm : K.may 0 = 0
  · cases hn : K.crash.down with
    | false =>
      have e : K.sync = (0, K.crash.shut) := by unfold DK.sync; rw [if_neg (by omega), hn]; rfl
      rw [e]
      exact sync_loop d s o k K w h hk hm hn
    | true =>
      have e : K.sync = (8, K.crash) := by unfold DK.sync; rw [if_neg (by omega), hn]; rfl
      rw [e]
      have HC := Lib.hid (crash_any d s o k K w h)
      rw [hn] at HC
      rw [hm] at HM
      clear e hn hm h
      go_enter Tryz.func63, Tryz.ntmps63
      go_wp2_with (first | (go_at_call 80; refine HM.out.mono ?_; rintro e w1 ⟨rfl, hw1⟩; replace hw1 := hw1.symm; subst hw1) | (go_at_call 118; refine HC.out.mono ?_; rintro e w1 ⟨rfl, hd1, ht1⟩; have D1 := Lib.hid hd1; have T1 := Lib.hid (ht1.mono (T := DB d s o) fun i e => .inl (.inl e)); clear hd1 ht1))
      go_ret
      exact ⟨rfl, D1.out, T1.out⟩
  · have e : K.sync = (K.may 0, K) := by unfold DK.sync; rw [if_pos hm]
    rw [e]
    have H := Lib.hid h
    have e0 : (K.may 0 == 0) = false := by simpa using hm
    clear hm h e
    generalize K.may 0 = m at *
    go_enter Tryz.func63, Tryz.ntmps63
    go_wp2_with (go_at_call 80; refine HM.out.mono ?_; rintro e w1 ⟨rfl, hw1⟩; replace hw1 := hw1.symm; subst hw1)
    go_ret
    exact ⟨rfl, H.out, Trn.refl _ _⟩
end Go.Proofs.YtohlkkannjifmaaGreatDoor
