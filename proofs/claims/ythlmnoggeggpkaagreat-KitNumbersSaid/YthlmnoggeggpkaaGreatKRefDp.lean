/- storemanref07.Within: its walk. storemanref07.Deep: its walk. -/
import Derived.Test.YthlmnoggeggpkaaGreatKRefTop
namespace Go.Proofs.YthlmnoggeggpkaaGreat
open Go.RowKit

/-- A whole block of marks. -/
def BI (W : World) (g n : Nat) (f : Nat → Bool) : Prop := W.heap[g]? = some (.cells ((List.range n).map fun i => Value.bool (f i)).toArray 4 (0, 0))
theorem BI.lt {W : World} {g n : Nat} {f : Nat → Bool} (h : BI W g n f) : g < W.heap.size := (Array.getElem?_eq_some_iff.1 h).1
theorem BI.cell {W : World} {g n : Nat} {f : Nat → Bool} (h : BI W g n f) {i : Nat} (hi : i < n) : W.cell? ⟨g, i, none⟩ = some (.bool (f i)) := by
  have h' : W.heap[g]? = _ := h
  unfold World.cell?
  rw [h']
  simp [hi]
theorem BI.frozen {W : World} {g n : Nat} {f : Nat → Bool} (h : BI W g n f) (i : Nat) : W.frozen? ⟨g, i, none⟩ = false := by
  have h' : W.heap[g]? = _ := h
  simp [World.frozen?, h']
theorem BI.set {W : World} {g n : Nat} {f : Nat → Bool} (h : BI W g n f) (i : Nat) (v : Bool) : BI (W.setCell ⟨g, i, none⟩ (.bool v)) g n (setO f i v) := by
  have hb : W.heap[g]? = _ := h
  show (W.heap.modify g _)[g]? = _
  rw [Array.getElem?_modify, if_pos rfl, hb]
  simp only [Option.map_some, Option.isSome_none, Bool.false_eq_true, if_false]
  congr 2
  apply Array.ext'
  simp only [Array.toList_setIfInBounds]
  apply List.ext_getElem?
  intro k
  rw [List.getElem?_set]
  by_cases hk : k < n
  · by_cases e : i = k
    · subst e
      simp [setO, hk]
    · simp [setO, e, Ne.symm e, hk]
  · simp [hk]
    intro e1
    omega
theorem BI.block {W W' : World} {g n : Nat} {f : Nat → Bool} (h : BI W g n f) (hb : W'.heap[g]? = W.heap[g]?) : BI W' g n f := hb.trans h
theorem BI.congr {W : World} {g n : Nat} {f f' : Nat → Bool} (h : BI W g n f) (he : ∀ i, i < n → f i = f' i) : BI W g n f' := by
  unfold BI at h ⊢
  rw [h]
  congr 3
  apply List.map_congr_left
  intro i hi
  rw [he i (List.mem_range.1 hi)]
theorem infoB : (Tryz.prog.info? 4).map (fun i => (i.zero, i.size, i.bytes)) = some (some (.bool false), 1, 1) := by kernel_rfl
set_option maxRecDepth 100000 in
theorem makeB (n : Nat) (hn : n ≤ 100000) (W : World) : ∃ cs, (Instr.makeSlice 73 (.int .i64 (n : Int)) (.int .i64 (n : Int))).run Tryz.prog W = .ok (.slice (some ⟨W.heap.size, 0, none⟩) n n) (W.alloc (.cells cs 4)) ∧ BI (W.alloc (.cells cs 4)) W.heap.size n (fun _ => false) := by
  obtain ⟨i0, hi, hz0, hz1, hz2⟩ := info_parts infoB
  have hmk := run_make (P := Tryz.prog) W 73 4 i0 _ Tryz.underlying73 hi hz0 .i64 .i64 (n : Int) (n : Int) (by omega) (Int.le_refl _) (by rw [hz2]; omega) (by omega)
  rw [Int.toNat_natCast] at hmk
  refine ⟨_, hmk, ?_⟩
  unfold BI
  rw [heap_alloc_new]
  congr 2
  apply Array.ext'
  rw [hz1, Nat.mul_one]
  have h : (madeCells (Value.bool false).cells n).toList = List.replicate n (Value.bool false) := toList_madeCells_one _ _
  rw [h]
  simp [List.map_const']
/-! What is marked. -/
/-- All marked is within. -/
def MS (X : List It) (c : List UInt8) (b : List UInt8 → Bool) : Prop := b c = true ∧ ∀ s, b s = true → s ∈ codes X ∧ inX X c s
/-- So far down all is marked. -/
def CL (X : List It) (c : List UInt8) (r : Nat) (b : List UInt8 → Bool) : Prop := ∀ s ∈ codes X, inX X c s → tellX X c ≤ tellX X s + r → b s = true
theorem way_lower {X : List It} (hs : Sound X) {c s : List UInt8} (hc : c ∈ codes X) (h : Way (kidsX X) c s) : s ∈ codes X ∧ tellX X s < tellX X c := by
  induction h with
  | one hb => exact ⟨hs.kids c hc _ hb, tell_kid hs hc hb⟩
  | more _ hb ih =>
    have := tell_kid hs ih.1 hb
    exact ⟨hs.kids _ ih.1 _ hb, by omega⟩
theorem CL.zero {X : List It} (hs : Sound X) {c : List UInt8} (hc : c ∈ codes X) {b : List UInt8 → Bool} (h : b c = true) : CL X c 0 b := fun s _ hi ht => by
  rcases hi with rfl | hw
  · exact h
  · have := (way_lower hs hc hw).2
    omega
theorem CL.next {X : List It} (hs : Sound X) {c : List UInt8} (hc : c ∈ codes X) {r : Nat} {b0 b : List UInt8 → Bool} (h : CL X c r b0) (hm : ∀ s, b0 s = true → b s = true) (hk : ∀ i, i < X.length → b0 (cd X i) = true → ∀ p ∈ kidsX X (cd X i), b p = true) : CL X c (r + 1) b := fun s hsm hi ht => by
  have key : ∀ p, inX X c p → p ∈ codes X → s ∈ kidsX X p → b s = true := fun p hp hpm hsp => by
    have h1 := tell_kid hs hpm hsp
    have h2 := h p hpm hp (by omega)
    obtain ⟨i, hil, -, hci⟩ := there hpm
    exact hk i hil (by rw [hci]; exact h2) s (by rw [hci]; exact hsp)
  rcases hi with rfl | hw
  · exact hm _ (h _ hc (.inl rfl) (by omega))
  · cases hw with
    | one hb => exact key c (.inl rfl) hc hb
    | more hw hb => exact key _ (.inr hw) (way_lower hs hc hw).1 hb
theorem CL.all {X : List It} (hs : Sound X) {c : List UInt8} (hc : c ∈ codes X) {b : List UInt8 → Bool} (h : CL X c X.length b) (hm : MS X c b) : (codes X).filter b = withinL X c := by
  unfold withinL
  apply List.filter_congr
  intro s hsm
  rw [Bool.eq_iff_iff, @decide_eq_true_iff _ (Classical.propDecidable _)]
  refine ⟨fun hb => (hm.2 s hb).2, fun hi => h s hsm hi ?_⟩
  have h1 : tellX X c ≤ (codes X).length := hgt_le hs.kids hc (hs.hgt8 hc)
  have h2 : (codes X).length = X.length := by unfold codes; rw [List.length_map]
  omega
theorem MS.set {X : List It} (hs : Sound X) {c p s : List UInt8} {b : List UInt8 → Bool} (h : MS X c b) (hp : b p = true) (hk : s ∈ kidsX X p) : MS X c (setO b s true) := by
  refine ⟨?_, fun t ht => ?_⟩
  · unfold setO
    split
    · rfl
    · exact h.1
  · unfold setO at ht
    split at ht
    · rename_i e
      subst e
      obtain ⟨h1, h2⟩ := h.2 p hp
      refine ⟨hs.kids p h1 _ hk, ?_⟩
      rcases h2 with rfl | hw
      · exact .inr (.one hk)
      · exact .inr (.more hw hk)
    · exact h.2 t ht
theorem set_mono {b : List UInt8 → Bool} (s t : List UInt8) (h : b t = true) : setO b s true t = true := by
  unfold setO
  split
  · rfl
  · exact h
theorem set_self (b : List UInt8 → Bool) (s : List UInt8) : setO b s true s = true := by unfold setO; rw [if_pos rfl]
theorem BI.mark {X : List It} (hd : (codes X).Nodup) {W : World} {g n : Nat} (hn : n = X.length) {b : List UInt8 → Bool} (h : BI W g n (fun i => b (cd X i))) {i : Nat} (hi : i < n) {s : List UInt8} (hs : cd X i = s) : BI (W.setCell ⟨g, i, none⟩ (.bool true)) g n (fun i => setO b s true (cd X i)) :=
  (h.set i true).congr fun j hj => by
    unfold setO
    by_cases e : j = i
    · rw [if_pos e, if_pos (by rw [e]; exact hs)]
    · rw [if_neg e, if_neg (fun e2 => e (cd_inj hd (by omega) (by omega) (by rw [e2, hs])))]
/-- What stands in the rounds. -/
structure WR (X : List It) (c : List UInt8) (w : World) (g n r i : Nat) (b0 b : List UInt8 → Bool) (wr : World) : Prop where
  bi : BI wr g n (fun i => b (cd X i))
  ms : MS X c b
  cl : CL X c r b0
  mono : ∀ s, b0 s = true → b s = true
  kids : ∀ j, j < i → b0 (cd X j) = true → ∀ p ∈ kidsX X (cd X j), b p = true
  bel : Below w.heap.size w wr
  ge : w.heap.size ≤ g
theorem WR.mark {X : List It} (hs : Sound X) {c : List UInt8} {w wr : World} {g n r i ti : Nat} {b0 b : List UInt8 → Bool} (h : WR X c w g n r i b0 b wr) (hn : n = X.length) {p s : List UInt8} (hp : b p = true) (hk : s ∈ kidsX X p) (hti : ti < n) (hts : cd X ti = s) : WR X c w g n r i b0 (setO b s true) (wr.setCell ⟨g, ti, none⟩ (.bool true)) :=
  ⟨h.bi.mark hs.nd hn hti hts, h.ms.set hs hp hk, h.cl, fun t ht => set_mono s t (h.mono t ht), fun j hj hb q hq => set_mono s q (h.kids j hj hb q hq), h.bel.setCell (p := ⟨g, ti, none⟩) h.ge _, h.ge⟩
theorem WR.next {X : List It} {c : List UInt8} {w wr : World} {g n r i : Nat} {b0 b : List UInt8 → Bool} (h : WR X c w g n r i b0 b wr) (hk : b0 (cd X i) = true → ∀ p ∈ kidsX X (cd X i), b p = true) : WR X c w g n r (i + 1) b0 b wr :=
  ⟨h.bi, h.ms, h.cl, h.mono, fun j hj hb p hp => by
    by_cases e : j = i
    · subst e; exact hk hb p hp
    · exact h.kids j (by omega) hb p hp, h.bel, h.ge⟩
theorem WR.round {X : List It} (hs : Sound X) {c : List UInt8} (hc : c ∈ codes X) {w wr : World} {g n r : Nat} (hn : n = X.length) {b0 b : List UInt8 → Bool} (h : WR X c w g n r n b0 b wr) : WR X c w g n (r + 1) 0 b b wr :=
  ⟨h.bi, h.ms, h.cl.next hs hc h.mono (fun i hi hb => h.kids i (by omega) hb), fun _ hb => hb, fun j hj => absurd hj (Nat.not_lt_zero _), h.bel, h.ge⟩
/-- What stands in the last loop. -/
def WO (X : List It) (w : World) (g n : Nat) (b : List UInt8 → Bool) (v : Value) (i m : Nat) (wr : World) : Prop :=
  BI wr g n (fun i => b (cd X i)) ∧ m = (((codes X).take i).filter b).length ∧ wr.ownsRow w.heap.size 9 1 v m ((((codes X).take i).filter b).map encStr) ∧ Below w.heap.size w wr
theorem codes_take {X : List It} {i : Nat} (hi : i < X.length) : (codes X).take (i + 1) = (codes X).take i ++ [cd X i] := by
  unfold codes
  rw [← List.map_take, ← List.map_take, List.take_succ_eq_append_getElem hi, List.map_append]
  congr 1
  show [X[i].code] = [cd X i]
  unfold cd
  rw [List.getD_eq_getElem?_getD, List.getElem?_eq_getElem hi]
  rfl
theorem WO.skip {X : List It} {w : World} {g n : Nat} {b : List UInt8 → Bool} {v : Value} {i m : Nat} {wr : World} (h : WO X w g n b v i m wr) (hi : i < X.length) (hb : b (cd X i) = false) : WO X w g n b v (i + 1) m wr := by
  have e : ((codes X).take (i + 1)).filter b = ((codes X).take i).filter b := by
    rw [codes_take hi, List.filter_append]
    simp [hb]
  unfold WO at h ⊢
  rw [e]
  exact h
theorem WO.put {X : List It} {w : World} {g n : Nat} {b : List UInt8 → Bool} {v v' : Value} {i m : Nat} {wr w' : World} (h : WO X w g n b v i m wr) (hi : i < X.length) (hb : b (cd X i) = true) {o : Array Value} {t : TypeId}
    (ho : w'.ownsRow w.heap.size 9 1 v' (m + 1) ((((codes X).take i).filter b).map encStr ++ [encStr (cd X i)])) (hg : (wr.alloc (.cells o t)).grownBy w' v.ownBlock) : WO X w g n b v' (i + 1) (m + 1) w' := by
  have e : ((codes X).take (i + 1)).filter b = ((codes X).take i).filter b ++ [cd X i] := by
    rw [codes_take hi, List.filter_append]
    simp [hb]
  obtain ⟨h1, h2, h3, h4⟩ := h
  have hb2 : Below wr.heap.size wr (wr.alloc (.cells o t)) := (Below.refl _ wr).alloc (Nat.le_refl _) _
  have h3' := Tx.rows_below h3 hb2
  have hne : ∀ k, v.ownBlock = some k → k ≠ g := fun k hk e2 => by
    obtain ⟨cur, hc⟩ := Tx.row_is h3 hk
    have h5 : wr.heap[g]? = _ := h1
    rw [e2, h5] at hc
    injection hc with hc
    injection hc with _ hc _
    exact absurd hc (by decide)
  have hglt := BI.lt h1
  refine ⟨h1.block ((hg.block g (by rw [World.size_alloc]; omega) (fun e2 => hne g e2.symm rfl)).trans (hb2.block g hglt)), by rw [e, List.length_append, ← h2]; rfl, ?_, (h4.trans (hb2.mono h4.size)).grown hg (h4.trans (hb2.mono h4.size)).size (fun k hk => (Tx.rows_ge h3' k hk).1)⟩
  rw [e, List.map_append]
  exact ho

set_option maxHeartbeats 8000000 in
set_option maxRecDepth 100000 in
theorem rWithin_any (B : Nat) (a : Option Addr) (n cp : Nat) (X : List It) (c : List UInt8) (w : World) (hr : RI B w a n cp X) (hB : B ≤ w.heap.size) (hc : c.length ≤ 9223372036854775807) :
    Calls Tryz.prog 16 #[.slice a n cp, .string ⟨c.toArray⟩] w fun e w' => Below w.heap.size w w' ∧ ∃ v, e = .returned v ∧ (¬ (chkE X = 0 ∧ c ∈ codes X) → v = .slice none 0 0) ∧ (chkE X = 0 → c ∈ codes X → w'.ownsRow w.heap.size 9 1 v (withinL X c).length ((withinL X c).map encStr)) := by
  have HR := Lib.hid hr
  have HCK := Lib.hid (rCheck_any B a n cp X w hr hB)
  have HFD := Lib.hid (fun w' (hb : Below w.heap.size w w') (s : List UInt8) (hs : s.length ≤ 9223372036854775807) => Find_any B a n cp X s w' (hr.below (hb.mono hB)) (Nat.le_trans hB hb.size) hs)
  have HCL := Lib.hid hc
  have hle := hr.le
  have hmx := hr.mx
  clear hr hc
  go_enter Tryz.func16, Tryz.ntmps16
  go_wp2_with (fail)
  go_at_call 38
  refine HCK.out.mono ?_
  rintro e w1 ⟨rfl, hb1⟩
  have HB1 := Lib.hid hb1
  clear hb1 HCK
  by_cases h0 : chkE X = 0
  · rw [h0]
    have H0 := Lib.hid h0
    have HS := Lib.hid (sound_of h0)
    clear h0
    have HFW := Lib.hid (HFD.out w1 HB1.out c HCL.out)
    by_cases hcc : c ∈ codes X
    · obtain ⟨t0, ht0, hft, hct⟩ := there hcc
      rw [hft] at HFW
      have HCC := Lib.hid hcc
      have HN := Lib.hid HR.out.len
      have hn60 : n ≤ 60 := by rw [HN.out]; exact HS.out.len
      have i0 : decide ((t0 : Int) < 0) = false := decide_eq_false (by omega)
      have i1 : (0 : Int) ≤ (t0 : Int) := by omega
      have i2 : (t0 : Int) < (n : Int) := by rw [HN.out]; omega
      obtain ⟨cs, hmk, hbi⟩ := makeB n (by omega) w1
      obtain ⟨W2, hW2⟩ : ∃ W, W = w1.alloc (.cells cs 4) := ⟨_, rfl⟩
      rw [← hW2] at hmk hbi
      have hb2 : Below w.heap.size w W2 := by rw [hW2]; exact HB1.out.alloc HB1.out.size _
      have HFW2 := Lib.hid (HFD.out W2 hb2 c HCL.out)
      rw [hft] at HFW2
      obtain ⟨g, hg⟩ : ∃ g, g = w1.heap.size := ⟨_, rfl⟩
      rw [← hg] at hmk hbi
      have hcell := hbi.cell (i := t0) (by omega)
      have hfz := hbi.frozen t0
      have hstart : WR X c w g n 0 0 (setO (fun _ => false) c true) (setO (fun _ => false) c true) (W2.setCell ⟨g, t0, none⟩ (.bool true)) := by
        refine ⟨(show BI W2 g n (fun i => (fun _ => false) (cd X i)) from hbi).mark HS.out.nd HN.out (by omega) hct, ⟨set_self _ _, fun s hs => ?_⟩, CL.zero HS.out hcc (set_self _ _), fun _ h => h, fun j hj => absurd hj (Nat.not_lt_zero _), hb2.setCell (p := ⟨g, t0, none⟩) (by rw [hg]; exact HB1.out.size) _, by rw [hg]; exact HB1.out.size⟩
        unfold setO at hs
        split at hs
        · rename_i e
          subst e
          exact ⟨hcc, .inl rfl⟩
        · cases hs
      have HST := Lib.hid hstart
      clear hstart hb2 hbi hct hft ht0 hcc hW2 hg
      go_wp2_with (first | (go_at_call 40; first | (with_reducible refine HFW.out.mono ?_; rintro e w9 ⟨rfl, rfl⟩) | (with_reducible refine HFW2.out.mono ?_; rintro e w9 ⟨rfl, rfl⟩)))
      go_loopw [6] (fun s6 wr => ∃ (r : Nat) (b : List UInt8 → Bool), r ≤ n ∧ s6 = .int .i64 r ∧ Hid (WR X c w g n r 0 b b wr)) (fun s6 _ => n - (intOf s6).toNat)
      case atStart => exact ⟨0, _, by omega, rfl, HST⟩
      case round =>
        clear hcell hfz HST hmk HFW HFW2
        obtain ⟨r, b0, hrn, rfl, HWR⟩ := hrel
        by_cases hlt : r < n
        · have t1 : decide ((r : Int) < (n : Int)) = true := by simp; omega
          have f1 : IntKind.i64.wrap ((r : Int) + 1) = ((r + 1 : Nat) : Int) := by rw [wrap_in (by omega) (by omega)]; omega
          go_wp2_with (fail)
          go_loopw [7] (fun s7 wr => ∃ (i : Nat) (b : List UInt8 → Bool), i ≤ n ∧ s7 = .int .i64 i ∧ Hid (WR X c w g n r i b0 b wr)) (fun s7 _ => n - (intOf s7).toNat)
          case atStart => exact ⟨0, b0, by omega, rfl, HWR⟩
          case round =>
            clear HWR
            obtain ⟨i, b, hin, rfl, HWI⟩ := hrel
            by_cases hli : i < n
            · have t2 : decide ((i : Int) < (n : Int)) = true := by simp; omega
              have f2 : IntKind.i64.wrap ((i : Int) + 1) = ((i + 1 : Nat) : Int) := by rw [wrap_in (by omega) (by omega)]; omega
              have q0 : (0 : Int) ≤ (i : Int) := by omega
              have q1 : (i : Int) < (n : Int) := by omega
              obtain ⟨xb, xo, ha, hxB, hok, -, -, -, -⟩ := HR.out.item (i := i) hli
              subst ha
              obtain ⟨x, hx⟩ : ∃ x, x = X.getD i default := ⟨_, rfl⟩
              rw [← hx] at hok
              have hkd := kids_cd HS.out.nd (i := i) (by rw [← HN.out]; exact hli)
              rw [← hx] at hkd
              have HKD := Lib.hid hkd
              have HX := Lib.hid hx
              have hpl := hok.rp.le
              have hpm := hok.rp.mx
              obtain ⟨np, hnp⟩ : ∃ m, m = x.ps.length := ⟨_, rfl⟩
              rw [← hnp] at hpl
              have HNP := Lib.hid hnp
              have hn8 : np ≤ 8 := by
                have h := HS.out.k8 (cd X i) (cd_mem (by rw [← HN.out]; exact hli))
                rw [hkd, List.length_map] at h
                omega
              clear hx hkd hnp hok hxB
              go_wp2_with (fail)
              go_loopw [8] (fun s8 wr => ∃ (k : Nat) (b : List UInt8 → Bool), k ≤ np ∧ s8 = .int .i64 k ∧ Hid (WR X c w g n r i b0 b wr) ∧ Hid (∀ j, j < k → b (x.ps.getD j default).1 = true)) (fun s8 _ => np - (intOf s8).toNat)
              case atStart => exact ⟨0, b, by omega, rfl, HWI, Lib.hid (fun j hj => absurd hj (Nat.not_lt_zero _))⟩
              case round =>
                clear HWI
                obtain ⟨k, b, hkn, rfl, HWK, HKK⟩ := hrel
                have hcell := HWK.out.bi.cell (i := i) hli
                have hbel := HWK.out.bel
                obtain ⟨xb', xo', ha, hxB, hok, c0, c1, c2, c3⟩ := (HR.out.below (hbel.mono hB)).item (i := i) hli
                injection ha with ha
                injection ha with e1 e2 e3
                subst e1
                subst e2
                rw [← HX.out] at hok c2
                rw [← HNP.out] at c2
                clear c0 c1 c3 e3
                cases hbi : b (cd X i) with
                | false =>
                  rw [hbi] at hcell
                  have HNX : Hid (WR X c w g n r (i + 1) b0 b wr) := Lib.hid (HWK.out.next (fun h => by rw [HWK.out.mono _ h] at hbi; cases hbi))
                  clear hbi
                  go_wp2_with (fail)
                  go_roundw
                  case rel => exact ⟨i + 1, b, by omega, by go_num, HNX⟩
                  case measure => simp [intOf]; omega
                | true =>
                  rw [hbi] at hcell
                  have HBI := Lib.hid hbi
                  clear hbi
                  by_cases hlk : k < np
                  · have t3 : decide ((k : Int) < (np : Int)) = true := by simp; omega
                    have f3 : IntKind.i64.wrap ((k : Int) + 1) = ((k + 1 : Nat) : Int) := by rw [wrap_in (by omega) (by omega)]; omega
                    have q2 : (0 : Int) ≤ (k : Int) := by omega
                    have q3 : (k : Int) < (np : Int) := by omega
                    obtain ⟨pb, po, hpa, hpB, p0, -⟩ := hok.rp.part (i := k) (by rw [← HNP.out]; exact hlk)
                    rw [hpa] at c2
                    obtain ⟨nm, hnm⟩ : ∃ z, z = (x.ps.getD k default).1 := ⟨_, rfl⟩
                    rw [← hnm] at p0
                    unfold encStr at p0
                    have hkid : nm ∈ kidsX X (cd X i) := by
                      rw [HKD.out, hnm]
                      exact List.mem_map.2 ⟨_, (by rw [List.getD_eq_getElem?_getD, List.getElem?_eq_getElem (by rw [← HNP.out]; exact hlk)]; exact List.getElem_mem _), rfl⟩
                    have hnc := HS.out.kids _ (cd_mem (by rw [← HN.out]; exact hli)) _ hkid
                    obtain ⟨ti, hti, hft, hct⟩ := there hnc
                    have hnl := code_le (fun y hy => (HR.out.ok y hy).code) hnc
                    have HF3 := Lib.hid (HFD.out wr hbel nm hnl)
                    rw [hft] at HF3
                    have q4 : (0 : Int) ≤ (ti : Int) := by omega
                    have q5 : (ti : Int) < (n : Int) := by rw [HN.out]; omega
                    have hcell2 := HWK.out.bi.cell (i := ti) (by rw [HN.out]; exact hti)
                    have hfz := HWK.out.bi.frozen ti
                    have HMK := Lib.hid (HWK.out.mark HS.out HN.out HBI.out hkid (by rw [HN.out]; exact hti) hct)
                    have HK2 : Hid (∀ j, j < k + 1 → setO b nm true (x.ps.getD j default).1 = true) := Lib.hid (fun j hj => by
                      by_cases e : j = k
                      · rw [e, ← hnm]; exact set_self _ _
                      · exact set_mono _ _ (HKK.out j (by omega)))
                    generalize b (cd X ti) = bt at hcell2
                    clear hnm hkid hnc hct hft hti hnl hbel hok hpB hpa hxB
                    go_wp2_with (first | (go_at_call 40; refine HF3.out.mono ?_; rintro e w9 ⟨rfl, rfl⟩))
                    go_roundw
                    case rel => exact ⟨k + 1, setO b nm true, by omega, by go_num, HMK, HK2⟩
                    case measure => simp [intOf]; omega
                  · have t3 : decide ((k : Int) < (np : Int)) = false := by simp; omega
                    have HNX : Hid (WR X c w g n r (i + 1) b0 b wr) := Lib.hid (HWK.out.next (fun _ p hp => by
                      rw [HKD.out] at hp
                      obtain ⟨y, hy, rfl⟩ := List.mem_map.1 hp
                      obtain ⟨j, hj, rfl⟩ := List.mem_iff_getElem.1 hy
                      have := HKK.out j (by rw [← HNP.out] at hj; omega)
                      rw [List.getD_eq_getElem?_getD, List.getElem?_eq_getElem hj] at this
                      exact this))
                    go_wp2_with (fail)
                    go_roundw
                    case rel => exact ⟨i + 1, b, by omega, by go_num, HNX⟩
                    case measure => simp [intOf]; omega
            · have t2 : decide ((i : Int) < (n : Int)) = false := by simp; omega
              have ein : i = n := by omega
              have hwi := HWI.out
              rw [ein] at hwi
              have HNX := Lib.hid (hwi.round HS.out HCC.out HN.out)
              clear hwi ein
              go_wp2_with (fail)
              go_roundw
              case rel => exact ⟨r + 1, b, by omega, by go_num, HNX⟩
              case measure => simp [intOf]; omega
        · have t1 : decide ((r : Int) < (n : Int)) = false := by simp; omega
          have ern : r = n := by omega
          have hwl : (codes X).filter b0 = withinL X c := by
            have h := HWR.out.cl
            rw [ern, HN.out] at h
            exact h.all HS.out HCC.out HWR.out.ms
          have HWL := Lib.hid hwl
          have HO0 : Hid (WO X w g n b0 (.slice none 0 0) 0 0 wr) := Lib.hid ⟨HWR.out.bi, rfl, World.ownsRow_nil _ _ _ _, HWR.out.bel⟩
          have HGW := Lib.hid HWR.out.ge
          clear ern hwl HWR
          obtain ⟨ii, hi, hz0, hz1, hz2⟩ := info_parts Tryz.infoStr
          have Hi := Lib.hid hi
          have Hz0 := Lib.hid hz0
          have Hz1 := Lib.hid hz1
          have Hz2 := Lib.hid hz2
          clear hi hz0 hz1 hz2
          go_wp2_with (fail)
          go_loopw [9, 10] (fun v s wr => ∃ (i m : Nat) (a' : Option Addr) (c' : Nat), i ≤ n ∧ m ≤ i ∧ s = .int .i64 i ∧ v = .slice a' m c' ∧ Hid (WO X w g n b0 (.slice a' m c') i m wr)) (fun _ s _ => n - (intOf s).toNat)
          case atStart => exact ⟨0, 0, none, 0, by omega, by omega, rfl, rfl, HO0⟩
          case round =>
            clear HO0
            obtain ⟨i, m, a', c', hin, hmi, rfl, rfl, HWO⟩ := hrel
            by_cases hli : i < n
            · have t2 : decide ((i : Int) < (n : Int)) = true := by simp; omega
              have f2 : IntKind.i64.wrap ((i : Int) + 1) = ((i + 1 : Nat) : Int) := by rw [wrap_in (by omega) (by omega)]; omega
              have q0 : (0 : Int) ≤ (i : Int) := by omega
              have q1 : (i : Int) < (n : Int) := by omega
              have hcell := HWO.out.1.cell (i := i) hli
              have hbel := HWO.out.2.2.2
              obtain ⟨xb, xo, ha, hxB, hok, c0, -, -, -⟩ := (HR.out.below (hbel.mono hB)).item (i := i) hli
              subst ha
              unfold encStr at c0
              cases hbi : b0 (cd X i) with
              | false =>
                rw [hbi] at hcell
                have HNX := Lib.hid (HWO.out.skip (by rw [← HN.out]; exact hli) hbi)
                clear hbi hok
                go_wp2_with (fail)
                go_roundw
                case rel => exact ⟨i + 1, m, a', c', by omega, by omega, by go_num, rfl, HNX⟩
                case measure => simp [intOf]; omega
              | true =>
                rw [hbi] at hcell
                have HPUT := Lib.hid (fun v' w' => HWO.out.put (v' := v') (w' := w') (o := #[encStr (cd X i)]) (t := 9) (by rw [← HN.out]; exact hli) hbi)
                obtain ⟨s, hs⟩ : ∃ s, s = (X.getD i default).code := ⟨_, rfl⟩
                rw [← hs] at c0
                rw [show cd X i = s from hs.symm] at HPUT
                have O3 := Lib.hid (Tx.rows_below HWO.out.2.2.1 ((Below.refl _ wr).alloc (Nat.le_refl _) (.cells #[.string ⟨s.toArray⟩] 9)))
                have HSZ := Lib.hid hbel.size
                clear hbi hok hs hbel
                go_wp2_with (first | (at_builtin; refine Tx.wpList_append_keepC rfl _ _ 30 rfl 9 ii _ (Q := [encStr s]) (m := 1) (cs := 1) Tryz.underlying30 Hi.out Hz0.out Hz1.out rfl rfl O3.out _ 1 rfl ⟨_, rfl, one_text wr s _⟩ (fun u hu => by rw [List.mem_singleton] at hu; subst hu; rfl) rfl (by decide) (by rw [World.size_alloc]; have := HSZ.out; omega) (by rw [Hz2.out]; omega) (by omega) ?_; intro g4 c4 w4 hown4 _ hg4 _; have HNX := Lib.hid (HPUT.out _ w4 hown4 hg4); clear hown4 hg4))
                go_roundw
                case rel => exact ⟨i + 1, m + 1, _, _, by omega, by omega, by go_num, rfl, HNX⟩
                case measure => simp [intOf]; omega
            · have t2 : decide ((i : Int) < (n : Int)) = false := by simp; omega
              have ein : i = n := by omega
              have hfin := HWO.out
              unfold WO at hfin
              have htk : (codes X).take i = codes X := List.take_of_length_le (by unfold codes; rw [List.length_map, ← HN.out]; omega)
              rw [htk, HWL.out] at hfin
              have HFIN := Lib.hid hfin
              clear hfin htk ein
              go_wp2_with (fail)
              go_ret
              obtain ⟨-, h2, h3, h4⟩ := HFIN.out
              refine ⟨h4, _, rfl, fun h => absurd ⟨H0.out, HCC.out⟩ h, fun _ _ => ?_⟩
              rw [← h2]
              exact h3
    · rw [fI_out hcc] at HFW
      have HNC := Lib.hid (show ¬ (chkE X = 0 ∧ c ∈ codes X) from fun h => hcc h.2)
      clear hcc
      go_wp2_with (first | (go_at_call 40; refine HFW.out.mono ?_; rintro e w9 ⟨rfl, rfl⟩))
      go_ret
      exact ⟨HB1.out, _, rfl, fun _ => rfl, fun h1 h2 => absurd ⟨h1, h2⟩ HNC.out⟩
  · obtain ⟨r, hr⟩ : ∃ r, r = chkE X := ⟨_, rfl⟩
    have H0 := Lib.hid h0
    rw [← hr] at h0 ⊢
    have e1 : (r != 0) = true := by simpa using h0
    clear h0 hr
    go_wp2_with (fail)
    go_ret
    exact ⟨HB1.out, _, rfl, fun _ => rfl, fun h1 _ => absurd h1 H0.out⟩
end Go.Proofs.YthlmnoggeggpkaaGreat
namespace Go.Proofs.YthlmnoggeggpkaaGreat
open Go.RowKit

set_option maxHeartbeats 4000000 in
set_option maxRecDepth 100000 in
theorem rDeepTop_any (B : Nat) (a : Option Addr) (n cp : Nat) (X : List It) (c : List UInt8) (w : World) (hr : RI B w a n cp X) (hB : B ≤ w.heap.size) (hc : c.length ≤ 9223372036854775807) :
    Calls Tryz.prog 17 #[.slice a n cp, .string ⟨c.toArray⟩] w fun e w' => e = .returned (.int .i64 (deepX X c)) ∧ Below w.heap.size w w' := by
  have HR := Lib.hid hr
  have HCK := Lib.hid (rCheck_any B a n cp X w hr hB)
  have HFD := Lib.hid (Find_any B a n cp X c w hr hB hc)
  have HN := Lib.hid hr.len
  have hle := hr.le
  have hmx := hr.mx
  clear hr hc
  go_enter Tryz.func17, Tryz.ntmps17
  go_wp2_with (fail)
  go_at_call 40
  refine HFD.out.mono ?_
  rintro e w0 ⟨rfl, rfl⟩
  go_wp2_with (fail)
  go_at_call 38
  refine HCK.out.mono ?_
  rintro e w1 ⟨rfl, hb1⟩
  have HB1 := Lib.hid hb1
  clear hb1 HCK HFD
  by_cases h0 : chkE X = 0
  · rw [h0]
    by_cases hcc : c ∈ codes X
    · have hs := sound_of h0
      obtain ⟨i, hi, hfi, hci⟩ := there hcc
      rw [hfi]
      have hdx : deepX X c = (tellX X c : Int) := by unfold deepX; rw [if_pos ⟨h0, hcc⟩]
      have HDX := Lib.hid hdx
      have HDP := Lib.hid (rDeep_any B a n cp X w1 (HR.out.below (HB1.out.mono hB)) (Nat.le_trans hB HB1.out.size) hs.nd hs.kids hs.len)
      have HCI := Lib.hid hci
      have HCC := Lib.hid hcc
      have i0 : decide ((i : Int) < 0) = false := decide_eq_false (by omega)
      have i1 : (0 : Int) ≤ (i : Int) := by omega
      have i2 : (i : Int) < (n : Int) := by rw [HN.out]; omega
      clear h0 hcc hs hi hfi hci hdx
      go_wp2_with (fail)
      go_at_call 42
      refine HDP.out.mono ?_
      rintro e w2 ⟨g, o, rfl, hoi, hge, hb2, ho⟩
      have hcell := hoi.cell (i := i) (by omega)
      have hoc : (o (cd X i) : Int) = (tellX X c : Int) := by rw [HCI.out, ho c HCC.out]; rfl
      rw [hoc] at hcell
      have HB2 := Lib.hid (HB1.out.trans (hb2.mono HB1.out.size))
      obtain ⟨d, hd⟩ : ∃ d : Int, d = (tellX X c : Int) := ⟨_, rfl⟩
      rw [← hd] at hcell HDX
      clear hoi hge hb2 ho hoc HDP hd
      go_wp2_with (fail)
      go_ret
      exact ⟨by rw [HDX.out]; rfl, HB2.out⟩
    · have hdx : deepX X c = 0 := by unfold deepX; rw [if_neg (fun h => hcc h.2)]
      rw [fI_out hcc]
      have HDX := Lib.hid hdx
      clear h0 hcc hdx
      go_wp2_with (fail)
      go_ret
      exact ⟨by rw [HDX.out]; rfl, HB1.out⟩
  · have hdx : deepX X c = 0 := by unfold deepX; rw [if_neg (fun h => h0 h.1)]
    have HDX := Lib.hid hdx
    obtain ⟨r, hr⟩ : ∃ r, r = chkE X := ⟨_, rfl⟩
    rw [← hr] at h0 ⊢
    have e1 : (r != 0) = true := by simpa using h0
    generalize fI X c = fi
    clear h0 hr hdx
    go_wp2_with (fail)
    go_ret
    exact ⟨by rw [HDX.out]; rfl, HB1.out⟩
end Go.Proofs.YthlmnoggeggpkaaGreat
