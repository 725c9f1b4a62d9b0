/- pick.line: its walk. slices.DeleteFunc at lots, by pick.Pick$1: its walk. -/
import Derived.Test.YtbedbhlebfnohaaGreatQIdxLine
import Derived.Test.YtbedbhlebfnohaaGreatQWant
namespace Go.Proofs.YtbedbhlebfnohaaGreat
open Go.RowKit Go.Shelf

theorem El.In.drop {α : Type} [Inhabited α] {E : El α} {B : Nat} {w : World} {b o n c : Nat} {X : List α} (h : E.In B w (some ⟨b, o, none⟩) n c X) (m : Nat) (hm : m ≤ n) : E.In B w (some ⟨b, o + m * E.k, none⟩) (n - m) (c - m) (X.drop m) := by
  refine ⟨by rw [List.length_drop]; have := h.len; omega, by have := h.le; omega, by have := h.mx; omega, fun x hx => h.fine x (List.mem_of_mem_drop hx), fun hc => ?_⟩
  obtain ⟨b', o', e, hB, hcell⟩ := h.at_ (by omega)
  cases e
  refine ⟨b, _, rfl, hB, fun i hi j hj => ?_⟩
  have := hcell (m + i) (by omega) j hj
  rw [Nat.add_mul] at this
  rw [show o + m * E.k + i * E.k + j = o + (m * E.k + i * E.k) + j by omega, this, List.getD_eq_getElem?_getD, List.getD_eq_getElem?_getD, List.getElem?_drop]
def lineX (X : List LineV) (id : Int) : Int × Bool :=
  if idxI (fun x : LineV => decide (x.id = id)) X < 0 ∨ ((X.drop ((idxI (fun x : LineV => decide (x.id = id)) X).toNat + 1)).any fun x => decide (x.id = id)) = true then (0, false)
  else (idxI (fun x : LineV => decide (x.id = id)) X, decide ((X.getD (idxI (fun x : LineV => decide (x.id = id)) X).toNat default).st = 1))
theorem idxI_form {α : Type} (p : α → Bool) (X : List α) : idxI p X = -1 ∨ ∃ j : Nat, j < X.length ∧ idxI p X = j := by
  unfold idxI
  cases h : X.findIdx? p with
  | none => exact .inl rfl
  | some i => exact .inr ⟨i, (List.findIdx?_eq_some_iff_getElem.1 h).1, rfl⟩
theorem line1_any (p : Nat) (id : Int) (x : LineV) (w : World) (hlt : p < w.heap.size) (hp : w.cell? ⟨p, 0, none⟩ = some (.int .i64 id)) :
    Calls Tryz.prog 45 #[.agg #[.int .i64 x.id, encStr x.item, .int .i64 x.qty, .int .i64 x.asked, .int .i64 x.rank, .int .u8 x.st, .int .i64 x.day, encStr x.code], .pointer (some ⟨p, 0, none⟩)] w fun e w' => e = .returned (.bool (decide (x.id = id))) ∧ Below w.heap.size w w' := by
  have hp2 : ∀ c, (w.alloc c).cell? ⟨p, 0, none⟩ = some (.int .i64 id) := fun c => (((Below.refl w.heap.size w).alloc (Nat.le_refl _) c).cell (p := ⟨p, 0, none⟩) hlt).trans hp
  have HB := Lib.hid (fun c => (Below.refl w.heap.size w).alloc (Nat.le_refl _) c)
  obtain ⟨a1, a2, a3, a4, a5, a6, a7, a8⟩ := x
  unfold encStr
  simp only
  clear hp
  go_enter Tryz.func45, Tryz.ntmps45
  go_wp2_with (fail)
  go_ret
  exact ⟨by first | rfl | simp [*], HB.out _⟩
theorem El.In.sliced {α : Type} [Inhabited α] {E : El α} {B : Nat} {w : World} {b o n c : Nat} {X : List α} (h : E.In B w (some ⟨b, o, none⟩) n c X) (l : Nat) (hl : l ≤ n) (_hn : 0 < n) : E.In B w (if c = l then some ⟨b, o, none⟩ else some ((⟨b, o, none⟩ : Addr).add (l * E.k))) (n - l) (c - l) (X.drop l) := by
  by_cases hc : c = l
  · rw [if_pos hc]
    have e : n - l = 0 := by have := h.le; omega
    have e2 : X.drop l = [] := List.drop_eq_nil_of_le (by have := h.len; have := h.le; omega)
    rw [e, e2, hc, Nat.sub_self]
    exact ⟨rfl, Nat.le_refl _, by omega, fun x hx => (by cases hx), fun hc => absurd hc (Nat.lt_irrefl _)⟩
  · rw [if_neg hc]
    have e : (⟨b, o, none⟩ : Addr).add (l * E.k) = ⟨b, o + l * E.k, none⟩ := by unfold Addr.add; split <;> simp_all
    rw [e]
    exact h.drop l hl
def stObj (now nl nx : Int) (v1 v2 v3 : Value) : Obj := .cells #[.int .i64 now, .int .i64 nl, .int .i64 nx, v1, v2, v3] 26
theorem stObj_cells {w : World} {p : Nat} {now nl nx : Int} {v1 v2 v3 : Value} (h : w.heap[p]? = some (stObj now nl nx v1 v2 v3)) : w.cell? ⟨p, 0, none⟩ = some (.int .i64 now) ∧ w.cell? ⟨p, 1, none⟩ = some (.int .i64 nl) ∧ w.cell? ⟨p, 2, none⟩ = some (.int .i64 nx) ∧ w.cell? ⟨p, 3, none⟩ = some v1 ∧ w.cell? ⟨p, 4, none⟩ = some v2 ∧ w.cell? ⟨p, 5, none⟩ = some v3 := by
  unfold stObj at h
  refine ⟨?_, ?_, ?_, ?_, ?_, ?_⟩ <;> (unfold World.cell?; rw [h]; rfl)
set_option maxHeartbeats 4000000 in
set_option maxRecDepth 100000 in
theorem pline_any (B : Nat) (now nl nx : Int) (a1 a2 : Option Addr) (n1 c1 n2 c2 : Nat) (a : Option Addr) (n c : Nat) (X : List LineV) (id : Int) (w : World) (h : lineE.In B w a n c X) (hB : B ≤ w.heap.size) :
    Calls Tryz.prog 19 #[.agg #[.int .i64 now, .int .i64 nl, .int .i64 nx, .slice a1 n1 c1, .slice a2 n2 c2, .slice a n c], .int .i64 id] w fun e w' => e = .returned (.tuple #[.int .i64 (lineX X id).1, .bool (lineX X id).2]) ∧ Below w.heap.size w w' := by
  generalize hr : lineX X id = r
  have HQ := Lib.hid hr
  clear hr
  have hle := h.le; have hmx := h.mx
  have Hln := Lib.hid h.len
  have H := Lib.hid h
  clear h
  obtain ⟨W1, hW1⟩ : ∃ V, V = (w.alloc (.cells #[.int .i64 now, .int .i64 nl, .int .i64 nx, .slice a1 n1 c1, .slice a2 n2 c2, .slice a n c] 26)).alloc (.cells #[.int .i64 id] 3) := ⟨_, rfl⟩
  have HB1 : Hid (Below w.heap.size w W1) := Lib.hid (by rw [hW1]; exact ((Below.refl _ w).alloc (Nat.le_refl _) _).alloc (by rw [World.size_alloc]; omega) _)
  have hs1 : W1.heap.size = w.heap.size + 2 := by rw [hW1, World.size_alloc, World.size_alloc]
  have HX : Hid (∀ V, Below W1.heap.size W1 V → V.cell? ⟨w.heap.size, 5, none⟩ = some (.slice a n c) ∧ V.cell? ⟨w.heap.size + 1, 0, none⟩ = some (.int .i64 id) ∧ w.heap.size + 1 < V.heap.size ∧ Below w.heap.size w V ∧ lineE.In B V a n c X) := Lib.hid fun V hb => ⟨(hb.cell (p := ⟨w.heap.size, 5, none⟩) (by show w.heap.size < _; omega)).trans (by rw [hW1]; rw [((Below.refl (w.heap.size + 1) (w.alloc _)).alloc (by rw [World.size_alloc]; omega) _).cell (p := ⟨w.heap.size, 5, none⟩) (by show w.heap.size < _; omega)]; simp), (hb.cell (p := ⟨w.heap.size + 1, 0, none⟩) (by show w.heap.size + 1 < _; omega)).trans (by rw [hW1, ← World.size_alloc w (.cells #[.int .i64 now, .int .i64 nl, .int .i64 nx, .slice a1 n1 c1, .slice a2 n2 c2, .slice a n c] 26)]; simp), by have := hb.size; omega, HB1.out.trans (hb.mono (by omega)), H.out.below ((HB1.out.trans (hb.mono (by omega))).mono hB)⟩
  have eg : ∀ args w, (callFunc 45 args).run Tryz.prog w = .ok (.enter 45 args) w := enters_of Tryz.func45 (by kernel_rfl) rfl
  have HI := Lib.hid (fun (V : World) (hb : Below W1.heap.size W1 V) => indexLine_any ixLine_laid (fun x : LineV => decide (x.id = id)) 45 #[.pointer (some ⟨w.heap.size + 1, 0, none⟩)] eg B a n c X V (HX.out V hb).2.2.2.2 (by have := hb.size; omega) (fun V' x hb' _ => line1_any (w.heap.size + 1) id x V' (by have := hb'.size; have := hb.size; omega) (HX.out V' (hb.trans (hb'.mono hb.size))).2.1))
  have HC := Lib.hid (fun (a' : Option Addr) (n' c' : Nat) (X' : List LineV) (V : World) (hb : Below W1.heap.size W1 V) (hi : lineE.In B V a' n' c' X') => containsLine_any ixLine_laid (fun x : LineV => decide (x.id = id)) 45 #[.pointer (some ⟨w.heap.size + 1, 0, none⟩)] eg B a' n' c' X' V hi (by have := hb.size; omega) (fun V' x hb' _ => line1_any (w.heap.size + 1) id x V' (by have := hb'.size; have := hb.size; omega) (HX.out V' (hb.trans (hb'.mono hb.size))).2.1))
  have HI1 := Lib.hid (HI.out W1 (Below.refl _ _))
  obtain ⟨g5, -, -, -, -⟩ := HX.out W1 (Below.refl _ _)
  have HW1 := Lib.hid hW1
  clear hW1 eg HI
  rcases idxI_form (fun x : LineV => decide (x.id = id)) X with hi | ⟨j, hj, hi⟩
  · rw [hi] at HI1
    have E := Lib.hid (show lineX X id = (0, false) by unfold lineX; rw [if_pos (.inl (by rw [hi]; decide))])
    clear hi
    go_enter Tryz.func19, Tryz.ntmps19
    go_upto_region 2 with (fail)
    rw [← HW1.out]
    go_wp2_with (go_at_call 46; refine HI1.out.mono ?_; rintro e w9 ⟨rfl, hb9⟩; have B9 := Lib.hid (HX.out w9 hb9).2.2.2.1)
    go_ret2
    exact ⟨by rw [← HQ.out, E.out]; rfl, B9.out⟩
  · rw [hi] at HI1
    rw [← Hln.out] at hj
    obtain ⟨b, o, rfl, -, -⟩ := H.out.at_ (by omega)
    have HS := Lib.hid (fun (V : World) (hb : Below W1.heap.size W1 V) (a' : Option Addr) (n' c' : Nat) (hi : lineE.In B V a' n' c' (X.drop (j + 1))) => HC.out a' n' c' _ V hb hi)
    have HD : Hid (∀ V, Below W1.heap.size W1 V → lineE.In B V (some ⟨b, o + (j + 1) * 8, none⟩) (n - (j + 1)) (c - (j + 1)) (X.drop (j + 1))) := Lib.hid fun V hb => (HX.out V hb).2.2.2.2.drop (j + 1) (by omega)
    have HD2 : Hid (∀ V, Below W1.heap.size W1 V → c = j + 1 → lineE.In B V (some ⟨b, o, none⟩) 0 0 (X.drop (j + 1))) := Lib.hid fun V hb hc => by
      have := (HX.out V hb).2.2.2.2.sliced (j + 1) (by omega) (by omega)
      rw [if_pos hc, show c - (j + 1) = 0 by omega, show n - (j + 1) = 0 by omega] at this
      exact this
    have HX5 := Lib.hid (fun (V : World) (hb : Below W1.heap.size W1 V) => (HX.out V hb).1)
    generalize hA : ((X.drop (j + 1)).any fun x => decide (x.id = id)) = bA at HS
    have HA := Lib.hid hA
    have Hi := Lib.hid hi
    clear hA hi
    by_cases hc : c = j + 1
    · have E9 : Hid (∀ V, Below W1.heap.size W1 V → lineE.In B V (some ⟨b, o, none⟩) 0 0 (X.drop (j + 1))) := Lib.hid fun V hb => HD2.out V hb hc
      subst hc
      cases bA with
      | true =>
        have E := Lib.hid (show lineX X id = (0, false) by unfold lineX; rw [if_pos (.inr (by rw [Hi.out]; exact HA.out))])
        clear HD HD2
        go_enter Tryz.func19, Tryz.ntmps19
        go_upto_region 2 with (fail)
        rw [← HW1.out]
        go_wp2_with (first | (go_at_call 46; refine HI1.out.mono ?_; rintro e w9 ⟨rfl, hb9⟩; have HS9 := Lib.hid (HS.out w9 hb9 _ _ _ (E9.out w9 hb9)); have B9 := Lib.hid (HX.out w9 hb9).2.2.2.1; have g9 := HX5.out w9 hb9) | (go_at_call 47; refine HS9.out.mono ?_; rintro e w8 ⟨rfl, hb8⟩; have B8 := Lib.hid (B9.out.trans (hb8.mono B9.out.size))))
        go_ret2
        exact ⟨by rw [← HQ.out, E.out]; rfl, B8.out⟩
      | false =>
        have E := Lib.hid (show lineX X id = (((j : Nat) : Int), decide ((X.getD j default).st = 1)) by unfold lineX; rw [Hi.out, if_neg (fun h => h.elim (fun h1 => by omega) (fun h1 => by have := h1.symm.trans HA.out; cases this))]; rfl)
        have HZ : Hid (∀ V, Below W1.heap.size W1 V → V.cell? ⟨b, o + j * 8 + 5, none⟩ = some (.int .u8 (X.getD j default).st)) := Lib.hid fun V hb => by
          obtain ⟨b', o', e', -, hcell⟩ := lineE_at (HX.out V hb).2.2.2.2 (by omega)
          cases e'
          exact (hcell j hj).2.2.2.2.2.1
        have Hrg := Lib.hid (H.out.ok_at hj)
        generalize X.getD j default = xj at E HZ Hrg
        obtain ⟨x1, x2, x3, x4, x5, st, x7, x8⟩ := xj
        simp only at HZ
        have hst := Lib.hid (show 0 ≤ st ∧ st ≤ 255 from Hrg.out.2.2.2.2.2.1)
        clear HD HD2 Hrg
        go_enter Tryz.func19, Tryz.ntmps19
        go_upto_region 2 with (fail)
        rw [← HW1.out]
        go_wp2_with (first | (go_at_call 46; refine HI1.out.mono ?_; rintro e w9 ⟨rfl, hb9⟩; have HS9 := Lib.hid (HS.out w9 hb9 _ _ _ (E9.out w9 hb9)); have HB9 := Lib.hid hb9; have g9 := HX5.out w9 hb9) | (go_at_call 47; refine HS9.out.mono ?_; rintro e w8 ⟨rfl, hb8⟩; have hb7 := HB9.out.trans (hb8.mono HB9.out.size); have g8 := HX5.out w8 hb7; have gz := HZ.out w8 hb7; have B8 := Lib.hid (HX.out w8 hb7).2.2.2.1; clear hb7))
        go_quiet (fail)
        go_wp2_with (fail)
        go_ret2
        exact ⟨by rw [← HQ.out, E.out]; rfl, B8.out.trans ⟨rfl, rfl, rfl, Nat.le_refl _, fun _ _ => rfl⟩⟩
    · have E9 := HD
      cases bA with
      | true =>
        have E := Lib.hid (show lineX X id = (0, false) by unfold lineX; rw [if_pos (.inr (by rw [Hi.out]; exact HA.out))])
        clear HD HD2
        go_enter Tryz.func19, Tryz.ntmps19
        go_upto_region 2 with (fail)
        rw [← HW1.out]
        go_wp2_with (first | (go_at_call 46; refine HI1.out.mono ?_; rintro e w9 ⟨rfl, hb9⟩; have HS9 := Lib.hid (HS.out w9 hb9 _ _ _ (E9.out w9 hb9)); have B9 := Lib.hid (HX.out w9 hb9).2.2.2.1; have g9 := HX5.out w9 hb9) | (go_at_call 47; refine HS9.out.mono ?_; rintro e w8 ⟨rfl, hb8⟩; have B8 := Lib.hid (B9.out.trans (hb8.mono B9.out.size))))
        go_ret2
        exact ⟨by rw [← HQ.out, E.out]; rfl, B8.out⟩
      | false =>
        have E := Lib.hid (show lineX X id = (((j : Nat) : Int), decide ((X.getD j default).st = 1)) by unfold lineX; rw [Hi.out, if_neg (fun h => h.elim (fun h1 => by omega) (fun h1 => by have := h1.symm.trans HA.out; cases this))]; rfl)
        have HZ : Hid (∀ V, Below W1.heap.size W1 V → V.cell? ⟨b, o + j * 8 + 5, none⟩ = some (.int .u8 (X.getD j default).st)) := Lib.hid fun V hb => by
          obtain ⟨b', o', e', -, hcell⟩ := lineE_at (HX.out V hb).2.2.2.2 (by omega)
          cases e'
          exact (hcell j hj).2.2.2.2.2.1
        have Hrg := Lib.hid (H.out.ok_at hj)
        generalize X.getD j default = xj at E HZ Hrg
        obtain ⟨x1, x2, x3, x4, x5, st, x7, x8⟩ := xj
        simp only at HZ
        have hst := Lib.hid (show 0 ≤ st ∧ st ≤ 255 from Hrg.out.2.2.2.2.2.1)
        clear HD HD2 Hrg
        go_enter Tryz.func19, Tryz.ntmps19
        go_upto_region 2 with (fail)
        rw [← HW1.out]
        go_wp2_with (first | (go_at_call 46; refine HI1.out.mono ?_; rintro e w9 ⟨rfl, hb9⟩; have HS9 := Lib.hid (HS.out w9 hb9 _ _ _ (E9.out w9 hb9)); have HB9 := Lib.hid hb9; have g9 := HX5.out w9 hb9) | (go_at_call 47; refine HS9.out.mono ?_; rintro e w8 ⟨rfl, hb8⟩; have hb7 := HB9.out.trans (hb8.mono HB9.out.size); have g8 := HX5.out w8 hb7; have gz := HZ.out w8 hb7; have B8 := Lib.hid (HX.out w8 hb7).2.2.2.1; clear hb7))
        go_quiet (fail)
        go_wp2_with (fail)
        go_ret2
        exact ⟨by rw [← HQ.out, E.out]; rfl, B8.out.trans ⟨rfl, rfl, rfl, Nat.le_refl _, fun _ _ => rfl⟩⟩
end Go.Proofs.YtbedbhlebfnohaaGreat
namespace Go.Proofs.YtbedbhlebfnohaaGreat
open Go.RowKit Go.Sort Go.Lib Go.Shelf

theorem below_alloc (w : World) (o : Obj) : Below w.heap.size w (w.alloc o) := (Below.refl _ w).alloc (Nat.le_refl _) o
theorem OnlyB.trans {g : Nat} {w w1 w2 : World} (h1 : OnlyB g w w1) (h2 : OnlyB g w1 w2) : OnlyB g w w2 := ⟨h2.os.trans h1.os, h2.tape.trans h1.tape, h2.output.trans h1.output, Nat.le_trans h1.size h2.size, fun b hb hbl => (h2.block b hb (Nat.lt_of_lt_of_le hbl h1.size)).trans (h1.block b hb hbl)⟩
def hereL (X : List LotV) : List LotV := X.filter fun x => x.arr
theorem hereL_all {X : List LotV} (h : idxI (fun x : LotV => !x.arr) X = -1) : hereL X = X := by
  unfold hereL
  rw [List.filter_eq_self]
  intro x hx
  cases ha : x.arr with
  | true => rfl
  | false =>
    have : 0 ≤ idxI (fun x : LotV => !x.arr) X := idxI_ge.2 (List.any_eq_true.2 ⟨x, hx, by simp [ha]⟩)
    omega
theorem idxI_start {X : List LotV} {j : Nat} (h : idxI (fun x : LotV => !x.arr) X = j) : KeptInv (fun j => (X.toArray[j]!).arr) X.toArray (j + 1) j X.toArray := by
  unfold idxI at h
  cases hf : X.findIdx? (fun x : LotV => !x.arr) with
  | none => rw [hf] at h; simp only at h; omega
  | some i =>
    rw [hf] at h
    simp only at h
    obtain rfl : i = j := by omega
    obtain ⟨hi, hp, hall⟩ := List.findIdx?_eq_some_iff_getElem.1 hf
    refine KeptInv.start (fun k hk => ?_) ?_
    · have := hall k hk
      simp only [Bool.not_eq_true', Bool.not_eq_false] at this
      rw [getElem!_pos _ _ (by simpa using Nat.lt_trans hk hi)]
      simpa using this
    · rw [getElem!_pos _ _ (by simpa using hi)]
      simpa using hp
theorem kept_here (X : List LotV) : keptUpTo (fun j => (X.toArray[j]!).arr) X.toArray X.toArray.size = hereL X := keptUpTo_filter (fun x : LotV => x.arr) X.toArray
set_option maxHeartbeats 4000000 in
set_option maxRecDepth 100000 in
theorem delLots (base : Nat) (g n c : Nat) (X : List LotV) (w : World) (h : lotE.Own base w (.slice (some ⟨g, 0, none⟩) n c) X) (hf : ∀ x ∈ X, okLot x) (hn : n ≤ 100000000) (j0 : Nat) (hj0 : idxI (fun x : LotV => !x.arr) X = j0) (hj1 : j0 < n) :
    Calls Tryz.prog 21 #[.slice (some ⟨g, 0, none⟩) n c, .func (.func 23) #[] #[]] w fun e w' => ∃ m, e = .returned (.slice (some ⟨g, 0, none⟩) m c) ∧ lotE.Own base w' (.slice (some ⟨g, 0, none⟩) n c) (hereL X ++ List.replicate (n - (hereL X).length) default) ∧ m = (hereL X).length ∧ OnlyB g w w' := by
  have hx := (h.cell).1
  obtain ⟨-, hle, hmx, -, -, -⟩ := h.cell
  have hlt := (h.ge g rfl).2
  have hsz : Hid (X.toArray.size = n) := Lib.hid (by simp [hx])
  have HPK : Hid (∀ V, Below w.heap.size w V → lotE.Own base V (.slice (some ⟨g, 0, none⟩) n c) X ∧ RowK encLot 6 V g 0 X.toArray ∧ OnlyB g w V) := Lib.hid fun V hb => ⟨h.below hb, ⟨lotE.len, lotE.one, own_holds (h.below hb), Nat.lt_of_lt_of_le hlt hb.size⟩, ⟨hb.os, hb.tape, hb.output, hb.size, fun b _ hbl => hb.block b hbl⟩⟩
  have HI : Hid (Calls Tryz.prog 53 #[.slice (some ⟨g, 0, none⟩) n c, .func (.func 23) #[] #[]] w fun e w' => e = .returned (.int .i64 j0) ∧ Below w.heap.size w w') := Lib.hid (by
    obtain ⟨a', c', e', hin⟩ := h.in_ hf
    injection e' with e1 e2 e3
    subst e1; subst e3
    rw [← hx] at hin
    have := indexLot_any ixLot_laid (fun x : LotV => !x.arr) 23 #[] (enters_of Tryz.func23 (by kernel_rfl) rfl) w.heap.size _ n c X w hin (Nat.le_refl _) (fun V x _ _ => by
      have := del1_any x V
      simp only [LotV.val] at this
      refine Calls.mono (by simpa using this) ?_
      rintro e w' ⟨rfl, o, rfl⟩
      exact ⟨rfl, below_alloc _ _⟩)
    rwa [hj0] at this)
  have HS0 := Lib.hid (idxI_start hj0)
  have HX := Lib.hid hx
  clear hx hj0 h hf
  go_enter Tryz.func21, Tryz.ntmps21
  go_wp2_with (go_at_call 53; refine HI.out.mono ?_; rintro e w9 ⟨rfl, hb9⟩; have P9 := Lib.hid (HPK.out w9 hb9); clear hb9)
  have HS9 : Hid (SWK encLot 6 w9 g 0 X.toArray w9) := Lib.hid (SWK.start P9.out.2.1.hH)
  have HO := Lib.hid P9.out.1
  have R := Lib.hid P9.out.2.1
  have HW9 := Lib.hid P9.out.2.2
  go_loopw [5, 6, 7] (fun s5 s6 _ wr => ∃ (i j : Nat) (dk : Array LotV), s5 = .int .i64 i ∧ s6 = .int .i64 j ∧ j ≤ n ∧ Hid (SWK encLot 6 w9 g 0 dk wr) ∧ Hid (KeptInv (fun j => (X.toArray[j]!).arr) X.toArray j i dk)) (fun _ s6 _ _ => n - (intOf s6).toNat)
  case atStart => exact ⟨j0, j0 + 1, X.toArray, rfl, by go_num, by omega, HS9, HS0⟩
  case round =>
    clear HS9 HS0
    obtain ⟨i, j, dk, rfl, rfl, hj, S, I⟩ := hrel
    have hij := I.out.lt
    have hds : Hid (dk.size = n) := Lib.hid (I.out.size.trans hsz.out)
    have Ow : Hid (lotE.Own base wr (.slice (some ⟨g, 0, none⟩) n c) dk.toList ∧ OnlyB g w9 wr) := Lib.hid (own_sorted HO.out S.out (by rw [hds.out, HX.out]))
    by_cases hlt2 : j < n
    · obtain ⟨g0, g1, g2, g3, g4, g5⟩ := lot_own_cells Ow.out.1 hlt2
      have ex : dk.toList.getD j default = X.toArray[j]! := by
        rw [← I.out.high j (by omega), getElem!_pos dk j (by have := hds.out; omega), List.getD_eq_getElem?_getD, List.getElem?_eq_getElem (by rw [Array.length_toList, hds.out]; exact hlt2)]
        rfl
      rw [ex] at g0 g1 g2 g3 g4 g5
      have HK := Lib.hid (fun (ha : (X.toArray[j]!).arr = true) => I.out.keep (by rw [hsz.out]; exact hlt2) ha)
      have HN := Lib.hid (fun (ha : (X.toArray[j]!).arr = false) => I.out.skip ha)
      clear ex
      generalize X.toArray[j]! = x at g0 g1 g2 g3 g4 g5 HK HN
      obtain ⟨id, item, fr, un, qty, arr⟩ := x
      simp only at g0 g1 g2 g3 g4 g5
      unfold encStr at g1
      have HD := Lib.hid (del1_any ⟨id, item, fr, un, qty, arr⟩)
      unfold LotV.val encStr at HD
      simp only at HD
      obtain ⟨W1, hW1⟩ : ∃ V, V = wr.alloc (.cells #[.int .i64 id, .string ⟨item.toArray⟩, .int .i64 fr, .int .i64 un, .int .i64 qty, .bool arr] 46) := ⟨_, rfl⟩
      obtain ⟨p, hp⟩ : ∃ p, p = wr.heap.size := ⟨_, rfl⟩
      have hp1 : W1.heap[p]? = some (lotObj id item fr un qty arr) := by rw [hW1, hp]; exact heap_alloc_new _ _
      have S1 : Hid (SWK encLot 6 w9 g 0 dk W1) := Lib.hid (by rw [hW1]; exact S.out.alloc _)
      obtain ⟨y0, y1, y2, y3, y4, y5⟩ := lotObj_cells hp1
      have HP1 := Lib.hid hp1
      have HW1 := Lib.hid hW1
      have hs1 : p < W1.heap.size := (Array.getElem?_eq_some_iff.1 hp1).1
      have HD1 := Lib.hid (HD.out W1)
      clear hW1 hp1
      cases arr with
      | false =>
        have HN1 := Lib.hid (HN.out rfl)
        go_upto_region 8 with (fail)
        rw [← HW1.out, ← hp]
        clear hp
        go_wp2_with (go_at_call 23; refine HD1.out.mono ?_; rintro e w8 ⟨rfl, o8, rfl⟩; have S8 := Lib.hid (S1.out.alloc o8); have y8 := fun k => (below_alloc W1 o8).cell (p := ⟨p, k, none⟩) hs1; have z0 := (y8 0).trans y0; have z1 := (y8 1).trans y1; have z2 := (y8 2).trans y2; have z3 := (y8 3).trans y3; have z4 := (y8 4).trans y4; have z5 := (y8 5).trans y5; clear y8; have hs8 : p < (W1.alloc o8).heap.size := by rw [World.size_alloc]; omega)
        go_roundw
        case rel =>
          refine ⟨_, _, _, _, _, _, _, _, _, _, _, _, _, _, _, _, _, _, _, _, _, _, _, ?_, rfl⟩
          exact ⟨i, j + 1, dk, rfl, by go_num, by omega, S8, HN1⟩
        case measure => simp [intOf]; omega
      | true =>
        have HK1 := Lib.hid (HK.out rfl)
        go_upto_region 8 with (fail)
        rw [← HW1.out, ← hp]
        clear hp
        go_upto_region 9 with (go_at_call 23; refine HD1.out.mono ?_; rintro e w8 ⟨rfl, o8, rfl⟩; have S8 := Lib.hid (S1.out.alloc o8); have y8 := fun k => (below_alloc W1 o8).cell (p := ⟨p, k, none⟩) hs1; have z0 := (y8 0).trans y0; have z1 := (y8 1).trans y1; have z2 := (y8 2).trans y2; have z3 := (y8 3).trans y3; have z4 := (y8 4).trans y4; have z5 := (y8 5).trans y5; clear y8; have hs8 : p < (W1.alloc o8).heap.size := by rw [World.size_alloc]; omega)
        have S9 := Lib.hid (SWK_set lotE.len R.out.hblk S8.out i (by have := hds.out; omega) (⟨id, item, fr, un, qty, true⟩ : LotV))
        have hc : ∀ k, k < 6 → (W1.alloc o8).cell? ⟨g, i * 6 + k, none⟩ = some (encLot dk[i]!)[k]! ∧ (W1.alloc o8).frozen? ⟨g, i * 6 + k, none⟩ = false := fun k hk => by
          have := HoldsK.cell (S8.out.holds R.out.hblk R.out.hH (by rw [hds.out, hsz.out])) (i := i) (c := k) (by have := hds.out; omega) hk
          rwa [Nat.zero_add] at this
        obtain ⟨c0, f0⟩ := hc 0 (by decide)
        obtain ⟨c1, f1⟩ := hc 1 (by decide)
        obtain ⟨c2, f2⟩ := hc 2 (by decide)
        obtain ⟨c3, f3⟩ := hc 3 (by decide)
        obtain ⟨c4, f4⟩ := hc 4 (by decide)
        obtain ⟨c5, f5⟩ := hc 5 (by decide)
        simp only [Nat.add_zero] at c0 f0
        clear hc
        rw [Nat.zero_add] at S9
        generalize dk[i]! = old at c0 c1 c2 c3 c4 c5
        have hig : (i : Int) < (n : Int) := by omega
        generalize W1.alloc o8 = V at *
        go_wp2_with (fail)
        go_roundw
        case rel =>
          refine ⟨_, _, _, _, _, _, _, _, _, _, _, _, _, _, _, _, _, _, _, _, _, _, _, ?_, rfl⟩
          exact ⟨i + 1, j + 1, _, by go_num, by go_num, by omega, S9, HK1⟩
        case measure => simp [intOf]; omega
    · obtain rfl : j = n := by omega
      have hic : i < c := by omega
      have hlen : Hid (lay dk i (List.replicate (j - i) default) = (hereL X ++ List.replicate (j - i) default).toArray ∧ (hereL X).length = i) := Lib.hid (by
        have h1 := I.out
        rw [← hsz.out] at h1
        have h2 := h1.done default
        have h3 := h1.len
        rw [kept_here] at h2 h3
        rw [hsz.out] at h2
        exact ⟨h2, h3⟩)
      have S10 : Hid (SWK encLot 6 w9 g 0 (lay dk i (List.replicate (j - i) default)) (wr.setCells g (0 + i * 6) ((List.replicate (j - i) (default : LotV)).flatMap encLot))) := Lib.hid (SWK_lay lotE.len R.out.hblk (List.replicate (j - i) default) dk wr i (by rw [List.length_replicate, hds.out]; omega) S.out)
      rw [hlen.out.1, Nat.zero_add] at S10
      have hcl := fun ty => run_clear_lots S.out R.out (by rw [hds.out, hsz.out]) i (j - i) (c - i) ty (by omega) (by rw [hds.out]; omega)
      generalize wr.setCells g (i * 6) ((List.replicate (j - i) default).flatMap encLot) = W9 at S10 hcl
      have hig : (i : Int) ≤ (j : Int) := by omega
      have hi0 : ¬ ((i : Int) < 0) := by omega
      go_wp2_with (fail)
      go_ret
      obtain ⟨q1, q2⟩ := own_sorted HO.out S10.out (by have := hlen.out.2; simp; have := HX.out; omega)
      exact ⟨i, rfl, by rw [hlen.out.2]; simpa using q1, hlen.out.2.symm, HW9.out.trans q2⟩
set_option maxHeartbeats 1000000 in
set_option maxRecDepth 100000 in
/-- slices.DeleteFunc of what has not come, at own lots: the lots that have come. -/
theorem delLot_any (base : Nat) (v : Value) (X : List LotV) (w : World) (h : lotE.Own base w v X) (hf : ∀ x ∈ X, okLot x) (hn : X.length ≤ 100000000) (hb : base ≤ w.heap.size) :
    Calls Tryz.prog 21 #[v, .func (.func 23) #[] #[]] w fun e w' => ∃ a c, e = .returned (.slice a (hereL X).length c) ∧ lotE.In w'.heap.size w' a (hereL X).length c (hereL X) ∧ Below base w w' := by
  rcases idxI_form (fun x : LotV => !x.arr) X with hi | ⟨j, hj, hi⟩
  · obtain ⟨a, c, rfl, hin⟩ := h.in_ hf
    have HI : Hid (Calls Tryz.prog 53 #[.slice a X.length c, .func (.func 23) #[] #[]] w fun e w' => e = .returned (.int .i64 (-1)) ∧ Below w.heap.size w w') := Lib.hid (by
      have := indexLot_any ixLot_laid (fun x : LotV => !x.arr) 23 #[] (enters_of Tryz.func23 (by kernel_rfl) rfl) w.heap.size _ X.length c X w hin (Nat.le_refl _) (fun V x _ _ => by
        have := del1_any x V
        simp only [LotV.val] at this
        refine Calls.mono (by simpa using this) ?_
        rintro e w' ⟨rfl, o, rfl⟩
        exact ⟨rfl, below_alloc _ _⟩)
      rwa [hi] at this)
    have HX := Lib.hid hin
    rw [hereL_all hi]
    clear h hin hi
    go_enter Tryz.func21, Tryz.ntmps21
    go_wp2_with (go_at_call 53; refine HI.out.mono ?_; rintro e w9 ⟨rfl, hb9⟩)
    go_ret
    exact ⟨a, c, rfl, (HX.out.below hb9).mono hb9.size, hb9.mono hb⟩
  · obtain ⟨a, c, rfl, -, -, hg⟩ := h.form
    obtain ⟨g, rfl⟩ := hg (by omega)
    have hge := (h.ge g rfl).1
    refine (delLots base g X.length c X w h hf hn j hi hj).mono ?_
    rintro e w' ⟨m, rfl, hown, rfl, ho⟩
    have hfl : (hereL X).length ≤ X.length := List.length_filter_le _ _
    have hok : ∀ x ∈ hereL X ++ List.replicate (X.length - (hereL X).length) default, okLot x := fun x hx => by
      rcases List.mem_append.1 hx with h1 | h1
      · exact hf x (List.mem_filter.1 h1).1
      · rw [List.eq_of_mem_replicate h1]
        exact ⟨by decide, by decide, by decide, by decide, by decide⟩
    obtain ⟨a', c', e', hin⟩ := hown.in_ hok
    injection e' with e1 e2 e3
    subst e1; subst e3
    have h2 := hin.take (hereL X).length (by simp)
    rw [List.take_left'  rfl] at h2
    exact ⟨_, _, rfl, h2, below_only (Below.refl _ _) ho hb hge⟩
end Go.Proofs.YtbedbhlebfnohaaGreat
