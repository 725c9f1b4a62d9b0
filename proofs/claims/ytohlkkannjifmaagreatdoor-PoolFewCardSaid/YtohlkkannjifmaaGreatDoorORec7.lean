/- record.Put, kind by kind: its walks. (Printed by gen/oput2.py.) -/
import Derived.Test.YtohlkkannjifmaaGreatDoorORec6
import Derived.Deep.RegionHeld3
namespace Go.Proofs.YtohlkkannjifmaaGreatDoor
open Go.RowKit
theorem write_new (B b N : Nat) (l k : List UInt8) (a : Option Addr) (n c : Nat) (w : World) (h : WrR B b l w) (hr : RB N w a n c k) (hne : ∀ g o s, a = some ⟨g, o, s⟩ → g ≠ b) (hB : B ≤ w.heap.size) (hl : l.length + k.length ≤ 140737488355328) :
    Calls Tryz.prog 87 #[.pointer (some ⟨b, 0, none⟩), .slice a n c] w fun e w' => e = .returned (.tuple #[.int .i64 n, .nilIface]) ∧ WrR B b (l ++ k) w' ∧ Below B w w' := by
  have hn := hr.len
  by_cases hc : 0 < c
  · obtain ⟨g, o, rfl, hg, hcell⟩ := hr.at_ hc
    exact (Tryz.Buffer_Write_at 193 (fun _ => none) B b 0 (l.map bv) (k.map bv) ⟨g, o, none⟩ n c w h hB (one_bv l) (by simp [hn]) (hne g o none rfl) (fun j v hj => by
      have hjl : j < k.length := by
        have := (List.getElem?_eq_some_iff.1 hj).1
        simpa using this
      rw [Addr.add_mid, hcell j (by omega), ← hj]
      simp only [List.getElem?_map, List.getElem?_eq_getElem hjl, Option.map_some, bt, bv, List.getD_eq_getElem?_getD, Option.getD_some]) (one_bv k) (by simpa [hn] using hl)).mono
      fun _ w' ⟨h1, h2, h3, _⟩ => ⟨h1, by unfold WrR; rw [List.map_append]; exact h2, h3⟩
  · have hle := hr.le
    have h0 : n = 0 := by omega
    subst h0
    obtain rfl : k = [] := List.eq_nil_of_length_eq_zero hn.symm
    rw [List.append_nil]
    exact write_none B b (l.map bv) a c w h (by simpa using hl)
theorem wr_new (B : Nat) (W : World) (hB : B ≤ W.heap.size) : WrR B W.heap.size [] (W.alloc (.cells #[.slice none 0 0, .int .i64 0, .int .i8 0] 193)) :=
  LibA.zero_isBuffer hB (LibA.three_whole (heap_alloc_last W _))
theorem WrR.lt {B b : Nat} {l : List UInt8} {w : World} (h : WrR B b l w) : b < w.heap.size := LibA.IsBuffer.lt h
theorem WrR.below {B b : Nat} {l : List UInt8} {w w' : World} (h : WrR B b l w) (hb : Below w.heap.size w w') : WrR B b l w' := LibA.IsBuffer.old h hb
theorem rb_three (W : World) (x : UInt8) : RB (W.heap.size + 1) (W.alloc (.cells #[.int .u8 0, .int .u8 0, .int .u8 (x.toNat : Int)] 5)) (some ⟨W.heap.size, 0, none⟩) 3 3 [0, 0, x] :=
  ⟨rfl, Nat.le_refl _, by omega, by omega, fun _ => ⟨W.heap.size, 0, rfl, by omega, fun i hi => by
    have e : ((W.alloc (.cells #[.int .u8 0, .int .u8 0, .int .u8 (x.toNat : Int)] 5)).cell? ⟨W.heap.size, i, none⟩) = (#[.int .u8 0, .int .u8 0, .int .u8 (x.toNat : Int)] : Array Value)[i]? := cell_of_row _ _ i _ 5 (0, 0) (heap_alloc_last W _)
    rw [Nat.zero_add, e]
    match i, hi with
    | 0, _ => rfl
    | 1, _ => rfl
    | 2, _ => rfl⟩⟩
def encD (d : Int × Int) : List UInt8 := numB d.1 2 ++ numB d.2 8
def encO (o : Int × Int) : List UInt8 := numB o.1 8 ++ numB o.2 8
theorem flat_succ {α : Type} (f : α → List UInt8) (X : List α) (d : α) (j : Nat) (h : j < X.length) : (X.take (j + 1)).flatMap f = (X.take j).flatMap f ++ f (X.getD j d) := by
  rw [List.take_succ_eq_append_getElem h, List.flatMap_append, List.getD_eq_getElem?_getD, List.getElem?_eq_getElem h]
  simp
theorem getD_mem {α : Type} (X : List α) (d : α) (j : Nat) (h : j < X.length) : X.getD j d ∈ X := by
  rw [List.getD_eq_getElem?_getD, List.getElem?_eq_getElem h]
  exact List.getElem_mem h
theorem flat_len {α : Type} (f : α → List UInt8) (k : Nat) (hf : ∀ x, (f x).length = k) (X : List α) (j n : Nat) (h : j ≤ n) : ((X.take j).flatMap f).length ≤ n * k := by
  rw [List.length_flatMap]
  have : ∀ l : List α, (l.map fun a => (f a).length).sum = l.length * k := by
    intro l
    induction l with
    | nil => simp
    | cons a l ih => rw [List.map_cons, List.sum_cons, ih, hf, List.length_cons, Nat.succ_mul, Nat.add_comm]
  rw [this]
  exact Nat.mul_le_mul_right k (by rw [List.length_take]; omega)
theorem mark_facts {wk pv nx pg : Int} {kn on nn : Nat} {D O : List (Int × Int)} (h : rightN wk pv nx 5 pg kn on nn D O = true) :
    D.length ≤ 32 ∧ O.length ≤ 8 ∧ (∀ d ∈ D, 0 ≤ d.1 ∧ d.1 < 8192 ∧ 1 ≤ d.2) ∧ (∀ o ∈ O, 1 ≤ o.1 ∧ 1 ≤ o.2) ∧ kn = 0 := by
  unfold rightN at h
  rw [if_pos rfl] at h
  simp only [Bool.and_eq_true, decide_eq_true_eq, markB, noneN, riseB, List.all_eq_true, dirtyB, pagedB, List.length_map] at h
  obtain ⟨⟨⟨⟨⟨-, -⟩, -⟩, -⟩, hz⟩, ⟨⟨⟨h1, h2⟩, -, h3⟩, h4, h5⟩⟩ := h
  refine ⟨h3, h5, fun d hd => ?_, fun o ho => ?_, by omega⟩
  · have := h1 d hd
    exact ⟨this.2.1, this.2.2, this.1⟩
  · obtain ⟨j, hj, e⟩ := List.getElem_of_mem ho
    have := (h4 j (List.mem_range.2 hj)).1
    rw [List.getD_eq_getElem?_getD, List.getElem?_map, List.getElem?_eq_getElem hj, e] at this
    exact ⟨this, h2 o ho⟩
def PutG (w : World) (lx : List UInt8) (e : Ending) (w' : World) : Prop := ∃ v, e = .returned (.tuple #[v, .int .i64 0]) ∧ OB w.heap.size w' v (numB lx.length 2 ++ lx) ∧ Below w.heap.size w w'
theorem number_i (B b : Nat) (l : List UInt8) (y : Int) (w : World) (h : WrR B b l w) (hB : B ≤ w.heap.size) (hl : l.length ≤ 2000) (h0 : 0 ≤ y) (hy : y ≤ 9223372036854775807) :
    Calls Tryz.prog 88 #[.pointer (some ⟨b, 0, none⟩), .int .i64 y, .int .i64 8] w (fun e w' => e = .returned (.tuple #[]) ∧ WrR B b (l ++ numB y 8) w' ∧ Below B w w' ∧ Lib.OthersKept 5 (some b) w w') ∧
    Calls Tryz.prog 88 #[.pointer (some ⟨b, 0, none⟩), .int .i64 y, .int .i64 2] w (fun e w' => e = .returned (.tuple #[]) ∧ WrR B b (l ++ numB y 2) w' ∧ Below B w w' ∧ Lib.OthersKept 5 (some b) w w') := by
  obtain ⟨n, rfl⟩ : ∃ n : Nat, y = (n : Int) := ⟨y.toNat, by omega⟩
  exact ⟨number_kept B b l n 8 w h hB (by omega) (by omega) (by omega), number_kept B b l n 2 w h hB (by omega) (by omega) (by omega)⟩
structure PtE (N : Nat) (w : World) (ka oa na da pa : Option Addr) (kc oc nc dc pc : Nat) (K O N' : List UInt8) (D M : List (Int × Int)) : Prop where
  k : RB N w ka K.length kc K
  o : RB N w oa O.length oc O
  n : RB N w na N'.length nc N'
  d : PI N w da D.length dc D
  p : PI N w pa M.length pc M
  lt : N ≤ w.heap.size
  dl : D.length ≤ 1000000000
  ml : M.length ≤ 1000000000
  kl : K.length ≤ 1000000000
  ol : O.length ≤ 1000000000
  nl : N'.length ≤ 1000000000
theorem PtE.rte {N : Nat} {w W : World} {ka oa na da pa : Option Addr} {kc oc nc dc pc : Nat} {K O N' : List UInt8} {D M : List (Int × Int)} (h : PtE N w ka oa na da pa kc oc nc dc pc K O N' D M) (hW : Below w.heap.size w W) : RtE N W da pa K.length O.length N'.length dc pc D M :=
  ⟨h.d.below (hW.mono h.lt), h.p.below (hW.mono h.lt), h.kl, h.ol, h.nl, Nat.le_trans h.lt hW.size, h.dl, h.ml⟩
theorem PtE.below {N : Nat} {w W : World} {ka oa na da pa : Option Addr} {kc oc nc dc pc : Nat} {K O N' : List UInt8} {D M : List (Int × Int)} (h : PtE N w ka oa na da pa kc oc nc dc pc K O N' D M) (hW : Below w.heap.size w W) : PtE N W ka oa na da pa kc oc nc dc pc K O N' D M :=
  have hb := hW.mono h.lt
  ⟨h.k.below hb, h.o.below hb, h.n.below hb, h.d.below hb, h.p.below hb, Nat.le_trans h.lt hW.size, h.dl, h.ml, h.kl, h.ol, h.nl⟩
theorem PtE.start {N : Nat} {w : World} {ka oa na da pa : Option Addr} {kc oc nc dc pc : Nat} {K O N' : List UInt8} {D M : List (Int × Int)} (h : PtE N w ka oa na da pa kc oc nc dc pc K O N' D M) (h1 : K.length ≤ 255) (h2 : O.length ≤ 255) (h3 : N'.length ≤ 255) (ls wk pv nx : Int) (kd : Nat) (pg : Int) :
    PutE N w.heap.size (w.alloc (.cells #[.int .i64 ls, .int .i64 wk, .int .i64 pv, .int .i64 nx, .int .u8 kd, .int .i64 pg, .slice ka K.length kc, .slice oa O.length oc, .slice na N'.length nc, .slice da D.length dc, .slice pa M.length pc] 33)) ls wk pv nx kd pg ka oa na da pa kc oc nc dc pc K O N' D M :=
  have hb : ∀ o, Below N w (w.alloc o) := fun o => ((Below.refl _ w).alloc (Nat.le_refl _) o).mono h.lt
  ⟨heap_alloc_last w _, h.k.below (hb _), h.o.below (hb _), h.n.below (hb _), h.d.below (hb _), h.p.below (hb _), h.lt, h1, h2, h3⟩
set_option maxHeartbeats 8000000 in
set_option maxRecDepth 100000 in
theorem put_k5 (N : Nat) (ls wk pv nx : Int) (pg : Int) (ka oa na da pa : Option Addr) (kc oc nc dc pc : Nat) (K O N' : List UInt8) (D M : List (Int × Int)) (w : World) (H : PtE N w ka oa na da pa kc oc nc dc pc K O N' D M) (hr : rightN wk pv nx 5 pg K.length O.length N'.length D M = true) (h1 : K.length ≤ 255) (h2 : O.length ≤ 255) (h3 : N'.length ≤ 255) (_b1 : 0 ≤ wk ∧ wk ≤ 9223372036854775807) (_b2 : 0 ≤ pv ∧ pv ≤ 9223372036854775807) (_b3 : 0 ≤ nx ∧ nx ≤ 9223372036854775807) (_b4 : 0 ≤ pg ∧ pg ≤ 9223372036854775807) (hDM : (∀ d ∈ D, d.2 ≤ 9223372036854775807) ∧ ∀ x ∈ M, x.1 ≤ 9223372036854775807 ∧ x.2 ≤ 9223372036854775807) :
    Calls Tryz.prog 42 #[.agg #[.int .i64 ls, .int .i64 wk, .int .i64 pv, .int .i64 nx, .int .u8 ((5 : Nat) : Int), .int .i64 pg, .slice ka K.length kc, .slice oa O.length oc, .slice na N'.length nc, .slice da D.length dc, .slice pa M.length pc]] w (PutG w ((5 :: (numB (D.length : Int) 2 ++ D.flatMap encD ++ numB (M.length : Int) 2 ++ M.flatMap encO)) ++ rowsB K O N')) := by
  have HRt : Hid (∀ W, Below w.heap.size w W → Calls Tryz.prog 86 #[.agg #[.int .i64 ls, .int .i64 wk, .int .i64 pv, .int .i64 nx, .int .u8 ((5 : Nat) : Int), .int .i64 pg, .slice ka K.length kc, .slice oa O.length oc, .slice na N'.length nc, .slice da D.length dc, .slice pa M.length pc]] W fun e w' => e = .returned (.bool true) ∧ Below W.heap.size W w') := Lib.hid fun W hW => by
    have := right_any N ⟨ls, wk, pv, nx, 5, pg, K, O, N', D, M⟩ ka oa na da pa kc oc nc dc pc W (H.rte hW)
    rw [rightB_eq] at this
    simp only [hr] at this
    exact this
  obtain ⟨md, mm, mda, mma, hk0⟩ := mark_facts hr
  have HDa := Lib.hid mda
  have HMa := Lib.hid mma
  have HDM := Lib.hid hDM
  have HK0 := Lib.hid hk0
  clear mda mma hk0
  have HE0 := Lib.hid (H.start h1 h2 h3 ls wk pv nx 5 pg)
  have HB0 := Lib.hid ((Below.refl w.heap.size w).alloc (Nat.le_refl _) (.cells #[.int .i64 ls, .int .i64 wk, .int .i64 pv, .int .i64 nx, .int .u8 ((5 : Nat) : Int), .int .i64 pg, .slice ka K.length kc, .slice oa O.length oc, .slice na N'.length nc, .slice da D.length dc, .slice pa M.length pc] 33))
  have HlN := Lib.hid H.lt
  clear H hr hDM
  go_enter Tryz.func42, Tryz.ntmps42
  go_upto_region 4 with (go_at_call 86; refine (HRt.out _ HB0.out).mono ?_; rintro e w1 ⟨rfl, hb1⟩; have hs1 := hb1.size; rw [World.size_alloc] at hs1 hb1; have B1 := Lib.hid (HB0.out.trans (hb1.mono (by omega))); have E1 := Lib.hid (HE0.out.below hb1 (by omega)); clear hb1)
  have hw3 := wr_new (w.heap.size + 1) w1 hs1
  have hE3 := E1.out.below (((Below.refl w1.heap.size w1).alloc (Nat.le_refl _) (.cells #[.slice none 0 0, .int .i64 0, .int .i8 0] 193))) (by omega)
  have hB3 := B1.out.alloc B1.out.size (.cells #[.slice none 0 0, .int .i64 0, .int .i8 0] 193)
  generalize hq : w1.heap.size = wb at *
  obtain ⟨W3, hW3⟩ : ∃ W3, W3 = w1.alloc (.cells #[.slice none 0 0, .int .i64 0, .int .i8 0] 193) := ⟨_, rfl⟩
  have hs3 : W3.heap.size = wb + 1 := by rw [hW3, World.size_alloc, hq]
  rw [← hW3] at hw3 hE3 hB3 ⊢
  have Hw3 := Lib.hid hw3
  have E3 := Lib.hid hE3
  have B3 := Lib.hid hB3
  have y4 : W3.cell? ⟨w.heap.size, 4, none⟩ = some (.int .u8 (5 : Int)) := hE3.cell (i := 4) rfl
  have HS3 := Lib.hid hs3
  have hwb : w.heap.size + 1 ≤ wb := by omega
  have hs3' : wb < W3.heap.size := by omega
  clear hw3 hE3 hB3 hW3 hq hs3 hs1
  clear B1 E1
  clear w1
  have R4 := Lib.hid (rb_three W3 5)
  have BW : Hid (Below (w.heap.size + 1) W3 (W3.alloc (.cells #[.int .u8 0, .int .u8 0, .int .u8 (5 : Int)] 5)).drew) := Lib.hid (((Below.refl _ W3).alloc (by omega) _).drew)
  have B4 := Lib.hid (B3.out.trans (BW.out.mono (by omega)))
  have E4 := Lib.hid (E3.out.below BW.out (by omega))
  have HWr := Lib.hid (write_new (w.heap.size + 1) wb (W3.heap.size + 1) [] [0, 0, 5] (some ⟨W3.heap.size, 0, none⟩) 3 3 (W3.alloc (.cells #[.int .u8 0, .int .u8 0, .int .u8 (5 : Int)] 5)).drew (Hw3.out.below (((Below.refl _ W3).alloc (Nat.le_refl _) _).drew)) (R4.out.below ((Below.refl _ _).drew)) (fun g o s e => by cases e; omega) (Nat.le_trans (by omega) BW.out.size) (by simp))
  rw [List.nil_append] at HWr
  go_region_held3 (fun w' => w'.cell? ⟨w.heap.size, 4, none⟩ = some (.int .u8 (5 : Int))) (first | go_keep | assumption) (first | (go_at_call 87; refine HWr.out.mono ?_; rintro e w5 ⟨rfl, hw5, hb5⟩; have S5 := Lib.hid (Nat.le_trans BW.out.size hb5.size); have W5 := Lib.hid hw5; have E5 := Lib.hid (E4.out.below hb5 (by omega)); have B5 := Lib.hid (B4.out.trans (hb5.mono (by omega))); have y5_4 := E5.out.cell (i := 4) rfl; have y5_9 := E5.out.cell (i := 9) rfl; have y5_10 := E5.out.cell (i := 10) rfl; clear hw5 hb5))
  have N5 := Lib.hid (number_i (w.heap.size + 1) wb ([0, 0, 5]) (D.length : Int) w5 W5.out (Nat.le_trans (by omega) S5.out) (by simp) (by omega) (by omega)).2
  have dmx := E5.out.d.mx
  have dlm := E5.out.d.lm
  have dle := E5.out.d.le
  have pmx := E5.out.p.mx
  have plm := E5.out.p.lm
  have ple := E5.out.p.le
  obtain ⟨n, hn⟩ : ∃ n, n = D.length := ⟨_, rfl⟩
  obtain ⟨m, hm⟩ : ∃ m, m = M.length := ⟨_, rfl⟩
  rw [← hn] at N5 y5_9 dle md dlm
  rw [← hm] at y5_10 ple mm plm
  have HN := Lib.hid hn
  have HM := Lib.hid hm
  clear hn hm
  go_wp2_with (go_at_call 88; (with_reducible refine N5.out.mono ?_); rintro e w6 ⟨rfl, hw, hb, -⟩; have S6 := Lib.hid (Nat.le_trans S5.out hb.size); have W6 := Lib.hid hw; have E6 := Lib.hid (E5.out.below hb (by omega)); have B6 := Lib.hid (B5.out.trans (hb.mono (by omega))); have y6_9 := E6.out.cell (i := 9) rfl; rw [← HN.out] at y6_9; clear hw hb)
  go_loopw [34] (fun i wr => ∃ j : Nat, j ≤ n ∧ i = .int .i64 j ∧ Hid (WrR (w.heap.size + 1) wb (0 :: 0 :: (5 :: (numB (n : Int) 2 ++ (D.take j).flatMap encD))) wr) ∧ Hid (Below (w.heap.size + 1) w6 wr)) (fun i _ => n - (inOf i).toNat)
  case atStart => exact ⟨0, Nat.zero_le _, rfl, by simpa using W6, Lib.hid (Below.refl _ _)⟩
  case round =>
    obtain ⟨j, hj, rfl, Hw, Hb⟩ := hrel
    have Er := Lib.hid (E6.out.below Hb.out (by omega))
    have Br := Lib.hid (B6.out.trans (Hb.out.mono (by omega)))
    have Sr := Lib.hid (Nat.le_trans S6.out Hb.out.size)
    by_cases hlt : j < n
    · obtain ⟨b, o, rfl, hbB, hcs⟩ := Er.out.d.at_ (by omega)
      have z0 := (hcs j (by have := HN.out; omega)).1
      have z1 := (hcs j (by have := HN.out; omega)).2
      have HX : Hid ((D.take (j + 1)).flatMap encD = (D.take j).flatMap encD ++ (numB (D.getD j (0, 0)).1 2 ++ numB (D.getD j (0, 0)).2 8)) := Lib.hid (flat_succ encD D (0, 0) j (by have := HN.out; omega))
      have hmem : D.getD j (0, 0) ∈ D := getD_mem D (0, 0) j (by have := HN.out; omega)
      have hx := HDa.out _ hmem
      have hy := HDM.out.1 _ hmem
      have HL : Hid (((D.take j).flatMap encD).length ≤ 32 * 10) := Lib.hid (flat_len encD 10 (fun d => by simp [encD, numB_len]) D j 32 (by omega))
      clear hcs hmem
      generalize (D.getD j (0, 0)).1 = x at *
      generalize (D.getD j (0, 0)).2 = y at *
      have f2 : IntKind.i64.wrap ((j : Int) + 1) = ((j + 1 : Nat) : Int) := by rw [IntWalk.i64_in _ (by omega)]; omega
      have Ba := Lib.hid ((Below.refl wr.heap.size wr).alloc (Nat.le_refl _) (.cells #[.int .i64 x, .int .i64 y] 80))
      have Sa := Lib.hid (Nat.le_trans Sr.out Ba.out.size)
      have Na := Lib.hid (number_i (w.heap.size + 1) wb _ x _ (Hw.out.below Ba.out) (Nat.le_trans (by omega) Sa.out) (by have := HL.out; simp only [List.length_cons, List.length_append, numB_len]; omega) hx.1 (by omega)).2
      go_wp2_with (first | (go_at_call 88; (with_reducible refine Na.out.mono ?_); rintro e w7 ⟨rfl, hw7, hb7, hk7⟩; have q7 := hk7 _ _ (heap_alloc_last wr _) (by have := Sr.out; simp only [ne_eq, Option.some.injEq]; have := Hw.out.lt; omega) (by intro c fz e; cases e); have S7 := Lib.hid (Nat.le_trans Sa.out hb7.size); have z7 : w7.cell? ⟨wr.heap.size, 1, none⟩ = some (.int .i64 y) := (by simp [World.cell?, q7]); have B7 := Lib.hid ((Ba.out.mono (by have := Sr.out; omega)).trans hb7); have Nb := Lib.hid (number_i (w.heap.size + 1) wb _ y _ hw7 (Nat.le_trans (by omega) S7.out) (by have := HL.out; simp only [List.length_cons, List.length_append, numB_len]; omega) (by omega) hy).1; clear hw7 hb7) | (go_at_call 88; (with_reducible refine Nb.out.mono ?_); rintro e w8 ⟨rfl, hw8, hb8, -⟩; have W8 := Lib.hid hw8; have B8 := Lib.hid (Hb.out.trans (B7.out.trans hb8)); clear hw8 hb8))
      go_roundw
      case rel => exact ⟨j + 1, by omega, by go_num, by rw [HX.out]; simpa using W8, B8⟩
      case measure => simp [inOf]; omega
    · obtain rfl : j = n := by omega
      have HD : Hid ((D.take j).flatMap encD = D.flatMap encD) := Lib.hid (by rw [List.take_of_length_le (by have := HN.out; omega)])
      rw [HD.out] at Hw
      have HL : Hid ((D.flatMap encD).length ≤ 32 * 10) := Lib.hid (by have := flat_len encD 10 (fun d => by simp [encD, numB_len]) D j 32 (by omega); rwa [HD.out] at this)
      have yr_10 := Er.out.cell (i := 10) rfl
      rw [← HM.out] at yr_10
      have N9 := Lib.hid (number_i (w.heap.size + 1) wb _ (m : Int) wr Hw.out (Nat.le_trans (by omega) Sr.out) (by have := HL.out; simp only [List.length_cons, List.length_append, numB_len]; omega) (by omega) (by omega)).2
      generalize D.flatMap encD = X at *
      clear HD
      go_wp2_with (go_at_call 88; (with_reducible refine N9.out.mono ?_); rintro e w9 ⟨rfl, hw, hb, -⟩; have S9 := Lib.hid (Nat.le_trans Sr.out hb.size); have W9 := Lib.hid hw; have E9 := Lib.hid (Er.out.below hb (by omega)); have B9 := Lib.hid (Br.out.trans (hb.mono (by omega))); have y9_10 := E9.out.cell (i := 10) rfl; rw [← HM.out] at y9_10; clear hw hb)
      go_loopw [55] (fun i wr => ∃ i' : Nat, i' ≤ m ∧ i = .int .i64 i' ∧ Hid (WrR (w.heap.size + 1) wb (0 :: 0 :: (5 :: (numB (j : Int) 2 ++ X ++ numB (m : Int) 2 ++ (M.take i').flatMap encO))) wr) ∧ Hid (Below (w.heap.size + 1) w9 wr)) (fun i _ => m - (inOf i).toNat)
      case atStart => exact ⟨0, Nat.zero_le _, rfl, by simpa using W9, Lib.hid (Below.refl _ _)⟩
      case round =>
        obtain ⟨q, hq, rfl, Hv, Hc⟩ := hrel
        obtain ⟨wv, rfl⟩ : ∃ z, z = wr := ⟨_, rfl⟩
        have Ev := Lib.hid (E9.out.below Hc.out (by omega))
        have Bv := Lib.hid (B9.out.trans (Hc.out.mono (by omega)))
        have Sv := Lib.hid (Nat.le_trans S9.out Hc.out.size)
        by_cases hlt : q < m
        · obtain ⟨b, o, rfl, hbB, hcs⟩ := Ev.out.p.at_ (by omega)
          have z0 := (hcs q (by have := HM.out; omega)).1
          have z1 := (hcs q (by have := HM.out; omega)).2
          have HX : Hid ((M.take (q + 1)).flatMap encO = (M.take q).flatMap encO ++ (numB (M.getD q (0, 0)).1 8 ++ numB (M.getD q (0, 0)).2 8)) := Lib.hid (flat_succ encO M (0, 0) q (by have := HM.out; omega))
          have hmem : M.getD q (0, 0) ∈ M := getD_mem M (0, 0) q (by have := HM.out; omega)
          have hx := HMa.out _ hmem
          have hy := HDM.out.2 _ hmem
          have HL2 : Hid (((M.take q).flatMap encO).length ≤ 8 * 16) := Lib.hid (flat_len encO 16 (fun d => by simp [encO, numB_len]) M q 8 (by omega))
          clear hcs hmem
          generalize (M.getD q (0, 0)).1 = x at *
          generalize (M.getD q (0, 0)).2 = y at *
          have f2 : IntKind.i64.wrap ((q : Int) + 1) = ((q + 1 : Nat) : Int) := by rw [IntWalk.i64_in _ (by omega)]; omega
          have Ba := Lib.hid ((Below.refl wv.heap.size wv).alloc (Nat.le_refl _) (.cells #[.int .i64 x, .int .i64 y] 200))
          have Sa := Lib.hid (Nat.le_trans Sv.out Ba.out.size)
          have Na := Lib.hid (number_i (w.heap.size + 1) wb _ x _ (Hv.out.below Ba.out) (Nat.le_trans (by omega) Sa.out) (by have := HL.out; have := HL2.out; simp only [List.length_cons, List.length_append, numB_len]; omega) (by omega) hy.1).1
          go_wp2_with (first | (go_at_call 88; (with_reducible refine Na.out.mono ?_); rintro e w7 ⟨rfl, hw7, hb7, hk7⟩; have q7 := hk7 _ _ (heap_alloc_last wv _) (by have := Sv.out; simp only [ne_eq, Option.some.injEq]; have := Hv.out.lt; omega) (by intro c fz e; cases e); have S7 := Lib.hid (Nat.le_trans Sa.out hb7.size); have z7 : w7.cell? ⟨wv.heap.size, 1, none⟩ = some (.int .i64 y) := (by simp [World.cell?, q7]); have B7 := Lib.hid ((Ba.out.mono (by have := Sv.out; omega)).trans hb7); have Nb := Lib.hid (number_i (w.heap.size + 1) wb _ y _ hw7 (Nat.le_trans (by omega) S7.out) (by have := HL.out; have := HL2.out; simp only [List.length_cons, List.length_append, numB_len]; omega) (by omega) hy.2).1; clear hw7 hb7) | (go_at_call 88; (with_reducible refine Nb.out.mono ?_); rintro e w8 ⟨rfl, hw8, hb8, -⟩; have W8 := Lib.hid hw8; have B8 := Lib.hid (Hc.out.trans (B7.out.trans hb8)); clear hw8 hb8))
          go_roundw
          case rel => exact ⟨q + 1, by omega, by go_num, by rw [HX.out]; simpa using W8, B8⟩
          case measure => simp [inOf]; omega
        · obtain rfl : q = m := by omega
          have HM2 : Hid ((M.take q).flatMap encO = M.flatMap encO) := Lib.hid (by rw [List.take_of_length_le (by have := HM.out; omega)])
          rw [HM2.out] at Hv
          have HL2 : Hid ((M.flatMap encO).length ≤ 8 * 16) := Lib.hid (by have := flat_len encO 16 (fun d => by simp [encO, numB_len]) M q 8 (by omega); rwa [HM2.out] at this)
          have yv_4 := Ev.out.cell (i := 4) rfl
          go_upto_region 31 with (fail)
          exact put_tail N w.heap.size wb ls wk pv nx 5 pg ka oa na da pa kc oc nc dc pc K O N' D M (5 :: (numB (j : Int) 2 ++ X ++ numB (q : Int) 2 ++ M.flatMap encO)) w _ _ Ev.out Hv.out (Nat.le_trans (by omega) Sv.out) (Nat.le_refl _) Bv.out (by have := HL.out; have := HL2.out; simp only [List.length_cons, List.length_append, numB_len]; omega) (fun v w' ho hb => ⟨v, rfl, by rw [← HN.out, ← HM.out]; exact ho, hb⟩) _ _ _ _ _ _ _ _ _ _ _ _ _ _ _ _ _ _ _ _ _ _ _ _ _ _ _ _ _ _ _ _ _ _ _ _ _ _ _ _ _ _ _ _ _ _ _ _ _ _ _ _ _ _ _ _ _ _ _ _ _ _ _ _ _ _ _ _ _ _ _ _ _ _ _ _ _ _ _ _ _ _ _ _ _ _ _ _ _ _ _ _ _ _ _ _ _ _ _ _ _ _ _ _ _ _ _ _ _ _ _ _ _ _ _ _ _ _ _ _ _ _ _ _ _ _ _ _ _ _ _ _ _ _ _ _ _ _ _ _ _ _ (by assumption) (by assumption)
set_option maxHeartbeats 8000000 in
set_option maxRecDepth 100000 in
theorem put_k1 (N : Nat) (ls wk pv nx : Int) (pg : Int) (ka oa na da pa : Option Addr) (kc oc nc dc pc : Nat) (K O N' : List UInt8) (D M : List (Int × Int)) (w : World) (H : PtE N w ka oa na da pa kc oc nc dc pc K O N' D M) (hr : rightN wk pv nx 1 pg K.length O.length N'.length D M = true) (h1 : K.length ≤ 255) (h2 : O.length ≤ 255) (h3 : N'.length ≤ 255) (b1 : 0 ≤ wk ∧ wk ≤ 9223372036854775807) (b2 : 0 ≤ pv ∧ pv ≤ 9223372036854775807) (_b3 : 0 ≤ nx ∧ nx ≤ 9223372036854775807) (b4 : 0 ≤ pg ∧ pg ≤ 9223372036854775807) :
    Calls Tryz.prog 42 #[.agg #[.int .i64 ls, .int .i64 wk, .int .i64 pv, .int .i64 nx, .int .u8 ((1 : Nat) : Int), .int .i64 pg, .slice ka K.length kc, .slice oa O.length oc, .slice na N'.length nc, .slice da D.length dc, .slice pa M.length pc]] w (PutG w ((1 :: (numB wk 8 ++ numB pv 8 ++ numB pg 2)) ++ rowsB K O N')) := by
  have HRt : Hid (∀ W, Below w.heap.size w W → Calls Tryz.prog 86 #[.agg #[.int .i64 ls, .int .i64 wk, .int .i64 pv, .int .i64 nx, .int .u8 ((1 : Nat) : Int), .int .i64 pg, .slice ka K.length kc, .slice oa O.length oc, .slice na N'.length nc, .slice da D.length dc, .slice pa M.length pc]] W fun e w' => e = .returned (.bool true) ∧ Below W.heap.size W w') := Lib.hid fun W hW => by
    have := right_any N ⟨ls, wk, pv, nx, 1, pg, K, O, N', D, M⟩ ka oa na da pa kc oc nc dc pc W (H.rte hW)
    rw [rightB_eq] at this
    simp only [hr] at this
    exact this
  have HE0 := Lib.hid (H.start h1 h2 h3 ls wk pv nx 1 pg)
  have HB0 := Lib.hid ((Below.refl w.heap.size w).alloc (Nat.le_refl _) (.cells #[.int .i64 ls, .int .i64 wk, .int .i64 pv, .int .i64 nx, .int .u8 ((1 : Nat) : Int), .int .i64 pg, .slice ka K.length kc, .slice oa O.length oc, .slice na N'.length nc, .slice da D.length dc, .slice pa M.length pc] 33))
  have HlN := Lib.hid H.lt
  clear H hr
  go_enter Tryz.func42, Tryz.ntmps42
  go_upto_region 4 with (go_at_call 86; refine (HRt.out _ HB0.out).mono ?_; rintro e w1 ⟨rfl, hb1⟩; have hs1 := hb1.size; rw [World.size_alloc] at hs1 hb1; have B1 := Lib.hid (HB0.out.trans (hb1.mono (by omega))); have E1 := Lib.hid (HE0.out.below hb1 (by omega)); clear hb1)
  have hw3 := wr_new (w.heap.size + 1) w1 hs1
  have hE3 := E1.out.below (((Below.refl w1.heap.size w1).alloc (Nat.le_refl _) (.cells #[.slice none 0 0, .int .i64 0, .int .i8 0] 193))) (by omega)
  have hB3 := B1.out.alloc B1.out.size (.cells #[.slice none 0 0, .int .i64 0, .int .i8 0] 193)
  generalize hq : w1.heap.size = wb at *
  obtain ⟨W3, hW3⟩ : ∃ W3, W3 = w1.alloc (.cells #[.slice none 0 0, .int .i64 0, .int .i8 0] 193) := ⟨_, rfl⟩
  have hs3 : W3.heap.size = wb + 1 := by rw [hW3, World.size_alloc, hq]
  rw [← hW3] at hw3 hE3 hB3 ⊢
  have Hw3 := Lib.hid hw3
  have E3 := Lib.hid hE3
  have B3 := Lib.hid hB3
  have y4 : W3.cell? ⟨w.heap.size, 4, none⟩ = some (.int .u8 (1 : Int)) := hE3.cell (i := 4) rfl
  have HS3 := Lib.hid hs3
  have hwb : w.heap.size + 1 ≤ wb := by omega
  have hs3' : wb < W3.heap.size := by omega
  clear hw3 hE3 hB3 hW3 hq hs3 hs1
  clear B1 E1
  clear w1
  have R4 := Lib.hid (rb_three W3 1)
  have BW : Hid (Below (w.heap.size + 1) W3 (W3.alloc (.cells #[.int .u8 0, .int .u8 0, .int .u8 (1 : Int)] 5)).drew) := Lib.hid (((Below.refl _ W3).alloc (by omega) _).drew)
  have B4 := Lib.hid (B3.out.trans (BW.out.mono (by omega)))
  have E4 := Lib.hid (E3.out.below BW.out (by omega))
  have HWr := Lib.hid (write_new (w.heap.size + 1) wb (W3.heap.size + 1) [] [0, 0, 1] (some ⟨W3.heap.size, 0, none⟩) 3 3 (W3.alloc (.cells #[.int .u8 0, .int .u8 0, .int .u8 (1 : Int)] 5)).drew (Hw3.out.below (((Below.refl _ W3).alloc (Nat.le_refl _) _).drew)) (R4.out.below ((Below.refl _ _).drew)) (fun g o s e => by cases e; omega) (Nat.le_trans (by omega) BW.out.size) (by simp))
  rw [List.nil_append] at HWr
  go_region_held3 (fun w' => w'.cell? ⟨w.heap.size, 4, none⟩ = some (.int .u8 (1 : Int))) (first | go_keep | assumption) (first | (go_at_call 87; refine HWr.out.mono ?_; rintro e w5 ⟨rfl, hw5, hb5⟩; have S5 := Lib.hid (Nat.le_trans BW.out.size hb5.size); have W5 := Lib.hid hw5; have E5 := Lib.hid (E4.out.below hb5 (by omega)); have B5 := Lib.hid (B4.out.trans (hb5.mono (by omega))); have y5_1 := E5.out.cell (i := 1) rfl; have y5_2 := E5.out.cell (i := 2) rfl; have y5_3 := E5.out.cell (i := 3) rfl; have y5_4 := E5.out.cell (i := 4) rfl; have y5_5 := E5.out.cell (i := 5) rfl; clear hw5 hb5))
  have N5 := Lib.hid (number_i (w.heap.size + 1) wb ([0, 0, 1]) wk w5 W5.out (Nat.le_trans (by omega) S5.out) (by simp) b1.1 b1.2).1
  go_upto_region 31 with (first | (go_at_call 88; (with_reducible refine N5.out.mono ?_); rintro e w6 ⟨rfl, hw, hb, -⟩; have S6 := Lib.hid (Nat.le_trans S5.out hb.size); have W6 := Lib.hid hw; have E6 := Lib.hid (E5.out.below hb (by omega)); have B6 := Lib.hid (B5.out.trans (hb.mono (by omega))); clear hw hb; have y6_1 := E6.out.cell (i := 1) rfl; have y6_2 := E6.out.cell (i := 2) rfl; have y6_3 := E6.out.cell (i := 3) rfl; have y6_4 := E6.out.cell (i := 4) rfl; have y6_5 := E6.out.cell (i := 5) rfl; have N6 := Lib.hid (number_i (w.heap.size + 1) wb ([0, 0, 1] ++ numB wk 8) pv w6 W6.out (Nat.le_trans (by omega) S6.out) (by simp [numB_len]) b2.1 b2.2).1) | (go_at_call 88; (with_reducible refine N6.out.mono ?_); rintro e w7 ⟨rfl, hw, hb, -⟩; have S7 := Lib.hid (Nat.le_trans S6.out hb.size); have W7 := Lib.hid hw; have E7 := Lib.hid (E6.out.below hb (by omega)); have B7 := Lib.hid (B6.out.trans (hb.mono (by omega))); clear hw hb; have y7_1 := E7.out.cell (i := 1) rfl; have y7_2 := E7.out.cell (i := 2) rfl; have y7_3 := E7.out.cell (i := 3) rfl; have y7_4 := E7.out.cell (i := 4) rfl; have y7_5 := E7.out.cell (i := 5) rfl; have N7 := Lib.hid (number_i (w.heap.size + 1) wb ([0, 0, 1] ++ numB wk 8 ++ numB pv 8) pg w7 W7.out (Nat.le_trans (by omega) S7.out) (by simp [numB_len]) b4.1 b4.2).2) | (go_at_call 88; (with_reducible refine N7.out.mono ?_); rintro e w8 ⟨rfl, hw, hb, -⟩; have S8 := Lib.hid (Nat.le_trans S7.out hb.size); have W8 := Lib.hid hw; have E8 := Lib.hid (E7.out.below hb (by omega)); have B8 := Lib.hid (B7.out.trans (hb.mono (by omega))); clear hw hb; have y8_1 := E8.out.cell (i := 1) rfl; have y8_2 := E8.out.cell (i := 2) rfl; have y8_3 := E8.out.cell (i := 3) rfl; have y8_4 := E8.out.cell (i := 4) rfl; have y8_5 := E8.out.cell (i := 5) rfl;))
  exact put_tail N w.heap.size wb ls wk pv nx 1 pg ka oa na da pa kc oc nc dc pc K O N' D M ((1 :: (numB wk 8 ++ numB pv 8 ++ numB pg 2))) w _ _ E8.out (by simpa using W8.out) (Nat.le_trans (by omega) S8.out) (Nat.le_refl _) B8.out (by simp [numB_len]) (fun v w' ho hb => ⟨v, rfl, ho, hb⟩) _ _ _ _ _ _ _ _ _ _ _ _ _ _ _ _ _ _ _ _ _ _ _ _ _ _ _ _ _ _ _ _ _ _ _ _ _ _ _ _ _ _ _ _ _ _ _ _ _ _ _ _ _ _ _ _ _ _ _ _ _ _ _ _ _ _ _ _ _ _ _ _ _ _ _ _ _ _ _ _ _ _ _ _ _ _ _ _ _ _ _ _ _ _ _ _ _ _ _ _ _ _ _ _ _ _ _ _ _ _ _ _ _ _ _ _ _ _ _ _ _ _ _ _ _ _ _ _ _ _ _ _ _ _ _ _ _ _ _ _ _ _ (by assumption) (by assumption)
set_option maxHeartbeats 8000000 in
set_option maxRecDepth 100000 in
theorem put_k2 (N : Nat) (ls wk pv nx : Int) (pg : Int) (ka oa na da pa : Option Addr) (kc oc nc dc pc : Nat) (K O N' : List UInt8) (D M : List (Int × Int)) (w : World) (H : PtE N w ka oa na da pa kc oc nc dc pc K O N' D M) (hr : rightN wk pv nx 2 pg K.length O.length N'.length D M = true) (h1 : K.length ≤ 255) (h2 : O.length ≤ 255) (h3 : N'.length ≤ 255) (b1 : 0 ≤ wk ∧ wk ≤ 9223372036854775807) (b2 : 0 ≤ pv ∧ pv ≤ 9223372036854775807) (b3 : 0 ≤ nx ∧ nx ≤ 9223372036854775807) (b4 : 0 ≤ pg ∧ pg ≤ 9223372036854775807) :
    Calls Tryz.prog 42 #[.agg #[.int .i64 ls, .int .i64 wk, .int .i64 pv, .int .i64 nx, .int .u8 ((2 : Nat) : Int), .int .i64 pg, .slice ka K.length kc, .slice oa O.length oc, .slice na N'.length nc, .slice da D.length dc, .slice pa M.length pc]] w (PutG w ((2 :: (numB wk 8 ++ numB pv 8 ++ numB nx 8 ++ numB pg 2)) ++ rowsB K O N')) := by
  have HRt : Hid (∀ W, Below w.heap.size w W → Calls Tryz.prog 86 #[.agg #[.int .i64 ls, .int .i64 wk, .int .i64 pv, .int .i64 nx, .int .u8 ((2 : Nat) : Int), .int .i64 pg, .slice ka K.length kc, .slice oa O.length oc, .slice na N'.length nc, .slice da D.length dc, .slice pa M.length pc]] W fun e w' => e = .returned (.bool true) ∧ Below W.heap.size W w') := Lib.hid fun W hW => by
    have := right_any N ⟨ls, wk, pv, nx, 2, pg, K, O, N', D, M⟩ ka oa na da pa kc oc nc dc pc W (H.rte hW)
    rw [rightB_eq] at this
    simp only [hr] at this
    exact this
  have HE0 := Lib.hid (H.start h1 h2 h3 ls wk pv nx 2 pg)
  have HB0 := Lib.hid ((Below.refl w.heap.size w).alloc (Nat.le_refl _) (.cells #[.int .i64 ls, .int .i64 wk, .int .i64 pv, .int .i64 nx, .int .u8 ((2 : Nat) : Int), .int .i64 pg, .slice ka K.length kc, .slice oa O.length oc, .slice na N'.length nc, .slice da D.length dc, .slice pa M.length pc] 33))
  have HlN := Lib.hid H.lt
  clear H hr
  go_enter Tryz.func42, Tryz.ntmps42
  go_upto_region 4 with (go_at_call 86; refine (HRt.out _ HB0.out).mono ?_; rintro e w1 ⟨rfl, hb1⟩; have hs1 := hb1.size; rw [World.size_alloc] at hs1 hb1; have B1 := Lib.hid (HB0.out.trans (hb1.mono (by omega))); have E1 := Lib.hid (HE0.out.below hb1 (by omega)); clear hb1)
  have hw3 := wr_new (w.heap.size + 1) w1 hs1
  have hE3 := E1.out.below (((Below.refl w1.heap.size w1).alloc (Nat.le_refl _) (.cells #[.slice none 0 0, .int .i64 0, .int .i8 0] 193))) (by omega)
  have hB3 := B1.out.alloc B1.out.size (.cells #[.slice none 0 0, .int .i64 0, .int .i8 0] 193)
  generalize hq : w1.heap.size = wb at *
  obtain ⟨W3, hW3⟩ : ∃ W3, W3 = w1.alloc (.cells #[.slice none 0 0, .int .i64 0, .int .i8 0] 193) := ⟨_, rfl⟩
  have hs3 : W3.heap.size = wb + 1 := by rw [hW3, World.size_alloc, hq]
  rw [← hW3] at hw3 hE3 hB3 ⊢
  have Hw3 := Lib.hid hw3
  have E3 := Lib.hid hE3
  have B3 := Lib.hid hB3
  have y4 : W3.cell? ⟨w.heap.size, 4, none⟩ = some (.int .u8 (2 : Int)) := hE3.cell (i := 4) rfl
  have HS3 := Lib.hid hs3
  have hwb : w.heap.size + 1 ≤ wb := by omega
  have hs3' : wb < W3.heap.size := by omega
  clear hw3 hE3 hB3 hW3 hq hs3 hs1
  clear B1 E1
  clear w1
  have R4 := Lib.hid (rb_three W3 2)
  have BW : Hid (Below (w.heap.size + 1) W3 (W3.alloc (.cells #[.int .u8 0, .int .u8 0, .int .u8 (2 : Int)] 5)).drew) := Lib.hid (((Below.refl _ W3).alloc (by omega) _).drew)
  have B4 := Lib.hid (B3.out.trans (BW.out.mono (by omega)))
  have E4 := Lib.hid (E3.out.below BW.out (by omega))
  have HWr := Lib.hid (write_new (w.heap.size + 1) wb (W3.heap.size + 1) [] [0, 0, 2] (some ⟨W3.heap.size, 0, none⟩) 3 3 (W3.alloc (.cells #[.int .u8 0, .int .u8 0, .int .u8 (2 : Int)] 5)).drew (Hw3.out.below (((Below.refl _ W3).alloc (Nat.le_refl _) _).drew)) (R4.out.below ((Below.refl _ _).drew)) (fun g o s e => by cases e; omega) (Nat.le_trans (by omega) BW.out.size) (by simp))
  rw [List.nil_append] at HWr
  go_region_held3 (fun w' => w'.cell? ⟨w.heap.size, 4, none⟩ = some (.int .u8 (2 : Int))) (first | go_keep | assumption) (first | (go_at_call 87; refine HWr.out.mono ?_; rintro e w5 ⟨rfl, hw5, hb5⟩; have S5 := Lib.hid (Nat.le_trans BW.out.size hb5.size); have W5 := Lib.hid hw5; have E5 := Lib.hid (E4.out.below hb5 (by omega)); have B5 := Lib.hid (B4.out.trans (hb5.mono (by omega))); have y5_1 := E5.out.cell (i := 1) rfl; have y5_2 := E5.out.cell (i := 2) rfl; have y5_3 := E5.out.cell (i := 3) rfl; have y5_4 := E5.out.cell (i := 4) rfl; have y5_5 := E5.out.cell (i := 5) rfl; clear hw5 hb5))
  have N5 := Lib.hid (number_i (w.heap.size + 1) wb ([0, 0, 2]) wk w5 W5.out (Nat.le_trans (by omega) S5.out) (by simp) b1.1 b1.2).1
  go_upto_region 31 with (first | (go_at_call 88; (with_reducible refine N5.out.mono ?_); rintro e w6 ⟨rfl, hw, hb, -⟩; have S6 := Lib.hid (Nat.le_trans S5.out hb.size); have W6 := Lib.hid hw; have E6 := Lib.hid (E5.out.below hb (by omega)); have B6 := Lib.hid (B5.out.trans (hb.mono (by omega))); clear hw hb; have y6_1 := E6.out.cell (i := 1) rfl; have y6_2 := E6.out.cell (i := 2) rfl; have y6_3 := E6.out.cell (i := 3) rfl; have y6_4 := E6.out.cell (i := 4) rfl; have y6_5 := E6.out.cell (i := 5) rfl; have N6 := Lib.hid (number_i (w.heap.size + 1) wb ([0, 0, 2] ++ numB wk 8) pv w6 W6.out (Nat.le_trans (by omega) S6.out) (by simp [numB_len]) b2.1 b2.2).1) | (go_at_call 88; (with_reducible refine N6.out.mono ?_); rintro e w7 ⟨rfl, hw, hb, -⟩; have S7 := Lib.hid (Nat.le_trans S6.out hb.size); have W7 := Lib.hid hw; have E7 := Lib.hid (E6.out.below hb (by omega)); have B7 := Lib.hid (B6.out.trans (hb.mono (by omega))); clear hw hb; have y7_1 := E7.out.cell (i := 1) rfl; have y7_2 := E7.out.cell (i := 2) rfl; have y7_3 := E7.out.cell (i := 3) rfl; have y7_4 := E7.out.cell (i := 4) rfl; have y7_5 := E7.out.cell (i := 5) rfl; have N7 := Lib.hid (number_i (w.heap.size + 1) wb ([0, 0, 2] ++ numB wk 8 ++ numB pv 8) nx w7 W7.out (Nat.le_trans (by omega) S7.out) (by simp [numB_len]) b3.1 b3.2).1) | (go_at_call 88; (with_reducible refine N7.out.mono ?_); rintro e w8 ⟨rfl, hw, hb, -⟩; have S8 := Lib.hid (Nat.le_trans S7.out hb.size); have W8 := Lib.hid hw; have E8 := Lib.hid (E7.out.below hb (by omega)); have B8 := Lib.hid (B7.out.trans (hb.mono (by omega))); clear hw hb; have y8_1 := E8.out.cell (i := 1) rfl; have y8_2 := E8.out.cell (i := 2) rfl; have y8_3 := E8.out.cell (i := 3) rfl; have y8_4 := E8.out.cell (i := 4) rfl; have y8_5 := E8.out.cell (i := 5) rfl; have N8 := Lib.hid (number_i (w.heap.size + 1) wb ([0, 0, 2] ++ numB wk 8 ++ numB pv 8 ++ numB nx 8) pg w8 W8.out (Nat.le_trans (by omega) S8.out) (by simp [numB_len]) b4.1 b4.2).2) | (go_at_call 88; (with_reducible refine N8.out.mono ?_); rintro e w9 ⟨rfl, hw, hb, -⟩; have S9 := Lib.hid (Nat.le_trans S8.out hb.size); have W9 := Lib.hid hw; have E9 := Lib.hid (E8.out.below hb (by omega)); have B9 := Lib.hid (B8.out.trans (hb.mono (by omega))); clear hw hb; have y9_1 := E9.out.cell (i := 1) rfl; have y9_2 := E9.out.cell (i := 2) rfl; have y9_3 := E9.out.cell (i := 3) rfl; have y9_4 := E9.out.cell (i := 4) rfl; have y9_5 := E9.out.cell (i := 5) rfl;))
  exact put_tail N w.heap.size wb ls wk pv nx 2 pg ka oa na da pa kc oc nc dc pc K O N' D M ((2 :: (numB wk 8 ++ numB pv 8 ++ numB nx 8 ++ numB pg 2))) w _ _ E9.out (by simpa using W9.out) (Nat.le_trans (by omega) S9.out) (Nat.le_refl _) B9.out (by simp [numB_len]) (fun v w' ho hb => ⟨v, rfl, ho, hb⟩) _ _ _ _ _ _ _ _ _ _ _ _ _ _ _ _ _ _ _ _ _ _ _ _ _ _ _ _ _ _ _ _ _ _ _ _ _ _ _ _ _ _ _ _ _ _ _ _ _ _ _ _ _ _ _ _ _ _ _ _ _ _ _ _ _ _ _ _ _ _ _ _ _ _ _ _ _ _ _ _ _ _ _ _ _ _ _ _ _ _ _ _ _ _ _ _ _ _ _ _ _ _ _ _ _ _ _ _ _ _ _ _ _ _ _ _ _ _ _ _ _ _ _ _ _ _ _ _ _ _ _ _ _ _ _ _ _ _ _ _ _ _ (by assumption) (by assumption)
set_option maxHeartbeats 8000000 in
set_option maxRecDepth 100000 in
theorem put_k3 (N : Nat) (ls wk pv nx : Int) (pg : Int) (ka oa na da pa : Option Addr) (kc oc nc dc pc : Nat) (K O N' : List UInt8) (D M : List (Int × Int)) (w : World) (H : PtE N w ka oa na da pa kc oc nc dc pc K O N' D M) (hr : rightN wk pv nx 3 pg K.length O.length N'.length D M = true) (h1 : K.length ≤ 255) (h2 : O.length ≤ 255) (h3 : N'.length ≤ 255) (b1 : 0 ≤ wk ∧ wk ≤ 9223372036854775807) (b2 : 0 ≤ pv ∧ pv ≤ 9223372036854775807) (_b3 : 0 ≤ nx ∧ nx ≤ 9223372036854775807) (_b4 : 0 ≤ pg ∧ pg ≤ 9223372036854775807) :
    Calls Tryz.prog 42 #[.agg #[.int .i64 ls, .int .i64 wk, .int .i64 pv, .int .i64 nx, .int .u8 ((3 : Nat) : Int), .int .i64 pg, .slice ka K.length kc, .slice oa O.length oc, .slice na N'.length nc, .slice da D.length dc, .slice pa M.length pc]] w (PutG w ((3 :: (numB wk 8 ++ numB pv 8)) ++ rowsB K O N')) := by
  have HRt : Hid (∀ W, Below w.heap.size w W → Calls Tryz.prog 86 #[.agg #[.int .i64 ls, .int .i64 wk, .int .i64 pv, .int .i64 nx, .int .u8 ((3 : Nat) : Int), .int .i64 pg, .slice ka K.length kc, .slice oa O.length oc, .slice na N'.length nc, .slice da D.length dc, .slice pa M.length pc]] W fun e w' => e = .returned (.bool true) ∧ Below W.heap.size W w') := Lib.hid fun W hW => by
    have := right_any N ⟨ls, wk, pv, nx, 3, pg, K, O, N', D, M⟩ ka oa na da pa kc oc nc dc pc W (H.rte hW)
    rw [rightB_eq] at this
    simp only [hr] at this
    exact this
  have HE0 := Lib.hid (H.start h1 h2 h3 ls wk pv nx 3 pg)
  have HB0 := Lib.hid ((Below.refl w.heap.size w).alloc (Nat.le_refl _) (.cells #[.int .i64 ls, .int .i64 wk, .int .i64 pv, .int .i64 nx, .int .u8 ((3 : Nat) : Int), .int .i64 pg, .slice ka K.length kc, .slice oa O.length oc, .slice na N'.length nc, .slice da D.length dc, .slice pa M.length pc] 33))
  have HlN := Lib.hid H.lt
  clear H hr
  go_enter Tryz.func42, Tryz.ntmps42
  go_upto_region 4 with (go_at_call 86; refine (HRt.out _ HB0.out).mono ?_; rintro e w1 ⟨rfl, hb1⟩; have hs1 := hb1.size; rw [World.size_alloc] at hs1 hb1; have B1 := Lib.hid (HB0.out.trans (hb1.mono (by omega))); have E1 := Lib.hid (HE0.out.below hb1 (by omega)); clear hb1)
  have hw3 := wr_new (w.heap.size + 1) w1 hs1
  have hE3 := E1.out.below (((Below.refl w1.heap.size w1).alloc (Nat.le_refl _) (.cells #[.slice none 0 0, .int .i64 0, .int .i8 0] 193))) (by omega)
  have hB3 := B1.out.alloc B1.out.size (.cells #[.slice none 0 0, .int .i64 0, .int .i8 0] 193)
  generalize hq : w1.heap.size = wb at *
  obtain ⟨W3, hW3⟩ : ∃ W3, W3 = w1.alloc (.cells #[.slice none 0 0, .int .i64 0, .int .i8 0] 193) := ⟨_, rfl⟩
  have hs3 : W3.heap.size = wb + 1 := by rw [hW3, World.size_alloc, hq]
  rw [← hW3] at hw3 hE3 hB3 ⊢
  have Hw3 := Lib.hid hw3
  have E3 := Lib.hid hE3
  have B3 := Lib.hid hB3
  have y4 : W3.cell? ⟨w.heap.size, 4, none⟩ = some (.int .u8 (3 : Int)) := hE3.cell (i := 4) rfl
  have HS3 := Lib.hid hs3
  have hwb : w.heap.size + 1 ≤ wb := by omega
  have hs3' : wb < W3.heap.size := by omega
  clear hw3 hE3 hB3 hW3 hq hs3 hs1
  clear B1 E1
  clear w1
  have R4 := Lib.hid (rb_three W3 3)
  have BW : Hid (Below (w.heap.size + 1) W3 (W3.alloc (.cells #[.int .u8 0, .int .u8 0, .int .u8 (3 : Int)] 5)).drew) := Lib.hid (((Below.refl _ W3).alloc (by omega) _).drew)
  have B4 := Lib.hid (B3.out.trans (BW.out.mono (by omega)))
  have E4 := Lib.hid (E3.out.below BW.out (by omega))
  have HWr := Lib.hid (write_new (w.heap.size + 1) wb (W3.heap.size + 1) [] [0, 0, 3] (some ⟨W3.heap.size, 0, none⟩) 3 3 (W3.alloc (.cells #[.int .u8 0, .int .u8 0, .int .u8 (3 : Int)] 5)).drew (Hw3.out.below (((Below.refl _ W3).alloc (Nat.le_refl _) _).drew)) (R4.out.below ((Below.refl _ _).drew)) (fun g o s e => by cases e; omega) (Nat.le_trans (by omega) BW.out.size) (by simp))
  rw [List.nil_append] at HWr
  go_region_held3 (fun w' => w'.cell? ⟨w.heap.size, 4, none⟩ = some (.int .u8 (3 : Int))) (first | go_keep | assumption) (first | (go_at_call 87; refine HWr.out.mono ?_; rintro e w5 ⟨rfl, hw5, hb5⟩; have S5 := Lib.hid (Nat.le_trans BW.out.size hb5.size); have W5 := Lib.hid hw5; have E5 := Lib.hid (E4.out.below hb5 (by omega)); have B5 := Lib.hid (B4.out.trans (hb5.mono (by omega))); have y5_1 := E5.out.cell (i := 1) rfl; have y5_2 := E5.out.cell (i := 2) rfl; have y5_3 := E5.out.cell (i := 3) rfl; have y5_4 := E5.out.cell (i := 4) rfl; have y5_5 := E5.out.cell (i := 5) rfl; clear hw5 hb5))
  have N5 := Lib.hid (number_i (w.heap.size + 1) wb ([0, 0, 3]) wk w5 W5.out (Nat.le_trans (by omega) S5.out) (by simp) b1.1 b1.2).1
  go_upto_region 31 with (first | (go_at_call 88; (with_reducible refine N5.out.mono ?_); rintro e w6 ⟨rfl, hw, hb, -⟩; have S6 := Lib.hid (Nat.le_trans S5.out hb.size); have W6 := Lib.hid hw; have E6 := Lib.hid (E5.out.below hb (by omega)); have B6 := Lib.hid (B5.out.trans (hb.mono (by omega))); clear hw hb; have y6_1 := E6.out.cell (i := 1) rfl; have y6_2 := E6.out.cell (i := 2) rfl; have y6_3 := E6.out.cell (i := 3) rfl; have y6_4 := E6.out.cell (i := 4) rfl; have y6_5 := E6.out.cell (i := 5) rfl; have N6 := Lib.hid (number_i (w.heap.size + 1) wb ([0, 0, 3] ++ numB wk 8) pv w6 W6.out (Nat.le_trans (by omega) S6.out) (by simp [numB_len]) b2.1 b2.2).1) | (go_at_call 88; (with_reducible refine N6.out.mono ?_); rintro e w7 ⟨rfl, hw, hb, -⟩; have S7 := Lib.hid (Nat.le_trans S6.out hb.size); have W7 := Lib.hid hw; have E7 := Lib.hid (E6.out.below hb (by omega)); have B7 := Lib.hid (B6.out.trans (hb.mono (by omega))); clear hw hb; have y7_1 := E7.out.cell (i := 1) rfl; have y7_2 := E7.out.cell (i := 2) rfl; have y7_3 := E7.out.cell (i := 3) rfl; have y7_4 := E7.out.cell (i := 4) rfl; have y7_5 := E7.out.cell (i := 5) rfl;))
  exact put_tail N w.heap.size wb ls wk pv nx 3 pg ka oa na da pa kc oc nc dc pc K O N' D M ((3 :: (numB wk 8 ++ numB pv 8))) w _ _ E7.out (by simpa using W7.out) (Nat.le_trans (by omega) S7.out) (Nat.le_refl _) B7.out (by simp [numB_len]) (fun v w' ho hb => ⟨v, rfl, ho, hb⟩) _ _ _ _ _ _ _ _ _ _ _ _ _ _ _ _ _ _ _ _ _ _ _ _ _ _ _ _ _ _ _ _ _ _ _ _ _ _ _ _ _ _ _ _ _ _ _ _ _ _ _ _ _ _ _ _ _ _ _ _ _ _ _ _ _ _ _ _ _ _ _ _ _ _ _ _ _ _ _ _ _ _ _ _ _ _ _ _ _ _ _ _ _ _ _ _ _ _ _ _ _ _ _ _ _ _ _ _ _ _ _ _ _ _ _ _ _ _ _ _ _ _ _ _ _ _ _ _ _ _ _ _ _ _ _ _ _ _ _ _ _ _ (by assumption) (by assumption)
set_option maxHeartbeats 8000000 in
set_option maxRecDepth 100000 in
theorem put_k4 (N : Nat) (ls wk pv nx : Int) (pg : Int) (ka oa na da pa : Option Addr) (kc oc nc dc pc : Nat) (K O N' : List UInt8) (D M : List (Int × Int)) (w : World) (H : PtE N w ka oa na da pa kc oc nc dc pc K O N' D M) (hr : rightN wk pv nx 4 pg K.length O.length N'.length D M = true) (h1 : K.length ≤ 255) (h2 : O.length ≤ 255) (h3 : N'.length ≤ 255) (b1 : 0 ≤ wk ∧ wk ≤ 9223372036854775807) (b2 : 0 ≤ pv ∧ pv ≤ 9223372036854775807) (_b3 : 0 ≤ nx ∧ nx ≤ 9223372036854775807) (_b4 : 0 ≤ pg ∧ pg ≤ 9223372036854775807) :
    Calls Tryz.prog 42 #[.agg #[.int .i64 ls, .int .i64 wk, .int .i64 pv, .int .i64 nx, .int .u8 ((4 : Nat) : Int), .int .i64 pg, .slice ka K.length kc, .slice oa O.length oc, .slice na N'.length nc, .slice da D.length dc, .slice pa M.length pc]] w (PutG w ((4 :: (numB wk 8 ++ numB pv 8)) ++ rowsB K O N')) := by
  have HRt : Hid (∀ W, Below w.heap.size w W → Calls Tryz.prog 86 #[.agg #[.int .i64 ls, .int .i64 wk, .int .i64 pv, .int .i64 nx, .int .u8 ((4 : Nat) : Int), .int .i64 pg, .slice ka K.length kc, .slice oa O.length oc, .slice na N'.length nc, .slice da D.length dc, .slice pa M.length pc]] W fun e w' => e = .returned (.bool true) ∧ Below W.heap.size W w') := Lib.hid fun W hW => by
    have := right_any N ⟨ls, wk, pv, nx, 4, pg, K, O, N', D, M⟩ ka oa na da pa kc oc nc dc pc W (H.rte hW)
    rw [rightB_eq] at this
    simp only [hr] at this
    exact this
  have HE0 := Lib.hid (H.start h1 h2 h3 ls wk pv nx 4 pg)
  have HB0 := Lib.hid ((Below.refl w.heap.size w).alloc (Nat.le_refl _) (.cells #[.int .i64 ls, .int .i64 wk, .int .i64 pv, .int .i64 nx, .int .u8 ((4 : Nat) : Int), .int .i64 pg, .slice ka K.length kc, .slice oa O.length oc, .slice na N'.length nc, .slice da D.length dc, .slice pa M.length pc] 33))
  have HlN := Lib.hid H.lt
  clear H hr
  go_enter Tryz.func42, Tryz.ntmps42
  go_upto_region 4 with (go_at_call 86; refine (HRt.out _ HB0.out).mono ?_; rintro e w1 ⟨rfl, hb1⟩; have hs1 := hb1.size; rw [World.size_alloc] at hs1 hb1; have B1 := Lib.hid (HB0.out.trans (hb1.mono (by omega))); have E1 := Lib.hid (HE0.out.below hb1 (by omega)); clear hb1)
  have hw3 := wr_new (w.heap.size + 1) w1 hs1
  have hE3 := E1.out.below (((Below.refl w1.heap.size w1).alloc (Nat.le_refl _) (.cells #[.slice none 0 0, .int .i64 0, .int .i8 0] 193))) (by omega)
  have hB3 := B1.out.alloc B1.out.size (.cells #[.slice none 0 0, .int .i64 0, .int .i8 0] 193)
  generalize hq : w1.heap.size = wb at *
  obtain ⟨W3, hW3⟩ : ∃ W3, W3 = w1.alloc (.cells #[.slice none 0 0, .int .i64 0, .int .i8 0] 193) := ⟨_, rfl⟩
  have hs3 : W3.heap.size = wb + 1 := by rw [hW3, World.size_alloc, hq]
  rw [← hW3] at hw3 hE3 hB3 ⊢
  have Hw3 := Lib.hid hw3
  have E3 := Lib.hid hE3
  have B3 := Lib.hid hB3
  have y4 : W3.cell? ⟨w.heap.size, 4, none⟩ = some (.int .u8 (4 : Int)) := hE3.cell (i := 4) rfl
  have HS3 := Lib.hid hs3
  have hwb : w.heap.size + 1 ≤ wb := by omega
  have hs3' : wb < W3.heap.size := by omega
  clear hw3 hE3 hB3 hW3 hq hs3 hs1
  clear B1 E1
  clear w1
  have R4 := Lib.hid (rb_three W3 4)
  have BW : Hid (Below (w.heap.size + 1) W3 (W3.alloc (.cells #[.int .u8 0, .int .u8 0, .int .u8 (4 : Int)] 5)).drew) := Lib.hid (((Below.refl _ W3).alloc (by omega) _).drew)
  have B4 := Lib.hid (B3.out.trans (BW.out.mono (by omega)))
  have E4 := Lib.hid (E3.out.below BW.out (by omega))
  have HWr := Lib.hid (write_new (w.heap.size + 1) wb (W3.heap.size + 1) [] [0, 0, 4] (some ⟨W3.heap.size, 0, none⟩) 3 3 (W3.alloc (.cells #[.int .u8 0, .int .u8 0, .int .u8 (4 : Int)] 5)).drew (Hw3.out.below (((Below.refl _ W3).alloc (Nat.le_refl _) _).drew)) (R4.out.below ((Below.refl _ _).drew)) (fun g o s e => by cases e; omega) (Nat.le_trans (by omega) BW.out.size) (by simp))
  rw [List.nil_append] at HWr
  go_region_held3 (fun w' => w'.cell? ⟨w.heap.size, 4, none⟩ = some (.int .u8 (4 : Int))) (first | go_keep | assumption) (first | (go_at_call 87; refine HWr.out.mono ?_; rintro e w5 ⟨rfl, hw5, hb5⟩; have S5 := Lib.hid (Nat.le_trans BW.out.size hb5.size); have W5 := Lib.hid hw5; have E5 := Lib.hid (E4.out.below hb5 (by omega)); have B5 := Lib.hid (B4.out.trans (hb5.mono (by omega))); have y5_1 := E5.out.cell (i := 1) rfl; have y5_2 := E5.out.cell (i := 2) rfl; have y5_3 := E5.out.cell (i := 3) rfl; have y5_4 := E5.out.cell (i := 4) rfl; have y5_5 := E5.out.cell (i := 5) rfl; clear hw5 hb5))
  have N5 := Lib.hid (number_i (w.heap.size + 1) wb ([0, 0, 4]) wk w5 W5.out (Nat.le_trans (by omega) S5.out) (by simp) b1.1 b1.2).1
  go_upto_region 31 with (first | (go_at_call 88; (with_reducible refine N5.out.mono ?_); rintro e w6 ⟨rfl, hw, hb, -⟩; have S6 := Lib.hid (Nat.le_trans S5.out hb.size); have W6 := Lib.hid hw; have E6 := Lib.hid (E5.out.below hb (by omega)); have B6 := Lib.hid (B5.out.trans (hb.mono (by omega))); clear hw hb; have y6_1 := E6.out.cell (i := 1) rfl; have y6_2 := E6.out.cell (i := 2) rfl; have y6_3 := E6.out.cell (i := 3) rfl; have y6_4 := E6.out.cell (i := 4) rfl; have y6_5 := E6.out.cell (i := 5) rfl; have N6 := Lib.hid (number_i (w.heap.size + 1) wb ([0, 0, 4] ++ numB wk 8) pv w6 W6.out (Nat.le_trans (by omega) S6.out) (by simp [numB_len]) b2.1 b2.2).1) | (go_at_call 88; (with_reducible refine N6.out.mono ?_); rintro e w7 ⟨rfl, hw, hb, -⟩; have S7 := Lib.hid (Nat.le_trans S6.out hb.size); have W7 := Lib.hid hw; have E7 := Lib.hid (E6.out.below hb (by omega)); have B7 := Lib.hid (B6.out.trans (hb.mono (by omega))); clear hw hb; have y7_1 := E7.out.cell (i := 1) rfl; have y7_2 := E7.out.cell (i := 2) rfl; have y7_3 := E7.out.cell (i := 3) rfl; have y7_4 := E7.out.cell (i := 4) rfl; have y7_5 := E7.out.cell (i := 5) rfl;))
  exact put_tail N w.heap.size wb ls wk pv nx 4 pg ka oa na da pa kc oc nc dc pc K O N' D M ((4 :: (numB wk 8 ++ numB pv 8))) w _ _ E7.out (by simpa using W7.out) (Nat.le_trans (by omega) S7.out) (Nat.le_refl _) B7.out (by simp [numB_len]) (fun v w' ho hb => ⟨v, rfl, ho, hb⟩) _ _ _ _ _ _ _ _ _ _ _ _ _ _ _ _ _ _ _ _ _ _ _ _ _ _ _ _ _ _ _ _ _ _ _ _ _ _ _ _ _ _ _ _ _ _ _ _ _ _ _ _ _ _ _ _ _ _ _ _ _ _ _ _ _ _ _ _ _ _ _ _ _ _ _ _ _ _ _ _ _ _ _ _ _ _ _ _ _ _ _ _ _ _ _ _ _ _ _ _ _ _ _ _ _ _ _ _ _ _ _ _ _ _ _ _ _ _ _ _ _ _ _ _ _ _ _ _ _ _ _ _ _ _ _ _ _ _ _ _ _ _ (by assumption) (by assumption)
set_option maxHeartbeats 8000000 in
set_option maxRecDepth 100000 in
theorem put_k6 (N : Nat) (ls wk pv nx : Int) (pg : Int) (ka oa na da pa : Option Addr) (kc oc nc dc pc : Nat) (K O N' : List UInt8) (D M : List (Int × Int)) (w : World) (H : PtE N w ka oa na da pa kc oc nc dc pc K O N' D M) (hr : rightN wk pv nx 6 pg K.length O.length N'.length D M = true) (h1 : K.length ≤ 255) (h2 : O.length ≤ 255) (h3 : N'.length ≤ 255) (b1 : 0 ≤ wk ∧ wk ≤ 9223372036854775807) (b2 : 0 ≤ pv ∧ pv ≤ 9223372036854775807) (b3 : 0 ≤ nx ∧ nx ≤ 9223372036854775807) (b4 : 0 ≤ pg ∧ pg ≤ 9223372036854775807) :
    Calls Tryz.prog 42 #[.agg #[.int .i64 ls, .int .i64 wk, .int .i64 pv, .int .i64 nx, .int .u8 ((6 : Nat) : Int), .int .i64 pg, .slice ka K.length kc, .slice oa O.length oc, .slice na N'.length nc, .slice da D.length dc, .slice pa M.length pc]] w (PutG w ((6 :: (numB wk 8 ++ numB pv 8 ++ numB pg 2 ++ numB nx 2)) ++ rowsB K O N')) := by
  have HRt : Hid (∀ W, Below w.heap.size w W → Calls Tryz.prog 86 #[.agg #[.int .i64 ls, .int .i64 wk, .int .i64 pv, .int .i64 nx, .int .u8 ((6 : Nat) : Int), .int .i64 pg, .slice ka K.length kc, .slice oa O.length oc, .slice na N'.length nc, .slice da D.length dc, .slice pa M.length pc]] W fun e w' => e = .returned (.bool true) ∧ Below W.heap.size W w') := Lib.hid fun W hW => by
    have := right_any N ⟨ls, wk, pv, nx, 6, pg, K, O, N', D, M⟩ ka oa na da pa kc oc nc dc pc W (H.rte hW)
    rw [rightB_eq] at this
    simp only [hr] at this
    exact this
  have HE0 := Lib.hid (H.start h1 h2 h3 ls wk pv nx 6 pg)
  have HB0 := Lib.hid ((Below.refl w.heap.size w).alloc (Nat.le_refl _) (.cells #[.int .i64 ls, .int .i64 wk, .int .i64 pv, .int .i64 nx, .int .u8 ((6 : Nat) : Int), .int .i64 pg, .slice ka K.length kc, .slice oa O.length oc, .slice na N'.length nc, .slice da D.length dc, .slice pa M.length pc] 33))
  have HlN := Lib.hid H.lt
  clear H hr
  go_enter Tryz.func42, Tryz.ntmps42
  go_upto_region 4 with (go_at_call 86; refine (HRt.out _ HB0.out).mono ?_; rintro e w1 ⟨rfl, hb1⟩; have hs1 := hb1.size; rw [World.size_alloc] at hs1 hb1; have B1 := Lib.hid (HB0.out.trans (hb1.mono (by omega))); have E1 := Lib.hid (HE0.out.below hb1 (by omega)); clear hb1)
  have hw3 := wr_new (w.heap.size + 1) w1 hs1
  have hE3 := E1.out.below (((Below.refl w1.heap.size w1).alloc (Nat.le_refl _) (.cells #[.slice none 0 0, .int .i64 0, .int .i8 0] 193))) (by omega)
  have hB3 := B1.out.alloc B1.out.size (.cells #[.slice none 0 0, .int .i64 0, .int .i8 0] 193)
  generalize hq : w1.heap.size = wb at *
  obtain ⟨W3, hW3⟩ : ∃ W3, W3 = w1.alloc (.cells #[.slice none 0 0, .int .i64 0, .int .i8 0] 193) := ⟨_, rfl⟩
  have hs3 : W3.heap.size = wb + 1 := by rw [hW3, World.size_alloc, hq]
  rw [← hW3] at hw3 hE3 hB3 ⊢
  have Hw3 := Lib.hid hw3
  have E3 := Lib.hid hE3
  have B3 := Lib.hid hB3
  have y4 : W3.cell? ⟨w.heap.size, 4, none⟩ = some (.int .u8 (6 : Int)) := hE3.cell (i := 4) rfl
  have HS3 := Lib.hid hs3
  have hwb : w.heap.size + 1 ≤ wb := by omega
  have hs3' : wb < W3.heap.size := by omega
  clear hw3 hE3 hB3 hW3 hq hs3 hs1
  clear B1 E1
  clear w1
  have R4 := Lib.hid (rb_three W3 6)
  have BW : Hid (Below (w.heap.size + 1) W3 (W3.alloc (.cells #[.int .u8 0, .int .u8 0, .int .u8 (6 : Int)] 5)).drew) := Lib.hid (((Below.refl _ W3).alloc (by omega) _).drew)
  have B4 := Lib.hid (B3.out.trans (BW.out.mono (by omega)))
  have E4 := Lib.hid (E3.out.below BW.out (by omega))
  have HWr := Lib.hid (write_new (w.heap.size + 1) wb (W3.heap.size + 1) [] [0, 0, 6] (some ⟨W3.heap.size, 0, none⟩) 3 3 (W3.alloc (.cells #[.int .u8 0, .int .u8 0, .int .u8 (6 : Int)] 5)).drew (Hw3.out.below (((Below.refl _ W3).alloc (Nat.le_refl _) _).drew)) (R4.out.below ((Below.refl _ _).drew)) (fun g o s e => by cases e; omega) (Nat.le_trans (by omega) BW.out.size) (by simp))
  rw [List.nil_append] at HWr
  go_region_held3 (fun w' => w'.cell? ⟨w.heap.size, 4, none⟩ = some (.int .u8 (6 : Int))) (first | go_keep | assumption) (first | (go_at_call 87; refine HWr.out.mono ?_; rintro e w5 ⟨rfl, hw5, hb5⟩; have S5 := Lib.hid (Nat.le_trans BW.out.size hb5.size); have W5 := Lib.hid hw5; have E5 := Lib.hid (E4.out.below hb5 (by omega)); have B5 := Lib.hid (B4.out.trans (hb5.mono (by omega))); have y5_1 := E5.out.cell (i := 1) rfl; have y5_2 := E5.out.cell (i := 2) rfl; have y5_3 := E5.out.cell (i := 3) rfl; have y5_4 := E5.out.cell (i := 4) rfl; have y5_5 := E5.out.cell (i := 5) rfl; clear hw5 hb5))
  have N5 := Lib.hid (number_i (w.heap.size + 1) wb ([0, 0, 6]) wk w5 W5.out (Nat.le_trans (by omega) S5.out) (by simp) b1.1 b1.2).1
  go_upto_region 31 with (first | (go_at_call 88; (with_reducible refine N5.out.mono ?_); rintro e w6 ⟨rfl, hw, hb, -⟩; have S6 := Lib.hid (Nat.le_trans S5.out hb.size); have W6 := Lib.hid hw; have E6 := Lib.hid (E5.out.below hb (by omega)); have B6 := Lib.hid (B5.out.trans (hb.mono (by omega))); clear hw hb; have y6_1 := E6.out.cell (i := 1) rfl; have y6_2 := E6.out.cell (i := 2) rfl; have y6_3 := E6.out.cell (i := 3) rfl; have y6_4 := E6.out.cell (i := 4) rfl; have y6_5 := E6.out.cell (i := 5) rfl; have N6 := Lib.hid (number_i (w.heap.size + 1) wb ([0, 0, 6] ++ numB wk 8) pv w6 W6.out (Nat.le_trans (by omega) S6.out) (by simp [numB_len]) b2.1 b2.2).1) | (go_at_call 88; (with_reducible refine N6.out.mono ?_); rintro e w7 ⟨rfl, hw, hb, -⟩; have S7 := Lib.hid (Nat.le_trans S6.out hb.size); have W7 := Lib.hid hw; have E7 := Lib.hid (E6.out.below hb (by omega)); have B7 := Lib.hid (B6.out.trans (hb.mono (by omega))); clear hw hb; have y7_1 := E7.out.cell (i := 1) rfl; have y7_2 := E7.out.cell (i := 2) rfl; have y7_3 := E7.out.cell (i := 3) rfl; have y7_4 := E7.out.cell (i := 4) rfl; have y7_5 := E7.out.cell (i := 5) rfl; have N7 := Lib.hid (number_i (w.heap.size + 1) wb ([0, 0, 6] ++ numB wk 8 ++ numB pv 8) pg w7 W7.out (Nat.le_trans (by omega) S7.out) (by simp [numB_len]) b4.1 b4.2).2) | (go_at_call 88; (with_reducible refine N7.out.mono ?_); rintro e w8 ⟨rfl, hw, hb, -⟩; have S8 := Lib.hid (Nat.le_trans S7.out hb.size); have W8 := Lib.hid hw; have E8 := Lib.hid (E7.out.below hb (by omega)); have B8 := Lib.hid (B7.out.trans (hb.mono (by omega))); clear hw hb; have y8_1 := E8.out.cell (i := 1) rfl; have y8_2 := E8.out.cell (i := 2) rfl; have y8_3 := E8.out.cell (i := 3) rfl; have y8_4 := E8.out.cell (i := 4) rfl; have y8_5 := E8.out.cell (i := 5) rfl; have N8 := Lib.hid (number_i (w.heap.size + 1) wb ([0, 0, 6] ++ numB wk 8 ++ numB pv 8 ++ numB pg 2) nx w8 W8.out (Nat.le_trans (by omega) S8.out) (by simp [numB_len]) b3.1 b3.2).2) | (go_at_call 88; (with_reducible refine N8.out.mono ?_); rintro e w9 ⟨rfl, hw, hb, -⟩; have S9 := Lib.hid (Nat.le_trans S8.out hb.size); have W9 := Lib.hid hw; have E9 := Lib.hid (E8.out.below hb (by omega)); have B9 := Lib.hid (B8.out.trans (hb.mono (by omega))); clear hw hb; have y9_1 := E9.out.cell (i := 1) rfl; have y9_2 := E9.out.cell (i := 2) rfl; have y9_3 := E9.out.cell (i := 3) rfl; have y9_4 := E9.out.cell (i := 4) rfl; have y9_5 := E9.out.cell (i := 5) rfl;))
  exact put_tail N w.heap.size wb ls wk pv nx 6 pg ka oa na da pa kc oc nc dc pc K O N' D M ((6 :: (numB wk 8 ++ numB pv 8 ++ numB pg 2 ++ numB nx 2))) w _ _ E9.out (by simpa using W9.out) (Nat.le_trans (by omega) S9.out) (Nat.le_refl _) B9.out (by simp [numB_len]) (fun v w' ho hb => ⟨v, rfl, ho, hb⟩) _ _ _ _ _ _ _ _ _ _ _ _ _ _ _ _ _ _ _ _ _ _ _ _ _ _ _ _ _ _ _ _ _ _ _ _ _ _ _ _ _ _ _ _ _ _ _ _ _ _ _ _ _ _ _ _ _ _ _ _ _ _ _ _ _ _ _ _ _ _ _ _ _ _ _ _ _ _ _ _ _ _ _ _ _ _ _ _ _ _ _ _ _ _ _ _ _ _ _ _ _ _ _ _ _ _ _ _ _ _ _ _ _ _ _ _ _ _ _ _ _ _ _ _ _ _ _ _ _ _ _ _ _ _ _ _ _ _ _ _ _ _ (by assumption) (by assumption)
set_option maxHeartbeats 8000000 in
set_option maxRecDepth 100000 in
theorem put_no (N : Nat) (ls wk pv nx : Int) (kd : Nat) (pg : Int) (ka oa na da pa : Option Addr) (kc oc nc dc pc : Nat) (K O N' : List UInt8) (D M : List (Int × Int)) (w : World) (H : PtE N w ka oa na da pa kc oc nc dc pc K O N' D M) (hr : rightN wk pv nx kd pg K.length O.length N'.length D M = false) :
    Calls Tryz.prog 42 #[.agg #[.int .i64 ls, .int .i64 wk, .int .i64 pv, .int .i64 nx, .int .u8 kd, .int .i64 pg, .slice ka K.length kc, .slice oa O.length oc, .slice na N'.length nc, .slice da D.length dc, .slice pa M.length pc]] w fun e w' => e = .returned (.tuple #[.slice none 0 0, .int .i64 2]) ∧ Below w.heap.size w w' := by
  have HRt : Hid (∀ W, Below w.heap.size w W → Calls Tryz.prog 86 #[.agg #[.int .i64 ls, .int .i64 wk, .int .i64 pv, .int .i64 nx, .int .u8 kd, .int .i64 pg, .slice ka K.length kc, .slice oa O.length oc, .slice na N'.length nc, .slice da D.length dc, .slice pa M.length pc]] W fun e w' => e = .returned (.bool false) ∧ Below W.heap.size W w') := Lib.hid fun W hW => by
    have := right_any N ⟨ls, wk, pv, nx, kd, pg, K, O, N', D, M⟩ ka oa na da pa kc oc nc dc pc W (H.rte hW)
    rw [rightB_eq] at this
    simp only [hr] at this
    exact this
  have HB0 := Lib.hid ((Below.refl w.heap.size w).alloc (Nat.le_refl _) (.cells #[.int .i64 ls, .int .i64 wk, .int .i64 pv, .int .i64 nx, .int .u8 kd, .int .i64 pg, .slice ka K.length kc, .slice oa O.length oc, .slice na N'.length nc, .slice da D.length dc, .slice pa M.length pc] 33))
  clear H hr
  go_enter Tryz.func42, Tryz.ntmps42
  go_wp2_with (go_at_call 86; refine (HRt.out _ HB0.out).mono ?_; rintro e w1 ⟨rfl, hb1⟩; have B1 := Lib.hid (HB0.out.trans (hb1.mono HB0.out.size)); clear hb1)
  go_ret2
  exact ⟨rfl, B1.out⟩
structure RecV.Fit (r : RecV) : Prop where
  work : r.work ≤ 9223372036854775807
  prev : r.prev ≤ 9223372036854775807
  next : r.next ≤ 9223372036854775807
  page : r.page ≤ 9223372036854775807
  dirty : ∀ d ∈ r.dirty, d.2 ≤ 9223372036854775807
  opn : ∀ x ∈ r.opn, x.1 ≤ 9223372036854775807 ∧ x.2 ≤ 9223372036854775807
theorem right_facts {wk pv nx pg : Int} {kd kn on nn : Nat} {D O : List (Int × Int)} (h : rightN wk pv nx kd pg kn on nn D O = true) : (kd = 1 ∨ kd = 2 ∨ kd = 3 ∨ kd = 4 ∨ kd = 5 ∨ kd = 6) ∧ 0 ≤ wk ∧ 0 ≤ pv ∧ 0 ≤ nx ∧ 0 ≤ pg ∧ kn ≤ 255 ∧ on ≤ 255 ∧ nn ≤ 255 := by
  unfold rightN at h
  by_cases k5 : kd = 5
  · rw [if_pos k5] at h
    simp only [Bool.and_eq_true, decide_eq_true_eq, noneN] at h
    obtain ⟨⟨⟨⟨⟨h1, h2⟩, h3⟩, h4⟩, h5⟩, -⟩ := h
    omega
  rw [if_neg k5] at h
  by_cases h0 : wk < 1 ∨ pv < 0 ∨ 0 < D.length + O.length
  · rw [if_pos h0] at h; cases h
  rw [if_neg h0] at h
  by_cases k1 : kd = 1
  · rw [if_pos k1] at h
    simp only [Bool.and_eq_true, decide_eq_true_eq, pagedB, turnedB] at h
    omega
  rw [if_neg k1] at h
  by_cases k2 : kd = 2
  · rw [if_pos k2] at h
    simp only [Bool.and_eq_true, decide_eq_true_eq, pagedB, turnedB] at h
    omega
  rw [if_neg k2] at h
  by_cases k3 : kd = 3 ∨ kd = 4
  · rw [if_pos k3] at h
    simp only [Bool.and_eq_true, decide_eq_true_eq, noneN] at h
    omega
  rw [if_neg k3] at h
  by_cases k6 : kd = 6
  · rw [if_pos k6] at h
    simp only [Bool.and_eq_true, decide_eq_true_eq, noneN, pagedB] at h
    omega
  rw [if_neg k6] at h
  cases h
theorem put_any (N : Nat) (r : RecV) (ka oa na da pa : Option Addr) (kc oc nc dc pc : Nat) (w : World) (H : PtE N w ka oa na da pa kc oc nc dc pc r.key r.old r.new r.dirty r.opn) (hf : r.Fit) :
    Calls Tryz.prog 42 #[recV r ka oa na da pa kc oc nc dc pc] w fun e w' => Below w.heap.size w w' ∧
      ((rightB r = false ∧ e = .returned (.tuple #[.slice none 0 0, .int .i64 2])) ∨ (rightB r = true ∧ ∃ v, e = .returned (.tuple #[v, .int .i64 0]) ∧ OB w.heap.size w' v (putB r))) := by
  rw [rightB_eq]
  obtain ⟨f1, f2, f3, f4, f5, f6⟩ := hf
  have hput : ∀ lx, bodyB r = lx → ∀ e w', PutG w lx e w' → ∃ v, e = .returned (.tuple #[v, .int .i64 0]) ∧ OB w.heap.size w' v (putB r) ∧ Below w.heap.size w w' := fun lx h e w' ⟨v, h1, h2, h3⟩ => ⟨v, h1, by unfold putB; rw [h]; exact h2, h3⟩
  obtain ⟨ls, wk, pv, nx, kd, pg, K, O, N', D, M⟩ := r
  simp only at H f1 f2 f3 f4 f5 f6 ⊢
  unfold recV
  cases hr : rightN wk pv nx kd pg K.length O.length N'.length D M with
  | false => exact (put_no N ls wk pv nx kd pg ka oa na da pa kc oc nc dc pc K O N' D M w H hr).mono fun e w' h => ⟨h.2, .inl ⟨rfl, h.1⟩⟩
  | true =>
    obtain ⟨hk, g1, g2, g3, g4, g5, g6, g7⟩ := right_facts hr
    rcases hk with rfl | rfl | rfl | rfl | rfl | rfl
    · refine (put_k1 N ls wk pv nx pg ka oa na da pa kc oc nc dc pc K O N' D M w H hr g5 g6 g7 ⟨g1, f1⟩ ⟨g2, f2⟩ ⟨g3, f3⟩ ⟨g4, f4⟩).mono fun e w' h => ?_
      obtain ⟨v, h1, h2, h3⟩ := hput _ (by simp [bodyB, rowsB]) e w' h
      exact ⟨h3, .inr ⟨rfl, v, h1, h2⟩⟩
    · refine (put_k2 N ls wk pv nx pg ka oa na da pa kc oc nc dc pc K O N' D M w H hr g5 g6 g7 ⟨g1, f1⟩ ⟨g2, f2⟩ ⟨g3, f3⟩ ⟨g4, f4⟩).mono fun e w' h => ?_
      obtain ⟨v, h1, h2, h3⟩ := hput _ (by simp [bodyB, rowsB]) e w' h
      exact ⟨h3, .inr ⟨rfl, v, h1, h2⟩⟩
    · refine (put_k3 N ls wk pv nx pg ka oa na da pa kc oc nc dc pc K O N' D M w H hr g5 g6 g7 ⟨g1, f1⟩ ⟨g2, f2⟩ ⟨g3, f3⟩ ⟨g4, f4⟩).mono fun e w' h => ?_
      obtain ⟨v, h1, h2, h3⟩ := hput _ (by simp [bodyB, rowsB]) e w' h
      exact ⟨h3, .inr ⟨rfl, v, h1, h2⟩⟩
    · refine (put_k4 N ls wk pv nx pg ka oa na da pa kc oc nc dc pc K O N' D M w H hr g5 g6 g7 ⟨g1, f1⟩ ⟨g2, f2⟩ ⟨g3, f3⟩ ⟨g4, f4⟩).mono fun e w' h => ?_
      obtain ⟨v, h1, h2, h3⟩ := hput _ (by simp [bodyB, rowsB]) e w' h
      exact ⟨h3, .inr ⟨rfl, v, h1, h2⟩⟩
    · refine (put_k5 N ls wk pv nx pg ka oa na da pa kc oc nc dc pc K O N' D M w H hr g5 g6 g7 ⟨g1, f1⟩ ⟨g2, f2⟩ ⟨g3, f3⟩ ⟨g4, f4⟩ ⟨f5, f6⟩).mono fun e w' h => ?_
      obtain ⟨v, h1, h2, h3⟩ := hput _ (by simp [bodyB, rowsB]; rfl) e w' h
      exact ⟨h3, .inr ⟨rfl, v, h1, h2⟩⟩
    · refine (put_k6 N ls wk pv nx pg ka oa na da pa kc oc nc dc pc K O N' D M w H hr g5 g6 g7 ⟨g1, f1⟩ ⟨g2, f2⟩ ⟨g3, f3⟩ ⟨g4, f4⟩).mono fun e w' h => ?_
      obtain ⟨v, h1, h2, h3⟩ := hput _ (by simp [bodyB, rowsB]) e w' h
      exact ⟨h3, .inr ⟨rfl, v, h1, h2⟩⟩
end Go.Proofs.YtohlkkannjifmaaGreatDoor
