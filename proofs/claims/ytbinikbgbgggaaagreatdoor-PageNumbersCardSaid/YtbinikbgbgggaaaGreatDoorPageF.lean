/- The walks of page.turned, page.New, page.Right, page.Room, bytes.Clone, page.Get. -/
import Derived.Test.YtbinikbgbgggaaaGreatDoorPageE
import Derived.Test.YtbinikbgbgggaaaGreatDoorAppend
namespace Go.Proofs.YtbinikbgbgggaaaGreatDoor
open Go.RowKit Go.Shelf

theorem walkB_fst (p : List UInt8) : ∀ (l : List (Nat × Nat)) (s s' : Nat × Nat), walkB p s l = some s' → s.1 ≤ p.length → s'.1 ≤ p.length
  | [], s, s', h, hs => by simp only [walkB] at h; cases h; exact hs
  | x :: l, s, s', h, hs => by
    simp only [walkB] at h
    split at h
    · rename_i hx
      refine walkB_fst p l _ s' h ?_
      unfold okRow at hx
      simp only [Bool.and_eq_true, decide_eq_true_eq] at hx
      exact hx.1.1.1.1.1
    · cases h
theorem behindL_le (p : List UInt8) : behindL p ≤ p.length := by
  unfold behindL
  split
  · omega
  · rename_i h512
    have h5 : p.length = 512 := by
      rcases Nat.decEq p.length 512 with h | h
      · exact absurd (.inl h) h512
      · exact h
    split
    · omega
    · rename_i s hs
      split
      · omega
      · exact walkB_fst p _ _ _ hs (by rw [h5]; omega)

def turnedB (k o n : Nat) : Bool := decide (0 < k) && decide (k ≤ 40) && decide (0 < max o n) && decide (k + max o n ≤ 220)

set_option maxHeartbeats 1000000 in
theorem turned_any (ka oa na : Option Addr) (kn kc on oc nn nc : Nat) (w : World) (hk : kn ≤ 140737488355328) (ho : on ≤ 140737488355328) (hn : nn ≤ 140737488355328) :
    Calls Tryz.prog 42 #[.agg #[.slice ka kn kc, .slice oa on oc, .slice na nn nc]] w fun e w' => e = .returned (.bool (turnedB kn on nn)) ∧ Below w.heap.size w w' := by
  have hm : ((max on nn : Nat) : Int) = max (on : Int) (nn : Int) := by omega
  go_enter Tryz.func42, Tryz.ntmps42
  go_wp2
  go_quiet (fail)
  go_wp2
  all_goals
    go_ret
    refine ⟨?_, below_dn (by go_grown) _⟩
    refine congrArg (fun x => Ending.returned (.bool x)) ?_
    rw [Bool.eq_iff_iff]
    simp [turnedB]
    omega

/-- A page that a call may turn: it begins its block; X: what the block holds behind it. -/
structure PG (W : World) (g : Nat) (c : Nat) (L : List UInt8) (X : List Value) : Prop where
  blk : W.heap[g]? = some (.cells (L.map bv ++ X).toArray 5 (0, 0))
  len : L.length = 512
  cap : c = 512 + X.length
  mx : c ≤ 9223372036854775807
theorem PG.rb {W : World} {g c : Nat} {L : List UInt8} {X : List Value} (h : PG W g c L X) : RB W.heap.size W (some ⟨g, 0, none⟩) 512 c L :=
  ⟨h.len.symm, by rw [h.cap]; omega, h.mx, by omega, fun _ => ⟨g, 0, rfl, (Array.getElem?_eq_some_iff.1 h.blk).1, fun i hi => by
    have hlen := h.len
    have hg := bv_getD L i (by omega)
    simp only [World.cell?, h.blk, Nat.zero_add, Option.isSome_none, Bool.false_eq_true, if_false]
    rw [List.getElem?_toArray, List.getElem?_append_left (by simp; omega), hg]⟩⟩
theorem PG.below {B : Nat} {W W' : World} {g c : Nat} {L : List UInt8} {X : List Value} (h : PG W g c L X) (hb : Below B W W') (hg : g < B) : PG W' g c L X :=
  ⟨(hb.block g hg).trans h.blk, h.len, h.cap, h.mx⟩
theorem PG.lt {W : World} {g c : Nat} {L : List UInt8} {X : List Value} (h : PG W g c L X) : g < W.heap.size := (Array.getElem?_eq_some_iff.1 h.blk).1

set_option maxHeartbeats 1000000 in
theorem New_any (w : World) :
    Calls Tryz.prog 13 #[] w fun e w' => e = .returned (.slice (some ⟨w.heap.size, 0, none⟩) 512 512) ∧ PG w' w.heap.size 512 (List.replicate 512 0) [] ∧ Below w.heap.size w w' := by
  obtain ⟨i0, hi, hz0, hz1, hz2⟩ := info_parts Tryz.infoU8
  have hmk := run_make (P := Tryz.prog) w 22 5 i0 _ Tryz.underlying22 hi hz0 .i64 .i64 512 512 (by decide) (by decide) (by rw [hz2]; decide) (by decide)
  obtain ⟨blk, hblk⟩ : ∃ blk, blk = madeCells (Value.int .u8 0).cells ((512 : Int).toNat * i0.size) := ⟨_, rfl⟩
  rw [← hblk] at hmk
  have hpg : PG (w.alloc (.cells blk 5)) w.heap.size 512 (List.replicate 512 0) [] := by
    refine ⟨?_, by rw [List.length_replicate], rfl, by omega⟩
    rw [heap_alloc_new, hblk, hz1]
    have e : madeCells (Value.int .u8 0).cells ((512 : Int).toNat * 1) = ((List.replicate 512 (0 : UInt8)).map bv ++ []).toArray := by
      apply Array.ext'
      rw [List.append_nil, List.map_replicate]
      exact toList_madeCells_one _ _
    rw [e]
  have hbl : Below w.heap.size w (w.alloc (.cells blk 5)) := (Below.refl _ w).alloc (Nat.le_refl _) _
  have Hpg := Lib.hid hpg
  have Hbl := Lib.hid hbl
  clear hblk hpg hbl hi hz0 hz1 hz2
  have e1 : (512 : Int).toNat = 512 := rfl
  rw [e1] at hmk
  clear e1
  go_enter Tryz.func13, Tryz.ntmps13
  go_wp2
  go_ret
  exact ⟨rfl, Hpg.out, Hbl.out⟩

set_option maxHeartbeats 1000000 in
theorem Right_any (N : Nat) (a : Option Addr) (n c : Nat) (L : List UInt8) (w : World) (hr : RB N w a n c L) (hN : N ≤ w.heap.size) :
    Calls Tryz.prog 23 #[.slice a n c] w fun e w' => e = .returned (.bool (decide (0 < behindL L))) ∧ Below w.heap.size w w' := by
  go_enter Tryz.func23, Tryz.ntmps23
  go_wp2_with (go_at_call 41; refine (behind_any N _ _ _ _ _ hr hN).mono ?_; rintro e w' ⟨rfl, hb⟩)
  go_ret
  exact ⟨by simp, hb⟩

def roomL (L : List UInt8) : Nat := if behindL L = 0 then 0 else L.length - behindL L
set_option maxHeartbeats 1000000 in
theorem Room_any (N : Nat) (a : Option Addr) (n c : Nat) (L : List UInt8) (w : World) (hr : RB N w a n c L) (hN : N ≤ w.heap.size) :
    Calls Tryz.prog 15 #[.slice a n c] w fun e w' => e = .returned (.int .i64 (roomL L)) ∧ Below w.heap.size w w' := by
  have hle := hr.le; have hmx := hr.mx; have hlm := hr.lm; have hln := hr.len
  have hbd := behindL_le L
  obtain ⟨q, hq⟩ : ∃ q, q = behindL L := ⟨_, rfl⟩
  have hfin : roomL L = if q = 0 then 0 else n - q := by unfold roomL; rw [← hq, ← hln]
  have HB : Hid (∀ w' : World, RB N w' a n c L → N ≤ w'.heap.size → Calls Tryz.prog 41 #[.slice a n c] w' fun e w'' => e = .returned (.int .i64 q) ∧ Below w'.heap.size w' w'') :=
    fun w' h1 h2 => by rw [hq]; exact behind_any N _ _ _ _ _ h1 h2
  rw [← hq, ← hln] at hbd
  have Hfin := Lib.hid hfin
  clear hfin hq hln
  by_cases h0 : q = 0
  · subst h0
    go_enter Tryz.func15, Tryz.ntmps15
    go_wp2_with (go_at_call 41; refine (HB.out _ hr hN).mono ?_; rintro e w' ⟨rfl, hb⟩)
    go_ret
    exact ⟨by rw [Hfin.out]; rfl, hb⟩
  · have h0d : ((q : Int) == 0) = false := by simp; omega
    go_enter Tryz.func15, Tryz.ntmps15
    go_wp2_with (go_at_call 41; refine (HB.out _ hr hN).mono ?_; rintro e w' ⟨rfl, hb⟩)
    go_ret
    refine ⟨?_, hb⟩
    rw [Hfin.out, if_neg h0]
    exact congrArg (fun x => Ending.returned (.int .i64 x)) (show (n : Int) - q = ((n - q : Nat) : Int) by omega)

set_option maxHeartbeats 1000000 in
theorem Clone_any (N : Nat) (a : Option Addr) (n c : Nat) (L : List UInt8) (w : World) (hr : RB N w a n c L) (hN : N ≤ w.heap.size) :
    Calls Tryz.prog 34 #[.slice a n c] w fun e w' => (∃ v, e = .returned v ∧ OB w.heap.size w' v L) ∧ Below w.heap.size w w' := by
  have hle := hr.le; have hmx := hr.mx; have hlm := hr.lm; have hln := hr.len
  cases a with
  | none =>
    have hc0 : c = 0 := by
      rcases Nat.eq_zero_or_pos c with h | h
      · exact h
      · obtain ⟨b, o, h', -⟩ := hr.at_ h; cases h'
    subst hc0
    obtain rfl : n = 0 := by omega
    obtain rfl : L = [] := List.eq_nil_of_length_eq_zero hln.symm
    have hq := Lib.run_eql_slice_nil (P := Tryz.prog) w 22 5 none 0 0 0 0 Tryz.underlying22
    clear hle hmx hlm hln
    go_enter Tryz.func34, Tryz.ntmps34
    go_wp2
    go_ret
    exact ⟨⟨_, rfl, OB.nil _ _⟩, Below.refl _ _⟩
  | some a =>
    have hq := Lib.run_eql_slice_nil (P := Tryz.prog) w 22 5 (some a) n c 0 0 Tryz.underlying22
    have Hln := Lib.hid hln
    clear hln
    go_enter Tryz.func34, Tryz.ntmps34
    have hown0 : OB w.heap.size (w.alloc (.cells #[] 5)) (.slice (some ⟨w.heap.size, 0, none⟩) 0 0) [] := World.ownsRow_made w #[] 0 (Nat.le_refl _) (by simp) rfl
    have hb1 : Below w.heap.size w (w.alloc (.cells #[] 5)) := (Below.refl _ w).alloc (Nat.le_refl _) _
    have hr1 := hr.below (hb1.mono hN)
    have Hown := Lib.hid hown0
    have Hb1 := Lib.hid hb1
    have Hr1 := Lib.hid hr1
    clear hown0 hb1 hr1
    go_wp2_with (at_builtin; refine wpList_append_bytes rfl _ _ rfl w.heap.size N _ [] rfl Hown.out _ _ _ L rfl Hr1.out (by simp [← Hln.out]; exact hlm) (by simp) ?_; intro v' w' hown' hg _)
    go_ret
    refine ⟨⟨_, rfl, by simpa using hown'⟩, Hb1.out.grown hg (by simp) (fun k e => ?_)⟩
    cases e
    exact Nat.le_refl _

/-- A row's value. -/
def valOf (p : List UInt8) (i e : Nat) : List UInt8 := (p.drop (i + 2 + (bt p i).toNat)).take (e - (i + 2 + (bt p i).toNat))
def getL (p k : List UInt8) : Option (List UInt8) := if behindL p = 0 then none else match findL p k with | (i, e, true) => some (valOf p i e) | _ => none

theorem find_any (N M : Nat) (a : Option Addr) (n c : Nat) (L : List UInt8) (ka : Option Addr) (kn kc : Nat) (K : List UInt8) (w : World) (hr : RB N w a n c L) (hk : RB M w ka kn kc K) (hN : N ≤ w.heap.size) (hM : M ≤ w.heap.size)
    (hL : 0 < behindL L) : Calls Tryz.prog 33 #[.slice a n c, .slice ka kn kc] w fun e w' =>
      e = .returned (.tuple #[.int .i64 (findL L K).1, .int .i64 (findL L K).2.1, .bool (findL L K).2.2]) ∧ Below w.heap.size w w' := by
  have hlen := right_len hL
  have hn := hr.len
  have hle := hr.le
  obtain rfl : n = 512 := by omega
  obtain ⟨b, o, rfl, -, -⟩ := hr.at_ (by omega)
  exact callsIn_wide.1 (find_in N M b o c L ka kn kc K w hr hk hN hM (right_rows hL))

set_option maxHeartbeats 1000000 in
theorem Get_any (N M : Nat) (a : Option Addr) (n c : Nat) (L : List UInt8) (ka : Option Addr) (kn kc : Nat) (K : List UInt8) (w : World) (hr : RB N w a n c L) (hk : RB M w ka kn kc K) (hN : N ≤ w.heap.size) (hM : M ≤ w.heap.size) :
    Calls Tryz.prog 8 #[.slice a n c, .slice ka kn kc] w fun e w' => (∃ v, e = .returned (.tuple #[v, .bool (getL L K).isSome]) ∧ OB w.heap.size w' v ((getL L K).getD [])) ∧ Below w.heap.size w w' := by
  by_cases h0 : behindL L = 0
  · have hfin : getL L K = none := by unfold getL; rw [if_pos h0]
    have HR : Hid (Calls Tryz.prog 23 #[.slice a n c] w fun e w' => e = .returned (.bool false) ∧ Below w.heap.size w w') := by
      have := Right_any N a n c L w hr hN
      rw [h0] at this; exact this
    have Hfin := Lib.hid hfin
    clear hfin h0
    go_enter Tryz.func8, Tryz.ntmps8
    go_wp2_with (go_at_call 23; refine HR.out.mono ?_; rintro e w' ⟨rfl, hb⟩)
    go_ret2
    exact ⟨⟨_, by rw [Hfin.out]; rfl, by rw [Hfin.out]; exact OB.nil _ _⟩, hb⟩
  · have hpos : 0 < behindL L := by omega
    have HR : Hid (Calls Tryz.prog 23 #[.slice a n c] w fun e w' => e = .returned (.bool true) ∧ Below w.heap.size w w') := by
      have := Right_any N a n c L w hr hN
      rw [decide_eq_true hpos] at this; exact this
    have HF : Hid (∀ w' : World, Below w.heap.size w w' → Calls Tryz.prog 33 #[.slice a n c, .slice ka kn kc] w' fun e w'' =>
      e = .returned (.tuple #[.int .i64 (findL L K).1, .int .i64 (findL L K).2.1, .bool (findL L K).2.2]) ∧ Below w'.heap.size w' w'') :=
      fun w' hb => find_any N M a n c L ka kn kc K w' (hr.below (hb.mono hN)) (hk.below (hb.mono hM)) (Nat.le_trans hN hb.size) (Nat.le_trans hM hb.size) hpos
    have hmem := findB_mem L K (scan L (bt L 10).toNat 11) 11
    have hgen : ∀ i e t, findL L K = (i, e, t) → getL L K = if t then some (valOf L i e) else none := fun i e t h => by
      unfold getL; rw [if_neg h0, h]; cases t <;> rfl
    obtain ⟨i, e, t, hf⟩ : ∃ i e t, findL L K = (i, e, t) := ⟨_, _, _, rfl⟩
    have hfin := hgen i e t hf
    unfold findL at hf
    have Hfin := Lib.hid hfin
    unfold findL at HF
    rw [hf] at HF
    dsimp only at HF
    clear hgen hfin
    cases t with
    | false =>
      clear hf hmem hpos h0
      go_enter Tryz.func8, Tryz.ntmps8
      go_wp2_with (first | (go_at_call 23; refine HR.out.mono ?_; rintro e w' ⟨rfl, hb⟩) | (go_at_call 33; refine (HF.out _ hb).mono ?_; rintro e w' ⟨rfl, hb2⟩))
      go_ret2
      exact ⟨⟨_, by rw [Hfin.out]; rfl, by rw [Hfin.out]; exact OB.nil _ _⟩, hb.trans (hb2.mono hb.size)⟩
    | true =>
      have hm := hmem i e hf
      obtain ⟨r1, r2, r3⟩ := right_rows hpos _ hm
      have r4 := scan_end L _ _ _ hm
      have hlen := right_len hpos
      have hn := hr.len
      dsimp only at r1 r2 r3 r4
      have h5 : i + 2 + (bt L i).toNat ≤ e := by
        have := bt_bd L (i + 1)
        rw [r4]; unfold endOf; split <;> omega
      have HV : Hid (∀ w' : World, Below w.heap.size w w' → Calls Tryz.prog 35 #[.slice a n c, .int .i64 i, .int .i64 e] w' fun e' w'' => RetB N w' (valOf L i e) e' ∧ w' = w'') :=
        fun w' hb => value_any N a n c L i (bt L i).toNat e w' (hr.below (hb.mono hN)) (by omega) h5 (by omega)
      clear hf hmem hpos h0 hm r1 r2 r3 r4 hlen hn h5
      go_enter Tryz.func8, Tryz.ntmps8
      go_wp2_with (first | (go_at_call 23; refine HR.out.mono ?_; rintro e w' ⟨rfl, hb⟩) | (go_at_call 33; refine (HF.out _ hb).mono ?_; rintro e w' ⟨rfl, hb2⟩) | (go_at_call 35; refine (HV.out _ (hb.trans (hb2.mono hb.size))).mono ?_; rintro e w' ⟨⟨a', n', c', rfl, hrv⟩, rfl⟩) | (go_at_call 34; refine (Clone_any N _ _ _ _ _ hrv (by have := hb.size; have := hb2.size; omega)).mono ?_; rintro e w' ⟨⟨v, rfl, hov⟩, hb3⟩))
      go_ret2
      refine ⟨⟨_, by rw [Hfin.out]; rfl, by rw [Hfin.out]; exact hov.mono (by have := hb.size; have := hb2.size; omega)⟩, (hb.trans (hb2.mono hb.size)).trans (hb3.mono (by have := hb.size; have := hb2.size; omega))⟩
end Go.Proofs.YtbinikbgbgggaaaGreatDoor
