/- append of bytes onto a slice that the call itself has made. The walks of page.turned, page.New, page.Right, page.Room, bytes.Clone, page.Get. -/
import Derived.Test.YtohlkkannjifmaaGreatDoorPageA
import Derived.OwnWalk
import Derived.Test.YtohlkkannjifmaaGreatDoorPageE
namespace Go.Proofs.YtohlkkannjifmaaGreatDoor
open Go.RowKit

/-- The slice value v leads to memory of the call's own, from block base on, and reads as the bytes l; or it is nil, and l is empty. -/
def OB (base : Nat) (w : World) (v : Value) (l : List UInt8) : Prop := w.ownsRow base 5 1 v l.length (l.map bv)
theorem Tryz.infoU8 : (Tryz.prog.info? 5).map (fun i => (i.zero, i.size, i.bytes)) = some (some (.int .u8 0), 1, 1) := by kernel_rfl

theorem OB.nil (base : Nat) (w : World) : OB base w (.slice none 0 0) [] := World.ownsRow_nil _ _ _ _
theorem OB.mono {B B' : Nat} {w : World} {v : Value} {l : List UInt8} (h : OB B w v l) (hb : B' ≤ B) : OB B' w v l := by
  obtain ⟨h1, h2 | ⟨g, cap, cur, hv, hg, r⟩⟩ := h
  · exact ⟨h1, .inl h2⟩
  · exact ⟨h1, .inr ⟨g, cap, cur, hv, Nat.le_trans hb hg, r⟩⟩
theorem OB.rb {base : Nat} {w : World} {v : Value} {l : List UInt8} (h : OB base w v l) (hmx : l.length ≤ 140737488355328) : ∃ a c, v = .slice a l.length c ∧ RB w.heap.size w a l.length c l := by
  have hl := h.lt
  obtain ⟨h1, ⟨rfl, h0⟩ | ⟨g, cap, cur, rfl, hg, hh, hle, hcap, hsz, ht⟩⟩ := h
  · have : l = [] := List.eq_nil_of_length_eq_zero h0
    subst this
    exact ⟨none, 0, rfl, RB.emp _⟩
  · refine ⟨some ⟨g, 0, none⟩, cap, rfl, ⟨rfl, hle, by simpa [maxLen] using hcap, hmx, fun _ => ⟨g, 0, rfl, (Array.getElem?_eq_some_iff.1 hh).1, fun i hi => ?_⟩⟩⟩
    have hb := bv_getD l i hi
    rw [← ht] at hb
    simp only [World.cell?, hh, Nat.zero_add, Option.isSome_none, Bool.false_eq_true, if_false]
    rw [List.getElem?_take, if_pos (by omega)] at hb
    simpa using hb

theorem run_append_nothing {P : Program} (w : World) (t ty e : TypeId) (i : TypeInfo) (ht : P.underlying t = some (.slice e)) (hi : P.info? e = some i) (sa xa : Option Addr) (n c d : Nat) (hnc : n ≤ c) :
    (Builtin.append_ #[t, t] ty #[.slice sa n c, .slice xa 0 d]).run P w = .ok (.slice sa n c) w := by
  have hn : n + 0 ≤ c := by omega
  have hl : ∀ a, (loadCells a 0).run P w = .ok #[] w := fun a => by simpa using run_loadCells_list (P := P) w a [] (by simp)
  cases sa <;> cases xa <;> simp [Builtin.append_, run_underlying ht, sizeOf, typeInfo, hi, Builtin.lenOf, Builtin.firstCells, hnc, hl, storeCells]


theorem wpList_append_bytes {w : World} {ops : Array Oper} {rest : List Oper} {o : Oper} {a : Act} {Q : Exit → Act → World → Prop} (hgd : o.guard = none) (s x : Operand)
    (ho : o.op = .call { callee := .builtin .append, args := #[s, x], argTypes := #[27, 27] })
    (base B : Nat) (v : Value) (l : List UInt8) (hs : a.eval s = v) (hown : OB base w v l) (sa : Option Addr) (m c : Nat) (k : List UInt8) (hx : a.eval x = .slice sa m c) (hsrc : RB B w sa m c k)
    (hlen : l.length + k.length ≤ 140737488355328) (hbase : base ≤ w.heap.size)
    (h : ∀ v' w', OB base w' v' (l ++ k) → w.grownBy w' v.ownBlock → (v' = .slice none 0 0 ↔ v = .slice none 0 0 ∧ k = []) → wpList Tryz.prog ops Q rest (a.put o.dst v') w') : wpList Tryz.prog ops Q (o :: rest) a w := by
  obtain ⟨i0, hi, hz0, hz1, hz2⟩ := info_parts Tryz.infoU8
  have hm := hsrc.len
  by_cases h0 : m = 0
  · subst h0
    obtain rfl : k = [] := List.eq_nil_of_length_eq_zero hm.symm
    obtain ⟨va, vc, rfl, hrb⟩ := hown.rb (by simpa using hlen)
    refine wpList_plain hgd fun K hK => ?_
    have hrun := run_append_nothing (P := Tryz.prog) w 27 o.type 5 i0 Tryz.underlying27 hi va sa l.length vc c hrb.le
    unfold Oper.wp execOp
    simp only [ho, resolve, invoke, builtin, Sem.run_bind, Sem.run_pure, Result.andThen_ok, List.map_toArray, List.map_cons, List.map_nil, hs, hx, hrun]
    exact hK _ _ (h _ _ (by simpa using hown) ⟨rfl, rfl, rfl, Nat.le_refl _, fun _ _ _ => rfl⟩ (by simp))
  · have hle := hsrc.le
    obtain ⟨b, o', rfl, hB, hc⟩ := hsrc.at_ (by omega)
    refine wpList_append_own w hgd s x 27 ho base 5 i0 _ 1 1 Tryz.underlying27 hi hz0 hz1 hz2 rfl (by decide) v l.length (l.map bv) hs hown ⟨b, o', none⟩ m c (k.map bv) hx (by simp [hm]) hsrc.cells
      (fun u hu => by obtain ⟨y, _, rfl⟩ := List.mem_map.1 hu; rfl) (by simp only [maxLen]; omega) (by omega) hbase ?_
    intro v' w' hown' hg hn
    refine h v' w' ?_ hg ?_
    · unfold OB
      rw [List.length_append, List.map_append, ← hm]
      exact hown'
    · rw [hn]
      have : k ≠ [] := fun e => h0 (by rw [hm, e]; rfl)
      simp [h0, this]
end Go.Proofs.YtohlkkannjifmaaGreatDoor
namespace Go.Proofs.YtohlkkannjifmaaGreatDoor
open Go.RowKit Go.Shelf

theorem walkB_fst (p : List UInt8) : ∀ (l : List (Nat × Nat)) (s s' : Nat × Nat), walkB p s l = some s' → s.1 ≤ p.length → s'.1 ≤ p.length
  | [], s, s', h, hs => by simp only [walkB] at h; cases h; exact hs
  | x :: l, s, s', h, hs => by
    simp only [walkB] at h
    split at h
    · rename_i hx
      refine walkB_fst p l _ s' h ?_
      unfold okRow at hx
      simp only [Bool.and_eq_true, decide_eq_true_eq] at hx
      exact hx.1.1.1.1.1
    · cases h
theorem behindL_le (p : List UInt8) : behindL p ≤ p.length := by
  unfold behindL
  split
  · omega
  · rename_i h512
    have h5 : p.length = 512 := by
      rcases Nat.decEq p.length 512 with h | h
      · exact absurd (.inl h) h512
      · exact h
    split
    · omega
    · rename_i s hs
      split
      · omega
      · exact walkB_fst p _ _ _ hs (by rw [h5]; omega)

def turnedB (k o n : Nat) : Bool := decide (0 < k) && decide (k ≤ 40) && decide (0 < max o n) && decide (k + max o n ≤ 220)

set_option maxHeartbeats 1000000 in
theorem turned_any (ka oa na : Option Addr) (kn kc on oc nn nc : Nat) (w : World) (hk : kn ≤ 140737488355328) (ho : on ≤ 140737488355328) (hn : nn ≤ 140737488355328) :
    Calls Tryz.prog 66 #[.agg #[.slice ka kn kc, .slice oa on oc, .slice na nn nc]] w fun e w' => e = .returned (.bool (turnedB kn on nn)) ∧ Below w.heap.size w w' := by
  have hm : ((max on nn : Nat) : Int) = max (on : Int) (nn : Int) := by omega
  go_enter Tryz.func66, Tryz.ntmps66
  go_wp2
  go_quiet (fail)
  go_wp2
  all_goals
    go_ret
    refine ⟨?_, below_dn (by go_grown) _⟩
    refine congrArg (fun x => Ending.returned (.bool x)) ?_
    rw [Bool.eq_iff_iff]
    simp [turnedB]
    omega

/-- A page that a call may turn: it begins its block; X: what the block holds behind it. -/
structure PG (W : World) (g : Nat) (c : Nat) (L : List UInt8) (X : List Value) : Prop where
  blk : W.heap[g]? = some (.cells (L.map bv ++ X).toArray 5 (0, 0))
  len : L.length = 512
  cap : c = 512 + X.length
  mx : c ≤ 9223372036854775807
theorem PG.rb {W : World} {g c : Nat} {L : List UInt8} {X : List Value} (h : PG W g c L X) : RB W.heap.size W (some ⟨g, 0, none⟩) 512 c L :=
  ⟨h.len.symm, by rw [h.cap]; omega, h.mx, by omega, fun _ => ⟨g, 0, rfl, (Array.getElem?_eq_some_iff.1 h.blk).1, fun i hi => by
    have hlen := h.len
    have hg := bv_getD L i (by omega)
    simp only [World.cell?, h.blk, Nat.zero_add, Option.isSome_none, Bool.false_eq_true, if_false]
    rw [List.getElem?_toArray, List.getElem?_append_left (by simp; omega), hg]⟩⟩
theorem PG.below {B : Nat} {W W' : World} {g c : Nat} {L : List UInt8} {X : List Value} (h : PG W g c L X) (hb : Below B W W') (hg : g < B) : PG W' g c L X :=
  ⟨(hb.block g hg).trans h.blk, h.len, h.cap, h.mx⟩
theorem PG.lt {W : World} {g c : Nat} {L : List UInt8} {X : List Value} (h : PG W g c L X) : g < W.heap.size := (Array.getElem?_eq_some_iff.1 h.blk).1

set_option maxHeartbeats 1000000 in
theorem New_any (w : World) :
    Calls Tryz.prog 25 #[] w fun e w' => e = .returned (.slice (some ⟨w.heap.size, 0, none⟩) 512 512) ∧ PG w' w.heap.size 512 (List.replicate 512 0) [] ∧ Below w.heap.size w w' := by
  obtain ⟨i0, hi, hz0, hz1, hz2⟩ := info_parts Tryz.infoU8
  have hmk := run_make (P := Tryz.prog) w 27 5 i0 _ Tryz.underlying27 hi hz0 .i64 .i64 512 512 (by decide) (by decide) (by rw [hz2]; decide) (by decide)
  obtain ⟨blk, hblk⟩ : ∃ blk, blk = madeCells (Value.int .u8 0).cells ((512 : Int).toNat * i0.size) := ⟨_, rfl⟩
  rw [← hblk] at hmk
  have hpg : PG (w.alloc (.cells blk 5)) w.heap.size 512 (List.replicate 512 0) [] := by
    refine ⟨?_, by rw [List.length_replicate], rfl, by omega⟩
    rw [heap_alloc_new, hblk, hz1]
    have e : madeCells (Value.int .u8 0).cells ((512 : Int).toNat * 1) = ((List.replicate 512 (0 : UInt8)).map bv ++ []).toArray := by
      apply Array.ext'
      rw [List.append_nil, List.map_replicate]
      exact toList_madeCells_one _ _
    rw [e]
  have hbl : Below w.heap.size w (w.alloc (.cells blk 5)) := (Below.refl _ w).alloc (Nat.le_refl _) _
  have Hpg := Lib.hid hpg
  have Hbl := Lib.hid hbl
  clear hblk hpg hbl hi hz0 hz1 hz2
  have e1 : (512 : Int).toNat = 512 := rfl
  rw [e1] at hmk
  clear e1
  go_enter Tryz.func25, Tryz.ntmps25
  go_wp2
  go_ret
  exact ⟨rfl, Hpg.out, Hbl.out⟩

set_option maxHeartbeats 1000000 in
theorem Right_any (N : Nat) (a : Option Addr) (n c : Nat) (L : List UInt8) (w : World) (hr : RB N w a n c L) (hN : N ≤ w.heap.size) :
    Calls Tryz.prog 76 #[.slice a n c] w fun e w' => e = .returned (.bool (decide (0 < behindL L))) ∧ Below w.heap.size w w' := by
  go_enter Tryz.func76, Tryz.ntmps76
  go_wp2_with (go_at_call 65; refine (behind_any N _ _ _ _ _ hr hN).mono ?_; rintro e w' ⟨rfl, hb⟩)
  go_ret
  exact ⟨by simp, hb⟩

def roomL (L : List UInt8) : Nat := if behindL L = 0 then 0 else L.length - behindL L
set_option maxHeartbeats 1000000 in
theorem Clone_any (N : Nat) (a : Option Addr) (n c : Nat) (L : List UInt8) (w : World) (hr : RB N w a n c L) (hN : N ≤ w.heap.size) :
    Calls Tryz.prog 83 #[.slice a n c] w fun e w' => (∃ v, e = .returned v ∧ OB w.heap.size w' v L) ∧ Below w.heap.size w w' := by
  have hle := hr.le; have hmx := hr.mx; have hlm := hr.lm; have hln := hr.len
  cases a with
  | none =>
    have hc0 : c = 0 := by
      rcases Nat.eq_zero_or_pos c with h | h
      · exact h
      · obtain ⟨b, o, h', -⟩ := hr.at_ h; cases h'
    subst hc0
    obtain rfl : n = 0 := by omega
    obtain rfl : L = [] := List.eq_nil_of_length_eq_zero hln.symm
    have hq := Lib.run_eql_slice_nil (P := Tryz.prog) w 27 5 none 0 0 0 0 Tryz.underlying27
    clear hle hmx hlm hln
    go_enter Tryz.func83, Tryz.ntmps83
    go_wp2
    go_ret
    exact ⟨⟨_, rfl, OB.nil _ _⟩, Below.refl _ _⟩
  | some a =>
    have hq := Lib.run_eql_slice_nil (P := Tryz.prog) w 27 5 (some a) n c 0 0 Tryz.underlying27
    have Hln := Lib.hid hln
    clear hln
    go_enter Tryz.func83, Tryz.ntmps83
    have hown0 : OB w.heap.size (w.alloc (.cells #[] 5)) (.slice (some ⟨w.heap.size, 0, none⟩) 0 0) [] := World.ownsRow_made w #[] 0 (Nat.le_refl _) (by simp) rfl
    have hb1 : Below w.heap.size w (w.alloc (.cells #[] 5)) := (Below.refl _ w).alloc (Nat.le_refl _) _
    have hr1 := hr.below (hb1.mono hN)
    have Hown := Lib.hid hown0
    have Hb1 := Lib.hid hb1
    have Hr1 := Lib.hid hr1
    clear hown0 hb1 hr1
    go_wp2_with (at_builtin; refine wpList_append_bytes rfl _ _ rfl w.heap.size N _ [] rfl Hown.out _ _ _ L rfl Hr1.out (by simp [← Hln.out]; exact hlm) (by simp) ?_; intro v' w' hown' hg _)
    go_ret
    refine ⟨⟨_, rfl, by simpa using hown'⟩, Hb1.out.grown hg (by simp) (fun k e => ?_)⟩
    cases e
    exact Nat.le_refl _

/-- A row's value. -/
def valOf (p : List UInt8) (i e : Nat) : List UInt8 := (p.drop (i + 2 + (bt p i).toNat)).take (e - (i + 2 + (bt p i).toNat))
def getL (p k : List UInt8) : Option (List UInt8) := if behindL p = 0 then none else match findL p k with | (i, e, true) => some (valOf p i e) | _ => none

theorem find_any (N M : Nat) (a : Option Addr) (n c : Nat) (L : List UInt8) (ka : Option Addr) (kn kc : Nat) (K : List UInt8) (w : World) (hr : RB N w a n c L) (hk : RB M w ka kn kc K) (hN : N ≤ w.heap.size) (hM : M ≤ w.heap.size)
    (hL : 0 < behindL L) : Calls Tryz.prog 67 #[.slice a n c, .slice ka kn kc] w fun e w' =>
      e = .returned (.tuple #[.int .i64 (findL L K).1, .int .i64 (findL L K).2.1, .bool (findL L K).2.2]) ∧ Below w.heap.size w w' := by
  have hlen := right_len hL
  have hn := hr.len
  have hle := hr.le
  obtain rfl : n = 512 := by omega
  obtain ⟨b, o, rfl, -, -⟩ := hr.at_ (by omega)
  exact callsIn_wide.1 (find_in N M b o c L ka kn kc K w hr hk hN hM (right_rows hL))

end Go.Proofs.YtohlkkannjifmaaGreatDoor
