/- The iterator page.each: what it hands to its loop, at whatever loop body keeps the page and the box that holds it. -/
import Derived.Test.YtohlkkannjifmaaGreatDoorRound
namespace Go.Proofs.YtohlkkannjifmaaGreatDoor
open Go.RowKit Go.Shelf
attribute [local go_sem] Oper.semAt_some

/-- Where the row that begins at a place ends. -/
def endOf (p : List UInt8) (i : Nat) : Nat := if i + 2 ≤ p.length then i + 2 + (bt p i).toNat + (bt p (i + 1)).toNat else p.length + 1
/-- What each hands out: so many rows from a place on, no more behind one that ends too far. -/
def scan (p : List UInt8) : Nat → Nat → List (Nat × Nat)
  | 0, _ => []
  | c + 1, i => (i, endOf p i) :: (if p.length < endOf p i then [] else scan p c (endOf p i))
/-- A row that each may hand out, of a page L. -/
abbrev El (L : List UInt8) (P : Nat × Nat → Prop) := { x : Nat × Nat // (11 ≤ x.1 ∧ x.1 ≤ L.length ∧ x.2 = endOf L x.1) ∧ P x }
theorem endOf_in {p : List UInt8} {i : Nat} (h : i + 2 ≤ p.length) : endOf p i = i + 2 + (bt p i).toNat + (bt p (i + 1)).toNat := if_pos h
theorem endOf_out {p : List UInt8} {i : Nat} (h : ¬ i + 2 ≤ p.length) : endOf p i = p.length + 1 := if_neg h
theorem endOf_ge (p : List UInt8) (i : Nat) (h : i ≤ p.length) : i < endOf p i := by
  unfold endOf; split <;> omega
theorem endOf_le (p : List UInt8) (i : Nat) : endOf p i ≤ p.length + 510 := by
  have := bt_bd p i; have := bt_bd p (i + 1)
  unfold endOf; split <;> omega

set_option maxRecDepth 100000 in
set_option maxHeartbeats 2000000 in
theorem each1_in (n : Nat) (hn : 1 ≤ n) (l Bs N b o m c : Nat) (L : List UInt8) (P : Nat × Nat → Prop) (hP : ∀ x ∈ scan L (bt L 10).toNat 11, P x) (S : Nat → Prop) (hSb : S b) (hSB : S Bs) (hm : 11 ≤ m) (J Jx : List (El L P) → World → Prop)
    (hJd : ∀ pre W q, J pre W → J pre (W.drewN q))
    (hY : ∀ pre (x : El L P) W, J pre W → pre.length < (scan L (bt L 10).toNat 11).length → YieldAt Fence.wide (n - 1) Tryz.prog l #[.int .i64 (x.1.1 : Int), .int .i64 (x.1.2 : Int)] W fun e W' =>
      (e = .returned (.bool true) ∧ J (pre ++ [x]) W' ∧ KpS S W W') ∨ (e = .returned (.bool false) ∧ Jx (pre ++ [x]) W'))
    (W : World) (hBs : W.cell? ⟨Bs, 0, none⟩ = some (.slice (some ⟨b, o, none⟩) m c)) (hr : RB N W (some ⟨b, o, none⟩) m c L) (h0 : J [] W) :
    CallsIn Fence.wide n Tryz.prog 131 #[.func (.yield l) #[] #[], .pointer (some ⟨Bs, 0, none⟩)] W fun e W' => (∃ v, e = .returned v) ∧
      ((∃ ys, ys.map (·.1) = scan L (bt L 10).toNat 11 ∧ J ys W') ∨ (∃ pre, pre.map (·.1) <+: scan L (bt L 10).toNat 11 ∧ Jx pre W')) := by
  have hle := hr.le; have hmx := hr.mx; have hlm := hr.lm; have hln := hr.len
  obtain ⟨cnt, hcnt⟩ : ∃ cnt : Nat, bt L 10 = cnt := ⟨(bt L 10).toNat, by have := bt_bd L 10; omega⟩
  have hcb := bt_bd L 10
  obtain ⟨b', o', he, hB, hcell⟩ := hr.at_ (by omega)
  cases he
  have g10 := hcell 10 (by omega)
  rw [hcnt] at g10 hcb hY hP ⊢
  simp only [Int.toNat_natCast] at hY hP ⊢
  have HP := Lib.hid hP; clear hP
  have Hln := Lib.hid hln; clear hln
  have Hcell := Lib.hid hcell; clear hcell
  have Hcnt := Lib.hid hcnt; clear hcnt
  refine callsIn_of_wp Tryz.func131 rfl trivial ?_ rfl
  simp only [Tryz.ntmps131, List.size_toArray, List.length_cons, List.length_nil, Nat.reduceAdd, Nat.reduceSub, Array.replicate_succ, Array.replicate_zero, List.push_toArray, List.append_toArray, List.nil_append, List.cons_append]
  gi_wp2
  gi_loopw [3, 4, 8] (fun p _ i wr => ∃ (j q : Nat) (pre : List (El L P)), p = .int .i64 q ∧ i = .int .u8 j ∧ j ≤ cnt ∧ 11 ≤ q ∧ q ≤ m ∧ Hid (scan L cnt 11 = pre.map (·.1) ++ scan L (cnt - j) q) ∧ J pre wr ∧ Hid (KpS S W wr))
    (fun _ _ i _ => cnt - (intOf i).toNat)
  case atStart => exact ⟨0, 11, [], rfl, rfl, Nat.zero_le _, Nat.le_refl _, hm, rfl, h0, KpS.refl _ _⟩
  case round =>
    obtain ⟨j, q, pre, rfl, rfl, hj, hq11, hq, hsc, hJ, hK⟩ := hrel
    have hBs' := (hK.out.cell (o := 0) hSB).trans hBs
    by_cases hlt : j < cnt
    · obtain ⟨z, hz⟩ : ∃ z, z = endOf L q := ⟨_, rfl⟩
      have hzq := endOf_ge L q (by rw [← Hln.out]; exact hq)
      have hzm := endOf_le L q
      rw [← hz] at hzq hzm
      rw [← Hln.out] at hzm
      have hsc' : scan L cnt 11 = (pre.map (·.1) ++ [(q, z)]) ++ (if m < z then [] else scan L (cnt - (j + 1)) z) := by
        rw [hsc.out, show cnt - j = (cnt - (j + 1)) + 1 by omega, List.append_assoc]
        congr 1
        simp only [scan, ← hz, Hln.out]; rfl
      have hlen : pre.length < (scan L cnt 11).length := by rw [hsc']; simp only [List.length_append, List.length_map, List.length_singleton]; omega
      have Hsc := Lib.hid hsc'; clear hsc' hsc
      obtain ⟨xe, hxe⟩ : ∃ xe : El L P, xe.1 = (q, z) := ⟨⟨(q, z), ⟨hq11, by rw [← Hln.out]; exact hq, hz⟩, HP.out _ (by rw [Hsc.out]; simp)⟩, rfl⟩
      have Hxe := Lib.hid hxe; clear hxe
      by_cases h2 : q + 2 ≤ m
      · obtain ⟨x, hx⟩ : ∃ x : Nat, bt L q = x := ⟨(bt L q).toNat, by have := bt_bd L q; omega⟩
        obtain ⟨y, hy'⟩ : ∃ y : Nat, bt L (q + 1) = y := ⟨(bt L (q + 1)).toNat, by have := bt_bd L (q + 1); omega⟩
        have gx := (hK.out.cell (o := o + q) hSb).trans (Hcell.out q (by omega))
        have gy := (hK.out.cell (o := o + (q + 1)) hSb).trans (Hcell.out (q + 1) (by omega))
        have hxb := bt_bd L q
        have hyb := bt_bd L (q + 1)
        rw [hx] at gx hxb
        rw [hy'] at gy hyb
        have hzz : z = q + 2 + x + y := by rw [hz, endOf_in (by rw [← Hln.out]; exact h2), hx, hy']; rfl
        clear hx hy' hz
        subst hzz
        gi_wp2
        refine wpIn_wide.2 ?_
        go_quiet (fail)
        obtain ⟨fn, tmps, assign, body, hy, hR⟩ := hY pre xe (wr.drewN nq) (hJd _ _ _ hJ) hlen
        have ez : (((q, q + 2 + x + y) : Nat × Nat).2 : Int) = (q : Int) + 2 + x + y := by show ((q + 2 + x + y : Nat) : Int) = _; omega
        rw [Hxe.out, ez] at hy
        clear ez
        dsimp only at hy
        gi_wp2
        refine hR.mono ?_
        rintro e W3 (⟨rfl, hJ3, hk3⟩ | ⟨rfl, hJx3⟩)
        · have hK3 : KpS S W W3 := hK.out.trans hk3
          have hBs3 := (hK3.cell (o := 0) hSB).trans hBs
          gi_wp2
          · have hgt : m < q + 2 + x + y := by omega
            refine bodyPost_ret (results_none rfl _ _ _) rfl ?_
            refine ⟨⟨_, rfl⟩, .inl ⟨pre ++ [xe], ?_, hJ3⟩⟩
            rw [List.map_append, List.map_singleton, Hxe.out, Hsc.out, if_pos hgt, List.append_nil]
          · have hgt : ¬ m < q + 2 + x + y := by omega
            go_roundw
            case rel =>
              refine ⟨j + 1, q + 2 + x + y, pre ++ [xe], congrArg (Value.int .i64) (by omega), by go_num, by omega, by omega, by omega, ?_, hJ3, hK3⟩
              show _ = _
              rw [List.map_append, List.map_singleton, Hxe.out, Hsc.out, if_neg hgt]
            case measure => simp [intOf]; omega
        · gi_wp2
          refine bodyPost_ret (results_none rfl _ _ _) rfl ?_
          refine ⟨⟨_, rfl⟩, .inr ⟨pre ++ [xe], ?_, hJx3⟩⟩
          rw [List.map_append, List.map_singleton, Hxe.out, Hsc.out]
          exact List.prefix_append _ _
      · have hzz : z = m + 1 := by rw [hz, endOf_out (by rw [← Hln.out]; exact h2), ← Hln.out]
        clear hz
        subst hzz
        obtain ⟨fn, tmps, assign, body, hy, hR⟩ := hY pre xe wr hJ hlen
        have ez : (((q, m + 1) : Nat × Nat).2 : Int) = (m : Int) + 1 := by show ((m + 1 : Nat) : Int) = _; omega
        rw [Hxe.out, ez] at hy
        clear ez
        dsimp only at hy
        gi_wp2
        refine hR.mono ?_
        rintro e W3 (⟨rfl, hJ3, hk3⟩ | ⟨rfl, hJx3⟩)
        · have hK3 : KpS S W W3 := hK.out.trans hk3
          have hBs3 := (hK3.cell (o := 0) hSB).trans hBs
          gi_wp2
          refine bodyPost_ret (results_none rfl _ _ _) rfl ?_
          refine ⟨⟨_, rfl⟩, .inl ⟨pre ++ [xe], ?_, hJ3⟩⟩
          rw [List.map_append, List.map_singleton, Hxe.out, Hsc.out, if_pos (Nat.lt_succ_self m), List.append_nil]
        · gi_wp2
          refine bodyPost_ret (results_none rfl _ _ _) rfl ?_
          refine ⟨⟨_, rfl⟩, .inr ⟨pre ++ [xe], ?_, hJx3⟩⟩
          rw [List.map_append, List.map_singleton, Hxe.out, Hsc.out]
          exact List.prefix_append _ _
    · have hcj : cnt - j = 0 := by omega
      have hge : cnt ≤ j := by omega
      gi_wp2
      go_end0
      refine ⟨⟨_, rfl⟩, .inl ⟨pre, ?_, hJ⟩⟩
      rw [hsc.out, hcj, scan, List.append_nil]

set_option maxHeartbeats 1000000 in
theorem each_any (a : Option Addr) (n c : Nat) (w : World) :
    Calls Tryz.prog 82 #[.slice a n c] w fun e w' => e = .returned (.func (.func 131) #[] #[.pointer (some ⟨w.heap.size, 0, none⟩)]) ∧ w.alloc (.cells #[.slice a n c] 27) = w' := by
  go_enter Tryz.func82, Tryz.ntmps82
  go_wp2
  go_ret
  exact ⟨rfl, rfl⟩

/-- What page.each answers, as the law on a range over a function asks it. -/
theorem each_stops (n : Nat) (hn : 1 ≤ n) (Bs N b o m c : Nat) (L : List UInt8) (P : Nat × Nat → Prop) (hP : ∀ x ∈ scan L (bt L 10).toNat 11, P x) (S : Nat → Prop) (hSb : S b) (hSB : S Bs) (hm : 11 ≤ m) (w : World) (hS : ∀ k, S k → k < w.heap.size)
    (hBs : w.cell? ⟨Bs, 0, none⟩ = some (.slice (some ⟨b, o, none⟩) m c)) (hr : RB N w (some ⟨b, o, none⟩) m c L) :
    SeqStopsK Fence.wide n Tryz.prog 131 #[.pointer (some ⟨Bs, 0, none⟩)] (fun x : El L P => #[Value.int .i64 (x.1.1 : Int), .int .i64 (x.1.2 : Int)]) (KpS S)
      (fun ys => ys.map (·.1) = scan L (bt L 10).toNat 11) (fun pre => pre.map (·.1) <+: scan L (bt L 10).toNat 11) (scan L (bt L 10).toNat 11).length w := by
  intro l J Jx W hW hJ hJx hY h0
  have hK : KpS S w W := fun k hk => hW.block k (hS k hk)
  refine each1_in n hn l Bs N b o m c L P hP S hSb hSB hm J Jx (fun pre W1 q hj => ?_) hY W ((hK.cell (o := 0) hSB).trans hBs) (hK.rb hSb hr) h0
  exact hJ pre W1 (W1.drewN q) none hj ⟨rfl, rfl, rfl, Nat.le_refl _, fun _ _ _ => rfl⟩ (fun r e => by cases e)
end Go.Proofs.YtohlkkannjifmaaGreatDoor
