/- storemanlaw21.tells. -/
import Derived.Test.YtbinikbgbgggaaaGreatDoorRefU
import Derived.Test.YtbinikbgbgggaaaGreatDoorLentT
import Derived.Test.YtbinikbgbgggaaaGreatDoorRowsW
namespace Go.Proofs.YtbinikbgbgggaaaGreatDoor
open Go.RowKit Go.Shelf

theorem get_len (L K : List UInt8) : ((getL L K).getD []).length ≤ 512 := by
  unfold getL
  by_cases h : behindL L = 0
  · rw [if_pos h]; simp
  · rw [if_neg h]
    have hl := right_len (show 0 < behindL L by omega)
    split
    · unfold valOf
      simp only [Option.getD_some, List.length_take, List.length_drop]
      omega
    · simp
theorem getbytes {B : Nat} {w : World} {v : Value} {l : List UInt8} (h : OB B w v l) (hl : l.length ≤ 512) : ∃ a c, v = .slice a l.length c ∧ RB w.heap.size w a l.length c l := h.rb (by omega)

set_option maxHeartbeats 8000000 in
set_option maxRecDepth 100000 in
theorem tells_any (N M : Nat) (a ka : Option Addr) (n c kn kc : Nat) (L K : List UInt8) (w : World) (hr : RB N w a n c L) (hk : RB M w ka kn kc K) (hN : N ≤ w.heap.size) (hM : M ≤ w.heap.size) :
    Calls Tryz.prog 7 #[.slice a n c, .slice ka kn kc] w fun e w' => e = .returned (.bool true) ∧ Below w.heap.size w w' := by
  have hl := get_len L K
  have HR : Hid (∀ W, Below w.heap.size w W → RB N W a n c L ∧ N ≤ W.heap.size) := Lib.hid fun W h => ⟨hr.below (h.mono hN), Nat.le_trans hN h.size⟩
  have HK : Hid (∀ W, Below w.heap.size w W → RB M W ka kn kc K ∧ M ≤ W.heap.size) := Lib.hid fun W h => ⟨hk.below (h.mono hM), Nat.le_trans hM h.size⟩
  have Hl := Lib.hid hl
  clear hr hk hl
  go_enter Tryz.func7, Tryz.ntmps7
  go_wp2_with (fail)
  go_at_call 8
  refine (Get_any N M a n c L ka kn kc K w (HR.out _ (Below.refl _ _)).1 (HK.out _ (Below.refl _ _)).1 hN hM).mono ?_
  rintro e w1 ⟨⟨v1, rfl, o1⟩, hb1⟩
  obtain ⟨a1, c1, rfl, r1⟩ := getbytes o1 Hl.out
  have B1 := Lib.hid hb1
  have R1 := Lib.hid r1
  clear o1 hb1 r1
  go_wp2_with (fail)
  go_at_call 26
  refine (rGet_any N M a ka n c kn kc L K w1 (HR.out _ B1.out).1 (HK.out _ B1.out).1 (HR.out _ B1.out).2 (HK.out _ B1.out).2).mono ?_
  rintro e w2 ⟨⟨a2, n2, c2, rfl, r2⟩, hb2⟩
  have B2 := Lib.hid (B1.out.trans (hb2.mono B1.out.size))
  have Q1 := Lib.hid (R1.out.below hb2)
  have R2 := Lib.hid r2
  have z1 : w1.heap.size ≤ w2.heap.size := hb2.size
  clear hb2 r2
  have HSB : Hid (∀ W, Below w2.heap.size w2 W → Calls Tryz.prog 24 #[.slice a1 ((getL L K).getD []).length c1, .slice a2 n2 c2] W fun e w' => e = .returned (.bool true) ∧ Below W.heap.size W w') := Lib.hid fun W hW => by
    have h := SameBytes_any w2.heap.size _ _ _ _ _ _ _ _ W ((Q1.out.mono z1).below hW) (R2.out.below hW)
    rw [eqB_self] at h
    exact h.mono fun e w' ⟨he, q, hq⟩ => ⟨he, hq ▸ below_dn (Below.refl _ _) q⟩
  generalize ((getL L K).getD []).length = gl at HSB ⊢
  generalize (getL L K).isSome = gs at *
  have E2 := Lib.hid (Below.refl w2.heap.size w2)
  go_wp2_with (fail)
  go_at_call 23
  refine (Right_any N a n c L w2 (HR.out _ B2.out).1 (HR.out _ B2.out).2).mono ?_
  rintro e w3 ⟨rfl, hb⟩
  have B3 := Lib.hid (B2.out.trans (hb.mono B2.out.size))
  have E3 := Lib.hid (E2.out.trans (hb.mono E2.out.size))
  clear hb
  go_wp2_with (fail)
  go_at_call 27
  refine (rRight_any N a n c L w3 (HR.out _ B3.out).1 (HR.out _ B3.out).2).mono ?_
  rintro e w4 ⟨rfl, hb⟩
  have B4 := Lib.hid (B3.out.trans (hb.mono B3.out.size))
  have E4 := Lib.hid (E3.out.trans (hb.mono E3.out.size))
  clear hb
  go_wp2_with (fail)
  go_at_call 18
  refine (Lsn_any N a n c L w4 (HR.out _ B4.out).1 (HR.out _ B4.out).2).mono ?_
  rintro e w5 ⟨rfl, hb⟩
  have B5 := Lib.hid (B4.out.trans (hb.mono B4.out.size))
  have E5 := Lib.hid (E4.out.trans (hb.mono E4.out.size))
  clear hb
  go_wp2_with (fail)
  go_at_call 28
  refine (rLsn_any N a n c L w5 (HR.out _ B5.out).1 (HR.out _ B5.out).2).mono ?_
  rintro e w6 ⟨rfl, hb⟩
  have B6 := Lib.hid (B5.out.trans (hb.mono B5.out.size))
  have E6 := Lib.hid (E5.out.trans (hb.mono E5.out.size))
  clear hb
  go_wp2_with (fail)
  go_at_call 20
  refine (Next_any N a n c L w6 (HR.out _ B6.out).1 (HR.out _ B6.out).2).mono ?_
  rintro e w7 ⟨rfl, hb⟩
  have B7 := Lib.hid (B6.out.trans (hb.mono B6.out.size))
  have E7 := Lib.hid (E6.out.trans (hb.mono E6.out.size))
  clear hb
  go_wp2_with (fail)
  go_at_call 29
  refine (rNext_any N a n c L w7 (HR.out _ B7.out).1 (HR.out _ B7.out).2).mono ?_
  rintro e w8 ⟨rfl, hb⟩
  have B8 := Lib.hid (B7.out.trans (hb.mono B7.out.size))
  have E8 := Lib.hid (E7.out.trans (hb.mono E7.out.size))
  clear hb
  go_wp2_with (fail)
  go_at_call 15
  refine (Room_any N a n c L w8 (HR.out _ B8.out).1 (HR.out _ B8.out).2).mono ?_
  rintro e w9 ⟨rfl, hb⟩
  have B9 := Lib.hid (B8.out.trans (hb.mono B8.out.size))
  have E9 := Lib.hid (E8.out.trans (hb.mono E8.out.size))
  clear hb
  go_wp2_with (fail)
  go_at_call 30
  refine (rRoom_any N a n c L w9 (HR.out _ B9.out).1 (HR.out _ B9.out).2).mono ?_
  rintro e w10 ⟨rfl, hb⟩
  have B10 := Lib.hid (B9.out.trans (hb.mono B9.out.size))
  have E10 := Lib.hid (E9.out.trans (hb.mono E9.out.size))
  clear hb
  go_wp2_with (fail)
  go_at_call 9
  refine (Rows_any N a n c L w10 (HR.out _ B10.out).1 (HR.out _ B10.out).2).mono ?_
  rintro e w11 ⟨⟨v, rfl, ho⟩, hb⟩
  obtain ⟨va, vc, rfl, hr11⟩ := ho.rows
  have B11 := Lib.hid (B10.out.trans (hb.mono B10.out.size))
  have E11 := Lib.hid (E10.out.trans (hb.mono E10.out.size))
  have HR11 := Lib.hid hr11
  clear ho hb hr11
  go_wp2_with (fail)
  go_at_call 32
  refine (rRows_any N a n c L w11 (HR.out _ B11.out).1 (HR.out _ B11.out).2).mono ?_
  rintro e w12 ⟨⟨va2, vc2, rfl, ho⟩, hb⟩
  have B12 := Lib.hid (B11.out.trans (hb.mono B11.out.size))
  have E12 := Lib.hid (E11.out.trans (hb.mono E11.out.size))
  have HSR := Lib.hid (SameRows_any w12.heap.size va va2 _ vc _ vc2 (rowsL L) (rowsL L) w12 (Nat.le_refl _) ((HR11.out.below hb).mono hb.size) ho.at_ rfl)
  clear ho hb
  generalize (rowsL L).length = rl at HSR ⊢
  go_wp2_with (fail)
  go_at_call 31
  refine HSR.out.mono ?_
  rintro e w13 ⟨rfl, hb⟩
  have B13 := Lib.hid (B12.out.trans (hb.mono B12.out.size))
  have E13 := Lib.hid (E12.out.trans (hb.mono E12.out.size))
  clear hb
  go_wp2_with (fail)
  go_at_call 24
  refine (HSB.out _ E13.out).mono ?_
  rintro e w14 ⟨rfl, hb⟩
  have B14 := Lib.hid (B13.out.trans (hb.mono B13.out.size))
  clear hb
  go_wp2_with (fail)
  go_ret
  exact ⟨rfl, B14.out⟩
end Go.Proofs.YtbinikbgbgggaaaGreatDoor
