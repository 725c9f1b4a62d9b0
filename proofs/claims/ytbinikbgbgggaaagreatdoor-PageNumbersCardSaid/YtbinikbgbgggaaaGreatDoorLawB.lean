/- The law's own functions: turn, long. The law's awake. -/
import Derived.Test.YtbinikbgbgggaaaGreatDoorTurn
import Derived.Laws.IdiomStrings
import Derived.Test.YtbinikbgbgggaaaGreatDoorSame
import Derived.Lib.SlBytesConst
namespace Go.Proofs.YtbinikbgbgggaaaGreatDoor
open Go.RowKit Go.Shelf

theorem bytesRow_get (s : ByteArray) (c i : Nat) (hi : i < s.size) : (bytesRow s c)[i]? = some (.int .u8 (bt s.data.toList i)) := by
  have hi' : i < s.data.size := hi
  unfold bytesRow
  rw [Array.getElem?_append_left (by simpa using hi')]
  simp only [Array.getElem?_map, Array.getElem?_eq_getElem hi', Option.map_some]
  unfold bt
  simp [List.getD_eq_getElem?_getD, Array.getElem?_eq_getElem hi']

set_option maxRecDepth 100000 in
theorem wpList_str_bytes {w : World} {ops : Array Oper} {rest : List Oper} {o : Oper} {a : Act} {Q : Exit → Act → World → Prop} (hgd : o.guard = none) (x : Operand)
    (ho : o.op = .convert 9 22 x) (s : ByteArray) (hx : a.eval x = .string s) (hlm : s.size ≤ 140737488355328)
    (h : ∀ c w', Below w.heap.size w w' → RB w'.heap.size w' (some ⟨w.heap.size, 0, none⟩) s.size c s.data.toList → w'.heap.size = w.heap.size + 1 → wpList Tryz.prog ops Q rest (a.put o.dst (.slice (some ⟨w.heap.size, 0, none⟩) s.size c)) w') : wpList Tryz.prog ops Q (o :: rest) a w := by
  refine wpList_plain hgd fun K hK => ?_
  have hrun := run_bytes_of_string (P := Tryz.prog) w 9 22 5 s Tryz.underlying9 Tryz.underlying22 Tryz.underlying5
  unfold Oper.wp execOp
  simp only [ho, hx]
  rw [Sem.run_bind, hrun]
  simp only [Result.andThen_ok, Sem.run_pure]
  refine hK _ _ (h _ _ ?_ ?_ ?_)
  · exact ((Below.refl _ w).drew).alloc (Nat.le_refl _) _
  · have hc := grownCap_ge w s.size 0 5
    have hm := grownCap_le_maxLen w s.size 0 5 (by unfold maxLen; omega)
    refine ⟨Array.length_toList.symm, hc, by simpa [maxLen] using hm, hlm, fun _ => ⟨_, _, rfl, by simp, fun i hi => ?_⟩⟩
    have hh := heap_alloc_new w.drew (.cells (bytesRow s (grownCap w s.size 0 5)) 5 ((bytesRow s (grownCap w s.size 0 5)).size, (bytesRow s (grownCap w s.size 0 5)).size + 1))
    have hd : w.drew.heap.size = w.heap.size := rfl
    rw [hd] at hh
    simp only [World.cell?, hh, Nat.zero_add, Option.isSome_none, Bool.false_eq_true, if_false]
    exact bytesRow_get s _ i hi
  · simp

theorem T3.frozen {W : World} {z : Nat} {v0 v1 v2 : Value} (h : T3 W z v0 v1 v2) : W.frozen? ⟨z, 0, none⟩ = false ∧ W.frozen? ⟨z, 1, none⟩ = false ∧ W.frozen? ⟨z, 2, none⟩ = false := by
  unfold T3 at h; simp [World.frozen?, h]

set_option maxRecDepth 100000 in
/-- The law's turn: of three strings. -/
theorem turn_any (s0 s1 s2 : ByteArray) (w : World) (h0 : s0.size ≤ 140737488355328) (h1 : s1.size ≤ 140737488355328) (h2 : s2.size ≤ 140737488355328) :
    Calls Tryz.prog 16 #[.string s0, .string s1, .string s2] w fun e w' => (∃ b0 b1 b2 c0 c1 c2, e = .returned (.agg #[.slice (some ⟨b0, 0, none⟩) s0.size c0, .slice (some ⟨b1, 0, none⟩) s1.size c1, .slice (some ⟨b2, 0, none⟩) s2.size c2]) ∧
      w.heap.size ≤ b0 ∧ w.heap.size ≤ b1 ∧ w.heap.size ≤ b2 ∧
      RB w'.heap.size w' (some ⟨b0, 0, none⟩) s0.size c0 s0.data.toList ∧ RB w'.heap.size w' (some ⟨b1, 0, none⟩) s1.size c1 s1.data.toList ∧ RB w'.heap.size w' (some ⟨b2, 0, none⟩) s2.size c2 s2.data.toList) ∧ Below w.heap.size w w' := by
  go_enter Tryz.func16, Tryz.ntmps16
  go_wp2_with (with_reducible refine wpList_str_bytes rfl _ rfl s0 rfl h0 ?_)
  intro c0 w1 hb1 hr1 hs1
  have h30 := heap_alloc_new w (.cells #[.slice none 0 0, .slice none 0 0, .slice none 0 0] 36)
  have hA : (w.alloc (.cells #[.slice none 0 0, .slice none 0 0, .slice none 0 0] 36)).heap.size = w.heap.size + 1 := by simp
  have Hb0 := Lib.hid ((Below.refl _ w).alloc (Nat.le_refl _) (.cells #[.slice none 0 0, .slice none 0 0, .slice none 0 0] 36))
  have ht1 : T3 w1 w.heap.size _ _ _ := (hb1.block w.heap.size (by omega)).trans h30
  have Hb1 := Lib.hid (Hb0.out.trans (hb1.mono (by omega)))
  have Ht1 := Lib.hid ht1
  have Hr1 := Lib.hid hr1
  have Hs1 := Lib.hid hs1
  clear hb1 hr1 hs1 ht1
  go_wp2_with (with_reducible refine wpList_str_bytes rfl _ rfl s1 rfl h1 ?_)
  intro c1 w2 hb2 hr2 hs2
  have Hb2 := Lib.hid (Hb1.out.trans (hb2.mono (by have := Hs1.out; omega)))
  have Ht2 := Lib.hid (Ht1.out.below hb2 (by have := Hs1.out; omega))
  have Hr1' := Lib.hid (Hr1.out.below hb2)
  have Hr2 := Lib.hid hr2
  have Hs2 := Lib.hid hs2
  clear hb2 hr2 hs2
  go_wp2_with (with_reducible refine wpList_str_bytes rfl _ rfl s2 rfl h2 ?_)
  intro c2 w3 hb3 hr3 hs3
  have Hb3 := Lib.hid (Hb2.out.trans (hb3.mono (by have := Hs1.out; have := Hs2.out; omega)))
  have ht3 := Ht2.out.below hb3 (by have := Hs1.out; have := Hs2.out; omega)
  have Hr1'' := Lib.hid (Hr1'.out.below (hb3.mono (by have := Hs2.out; omega)))
  have Hn3 := Lib.hid (show w3.heap.size = w2.heap.size + 1 from hs3)
  have Hr2' := Lib.hid (Hr2.out.below hb3)
  have Hr3 := Lib.hid hr3
  have Hs3 := Lib.hid hs3
  clear hb3 hr3 hs3
  obtain ⟨z0, z1, z2⟩ := ht3.cells
  obtain ⟨f0, f1, f2⟩ := ht3.frozen
  go_wp2
  refine bodyPost_ret (v := .agg #[.slice (some ⟨w.heap.size + 1, 0, none⟩) s0.size c0, .slice (some ⟨w1.heap.size, 0, none⟩) s1.size c1, .slice (some ⟨w2.heap.size, 0, none⟩) s2.size c2]) (by simp [results, Tryz.f16, go_sem, z0, z1, z2]) rfl ?_
  have hs1 := Hs1.out
  have hs2 := Hs2.out
  have hs3 := Hn3.out
  have hbw := ((((Hb3.out.setCell (p := ⟨w.heap.size, 0, none⟩) (Nat.le_refl _) (.slice (some ⟨w.heap.size + 1, 0, none⟩) s0.size c0)).setCell (p := ⟨w.heap.size, 1, none⟩) (Nat.le_refl _) (.slice (some ⟨w1.heap.size, 0, none⟩) s1.size c1)).setCell (p := ⟨w.heap.size, 2, none⟩) (Nat.le_refl _) (.slice (some ⟨w2.heap.size, 0, none⟩) s2.size c2)))
  have hm := ((Mod.set w.heap.size ((Mod.set w.heap.size ((Mod.set w.heap.size (Mod.refl w.heap.size w3) 0 (.slice (some ⟨w.heap.size + 1, 0, none⟩) s0.size c0))) 1 (.slice (some ⟨w1.heap.size, 0, none⟩) s1.size c1))) 2 (.slice (some ⟨w2.heap.size, 0, none⟩) s2.size c2)))
  refine ⟨⟨_, _, _, _, _, _, rfl, by omega, by omega, by omega, ?_, ?_, ?_⟩, hbw⟩
  · exact (RBn.mod (B := w3.heap.size) ⟨Hr1''.out.mono (by omega), fun _ b o s e => by cases e; omega⟩ hm (Nat.le_refl _)).rb.mono hm.size
  · exact (RBn.mod (B := w3.heap.size) ⟨Hr2'.out.mono (by omega), fun _ b o s e => by cases e; omega⟩ hm (Nat.le_refl _)).rb.mono hm.size
  · exact (RBn.mod (B := w3.heap.size) ⟨Hr3.out, fun _ b o s e => by cases e; omega⟩ hm (Nat.le_refl _)).rb.mono hm.size

def longB (k o n : Nat) : Bool := decide (5000 < k + o + n)
set_option maxRecDepth 100000 in
theorem long_any (v0 v1 v2 v6 : Value) (ka oa na : Option Addr) (kn kc on oc nn nc : Nat) (w : World) (hk : kn ≤ 140737488355328) (ho : on ≤ 140737488355328) (hn : nn ≤ 140737488355328) :
    Calls Tryz.prog 46 #[.agg #[v0, v1, v2, .slice ka kn kc, .slice oa on oc, .slice na nn nc, v6]] w fun e w' => e = .returned (.bool (longB kn on nn)) ∧ Below w.heap.size w w' := by
  go_enter Tryz.func46, Tryz.ntmps46
  go_wp2
  go_ret
  exact ⟨by unfold longB; congr 2; simp; omega, (Below.refl _ w).alloc (Nat.le_refl _) _⟩
end Go.Proofs.YtbinikbgbgggaaaGreatDoor
namespace Go.Proofs.YtbinikbgbgggaaaGreatDoor
open Go.RowKit Go.Shelf

theorem Below.mod {B g : Nat} {w a b : World} (h : Below B w a) (hm : Mod g a b) (hg : B ≤ g) (hB : B ≤ a.heap.size) : Below B w b :=
  ⟨hm.os.trans h.os, hm.tape.trans h.tape, hm.output.trans h.output, Nat.le_trans h.size hm.size, fun i hi => by
    exact (hm.block' (by omega) (by omega)).trans (h.block i hi)⟩

def aw0 : List UInt8 := List.replicate 512 0
def aw1 : List UInt8 := (turnL aw0 [107] [] [118]).2
def aw2 : List UInt8 := (turnL aw1 [97] [] [98, 99]).2
def aw3 : List UInt8 := (turnL aw2 [107] [118] []).2
theorem aw_1 : turnL aw0 [107] [] [118] = (0, aw1) := by kernel_rfl
theorem aw_2 : turnL aw1 [97] [] [98, 99] = (0, aw2) := by kernel_rfl
theorem aw_x : turnL aw2 [107] [120] [121] = (6, aw2) := by kernel_rfl
theorem aw_3 : turnL aw2 [107] [118] [] = (0, aw3) := by kernel_rfl
theorem aw_y : turnL aw3 [107] [] [] = (2, aw3) := by kernel_rfl
theorem aw_get : getL aw2 [97] = some [98, 99] := by kernel_rfl
theorem aw_same : eqB ((aw2.drop 0).take 21) [0, 0, 0, 0, 0, 0, 0, 0, 0, 0, 2, 1, 2, 97, 98, 99, 1, 1, 107, 118, 0] = true := by kernel_rfl
theorem aw_room : roomL aw2 = 492 := by kernel_rfl
theorem aw_right : decide (0 < behindL aw3) = true := by kernel_rfl
theorem aw_wrong : decide (0 < behindL ((aw3.drop 0).take 511)) = false := by kernel_rfl

theorem lit_rb (w : World) (l : List UInt8) (fr : Nat × Nat) (h : l.length ≤ 140737488355328) : RB (w.alloc (.cells (l.map bv).toArray 5 fr)).heap.size (w.alloc (.cells (l.map bv).toArray 5 fr)) (some ⟨w.heap.size, 0, none⟩) l.length l.length l := by
  refine ⟨rfl, Nat.le_refl _, by omega, h, fun _ => ⟨_, _, rfl, by simp, fun i hi => ?_⟩⟩
  have hh := heap_alloc_new w (.cells (l.map bv).toArray 5 fr)
  simp only [World.cell?, hh, Nat.zero_add, Option.isSome_none, Bool.false_eq_true, if_false]
  rw [List.getElem?_toArray]
  exact bv_getD l i hi

set_option maxHeartbeats 4000000 in
set_option maxRecDepth 100000 in
theorem awake_any (w : World) : Calls Tryz.prog 5 #[] w fun e w' => e = .returned (.bool true) ∧ Below w.heap.size w w' := by
  have kc := fun (w : World) (C : Array Value) (n c : Nat) => Lib.run_convert_bytes_const (P := Tryz.prog) w 22 5 C n c Tryz.underlying22 Tryz.underlying5
  go_enter Tryz.func5, Tryz.ntmps5
  go_wp2_with (fail)

  go_at_call 13
  refine (New_any _).mono ?_
  rintro e w1 ⟨rfl, hpg1, hb1⟩
  have Hg1 := Lib.hid hpg1.lt
  have Hpg1 := Lib.hid hpg1
  have Hb1 := Lib.hid hb1
  clear hpg1 hb1
  go_wp2_with (fail)
  go_at_call 16
  refine (turn_any _ _ _ _ (by decide) (by decide) (by decide)).mono ?_
  rintro e u2 ⟨⟨b0, b1, b2, c0, c1, c2, rfl, n0, n1, n2, r0, r1, r2⟩, hb2⟩
  have N0 := Lib.hid n0
  have N1 := Lib.hid n1
  have N2 := Lib.hid n2
  have R0 := Lib.hid r0
  have R1 := Lib.hid r1
  have R2 := Lib.hid r2
  have Hu2 := Lib.hid (Hpg1.out.below hb2 Hg1.out)
  have Hc2 := Lib.hid (Hb1.out.trans (hb2.mono Hb1.out.size))
  clear n0 n1 n2 r0 r1 r2 hb2
  go_wp2_with (fail)
  go_at_call 14
  have ht2 := Turn_any w.heap.size 512 aw0 [] u2.heap.size _ _ _ _ _ _ _ _ _ [107] [] [118] u2 Hu2.out ⟨R0.out, fun _ b o s e => by cases e; have := N0.out; have := Hg1.out; omega⟩ ⟨R1.out, fun _ b o s e => by cases e; have := N1.out; have := Hg1.out; omega⟩ ⟨R2.out, fun _ b o s e => by cases e; have := N2.out; have := Hg1.out; omega⟩ (Nat.le_refl _)
  rw [aw_1] at ht2
  refine ht2.mono ?_
  rintro e w2 ⟨rfl, hpg2, hm2⟩
  have Hb2 := Lib.hid (Below.mod Hc2.out hm2 (Nat.le_refl _) Hc2.out.size)
  have Hg2 := Lib.hid hpg2.lt
  have Hpg2 := Lib.hid hpg2
  clear ht2 hpg2 hm2 N0 N1 N2 R0 R1 R2 Hu2 Hc2 Hpg1 Hb1 Hg1
  go_wp2_with (fail)
  go_at_call 16
  refine (turn_any _ _ _ _ (by decide) (by decide) (by decide)).mono ?_
  rintro e u3 ⟨⟨b0, b1, b2, c0, c1, c2, rfl, n0, n1, n2, r0, r1, r2⟩, hb3⟩
  have N0 := Lib.hid n0
  have N1 := Lib.hid n1
  have N2 := Lib.hid n2
  have R0 := Lib.hid r0
  have R1 := Lib.hid r1
  have R2 := Lib.hid r2
  have Hu3 := Lib.hid (Hpg2.out.below hb3 Hg2.out)
  have Hc3 := Lib.hid (Hb2.out.trans (hb3.mono Hb2.out.size))
  clear n0 n1 n2 r0 r1 r2 hb3
  go_wp2_with (fail)
  go_at_call 14
  have ht3 := Turn_any w.heap.size 512 aw1 [] u3.heap.size _ _ _ _ _ _ _ _ _ [97] [] [98, 99] u3 Hu3.out ⟨R0.out, fun _ b o s e => by cases e; have := N0.out; have := Hg2.out; omega⟩ ⟨R1.out, fun _ b o s e => by cases e; have := N1.out; have := Hg2.out; omega⟩ ⟨R2.out, fun _ b o s e => by cases e; have := N2.out; have := Hg2.out; omega⟩ (Nat.le_refl _)
  rw [aw_2] at ht3
  refine ht3.mono ?_
  rintro e w3 ⟨rfl, hpg3, hm3⟩
  have Hb3 := Lib.hid (Below.mod Hc3.out hm3 (Nat.le_refl _) Hc3.out.size)
  have Hg3 := Lib.hid hpg3.lt
  have Hpg3 := Lib.hid hpg3
  clear ht3 hpg3 hm3 N0 N1 N2 R0 R1 R2 Hu3 Hc3 Hpg2 Hb2 Hg2
  go_wp2_with (fail)
  go_at_call 8
  have hl3 := lit_rb w3 [97] (1, 2) (by decide)
  have hb4 := (Below.refl w3.heap.size w3).alloc (Nat.le_refl _) (.cells ([97].map bv).toArray 5 (1, 2))
  have hg4 := Get_any _ _ _ _ _ aw2 _ _ _ [97] _ (Hpg3.out.below hb4 Hg3.out).rb hl3 (Nat.le_refl _) (Nat.le_refl _)
  rw [aw_get] at hg4
  refine Calls.mono hg4 ?_
  rintro e w4 ⟨⟨v, rfl, hv⟩, hb5⟩
  have hb6 := hb4.trans (hb5.mono hb4.size)
  obtain ⟨va, vc, rfl, hr4⟩ := hv.rb (by decide)
  have hvn : ∀ b o s, va = some ⟨b, o, s⟩ → w3.heap.size ≤ b := by
    intro b o s e
    obtain ⟨h1, ⟨h2, h3⟩ | ⟨g', cap, cur, h4, hg, r⟩⟩ := hv
    · cases h2
    · cases h4; cases e; have := hb4.size; omega
  have Hvn := Lib.hid hvn
  have Hr4 := Lib.hid hr4
  have Hb4 := Lib.hid (Hb3.out.trans (hb6.mono Hb3.out.size))
  have Hg4 := Lib.hid (Nat.lt_of_lt_of_le Hg3.out hb6.size)
  have Hpg4 := Lib.hid (Hpg3.out.below hb6 Hg3.out)
  have Hs4 := Lib.hid (Nat.le_trans (Nat.le_refl w3.heap.size) hb6.size)
  clear hv hr4 hb5 hb4 hl3 hg4 hb6 Hb3 Hpg3 hvn
  have Hv4 := Lib.hid ((⟨Hr4.out, fun _ b o s e => by have := Hvn.out b o s e; have := Hg3.out; omega⟩ : RBn w.heap.size w4.heap.size w4 va 2 vc [98, 99]))
  clear Hr4 Hvn Hs4 Hg3
  go_wp2_with (fail)
  go_at_call 24
  have hl5 := lit_rb w4 [0, 0, 0, 0, 0, 0, 0, 0, 0, 0, 2, 1, 2, 97, 98, 99, 1, 1, 107, 118, 0] (0, 0) (by decide)
  have hb5 := (Below.refl w4.heap.size w4).alloc (Nat.le_refl _) (.cells (([0, 0, 0, 0, 0, 0, 0, 0, 0, 0, 2, 1, 2, 97, 98, 99, 1, 1, 107, 118, 0] : List UInt8).map bv).toArray 5 (0, 0))
  have hs5 := (Hpg4.out.below hb5 Hg4.out).rb.sub 0 21 (by decide)
  have hg5 := SameBytes_any _ _ _ _ _ _ _ _ _ _ hs5 hl5
  rw [aw_same] at hg5
  refine Calls.mono hg5 ?_
  rintro e w5 ⟨rfl, q, rfl⟩
  have hb5 := below_dn hb5 q
  have Hpg5 := Lib.hid (Hpg4.out.below hb5 Hg4.out)
  have Hb5 := Lib.hid (Hb4.out.trans (hb5.mono Hb4.out.size))
  have Hv5 := Lib.hid ((⟨(Hv4.out.rb.below hb5).mono hb5.size, Hv4.out.ne⟩ : RBn w.heap.size _ _ va 2 vc [98, 99]))
  clear hl5 hs5 hg5 hb5 Hpg4 Hb4 Hv4 Hg4
  generalize (w4.alloc _).drewN q = w5 at *
  have Hg5 := Lib.hid Hpg5.out.lt
  go_wp2_with (fail)
  go_at_call 15
  have hg6 := Room_any _ _ _ _ aw2 w5 Hpg5.out.rb (Nat.le_refl _)
  rw [aw_room] at hg6
  refine Calls.mono hg6 ?_
  rintro e w6 ⟨rfl, hb6⟩
  have Hpg6 := Lib.hid (Hpg5.out.below hb6 Hg5.out)
  have Hb6 := Lib.hid (Hb5.out.trans (hb6.mono Hb5.out.size))
  have Hv6 := Lib.hid ((⟨(Hv5.out.rb.below hb6).mono hb6.size, Hv5.out.ne⟩ : RBn w.heap.size _ _ va 2 vc [98, 99]))
  have Hg6 := Lib.hid Hpg6.out.lt
  clear hb6 hg6 Hpg5 Hb5 Hv5 Hg5
  go_wp2_with (fail)
  go_at_call 16
  refine (turn_any _ _ _ _ (by decide) (by decide) (by decide)).mono ?_
  rintro e u7 ⟨⟨b0, b1, b2, c0, c1, c2, rfl, n0, n1, n2, r0, r1, r2⟩, hb7⟩
  have N0 := Lib.hid n0
  have N1 := Lib.hid n1
  have N2 := Lib.hid n2
  have R0 := Lib.hid r0
  have R1 := Lib.hid r1
  have R2 := Lib.hid r2
  have Hu7 := Lib.hid (Hpg6.out.below hb7 Hg6.out)
  have Hc7 := Lib.hid (Hb6.out.trans (hb7.mono Hb6.out.size))
  have Hx7 := Lib.hid ((⟨(Hv6.out.rb.below hb7).mono hb7.size, Hv6.out.ne⟩ : RBn w.heap.size u7.heap.size u7 va 2 vc [98, 99]))
  clear n0 n1 n2 r0 r1 r2 hb7
  go_wp2_with (fail)
  go_at_call 14
  have ht7 := Turn_any w.heap.size 512 aw2 [] u7.heap.size _ _ _ _ _ _ _ _ _ [107] [120] [121] u7 Hu7.out ⟨R0.out, fun _ b o s e => by cases e; have := N0.out; have := Hg6.out; omega⟩ ⟨R1.out, fun _ b o s e => by cases e; have := N1.out; have := Hg6.out; omega⟩ ⟨R2.out, fun _ b o s e => by cases e; have := N2.out; have := Hg6.out; omega⟩ (Nat.le_refl _)
  rw [aw_x] at ht7
  refine ht7.mono ?_
  rintro e w7 ⟨rfl, hpg7, hm7⟩
  have Hb7 := Lib.hid (Below.mod Hc7.out hm7 (Nat.le_refl _) Hc7.out.size)
  have Hg7 := Lib.hid hpg7.lt
  have Hpg7 := Lib.hid hpg7
  have Hv7 := Lib.hid ((⟨(Hx7.out.mod hm7 (Nat.le_refl _)).rb.mono hm7.size, Hx7.out.ne⟩ : RBn w.heap.size w7.heap.size w7 va 2 vc [98, 99]))
  clear ht7 hpg7 hm7 N0 N1 N2 R0 R1 R2 Hu7 Hc7 Hpg6 Hb6 Hg6
  go_wp2_with (fail)
  go_at_call 16
  refine (turn_any _ _ _ _ (by decide) (by decide) (by decide)).mono ?_
  rintro e u8 ⟨⟨b0, b1, b2, c0, c1, c2, rfl, n0, n1, n2, r0, r1, r2⟩, hb8⟩
  have N0 := Lib.hid n0
  have N1 := Lib.hid n1
  have N2 := Lib.hid n2
  have R0 := Lib.hid r0
  have R1 := Lib.hid r1
  have R2 := Lib.hid r2
  have Hu8 := Lib.hid (Hpg7.out.below hb8 Hg7.out)
  have Hc8 := Lib.hid (Hb7.out.trans (hb8.mono Hb7.out.size))
  have Hx8 := Lib.hid ((⟨(Hv7.out.rb.below hb8).mono hb8.size, Hv7.out.ne⟩ : RBn w.heap.size u8.heap.size u8 va 2 vc [98, 99]))
  clear n0 n1 n2 r0 r1 r2 hb8
  go_wp2_with (fail)
  go_at_call 14
  have ht8 := Turn_any w.heap.size 512 aw2 [] u8.heap.size _ _ _ _ _ _ _ _ _ [107] [118] [] u8 Hu8.out ⟨R0.out, fun _ b o s e => by cases e; have := N0.out; have := Hg7.out; omega⟩ ⟨R1.out, fun _ b o s e => by cases e; have := N1.out; have := Hg7.out; omega⟩ ⟨R2.out, fun _ b o s e => by cases e; have := N2.out; have := Hg7.out; omega⟩ (Nat.le_refl _)
  rw [aw_3] at ht8
  refine ht8.mono ?_
  rintro e w8 ⟨rfl, hpg8, hm8⟩
  have Hb8 := Lib.hid (Below.mod Hc8.out hm8 (Nat.le_refl _) Hc8.out.size)
  have Hg8 := Lib.hid hpg8.lt
  have Hpg8 := Lib.hid hpg8
  have Hv8 := Lib.hid ((⟨(Hx8.out.mod hm8 (Nat.le_refl _)).rb.mono hm8.size, Hx8.out.ne⟩ : RBn w.heap.size w8.heap.size w8 va 2 vc [98, 99]))
  clear ht8 hpg8 hm8 N0 N1 N2 R0 R1 R2 Hu8 Hc8 Hpg7 Hb7 Hg7
  have hcv8 := run_conv (P := Tryz.prog) Hv8.out.rb 22 5 9 Tryz.underlying22 Tryz.underlying5 Tryz.underlying9
  go_wp2_with (fail)
  go_at_call 16
  refine (turn_any _ _ _ _ (by decide) (by decide) (by decide)).mono ?_
  rintro e u9 ⟨⟨b0, b1, b2, c0, c1, c2, rfl, n0, n1, n2, r0, r1, r2⟩, hb9⟩
  have N0 := Lib.hid n0
  have N1 := Lib.hid n1
  have N2 := Lib.hid n2
  have R0 := Lib.hid r0
  have R1 := Lib.hid r1
  have R2 := Lib.hid r2
  have Hu9 := Lib.hid (Hpg8.out.below hb9 Hg8.out)
  have Hc9 := Lib.hid (Hb8.out.trans (hb9.mono Hb8.out.size))
  have Hx9 := Lib.hid ((⟨(Hv8.out.rb.below hb9).mono hb9.size, Hv8.out.ne⟩ : RBn w.heap.size u9.heap.size u9 va 2 vc [98, 99]))
  clear n0 n1 n2 r0 r1 r2 hb9
  go_wp2_with (fail)
  go_at_call 14
  have ht9 := Turn_any w.heap.size 512 aw3 [] u9.heap.size _ _ _ _ _ _ _ _ _ [107] [] [] u9 Hu9.out ⟨R0.out, fun _ b o s e => by cases e; have := N0.out; have := Hg8.out; omega⟩ ⟨R1.out, fun _ b o s e => by cases e; have := N1.out; have := Hg8.out; omega⟩ ⟨R2.out, fun _ b o s e => by cases e; have := N2.out; have := Hg8.out; omega⟩ (Nat.le_refl _)
  rw [aw_y] at ht9
  refine ht9.mono ?_
  rintro e w9 ⟨rfl, hpg9, hm9⟩
  have Hb9 := Lib.hid (Below.mod Hc9.out hm9 (Nat.le_refl _) Hc9.out.size)
  have Hg9 := Lib.hid hpg9.lt
  have Hpg9 := Lib.hid hpg9
  have Hv9 := Lib.hid ((⟨(Hx9.out.mod hm9 (Nat.le_refl _)).rb.mono hm9.size, Hx9.out.ne⟩ : RBn w.heap.size w9.heap.size w9 va 2 vc [98, 99]))
  clear ht9 hpg9 hm9 N0 N1 N2 R0 R1 R2 Hu9 Hc9 Hpg8 Hb8 Hg8
  have hcv9 := run_conv (P := Tryz.prog) Hv9.out.rb 22 5 9 Tryz.underlying22 Tryz.underlying5 Tryz.underlying9
  have hcc : (Value.string ⟨[98, 99].toArray⟩ : Value) = Value.string ⟨#[98, 99]⟩ := rfl
  rw [hcc] at hcv9
  clear hcc hcv8
  go_wp2_with (fail)

  go_at_call 23
  have hg10 := Right_any _ _ _ _ aw3 w9 Hpg9.out.rb (Nat.le_refl _)
  rw [aw_right] at hg10
  refine Calls.mono hg10 ?_
  rintro e w10 ⟨rfl, hb10⟩
  have Hpg10 := Lib.hid (Hpg9.out.below hb10 Hg9.out)
  have Hb10 := Lib.hid (Hb9.out.trans (hb10.mono Hb9.out.size))
  clear hb10 hg10
  go_wp2_with (fail)
  go_at_call 23
  have hg11 := Right_any _ _ _ _ _ w10 (Hpg10.out.rb.sub 0 511 (by decide)) (Nat.le_refl _)
  rw [aw_wrong] at hg11
  refine Calls.mono hg11 ?_
  rintro e w11 ⟨rfl, hb11⟩
  have Hb11 := Lib.hid (Hb10.out.trans (hb11.mono Hb10.out.size))
  clear hb11 hg11
  go_wp2_with (fail)
  go_ret
  exact ⟨rfl, Hb11.out⟩
end Go.Proofs.YtbinikbgbgggaaaGreatDoor
