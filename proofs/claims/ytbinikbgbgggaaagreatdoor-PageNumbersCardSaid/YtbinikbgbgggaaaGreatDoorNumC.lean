/- For the law PageNumbers: a page and lists that stand beside it. For the law PageNumbers: an own list of changes. -/
import Derived.Test.YtbinikbgbgggaaaGreatDoorPTells
import Derived.Test.YtbinikbgbgggaaaGreatDoorLives
import Derived.Test.YtbinikbgbgggaaaGreatDoorKeepP
import Derived.Deep.Slices
namespace Go.Proofs.YtbinikbgbgggaaaGreatDoor
open Go.RowKit Go.Shelf

def zs (n : Nat) : List UInt8 := List.replicate n 0
theorem zs_len (n : Nat) : (zs n).length = n := List.length_replicate
def zb (n : Nat) : Array Value := ((zs n).map bv).toArray
theorem makeZ (n : Nat) (hn : n ≤ 100000) (W : World) : (Instr.makeSlice 22 (.int .i64 (n : Int)) (.int .i64 (n : Int))).run Tryz.prog W = .ok (.slice (some ⟨W.heap.size, 0, none⟩) n n) (W.alloc (.cells (zb n) 5)) := by
  obtain ⟨i0, hi, hz0, hz1, hz2⟩ := info_parts Tryz.infoU8
  have hmk := run_make (P := Tryz.prog) W 22 5 i0 _ Tryz.underlying22 hi hz0 .i64 .i64 (n : Int) (n : Int) (by omega) (Int.le_refl _) (by rw [hz2]; omega) (by omega)
  rw [Int.toNat_natCast] at hmk
  rw [hmk]
  have e : madeCells (Value.int .u8 0).cells (n * i0.size) = zb n := by
    apply Array.ext'
    rw [hz1]
    unfold zb zs
    rw [List.map_replicate]
    rw [Nat.mul_one]
    exact toList_madeCells_one _ _
  rw [e]
theorem zpg (W : World) : PG (W.alloc (.cells (zb 512) 5)) W.heap.size 512 (zs 512) [] :=
  ⟨by rw [heap_alloc_new]; unfold zb; rw [List.append_nil], zs_len _, rfl, by omega⟩
theorem zrb (W : World) (n : Nat) (hn : n ≤ 100000) : RB (W.alloc (.cells (zb n) 5)).heap.size (W.alloc (.cells (zb n) 5)) (some ⟨W.heap.size, 0, none⟩) n n (zs n) := by
  have h := lit_rb W (zs n) (0, 0) (by rw [zs_len]; omega)
  rw [zs_len] at h
  exact h
theorem RBn.emp' (g B : Nat) (w : World) : RBn g B w none 0 0 [] := ⟨RB.emp _, fun h => absurd h (Nat.lt_irrefl 0)⟩
theorem RBn.take' {g B : Nat} {w : World} {a : Option Addr} {n c : Nat} {l : List UInt8} (h : RBn g B w a n c l) (m : Nat) (hm : m ≤ n) : RBn g B w a m c (l.take m) := ⟨h.rb.take m hm, h.ne⟩
/-- What stands while PageNumbers turns its page. -/
structure NS (w W : World) (g gk gb y1 y2 : Nat) (a2 : Option Addr) (c2 : Nat) (zk zg zk2 L : List UInt8) : Prop where
  bl : Below w.heap.size w W
  pg : PG W g 512 L []
  gw : w.heap.size ≤ g
  kb : RBn g W.heap.size W (some ⟨gk, 0, none⟩) 40 40 zk
  bb : RBn g W.heap.size W (some ⟨gb, 0, none⟩) 180 180 zg
  k2 : RBn g W.heap.size W a2 40 c2 zk2
  o1 : T3 W y1 (.slice (some ⟨gk, 0, none⟩) 40 40) (.slice none 0 0) (.slice (some ⟨gb, 0, none⟩) 180 180)
  o2 : T3 W y2 (.slice a2 40 c2) (.slice none 0 0) (.slice (some ⟨gb, 0, none⟩) 180 180)
  n1 : y1 ≠ g
  n2 : y2 ≠ g
section
variable {w W W' : World} {g gk gb y1 y2 : Nat} {a2 : Option Addr} {c2 : Nat} {zk zg zk2 L L' : List UInt8}
theorem NS.below (s : NS w W g gk gb y1 y2 a2 c2 zk zg zk2 L) (hb : Below W.heap.size W W') : NS w W' g gk gb y1 y2 a2 c2 zk zg zk2 L :=
  ⟨s.bl.trans (hb.mono s.bl.size), s.pg.below hb s.pg.lt, s.gw, (s.kb.below hb).mono hb.size, (s.bb.below hb).mono hb.size, (s.k2.below hb).mono hb.size, s.o1.below hb s.o1.lt, s.o2.below hb s.o2.lt, s.n1, s.n2⟩
theorem NS.mod (s : NS w W g gk gb y1 y2 a2 c2 zk zg zk2 L) (hm : Mod g W W') (hp : PG W' g 512 L' []) : NS w W' g gk gb y1 y2 a2 c2 zk zg zk2 L' :=
  ⟨Below.mod s.bl hm s.gw s.bl.size, hp, s.gw, (s.kb.mod hm (Nat.le_refl _)).mono hm.size, (s.bb.mod hm (Nat.le_refl _)).mono hm.size, (s.k2.mod hm (Nat.le_refl _)).mono hm.size,
   (hm.block' s.o1.lt s.n1).trans s.o1, (hm.block' s.o2.lt s.n2).trans s.o2, s.n1, s.n2⟩
theorem NS.turn (s : NS w W g gk gb y1 y2 a2 c2 zk zg zk2 L) {r : Nat} {L' : List UInt8} (ka oa na : Option Addr) (kn kc on oc nn nc : Nat) (K O N : List UInt8) (ht : turnL L K O N = (r, L')) (hk : RBn g W.heap.size W ka kn kc K) (ho : RBn g W.heap.size W oa on oc O) (hn : RBn g W.heap.size W na nn nc N) :
    Calls Tryz.prog 14 #[.slice (some ⟨g, 0, none⟩) 512 512, .agg #[.slice ka kn kc, .slice oa on oc, .slice na nn nc]] W fun e W' => e = .returned (.int .i64 (r : Nat)) ∧ NS w W' g gk gb y1 y2 a2 c2 zk zg zk2 L' := by
  have h := Turn_any g 512 L [] W.heap.size ka oa na kn kc on oc nn nc K O N W s.pg hk ho hn (Nat.le_refl _)
  rw [ht] at h
  refine h.mono ?_
  rintro e W' ⟨rfl, hp, hm⟩
  exact ⟨rfl, s.mod hm hp⟩
theorem NS.room (s : NS w W g gk gb y1 y2 a2 c2 zk zg zk2 L) {r : Nat} (hr : roomL L = r) : Calls Tryz.prog 15 #[.slice (some ⟨g, 0, none⟩) 512 512] W fun e W' => e = .returned (.int .i64 (r : Nat)) ∧ NS w W' g gk gb y1 y2 a2 c2 zk zg zk2 L := by
  refine (Room_any W.heap.size _ 512 512 L W s.pg.rb (Nat.le_refl _)).mono ?_
  rintro e W' ⟨rfl, hb⟩
  exact ⟨by rw [hr], s.below hb⟩
theorem NS.lsn (s : NS w W g gk gb y1 y2 a2 c2 zk zg zk2 L) {r : Nat} (hr : lsnL L = r) : Calls Tryz.prog 18 #[.slice (some ⟨g, 0, none⟩) 512 512] W fun e W' => e = .returned (.int .i64 (r : Nat)) ∧ NS w W' g gk gb y1 y2 a2 c2 zk zg zk2 L := by
  refine (Lsn_any W.heap.size _ 512 512 L W s.pg.rb (Nat.le_refl _)).mono ?_
  rintro e W' ⟨rfl, hb⟩
  exact ⟨by rw [hr], s.below hb⟩
theorem NS.next (s : NS w W g gk gb y1 y2 a2 c2 zk zg zk2 L) {r : Nat} (hr : nextL L = r) : Calls Tryz.prog 20 #[.slice (some ⟨g, 0, none⟩) 512 512] W fun e W' => e = .returned (.int .i64 (r : Nat)) ∧ NS w W' g gk gb y1 y2 a2 c2 zk zg zk2 L := by
  refine (Next_any W.heap.size _ 512 512 L W s.pg.rb (Nat.le_refl _)).mono ?_
  rintro e W' ⟨rfl, hb⟩
  exact ⟨by rw [hr], s.below hb⟩
theorem NS.setLsn (s : NS w W g gk gb y1 y2 a2 c2 zk zg zk2 L) (x : Int) (hx : x ≤ 9223372036854775807) {b : Bool} (hb : decide (0 < behindL L ∧ 0 ≤ x) = b) (hL : setLsnL L x = L') : Calls Tryz.prog 17 #[.slice (some ⟨g, 0, none⟩) 512 512, .int .i64 x] W fun e W' => e = .returned (.bool b) ∧ NS w W' g gk gb y1 y2 a2 c2 zk zg zk2 L' := by
  refine (SetLsn_any g 512 L [] x W s.pg hx).mono ?_
  rintro e W' ⟨rfl, hp, hm⟩
  rw [hL] at hp
  exact ⟨by rw [hb], s.mod hm hp⟩
theorem NS.setNext (s : NS w W g gk gb y1 y2 a2 c2 zk zg zk2 L) (x : Int) {b : Bool} (hb : decide (0 < behindL L ∧ 0 ≤ x ∧ x < 8192) = b) (hL : setNextL L x = L') : Calls Tryz.prog 19 #[.slice (some ⟨g, 0, none⟩) 512 512, .int .i64 x] W fun e W' => e = .returned (.bool b) ∧ NS w W' g gk gb y1 y2 a2 c2 zk zg zk2 L' := by
  refine (SetNext_any g 512 L [] x W s.pg).mono ?_
  rintro e W' ⟨rfl, hp, hm⟩
  rw [hL] at hp
  exact ⟨by rw [hb], s.mod hm hp⟩
/-- A turn of texts, beside the page. -/
theorem NS.texts (s : NS w W g gk gb y1 y2 a2 c2 zk zg zk2 L) (s0 s1 s2 : ByteArray) (h0 : s0.size ≤ 140737488355328) (h1 : s1.size ≤ 140737488355328) (h2 : s2.size ≤ 140737488355328) :
    Calls Tryz.prog 16 #[.string s0, .string s1, .string s2] W fun e W' => (∃ k0 k1 o0 o1 n0 n1, e = .returned (.agg #[.slice k0 s0.size k1, .slice o0 s1.size o1, .slice n0 s2.size n1]) ∧ RBn g W'.heap.size W' k0 s0.size k1 s0.data.toList ∧ RBn g W'.heap.size W' o0 s1.size o1 s1.data.toList ∧ RBn g W'.heap.size W' n0 s2.size n1 s2.data.toList) ∧ NS w W' g gk gb y1 y2 a2 c2 zk zg zk2 L := by
  refine (turn_any s0 s1 s2 W h0 h1 h2).mono ?_
  rintro e W' ⟨⟨b0, b1, b2, c0, c1, c2', rfl, n0, n1, n2, r0, r1, r2⟩, hb⟩
  have hl := s.pg.lt
  exact ⟨⟨_, _, _, _, _, _, rfl, ⟨r0, fun _ b o s e => by cases e; omega⟩, ⟨r1, fun _ b o s e => by cases e; omega⟩, ⟨r2, fun _ b o s e => by cases e; omega⟩⟩, s.below hb⟩
set_option maxRecDepth 100000 in
theorem NS.textsL (s : NS w W g gk gb y1 y2 a2 c2 zk zg zk2 L) (l0 l1 l2 : List UInt8) (h0 : l0.length ≤ 140737488355328) (h1 : l1.length ≤ 140737488355328) (h2 : l2.length ≤ 140737488355328) :
    Calls Tryz.prog 16 #[.string ⟨l0.toArray⟩, .string ⟨l1.toArray⟩, .string ⟨l2.toArray⟩] W fun e W' => (∃ k0 k1 o0 o1 n0 n1, e = .returned (.agg #[.slice k0 l0.length k1, .slice o0 l1.length o1, .slice n0 l2.length n1]) ∧ RBn g W'.heap.size W' k0 l0.length k1 l0 ∧ RBn g W'.heap.size W' o0 l1.length o1 l1 ∧ RBn g W'.heap.size W' n0 l2.length n1 l2) ∧ NS w W' g gk gb y1 y2 a2 c2 zk zg zk2 L :=
  s.texts ⟨l0.toArray⟩ ⟨l1.toArray⟩ ⟨l2.toArray⟩ h0 h1 h2
set_option maxRecDepth 100000 in
theorem NS.textsM (s : NS w W g gk gb y1 y2 a2 c2 zk zg zk2 L) (l0 l1 l2 : List UInt8) (m0 m1 m2 : Nat) (e0 : l0.length = m0) (e1 : l1.length = m1) (e2 : l2.length = m2) (h0 : m0 ≤ 140737488355328) (h1 : m1 ≤ 140737488355328) (h2 : m2 ≤ 140737488355328) :
    Calls Tryz.prog 16 #[.string ⟨l0.toArray⟩, .string ⟨l1.toArray⟩, .string ⟨l2.toArray⟩] W fun e W' => (∃ k0 k1 o0 o1 n0 n1, e = .returned (.agg #[.slice k0 m0 k1, .slice o0 m1 o1, .slice n0 m2 n1]) ∧ RBn g W'.heap.size W' k0 m0 k1 l0 ∧ RBn g W'.heap.size W' o0 m1 o1 l1 ∧ RBn g W'.heap.size W' n0 m2 n1 l2) ∧ NS w W' g gk gb y1 y2 a2 c2 zk zg zk2 L := by
  subst e0 e1 e2
  exact s.textsL l0 l1 l2 h0 h1 h2
set_option maxRecDepth 100000 in
/-- Some of the great list turned to a text. -/
theorem NS.conv (s : NS w W g gk gb y1 y2 a2 c2 zk zg zk2 L) (m : Nat) (hm : m ≤ 180) {t : List UInt8} (ht : zg.take m = t) : (convert 22 9 (.slice (some ⟨gb, 0, none⟩) m 180)).run Tryz.prog W = .ok (.string ⟨t.toArray⟩) W := by
  have h := run_conv (P := Tryz.prog) (s.bb.rb.take m hm) 22 5 9 Tryz.underlying22 Tryz.underlying5 Tryz.underlying9
  rwa [ht] at h
theorem NS.big (s : NS w W g gk gb y1 y2 a2 c2 zk zg zk2 L) (m : Nat) (hm : m ≤ 180) {t : List UInt8} (ht : zg.take m = t) : RBn g W.heap.size W (some ⟨gb, 0, none⟩) m 180 t := by
  have h := s.bb.take' m hm
  rwa [ht] at h
set_option maxRecDepth 100000 in
/-- A new list of noughts, beside the page. -/
theorem NS.new (s : NS w W g gk gb y1 y2 a2 c2 zk zg zk2 L) {n : Nat} {z : Array Value} {x : List UInt8} (hz : RB (W.alloc (.cells z 5)).heap.size (W.alloc (.cells z 5)) (some ⟨W.heap.size, 0, none⟩) n n x) : RBn g (W.alloc (.cells z 5)).heap.size (W.alloc (.cells z 5)) (some ⟨W.heap.size, 0, none⟩) n n x :=
  ⟨hz, fun _ b o s' e => by cases e; have := s.pg.lt; omega⟩
theorem NS.alloc (s : NS w W g gk gb y1 y2 a2 c2 zk zg zk2 L) (o : Obj) : NS w (W.alloc o) g gk gb y1 y2 a2 c2 zk zg zk2 L := s.below ((Below.refl _ W).alloc (Nat.le_refl _) o)
end

def n1 : List UInt8 := (turnL (zs 512) (zs 40) [] (zs 180)).2
def n2 : List UInt8 := (turnL n1 (1 :: zs 39) [] (zs 180)).2
def n3 : List UInt8 := (turnL n2 [107] [] (zs 54)).2
def n4 : List UInt8 := (turnL n3 [107] (zs 54) [120]).2
def n5 : List UInt8 := setLsnL n4 9223372036854775807
def n6 : List UInt8 := setNextL n5 8191
theorem q1 : turnL (zs 512) (zs 40) [] (zs 180) = (0, n1) := by kernel_rfl
theorem q2 : turnL n1 (1 :: zs 39) [] (zs 180) = (0, n2) := by kernel_rfl
theorem q3 : roomL n2 = 57 := by kernel_rfl
theorem q4 : turnL n2 [107] [] (zs 55) = (5, n2) := by kernel_rfl
theorem q5 : turnL n2 [107] [] (zs 54) = (0, n3) := by kernel_rfl
theorem q6 : roomL n3 = 0 := by kernel_rfl
theorem q7 : turnL n3 [107] (zs 54) (zs 55) = (5, n3) := by kernel_rfl
theorem q8 : turnL n3 [107] (zs 54) [120] = (0, n4) := by kernel_rfl
theorem q9 : turnL n4 (zs 41) [] (zs 180) = (2, n4) := by kernel_rfl
theorem q10 : turnL n4 (zs 40) [] (zs 181) = (2, n4) := by kernel_rfl
theorem q11 : turnL n4 (zs 40) (zs 181) [] = (2, n4) := by kernel_rfl
theorem q12 : turnL n4 [] [] (zs 180) = (2, n4) := by kernel_rfl
theorem q13 : turnL n4 (zs 40) (zs 179) [] = (6, n4) := by kernel_rfl
theorem q14 : turnL n4 (zs 40) [] (zs 180) = (6, n4) := by kernel_rfl
theorem q15 : turnL n4 [122] [120] [] = (6, n4) := by kernel_rfl
theorem p1 : decide (0 < behindL n4 ∧ (0 : Int) ≤ 9223372036854775807) = true := by kernel_rfl
theorem p2 : decide (0 < behindL n5 ∧ (0 : Int) ≤ -1) = false := by simp
theorem p3 : setLsnL n5 (-1) = n5 := setLsn_no _ (by decide)
theorem p4 : lsnL n5 = 9223372036854775807 := by kernel_rfl
theorem p5 : decide (0 < behindL n5 ∧ (0 : Int) ≤ 8191 ∧ (8191 : Int) < 8192) = true := by kernel_rfl
theorem p6 : decide (0 < behindL n6 ∧ (0 : Int) ≤ 8192 ∧ (8192 : Int) < 8192) = false := by simp
theorem p7 : setNextL n6 8192 = n6 := setNext_no _ (by decide)
theorem p8 : decide (0 < behindL n6 ∧ (0 : Int) ≤ -1 ∧ (-1 : Int) < 8192) = false := by simp
theorem p9 : setNextL n6 (-1) = n6 := setNext_no _ (by decide)
theorem p10 : nextL n6 = 8191 := by kernel_rfl
theorem p11 : behindL (n6.take 511) = 0 := by kernel_rfl
theorem p12 : behindL [] = 0 := by kernel_rfl
/-- All that PageNumbers knows of its bytes. -/
structure NF (L0 zk zg zk2 t54 t55 t179 x41 x181 n1 n2 n3 n4 n5 n6 : List UInt8) (b512 b513 b180 b40 b41 b181 : Array Value) : Prop where
  l0 : L0 = List.replicate 512 0
  k2 : zk2 = [1] ++ (zk.drop 1).take 39
  l54 : t54.length = 54
  l55 : t55.length = 55
  lk : zk.length = 40
  e54 : zg.take 54 = t54
  e55 : zg.take 55 = t55
  e179 : zg.take 179 = t179
  m180 : ∀ W : World, (Instr.makeSlice 22 (.int .i64 180) (.int .i64 180)).run Tryz.prog W = .ok (.slice (some ⟨W.heap.size, 0, none⟩) 180 180) (W.alloc (.cells b180 5))
  m40 : ∀ W : World, (Instr.makeSlice 22 (.int .i64 40) (.int .i64 40)).run Tryz.prog W = .ok (.slice (some ⟨W.heap.size, 0, none⟩) 40 40) (W.alloc (.cells b40 5))
  m41 : ∀ W : World, (Instr.makeSlice 22 (.int .i64 41) (.int .i64 41)).run Tryz.prog W = .ok (.slice (some ⟨W.heap.size, 0, none⟩) 41 41) (W.alloc (.cells b41 5))
  m181 : ∀ W : World, (Instr.makeSlice 22 (.int .i64 181) (.int .i64 181)).run Tryz.prog W = .ok (.slice (some ⟨W.heap.size, 0, none⟩) 181 181) (W.alloc (.cells b181 5))
  m512 : ∀ W : World, (Instr.makeSlice 22 (.int .i64 512) (.int .i64 512)).run Tryz.prog W = .ok (.slice (some ⟨W.heap.size, 0, none⟩) 512 512) (W.alloc (.cells b512 5))
  m513 : ∀ W : World, (Instr.makeSlice 22 (.int .i64 513) (.int .i64 513)).run Tryz.prog W = .ok (.slice (some ⟨W.heap.size, 0, none⟩) 513 513) (W.alloc (.cells b513 5))
  r180 : ∀ W : World, RB (W.alloc (.cells b180 5)).heap.size (W.alloc (.cells b180 5)) (some ⟨W.heap.size, 0, none⟩) 180 180 zg
  r40 : ∀ W : World, RB (W.alloc (.cells b40 5)).heap.size (W.alloc (.cells b40 5)) (some ⟨W.heap.size, 0, none⟩) 40 40 zk
  r41 : ∀ W : World, RB (W.alloc (.cells b41 5)).heap.size (W.alloc (.cells b41 5)) (some ⟨W.heap.size, 0, none⟩) 41 41 x41
  r181 : ∀ W : World, RB (W.alloc (.cells b181 5)).heap.size (W.alloc (.cells b181 5)) (some ⟨W.heap.size, 0, none⟩) 181 181 x181
  r513 : ∀ W : World, RB (W.alloc (.cells b513 5)).heap.size (W.alloc (.cells b513 5)) (some ⟨W.heap.size, 0, none⟩) 513 513 (zs 513)
  r512 : ∀ W : World, PG (W.alloc (.cells b512 5)) W.heap.size 512 L0 []
  q1 : turnL L0 zk [] zg = (0, n1)
  q2 : turnL n1 zk2 [] zg = (0, n2)
  q3 : roomL n2 = 57
  q4 : turnL n2 [107] [] t55 = (5, n2)
  q5 : turnL n2 [107] [] t54 = (0, n3)
  q6 : roomL n3 = 0
  q7 : turnL n3 [107] t54 t55 = (5, n3)
  q8 : turnL n3 [107] t54 [120] = (0, n4)
  q9 : turnL n4 x41 [] zg = (2, n4)
  q10 : turnL n4 zk [] x181 = (2, n4)
  q11 : turnL n4 zk x181 [] = (2, n4)
  q12 : turnL n4 [] [] zg = (2, n4)
  q13 : turnL n4 zk t179 [] = (6, n4)
  q14 : turnL n4 zk [] zg = (6, n4)
  q15 : turnL n4 [122] [120] [] = (6, n4)
  p1 : decide (0 < behindL n4 ∧ (0 : Int) ≤ 9223372036854775807) = true
  p1' : setLsnL n4 9223372036854775807 = n5
  p2 : decide (0 < behindL n5 ∧ (0 : Int) ≤ -1) = false
  p3 : setLsnL n5 (-1) = n5
  p4 : lsnL n5 = 9223372036854775807
  p5 : decide (0 < behindL n5 ∧ (0 : Int) ≤ 8191 ∧ (8191 : Int) < 8192) = true
  p5' : setNextL n5 8191 = n6
  p6 : decide (0 < behindL n6 ∧ (0 : Int) ≤ 8192 ∧ (8192 : Int) < 8192) = false
  p7 : setNextL n6 8192 = n6
  p8 : decide (0 < behindL n6 ∧ (0 : Int) ≤ -1 ∧ (-1 : Int) < 8192) = false
  p9 : setNextL n6 (-1) = n6
  p10 : nextL n6 = 8191
  p11 : behindL (n6.take 511) = 0
theorem take_zs (n m : Nat) (h : m ≤ n) : (zs n).take m = zs m := by unfold zs; rw [List.take_replicate, Nat.min_eq_left h]
theorem nf : NF (zs 512) (zs 40) (zs 180) (1 :: zs 39) (zs 54) (zs 55) (zs 179) (zs 41) (zs 181) n1 n2 n3 n4 n5 n6 (zb 512) (zb 513) (zb 180) (zb 40) (zb 41) (zb 181) :=
  ⟨rfl, by unfold zs; simp, zs_len _, zs_len _, zs_len _, take_zs _ _ (by decide), take_zs _ _ (by decide), take_zs _ _ (by decide), makeZ 180 (by decide), makeZ 40 (by decide), makeZ 41 (by decide), makeZ 181 (by decide), makeZ 512 (by decide), makeZ 513 (by decide), fun W => zrb W 180 (by decide), fun W => zrb W 40 (by decide), fun W => zrb W 41 (by decide), fun W => zrb W 181 (by decide), fun W => zrb W 513 (by decide), zpg,
   q1, q2, q3, q4, q5, q6, q7, q8, q9, q10, q11, q12, q13, q14, q15, p1, rfl, p2, p3, p4, p5, rfl, p6, p7, p8, p9, p10, p11⟩
end Go.Proofs.YtbinikbgbgggaaaGreatDoor
namespace Go.Proofs.YtbinikbgbgggaaaGreatDoor
open Go.RowKit Go.Shelf

/-- The cells of n changes. -/
def DC (W : World) (g : Option Nat) (cs : List Value) (n : Nat) : Prop := ∀ i, i < n → ∃ (kv ov nv : Value) (K O N : List UInt8) (t : Bool), cs[i * 7]? = some (.int .i64 2) ∧ cs[i * 7 + 1]? = some (.int .i64 0) ∧ cs[i * 7 + 2]? = some (.int .i64 0) ∧ cs[i * 7 + 3]? = some kv ∧ cs[i * 7 + 4]? = some ov ∧ cs[i * 7 + 5]? = some nv ∧ cs[i * 7 + 6]? = some (.bool t) ∧
  SlB W kv K g ∧ SlB W ov O g ∧ SlB W nv N g
/-- An own list of changes. -/
def DL (base : Nat) (W : World) (v : Value) (n : Nat) : Prop := ∃ cs, W.ownsRow base 47 7 v n cs ∧ DC W v.ownBlock cs n
theorem DL.nil (base : Nat) (W : World) : DL base W (.slice none 0 0) 0 := ⟨[], World.ownsRow_nil _ _ _ _, fun i hi => absurd hi (Nat.not_lt_zero _)⟩
theorem DC.below {W W' : World} {g : Option Nat} {cs : List Value} {n : Nat} (h : DC W g cs n) (hb : Below W.heap.size W W') : DC W' g cs n := fun i hi => by
  obtain ⟨kv, ov, nv, K, O, N, t, h1, h2, h3, h4, h5, h6, h7, h8, h9, h10⟩ := h i hi
  exact ⟨kv, ov, nv, K, O, N, t, h1, h2, h3, h4, h5, h6, h7, h8.below hb, h9.below hb, h10.below hb⟩
theorem DL.below {base n : Nat} {W W' : World} {v : Value} (h : DL base W v n) (hb : Below W.heap.size W W') : DL base W' v n := by
  obtain ⟨cs, h1, h2⟩ := h
  exact ⟨cs, rows_below h1 hb, h2.below hb⟩
theorem DC.grown {W W' : World} {g0 : Option Nat} {g : Nat} {cs : List Value} {n : Nat} (h : DC W g0 cs n) (hg : W.grownBy W' g0) (hat : g0 = some g ∨ g = W.heap.size) : DC W' (some g) cs n := fun i hi => by
  obtain ⟨kv, ov, nv, K, O, N, t, h1, h2, h3, h4, h5, h6, h7, h8, h9, h10⟩ := h i hi
  exact ⟨kv, ov, nv, K, O, N, t, h1, h2, h3, h4, h5, h6, h7, h8.grown hg hat, h9.grown hg hat, h10.grown hg hat⟩
theorem DC.append {W : World} {g : Option Nat} {cs ds : List Value} {n m : Nat} (h : DC W g cs n) (k : DC W g ds m) (hl : cs.length = n * 7) : DC W g (cs ++ ds) (n + m) := fun i hi => by
  by_cases hin : i < n
  · obtain ⟨kv, ov, nv, K, O, N, t, h1, h2, h3, h4, h5, h6, h7, r⟩ := h i hin
    have e : ∀ {j v}, cs[j]? = some v → (cs ++ ds)[j]? = some v := fun hj => by rw [List.getElem?_append_left (List.getElem?_eq_some_iff.1 hj).1]; exact hj
    exact ⟨kv, ov, nv, K, O, N, t, e h1, e h2, e h3, e h4, e h5, e h6, e h7, r⟩
  · obtain ⟨j, rfl⟩ : ∃ j, i = n + j := ⟨i - n, by omega⟩
    obtain ⟨kv, ov, nv, K, O, N, t, h1, h2, h3, h4, h5, h6, h7, r⟩ := k j (by omega)
    have e : ∀ {q v}, ds[j * 7 + q]? = some v → (cs ++ ds)[(n + j) * 7 + q]? = some v := fun hj => by
      rename_i q v
      rw [List.getElem?_append_right (by omega), hl, show (n + j) * 7 + q - n * 7 = j * 7 + q by omega]
      exact hj
    exact ⟨kv, ov, nv, K, O, N, t, e (q := 0) h1, e h2, e h3, e h4, e h5, e h6, e h7, r⟩
/-- The cells of three changes. -/
def d3 (a b c d e f x y z : Value) : List Value := [.int .i64 2, .int .i64 0, .int .i64 0, a, b, c, .bool false, .int .i64 2, .int .i64 0, .int .i64 0, d, e, f, .bool true, .int .i64 2, .int .i64 0, .int .i64 0, x, y, z, .bool true]
theorem d3_dc {W : World} {g : Option Nat} {a b c d e f x y z : Value} {A B C D E F X Y Z : List UInt8} (h1 : SlB W a A g) (h2 : SlB W b B g) (h3 : SlB W c C g) (h4 : SlB W d D g) (h5 : SlB W e E g) (h6 : SlB W f F g) (h7 : SlB W x X g) (h8 : SlB W y Y g) (h9 : SlB W z Z g) : DC W g (d3 a b c d e f x y z) 3 := fun i hi => by
  rcases (show i = 0 ∨ i = 1 ∨ i = 2 by omega) with rfl | rfl | rfl
  · exact ⟨a, b, c, A, B, C, false, rfl, rfl, rfl, rfl, rfl, rfl, rfl, h1, h2, h3⟩
  · exact ⟨d, e, f, D, E, F, true, rfl, rfl, rfl, rfl, rfl, rfl, rfl, h4, h5, h6⟩
  · exact ⟨x, y, z, X, Y, Z, true, rfl, rfl, rfl, rfl, rfl, rfl, rfl, h7, h8, h9⟩
/-- Three more changes. -/
theorem DL.more {base n : Nat} {W W' : World} {v : Value} {g cap : Nat} {cs : List Value} {a b c d e f x y z : Value} (hn : W.ownsRow base 47 7 v n cs) (hc : DC W v.ownBlock cs n) (hd : DC W v.ownBlock (d3 a b c d e f x y z) 3) (ho : W'.ownsRow base 47 7 (.slice (some ⟨g, 0, none⟩) (n + 3) cap) (n + 3) (cs ++ d3 a b c d e f x y z)) (hg : W.grownBy W' v.ownBlock) (hat : v.ownBlock = some g ∨ g = W.heap.size) : DL base W' (.slice (some ⟨g, 0, none⟩) (n + 3) cap) (n + 3) :=
  ⟨_, ho, (hc.append hd hn.1).grown hg hat⟩
theorem DL.dos {base n : Nat} {W : World} {v : Value} (h : DL base W v n) : ∃ la lc D, v = .slice la n lc ∧ DosAt W.heap.size W la n lc D ∧ ∀ i, i < n → DoOk (D i) := by
  obtain ⟨cs, h1, h2⟩ := h
  obtain ⟨a, c, rfl, hle, hmx, hsome⟩ := rows_form h1
  have each : ∀ i, i < n → ∃ d : DoV, (∀ g, a = some ⟨g, 0, none⟩ → DoAt W.heap.size W g (i * 7) d) ∧ DoOk d := fun i hi => by
    obtain ⟨kv, ov, nv, K, O, N, t, c0, c1, c2, c3, c4, c5, c6, ⟨ka, kn, kc, rfl, rk, -⟩, ⟨oa, on, oc, rfl, ro, -⟩, ⟨na, nn, nc, rfl, rn, -⟩⟩ := h2 i hi
    refine ⟨⟨2, 0, 0, ka, kn, kc, K, oa, on, oc, O, na, nn, nc, N, t⟩, fun g hg => ?_, ⟨(by show (-9223372036854775808 : Int) ≤ 2; decide), (by show (2 : Int) ≤ 9223372036854775807; decide), (by show (-9223372036854775808 : Int) ≤ 0; decide), (by show (0 : Int) ≤ 9223372036854775807; decide), (by show (-9223372036854775808 : Int) ≤ 0; decide), (by show (0 : Int) ≤ 9223372036854775807; decide)⟩⟩
    subst hg
    have cell : ∀ {j u}, j < n * 7 → cs[j]? = some u → W.cell? ⟨g, j, none⟩ = some u := fun hj hu => by rw [h1.cellAt _ hj]; exact hu
    exact ⟨cell (by omega) c0, cell (by omega) c1, cell (by omega) c2, cell (by omega) c3, cell (by omega) c4, cell (by omega) c5, cell (by omega) c6, rk, ro, rn⟩
  obtain ⟨D, hD⟩ := Go.Deep.choose_lt each
  refine ⟨a, c, D, rfl, ⟨hle, hmx, fun hc => ?_⟩, fun i hi => (hD i hi).2⟩
  obtain ⟨e1, ⟨h3, h4⟩ | ⟨g, cap, cur, hv, hg, hh, r⟩⟩ := id h1
  · cases h3; omega
  · cases hv
    exact ⟨g, 0, rfl, (Array.getElem?_eq_some_iff.1 hh).1, fun i hi => by rw [Nat.zero_add]; exact (hD i hi).1 g rfl⟩
/-- A list beside the own one, that a call made behind it. -/
theorem slb_new {W : World} {a : Option Addr} {n c : Nat} {l : List UInt8} {b : Nat} {g : Option Nat} {S : Nat} (h : RB W.heap.size W (some ⟨b, 0, none⟩) n c l) (hb : S ≤ b) (hg : ∀ x, g = some x → x < S) : SlB W (.slice (some ⟨b, 0, none⟩) n c) l g :=
  ⟨_, _, _, rfl, h, fun _ b' o s e e2 => by cases e; have := hg _ e2.symm; omega⟩
theorem DL.block {base n : Nat} {W : World} {v : Value} (h : DL base W v n) {x : Nat} (hx : v.ownBlock = some x) : base ≤ x ∧ x < W.heap.size := by
  obtain ⟨cs, h1, -⟩ := h
  obtain ⟨e1, ⟨h3, h4⟩ | ⟨g, cap, cur, hv, hg, hh, r⟩⟩ := id h1
  · subst h3; cases hx
  · subst hv
    have : g = x := by simpa [Value.ownBlock] using hx
    subst this
    exact ⟨hg, (Array.getElem?_eq_some_iff.1 hh).1⟩
/-- What three turns leave behind. -/
def T3r (W : World) (S a b c na nb nc ca cb cc : Nat) (A B C : List UInt8) : Prop := (RB W.heap.size W (some ⟨a, 0, none⟩) na ca A ∧ RB W.heap.size W (some ⟨b, 0, none⟩) nb cb B ∧ RB W.heap.size W (some ⟨c, 0, none⟩) nc cc C) ∧ S ≤ a ∧ S ≤ b ∧ S ≤ c
theorem T3r.slb {W W' : World} {S S' a b c na nb nc ca cb cc : Nat} {A B C : List UInt8} {g : Option Nat} (h : T3r W S a b c na nb nc ca cb cc A B C) (hb : Below W.heap.size W W') (hS : S' ≤ S) (hg : ∀ x, g = some x → x < S') : SlB W' (.slice (some ⟨a, 0, none⟩) na ca) A g ∧ SlB W' (.slice (some ⟨b, 0, none⟩) nb cb) B g ∧ SlB W' (.slice (some ⟨c, 0, none⟩) nc cc) C g := by
  obtain ⟨⟨h1, h2, h3⟩, h4, h5, h6⟩ := h
  exact ⟨slb_new (a := none) ((h1.below hb).mono hb.size) (Nat.le_trans hS h4) hg, slb_new (a := none) ((h2.below hb).mono hb.size) (Nat.le_trans hS h5) hg, slb_new (a := none) ((h3.below hb).mono hb.size) (Nat.le_trans hS h6) hg⟩
theorem more_end {w27 wr ux uy uv w7 : World} {n : Nat} {v : Value} {g4 cap4 : Nat} {cs DD : List Value} {o : Obj}
    {ax bx gx nax nbx ngx cax cbx cgx ay by' gy nay nby ngy cay cby cgy av bv gv nav nbv ngv cav cbv cgv : Nat} {A B C D E F X Y Z : List UInt8}
    (Hb : Below w27.heap.size w27 wr) (Hdl : DL w27.heap.size wr v n) (hx : Below wr.heap.size wr ux) (hy : Below ux.heap.size ux uy) (hv : Below uy.heap.size uy uv)
    (rx : T3r ux wr.heap.size ax bx gx nax nbx ngx cax cbx cgx A B C) (ry : T3r uy ux.heap.size ay by' gy nay nby ngy cay cby cgy D E F) (rv : T3r uv uy.heap.size av bv gv nav nbv ngv cav cbv cgv X Y Z)
    (hDD : DD = d3 (.slice (some ⟨ax, 0, none⟩) nax cax) (.slice (some ⟨bx, 0, none⟩) nbx cbx) (.slice (some ⟨gx, 0, none⟩) ngx cgx) (.slice (some ⟨ay, 0, none⟩) nay cay) (.slice (some ⟨by', 0, none⟩) nby cby) (.slice (some ⟨gy, 0, none⟩) ngy cgy) (.slice (some ⟨av, 0, none⟩) nav cav) (.slice (some ⟨bv, 0, none⟩) nbv cbv) (.slice (some ⟨gv, 0, none⟩) ngv cgv))
    (hown : (uv.alloc o).ownsRow w27.heap.size 47 7 v n cs) (hdc : DC (uv.alloc o) v.ownBlock cs n)
    (hown7 : w7.ownsRow w27.heap.size 47 7 (.slice (some ⟨g4, 0, none⟩) (n + 3) cap4) (n + 3) (cs ++ DD)) (hgrow : (uv.alloc o).grownBy w7 v.ownBlock) (hat : v.ownBlock = some g4 ∨ g4 = (uv.alloc o).heap.size) :
    DL w27.heap.size w7 (.slice (some ⟨g4, 0, none⟩) (n + 3) cap4) (n + 3) ∧ Below w27.heap.size w27 w7 := by
  have hxy := Nat.le_trans hx.size hy.size
  have hal : Below uv.heap.size uv (uv.alloc o) := (Below.refl _ uv).alloc (Nat.le_refl _) _
  have h1 : Below uy.heap.size uy (uv.alloc o) := hv.trans (hal.mono hv.size)
  have h2 : Below ux.heap.size ux (uv.alloc o) := hy.trans (h1.mono hy.size)
  have h3 : Below wr.heap.size wr (uv.alloc o) := hx.trans (h2.mono hx.size)
  have hg : ∀ x, v.ownBlock = some x → x < wr.heap.size := fun x e => (Hdl.block e).2
  obtain ⟨a1, a2, a3⟩ := rx.slb h2 (Nat.le_refl _) hg
  obtain ⟨b1, b2, b3⟩ := ry.slb h1 hx.size hg
  obtain ⟨c1, c2, c3⟩ := rv.slb hal hxy hg
  subst hDD
  exact ⟨DL.more hown hdc (d3_dc a1 a2 a3 b1 b2 b3 c1 c2 c3) hown7 hgrow hat, (Hb.trans (h3.mono Hb.size)).grown hgrow (Nat.le_trans Hb.size h3.size) (fun k e => (Hdl.block e).1)⟩
/-- The page of the last loops, by hand. -/
def W5 (W0 : World) (g : Nat) : World := ((((W0.setCell ⟨g, 10, none⟩ (.int .u8 1)).setCell ⟨g, 11, none⟩ (.int .u8 1)).setCell ⟨g, 12, none⟩ (.int .u8 1)).setCell ⟨g, 13, none⟩ (.int .u8 107)).setCell ⟨g, 14, none⟩ (.int .u8 118)
theorem W5_pg {W0 : World} {g c : Nat} {L : List UInt8} {X : List Value} (h : PG W0 g c L X) : ∃ L5, PG (W5 W0 g) g c L5 X :=
  ⟨_, ((((h.set 10 1 (by decide)).set 11 1 (by decide)).set 12 1 (by decide)).set 13 107 (by decide)).set 14 118 (by decide)⟩
theorem W5_mod (W0 : World) (g : Nat) : Mod g W0 (W5 W0 g) := ((((((Mod.refl g W0).set g 10 _).set g 11 _).set g 12 _).set g 13 _).set g 14 _)
theorem u8_any (z : Int) : ∃ y : UInt8, IntKind.u8.wrap z = (y.toNat : Int) := ⟨UInt8.ofNat (IntKind.u8.wrap z).toNat, by rw [IntKind.wrap_u8, UInt8.toNat_ofNat']; omega⟩
end Go.Proofs.YtbinikbgbgggaaaGreatDoor
