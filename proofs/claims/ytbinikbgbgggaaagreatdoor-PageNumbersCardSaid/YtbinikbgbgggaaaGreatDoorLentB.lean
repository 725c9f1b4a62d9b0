/- Marks; slices that are lent. LentBytes. -/
import Derived.Test.YtbinikbgbgggaaaGreatDoorKeepP
import Derived.Test.YtbinikbgbgggaaaGreatDoorRefB
namespace Go.Proofs.YtbinikbgbgggaaaGreatDoor
open Go.RowKit Go.Shelf

/-- The mark's number, and its byte. -/
def markN (k i : Nat) : Nat := 1000003 * (k + 7) + i
def mkB (k i : Nat) : UInt8 := UInt8.ofNat (markN k i * 11400714819323198485 % 18446744073709551616 / 72057594037927936)
theorem mark_any (k i : Nat) (w : World) (hk : k ≤ 1000000) (hi : i ≤ 1000000000) :
    Calls Tryz.prog 48 #[.int .i64 k, .int .i64 i] w fun e w' => e = .returned (.int .i64 (markN k i : Nat)) ∧ w = w' := by
  have hf : ((markN k i : Nat) : Int) = 1000003 * ((k : Int) + 7) + (i : Int) := by unfold markN; omega
  have Hf := Lib.hid hf
  clear hf
  go_enter Tryz.func48, Tryz.ntmps48
  go_wp2_with (fail)
  go_ret
  exact ⟨by rw [Hf.out]; rfl, rfl⟩
set_option maxRecDepth 100000 in
theorem mkB_val (k i : Nat) : IntKind.u64.wrap ((markN k i : Nat) * 11400714819323198485) / 72057594037927936 % 256 = ((mkB k i).toNat : Int) := by
  unfold mkB
  rw [UInt8.toNat_ofNat']
  generalize markN k i = m
  have h : IntKind.u64.wrap ((m : Nat) * 11400714819323198485) = ((m * 11400714819323198485 % 18446744073709551616 : Nat) : Int) := by
    unfold IntKind.wrap
    simp [IntKind.bits, IntKind.signed]
  rw [h]
  generalize m * 11400714819323198485 % 18446744073709551616 = q
  omega
set_option maxRecDepth 100000 in
theorem markByte_any (k i : Nat) (w : World) (hk : k ≤ 1000000) (hi : i ≤ 1000000000) :
    Calls Tryz.prog 25 #[.int .i64 k, .int .i64 i] w fun e w' => e = .returned (.int .u8 ((mkB k i).toNat : Int)) ∧ w = w' := by
  have HM := Lib.hid (mark_any k i w hk hi)
  have hm : markN k i < 2000000000000 := by unfold markN; omega
  go_enter Tryz.func25, Tryz.ntmps25
  go_wp2_with (fail)
  refine HM.out.mono ?_
  rintro e w' ⟨rfl, rfl⟩
  have hv := mkB_val k i
  have Hv := Lib.hid hv
  clear hv
  go_wp2_with (fail)
  go_ret
  exact ⟨congrArg (fun x => Ending.returned (.int .u8 x)) Hv.out, rfl⟩

set_option maxHeartbeats 1000000 in
theorem SameRows_any (B : Nat) (la lb : Option Addr) (ln lc lm ld : Nat) (L M : List Rw) (w : World) (hB : B ≤ w.heap.size) (hl : RowsAt B w la ln lc L) (hm : RowsAt B w lb lm ld M) (he : L = M) :
    Calls Tryz.prog 31 #[.slice la ln lc, .slice lb lm ld] w fun e w' => e = .returned (.bool true) ∧ Below w.heap.size w w' := by
  subst he
  obtain rfl : ln = lm := by rw [hl.len, hm.len]
  have h1 := hl.le
  have h2 := hl.mx
  have h3 := hm.le
  have h4 := hm.mx
  have hbne : ((ln : Int) != (ln : Int)) = false := by simp
  have Hl := Lib.hid hl
  have Hm := Lib.hid hm
  have Hlen := Lib.hid hl.len
  clear hl hm
  go_enter Tryz.func31, Tryz.ntmps31
  go_wp2_with (fail)
  go_loopw [5] (fun i wr => ∃ j : Nat, j ≤ ln ∧ i = .int .i64 j ∧ Hid (Below w.heap.size w wr)) (fun i _ => ln - (intOf i).toNat)
  case atStart => exact ⟨0, Nat.zero_le _, rfl, Lib.hid (Below.refl _ _)⟩
  case round =>
    obtain ⟨j, hj, rfl, Hb⟩ := hrel
    by_cases hlt : j < ln
    · obtain ⟨b1, o1, rfl, hB1, ht1⟩ := (Hl.out.below (Hb.out.mono hB)).at_ (by omega)
      obtain ⟨b2, o2, rfl, hB2, ht2⟩ := (Hm.out.below (Hb.out.mono hB)).at_ (by omega)
      have hjl : j < L.length := by rw [← Hlen.out]; exact hlt
      obtain ⟨ka, kn, kc, va, vn, vc, c0, c1, rk, rv⟩ := ht1 j L[j] (List.getElem?_eq_getElem hjl)
      obtain ⟨ka', kn', kc', va', vn', vc', d0, d1, rk', rv'⟩ := ht2 j L[j] (List.getElem?_eq_getElem hjl)
      have hsz := Hb.out.size
      have f0 : ∀ x : BelowW wr, x.v.cell? ⟨b1, o1 + j * 2, none⟩ = some (.slice ka kn kc) := fun x => (x.h.cell (by show b1 < _; omega)).trans c0
      have f1 : ∀ x : BelowW wr, x.v.cell? ⟨b1, o1 + j * 2 + 1, none⟩ = some (.slice va vn vc) := fun x => (x.h.cell (by show b1 < _; omega)).trans c1
      have f2 : ∀ x : BelowW wr, x.v.cell? ⟨b2, o2 + j * 2, none⟩ = some (.slice ka' kn' kc') := fun x => (x.h.cell (by show b2 < _; omega)).trans d0
      have f3 : ∀ x : BelowW wr, x.v.cell? ⟨b2, o2 + j * 2 + 1, none⟩ = some (.slice va' vn' vc') := fun x => (x.h.cell (by show b2 < _; omega)).trans d1
      have Hsr : Hid (∀ x : BelowW wr, Calls Tryz.prog 50 #[.agg #[.slice ka kn kc, .slice va vn vc], .agg #[.slice ka' kn' kc', .slice va' vn' vc']] x.v fun e w' => e = .returned (.bool true) ∧ Below x.v.heap.size x.v w') := Lib.hid fun x => by
        have hx := x.h.mono (show B ≤ wr.heap.size by omega)
        have := SameRow_any B ka va ka' va' kn kc vn vc kn' kc' vn' vc' _ _ _ _ x.v (by have := x.h.size; omega) (rk.below hx) (rv.below hx) (rk'.below hx) (rv'.below hx)
        rw [eqB_self, eqB_self] at this; exact this
      clear ht1 ht2 c0 c1 d0 d1 rk rv rk' rv'
      have i1 : (0 : Int) ≤ (j : Int) := by omega
      have i2 : (j : Int) < (ln : Int) := by omega
      go_wp2_with (fail)
      refine wp_region_below wr (by kernel_rfl) (by kernel_rfl) (Below.refl _ _) ?_
      repeat (go_big_quiet_step ((go_at_call 50; with_reducible exact below_call (Hsr.out _))))
      refine wpQuiet_nil ?_
      intro _ hw'
      obtain ⟨x, hw''⟩ := hw'
      subst hw''
      clear f0 f1 f2 f3
      go_wp2_with (fail)
      go_roundw
      case rel => exact ⟨j + 1, by omega, by go_num, Lib.hid (Hb.out.trans (x.h.mono hsz))⟩
      case measure => simp [intOf]; omega
    · go_wp2_with (fail)
      go_ret
      exact ⟨rfl, Hb.out⟩
end Go.Proofs.YtbinikbgbgggaaaGreatDoor
namespace Go.Proofs.YtbinikbgbgggaaaGreatDoor
open Go.RowKit Go.Shelf

def lentT : List UInt8 := (List.range 12).map fun i => mkB 1 i
theorem lentT_take (j : Nat) (h : j < 12) : lentT.take (j + 1) = lentT.take j ++ [mkB 1 j] := by
  have hl : lentT.length = 12 := by simp [lentT]
  rw [List.take_succ_eq_append_getElem (by omega)]
  congr 2
  simp [lentT]
theorem OB.form {base : Nat} {W : World} {v : Value} {l : List UInt8} (h : OB base W v l) (hv : v ≠ .slice none 0 0) : ∃ g c, v = .slice (some ⟨g, 0, none⟩) l.length c := by
  obtain ⟨e, ⟨h1, -⟩ | ⟨g, cap, cur, h1, -⟩⟩ := h
  · exact absurd h1 hv
  · exact ⟨g, cap, h1⟩
theorem OB.cap {base : Nat} {W : World} {a : Option Addr} {n c : Nat} {l : List UInt8} (h : OB base W (.slice a n c) l) : n = l.length ∧ n ≤ c ∧ c ≤ 9223372036854775807 := by
  obtain ⟨e, ⟨h1, h2⟩ | ⟨g, cap, cur, h1, -, -, h3, h4, -⟩⟩ := h
  · cases h1; exact ⟨h2.symm, Nat.le_refl _, by omega⟩
  · cases h1; exact ⟨rfl, h3, by simpa [maxLen] using h4⟩
set_option maxHeartbeats 1000000 in
set_option maxRecDepth 100000 in
theorem LentBytes_any (N : Nat) (a : Option Addr) (n c : Nat) (L : List UInt8) (w : World) (hr : RB N w a n c L) (hN : N ≤ w.heap.size) (hs : n ≤ 100000) :
    Calls Tryz.prog 6 #[.slice a n c] w fun e w' => (∃ g c', e = .returned (.slice (some ⟨g, 0, none⟩) n c') ∧ OB w.heap.size w' (.slice (some ⟨g, 0, none⟩) (n + 12) c') (L ++ lentT)) ∧ Below w.heap.size w w' := by
  obtain ⟨i0, hi, hz0, hz1, hz2⟩ := info_parts Tryz.infoU8
  have hln := hr.len
  have Hln := Lib.hid hln
  have Hr := Lib.hid hr
  have Hi := Lib.hid hi
  have Hz0 := Lib.hid hz0
  have Hz1 := Lib.hid hz1
  have Hz2 := Lib.hid hz2
  have hb0 : i0.bytes * (n + 12) ≤ 281474976710656 := by rw [hz2]; omega
  have Hb0 := Lib.hid hb0
  clear hi hz0 hz1 hz2 hr hln hb0
  go_enter Tryz.func6, Tryz.ntmps6
  go_wp2_with (first
    | (refine wpList_make_own _ rfl _ _ 22 rfl w.heap.size 5 i0 (.int .u8 0) 1 Tryz.underlying22 Hi.out Hz0.out Hz1.out .i64 .i64 _ (n + 12) rfl rfl (by omega) Hb0.out (by simp only [maxLen]; omega) (Nat.le_refl _) ?_; intro w1 hown1 hg1; have O1 : Hid (OB w.heap.size w1 (.slice (some ⟨w.heap.size, 0, none⟩) 0 (n + 12)) []) := Lib.hid hown1; have B1 : Hid (Below w.heap.size w w1) := Lib.hid ((Below.refl _ w).grown hg1 (Nat.le_refl _) (fun r e => by cases e)); clear hown1 hg1)
    | (at_builtin; refine wpList_append_bytes rfl _ _ rfl w.heap.size N _ [] rfl O1.out _ _ _ L rfl (Hr.out.below (B1.out.mono hN)) (by simp [← Hln.out]; omega) B1.out.size ?_; intro v2 w2 hown2 hg2 hn2))
  have hv2 : v2 ≠ .slice none 0 0 := fun e => by have := (hn2.1 e).1; cases this
  rw [List.nil_append] at hown2
  obtain ⟨g2, c2, rfl⟩ := hown2.form hv2
  rw [← Hln.out] at hown2 ⊢
  have O2 := Lib.hid hown2
  have B2 : Hid (Below w.heap.size w w2) := Lib.hid (B1.out.grown hg2 B1.out.size (fun r e => by cases e; exact Nat.le_refl _))
  clear hown2 hg2 hn2 hv2
  go_wp2_with (fail)
  go_loopw [3, 4] (fun v i wr => ∃ (j g c' : Nat), j ≤ 12 ∧ i = .int .i64 j ∧ v = .slice (some ⟨g, 0, none⟩) (n + j) c' ∧ Hid (OB w.heap.size wr (.slice (some ⟨g, 0, none⟩) (n + j) c') (L ++ lentT.take j)) ∧ Hid (Below w.heap.size w wr)) (fun _ i _ => 12 - (intOf i).toNat)
  case atStart => exact ⟨0, g2, c2, by omega, rfl, rfl, by simpa using O2, B2⟩
  case round =>
    obtain ⟨j, g, c', hj, rfl, rfl, Ho, Hb⟩ := hrel
    by_cases hlt : j < 12
    · have HM := Lib.hid (markByte_any 1 j wr (by omega) (by omega))
      have hsz := Hb.out.size
      go_wp2_with (fail)
      refine HM.out.mono ?_
      rintro e w' ⟨rfl, rfl⟩
      have hl1 := lit_rb wr [mkB 1 j] (0, 0) (by simp)
      have Hl1 := Lib.hid hl1
      have O3 := Lib.hid (Ho.out.below ((Below.refl _ wr).alloc (Nat.le_refl _) (.cells #[.int .u8 ((mkB 1 j).toNat : Int)] 5)))
      clear hl1
      go_wp2_with (at_builtin; refine wpList_append_bytes rfl _ _ rfl w.heap.size _ _ (L ++ lentT.take j) rfl O3.out _ _ _ [mkB 1 j] rfl Hl1.out (by have := Hln.out; simp; omega) (by simp; omega) ?_; intro v4 w4 hown4 hg4 hn4)
      have hv4 : v4 ≠ .slice none 0 0 := fun e => by have := (hn4.1 e).1; cases this
      obtain ⟨g4, c4, rfl⟩ := hown4.form hv4
      have hlen : (L ++ lentT.take j ++ [mkB 1 j]).length = n + (j + 1) := by
        have := Ho.out.cap.1
        rw [List.length_append, ← this]; simp; omega
      rw [hlen] at hown4
      rw [List.append_assoc, ← lentT_take j hlt] at hown4
      have O4 := Lib.hid hown4
      have B4 : Hid (Below w.heap.size w w4) := Lib.hid ((Hb.out.alloc hsz _).grown hg4 (by simp; omega) (fun r e => (Ho.out.own r e).1))
      clear hown4 hg4 hn4 hv4
      go_roundw
      case rel => exact ⟨j + 1, g4, c4, by omega, by go_num, by rw [hlen], O4, B4⟩
      case measure => simp [intOf]; omega
    · have hge : j = 12 := by omega
      subst hge
      obtain ⟨q1, q2, q3⟩ := Ho.out.cap
      have q4 : (n : Int) ≤ (c' : Int) := by omega
      clear q1
      go_wp2_with (fail)
      go_ret
      refine ⟨⟨g, c', rfl, ?_⟩, Hb.out⟩
      have h := Ho.out
      rw [List.take_of_length_le (by simp [lentT])] at h
      exact h
end Go.Proofs.YtbinikbgbgggaaaGreatDoor
