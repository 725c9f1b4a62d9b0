/- The walks of storemankit.KeptItem, LentItems, KeptItems. -/
import Derived.Test.YthlmnoggeggpkaaKSameI
namespace Go.Proofs.Ythlmnoggeggpkaa
open Go.RowKit

theorem RP.take {B : Nat} {w : World} {a : Option Addr} {n c : Nat} {P : List Pt} (h : RP B w a n c P) {k : Nat} (hk : k ≤ n) : RP B w a k c (P.take k) := by
  refine ⟨by rw [List.length_take, ← h.len]; omega, Nat.le_trans hk h.le, h.mx, fun p hp => h.fine p (List.mem_of_mem_take hp), fun hc => ?_⟩
  obtain ⟨b, o, e, hB, hcell⟩ := h.at_ hc
  refine ⟨b, o, e, hB, fun i hi => ?_⟩
  have := hcell i (by omega)
  have e2 : (P.take k).getD i default = P.getD i default := by
    rw [List.getD_eq_getElem?_getD, List.getElem?_take, if_pos hi, List.getD_eq_getElem?_getD]
  rw [e2]; exact this
theorem OP.rp2 {base : Nat} {w : World} {a : Option Addr} {n c : Nat} {P : List Pt} (h : OP base w (.slice a n c) P) (hf : Fine P) : RP w.heap.size w a n c P := by
  obtain ⟨a', c', e, r⟩ := h.rp hf
  injection e with e1 e2 e3
  rw [e1, e2, e3]; exact r
theorem lentX_fine : ∀ t ∈ lentX, t.length ≤ 9223372036854775807 := by
  intro t ht
  unfold lentX at ht
  obtain ⟨i, -, rfl⟩ := List.mem_map.1 ht
  simp [mkTx]
theorem lentP_fine : Fine lentP := by
  intro p hp
  unfold lentP at hp
  obtain ⟨i, hi, rfl⟩ := List.mem_map.1 hp
  have h1 := List.mem_range.1 hi
  have := markN_bd 1 i (by omega) (by omega)
  unfold mkPt
  exact ⟨Nat.zero_le _, by simp only; omega⟩
/-- A lent item is an item in memory. -/
theorem LI.ok {base N : Nat} {w w0 : World} {x y : It} (h : LI base w x y) (hx : ItOk N w0 x) : ItOk w.heap.size w y := by
  obtain ⟨⟨e1, e2, e3, e4⟩, ⟨g, g1, g2, g3, g4⟩, ⟨k, k1, k2, k3, k4⟩⟩ := h
  have hp : Fine (x.ps ++ lentP) := fun p hp => by
    rcases List.mem_append.1 hp with h | h
    · exact hx.rp.fine p h
    · exact lentP_fine p h
  have ht : ∀ t ∈ x.os ++ lentX, t.length ≤ 9223372036854775807 := fun t h => by
    rcases List.mem_append.1 h with h | h
    · exact hx.rt.fine t h
    · exact lentX_fine t h
  refine ⟨by rw [e1]; exact hx.code, by rw [e2]; exact hx.lo, by rw [e2]; exact hx.hi, ?_, ?_⟩
  · have := (g4.rp2 hp).take (show x.ps.length ≤ x.ps.length + 12 by omega)
    rw [List.take_left' rfl] at this
    rw [e3, g1]
    exact this
  · have := (k4.rt ht x.os.length (by omega)).1
    rw [List.take_left' rfl] at this
    rw [e4, k1]
    exact this
set_option maxHeartbeats 2000000 in
set_option maxRecDepth 100000 in
theorem KeptItem_any (base N : Nat) (x y : It) (w : World) (hx : ItOk N w x) (hy : LI base w x y) (hN : N ≤ w.heap.size) :
    Calls Try.prog 31 #[y.val, x.val] w fun e w' => e = .returned (.bool true) ∧ Below w.heap.size w w' := by
  have hyo := hy.ok hx
  have hS := SameItem_like w.heap.size y x
  obtain ⟨hlike, ⟨g, g1, g2, g3, g4⟩, ⟨k, k1, k2, k3, k4⟩⟩ := hy
  obtain ⟨e1, e2, e3, e4⟩ := hlike
  have hp : Fine (x.ps ++ lentP) := fun p hp => by
    rcases List.mem_append.1 hp with h | h
    · exact hx.rp.fine p h
    · exact lentP_fine p h
  have ht : ∀ t ∈ x.os ++ lentX, t.length ≤ 9223372036854775807 := fun t h => by
    rcases List.mem_append.1 h with h | h
    · exact hx.rt.fine t h
    · exact lentX_fine t h
  have hrp := g4.rp2 hp
  have hrt := (k4.rt ht (x.os.length + 12) (Nat.le_refl _)).1
  rw [List.take_of_length_le (by rw [List.length_append, lentX_len]; omega)] at hrt
  have hxp := hx.rp.mono hN
  have hxt := hx.rt.mono hN
  have hxo := hx.mono hN
  obtain ⟨code, life, pa, pc, ps, oa, oc, os⟩ := x
  obtain ⟨code', life', pa', pc', ps', oa', oc', os'⟩ := y
  simp only at e1 e2 e3 e4 g1 g2 g3 k1 k2 k3 hrp hrt hxp hxt
  subst e1 e2 e3 e4 g1 k1
  have HS : Hid (∀ W, Below w.heap.size w W → Calls Try.prog 32 #[.agg #[.string ⟨code'.toArray⟩, .int .i64 life', .slice (some ⟨g, 0, none⟩) ps'.length pc', .slice (some ⟨k, 0, none⟩) os'.length oc'], .agg #[.string ⟨code'.toArray⟩, .int .i64 life', .slice pa ps'.length pc, .slice oa os'.length oc]] W fun e w' => e = .returned (.bool true) ∧ Below W.heap.size W w') := Lib.hid fun W h => hS W (hyo.below h) (hxo.below h) h.size ⟨rfl, rfl, rfl, rfl⟩
  have HP : Hid (∀ W, Below w.heap.size w W → Calls Try.prog 52 #[.slice (some ⟨g, 0, none⟩) ps'.length pc', .slice pa ps'.length pc] W fun e w' => e = .returned (.bool true) ∧ Below W.heap.size W w') := Lib.hid fun W h => KeptParts_any w.heap.size w.heap.size g pc' pa ps'.length pc ps' W (hrp.below h) (hxp.below h) h.size h.size
  have HT : Hid (∀ W, Below w.heap.size w W → Calls Try.prog 53 #[.slice (some ⟨k, 0, none⟩) os'.length oc', .slice oa os'.length oc] W fun e w' => e = .returned (.bool true) ∧ Below W.heap.size W w') := Lib.hid fun W h => KeptTexts_any w.heap.size w.heap.size k oc' oa os'.length oc os' W (hrt.below h) (hxt.below h) h.size h.size
  unfold It.val encStr
  simp only
  generalize ps'.length = np at HS HP HT ⊢
  generalize os'.length = no at HS HP HT ⊢
  clear hx hyo hS g2 g3 g4 k2 k3 k4 hp ht hrp hrt hxp hxt hxo
  go_enter Try.func31, Try.ntmps31
  go_wp2_with (fail)
  obtain ⟨W2, hW2⟩ : ∃ W, W = (w.alloc (.cells #[.string ⟨code'.toArray⟩, .int .i64 life', .slice (some ⟨g, 0, none⟩) np pc', .slice (some ⟨k, 0, none⟩) no oc'] 32)).alloc (.cells #[.string ⟨code'.toArray⟩, .int .i64 life', .slice pa np pc, .slice oa no oc] 32) := ⟨_, rfl⟩
  rw [← hW2]
  have hs2 : W2.heap.size = w.heap.size + 2 := by rw [hW2, World.size_alloc, World.size_alloc]
  have ka : W2.heap[w.heap.size]? = some (.cells #[.string ⟨code'.toArray⟩, .int .i64 life', .slice (some ⟨g, 0, none⟩) np pc', .slice (some ⟨k, 0, none⟩) no oc'] 32) := by
    rw [hW2]
    exact (((Below.refl _ (w.alloc (.cells #[.string ⟨code'.toArray⟩, .int .i64 life', .slice (some ⟨g, 0, none⟩) np pc', .slice (some ⟨k, 0, none⟩) no oc'] 32))).alloc (Nat.le_refl _) _).block w.heap.size (by rw [World.size_alloc]; omega)).trans (heap_alloc_new _ _)
  have kb : W2.heap[w.heap.size + 1]? = some (.cells #[.string ⟨code'.toArray⟩, .int .i64 life', .slice pa np pc, .slice oa no oc] 32) := by
    rw [hW2]
    have := heap_alloc_new (w.alloc (.cells #[.string ⟨code'.toArray⟩, .int .i64 life', .slice (some ⟨g, 0, none⟩) np pc', .slice (some ⟨k, 0, none⟩) no oc'] 32)) (.cells #[.string ⟨code'.toArray⟩, .int .i64 life', .slice pa np pc, .slice oa no oc] 32)
    rw [World.size_alloc] at this
    exact this
  have hb2 : Below w.heap.size w W2 := by rw [hW2]; exact ((Below.refl _ w).alloc (Nat.le_refl _) _).alloc (by rw [World.size_alloc]; omega) _
  clear hW2
  go_at_call 32
  refine (HS.out _ hb2).mono ?_
  rintro e W3 ⟨rfl, hb3⟩
  have la := (hb3.block w.heap.size (by omega)).trans ka
  have lb := (hb3.block (w.heap.size + 1) (by omega)).trans kb
  have hb3' : Below w.heap.size w W3 := hb2.trans (hb3.mono (by omega))
  have pa2 : W3.cell? ⟨w.heap.size, 2, none⟩ = some (.slice (some ⟨g, 0, none⟩) np pc') := by unfold World.cell?; rw [la]; rfl
  have pa3 : W3.cell? ⟨w.heap.size, 3, none⟩ = some (.slice (some ⟨k, 0, none⟩) no oc') := by unfold World.cell?; rw [la]; rfl
  have pb2 : W3.cell? ⟨w.heap.size + 1, 2, none⟩ = some (.slice pa np pc) := by unfold World.cell?; rw [lb]; rfl
  have pb3 : W3.cell? ⟨w.heap.size + 1, 3, none⟩ = some (.slice oa no oc) := by unfold World.cell?; rw [lb]; rfl
  have hz3 := hb3.size
  clear hb3 hb2 ka kb
  have HB3 := Lib.hid hb3'
  have LA := Lib.hid la
  have LB := Lib.hid lb
  clear hb3' la lb
  go_wp2_with (fail)
  go_at_call 52
  refine (HP.out _ HB3.out).mono ?_
  rintro e W4 ⟨rfl, hb4⟩
  have ma := (hb4.block w.heap.size (by omega)).trans LA.out
  have mb := (hb4.block (w.heap.size + 1) (by omega)).trans LB.out
  have hb4' : Below w.heap.size w W4 := HB3.out.trans (hb4.mono (by omega))
  have qa2 : W4.cell? ⟨w.heap.size, 2, none⟩ = some (.slice (some ⟨g, 0, none⟩) np pc') := by unfold World.cell?; rw [ma]; rfl
  have qa3 : W4.cell? ⟨w.heap.size, 3, none⟩ = some (.slice (some ⟨k, 0, none⟩) no oc') := by unfold World.cell?; rw [ma]; rfl
  have qb2 : W4.cell? ⟨w.heap.size + 1, 2, none⟩ = some (.slice pa np pc) := by unfold World.cell?; rw [mb]; rfl
  have qb3 : W4.cell? ⟨w.heap.size + 1, 3, none⟩ = some (.slice oa no oc) := by unfold World.cell?; rw [mb]; rfl
  clear hb4 pa2 pa3 pb2 pb3
  have HB4 := Lib.hid hb4'
  clear hb4' ma mb
  go_wp2_with (fail)
  go_at_call 53
  refine (HT.out _ HB4.out).mono ?_
  rintro e W5 ⟨rfl, hb5⟩
  have HB5 := Lib.hid (HB4.out.trans (hb5.mono HB4.out.size))
  clear hb5
  go_wp2_with (fail)
  go_ret
  exact ⟨rfl, HB5.out⟩
end Go.Proofs.Ythlmnoggeggpkaa
