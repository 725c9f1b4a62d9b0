/- slices.SortedFunc over a map's keys, by strings.Compare. -/
import Derived.Test.YthlmnoggeggpkaaJSort
import Derived.Test.YthlmnoggeggpkaaKMap
import Derived.Sort.OwnSorted
import Derived.Sort.KeysCollected
import Derived.Shelf.SlIter.Collect
namespace Go.Proofs.Ythlmnoggeggpkaa
open Go.RowKit Go.Shelf Go.Sort Go.Lib Go.Maps

theorem ltS (x y : List UInt8) : ltOf compareBytes x y = decide (x < y) := cfP_lt (x, 0) (y, 0)
theorem swoS : SWO (ltOf compareBytes) where
  irrefl x := by rw [ltS]; exact decide_eq_false (List.lt_irrefl _)
  trans x y z h1 h2 := by
    rw [ltS] at *
    exact decide_eq_true (List.lt_trans (of_decide_eq_true h1) (of_decide_eq_true h2))
  ntrans x y z h1 h2 := by
    rw [ltS] at *
    have e1 := List.not_lt.1 (of_decide_eq_false h1)
    have e2 := List.not_lt.1 (of_decide_eq_false h2)
    exact decide_eq_false (List.not_lt.2 (List.le_trans e2 e1))
theorem leS : (fun x y : List UInt8 => !(ltOf compareBytes) y x) = fun x y => decide (x ≤ y) := by
  funext x y
  rw [ltS]
  by_cases h : y < x
  · rw [decide_eq_true h, decide_eq_false (List.not_le.2 h)]; rfl
  · rw [decide_eq_false h, decide_eq_true (List.not_lt.1 h)]; rfl
instance : Inhabited (List UInt8) := ⟨[]⟩
/-- Own texts, sorted. -/
theorem sortS_any (base : Nat) (v : Value) (ss : List (List UInt8)) (w : World) (h : w.ownsRow base 9 1 v ss.length (ss.map encStr)) (hl : ss.length < 4611686018427387904) (hb : base ≤ w.heap.size) :
    Calls Try.prog 55 #[v, .func (.func 38) #[] #[]] w fun e w' => e = .returned (.tuple #[]) ∧ w'.ownsRow base 9 1 v ss.length ((ss.mergeSort fun x y => decide (x ≤ y)).map encStr) ∧ Below base w w' := by
  obtain ⟨h1, ⟨rfl, h0⟩ | ⟨g, cap, cur, rfl, hg, hh, hle, hcap, hsz, htk⟩⟩ := id h
  · have : ss = [] := List.eq_nil_of_length_eq_zero h0
    subst this
    refine (Try.slices_SortFunc_none (α := List UInt8) none 0 _ w).mono ?_
    rintro e w' ⟨he, rfl⟩
    exact ⟨he, by simpa using h, Below.refl _ _⟩
  · have eg : ∀ args w, (callFunc 38 args).run Try.prog w = .ok (.enter 38 args) w := enters_of Try.func38 (by kernel_rfl) rfl
    have hlt := (Array.getElem?_eq_some_iff.1 hh).1
    have hcmp : CmpLays1 Try.prog 38 #[] encStr compareBytes g 0 ss.toArray.size w := CmpReads.lays fun m os dk _ x y => (Try.strings_Compare ⟨x.toArray⟩ ⟨y.toArray⟩ _).mono fun e w' ⟨he, hw⟩ => ⟨he, 0, hw⟩
    have hH : Holds encStr w g 0 ss.toArray := holds_of_block hh (by rw [← htk, Nat.mul_one])
    have hc := Try.slices_SortFunc_total encStr (fun _ => rfl) compareBytes swoS 38 #[] g 0 cap ss.toArray w eg hcmp hH hlt (by simpa using hl) (fun x y h1 h2 => by
      rw [ltS] at h1 h2
      exact List.le_antisymm (List.not_lt.1 (of_decide_eq_false h2)) (List.not_lt.1 (of_decide_eq_false h1)))
    simp only [List.size_toArray] at hc
    refine hc.mono ?_
    rintro e w' ⟨he, n, os, rfl⟩
    rw [leS]
    refine ⟨he, ?_, ?_⟩
    · exact ownsRow_sorted (by simp) hg hh hle hcap hsz
    · exact (Below.refl base w).grown (grownBy_sorted _) hb (fun k e => by have := Option.some.inj e; omega)
set_option maxHeartbeats 1000000 in
/-- SortedFunc at an iterator over a map's keys. -/
theorem sortedF_any (b nn : Nat) (D : DataW Value) (w : World) (hown : w.ownsMap Try.prog 9 RVal b nn D) (hmax : Maps.size D ≤ 100000) :
    Calls Try.prog 36 #[.func (.func 56) #[] #[.pointer (some ⟨w.heap.size, 0, none⟩)], .func (.func 38) #[] #[]] (w.alloc (.cells #[.map (some b)] 55)) fun e w' => ∃ (v : Value) (ss : List (List UInt8)), e = .returned v ∧ ss.Perm (strKeys D) ∧
      w'.ownsRow (w.heap.size + 1) 9 1 v ss.length ((ss.mergeSort (fun x y => decide (x ≤ y))).map encStr) ∧ Below (w.heap.size + 1) (w.alloc (.cells #[.map (some b)] 55)) w' := by
  have hbl := hown.lt
  have hseq : SeqGives Fence.wide 2 Try.prog 56 #[.pointer (some ⟨w.heap.size, 0, none⟩)] encStr (fun ss => ss.Perm (strKeys D)) (Maps.size D) (w.alloc (.cells #[.map (some b)] 55)) :=
    AnyZ.keys_gives (ρ := Try.keysP_ren) { Try.keysP with } Fence.wide _ trivial rfl (by omega) w.heap.size b nn D _ (by simp) (by simp) (by
      obtain ⟨es, clock, hb, Ft, hs, hD⟩ := hown
      exact ⟨es, clock, (Below.heap_alloc _ _ b hbl).trans hb, Ft, hs, hD⟩)
  have hcol := callsIn_wide.1 (AnyZ.collect_in Try.collectP Fence.wide 4 trivial trivial rfl (by omega) 56 #[.pointer (some ⟨w.heap.size, 0, none⟩)] trivial (enters_of Try.func56 (by kernel_rfl) rfl) _ (Maps.size D) (by simp only [maxLen]; omega) (by omega) (w.alloc (.cells #[.map (some b)] 55)) hseq)
  have hc : Calls Try.prog 54 #[.func (.func 56) #[] #[.pointer (some ⟨w.heap.size, 0, none⟩)]] (w.alloc (.cells #[.map (some b)] 55)) fun e w' => ∃ (v : Value) (ss : List (List UInt8)), e = .returned v ∧ ss.Perm (strKeys D) ∧ w'.ownsRow (w.heap.size + 1) 9 1 v ss.length (ss.map encStr) ∧ Below (w.heap.size + 1) (w.alloc (.cells #[.map (some b)] 55)) w' := by
    refine hcol.mono ?_
    rintro e w' ⟨v, ss, he, hS, hrow, -, hb⟩
    rw [World.size_alloc] at hrow hb
    exact ⟨v, ss, he, hS, hrow, hb⟩
  have HC := Lib.hid hc
  have hlen : ∀ ss : List (List UInt8), ss.Perm (strKeys D) → ss.length < 4611686018427387904 := fun ss hp => by
    have h1 := hp.length_eq
    obtain ⟨es, rfl⟩ := hown.isMap
    simp only [strKeys, List.length_map, Maps.size] at h1 hmax
    omega
  have HLN := Lib.hid hlen
  clear hcol hseq hc hlen
  obtain ⟨W1, hW1⟩ : ∃ W, W = w.alloc (.cells #[.map (some b)] 55) := ⟨_, rfl⟩
  have hs1 : W1.heap.size = w.heap.size + 1 := by rw [hW1, World.size_alloc]
  rw [← hW1] at HC ⊢
  clear hW1
  obtain ⟨g, hg⟩ : ∃ g, g = w.heap.size := ⟨_, rfl⟩
  rw [← hg] at HC hs1 ⊢
  have HS1 := Lib.hid hs1
  clear hs1 hg hown hmax hbl
  go_enter Try.func36, Try.ntmps36
  go_wp2_with (fail)
  go_at_call 54
  refine HC.out.mono ?_
  rintro e w2 ⟨v, ss, rfl, hp, hrow, hb⟩
  have HS := Lib.hid (sortS_any (g + 1) v ss w2 hrow (HLN.out ss hp) (by rw [← HS1.out]; exact hb.size))
  have HP := Lib.hid hp
  have HB := Lib.hid hb
  clear hp hrow hb
  go_wp2_with (fail)
  go_at_call 55
  refine HS.out.mono ?_
  rintro e w3 ⟨rfl, hrow, hb⟩
  have HR := Lib.hid hrow
  have HB3 := Lib.hid (HB.out.trans hb)
  clear hrow hb HS
  go_wp2_with (fail)
  go_ret
  exact ⟨v, ss, rfl, HP.out, HR.out, HB3.out⟩
end Go.Proofs.Ythlmnoggeggpkaa
