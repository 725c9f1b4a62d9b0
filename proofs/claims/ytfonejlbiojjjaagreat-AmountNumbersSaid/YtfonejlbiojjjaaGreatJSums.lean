/- The walks of the document's Sum and of the law AmountSums. -/
import Derived.Test.YtfonejlbiojjjaaGreatJAwake
import Derived.Test.YtfonejlbiojjjaaGreatJLentB
import Derived.Test.YtfonejlbiojjjaaGreatJKept
namespace Go.Proofs.YtfonejlbiojjjaaGreat
open Go.RowKit

theorem sumL_take' {L : List Int} {i : Nat} {m : Int} (h : i < L.length) (hm : 0 ≤ m ∧ m ≤ 1125899906842624) : sumL m (L.drop i) = match addA m (L.getD i 0) with | some k => sumL k (L.drop (i + 1)) | none => none := by
  rw [sumL_take h]
  have hk := okA_iff.2 hm
  unfold addA
  rw [hk, Bool.true_and]
  split <;> rfl

set_option maxHeartbeats 2000000 in
theorem rSum_any (B : Nat) (a : Option Addr) (n c : Nat) (L : List Int) (w : World) (hl : RL B w a n c L) :
    Calls Tryz.prog 31 #[.slice a n c] w fun e w' => e = .returned (.tuple #[.int .i64 (ansV (sumL 0 L)), .bool (sumL 0 L).isSome]) ∧ w = w' := by
  have hle := hl.le; have hmx := hl.mx; have hln := hl.len
  have Hwf := Lib.hid hl.wf
  have Hln := Lib.hid hln; clear hln
  obtain ⟨T, hT⟩ : ∃ T, T = sumL 0 L := ⟨_, rfl⟩
  rw [← hT]
  have HT := Lib.hid hT
  clear hT
  go_enter Tryz.func31, Tryz.ntmps31
  go_wp2
  go_loop [4, 5] (fun t s => ∃ (m : Int) (i : Nat), t = .int .i64 m ∧ s = .int .i64 i ∧ i ≤ n ∧ 0 ≤ m ∧ m ≤ 1125899906842624 ∧ Hid (T = sumL m (L.drop i))) (fun _ s => n - (intOf s).toNat)
  case atStart => exact ⟨0, 0, rfl, rfl, by omega, by omega, by omega, HT⟩
  case round =>
    obtain ⟨m, i, rfl, rfl, hi, h0, h1, ht⟩ := hrel
    by_cases hin : i < n
    · obtain ⟨b, o, rfl, hB, hc⟩ := hl.at_ (by omega)
      have g := hc i hin
      clear hc
      have hx := Hwf.out (L.getD i 0) (by rw [List.getD_eq_getElem?_getD, List.getElem?_eq_getElem (by have := Hln.out; omega)]; exact List.getElem_mem (by have := Hln.out; omega))
      have hs := sumL_take' (L := L) (i := i) (m := m) (by have := Hln.out; omega) ⟨h0, h1⟩
      rw [← ht.out] at hs
      have HS := Lib.hid hs
      clear hs
      obtain ⟨x, hxe⟩ : ∃ x, x = L.getD i 0 := ⟨_, rfl⟩
      rw [← hxe] at g hx HS
      clear hxe
      have hr := fun w => rAdd_any m x w (by omega) hx
      obtain ⟨A, hA⟩ : ∃ A, A = addA m x := ⟨_, rfl⟩
      rw [← hA] at hr HS
      cases A with
      | none =>
        simp only [ansV, Option.isSome_none] at hr
        clear hA
        go_wp2_with (go_at_call 25; refine (hr _).mono ?_; rintro e w' ⟨rfl, rfl⟩)
        go_ret2
        rw [HS.out]
        exact ⟨rfl, rfl⟩
      | some k =>
        simp only [ansV, Option.isSome_some] at hr
        have hk := okA_iff.1 (addA_some hA.symm).2.2.1
        clear hA
        go_wp2_with (go_at_call 25; refine (hr _).mono ?_; rintro e w' ⟨rfl, rfl⟩)
        go_round
        case rel => exact ⟨k, i + 1, rfl, rfl, by omega, hk.1, hk.2, Lib.hid HS.out⟩
        case measure => simp [intOf]; omega
    · go_wp2_with (fail)
      go_ret2
      have e : i = L.length := by have := Hln.out; omega
      rw [ht.out, e, List.drop_length]
      exact ⟨rfl, rfl⟩

theorem lentT_in : ∀ x ∈ lentT, -9223372036854775808 ≤ x ∧ x ≤ 9223372036854775807 := by
  intro x hx
  obtain ⟨i, hi, rfl⟩ := List.mem_map.1 hx
  have := markN_bd 1 i (by omega) (by have := List.mem_range.1 hi; omega)
  omega

set_option maxHeartbeats 4000000 in
theorem Sums_any (a : Option Addr) (n c : Nat) (L : List Int) (w : World) (hl : RL w.heap.size w a n c L) :
    Calls Tryz.prog 15 #[.slice a n c] w fun e w' => e = .returned (.bool true) ∧ Below w.heap.size w w' := by
  have hle := hl.le; have hmx := hl.mx
  have h0 := awake_any
  by_cases hn : 300 < n
  · go_enter Tryz.func15, Tryz.ntmps15
    go_wp2_with (go_at_call 6; refine (h0 _).mono ?_; rintro e w1 ⟨rfl, hb1⟩)
    go_ret
    exact ⟨rfl, hb1⟩
  · have h1 := LentLongs_any _ a n c L w hl (Nat.le_refl _) (by omega)
    have H1 := Lib.hid h1
    have Hln := Lib.hid hl.len
    have Hl := Lib.hid hl
    clear h1
    obtain ⟨x, hx⟩ : ∃ x, x = ansV (sumL 0 L) := ⟨_, rfl⟩
    obtain ⟨ok, hok⟩ : ∃ ok, ok = (sumL 0 L).isSome := ⟨_, rfl⟩
    have Hx := Lib.hid hx
    have Hok := Lib.hid hok
    clear hx hok hl
    go_enter Tryz.func15, Tryz.ntmps15
    go_wp2_with (go_at_call 30; refine H1.out.mono ?_; rintro e w1 ⟨⟨g, c', rfl, hc', ho1⟩, hb1⟩)
    have hwf : ∀ y ∈ L ++ lentT, -9223372036854775808 ≤ y ∧ y ≤ 9223372036854775807 := fun y hy => by
      rcases List.mem_append.1 hy with hy | hy
      · exact Hl.out.wf y hy
      · exact lentT_in y hy
    have r1 := (ho1.rl hwf n (by omega)).1
    have r2 := (ho1.rl hwf (n + 12) (Nat.le_refl _)).1
    rw [show (L ++ lentT).take n = L by rw [Hln.out, List.take_left]] at r1
    rw [List.take_of_length_le (by rw [List.length_append, lentT_len]; have := Hln.out; omega)] at r2
    have r3 := Hl.out.below hb1
    have HS : Hid (Calls Tryz.prog 17 #[.slice (some ⟨g, 0, none⟩) n c'] w1 fun e w' => e = .returned (.tuple #[.int .i64 x, .bool ok]) ∧ w1 = w') := Lib.hid (by rw [Hx.out, Hok.out]; exact Sum_any _ _ _ _ _ _ r1)
    have HR : Hid (Calls Tryz.prog 31 #[.slice a n c] w1 fun e w' => e = .returned (.tuple #[.int .i64 x, .bool ok]) ∧ w1 = w') := Lib.hid (by rw [Hx.out, Hok.out]; exact rSum_any _ _ _ _ _ _ r3)
    have HK := Lib.hid (KeptLongs_any _ _ g c' a n c L w1 r2 r3)
    have Hb1 := Lib.hid hb1
    clear ho1 r1 r2 r3 hwf hb1 Hx Hok
    go_wp2_with (first | (go_at_call 17; refine HS.out.mono ?_; rintro e w' ⟨rfl, rfl⟩) | (go_at_call 31; refine HR.out.mono ?_; rintro e w' ⟨rfl, rfl⟩) | (go_at_call 32; refine HK.out.mono ?_; rintro e w' ⟨rfl, q, rfl⟩) | (go_at_call 6; refine (h0 _).mono ?_; rintro e w2 ⟨rfl, hb2⟩))
    go_ret
    have hq : Below w.heap.size w (w1.drewN q) := Hb1.out.trans ⟨rfl, rfl, rfl, Nat.le_refl _, fun _ _ => rfl⟩
    exact ⟨rfl, hq.trans (hb2.mono hq.size)⟩
end Go.Proofs.YtfonejlbiojjjaaGreat
