/- The walks of the small functions of storemankit. -/
import Derived.Test.YtbinikbgbgggaaaGreatDoorBytes
namespace Go.Proofs.YtbinikbgbgggaaaGreatDoor
open Go.RowKit

theorem take_eq_succ {l m : List UInt8} {k : Nat} (hk : k < l.length) (hk2 : k < m.length) (h : l.take k = m.take k) (he : l.getD k 0 = m.getD k 0) : l.take (k+1) = m.take (k+1) := by
  rw [List.take_succ_eq_append_getElem hk, List.take_succ_eq_append_getElem hk2, h]
  simp only [List.getD, List.getElem?_eq_getElem hk, List.getElem?_eq_getElem hk2, Option.getD_some] at he
  rw [he]

set_option maxHeartbeats 1000000 in
theorem SameBytes_any (B : Nat) (a b : Option Addr) (n c m d : Nat) (l k : List UInt8) (w : World) (hl : RB B w a n c l) (hk : RB B w b m d k) :
    Calls Tryz.prog 24 #[.slice a n c, .slice b m d] w fun e w' => e = .returned (.bool (eqB l k)) ∧ ∃ q, w' = w.drewN q := by
  have hn := hl.le
  have hcm := hl.mx
  have hm := hk.le
  have hdm := hk.mx
  have hln := hl.len
  have hkm := hk.len
  by_cases hne : n = m
  · subst hne
    have hbne : ((n : Int) != (n : Int)) = false := by simp
    have Hln := Lib.hid hln; have Hkm := Lib.hid hkm; clear hln hkm
    go_enter Tryz.func24, Tryz.ntmps24
    go_wp2
    go_loopw [5] (fun i wr => ∃ j : Nat, j ≤ n ∧ i = .int .i64 j ∧ Hid (l.take j = k.take j) ∧ ∃ q, wr = w.drewN q) (fun i _ => n - (intOf i).toNat)
    case atStart => exact ⟨0, Nat.zero_le _, rfl, rfl, 0, rfl⟩
    case round =>
      obtain ⟨j, hj, rfl, ht, q, rfl⟩ := hrel
      by_cases hlt : j < n
      · obtain ⟨b1, o1, rfl, -, hc1⟩ := hl.at_ (by omega)
        obtain ⟨b2, o2, rfl, -, hc2⟩ := hk.at_ (by omega)
        have g1 := hc1 j hlt
        have g2 := hc2 j hlt
        clear hc1 hc2
        go_wp2
        go_quiet (fail)
        go_wp2
        · go_ret
          have e : bt l j ≠ bt k j := by simpa using ‹(bt l j != bt k j) = true›
          have : l ≠ k := fun h => e (by rw [h])
          exact ⟨congrArg (fun x => Ending.returned (.bool x)) (eqB_ne this).symm, _, World.drewN_drewN _ _ _⟩
        · go_roundw
          case rel =>
            have e : bt l j = bt k j := by simpa using ‹(bt l j != bt k j) = false›
            exact ⟨j + 1, by omega, by go_num, take_eq_succ (by rw [← Hln.out]; exact hlt) (by rw [← Hkm.out]; exact hlt) ht.out (bt_inj e), _, rfl⟩
          case measure => simp [intOf]; omega
      · have hge : n ≤ j := by omega
        go_wp2
        go_ret
        have : l = k := by
          have := ht.out
          rwa [List.take_of_length_le (by rw [← Hln.out]; exact hge), List.take_of_length_le (by rw [← Hkm.out]; exact hge)] at this
        exact ⟨congrArg (fun x => Ending.returned (.bool x)) (by rw [this, eqB_self]), _, rfl⟩
  · have hbne : ((n : Int) != (m : Int)) = true := by simp; omega
    have hlk : l ≠ k := fun h => hne (by rw [hln, hkm, h])
    clear hln hkm
    go_enter Tryz.func24, Tryz.ntmps24
    go_wp2
    go_ret
    exact ⟨congrArg (fun x => Ending.returned (.bool x)) (eqB_ne hlk).symm, 0, rfl⟩
end Go.Proofs.YtbinikbgbgggaaaGreatDoor
