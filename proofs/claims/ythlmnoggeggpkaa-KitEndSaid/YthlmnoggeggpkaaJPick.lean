/- The walk of storemankit.Pick. -/
import Derived.Test.YthlmnoggeggpkaaJBase
namespace Go.Proofs.Ythlmnoggeggpkaa
open Go.RowKit

set_option maxHeartbeats 1000000 in
theorem Pick_any (x n : Int) (w : World) (h0 : -9223372036854775808 ≤ x ∧ x ≤ 9223372036854775807) (hn : 1 ≤ n ∧ n ≤ 1000000) :
    Calls Try.prog 12 #[.int .i64 x, .int .i64 n] w fun e w' => (∃ k : Nat, (k : Int) < n ∧ e = .returned (.int .i64 k)) ∧ w = w' := by
  have hm : -n < x.tmod n ∧ x.tmod n < n := ⟨Int.lt_tmod_of_pos x (by omega), Int.tmod_lt_of_pos x (by omega)⟩
  obtain ⟨hm1, hm2⟩ := hm
  have hne : ¬ n = 0 := by omega
  have hw0 := wrap_in (x := x.tmod n) (by omega) (by omega)
  have hw1 := wrap_in (x := x.tmod n + n) (by omega) (by omega)
  obtain ⟨m, hmm⟩ : ∃ m, m = x.tmod n := ⟨_, rfl⟩
  rw [← hmm] at hm1 hm2 hw0 hw1
  have hmm' := hmm.symm
  clear hmm
  by_cases hneg : m < 0
  · have Hk := Lib.hid (show ((m + n).toNat : Int) = m + n ∧ ((m + n).toNat : Int) < n by omega)
    go_enter Try.func12, Try.ntmps12
    go_wp2
    go_ret
    exact ⟨⟨_, Hk.out.2, by rw [Hk.out.1]; rfl⟩, rfl⟩
  · have Hk := Lib.hid (show (m.toNat : Int) = m ∧ (m.toNat : Int) < n by omega)
    go_enter Try.func12, Try.ntmps12
    go_wp2
    go_ret
    exact ⟨⟨_, Hk.out.2, by rw [Hk.out.1]; rfl⟩, rfl⟩

end Go.Proofs.Ythlmnoggeggpkaa
