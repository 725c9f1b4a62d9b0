/- The walk of the law AmountTwo. -/
import Derived.Test.YtfonejlbiojjjaaGreatJAwake
import Derived.WalkArith
namespace Go.Proofs.YtfonejlbiojjjaaGreat
open Go.RowKit

theorem wf_in {a : Int} (h : (Lit.int .i64 a).wf = true) : -9223372036854775808 ≤ a ∧ a ≤ 9223372036854775807 := by
  simpa [Lit.wf, IntKind.min, IntKind.max, IntKind.signed, IntKind.bits] using h

set_option maxHeartbeats 4000000 in
theorem Two_any (a b : Int) (w : World) (ha : -9223372036854775808 ≤ a ∧ a ≤ 9223372036854775807) (hb : -9223372036854775808 ≤ b ∧ b ≤ 9223372036854775807) :
    Calls Tryz.prog 14 #[.int .i64 a, .int .i64 b] w fun e w' => e = .returned (.bool true) ∧ Below w.heap.size w w' := by
  have h1 := fun W => Add_any a b W ha hb
  have h2 := fun W => rAdd_any a b W ha hb
  have h3 := fun W => Times_any a b W
  have h4 := fun W => rTimes_any a b W
  have h5 := fun W => Right_any a W
  have h6 := fun W => rRight_any a W
  have h7 := awake_any
  generalize ansV (addA a b) = x1 at h1 h2
  generalize (addA a b).isSome = o1 at h1 h2
  generalize ansV (timesA a b) = x2 at h3 h4
  generalize (timesA a b).isSome = o2 at h3 h4
  generalize okA a = o3 at h5 h6
  go_enter Tryz.func14, Tryz.ntmps14
  go_wp2_with (first | (go_at_call 18; refine (h1 _).mono ?_; rintro e w1 ⟨rfl, hb1⟩) | (go_at_call 25; refine (h2 _).mono ?_; rintro e w' ⟨rfl, rfl⟩) | (go_at_call 16; refine (h3 _).mono ?_; rintro e w' ⟨rfl, rfl⟩) | (go_at_call 28; refine (h4 _).mono ?_; rintro e w' ⟨rfl, rfl⟩) | (go_at_call 19; refine (h5 _).mono ?_; rintro e w' ⟨rfl, rfl⟩) | (go_at_call 29; refine (h6 _).mono ?_; rintro e w' ⟨rfl, rfl⟩) | (go_at_call 6; refine (h7 _).mono ?_; rintro e w2 ⟨rfl, hb2⟩))
  go_ret
  exact ⟨rfl, hb1.trans (hb2.mono hb1.size)⟩
end Go.Proofs.YtfonejlbiojjjaaGreat
