/- storeman/kit.Check, kit.Deep: their walks. -/
import Derived.Test.YthlmnoggeggpkaaKCheck
namespace Go.Proofs.Ythlmnoggeggpkaa
open Go.RowKit

set_option maxRecDepth 100000 in
theorem Check_any (B : Nat) (a : Option Addr) (n cp : Nat) (X : List It) (w : World) (hr : RI B w a n cp X) (hB : B ≤ w.heap.size) :
    Calls Try.prog 9 #[.slice a n cp] w fun e w' => e = .returned (.int .i64 (chkE X)) ∧ Below w.heap.size w w' := by
  have HC := Lib.hid (check_any B a n cp X w hr hB)
  clear hr
  go_enter Try.func9, Try.ntmps9
  go_wp2_with (fail)
  go_at_call 26
  refine HC.out.mono ?_
  rintro e w' ⟨hb, am, dm, rfl, -⟩
  have HB := Lib.hid hb
  clear hb
  go_wp2_with (fail)
  go_ret
  exact ⟨rfl, HB.out⟩
/-- How deep an item is. -/
def deepX (X : List It) (c : List UInt8) : Int := if chkE X = 0 ∧ c ∈ codes X then (tellX X c : Int) else 0
set_option maxRecDepth 100000 in
theorem Deep_any (B : Nat) (a : Option Addr) (n cp : Nat) (X : List It) (c : List UInt8) (w : World) (hr : RI B w a n cp X) (hB : B ≤ w.heap.size) (hc : c.length ≤ 9223372036854775807) :
    Calls Try.prog 18 #[.slice a n cp, .string ⟨c.toArray⟩] w fun e w' => e = .returned (.int .i64 (deepX X c)) ∧ Below w.heap.size w w' := by
  have HC := Lib.hid (check_any B a n cp X w hr hB)
  have HCL := Lib.hid hc
  clear hr hc
  go_enter Try.func18, Try.ntmps18
  go_wp2_with (fail)
  go_at_call 26
  refine HC.out.mono ?_
  rintro e w' ⟨hb, am, dm, rfl, -, hok⟩
  have HB := Lib.hid hb
  clear hb
  by_cases h0 : chkE X = 0
  · obtain ⟨ma, mo, N, o, rfl, rfl, -, hmo, -, -, hoff, hon⟩ := hok h0
    have hlk := hmo.look Try.underlying55 (zeroInt _) c HCL.out
    have hv : o c = deepX X c := by
      unfold deepX
      by_cases hm : c ∈ codes X
      · rw [if_pos ⟨h0, hm⟩, hon c hm]
      · rw [if_neg (fun h => hm h.2), hoff c hm]
    unfold oV at hlk
    rw [hv] at hlk
    rw [h0]
    clear h0 hok hmo hoff hon hv
    go_wp2_with (fail)
    go_ret
    exact ⟨rfl, HB.out⟩
  · have hd : deepX X c = 0 := by unfold deepX; rw [if_neg (fun h => h0 h.1)]
    obtain ⟨r, hr⟩ : ∃ r, r = chkE X := ⟨_, rfl⟩
    rw [← hr] at h0 ⊢
    have e1 : (r != 0) = true := by simpa using h0
    have e2 : (r == 0) = false := by simpa using h0
    have HD := Lib.hid hd
    clear h0 hr hok hd
    go_wp2_with (fail)
    go_ret
    exact ⟨by rw [HD.out]; rfl, HB.out⟩
end Go.Proofs.Ythlmnoggeggpkaa
