/- Marked texts of any list and place. -/
import Derived.Test.YthlmnoggeggpkaaGreatKMark
namespace Go.Proofs.YthlmnoggeggpkaaGreat
open Go.RowKit

def b8 (x : Nat) : UInt8 := UInt8.ofNat (x % 256)
theorem b8_nat (x : Nat) : ((b8 x).toNat : Int) = (x : Int) % 256 := by
  unfold b8
  rw [UInt8.toNat_ofNat']
  omega
/-- The mark of a place in a list of texts. -/
def mkT (k i : Nat) : List UInt8 := [35, b8 k, b8 (k / 256), b8 (k / 65536), 47, b8 i, b8 (i / 256), b8 (i / 65536)]
theorem mkT_len (k i : Nat) : (mkT k i).length = 8 := rfl
set_option maxHeartbeats 4000000 in
set_option maxRecDepth 100000 in
theorem markT_any (k i : Nat) (w : World) (hk : k ≤ 1000000000) (hi : i ≤ 1000000000) :
    Calls Tryz.prog 94 #[.int .i64 (k : Int), .int .i64 (i : Int)] w fun e w' => e = .returned (.string ⟨(mkT k i).toArray⟩) ∧ Below w.heap.size w w' := by
  have HB := Lib.hid (fun c : Array Value => (Below.refl w.heap.size w).alloc (Nat.le_refl _) (.cells c 5))
  have hcv : (convert 48 9 (.slice (some ⟨w.heap.size, 0, none⟩) 8 8)).run Tryz.prog (w.alloc (.cells #[.int .u8 35, .int .u8 ((k : Int) % 256), .int .u8 ((k : Int) / 256 % 256), .int .u8 ((k : Int) / 65536 % 256), .int .u8 47, .int .u8 ((i : Int) % 256), .int .u8 ((i : Int) / 256 % 256), .int .u8 ((i : Int) / 65536 % 256)] 5)) = .ok (.string ⟨#[35, b8 k, b8 (k / 256), b8 (k / 65536), 47, b8 i, b8 (i / 256), b8 (i / 65536)]⟩) (w.alloc (.cells #[.int .u8 35, .int .u8 ((k : Int) % 256), .int .u8 ((k : Int) / 256 % 256), .int .u8 ((k : Int) / 65536 % 256), .int .u8 47, .int .u8 ((i : Int) % 256), .int .u8 ((i : Int) / 256 % 256), .int .u8 ((i : Int) / 65536 % 256)] 5)) := by
    have h := conv8 w 35 (b8 k) (b8 (k / 256)) (b8 (k / 65536)) 47 (b8 i) (b8 (i / 256)) (b8 (i / 65536))
    rw [b8_nat, b8_nat, b8_nat, b8_nat, b8_nat, b8_nat, Int.natCast_ediv, Int.natCast_ediv, Int.natCast_ediv, Int.natCast_ediv] at h
    exact h
  go_enter Tryz.func94, Tryz.ntmps94
  go_wp2_with (fail)
  go_ret
  exact ⟨rfl, HB.out _⟩
end Go.Proofs.YthlmnoggeggpkaaGreat
