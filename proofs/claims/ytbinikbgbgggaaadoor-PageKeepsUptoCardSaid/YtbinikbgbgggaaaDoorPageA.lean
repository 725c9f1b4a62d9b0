/- The walks of page.key, page.value, bytes.Compare, bytes.Equal. -/
import Derived.Test.YtbinikbgbgggaaaDoorBytes
namespace Go.Proofs.YtbinikbgbgggaaaDoor
open Go.RowKit

set_option maxHeartbeats 1000000 in
theorem key_any (B : Nat) (a : Option Addr) (n c : Nat) (l : List UInt8) (i k : Nat) (w : World) (hp : RB B w a n c l) (hk : bt l i = k) (hi : i + 2 + k ≤ n) :
    Calls Tryd.prog 50 #[.slice a n c, .int .i64 i] w fun e w' => RetB B w ((l.drop (i + 2)).take k) e ∧ w = w' := by
  have hle := hp.le; have hmx := hp.mx; have hlm := hp.lm
  obtain ⟨b, o, rfl, hB, hcell⟩ := hp.at_ (by omega)
  have g := hcell i (by omega)
  have hb := bt_bd l i
  rw [hk] at g hb
  clear hcell hk
  have hs := hp.sub (i + 2) k hi
  go_enter Tryd.func50, Tryd.ntmps50
  go_wp2
  · go_ret
    obtain rfl : k = 0 := by omega
    exact ⟨⟨_, _, _, rfl, by simpa using RB.emp _⟩, rfl⟩
  · go_ret
    exact ⟨⟨_, _, _, rfl, hs⟩, rfl⟩

set_option maxHeartbeats 1000000 in
/-- .. of a key that has bytes: just which slice. -/
theorem key_pos (B : Nat) (b o n c : Nat) (l : List UInt8) (i k : Nat) (w : World) (hp : RB B w (some ⟨b, o, none⟩) n c l) (hk : bt l i = k) (hi : i + 2 + k ≤ n) (h1 : 1 ≤ k) :
    Calls Tryd.prog 50 #[.slice (some ⟨b, o, none⟩) n c, .int .i64 i] w fun e w' => e = .returned (.slice (some ⟨b, o + (i + 2), none⟩) k (c - (i + 2))) ∧ w = w' := by
  have hle := hp.le; have hmx := hp.mx; have hlm := hp.lm
  obtain ⟨b', o', he, hB, hcell⟩ := hp.at_ (by omega)
  cases he
  have g := hcell i (by omega)
  have hb := bt_bd l i
  rw [hk] at g hb
  clear hcell hk
  have hne : ¬ c = i + 2 := by omega
  go_enter Tryd.func50, Tryd.ntmps50
  go_wp2
  go_ret
  refine ⟨?_, rfl⟩
  show Ending.returned (.slice _ (i + 2 + k - (i + 2)) _) = _
  rw [Nat.add_sub_cancel_left]

set_option maxHeartbeats 1000000 in
theorem value_any (B : Nat) (a : Option Addr) (n c : Nat) (l : List UInt8) (i k j : Nat) (w : World) (hp : RB B w a n c l) (hk : bt l i = k) (hi : i + 2 + k ≤ j) (hj : j ≤ n) :
    Calls Tryd.prog 31 #[.slice a n c, .int .i64 i, .int .i64 j] w fun e w' => RetB B w ((l.drop (i + 2 + k)).take (j - (i + 2 + k))) e ∧ w = w' := by
  have hle := hp.le; have hmx := hp.mx; have hlm := hp.lm
  obtain ⟨b, o, rfl, hB, hcell⟩ := hp.at_ (by omega)
  have g := hcell i (by omega)
  have hb := bt_bd l i
  rw [hk] at g hb
  clear hcell hk
  have hs := hp.sub (i + 2 + k) (j - (i + 2 + k)) (by omega)
  go_enter Tryd.func31, Tryd.ntmps31
  go_wp2
  · go_ret
    obtain rfl : j = i + 2 + k := by omega
    exact ⟨⟨_, _, _, rfl, by simpa using RB.emp _⟩, rfl⟩
  · go_ret
    exact ⟨⟨_, _, _, rfl, hs⟩, rfl⟩

set_option maxHeartbeats 1000000 in
/-- .. of a value that has bytes: just which slice. -/
theorem value_pos (B : Nat) (b o n c : Nat) (l : List UInt8) (i k j : Nat) (w : World) (hp : RB B w (some ⟨b, o, none⟩) n c l) (hk : bt l i = k) (hi : i + 2 + k < j) (hj : j ≤ n) :
    Calls Tryd.prog 31 #[.slice (some ⟨b, o, none⟩) n c, .int .i64 i, .int .i64 j] w fun e w' => e = .returned (.slice (some ⟨b, o + (i + 2 + k), none⟩) (j - (i + 2 + k)) (c - (i + 2 + k))) ∧ w = w' := by
  have hle := hp.le; have hmx := hp.mx; have hlm := hp.lm
  obtain ⟨b', o', he, hB, hcell⟩ := hp.at_ (by omega)
  cases he
  have g := hcell i (by omega)
  have hb := bt_bd l i
  rw [hk] at g hb
  clear hcell hk
  have hne : ¬ c = i + 2 + k := by omega
  go_enter Tryd.func31, Tryd.ntmps31
  go_wp2
  go_ret
  exact ⟨rfl, rfl⟩

theorem beq_toList (l k : List UInt8) : ((ByteArray.mk l.toArray).toList == (ByteArray.mk k.toArray).toList) = eqB l k := by
  simp only [ByteArray.toList_mk]
  by_cases h : l = k
  · subst h; simp [eqB_self]
  · rw [eqB_ne h]; simpa using h

set_option maxHeartbeats 1000000 in
theorem Equal_any (B C : Nat) (a b : Option Addr) (n c m d : Nat) (l k : List UInt8) (w : World) (hl : RB B w a n c l) (hk : RB C w b m d k) :
    Calls Tryd.prog 30 #[.slice a n c, .slice b m d] w fun e w' => e = .returned (.bool (eqB l k)) ∧ w = w' := by
  have k1 := run_conv (P := Tryd.prog) hl 23 5 9 Tryd.underlying23 Tryd.underlying5 Tryd.underlying9
  have k2 := run_conv (P := Tryd.prog) hk 23 5 9 Tryd.underlying23 Tryd.underlying5 Tryd.underlying9
  have k3 := beq_toList l k
  obtain ⟨sl, hsl⟩ : ∃ s, s = ByteArray.mk l.toArray := ⟨_, rfl⟩
  obtain ⟨sk, hsk⟩ : ∃ s, s = ByteArray.mk k.toArray := ⟨_, rfl⟩
  rw [← hsl] at k1 k3
  rw [← hsk] at k2 k3
  clear hsl hsk
  go_enter Tryd.func30, Tryd.ntmps30
  go_wp2
  go_ret
  exact ⟨rfl, rfl⟩

set_option maxHeartbeats 1000000 in
theorem Compare_any (B C : Nat) (a b : Option Addr) (n c m d : Nat) (l k : List UInt8) (w : World) (hl : RB B w a n c l) (hk : RB C w b m d k) :
    Calls Tryd.prog 49 #[.slice a n c, .slice b m d] w fun e w' => e = .returned (.int .i64 (Lib.compareBytes l k)) ∧ w = w' := by
  go_enter Tryd.func49, Tryd.ntmps49
  go_wp2
  rw [run_callFunc_extern Tryd.func60 (by kernel_rfl) (by kernel_rfl) (by kernel_rfl) (e := Extern.BytealgCompare.compare) (by kernel_rfl), run_compare hl hk]
  simp only [Result.andThen]
  rw [Oper.upon_value]
  go_wp2
  go_ret
  exact ⟨rfl, rfl⟩
end Go.Proofs.YtbinikbgbgggaaaDoor
