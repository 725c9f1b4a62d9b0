/- storemankit's flat functions at no lists: each answers true and leaves all that stood. -/
import Derived.Test.YtfonejlbiojjjaaGreatJBase
namespace Go.Proofs.YtfonejlbiojjjaaGreat
open Go.RowKit
set_option maxHeartbeats 4000000 in
set_option maxRecDepth 100000 in
theorem flatLots_nil (w : World) : Calls Tryz.prog 45 #[.slice none 0 0] w fun e w' => e = .returned (.bool true) ∧ Below w.heap.size w w' := by
  obtain ⟨i1, hi, hz0, hz1, hz2⟩ := info_parts (P := Tryz.prog) (e := 128) (z := .slice none 0 0) (size := 1) (bytes := 24) (by kernel_rfl)
  have Hi := Lib.hid hi
  have Hz0 := Lib.hid hz0
  have Hz1 := Lib.hid hz1
  have Hb0 := Lib.hid (show i1.bytes * 0 ≤ 281474976710656 by omega)
  clear hi hz0 hz1 hz2
  go_enter Tryz.func45, Tryz.ntmps45
  go_wp2_with (fail)
  go_loop [3] (fun s => s = .int .i64 0) (fun _ => 0)
  case atStart => rfl
  case round =>
    subst hrel
    go_wp2_with (refine wpList_make_full w rfl _ _ 56 rfl w.heap.size 128 i1 (.slice none 0 0) 1 Tryz.underlying56 Hi.out Hz0.out Hz1.out .i64 .i64 _ _ 0 rfl rfl rfl rfl Hb0.out (by simp only [maxLen]; omega) (Nat.le_refl _) ?_; intro w1 hown1 hg1; have HB := Lib.hid ((Below.refl w.heap.size w).grown hg1 (Nat.le_refl _) (fun b e => by cases e)); clear hown1 hg1)
    go_loop [6] (fun s => s = .int .i64 0) (fun _ => 0)
    case atStart => rfl
    case round =>
      subst hrel
      go_wp2_with (fail)
      go_loop [9] (fun s => s = .int .i64 0) (fun _ => 0)
      case atStart => rfl
      case round =>
        subst hrel
        go_wp2_with (fail)
        go_loop [11] (fun s => s = .int .i64 0) (fun _ => 0)
        case atStart => rfl
        case round =>
          subst hrel
          go_wp2_with (fail)
          go_loop [14] (fun s => s = .int .i64 0) (fun _ => 0)
          case atStart => rfl
          case round =>
            subst hrel
            go_wp2_with (fail)
            go_ret
            exact ⟨rfl, HB.out⟩

set_option maxHeartbeats 4000000 in
set_option maxRecDepth 100000 in
theorem flatWants_nil (w : World) : Calls Tryz.prog 46 #[.slice none 0 0] w fun e w' => e = .returned (.bool true) ∧ Below w.heap.size w w' := by
  obtain ⟨i1, hi, hz0, hz1, hz2⟩ := info_parts (P := Tryz.prog) (e := 132) (z := .slice none 0 0) (size := 1) (bytes := 24) (by kernel_rfl)
  have Hi := Lib.hid hi
  have Hz0 := Lib.hid hz0
  have Hz1 := Lib.hid hz1
  have Hb0 := Lib.hid (show i1.bytes * 0 ≤ 281474976710656 by omega)
  clear hi hz0 hz1 hz2
  go_enter Tryz.func46, Tryz.ntmps46
  go_wp2_with (fail)
  go_loop [3] (fun s => s = .int .i64 0) (fun _ => 0)
  case atStart => rfl
  case round =>
    subst hrel
    go_wp2_with (refine wpList_make_full w rfl _ _ 57 rfl w.heap.size 132 i1 (.slice none 0 0) 1 Tryz.underlying57 Hi.out Hz0.out Hz1.out .i64 .i64 _ _ 0 rfl rfl rfl rfl Hb0.out (by simp only [maxLen]; omega) (Nat.le_refl _) ?_; intro w1 hown1 hg1; have HB := Lib.hid ((Below.refl w.heap.size w).grown hg1 (Nat.le_refl _) (fun b e => by cases e)); clear hown1 hg1)
    go_loop [6] (fun s => s = .int .i64 0) (fun _ => 0)
    case atStart => rfl
    case round =>
      subst hrel
      go_wp2_with (fail)
      go_loop [9] (fun s => s = .int .i64 0) (fun _ => 0)
      case atStart => rfl
      case round =>
        subst hrel
        go_wp2_with (fail)
        go_loop [11] (fun s => s = .int .i64 0) (fun _ => 0)
        case atStart => rfl
        case round =>
          subst hrel
          go_wp2_with (fail)
          go_loop [14] (fun s => s = .int .i64 0) (fun _ => 0)
          case atStart => rfl
          case round =>
            subst hrel
            go_wp2_with (fail)
            go_ret
            exact ⟨rfl, HB.out⟩

set_option maxHeartbeats 4000000 in
set_option maxRecDepth 100000 in
theorem flatUses_nil (w : World) : Calls Tryz.prog 47 #[.slice none 0 0] w fun e w' => e = .returned (.bool true) ∧ Below w.heap.size w w' := by
  obtain ⟨i1, hi, hz0, hz1, hz2⟩ := info_parts (P := Tryz.prog) (e := 136) (z := .slice none 0 0) (size := 1) (bytes := 24) (by kernel_rfl)
  have Hi := Lib.hid hi
  have Hz0 := Lib.hid hz0
  have Hz1 := Lib.hid hz1
  have Hb0 := Lib.hid (show i1.bytes * 0 ≤ 281474976710656 by omega)
  clear hi hz0 hz1 hz2
  go_enter Tryz.func47, Tryz.ntmps47
  go_wp2_with (fail)
  go_loop [3] (fun s => s = .int .i64 0) (fun _ => 0)
  case atStart => rfl
  case round =>
    subst hrel
    go_wp2_with (refine wpList_make_full w rfl _ _ 58 rfl w.heap.size 136 i1 (.slice none 0 0) 1 Tryz.underlying58 Hi.out Hz0.out Hz1.out .i64 .i64 _ _ 0 rfl rfl rfl rfl Hb0.out (by simp only [maxLen]; omega) (Nat.le_refl _) ?_; intro w1 hown1 hg1; have HB := Lib.hid ((Below.refl w.heap.size w).grown hg1 (Nat.le_refl _) (fun b e => by cases e)); clear hown1 hg1)
    go_loop [6] (fun s => s = .int .i64 0) (fun _ => 0)
    case atStart => rfl
    case round =>
      subst hrel
      go_wp2_with (fail)
      go_loop [9] (fun s => s = .int .i64 0) (fun _ => 0)
      case atStart => rfl
      case round =>
        subst hrel
        go_wp2_with (fail)
        go_loop [11] (fun s => s = .int .i64 0) (fun _ => 0)
        case atStart => rfl
        case round =>
          subst hrel
          go_wp2_with (fail)
          go_loop [14] (fun s => s = .int .i64 0) (fun _ => 0)
          case atStart => rfl
          case round =>
            subst hrel
            go_wp2_with (fail)
            go_ret
            exact ⟨rfl, HB.out⟩

set_option maxHeartbeats 4000000 in
set_option maxRecDepth 100000 in
theorem flatItems_nil (w : World) : Calls Tryz.prog 49 #[.slice none 0 0] w fun e w' => e = .returned (.bool true) ∧ Below w.heap.size w w' := by
  obtain ⟨i1, hi, hz0, hz1, hz2⟩ := info_parts (P := Tryz.prog) (e := 140) (z := .slice none 0 0) (size := 1) (bytes := 24) (by kernel_rfl)
  have Hi := Lib.hid hi
  have Hz0 := Lib.hid hz0
  have Hz1 := Lib.hid hz1
  have Hb0 := Lib.hid (show i1.bytes * 0 ≤ 281474976710656 by omega)
  clear hi hz0 hz1 hz2
  go_enter Tryz.func49, Tryz.ntmps49
  go_wp2_with (fail)
  go_loop [3] (fun s => s = .int .i64 0) (fun _ => 0)
  case atStart => rfl
  case round =>
    subst hrel
    go_wp2_with (refine wpList_make_full w rfl _ _ 59 rfl w.heap.size 140 i1 (.slice none 0 0) 1 Tryz.underlying59 Hi.out Hz0.out Hz1.out .i64 .i64 _ _ 0 rfl rfl rfl rfl Hb0.out (by simp only [maxLen]; omega) (Nat.le_refl _) ?_; intro w1 hown1 hg1; have HB := Lib.hid ((Below.refl w.heap.size w).grown hg1 (Nat.le_refl _) (fun b e => by cases e)); clear hown1 hg1)
    go_loop [6] (fun s => s = .int .i64 0) (fun _ => 0)
    case atStart => rfl
    case round =>
      subst hrel
      go_wp2_with (fail)
      go_loop [9] (fun s => s = .int .i64 0) (fun _ => 0)
      case atStart => rfl
      case round =>
        subst hrel
        go_wp2_with (fail)
        go_loop [11] (fun s => s = .int .i64 0) (fun _ => 0)
        case atStart => rfl
        case round =>
          subst hrel
          go_wp2_with (fail)
          go_loop [14] (fun s => s = .int .i64 0) (fun _ => 0)
          case atStart => rfl
          case round =>
            subst hrel
            go_wp2_with (fail)
            go_ret
            exact ⟨rfl, HB.out⟩

set_option maxHeartbeats 4000000 in
set_option maxRecDepth 100000 in
theorem flatLines_nil (w : World) : Calls Tryz.prog 50 #[.slice none 0 0] w fun e w' => e = .returned (.bool true) ∧ Below w.heap.size w w' := by
  obtain ⟨i1, hi, hz0, hz1, hz2⟩ := info_parts (P := Tryz.prog) (e := 145) (z := .slice none 0 0) (size := 1) (bytes := 24) (by kernel_rfl)
  have Hi := Lib.hid hi
  have Hz0 := Lib.hid hz0
  have Hz1 := Lib.hid hz1
  have Hb0 := Lib.hid (show i1.bytes * 0 ≤ 281474976710656 by omega)
  clear hi hz0 hz1 hz2
  go_enter Tryz.func50, Tryz.ntmps50
  go_wp2_with (fail)
  go_loop [3] (fun s => s = .int .i64 0) (fun _ => 0)
  case atStart => rfl
  case round =>
    subst hrel
    go_wp2_with (refine wpList_make_full w rfl _ _ 60 rfl w.heap.size 145 i1 (.slice none 0 0) 1 Tryz.underlying60 Hi.out Hz0.out Hz1.out .i64 .i64 _ _ 0 rfl rfl rfl rfl Hb0.out (by simp only [maxLen]; omega) (Nat.le_refl _) ?_; intro w1 hown1 hg1; have HB := Lib.hid ((Below.refl w.heap.size w).grown hg1 (Nat.le_refl _) (fun b e => by cases e)); clear hown1 hg1)
    go_loop [6] (fun s => s = .int .i64 0) (fun _ => 0)
    case atStart => rfl
    case round =>
      subst hrel
      go_wp2_with (fail)
      go_loop [9] (fun s => s = .int .i64 0) (fun _ => 0)
      case atStart => rfl
      case round =>
        subst hrel
        go_wp2_with (fail)
        go_loop [11] (fun s => s = .int .i64 0) (fun _ => 0)
        case atStart => rfl
        case round =>
          subst hrel
          go_wp2_with (fail)
          go_loop [14] (fun s => s = .int .i64 0) (fun _ => 0)
          case atStart => rfl
          case round =>
            subst hrel
            go_wp2_with (fail)
            go_ret
            exact ⟨rfl, HB.out⟩

set_option maxHeartbeats 4000000 in
set_option maxRecDepth 100000 in
theorem flatAsks_nil (w : World) : Calls Tryz.prog 51 #[.slice none 0 0] w fun e w' => e = .returned (.bool true) ∧ Below w.heap.size w w' := by
  obtain ⟨i1, hi, hz0, hz1, hz2⟩ := info_parts (P := Tryz.prog) (e := 150) (z := .slice none 0 0) (size := 1) (bytes := 24) (by kernel_rfl)
  have Hi := Lib.hid hi
  have Hz0 := Lib.hid hz0
  have Hz1 := Lib.hid hz1
  have Hb0 := Lib.hid (show i1.bytes * 0 ≤ 281474976710656 by omega)
  clear hi hz0 hz1 hz2
  go_enter Tryz.func51, Tryz.ntmps51
  go_wp2_with (fail)
  go_loop [3] (fun s => s = .int .i64 0) (fun _ => 0)
  case atStart => rfl
  case round =>
    subst hrel
    go_wp2_with (refine wpList_make_full w rfl _ _ 61 rfl w.heap.size 150 i1 (.slice none 0 0) 1 Tryz.underlying61 Hi.out Hz0.out Hz1.out .i64 .i64 _ _ 0 rfl rfl rfl rfl Hb0.out (by simp only [maxLen]; omega) (Nat.le_refl _) ?_; intro w1 hown1 hg1; have HB := Lib.hid ((Below.refl w.heap.size w).grown hg1 (Nat.le_refl _) (fun b e => by cases e)); clear hown1 hg1)
    go_loop [6] (fun s => s = .int .i64 0) (fun _ => 0)
    case atStart => rfl
    case round =>
      subst hrel
      go_wp2_with (fail)
      go_loop [9] (fun s => s = .int .i64 0) (fun _ => 0)
      case atStart => rfl
      case round =>
        subst hrel
        go_wp2_with (fail)
        go_loop [11] (fun s => s = .int .i64 0) (fun _ => 0)
        case atStart => rfl
        case round =>
          subst hrel
          go_wp2_with (fail)
          go_loop [14] (fun s => s = .int .i64 0) (fun _ => 0)
          case atStart => rfl
          case round =>
            subst hrel
            go_wp2_with (fail)
            go_ret
            exact ⟨rfl, HB.out⟩
end Go.Proofs.YtfonejlbiojjjaaGreat
