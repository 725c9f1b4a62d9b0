/- storemankit's flat functions at no lists: each answers true and leaves all that stood. storemankit's flat functions at no lists: each answers true and leaves all that stood. storemankit's flat functions at no lists: each answers true and leaves all that stood. storemankit's flat functions at no lists: each answers true and leaves all that stood. -/
import Derived.Test.YtbinikbgbgggaaaGreatDoorFlA
namespace Go.Proofs.YtbinikbgbgggaaaGreatDoor
open Go.RowKit
set_option maxHeartbeats 4000000 in
set_option maxRecDepth 100000 in
theorem flatWords_nil (w : World) : Calls Tryz.prog 53 #[.slice none 0 0] w fun e w' => e = .returned (.bool true) ∧ Below w.heap.size w w' := by
  obtain ⟨i1, hi, hz0, hz1, hz2⟩ := info_parts (P := Tryz.prog) (e := 127) (z := .slice none 0 0) (size := 1) (bytes := 24) (by kernel_rfl)
  have Hi := Lib.hid hi
  have Hz0 := Lib.hid hz0
  have Hz1 := Lib.hid hz1
  have Hb0 := Lib.hid (show i1.bytes * 0 ≤ 281474976710656 by omega)
  clear hi hz0 hz1 hz2
  go_enter Tryz.func53, Tryz.ntmps53
  go_wp2_with (fail)
  go_loop [3] (fun s => s = .int .i64 0) (fun _ => 0)
  case atStart => rfl
  case round =>
    subst hrel
    go_wp2_with (refine wpList_make_full w rfl _ _ 62 rfl w.heap.size 127 i1 (.slice none 0 0) 1 Tryz.underlying62 Hi.out Hz0.out Hz1.out .i64 .i64 _ _ 0 rfl rfl rfl rfl Hb0.out (by simp only [maxLen]; omega) (Nat.le_refl _) ?_; intro w1 hown1 hg1; have HB := Lib.hid ((Below.refl w.heap.size w).grown hg1 (Nat.le_refl _) (fun b e => by cases e)); clear hown1 hg1)
    go_loop [6] (fun s => s = .int .i64 0) (fun _ => 0)
    case atStart => rfl
    case round =>
      subst hrel
      go_wp2_with (fail)
      go_loop [9] (fun s => s = .int .i64 0) (fun _ => 0)
      case atStart => rfl
      case round =>
        subst hrel
        go_wp2_with (fail)
        go_loop [11] (fun s => s = .int .i64 0) (fun _ => 0)
        case atStart => rfl
        case round =>
          subst hrel
          go_wp2_with (fail)
          go_loop [14] (fun s => s = .int .i64 0) (fun _ => 0)
          case atStart => rfl
          case round =>
            subst hrel
            go_wp2_with (fail)
            go_ret
            exact ⟨rfl, HB.out⟩

set_option maxHeartbeats 4000000 in
set_option maxRecDepth 100000 in
theorem flatInts_nil (w : World) : Calls Tryz.prog 54 #[.slice none 0 0] w fun e w' => e = .returned (.bool true) ∧ Below w.heap.size w w' := by
  obtain ⟨i1, hi, hz0, hz1, hz2⟩ := info_parts (P := Tryz.prog) (e := 128) (z := .slice none 0 0) (size := 1) (bytes := 24) (by kernel_rfl)
  have Hi := Lib.hid hi
  have Hz0 := Lib.hid hz0
  have Hz1 := Lib.hid hz1
  have Hb0 := Lib.hid (show i1.bytes * 0 ≤ 281474976710656 by omega)
  clear hi hz0 hz1 hz2
  go_enter Tryz.func54, Tryz.ntmps54
  go_wp2_with (fail)
  go_loop [3] (fun s => s = .int .i64 0) (fun _ => 0)
  case atStart => rfl
  case round =>
    subst hrel
    go_wp2_with (refine wpList_make_full w rfl _ _ 63 rfl w.heap.size 128 i1 (.slice none 0 0) 1 Tryz.underlying63 Hi.out Hz0.out Hz1.out .i64 .i64 _ _ 0 rfl rfl rfl rfl Hb0.out (by simp only [maxLen]; omega) (Nat.le_refl _) ?_; intro w1 hown1 hg1; have HB := Lib.hid ((Below.refl w.heap.size w).grown hg1 (Nat.le_refl _) (fun b e => by cases e)); clear hown1 hg1)
    go_loop [6] (fun s => s = .int .i64 0) (fun _ => 0)
    case atStart => rfl
    case round =>
      subst hrel
      go_wp2_with (fail)
      go_loop [9] (fun s => s = .int .i64 0) (fun _ => 0)
      case atStart => rfl
      case round =>
        subst hrel
        go_wp2_with (fail)
        go_loop [11] (fun s => s = .int .i64 0) (fun _ => 0)
        case atStart => rfl
        case round =>
          subst hrel
          go_wp2_with (fail)
          go_loop [14] (fun s => s = .int .i64 0) (fun _ => 0)
          case atStart => rfl
          case round =>
            subst hrel
            go_wp2_with (fail)
            go_ret
            exact ⟨rfl, HB.out⟩

set_option maxHeartbeats 4000000 in
set_option maxRecDepth 100000 in
theorem flatLongs_nil (w : World) : Calls Tryz.prog 55 #[.slice none 0 0] w fun e w' => e = .returned (.bool true) ∧ Below w.heap.size w w' := by
  obtain ⟨i1, hi, hz0, hz1, hz2⟩ := info_parts (P := Tryz.prog) (e := 129) (z := .slice none 0 0) (size := 1) (bytes := 24) (by kernel_rfl)
  have Hi := Lib.hid hi
  have Hz0 := Lib.hid hz0
  have Hz1 := Lib.hid hz1
  have Hb0 := Lib.hid (show i1.bytes * 0 ≤ 281474976710656 by omega)
  clear hi hz0 hz1 hz2
  go_enter Tryz.func55, Tryz.ntmps55
  go_wp2_with (fail)
  go_loop [3] (fun s => s = .int .i64 0) (fun _ => 0)
  case atStart => rfl
  case round =>
    subst hrel
    go_wp2_with (refine wpList_make_full w rfl _ _ 64 rfl w.heap.size 129 i1 (.slice none 0 0) 1 Tryz.underlying64 Hi.out Hz0.out Hz1.out .i64 .i64 _ _ 0 rfl rfl rfl rfl Hb0.out (by simp only [maxLen]; omega) (Nat.le_refl _) ?_; intro w1 hown1 hg1; have HB := Lib.hid ((Below.refl w.heap.size w).grown hg1 (Nat.le_refl _) (fun b e => by cases e)); clear hown1 hg1)
    go_loop [6] (fun s => s = .int .i64 0) (fun _ => 0)
    case atStart => rfl
    case round =>
      subst hrel
      go_wp2_with (fail)
      go_loop [9] (fun s => s = .int .i64 0) (fun _ => 0)
      case atStart => rfl
      case round =>
        subst hrel
        go_wp2_with (fail)
        go_loop [11] (fun s => s = .int .i64 0) (fun _ => 0)
        case atStart => rfl
        case round =>
          subst hrel
          go_wp2_with (fail)
          go_loop [14] (fun s => s = .int .i64 0) (fun _ => 0)
          case atStart => rfl
          case round =>
            subst hrel
            go_wp2_with (fail)
            go_ret
            exact ⟨rfl, HB.out⟩

set_option maxHeartbeats 4000000 in
set_option maxRecDepth 100000 in
theorem flatTexts_nil (w : World) : Calls Tryz.prog 56 #[.slice none 0 0] w fun e w' => e = .returned (.bool true) ∧ Below w.heap.size w w' := by
  obtain ⟨i1, hi, hz0, hz1, hz2⟩ := info_parts (P := Tryz.prog) (e := 45) (z := .slice none 0 0) (size := 1) (bytes := 24) (by kernel_rfl)
  have Hi := Lib.hid hi
  have Hz0 := Lib.hid hz0
  have Hz1 := Lib.hid hz1
  have Hb0 := Lib.hid (show i1.bytes * 0 ≤ 281474976710656 by omega)
  clear hi hz0 hz1 hz2
  go_enter Tryz.func56, Tryz.ntmps56
  go_wp2_with (fail)
  go_loop [3] (fun s => s = .int .i64 0) (fun _ => 0)
  case atStart => rfl
  case round =>
    subst hrel
    go_wp2_with (refine wpList_make_full w rfl _ _ 65 rfl w.heap.size 45 i1 (.slice none 0 0) 1 Tryz.underlying65 Hi.out Hz0.out Hz1.out .i64 .i64 _ _ 0 rfl rfl rfl rfl Hb0.out (by simp only [maxLen]; omega) (Nat.le_refl _) ?_; intro w1 hown1 hg1; have HB := Lib.hid ((Below.refl w.heap.size w).grown hg1 (Nat.le_refl _) (fun b e => by cases e)); clear hown1 hg1)
    go_loop [6] (fun s => s = .int .i64 0) (fun _ => 0)
    case atStart => rfl
    case round =>
      subst hrel
      go_wp2_with (fail)
      go_loop [9] (fun s => s = .int .i64 0) (fun _ => 0)
      case atStart => rfl
      case round =>
        subst hrel
        go_wp2_with (fail)
        go_loop [11] (fun s => s = .int .i64 0) (fun _ => 0)
        case atStart => rfl
        case round =>
          subst hrel
          go_wp2_with (fail)
          go_loop [14] (fun s => s = .int .i64 0) (fun _ => 0)
          case atStart => rfl
          case round =>
            subst hrel
            go_wp2_with (fail)
            go_ret
            exact ⟨rfl, HB.out⟩

set_option maxHeartbeats 4000000 in
set_option maxRecDepth 100000 in
theorem flatBytes_nil (w : World) : Calls Tryz.prog 57 #[.slice none 0 0] w fun e w' => e = .returned (.bool true) ∧ Below w.heap.size w w' := by
  obtain ⟨i1, hi, hz0, hz1, hz2⟩ := info_parts (P := Tryz.prog) (e := 22) (z := .slice none 0 0) (size := 1) (bytes := 24) (by kernel_rfl)
  have Hi := Lib.hid hi
  have Hz0 := Lib.hid hz0
  have Hz1 := Lib.hid hz1
  have Hb0 := Lib.hid (show i1.bytes * 0 ≤ 281474976710656 by omega)
  clear hi hz0 hz1 hz2
  go_enter Tryz.func57, Tryz.ntmps57
  go_wp2_with (fail)
  go_loop [3] (fun s => s = .int .i64 0) (fun _ => 0)
  case atStart => rfl
  case round =>
    subst hrel
    go_wp2_with (refine wpList_make_full w rfl _ _ 31 rfl w.heap.size 22 i1 (.slice none 0 0) 1 Tryz.underlying31 Hi.out Hz0.out Hz1.out .i64 .i64 _ _ 0 rfl rfl rfl rfl Hb0.out (by simp only [maxLen]; omega) (Nat.le_refl _) ?_; intro w1 hown1 hg1; have HB := Lib.hid ((Below.refl w.heap.size w).grown hg1 (Nat.le_refl _) (fun b e => by cases e)); clear hown1 hg1)
    go_loop [6] (fun s => s = .int .i64 0) (fun _ => 0)
    case atStart => rfl
    case round =>
      subst hrel
      go_wp2_with (fail)
      go_loop [9] (fun s => s = .int .i64 0) (fun _ => 0)
      case atStart => rfl
      case round =>
        subst hrel
        go_wp2_with (fail)
        go_loop [11] (fun s => s = .int .i64 0) (fun _ => 0)
        case atStart => rfl
        case round =>
          subst hrel
          go_wp2_with (fail)
          go_loop [14] (fun s => s = .int .i64 0) (fun _ => 0)
          case atStart => rfl
          case round =>
            subst hrel
            go_wp2_with (fail)
            go_ret
            exact ⟨rfl, HB.out⟩

set_option maxHeartbeats 4000000 in
set_option maxRecDepth 100000 in
theorem flatWindows_nil (w : World) : Calls Tryz.prog 58 #[.slice none 0 0] w fun e w' => e = .returned (.bool true) ∧ Below w.heap.size w w' := by
  obtain ⟨i1, hi, hz0, hz1, hz2⟩ := info_parts (P := Tryz.prog) (e := 131) (z := .slice none 0 0) (size := 1) (bytes := 24) (by kernel_rfl)
  have Hi := Lib.hid hi
  have Hz0 := Lib.hid hz0
  have Hz1 := Lib.hid hz1
  have Hb0 := Lib.hid (show i1.bytes * 0 ≤ 281474976710656 by omega)
  clear hi hz0 hz1 hz2
  go_enter Tryz.func58, Tryz.ntmps58
  go_wp2_with (fail)
  go_loop [3] (fun s => s = .int .i64 0) (fun _ => 0)
  case atStart => rfl
  case round =>
    subst hrel
    go_wp2_with (refine wpList_make_full w rfl _ _ 66 rfl w.heap.size 131 i1 (.slice none 0 0) 1 Tryz.underlying66 Hi.out Hz0.out Hz1.out .i64 .i64 _ _ 0 rfl rfl rfl rfl Hb0.out (by simp only [maxLen]; omega) (Nat.le_refl _) ?_; intro w1 hown1 hg1; have HB := Lib.hid ((Below.refl w.heap.size w).grown hg1 (Nat.le_refl _) (fun b e => by cases e)); clear hown1 hg1)
    go_loop [6] (fun s => s = .int .i64 0) (fun _ => 0)
    case atStart => rfl
    case round =>
      subst hrel
      go_wp2_with (fail)
      go_loop [9] (fun s => s = .int .i64 0) (fun _ => 0)
      case atStart => rfl
      case round =>
        subst hrel
        go_wp2_with (fail)
        go_loop [11] (fun s => s = .int .i64 0) (fun _ => 0)
        case atStart => rfl
        case round =>
          subst hrel
          go_wp2_with (fail)
          go_loop [14] (fun s => s = .int .i64 0) (fun _ => 0)
          case atStart => rfl
          case round =>
            subst hrel
            go_wp2_with (fail)
            go_ret
            exact ⟨rfl, HB.out⟩
end Go.Proofs.YtbinikbgbgggaaaGreatDoor
namespace Go.Proofs.YtbinikbgbgggaaaGreatDoor
open Go.RowKit
set_option maxHeartbeats 4000000 in
set_option maxRecDepth 100000 in
theorem flatLots_nil (w : World) : Calls Tryz.prog 59 #[.slice none 0 0] w fun e w' => e = .returned (.bool true) ∧ Below w.heap.size w w' := by
  obtain ⟨i1, hi, hz0, hz1, hz2⟩ := info_parts (P := Tryz.prog) (e := 135) (z := .slice none 0 0) (size := 1) (bytes := 24) (by kernel_rfl)
  have Hi := Lib.hid hi
  have Hz0 := Lib.hid hz0
  have Hz1 := Lib.hid hz1
  have Hb0 := Lib.hid (show i1.bytes * 0 ≤ 281474976710656 by omega)
  clear hi hz0 hz1 hz2
  go_enter Tryz.func59, Tryz.ntmps59
  go_wp2_with (fail)
  go_loop [3] (fun s => s = .int .i64 0) (fun _ => 0)
  case atStart => rfl
  case round =>
    subst hrel
    go_wp2_with (refine wpList_make_full w rfl _ _ 67 rfl w.heap.size 135 i1 (.slice none 0 0) 1 Tryz.underlying67 Hi.out Hz0.out Hz1.out .i64 .i64 _ _ 0 rfl rfl rfl rfl Hb0.out (by simp only [maxLen]; omega) (Nat.le_refl _) ?_; intro w1 hown1 hg1; have HB := Lib.hid ((Below.refl w.heap.size w).grown hg1 (Nat.le_refl _) (fun b e => by cases e)); clear hown1 hg1)
    go_loop [6] (fun s => s = .int .i64 0) (fun _ => 0)
    case atStart => rfl
    case round =>
      subst hrel
      go_wp2_with (fail)
      go_loop [9] (fun s => s = .int .i64 0) (fun _ => 0)
      case atStart => rfl
      case round =>
        subst hrel
        go_wp2_with (fail)
        go_loop [11] (fun s => s = .int .i64 0) (fun _ => 0)
        case atStart => rfl
        case round =>
          subst hrel
          go_wp2_with (fail)
          go_loop [14] (fun s => s = .int .i64 0) (fun _ => 0)
          case atStart => rfl
          case round =>
            subst hrel
            go_wp2_with (fail)
            go_ret
            exact ⟨rfl, HB.out⟩

set_option maxHeartbeats 4000000 in
set_option maxRecDepth 100000 in
theorem flatWants_nil (w : World) : Calls Tryz.prog 60 #[.slice none 0 0] w fun e w' => e = .returned (.bool true) ∧ Below w.heap.size w w' := by
  obtain ⟨i1, hi, hz0, hz1, hz2⟩ := info_parts (P := Tryz.prog) (e := 139) (z := .slice none 0 0) (size := 1) (bytes := 24) (by kernel_rfl)
  have Hi := Lib.hid hi
  have Hz0 := Lib.hid hz0
  have Hz1 := Lib.hid hz1
  have Hb0 := Lib.hid (show i1.bytes * 0 ≤ 281474976710656 by omega)
  clear hi hz0 hz1 hz2
  go_enter Tryz.func60, Tryz.ntmps60
  go_wp2_with (fail)
  go_loop [3] (fun s => s = .int .i64 0) (fun _ => 0)
  case atStart => rfl
  case round =>
    subst hrel
    go_wp2_with (refine wpList_make_full w rfl _ _ 68 rfl w.heap.size 139 i1 (.slice none 0 0) 1 Tryz.underlying68 Hi.out Hz0.out Hz1.out .i64 .i64 _ _ 0 rfl rfl rfl rfl Hb0.out (by simp only [maxLen]; omega) (Nat.le_refl _) ?_; intro w1 hown1 hg1; have HB := Lib.hid ((Below.refl w.heap.size w).grown hg1 (Nat.le_refl _) (fun b e => by cases e)); clear hown1 hg1)
    go_loop [6] (fun s => s = .int .i64 0) (fun _ => 0)
    case atStart => rfl
    case round =>
      subst hrel
      go_wp2_with (fail)
      go_loop [9] (fun s => s = .int .i64 0) (fun _ => 0)
      case atStart => rfl
      case round =>
        subst hrel
        go_wp2_with (fail)
        go_loop [11] (fun s => s = .int .i64 0) (fun _ => 0)
        case atStart => rfl
        case round =>
          subst hrel
          go_wp2_with (fail)
          go_loop [14] (fun s => s = .int .i64 0) (fun _ => 0)
          case atStart => rfl
          case round =>
            subst hrel
            go_wp2_with (fail)
            go_ret
            exact ⟨rfl, HB.out⟩

set_option maxHeartbeats 4000000 in
set_option maxRecDepth 100000 in
theorem flatUses_nil (w : World) : Calls Tryz.prog 61 #[.slice none 0 0] w fun e w' => e = .returned (.bool true) ∧ Below w.heap.size w w' := by
  obtain ⟨i1, hi, hz0, hz1, hz2⟩ := info_parts (P := Tryz.prog) (e := 143) (z := .slice none 0 0) (size := 1) (bytes := 24) (by kernel_rfl)
  have Hi := Lib.hid hi
  have Hz0 := Lib.hid hz0
  have Hz1 := Lib.hid hz1
  have Hb0 := Lib.hid (show i1.bytes * 0 ≤ 281474976710656 by omega)
  clear hi hz0 hz1 hz2
  go_enter Tryz.func61, Tryz.ntmps61
  go_wp2_with (fail)
  go_loop [3] (fun s => s = .int .i64 0) (fun _ => 0)
  case atStart => rfl
  case round =>
    subst hrel
    go_wp2_with (refine wpList_make_full w rfl _ _ 69 rfl w.heap.size 143 i1 (.slice none 0 0) 1 Tryz.underlying69 Hi.out Hz0.out Hz1.out .i64 .i64 _ _ 0 rfl rfl rfl rfl Hb0.out (by simp only [maxLen]; omega) (Nat.le_refl _) ?_; intro w1 hown1 hg1; have HB := Lib.hid ((Below.refl w.heap.size w).grown hg1 (Nat.le_refl _) (fun b e => by cases e)); clear hown1 hg1)
    go_loop [6] (fun s => s = .int .i64 0) (fun _ => 0)
    case atStart => rfl
    case round =>
      subst hrel
      go_wp2_with (fail)
      go_loop [9] (fun s => s = .int .i64 0) (fun _ => 0)
      case atStart => rfl
      case round =>
        subst hrel
        go_wp2_with (fail)
        go_loop [11] (fun s => s = .int .i64 0) (fun _ => 0)
        case atStart => rfl
        case round =>
          subst hrel
          go_wp2_with (fail)
          go_loop [14] (fun s => s = .int .i64 0) (fun _ => 0)
          case atStart => rfl
          case round =>
            subst hrel
            go_wp2_with (fail)
            go_ret
            exact ⟨rfl, HB.out⟩

set_option maxHeartbeats 4000000 in
set_option maxRecDepth 100000 in
theorem flatParts_nil (w : World) : Calls Tryz.prog 62 #[.slice none 0 0] w fun e w' => e = .returned (.bool true) ∧ Below w.heap.size w w' := by
  obtain ⟨i1, hi, hz0, hz1, hz2⟩ := info_parts (P := Tryz.prog) (e := 147) (z := .slice none 0 0) (size := 1) (bytes := 24) (by kernel_rfl)
  have Hi := Lib.hid hi
  have Hz0 := Lib.hid hz0
  have Hz1 := Lib.hid hz1
  have Hb0 := Lib.hid (show i1.bytes * 0 ≤ 281474976710656 by omega)
  clear hi hz0 hz1 hz2
  go_enter Tryz.func62, Tryz.ntmps62
  go_wp2_with (fail)
  go_loop [3] (fun s => s = .int .i64 0) (fun _ => 0)
  case atStart => rfl
  case round =>
    subst hrel
    go_wp2_with (refine wpList_make_full w rfl _ _ 70 rfl w.heap.size 147 i1 (.slice none 0 0) 1 Tryz.underlying70 Hi.out Hz0.out Hz1.out .i64 .i64 _ _ 0 rfl rfl rfl rfl Hb0.out (by simp only [maxLen]; omega) (Nat.le_refl _) ?_; intro w1 hown1 hg1; have HB := Lib.hid ((Below.refl w.heap.size w).grown hg1 (Nat.le_refl _) (fun b e => by cases e)); clear hown1 hg1)
    go_loop [6] (fun s => s = .int .i64 0) (fun _ => 0)
    case atStart => rfl
    case round =>
      subst hrel
      go_wp2_with (fail)
      go_loop [9] (fun s => s = .int .i64 0) (fun _ => 0)
      case atStart => rfl
      case round =>
        subst hrel
        go_wp2_with (fail)
        go_loop [11] (fun s => s = .int .i64 0) (fun _ => 0)
        case atStart => rfl
        case round =>
          subst hrel
          go_wp2_with (fail)
          go_loop [14] (fun s => s = .int .i64 0) (fun _ => 0)
          case atStart => rfl
          case round =>
            subst hrel
            go_wp2_with (fail)
            go_ret
            exact ⟨rfl, HB.out⟩

set_option maxHeartbeats 4000000 in
set_option maxRecDepth 100000 in
theorem flatItems_nil (w : World) : Calls Tryz.prog 63 #[.slice none 0 0] w fun e w' => e = .returned (.bool true) ∧ Below w.heap.size w w' := by
  obtain ⟨i1, hi, hz0, hz1, hz2⟩ := info_parts (P := Tryz.prog) (e := 151) (z := .slice none 0 0) (size := 1) (bytes := 24) (by kernel_rfl)
  have Hi := Lib.hid hi
  have Hz0 := Lib.hid hz0
  have Hz1 := Lib.hid hz1
  have Hb0 := Lib.hid (show i1.bytes * 0 ≤ 281474976710656 by omega)
  clear hi hz0 hz1 hz2
  go_enter Tryz.func63, Tryz.ntmps63
  go_wp2_with (fail)
  go_loop [3] (fun s => s = .int .i64 0) (fun _ => 0)
  case atStart => rfl
  case round =>
    subst hrel
    go_wp2_with (refine wpList_make_full w rfl _ _ 71 rfl w.heap.size 151 i1 (.slice none 0 0) 1 Tryz.underlying71 Hi.out Hz0.out Hz1.out .i64 .i64 _ _ 0 rfl rfl rfl rfl Hb0.out (by simp only [maxLen]; omega) (Nat.le_refl _) ?_; intro w1 hown1 hg1; have HB := Lib.hid ((Below.refl w.heap.size w).grown hg1 (Nat.le_refl _) (fun b e => by cases e)); clear hown1 hg1)
    go_loop [6] (fun s => s = .int .i64 0) (fun _ => 0)
    case atStart => rfl
    case round =>
      subst hrel
      go_wp2_with (fail)
      go_loop [9] (fun s => s = .int .i64 0) (fun _ => 0)
      case atStart => rfl
      case round =>
        subst hrel
        go_wp2_with (fail)
        go_loop [11] (fun s => s = .int .i64 0) (fun _ => 0)
        case atStart => rfl
        case round =>
          subst hrel
          go_wp2_with (fail)
          go_loop [14] (fun s => s = .int .i64 0) (fun _ => 0)
          case atStart => rfl
          case round =>
            subst hrel
            go_wp2_with (fail)
            go_ret
            exact ⟨rfl, HB.out⟩

set_option maxHeartbeats 4000000 in
set_option maxRecDepth 100000 in
theorem flatLines_nil (w : World) : Calls Tryz.prog 64 #[.slice none 0 0] w fun e w' => e = .returned (.bool true) ∧ Below w.heap.size w w' := by
  obtain ⟨i1, hi, hz0, hz1, hz2⟩ := info_parts (P := Tryz.prog) (e := 156) (z := .slice none 0 0) (size := 1) (bytes := 24) (by kernel_rfl)
  have Hi := Lib.hid hi
  have Hz0 := Lib.hid hz0
  have Hz1 := Lib.hid hz1
  have Hb0 := Lib.hid (show i1.bytes * 0 ≤ 281474976710656 by omega)
  clear hi hz0 hz1 hz2
  go_enter Tryz.func64, Tryz.ntmps64
  go_wp2_with (fail)
  go_loop [3] (fun s => s = .int .i64 0) (fun _ => 0)
  case atStart => rfl
  case round =>
    subst hrel
    go_wp2_with (refine wpList_make_full w rfl _ _ 72 rfl w.heap.size 156 i1 (.slice none 0 0) 1 Tryz.underlying72 Hi.out Hz0.out Hz1.out .i64 .i64 _ _ 0 rfl rfl rfl rfl Hb0.out (by simp only [maxLen]; omega) (Nat.le_refl _) ?_; intro w1 hown1 hg1; have HB := Lib.hid ((Below.refl w.heap.size w).grown hg1 (Nat.le_refl _) (fun b e => by cases e)); clear hown1 hg1)
    go_loop [6] (fun s => s = .int .i64 0) (fun _ => 0)
    case atStart => rfl
    case round =>
      subst hrel
      go_wp2_with (fail)
      go_loop [9] (fun s => s = .int .i64 0) (fun _ => 0)
      case atStart => rfl
      case round =>
        subst hrel
        go_wp2_with (fail)
        go_loop [11] (fun s => s = .int .i64 0) (fun _ => 0)
        case atStart => rfl
        case round =>
          subst hrel
          go_wp2_with (fail)
          go_loop [14] (fun s => s = .int .i64 0) (fun _ => 0)
          case atStart => rfl
          case round =>
            subst hrel
            go_wp2_with (fail)
            go_ret
            exact ⟨rfl, HB.out⟩
end Go.Proofs.YtbinikbgbgggaaaGreatDoor
namespace Go.Proofs.YtbinikbgbgggaaaGreatDoor
open Go.RowKit
set_option maxHeartbeats 4000000 in
set_option maxRecDepth 100000 in
theorem flatAsks_nil (w : World) : Calls Tryz.prog 65 #[.slice none 0 0] w fun e w' => e = .returned (.bool true) ∧ Below w.heap.size w w' := by
  obtain ⟨i1, hi, hz0, hz1, hz2⟩ := info_parts (P := Tryz.prog) (e := 161) (z := .slice none 0 0) (size := 1) (bytes := 24) (by kernel_rfl)
  have Hi := Lib.hid hi
  have Hz0 := Lib.hid hz0
  have Hz1 := Lib.hid hz1
  have Hb0 := Lib.hid (show i1.bytes * 0 ≤ 281474976710656 by omega)
  clear hi hz0 hz1 hz2
  go_enter Tryz.func65, Tryz.ntmps65
  go_wp2_with (fail)
  go_loop [3] (fun s => s = .int .i64 0) (fun _ => 0)
  case atStart => rfl
  case round =>
    subst hrel
    go_wp2_with (refine wpList_make_full w rfl _ _ 73 rfl w.heap.size 161 i1 (.slice none 0 0) 1 Tryz.underlying73 Hi.out Hz0.out Hz1.out .i64 .i64 _ _ 0 rfl rfl rfl rfl Hb0.out (by simp only [maxLen]; omega) (Nat.le_refl _) ?_; intro w1 hown1 hg1; have HB := Lib.hid ((Below.refl w.heap.size w).grown hg1 (Nat.le_refl _) (fun b e => by cases e)); clear hown1 hg1)
    go_loop [6] (fun s => s = .int .i64 0) (fun _ => 0)
    case atStart => rfl
    case round =>
      subst hrel
      go_wp2_with (fail)
      go_loop [9] (fun s => s = .int .i64 0) (fun _ => 0)
      case atStart => rfl
      case round =>
        subst hrel
        go_wp2_with (fail)
        go_loop [11] (fun s => s = .int .i64 0) (fun _ => 0)
        case atStart => rfl
        case round =>
          subst hrel
          go_wp2_with (fail)
          go_loop [14] (fun s => s = .int .i64 0) (fun _ => 0)
          case atStart => rfl
          case round =>
            subst hrel
            go_wp2_with (fail)
            go_ret
            exact ⟨rfl, HB.out⟩

set_option maxHeartbeats 4000000 in
set_option maxRecDepth 100000 in
theorem flatTells_nil (w : World) : Calls Tryz.prog 66 #[.slice none 0 0] w fun e w' => e = .returned (.bool true) ∧ Below w.heap.size w w' := by
  obtain ⟨i1, hi, hz0, hz1, hz2⟩ := info_parts (P := Tryz.prog) (e := 167) (z := .slice none 0 0) (size := 1) (bytes := 24) (by kernel_rfl)
  have Hi := Lib.hid hi
  have Hz0 := Lib.hid hz0
  have Hz1 := Lib.hid hz1
  have Hb0 := Lib.hid (show i1.bytes * 0 ≤ 281474976710656 by omega)
  clear hi hz0 hz1 hz2
  go_enter Tryz.func66, Tryz.ntmps66
  go_wp2_with (fail)
  go_loop [3] (fun s => s = .int .i64 0) (fun _ => 0)
  case atStart => rfl
  case round =>
    subst hrel
    go_wp2_with (refine wpList_make_full w rfl _ _ 74 rfl w.heap.size 167 i1 (.slice none 0 0) 1 Tryz.underlying74 Hi.out Hz0.out Hz1.out .i64 .i64 _ _ 0 rfl rfl rfl rfl Hb0.out (by simp only [maxLen]; omega) (Nat.le_refl _) ?_; intro w1 hown1 hg1; have HB := Lib.hid ((Below.refl w.heap.size w).grown hg1 (Nat.le_refl _) (fun b e => by cases e)); clear hown1 hg1)
    go_loop [6] (fun s => s = .int .i64 0) (fun _ => 0)
    case atStart => rfl
    case round =>
      subst hrel
      go_wp2_with (fail)
      go_loop [9] (fun s => s = .int .i64 0) (fun _ => 0)
      case atStart => rfl
      case round =>
        subst hrel
        go_wp2_with (fail)
        go_loop [11] (fun s => s = .int .i64 0) (fun _ => 0)
        case atStart => rfl
        case round =>
          subst hrel
          go_wp2_with (fail)
          go_loop [14] (fun s => s = .int .i64 0) (fun _ => 0)
          case atStart => rfl
          case round =>
            subst hrel
            go_wp2_with (fail)
            go_ret
            exact ⟨rfl, HB.out⟩

set_option maxHeartbeats 4000000 in
set_option maxRecDepth 100000 in
theorem flatStates_nil (w : World) : Calls Tryz.prog 67 #[.slice none 0 0] w fun e w' => e = .returned (.bool true) ∧ Below w.heap.size w w' := by
  obtain ⟨i1, hi, hz0, hz1, hz2⟩ := info_parts (P := Tryz.prog) (e := 172) (z := .slice none 0 0) (size := 1) (bytes := 24) (by kernel_rfl)
  have Hi := Lib.hid hi
  have Hz0 := Lib.hid hz0
  have Hz1 := Lib.hid hz1
  have Hb0 := Lib.hid (show i1.bytes * 0 ≤ 281474976710656 by omega)
  clear hi hz0 hz1 hz2
  go_enter Tryz.func67, Tryz.ntmps67
  go_wp2_with (fail)
  go_loop [3] (fun s => s = .int .i64 0) (fun _ => 0)
  case atStart => rfl
  case round =>
    subst hrel
    go_wp2_with (refine wpList_make_full w rfl _ _ 75 rfl w.heap.size 172 i1 (.slice none 0 0) 1 Tryz.underlying75 Hi.out Hz0.out Hz1.out .i64 .i64 _ _ 0 rfl rfl rfl rfl Hb0.out (by simp only [maxLen]; omega) (Nat.le_refl _) ?_; intro w1 hown1 hg1; have HB := Lib.hid ((Below.refl w.heap.size w).grown hg1 (Nat.le_refl _) (fun b e => by cases e)); clear hown1 hg1)
    go_loop [6] (fun s => s = .int .i64 0) (fun _ => 0)
    case atStart => rfl
    case round =>
      subst hrel
      go_wp2_with (fail)
      go_loop [9] (fun s => s = .int .i64 0) (fun _ => 0)
      case atStart => rfl
      case round =>
        subst hrel
        go_wp2_with (fail)
        go_loop [11] (fun s => s = .int .i64 0) (fun _ => 0)
        case atStart => rfl
        case round =>
          subst hrel
          go_wp2_with (fail)
          go_loop [14] (fun s => s = .int .i64 0) (fun _ => 0)
          case atStart => rfl
          case round =>
            subst hrel
            go_wp2_with (fail)
            go_ret
            exact ⟨rfl, HB.out⟩

set_option maxHeartbeats 4000000 in
set_option maxRecDepth 100000 in
theorem flatRows_nil (w : World) : Calls Tryz.prog 68 #[.slice none 0 0] w fun e w' => e = .returned (.bool true) ∧ Below w.heap.size w w' := by
  obtain ⟨i1, hi, hz0, hz1, hz2⟩ := info_parts (P := Tryz.prog) (e := 28) (z := .slice none 0 0) (size := 1) (bytes := 24) (by kernel_rfl)
  have Hi := Lib.hid hi
  have Hz0 := Lib.hid hz0
  have Hz1 := Lib.hid hz1
  have Hb0 := Lib.hid (show i1.bytes * 0 ≤ 281474976710656 by omega)
  clear hi hz0 hz1 hz2
  go_enter Tryz.func68, Tryz.ntmps68
  go_wp2_with (fail)
  go_loop [3] (fun s => s = .int .i64 0) (fun _ => 0)
  case atStart => rfl
  case round =>
    subst hrel
    go_wp2_with (refine wpList_make_full w rfl _ _ 33 rfl w.heap.size 28 i1 (.slice none 0 0) 1 Tryz.underlying33 Hi.out Hz0.out Hz1.out .i64 .i64 _ _ 0 rfl rfl rfl rfl Hb0.out (by simp only [maxLen]; omega) (Nat.le_refl _) ?_; intro w1 hown1 hg1; have HB := Lib.hid ((Below.refl w.heap.size w).grown hg1 (Nat.le_refl _) (fun b e => by cases e)); clear hown1 hg1)
    go_loop [6] (fun s => s = .int .i64 0) (fun _ => 0)
    case atStart => rfl
    case round =>
      subst hrel
      go_wp2_with (fail)
      go_loop [9] (fun s => s = .int .i64 0) (fun _ => 0)
      case atStart => rfl
      case round =>
        subst hrel
        go_wp2_with (fail)
        go_loop [11] (fun s => s = .int .i64 0) (fun _ => 0)
        case atStart => rfl
        case round =>
          subst hrel
          go_wp2_with (fail)
          go_loop [14] (fun s => s = .int .i64 0) (fun _ => 0)
          case atStart => rfl
          case round =>
            subst hrel
            go_wp2_with (fail)
            go_ret
            exact ⟨rfl, HB.out⟩

set_option maxHeartbeats 4000000 in
set_option maxRecDepth 100000 in
theorem flatTurns_nil (w : World) : Calls Tryz.prog 69 #[.slice none 0 0] w fun e w' => e = .returned (.bool true) ∧ Below w.heap.size w w' := by
  obtain ⟨i1, hi, hz0, hz1, hz2⟩ := info_parts (P := Tryz.prog) (e := 178) (z := .slice none 0 0) (size := 1) (bytes := 24) (by kernel_rfl)
  have Hi := Lib.hid hi
  have Hz0 := Lib.hid hz0
  have Hz1 := Lib.hid hz1
  have Hb0 := Lib.hid (show i1.bytes * 0 ≤ 281474976710656 by omega)
  clear hi hz0 hz1 hz2
  go_enter Tryz.func69, Tryz.ntmps69
  go_wp2_with (fail)
  go_loop [3] (fun s => s = .int .i64 0) (fun _ => 0)
  case atStart => rfl
  case round =>
    subst hrel
    go_wp2_with (refine wpList_make_full w rfl _ _ 76 rfl w.heap.size 178 i1 (.slice none 0 0) 1 Tryz.underlying76 Hi.out Hz0.out Hz1.out .i64 .i64 _ _ 0 rfl rfl rfl rfl Hb0.out (by simp only [maxLen]; omega) (Nat.le_refl _) ?_; intro w1 hown1 hg1; have HB := Lib.hid ((Below.refl w.heap.size w).grown hg1 (Nat.le_refl _) (fun b e => by cases e)); clear hown1 hg1)
    go_loop [6] (fun s => s = .int .i64 0) (fun _ => 0)
    case atStart => rfl
    case round =>
      subst hrel
      go_wp2_with (fail)
      go_loop [9] (fun s => s = .int .i64 0) (fun _ => 0)
      case atStart => rfl
      case round =>
        subst hrel
        go_wp2_with (fail)
        go_loop [11] (fun s => s = .int .i64 0) (fun _ => 0)
        case atStart => rfl
        case round =>
          subst hrel
          go_wp2_with (fail)
          go_loop [14] (fun s => s = .int .i64 0) (fun _ => 0)
          case atStart => rfl
          case round =>
            subst hrel
            go_wp2_with (fail)
            go_ret
            exact ⟨rfl, HB.out⟩

set_option maxHeartbeats 4000000 in
set_option maxRecDepth 100000 in
theorem flatFates_nil (w : World) : Calls Tryz.prog 70 #[.slice none 0 0] w fun e w' => e = .returned (.bool true) ∧ Below w.heap.size w w' := by
  obtain ⟨i1, hi, hz0, hz1, hz2⟩ := info_parts (P := Tryz.prog) (e := 180) (z := .slice none 0 0) (size := 1) (bytes := 24) (by kernel_rfl)
  have Hi := Lib.hid hi
  have Hz0 := Lib.hid hz0
  have Hz1 := Lib.hid hz1
  have Hb0 := Lib.hid (show i1.bytes * 0 ≤ 281474976710656 by omega)
  clear hi hz0 hz1 hz2
  go_enter Tryz.func70, Tryz.ntmps70
  go_wp2_with (fail)
  go_loop [3] (fun s => s = .int .i64 0) (fun _ => 0)
  case atStart => rfl
  case round =>
    subst hrel
    go_wp2_with (refine wpList_make_full w rfl _ _ 77 rfl w.heap.size 180 i1 (.slice none 0 0) 1 Tryz.underlying77 Hi.out Hz0.out Hz1.out .i64 .i64 _ _ 0 rfl rfl rfl rfl Hb0.out (by simp only [maxLen]; omega) (Nat.le_refl _) ?_; intro w1 hown1 hg1; have HB := Lib.hid ((Below.refl w.heap.size w).grown hg1 (Nat.le_refl _) (fun b e => by cases e)); clear hown1 hg1)
    go_loop [6] (fun s => s = .int .i64 0) (fun _ => 0)
    case atStart => rfl
    case round =>
      subst hrel
      go_wp2_with (fail)
      go_loop [9] (fun s => s = .int .i64 0) (fun _ => 0)
      case atStart => rfl
      case round =>
        subst hrel
        go_wp2_with (fail)
        go_loop [11] (fun s => s = .int .i64 0) (fun _ => 0)
        case atStart => rfl
        case round =>
          subst hrel
          go_wp2_with (fail)
          go_loop [14] (fun s => s = .int .i64 0) (fun _ => 0)
          case atStart => rfl
          case round =>
            subst hrel
            go_wp2_with (fail)
            go_ret
            exact ⟨rfl, HB.out⟩
end Go.Proofs.YtbinikbgbgggaaaGreatDoor
namespace Go.Proofs.YtbinikbgbgggaaaGreatDoor
open Go.RowKit
set_option maxHeartbeats 4000000 in
set_option maxRecDepth 100000 in
theorem flatDirties_nil (w : World) : Calls Tryz.prog 71 #[.slice none 0 0] w fun e w' => e = .returned (.bool true) ∧ Below w.heap.size w w' := by
  obtain ⟨i1, hi, hz0, hz1, hz2⟩ := info_parts (P := Tryz.prog) (e := 184) (z := .slice none 0 0) (size := 1) (bytes := 24) (by kernel_rfl)
  have Hi := Lib.hid hi
  have Hz0 := Lib.hid hz0
  have Hz1 := Lib.hid hz1
  have Hb0 := Lib.hid (show i1.bytes * 0 ≤ 281474976710656 by omega)
  clear hi hz0 hz1 hz2
  go_enter Tryz.func71, Tryz.ntmps71
  go_wp2_with (fail)
  go_loop [3] (fun s => s = .int .i64 0) (fun _ => 0)
  case atStart => rfl
  case round =>
    subst hrel
    go_wp2_with (refine wpList_make_full w rfl _ _ 78 rfl w.heap.size 184 i1 (.slice none 0 0) 1 Tryz.underlying78 Hi.out Hz0.out Hz1.out .i64 .i64 _ _ 0 rfl rfl rfl rfl Hb0.out (by simp only [maxLen]; omega) (Nat.le_refl _) ?_; intro w1 hown1 hg1; have HB := Lib.hid ((Below.refl w.heap.size w).grown hg1 (Nat.le_refl _) (fun b e => by cases e)); clear hown1 hg1)
    go_loop [6] (fun s => s = .int .i64 0) (fun _ => 0)
    case atStart => rfl
    case round =>
      subst hrel
      go_wp2_with (fail)
      go_loop [9] (fun s => s = .int .i64 0) (fun _ => 0)
      case atStart => rfl
      case round =>
        subst hrel
        go_wp2_with (fail)
        go_loop [11] (fun s => s = .int .i64 0) (fun _ => 0)
        case atStart => rfl
        case round =>
          subst hrel
          go_wp2_with (fail)
          go_loop [14] (fun s => s = .int .i64 0) (fun _ => 0)
          case atStart => rfl
          case round =>
            subst hrel
            go_wp2_with (fail)
            go_ret
            exact ⟨rfl, HB.out⟩

set_option maxHeartbeats 4000000 in
set_option maxRecDepth 100000 in
theorem flatOpens_nil (w : World) : Calls Tryz.prog 72 #[.slice none 0 0] w fun e w' => e = .returned (.bool true) ∧ Below w.heap.size w w' := by
  obtain ⟨i1, hi, hz0, hz1, hz2⟩ := info_parts (P := Tryz.prog) (e := 188) (z := .slice none 0 0) (size := 1) (bytes := 24) (by kernel_rfl)
  have Hi := Lib.hid hi
  have Hz0 := Lib.hid hz0
  have Hz1 := Lib.hid hz1
  have Hb0 := Lib.hid (show i1.bytes * 0 ≤ 281474976710656 by omega)
  clear hi hz0 hz1 hz2
  go_enter Tryz.func72, Tryz.ntmps72
  go_wp2_with (fail)
  go_loop [3] (fun s => s = .int .i64 0) (fun _ => 0)
  case atStart => rfl
  case round =>
    subst hrel
    go_wp2_with (refine wpList_make_full w rfl _ _ 79 rfl w.heap.size 188 i1 (.slice none 0 0) 1 Tryz.underlying79 Hi.out Hz0.out Hz1.out .i64 .i64 _ _ 0 rfl rfl rfl rfl Hb0.out (by simp only [maxLen]; omega) (Nat.le_refl _) ?_; intro w1 hown1 hg1; have HB := Lib.hid ((Below.refl w.heap.size w).grown hg1 (Nat.le_refl _) (fun b e => by cases e)); clear hown1 hg1)
    go_loop [6] (fun s => s = .int .i64 0) (fun _ => 0)
    case atStart => rfl
    case round =>
      subst hrel
      go_wp2_with (fail)
      go_loop [9] (fun s => s = .int .i64 0) (fun _ => 0)
      case atStart => rfl
      case round =>
        subst hrel
        go_wp2_with (fail)
        go_loop [11] (fun s => s = .int .i64 0) (fun _ => 0)
        case atStart => rfl
        case round =>
          subst hrel
          go_wp2_with (fail)
          go_loop [14] (fun s => s = .int .i64 0) (fun _ => 0)
          case atStart => rfl
          case round =>
            subst hrel
            go_wp2_with (fail)
            go_ret
            exact ⟨rfl, HB.out⟩

set_option maxHeartbeats 4000000 in
set_option maxRecDepth 100000 in
theorem flatRecords_nil (w : World) : Calls Tryz.prog 73 #[.slice none 0 0] w fun e w' => e = .returned (.bool true) ∧ Below w.heap.size w w' := by
  obtain ⟨i1, hi, hz0, hz1, hz2⟩ := info_parts (P := Tryz.prog) (e := 192) (z := .slice none 0 0) (size := 1) (bytes := 24) (by kernel_rfl)
  have Hi := Lib.hid hi
  have Hz0 := Lib.hid hz0
  have Hz1 := Lib.hid hz1
  have Hb0 := Lib.hid (show i1.bytes * 0 ≤ 281474976710656 by omega)
  clear hi hz0 hz1 hz2
  go_enter Tryz.func73, Tryz.ntmps73
  go_wp2_with (fail)
  go_loop [3] (fun s => s = .int .i64 0) (fun _ => 0)
  case atStart => rfl
  case round =>
    subst hrel
    go_wp2_with (refine wpList_make_full w rfl _ _ 80 rfl w.heap.size 192 i1 (.slice none 0 0) 1 Tryz.underlying80 Hi.out Hz0.out Hz1.out .i64 .i64 _ _ 0 rfl rfl rfl rfl Hb0.out (by simp only [maxLen]; omega) (Nat.le_refl _) ?_; intro w1 hown1 hg1; have HB := Lib.hid ((Below.refl w.heap.size w).grown hg1 (Nat.le_refl _) (fun b e => by cases e)); clear hown1 hg1)
    go_loop [6] (fun s => s = .int .i64 0) (fun _ => 0)
    case atStart => rfl
    case round =>
      subst hrel
      go_wp2_with (fail)
      go_loop [9] (fun s => s = .int .i64 0) (fun _ => 0)
      case atStart => rfl
      case round =>
        subst hrel
        go_wp2_with (fail)
        go_loop [11] (fun s => s = .int .i64 0) (fun _ => 0)
        case atStart => rfl
        case round =>
          subst hrel
          go_wp2_with (fail)
          go_loop [14] (fun s => s = .int .i64 0) (fun _ => 0)
          case atStart => rfl
          case round =>
            subst hrel
            go_wp2_with (fail)
            go_ret
            exact ⟨rfl, HB.out⟩

set_option maxHeartbeats 4000000 in
set_option maxRecDepth 100000 in
theorem flatSteps_nil (w : World) : Calls Tryz.prog 74 #[.slice none 0 0] w fun e w' => e = .returned (.bool true) ∧ Below w.heap.size w w' := by
  obtain ⟨i1, hi, hz0, hz1, hz2⟩ := info_parts (P := Tryz.prog) (e := 198) (z := .slice none 0 0) (size := 1) (bytes := 24) (by kernel_rfl)
  have Hi := Lib.hid hi
  have Hz0 := Lib.hid hz0
  have Hz1 := Lib.hid hz1
  have Hb0 := Lib.hid (show i1.bytes * 0 ≤ 281474976710656 by omega)
  clear hi hz0 hz1 hz2
  go_enter Tryz.func74, Tryz.ntmps74
  go_wp2_with (fail)
  go_loop [3] (fun s => s = .int .i64 0) (fun _ => 0)
  case atStart => rfl
  case round =>
    subst hrel
    go_wp2_with (refine wpList_make_full w rfl _ _ 81 rfl w.heap.size 198 i1 (.slice none 0 0) 1 Tryz.underlying81 Hi.out Hz0.out Hz1.out .i64 .i64 _ _ 0 rfl rfl rfl rfl Hb0.out (by simp only [maxLen]; omega) (Nat.le_refl _) ?_; intro w1 hown1 hg1; have HB := Lib.hid ((Below.refl w.heap.size w).grown hg1 (Nat.le_refl _) (fun b e => by cases e)); clear hown1 hg1)
    go_loop [6] (fun s => s = .int .i64 0) (fun _ => 0)
    case atStart => rfl
    case round =>
      subst hrel
      go_wp2_with (fail)
      go_loop [9] (fun s => s = .int .i64 0) (fun _ => 0)
      case atStart => rfl
      case round =>
        subst hrel
        go_wp2_with (fail)
        go_loop [11] (fun s => s = .int .i64 0) (fun _ => 0)
        case atStart => rfl
        case round =>
          subst hrel
          go_wp2_with (fail)
          go_loop [14] (fun s => s = .int .i64 0) (fun _ => 0)
          case atStart => rfl
          case round =>
            subst hrel
            go_wp2_with (fail)
            go_ret
            exact ⟨rfl, HB.out⟩

set_option maxHeartbeats 4000000 in
set_option maxRecDepth 100000 in
theorem flatTales_nil (w : World) : Calls Tryz.prog 75 #[.slice none 0 0] w fun e w' => e = .returned (.bool true) ∧ Below w.heap.size w w' := by
  obtain ⟨i1, hi, hz0, hz1, hz2⟩ := info_parts (P := Tryz.prog) (e := 204) (z := .slice none 0 0) (size := 1) (bytes := 24) (by kernel_rfl)
  have Hi := Lib.hid hi
  have Hz0 := Lib.hid hz0
  have Hz1 := Lib.hid hz1
  have Hb0 := Lib.hid (show i1.bytes * 0 ≤ 281474976710656 by omega)
  clear hi hz0 hz1 hz2
  go_enter Tryz.func75, Tryz.ntmps75
  go_wp2_with (fail)
  go_loop [3] (fun s => s = .int .i64 0) (fun _ => 0)
  case atStart => rfl
  case round =>
    subst hrel
    go_wp2_with (refine wpList_make_full w rfl _ _ 82 rfl w.heap.size 204 i1 (.slice none 0 0) 1 Tryz.underlying82 Hi.out Hz0.out Hz1.out .i64 .i64 _ _ 0 rfl rfl rfl rfl Hb0.out (by simp only [maxLen]; omega) (Nat.le_refl _) ?_; intro w1 hown1 hg1; have HB := Lib.hid ((Below.refl w.heap.size w).grown hg1 (Nat.le_refl _) (fun b e => by cases e)); clear hown1 hg1)
    go_loop [6] (fun s => s = .int .i64 0) (fun _ => 0)
    case atStart => rfl
    case round =>
      subst hrel
      go_wp2_with (fail)
      go_loop [9] (fun s => s = .int .i64 0) (fun _ => 0)
      case atStart => rfl
      case round =>
        subst hrel
        go_wp2_with (fail)
        go_loop [11] (fun s => s = .int .i64 0) (fun _ => 0)
        case atStart => rfl
        case round =>
          subst hrel
          go_wp2_with (fail)
          go_loop [14] (fun s => s = .int .i64 0) (fun _ => 0)
          case atStart => rfl
          case round =>
            subst hrel
            go_wp2_with (fail)
            go_ret
            exact ⟨rfl, HB.out⟩
end Go.Proofs.YtbinikbgbgggaaaGreatDoor
