/- storemankit's flat functions at no lists: each answers true and leaves all that stood. storemankit's flat functions at no lists: each answers true and leaves all that stood. A quiet walk's step at '==' of two structs, by hand. Shared by the walks of the flat functions (over TxA). (Printed by gen/flatk.py.) -/
import Derived.Test.YtbedbhlebfnohaaGreatJBase
import Derived.BigQuiet
import Derived.Laws.StructEq
import Derived.Test.YtbedbhlebfnohaaGreatKMarkT
import Derived.Test.YtbedbhlebfnohaaGreatJSame
import Derived.Test.YtbedbhlebfnohaaGreatQFillQ
import Derived.Test.YtbedbhlebfnohaaGreatBelowQ
import Derived.Deep.RegionHeld3
namespace Go.Proofs.YtbedbhlebfnohaaGreat
open Go.RowKit
set_option maxHeartbeats 4000000 in
set_option maxRecDepth 100000 in
theorem flatTells_nil (w : World) : Calls Tryz.prog 80 #[.slice none 0 0] w fun e w' => e = .returned (.bool true) ∧ Below w.heap.size w w' := by
  obtain ⟨i1, hi, hz0, hz1, hz2⟩ := info_parts (P := Tryz.prog) (e := 199) (z := .slice none 0 0) (size := 1) (bytes := 24) (by kernel_rfl)
  have Hi := Lib.hid hi
  have Hz0 := Lib.hid hz0
  have Hz1 := Lib.hid hz1
  have Hb0 := Lib.hid (show i1.bytes * 0 ≤ 281474976710656 by omega)
  clear hi hz0 hz1 hz2
  go_enter Tryz.func80, Tryz.ntmps80
  go_wp2_with (fail)
  go_loop [3] (fun s => s = .int .i64 0) (fun _ => 0)
  case atStart => rfl
  case round =>
    subst hrel
    go_wp2_with (refine wpList_make_full w rfl _ _ 88 rfl w.heap.size 199 i1 (.slice none 0 0) 1 Tryz.underlying88 Hi.out Hz0.out Hz1.out .i64 .i64 _ _ 0 rfl rfl rfl rfl Hb0.out (by simp only [maxLen]; omega) (Nat.le_refl _) ?_; intro w1 hown1 hg1; have HB := Lib.hid ((Below.refl w.heap.size w).grown hg1 (Nat.le_refl _) (fun b e => by cases e)); clear hown1 hg1)
    go_loop [6] (fun s => s = .int .i64 0) (fun _ => 0)
    case atStart => rfl
    case round =>
      subst hrel
      go_wp2_with (fail)
      go_loop [9] (fun s => s = .int .i64 0) (fun _ => 0)
      case atStart => rfl
      case round =>
        subst hrel
        go_wp2_with (fail)
        go_loop [11] (fun s => s = .int .i64 0) (fun _ => 0)
        case atStart => rfl
        case round =>
          subst hrel
          go_wp2_with (fail)
          go_loop [14] (fun s => s = .int .i64 0) (fun _ => 0)
          case atStart => rfl
          case round =>
            subst hrel
            go_wp2_with (fail)
            go_ret
            exact ⟨rfl, HB.out⟩

set_option maxHeartbeats 4000000 in
set_option maxRecDepth 100000 in
theorem flatStates_nil (w : World) : Calls Tryz.prog 81 #[.slice none 0 0] w fun e w' => e = .returned (.bool true) ∧ Below w.heap.size w w' := by
  obtain ⟨i1, hi, hz0, hz1, hz2⟩ := info_parts (P := Tryz.prog) (e := 38) (z := .slice none 0 0) (size := 1) (bytes := 24) (by kernel_rfl)
  have Hi := Lib.hid hi
  have Hz0 := Lib.hid hz0
  have Hz1 := Lib.hid hz1
  have Hb0 := Lib.hid (show i1.bytes * 0 ≤ 281474976710656 by omega)
  clear hi hz0 hz1 hz2
  go_enter Tryz.func81, Tryz.ntmps81
  go_wp2_with (fail)
  go_loop [3] (fun s => s = .int .i64 0) (fun _ => 0)
  case atStart => rfl
  case round =>
    subst hrel
    go_wp2_with (refine wpList_make_full w rfl _ _ 39 rfl w.heap.size 38 i1 (.slice none 0 0) 1 Tryz.underlying39 Hi.out Hz0.out Hz1.out .i64 .i64 _ _ 0 rfl rfl rfl rfl Hb0.out (by simp only [maxLen]; omega) (Nat.le_refl _) ?_; intro w1 hown1 hg1; have HB := Lib.hid ((Below.refl w.heap.size w).grown hg1 (Nat.le_refl _) (fun b e => by cases e)); clear hown1 hg1)
    go_loop [6] (fun s => s = .int .i64 0) (fun _ => 0)
    case atStart => rfl
    case round =>
      subst hrel
      go_wp2_with (fail)
      go_loop [9] (fun s => s = .int .i64 0) (fun _ => 0)
      case atStart => rfl
      case round =>
        subst hrel
        go_wp2_with (fail)
        go_loop [11] (fun s => s = .int .i64 0) (fun _ => 0)
        case atStart => rfl
        case round =>
          subst hrel
          go_wp2_with (fail)
          go_loop [14] (fun s => s = .int .i64 0) (fun _ => 0)
          case atStart => rfl
          case round =>
            subst hrel
            go_wp2_with (fail)
            go_ret
            exact ⟨rfl, HB.out⟩

set_option maxHeartbeats 4000000 in
set_option maxRecDepth 100000 in
theorem flatRows_nil (w : World) : Calls Tryz.prog 82 #[.slice none 0 0] w fun e w' => e = .returned (.bool true) ∧ Below w.heap.size w w' := by
  obtain ⟨i1, hi, hz0, hz1, hz2⟩ := info_parts (P := Tryz.prog) (e := 205) (z := .slice none 0 0) (size := 1) (bytes := 24) (by kernel_rfl)
  have Hi := Lib.hid hi
  have Hz0 := Lib.hid hz0
  have Hz1 := Lib.hid hz1
  have Hb0 := Lib.hid (show i1.bytes * 0 ≤ 281474976710656 by omega)
  clear hi hz0 hz1 hz2
  go_enter Tryz.func82, Tryz.ntmps82
  go_wp2_with (fail)
  go_loop [3] (fun s => s = .int .i64 0) (fun _ => 0)
  case atStart => rfl
  case round =>
    subst hrel
    go_wp2_with (refine wpList_make_full w rfl _ _ 89 rfl w.heap.size 205 i1 (.slice none 0 0) 1 Tryz.underlying89 Hi.out Hz0.out Hz1.out .i64 .i64 _ _ 0 rfl rfl rfl rfl Hb0.out (by simp only [maxLen]; omega) (Nat.le_refl _) ?_; intro w1 hown1 hg1; have HB := Lib.hid ((Below.refl w.heap.size w).grown hg1 (Nat.le_refl _) (fun b e => by cases e)); clear hown1 hg1)
    go_loop [6] (fun s => s = .int .i64 0) (fun _ => 0)
    case atStart => rfl
    case round =>
      subst hrel
      go_wp2_with (fail)
      go_loop [9] (fun s => s = .int .i64 0) (fun _ => 0)
      case atStart => rfl
      case round =>
        subst hrel
        go_wp2_with (fail)
        go_loop [11] (fun s => s = .int .i64 0) (fun _ => 0)
        case atStart => rfl
        case round =>
          subst hrel
          go_wp2_with (fail)
          go_loop [14] (fun s => s = .int .i64 0) (fun _ => 0)
          case atStart => rfl
          case round =>
            subst hrel
            go_wp2_with (fail)
            go_ret
            exact ⟨rfl, HB.out⟩

set_option maxHeartbeats 4000000 in
set_option maxRecDepth 100000 in
theorem flatTurns_nil (w : World) : Calls Tryz.prog 83 #[.slice none 0 0] w fun e w' => e = .returned (.bool true) ∧ Below w.heap.size w w' := by
  obtain ⟨i1, hi, hz0, hz1, hz2⟩ := info_parts (P := Tryz.prog) (e := 210) (z := .slice none 0 0) (size := 1) (bytes := 24) (by kernel_rfl)
  have Hi := Lib.hid hi
  have Hz0 := Lib.hid hz0
  have Hz1 := Lib.hid hz1
  have Hb0 := Lib.hid (show i1.bytes * 0 ≤ 281474976710656 by omega)
  clear hi hz0 hz1 hz2
  go_enter Tryz.func83, Tryz.ntmps83
  go_wp2_with (fail)
  go_loop [3] (fun s => s = .int .i64 0) (fun _ => 0)
  case atStart => rfl
  case round =>
    subst hrel
    go_wp2_with (refine wpList_make_full w rfl _ _ 90 rfl w.heap.size 210 i1 (.slice none 0 0) 1 Tryz.underlying90 Hi.out Hz0.out Hz1.out .i64 .i64 _ _ 0 rfl rfl rfl rfl Hb0.out (by simp only [maxLen]; omega) (Nat.le_refl _) ?_; intro w1 hown1 hg1; have HB := Lib.hid ((Below.refl w.heap.size w).grown hg1 (Nat.le_refl _) (fun b e => by cases e)); clear hown1 hg1)
    go_loop [6] (fun s => s = .int .i64 0) (fun _ => 0)
    case atStart => rfl
    case round =>
      subst hrel
      go_wp2_with (fail)
      go_loop [9] (fun s => s = .int .i64 0) (fun _ => 0)
      case atStart => rfl
      case round =>
        subst hrel
        go_wp2_with (fail)
        go_loop [11] (fun s => s = .int .i64 0) (fun _ => 0)
        case atStart => rfl
        case round =>
          subst hrel
          go_wp2_with (fail)
          go_loop [14] (fun s => s = .int .i64 0) (fun _ => 0)
          case atStart => rfl
          case round =>
            subst hrel
            go_wp2_with (fail)
            go_ret
            exact ⟨rfl, HB.out⟩

set_option maxHeartbeats 4000000 in
set_option maxRecDepth 100000 in
theorem flatFates_nil (w : World) : Calls Tryz.prog 84 #[.slice none 0 0] w fun e w' => e = .returned (.bool true) ∧ Below w.heap.size w w' := by
  obtain ⟨i1, hi, hz0, hz1, hz2⟩ := info_parts (P := Tryz.prog) (e := 215) (z := .slice none 0 0) (size := 1) (bytes := 24) (by kernel_rfl)
  have Hi := Lib.hid hi
  have Hz0 := Lib.hid hz0
  have Hz1 := Lib.hid hz1
  have Hb0 := Lib.hid (show i1.bytes * 0 ≤ 281474976710656 by omega)
  clear hi hz0 hz1 hz2
  go_enter Tryz.func84, Tryz.ntmps84
  go_wp2_with (fail)
  go_loop [3] (fun s => s = .int .i64 0) (fun _ => 0)
  case atStart => rfl
  case round =>
    subst hrel
    go_wp2_with (refine wpList_make_full w rfl _ _ 91 rfl w.heap.size 215 i1 (.slice none 0 0) 1 Tryz.underlying91 Hi.out Hz0.out Hz1.out .i64 .i64 _ _ 0 rfl rfl rfl rfl Hb0.out (by simp only [maxLen]; omega) (Nat.le_refl _) ?_; intro w1 hown1 hg1; have HB := Lib.hid ((Below.refl w.heap.size w).grown hg1 (Nat.le_refl _) (fun b e => by cases e)); clear hown1 hg1)
    go_loop [6] (fun s => s = .int .i64 0) (fun _ => 0)
    case atStart => rfl
    case round =>
      subst hrel
      go_wp2_with (fail)
      go_loop [9] (fun s => s = .int .i64 0) (fun _ => 0)
      case atStart => rfl
      case round =>
        subst hrel
        go_wp2_with (fail)
        go_loop [11] (fun s => s = .int .i64 0) (fun _ => 0)
        case atStart => rfl
        case round =>
          subst hrel
          go_wp2_with (fail)
          go_loop [14] (fun s => s = .int .i64 0) (fun _ => 0)
          case atStart => rfl
          case round =>
            subst hrel
            go_wp2_with (fail)
            go_ret
            exact ⟨rfl, HB.out⟩

set_option maxHeartbeats 4000000 in
set_option maxRecDepth 100000 in
theorem flatDirties_nil (w : World) : Calls Tryz.prog 85 #[.slice none 0 0] w fun e w' => e = .returned (.bool true) ∧ Below w.heap.size w w' := by
  obtain ⟨i1, hi, hz0, hz1, hz2⟩ := info_parts (P := Tryz.prog) (e := 219) (z := .slice none 0 0) (size := 1) (bytes := 24) (by kernel_rfl)
  have Hi := Lib.hid hi
  have Hz0 := Lib.hid hz0
  have Hz1 := Lib.hid hz1
  have Hb0 := Lib.hid (show i1.bytes * 0 ≤ 281474976710656 by omega)
  clear hi hz0 hz1 hz2
  go_enter Tryz.func85, Tryz.ntmps85
  go_wp2_with (fail)
  go_loop [3] (fun s => s = .int .i64 0) (fun _ => 0)
  case atStart => rfl
  case round =>
    subst hrel
    go_wp2_with (refine wpList_make_full w rfl _ _ 92 rfl w.heap.size 219 i1 (.slice none 0 0) 1 Tryz.underlying92 Hi.out Hz0.out Hz1.out .i64 .i64 _ _ 0 rfl rfl rfl rfl Hb0.out (by simp only [maxLen]; omega) (Nat.le_refl _) ?_; intro w1 hown1 hg1; have HB := Lib.hid ((Below.refl w.heap.size w).grown hg1 (Nat.le_refl _) (fun b e => by cases e)); clear hown1 hg1)
    go_loop [6] (fun s => s = .int .i64 0) (fun _ => 0)
    case atStart => rfl
    case round =>
      subst hrel
      go_wp2_with (fail)
      go_loop [9] (fun s => s = .int .i64 0) (fun _ => 0)
      case atStart => rfl
      case round =>
        subst hrel
        go_wp2_with (fail)
        go_loop [11] (fun s => s = .int .i64 0) (fun _ => 0)
        case atStart => rfl
        case round =>
          subst hrel
          go_wp2_with (fail)
          go_loop [14] (fun s => s = .int .i64 0) (fun _ => 0)
          case atStart => rfl
          case round =>
            subst hrel
            go_wp2_with (fail)
            go_ret
            exact ⟨rfl, HB.out⟩
end Go.Proofs.YtbedbhlebfnohaaGreat
namespace Go.Proofs.YtbedbhlebfnohaaGreat
open Go.RowKit
set_option maxHeartbeats 4000000 in
set_option maxRecDepth 100000 in
theorem flatOpens_nil (w : World) : Calls Tryz.prog 86 #[.slice none 0 0] w fun e w' => e = .returned (.bool true) ∧ Below w.heap.size w w' := by
  obtain ⟨i1, hi, hz0, hz1, hz2⟩ := info_parts (P := Tryz.prog) (e := 223) (z := .slice none 0 0) (size := 1) (bytes := 24) (by kernel_rfl)
  have Hi := Lib.hid hi
  have Hz0 := Lib.hid hz0
  have Hz1 := Lib.hid hz1
  have Hb0 := Lib.hid (show i1.bytes * 0 ≤ 281474976710656 by omega)
  clear hi hz0 hz1 hz2
  go_enter Tryz.func86, Tryz.ntmps86
  go_wp2_with (fail)
  go_loop [3] (fun s => s = .int .i64 0) (fun _ => 0)
  case atStart => rfl
  case round =>
    subst hrel
    go_wp2_with (refine wpList_make_full w rfl _ _ 93 rfl w.heap.size 223 i1 (.slice none 0 0) 1 Tryz.underlying93 Hi.out Hz0.out Hz1.out .i64 .i64 _ _ 0 rfl rfl rfl rfl Hb0.out (by simp only [maxLen]; omega) (Nat.le_refl _) ?_; intro w1 hown1 hg1; have HB := Lib.hid ((Below.refl w.heap.size w).grown hg1 (Nat.le_refl _) (fun b e => by cases e)); clear hown1 hg1)
    go_loop [6] (fun s => s = .int .i64 0) (fun _ => 0)
    case atStart => rfl
    case round =>
      subst hrel
      go_wp2_with (fail)
      go_loop [9] (fun s => s = .int .i64 0) (fun _ => 0)
      case atStart => rfl
      case round =>
        subst hrel
        go_wp2_with (fail)
        go_loop [11] (fun s => s = .int .i64 0) (fun _ => 0)
        case atStart => rfl
        case round =>
          subst hrel
          go_wp2_with (fail)
          go_loop [14] (fun s => s = .int .i64 0) (fun _ => 0)
          case atStart => rfl
          case round =>
            subst hrel
            go_wp2_with (fail)
            go_ret
            exact ⟨rfl, HB.out⟩

set_option maxHeartbeats 4000000 in
set_option maxRecDepth 100000 in
theorem flatRecords_nil (w : World) : Calls Tryz.prog 87 #[.slice none 0 0] w fun e w' => e = .returned (.bool true) ∧ Below w.heap.size w w' := by
  obtain ⟨i1, hi, hz0, hz1, hz2⟩ := info_parts (P := Tryz.prog) (e := 227) (z := .slice none 0 0) (size := 1) (bytes := 24) (by kernel_rfl)
  have Hi := Lib.hid hi
  have Hz0 := Lib.hid hz0
  have Hz1 := Lib.hid hz1
  have Hb0 := Lib.hid (show i1.bytes * 0 ≤ 281474976710656 by omega)
  clear hi hz0 hz1 hz2
  go_enter Tryz.func87, Tryz.ntmps87
  go_wp2_with (fail)
  go_loop [3] (fun s => s = .int .i64 0) (fun _ => 0)
  case atStart => rfl
  case round =>
    subst hrel
    go_wp2_with (refine wpList_make_full w rfl _ _ 94 rfl w.heap.size 227 i1 (.slice none 0 0) 1 Tryz.underlying94 Hi.out Hz0.out Hz1.out .i64 .i64 _ _ 0 rfl rfl rfl rfl Hb0.out (by simp only [maxLen]; omega) (Nat.le_refl _) ?_; intro w1 hown1 hg1; have HB := Lib.hid ((Below.refl w.heap.size w).grown hg1 (Nat.le_refl _) (fun b e => by cases e)); clear hown1 hg1)
    go_loop [6] (fun s => s = .int .i64 0) (fun _ => 0)
    case atStart => rfl
    case round =>
      subst hrel
      go_wp2_with (fail)
      go_loop [9] (fun s => s = .int .i64 0) (fun _ => 0)
      case atStart => rfl
      case round =>
        subst hrel
        go_wp2_with (fail)
        go_loop [11] (fun s => s = .int .i64 0) (fun _ => 0)
        case atStart => rfl
        case round =>
          subst hrel
          go_wp2_with (fail)
          go_loop [14] (fun s => s = .int .i64 0) (fun _ => 0)
          case atStart => rfl
          case round =>
            subst hrel
            go_wp2_with (fail)
            go_ret
            exact ⟨rfl, HB.out⟩

set_option maxHeartbeats 4000000 in
set_option maxRecDepth 100000 in
theorem flatSteps_nil (w : World) : Calls Tryz.prog 88 #[.slice none 0 0] w fun e w' => e = .returned (.bool true) ∧ Below w.heap.size w w' := by
  obtain ⟨i1, hi, hz0, hz1, hz2⟩ := info_parts (P := Tryz.prog) (e := 233) (z := .slice none 0 0) (size := 1) (bytes := 24) (by kernel_rfl)
  have Hi := Lib.hid hi
  have Hz0 := Lib.hid hz0
  have Hz1 := Lib.hid hz1
  have Hb0 := Lib.hid (show i1.bytes * 0 ≤ 281474976710656 by omega)
  clear hi hz0 hz1 hz2
  go_enter Tryz.func88, Tryz.ntmps88
  go_wp2_with (fail)
  go_loop [3] (fun s => s = .int .i64 0) (fun _ => 0)
  case atStart => rfl
  case round =>
    subst hrel
    go_wp2_with (refine wpList_make_full w rfl _ _ 95 rfl w.heap.size 233 i1 (.slice none 0 0) 1 Tryz.underlying95 Hi.out Hz0.out Hz1.out .i64 .i64 _ _ 0 rfl rfl rfl rfl Hb0.out (by simp only [maxLen]; omega) (Nat.le_refl _) ?_; intro w1 hown1 hg1; have HB := Lib.hid ((Below.refl w.heap.size w).grown hg1 (Nat.le_refl _) (fun b e => by cases e)); clear hown1 hg1)
    go_loop [6] (fun s => s = .int .i64 0) (fun _ => 0)
    case atStart => rfl
    case round =>
      subst hrel
      go_wp2_with (fail)
      go_loop [9] (fun s => s = .int .i64 0) (fun _ => 0)
      case atStart => rfl
      case round =>
        subst hrel
        go_wp2_with (fail)
        go_loop [11] (fun s => s = .int .i64 0) (fun _ => 0)
        case atStart => rfl
        case round =>
          subst hrel
          go_wp2_with (fail)
          go_loop [14] (fun s => s = .int .i64 0) (fun _ => 0)
          case atStart => rfl
          case round =>
            subst hrel
            go_wp2_with (fail)
            go_ret
            exact ⟨rfl, HB.out⟩

set_option maxHeartbeats 4000000 in
set_option maxRecDepth 100000 in
theorem flatTales_nil (w : World) : Calls Tryz.prog 89 #[.slice none 0 0] w fun e w' => e = .returned (.bool true) ∧ Below w.heap.size w w' := by
  obtain ⟨i1, hi, hz0, hz1, hz2⟩ := info_parts (P := Tryz.prog) (e := 239) (z := .slice none 0 0) (size := 1) (bytes := 24) (by kernel_rfl)
  have Hi := Lib.hid hi
  have Hz0 := Lib.hid hz0
  have Hz1 := Lib.hid hz1
  have Hb0 := Lib.hid (show i1.bytes * 0 ≤ 281474976710656 by omega)
  clear hi hz0 hz1 hz2
  go_enter Tryz.func89, Tryz.ntmps89
  go_wp2_with (fail)
  go_loop [3] (fun s => s = .int .i64 0) (fun _ => 0)
  case atStart => rfl
  case round =>
    subst hrel
    go_wp2_with (refine wpList_make_full w rfl _ _ 96 rfl w.heap.size 239 i1 (.slice none 0 0) 1 Tryz.underlying96 Hi.out Hz0.out Hz1.out .i64 .i64 _ _ 0 rfl rfl rfl rfl Hb0.out (by simp only [maxLen]; omega) (Nat.le_refl _) ?_; intro w1 hown1 hg1; have HB := Lib.hid ((Below.refl w.heap.size w).grown hg1 (Nat.le_refl _) (fun b e => by cases e)); clear hown1 hg1)
    go_loop [6] (fun s => s = .int .i64 0) (fun _ => 0)
    case atStart => rfl
    case round =>
      subst hrel
      go_wp2_with (fail)
      go_loop [9] (fun s => s = .int .i64 0) (fun _ => 0)
      case atStart => rfl
      case round =>
        subst hrel
        go_wp2_with (fail)
        go_loop [11] (fun s => s = .int .i64 0) (fun _ => 0)
        case atStart => rfl
        case round =>
          subst hrel
          go_wp2_with (fail)
          go_loop [14] (fun s => s = .int .i64 0) (fun _ => 0)
          case atStart => rfl
          case round =>
            subst hrel
            go_wp2_with (fail)
            go_ret
            exact ⟨rfl, HB.out⟩
end Go.Proofs.YtbedbhlebfnohaaGreat
namespace Go.Proofs.YtbedbhlebfnohaaGreat.Tx

theorem quiet_eql {P : Program} {C : World → Prop} {K : Act → Prop} {a : Act} {d : Option Tmp} {t : TypeId} {x y : Operand} {z : TypeId} {ty : TypeId} {pos : String} {after : Array Edge} {gd : Option (Nat × Bool)} (xs ys : Array Value) (b : Bool)
    (hx : a.eval x = .agg xs) (hy : a.eval y = .agg ys) (hm : P.eqGuardType P.depth t = false) (heq : ∀ w, (Op.equalIn 10000 t (.agg xs) (.agg ys)).run P w = .ok b w)
    (h : Oper.quiet P (Oper.mk d (.assign (.const (.bool b))) ty pos after gd) a C K) : Oper.quiet P (Oper.mk d (.binOp .eql t x y z) ty pos after gd) a C K := by
  obtain ⟨v, h1, h2⟩ := h
  refine ⟨v, fun w hw => ?_, h2⟩
  have h3 := h1 w hw
  unfold Oper.quietAt at h3 ⊢
  rw [BigFrame.run_assign (.const (.bool b)) rfl] at h3
  have e : (execOp a.eval (Oper.mk d (.binOp .eql t x y z) ty pos after gd)).run P w = .ok (.value (.bool b)) w := by
    unfold execOp
    simp only [hx, hy, Sem.run_bind, Sem.run_pure, run_eqGuard_agg _ _ _ _ _ _ _ hm, run_eql_struct, heq, Result.andThen_ok]
  rw [e]
  exact h3
end Go.Proofs.YtbedbhlebfnohaaGreat.Tx
namespace Go.Proofs.YtbedbhlebfnohaaGreat.Tx
open Go.RowKit

theorem lst_src (W : World) (L : List Value) (t : TypeId) : ∀ j u, L[j]? = some u → (W.alloc (.cells L.toArray t)).cell? ((⟨W.heap.size, 0, none⟩ : Addr).add j) = some u := by
  intro j u hu
  have e : (⟨W.heap.size, 0, none⟩ : Addr).add j = ⟨W.heap.size, 0 + j, none⟩ := by unfold Addr.add; split <;> simp_all
  rw [e]
  simp only [World.cell?, (Go.MapKept.heap_alloc W _).1]
  simpa using hu
theorem mark_any (k i : Nat) (w : World) (hk : k ≤ 1000000) (hi : i ≤ 1125899906842624) :
    Calls Tryz.prog 92 #[.int .i64 k, .int .i64 i] w fun e w' => e = .returned (.int .i64 (markN k i : Nat)) ∧ w = w' := by
  have hf : ((markN k i : Nat) : Int) = 1000003 * ((k : Int) + 7) + (i : Int) := by unfold markN; omega
  have Hf := Lib.hid hf
  clear hf
  go_enter Tryz.func92, Tryz.ntmps92
  go_wp2_with (fail)
  go_ret
  exact ⟨by rw [Hf.out]; rfl, rfl⟩
theorem markN_bd (k i : Nat) (hk : k ≤ 1000000) (hi : i ≤ 1125899906842624) : markN k i ≤ 2251799813685248 := by unfold markN; omega
end Go.Proofs.YtbedbhlebfnohaaGreat.Tx
