/- append of make([]byte, k) onto own bytes: so many noughts behind them. -/
import Derived.Test.YtbinikbgbgggaaaGreatDoorAppend
import Derived.Lib.AppendZerosOnto
namespace Go.Proofs.YtbinikbgbgggaaaGreatDoor
open Go.RowKit

theorem zero_cells (k : Nat) : (Builtin.zeroCells (Value.int .u8 0).cells k).toList = List.replicate k (.int .u8 0) := by
  apply List.ext_getElem
  · simp [Builtin.zeroCells, Value.cells]
  · intro i h1 h2
    simp [Builtin.zeroCells, Value.cells, Nat.mod_one]
theorem run_append_zeros {w : World} {base : Nat} {v : Value} {l : List UInt8} (h : OB base w v l) (k : Nat) (hl : 0 < l.length) (hsz : l.length + k ≤ 1048576) (hbase : base ≤ w.heap.size) (ty : TypeId) :
    ∃ v' w', (Builtin.append_ #[22, 3] ty #[v, .int .i64 (k : Int)]).run Tryz.prog w = .ok v' w' ∧ OB base w' v' (l ++ List.replicate k 0) ∧ w.grownBy w' v.ownBlock := by
  obtain ⟨i0, hi, hz0, hz1, hz2⟩ := info_parts Tryz.infoU8
  have hw : IntKind.i64.wrap (k : Int) = k := IntWalk.i64_in _ (by omega)
  have hneg : ¬ ((k : Int) < 0) := by omega
  have h48i : ¬ (281474976710656 < (k : Int) * ((1 : Nat) : Int)) := by omega
  have h48j : ¬ (281474976710656 < (k : Int)) := by omega
  obtain ⟨h1, ⟨rfl, h0⟩ | ⟨g, cap, cur, rfl, hg, hh, hle, hcap, hsz2, ht⟩⟩ := id h
  · omega
  by_cases hroom : l.length + k ≤ cap
  · by_cases hk0 : k = 0
    · subst hk0
      refine ⟨.slice (some ⟨g, 0, none⟩) l.length cap, w, ?_, by simpa using h, ⟨rfl, rfl, rfl, Nat.le_refl _, fun _ _ _ => rfl⟩⟩
      simp [Builtin.append_, run_underlying Tryz.underlying22, run_underlying Tryz.underlying3, sizeOf, typeInfo, hi, hz1, hz2, asInt, asIntOf, hle, storeCells, IntWalk.i64_in (0 : Int) (by omega)]
    · have hfit : l.length * 1 + (List.replicate k (Value.int .u8 0)).length ≤ cur.size := by rw [List.length_replicate, hsz2]; omega
      have hst := run_storeCells_at Tryz.prog g (l.length * 1) 5 (List.replicate k (Value.int .u8 0)) 0 cur w hh (by simpa using hfit) (fun u hu => by rw [List.eq_of_mem_replicate hu]; rfl)
      simp only [Nat.add_zero, Nat.mul_one, List.length_replicate] at hst
      have hr : (Builtin.append_ #[22, 3] ty #[.slice (some ⟨g, 0, none⟩) l.length cap, .int .i64 (k : Int)]).run Tryz.prog w = .ok (.slice (some ⟨g, 0, none⟩) (l.length + k) cap) (w.setRow g (cur.toList.take l.length ++ List.replicate k (Value.int .u8 0) ++ cur.toList.drop (l.length + k)).toArray) := by
        simp [Builtin.append_, run_underlying Tryz.underlying22, run_underlying Tryz.underlying3, sizeOf, typeInfo, zeroValue, hi, hz0, hz1, hz2, asInt, asIntOf, hw, hneg, h48i, h48j, hk0, hroom, Addr.add_lit, zero_cells, hst]
      refine ⟨_, _, hr, ⟨by simp, .inr ⟨g, cap, _, by simp, hg, setRow_heap w g cur _ 5 _ hh, by simp; omega, hcap, ?_, ?_⟩⟩, ⟨rfl, rfl, rfl, by simp, fun b _ hb => setRow_other w g b _ (fun e => hb (by simp [Value.ownBlock, e]))⟩⟩
      · simp only [List.size_toArray, List.length_append, List.length_take, List.length_drop, List.length_replicate, Array.length_toList]
        omega
      · have e1 : cur.toList.take l.length = l.map bv := by simpa using ht
        rw [e1, List.map_append, List.map_replicate, List.length_append, List.length_replicate, Nat.mul_one]
        have e2 : (l.map bv ++ List.replicate k (Value.int .u8 0)).length = l.length + k := by simp
        rw [← e2]
        exact List.take_left
  · have hold : (Builtin.firstCells i0.size l.length (.slice (some ⟨g, 0, none⟩) l.length cap)).run Tryz.prog w.drew = .ok (l.map bv).toArray w.drew := by
      have hcell := World.ownsRow.cells (World.ownsRow.drew h) (g := g) rfl
      exact run_firstCells_some (P := Tryz.prog) w.drew i0.size l.length ⟨g, 0, none⟩ l.length cap (l.map bv) (by rw [hz1]; simp) hcell
    have hr := Lib.run_append_grow_zeros (P := Tryz.prog) w 22 3 ty 5 i0 (.int .u8 0) .i64 .i64 Tryz.underlying22 Tryz.underlying3 hi hz0 (some ⟨g, 0, none⟩) l.length cap (l.map bv) hold k (by omega) (by rw [hz1]; decide) (by omega) (by omega) (by rw [hz2]; omega) (by rw [hz2]; exact growslice_fits (by omega) (by omega))
    refine ⟨_, _, hr, ?_, ⟨rfl, rfl, rfl, by simp, fun b hb _ => Below.heap_alloc w.drew _ b hb⟩⟩
    have hge := grownCap_ge w (l.length + k) cap 5
    refine ⟨by simp, .inr ⟨w.heap.size, _, _, by simp, hbase, heap_alloc_new w.drew _, by simp; exact hge, grownCap_le_maxLen w (l.length + k) cap 5 (by simp only [maxLen]; omega), ?_, ?_⟩⟩
    · simp only [Array.size_append, List.size_toArray, size_zeroCells, List.length_map, Value.cells]
      simp
      omega
    · rw [List.map_append, List.map_replicate, List.length_append, List.length_replicate, Nat.mul_one]
      have e2 : (l.map bv ++ List.replicate k (Value.int .u8 0)).length = l.length + k := by simp
      rw [← e2]
      simp only [Array.toList_append, zero_cells]
      exact List.take_left
end Go.Proofs.YtbinikbgbgggaaaGreatDoor
