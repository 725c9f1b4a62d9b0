/- append of make([]byte, k) onto own bytes: so many noughts behind them. storemanref21.Page.Put: a page's bytes. -/
import Derived.Test.YtbinikbgbgggaaaGreatDoorAppend
import Derived.Lib.AppendZerosOnto
import Derived.Test.YtbinikbgbgggaaaGreatDoorRefD
import Derived.Test.YtbinikbgbgggaaaGreatDoorLawB
import Derived.Deep.RegionHeldLaw
namespace Go.Proofs.YtbinikbgbgggaaaGreatDoor
open Go.RowKit

theorem zero_cells (k : Nat) : (Builtin.zeroCells (Value.int .u8 0).cells k).toList = List.replicate k (.int .u8 0) := by
  apply List.ext_getElem
  · simp [Builtin.zeroCells, Value.cells]
  · intro i h1 h2
    simp [Builtin.zeroCells, Value.cells, Nat.mod_one]
theorem run_append_zeros {w : World} {base : Nat} {v : Value} {l : List UInt8} (h : OB base w v l) (k : Nat) (hl : 0 < l.length) (hsz : l.length + k ≤ 1048576) (hbase : base ≤ w.heap.size) (ty : TypeId) :
    ∃ v' w', (Builtin.append_ #[22, 3] ty #[v, .int .i64 (k : Int)]).run Tryz.prog w = .ok v' w' ∧ OB base w' v' (l ++ List.replicate k 0) ∧ w.grownBy w' v.ownBlock := by
  obtain ⟨i0, hi, hz0, hz1, hz2⟩ := info_parts Tryz.infoU8
  have hw : IntKind.i64.wrap (k : Int) = k := IntWalk.i64_in _ (by omega)
  have hneg : ¬ ((k : Int) < 0) := by omega
  have h48i : ¬ (281474976710656 < (k : Int) * ((1 : Nat) : Int)) := by omega
  have h48j : ¬ (281474976710656 < (k : Int)) := by omega
  obtain ⟨h1, ⟨rfl, h0⟩ | ⟨g, cap, cur, rfl, hg, hh, hle, hcap, hsz2, ht⟩⟩ := id h
  · omega
  by_cases hroom : l.length + k ≤ cap
  · by_cases hk0 : k = 0
    · subst hk0
      refine ⟨.slice (some ⟨g, 0, none⟩) l.length cap, w, ?_, by simpa using h, ⟨rfl, rfl, rfl, Nat.le_refl _, fun _ _ _ => rfl⟩⟩
      simp [Builtin.append_, run_underlying Tryz.underlying22, run_underlying Tryz.underlying3, sizeOf, typeInfo, hi, hz1, hz2, asInt, asIntOf, hle, storeCells, IntWalk.i64_in (0 : Int) (by omega)]
    · have hfit : l.length * 1 + (List.replicate k (Value.int .u8 0)).length ≤ cur.size := by rw [List.length_replicate, hsz2]; omega
      have hst := run_storeCells_at Tryz.prog g (l.length * 1) 5 (List.replicate k (Value.int .u8 0)) 0 cur w hh (by simpa using hfit) (fun u hu => by rw [List.eq_of_mem_replicate hu]; rfl)
      simp only [Nat.add_zero, Nat.mul_one, List.length_replicate] at hst
      have hr : (Builtin.append_ #[22, 3] ty #[.slice (some ⟨g, 0, none⟩) l.length cap, .int .i64 (k : Int)]).run Tryz.prog w = .ok (.slice (some ⟨g, 0, none⟩) (l.length + k) cap) (w.setRow g (cur.toList.take l.length ++ List.replicate k (Value.int .u8 0) ++ cur.toList.drop (l.length + k)).toArray) := by
        simp [Builtin.append_, run_underlying Tryz.underlying22, run_underlying Tryz.underlying3, sizeOf, typeInfo, zeroValue, hi, hz0, hz1, hz2, asInt, asIntOf, hw, hneg, h48i, h48j, hk0, hroom, Addr.add_lit, zero_cells, hst]
      refine ⟨_, _, hr, ⟨by simp, .inr ⟨g, cap, _, by simp, hg, setRow_heap w g cur _ 5 _ hh, by simp; omega, hcap, ?_, ?_⟩⟩, ⟨rfl, rfl, rfl, by simp, fun b _ hb => setRow_other w g b _ (fun e => hb (by simp [Value.ownBlock, e]))⟩⟩
      · simp only [List.size_toArray, List.length_append, List.length_take, List.length_drop, List.length_replicate, Array.length_toList]
        omega
      · have e1 : cur.toList.take l.length = l.map bv := by simpa using ht
        rw [e1, List.map_append, List.map_replicate, List.length_append, List.length_replicate, Nat.mul_one]
        have e2 : (l.map bv ++ List.replicate k (Value.int .u8 0)).length = l.length + k := by simp
        rw [← e2]
        exact List.take_left
  · have hold : (Builtin.firstCells i0.size l.length (.slice (some ⟨g, 0, none⟩) l.length cap)).run Tryz.prog w.drew = .ok (l.map bv).toArray w.drew := by
      have hcell := World.ownsRow.cells (World.ownsRow.drew h) (g := g) rfl
      exact run_firstCells_some (P := Tryz.prog) w.drew i0.size l.length ⟨g, 0, none⟩ l.length cap (l.map bv) (by rw [hz1]; simp) hcell
    have hr := Lib.run_append_grow_zeros (P := Tryz.prog) w 22 3 ty 5 i0 (.int .u8 0) .i64 .i64 Tryz.underlying22 Tryz.underlying3 hi hz0 (some ⟨g, 0, none⟩) l.length cap (l.map bv) hold k (by omega) (by rw [hz1]; decide) (by omega) (by omega) (by rw [hz2]; omega) (by rw [hz2]; exact growslice_fits (by omega) (by omega))
    refine ⟨_, _, hr, ?_, ⟨rfl, rfl, rfl, by simp, fun b hb _ => Below.heap_alloc w.drew _ b hb⟩⟩
    have hge := grownCap_ge w (l.length + k) cap 5
    refine ⟨by simp, .inr ⟨w.heap.size, _, _, by simp, hbase, heap_alloc_new w.drew _, by simp; exact hge, grownCap_le_maxLen w (l.length + k) cap 5 (by simp only [maxLen]; omega), ?_, ?_⟩⟩
    · simp only [Array.size_append, List.size_toArray, size_zeroCells, List.length_map, Value.cells]
      simp
      omega
    · rw [List.map_append, List.map_replicate, List.length_append, List.length_replicate, Nat.mul_one]
      have e2 : (l.map bv ++ List.replicate k (Value.int .u8 0)).length = l.length + k := by simp
      rw [← e2]
      simp only [Array.toList_append, zero_cells]
      exact List.take_left
end Go.Proofs.YtbinikbgbgggaaaGreatDoor
namespace Go.Proofs.YtbinikbgbgggaaaGreatDoor
open Go.RowKit Go.Shelf

/-- A page's head out of its numbers. -/
def headOf (y x : Nat) : List UInt8 := be8 y ++ [UInt8.ofNat (x / 256), UInt8.ofNat x]
theorem headOf_len (y x : Nat) : (headOf y x).length = 10 := by simp [headOf, be8_len]
theorem byte_lit (w : World) (b : UInt8) (x : Int) (hx : x = (b.toNat : Int)) : RB (w.alloc (.cells #[.int .u8 x] 5)).heap.size (w.alloc (.cells #[.int .u8 x] 5)) (some ⟨w.heap.size, 0, none⟩) 1 1 [b] := by
  subst hx; exact lit_rb w [b] (0, 0) (by simp)
theorem byteOf_mod (n : Nat) : ((byteOf n).toNat : Int) = (n : Int) % 256 := by unfold byteOf; rw [UInt8.toNat_ofNat']; omega
theorem byte2_lit (w : World) (i j : Nat) : RB (w.alloc (.cells #[.int .u8 ((i : Int) % 256), .int .u8 ((j : Int) % 256)] 5)).heap.size (w.alloc (.cells #[.int .u8 ((i : Int) % 256), .int .u8 ((j : Int) % 256)] 5)) (some ⟨w.heap.size, 0, none⟩) 2 2 [byteOf i, byteOf j] := by
  have h := lit_rb w [byteOf i, byteOf j] (0, 0) (by simp)
  have e : ([byteOf i, byteOf j].map bv).toArray = #[.int .u8 ((i : Int) % 256), .int .u8 ((j : Int) % 256)] := by
    show #[bv _, bv _] = _
    unfold bv
    rw [byteOf_mod, byteOf_mod]
  rw [e] at h
  exact h
theorem encR_split (r : Rw) : encR r = [byteOf r.1.length, byteOf r.2.length] ++ r.1 ++ r.2 := by simp [encR]

/-- What Put answers. -/
def PutR (w : World) (y x : Nat) (R : List Rw) (e : Ending) (w' : World) : Prop := (∃ v, e = .returned (.tuple #[v, .bool (decide ((enc R).length ≤ 501))]) ∧ ((enc R).length ≤ 501 → OB w.heap.size w' v (mkP (headOf y x) R))) ∧ Below w.heap.size w w'
theorem step_append_bytes {w : World} {ops : Array Oper} {o : Oper} {a : Act} {K : Act → World → Prop} {Q : Exit → Act → World → Prop} {E : Prop} (hgd : o.guard = none) (s x : Operand)
    (ho : o.op = .call { callee := .builtin .append, args := #[s, x], argTypes := #[22, 22] })
    (base B : Nat) (v : Value) (l : List UInt8) (hs : a.eval s = v) (hown : OB base w v l) (sa : Option Addr) (m c : Nat) (k : List UInt8) (hx : a.eval x = .slice sa m c) (hsrc : RB B w sa m c k)
    (hlen : l.length + k.length ≤ 140737488355328) (hbase : base ≤ w.heap.size)
    (h : ∀ a' c' w', OB base w' (.slice a' (l ++ k).length c') (l ++ k) → w.grownBy w' v.ownBlock → K (a.put o.dst (.slice a' (l ++ k).length c')) w') :
    if Region.wanted o (yielded ops a.tmps) = true then Oper.wp Tryz.prog o a w K Q else E := by
  have hw : Region.wanted o (yielded ops a.tmps) = true := by simp [Region.wanted, hgd]
  rw [if_pos hw]
  obtain ⟨v', w', hr, h2, h3, -⟩ := run_append_bytes hown hsrc hlen hbase o.type
  obtain ⟨a', c', rfl, -⟩ := h2.rb (by rw [List.length_append]; exact hlen)
  unfold Oper.wp execOp
  simp only [ho, resolve, invoke, builtin, Sem.run_bind, Sem.run_pure, Result.andThen_ok, List.map_toArray, List.map_cons, List.map_nil, hs, hx, hr]
  exact h a' c' w' h2 h3

set_option maxHeartbeats 4000000 in
set_option maxRecDepth 100000 in
theorem Put_any (y x : Nat) (va : Option Addr) (n vc : Nat) (R : List Rw) (w : World) (hy : y < 9223372036854775808) (hx : x < 8192) (hR : RowsAt w.heap.size w va n vc R) (hen : (enc R).length ≤ 100000) (hl : R.length ≤ 1000) :
    Calls Tryz.prog 137 #[.agg #[.int .i64 (y : Int), .int .i64 (x : Int), .slice va n vc]] w (PutR w y x R) := by
  have hln := hR.len
  have hle := hR.le
  have hmx := hR.mx
  have Hln := Lib.hid hln
  have HR := Lib.hid hR
  have Hen := Lib.hid hen
  have Hl := Lib.hid hl
  have hnb : n ≤ 1000 := by omega
  have hp := P3.new w (y : Int) (x : Int) (.slice va n vc)
  have hbw : Below w.heap.size w (w.alloc (.cells #[.int .i64 (y : Int), .int .i64 (x : Int), .slice va n vc] 94)) := (Below.refl _ w).alloc (Nat.le_refl _) _
  obtain ⟨z, hz⟩ : ∃ z, z = w.heap.size := ⟨_, rfl⟩
  obtain ⟨W0, hW0⟩ : ∃ W0, W0 = w.alloc (.cells #[.int .i64 (y : Int), .int .i64 (x : Int), .slice va n vc] 94) := ⟨_, rfl⟩
  have hs0 : W0.heap.size = z + 1 := by rw [hW0, World.size_alloc, hz]
  rw [← hW0, ← hz] at hp
  rw [← hW0] at hbw
  have Hp := Lib.hid hp
  have Hbw := Lib.hid hbw
  have Hz := Lib.hid hz
  have HW0 := Lib.hid hW0
  have Hs0 := Lib.hid hs0
  clear hln hR hen hl hp hbw hz hW0 hs0
  go_enter Tryz.func137, Tryz.ntmps137
  go_wp2_with (fail)
  rw [← HW0.out, ← Hz.out]
  go_loopw [4, 5] (fun s4 s5 wr => ∃ (j : Nat) (oa : Option Addr) (oc : Nat), j ≤ 8 ∧ s5 = .int .i64 (7 - (j : Int)) ∧ s4 = .slice oa j oc ∧ Hid (OB (z + 1) wr (.slice oa j oc) ((be8 y).take j)) ∧ Hid (Below (z + 1) W0 wr)) (fun _ s5 _ => (intOf s5 + 1).toNat)
  case atStart => exact ⟨0, none, 0, by omega, by simp, rfl, Lib.hid (OB.nil _ _), Lib.hid (Below.refl _ _)⟩
  case round =>
    obtain ⟨j, oa, oc, hj, rfl, rfl, ho, hb⟩ := hrel
    by_cases hlt : j < 8
    · obtain ⟨p0, -, -⟩ := (Hp.out.below hb.out (by omega)).cells
      have i1 : (0 : Int) ≤ 7 - (j : Int) := by omega
      have i2 : decide ((j : Int) ≤ 7) = true := decide_eq_true (by omega)
      have hb8 : (y : Int) / 2 ^ (8 * (7 - j)) % 256 = ((UInt8.ofNat (y / 2 ^ (56 - 8 * j))).toNat : Int) := by
        rw [UInt8.toNat_ofNat', Int.natCast_emod, Int.natCast_ediv, Int.natCast_pow, show 8 * (7 - j) = 56 - 8 * j by omega]; rfl
      have Hbyte := Lib.hid (byte_lit wr _ _ hb8)
      have Hown := Lib.hid (ho.out.below ((Below.refl wr.heap.size wr).alloc (Nat.le_refl _) (.cells #[.int .u8 ((y : Int) / 2 ^ (8 * (7 - j)) % 256)] 5)))
      have htk : (be8 y).take (j + 1) = (be8 y).take j ++ [UInt8.ofNat (y / 2 ^ (56 - 8 * j))] := by rw [List.take_add_one, be8_get y j hlt]; rfl
      have htl : ((be8 y).take j ++ [UInt8.ofNat (y / 2 ^ (56 - 8 * j))]).length = j + 1 := by rw [List.length_append, List.length_take, be8_len]; simp; omega
      have hbn : z + 1 ≤ wr.heap.size := by have := hb.out.size; have := Hs0.out; omega
      have Htk := Lib.hid htk
      have Htl := Lib.hid htl
      have Hge := Lib.hid (fun b e => (OB.own ho.out b e).1)
      clear hb8 htk htl
      go_wp2_with (at_builtin; refine wpList_append_bytes rfl _ _ rfl (z + 1) _ _ ((be8 y).take j) rfl Hown.out _ 1 1 [UInt8.ofNat (y / 2 ^ (56 - 8 * j))] rfl Hbyte.out (by simp; omega) (by rw [World.size_alloc]; omega) ?_; intro v' w2 ho2 hg2 _; obtain ⟨a2, c2, rfl, -⟩ := ho2.rb (by simp; omega); rw [Htl.out] at ho2 ⊢; rw [← Htk.out] at ho2; have Ho2 := Lib.hid ho2; have Hg2 := Lib.hid hg2; clear ho2 hg2)
      go_roundw
      case rel => exact ⟨j + 1, a2, c2, by omega, by congr 1; omega, rfl, Ho2, Lib.hid ((hb.out.alloc hbn _).grown Hg2.out (by rw [World.size_alloc]; omega) (fun k e => Hge.out k e))⟩
      case measure => simp [intOf]; omega
    · have ej : j = 8 := by omega
      subst ej
      have ht8 : (be8 y).take 8 = be8 y := List.take_of_length_le (by rw [be8_len]; exact Nat.le_refl _)
      rw [ht8] at ho
      obtain ⟨p0, p1, p2⟩ := (Hp.out.below hb.out (by omega)).cells
      have hbn : z + 1 ≤ wr.heap.size := by have := hb.out.size; have := Hs0.out; omega
      have Hrb3 := Lib.hid (lit_rb wr [UInt8.ofNat (x / 256), UInt8.ofNat x, byteOf n] (0, 0) (by simp))
      have e3 : ([UInt8.ofNat (x / 256), UInt8.ofNat x, byteOf n].map bv).toArray = #[.int .u8 ((x : Int) / 256), .int .u8 ((x : Int) % 256), .int .u8 ((n : Int) % 256)] := by
        have b1 : ((UInt8.ofNat (x / 256)).toNat : Int) = (x : Int) / 256 := by rw [UInt8.toNat_ofNat']; omega
        have b2 : ((UInt8.ofNat x).toNat : Int) = (x : Int) % 256 := by rw [UInt8.toNat_ofNat']; omega
        have b3 := byteOf_mod n
        show #[bv _, bv _, bv _] = _
        unfold bv
        rw [b1, b2, b3]
      rw [e3] at Hrb3
      have Hown := Lib.hid (ho.out.below ((Below.refl wr.heap.size wr).alloc (Nat.le_refl _) (.cells #[.int .u8 ((x : Int) / 256), .int .u8 ((x : Int) % 256), .int .u8 ((n : Int) % 256)] 5)))
      have hx2 : (x : Int) / 256 % 256 = (x : Int) / 256 := by omega
      have Hge := Lib.hid (fun b e => (OB.own ho.out b e).1)
      have hl11 : (be8 y ++ [UInt8.ofNat (x / 256), UInt8.ofNat x, byteOf n]).length = 11 := by simp [be8_len]
      have hh : be8 y ++ [UInt8.ofNat (x / 256), UInt8.ofNat x, byteOf n] = headOf y x ++ [byteOf n] := by simp [headOf]
      have Hl11 := Lib.hid hl11
      have Hh := Lib.hid hh
      clear ht8 e3 hl11 hh
      go_wp2_with (at_builtin; refine wpList_append_bytes rfl _ _ rfl (z + 1) _ _ (be8 y) rfl Hown.out _ 3 3 [UInt8.ofNat (x / 256), UInt8.ofNat x, byteOf n] rfl Hrb3.out (by simp [be8_len]) (by rw [World.size_alloc]; omega) ?_; intro v' w2 ho2 hg2 _; obtain ⟨a2, c2, rfl, -⟩ := ho2.rb (by simp [be8_len]); rw [Hl11.out] at ho2 ⊢; rw [Hh.out] at ho2; have Ho2 := Lib.hid ho2; have Hg2 := Lib.hid hg2; clear ho2 hg2)
      have Hb2 := Lib.hid ((hb.out.alloc hbn (.cells #[.int .u8 ((x : Int) / 256), .int .u8 ((x : Int) % 256), .int .u8 ((n : Int) % 256)] 5)).grown Hg2.out (by rw [World.size_alloc]; omega) (fun k e => Hge.out k e))
      clear p0 p1 p2 Hrb3 hb ho
      go_loopw [4, 6] (fun s4 s6 wr => ∃ (k : Nat) (oa : Option Addr) (oc e : Nat), k ≤ n ∧ s6 = .int .i64 k ∧ s4 = .slice oa (11 + e) oc ∧ Hid (e = (enc (R.take k)).length) ∧ Hid (OB (z + 1) wr (.slice oa (11 + e) oc) (headOf y x ++ [byteOf n] ++ enc (R.take k))) ∧ Hid (Below (z + 1) W0 wr)) (fun _ s6 _ => n - (intOf s6).toNat)
      case atStart => exact ⟨0, a2, c2, 0, Nat.zero_le _, rfl, rfl, Lib.hid rfl, by simpa [enc] using Ho2, Hb2⟩
      case round =>
        clear Ho2 Hb2 Hg2
        obtain ⟨wr, rfl⟩ : ∃ q, q = wr := ⟨_, rfl⟩
        obtain ⟨k, oa, oc, E, hk, rfl, rfl, HE, ho, hb⟩ := hrel
        have hbw : Below w.heap.size w wr := Hbw.out.trans (hb.out.mono (by have := Hz.out; omega))
        have HBw := Lib.hid hbw
        have hsw := hbw.size
        have hbn : z + 1 ≤ wr.heap.size := by have := hb.out.size; have := Hs0.out; omega
        obtain ⟨-, -, p2⟩ := (Hp.out.below hb.out (by omega)).cells
        have hEm : E ≤ 100000 := by
          have h := enc_len_append (R.take k) (R.drop k)
          rw [List.take_append_drop] at h
          have := HE.out
          have := Hen.out
          omega
        by_cases hkn : k < n
        · obtain ⟨b', o', rfl, hB', hi⟩ := HR.out.at_ (by omega)
          have hkR : k < R.length := by have := Hln.out; omega
          have hget := List.getElem?_eq_getElem hkR
          have henc := enc_take R k _ hget
          obtain ⟨ka, kn, kc, va2, vn2, vc2, h1, h2, h3, h4⟩ := hi k _ hget
          obtain ⟨r, hrk⟩ : ∃ r, r = R[k] := ⟨_, rfl⟩
          rw [← hrk] at h3 h4 henc
          have hall : (enc (R.take (k + 1))).length ≤ (enc R).length := by
            have h := enc_len_append (R.take (k + 1)) (R.drop (k + 1))
            rw [List.take_append_drop] at h
            omega
          have hRk : R.take (k + 1) = R.take k ++ [r] := by rw [List.take_succ_eq_append_getElem hkR, hrk]
          have l1 := h3.len
          have l2 := h4.len
          have hEb : E + (2 + kn + vn2) ≤ 100000 := by have := Hen.out; have := HE.out; omega
          have HE2 : Hid (E + (2 + kn + vn2) = (enc (R.take (k + 1))).length) := Lib.hid (by have := HE.out; omega)
          have HRk := Lib.hid hRk
          have L1 := Lib.hid l1
          have L2 := Lib.hid l2
          have c0 := (hbw.cell hB').trans h1
          have c1 := (hbw.cell hB').trans h2
          have H3 := Lib.hid h3
          have H4 := Lib.hid h4
          have C0 : Hid (∀ W, Below (z + 1) wr W → W.cell? ⟨b', o' + k * 2, none⟩ = some (.slice ka kn kc) ∧ W.cell? ⟨b', o' + k * 2 + 1, none⟩ = some (.slice va2 vn2 vc2) ∧ W.cell? ⟨z, 2, none⟩ = some (.slice (some ⟨b', o', none⟩) n vc)) := Lib.hid fun W h => ⟨(h.cell (by show b' < z + 1; have := Hz.out; omega)).trans c0, (h.cell (by show b' < z + 1; have := Hz.out; omega)).trans c1, (h.cell (by show z < z + 1; omega)).trans p2⟩
          have o4 : (k : Int) < (n : Int) := by omega
          have o5 : (0 : Int) ≤ (k : Int) := by omega
          clear hget henc h1 h2 h3 h4 l1 l2 hall hi hrk hRk hbw
          go_wp2_with (fail)
          have Hl2 : Hid (RB (wr.alloc (.cells #[.int .u8 ((kn : Int) % 256), .int .u8 ((vn2 : Int) % 256)] 5)).drew.heap.size (wr.alloc (.cells #[.int .u8 ((kn : Int) % 256), .int .u8 ((vn2 : Int) % 256)] 5)).drew (some ⟨wr.heap.size, 0, none⟩) 2 2 [byteOf kn, byteOf vn2]) := Lib.hid ((byte2_lit wr kn vn2).below (Below.refl _ _).drew)
          have w1 : IntKind.u8.wrap (kn : Int) = (kn : Int) % 256 := by unfold IntKind.wrap; simp [IntKind.bits, IntKind.signed]
          have w2 : IntKind.u8.wrap (vn2 : Int) = (vn2 : Int) % 256 := by unfold IntKind.wrap; simp [IntKind.bits, IntKind.signed]
          have Hge := Lib.hid (fun b e => (OB.own ho.out b e).1 : ∀ b, (Value.slice oa (11 + E) oc).ownBlock = some b → z + 1 ≤ b)
          have Hlen2 : Hid ((headOf y x ++ [byteOf n] ++ enc (R.take k) ++ [byteOf kn, byteOf vn2]).length = 11 + (E + 2)) := Lib.hid (by have := HE.out; simp [headOf_len]; omega)
          have Ho1 : Hid (OB (z + 1) (wr.alloc (.cells #[.int .u8 ((kn : Int) % 256), .int .u8 ((vn2 : Int) % 256)] 5)).drew (.slice oa (11 + E) oc) (headOf y x ++ [byteOf n] ++ enc (R.take k))) := Lib.hid (ho.out.below (((Below.refl wr.heap.size wr).alloc (Nat.le_refl _) _).drew))
          obtain ⟨e0, e1, e2⟩ := C0.out wr (Below.refl _ _)
          clear c0 c1 p2 e0 e1 e2
          obtain ⟨e0, e1, e2⟩ := C0.out wr (Below.refl _ _)
          go_region_held_law (fun w' => w'.cell? ⟨b', o' + k * 2, none⟩ = some (.slice ka kn kc) ∧ w'.cell? ⟨b', o' + k * 2 + 1, none⟩ = some (.slice va2 vn2 vc2) ∧ w'.cell? ⟨z, 2, none⟩ = some (.slice (some ⟨b', o', none⟩) n vc)) (first | go_keep | exact ⟨by assumption, by assumption, by assumption⟩) (first | (refine step_append_bytes rfl (.tmp 43) (.tmp 60) rfl (z + 1) _ _ (headOf y x ++ [byteOf n] ++ enc (R.take k)) rfl Ho1.out _ 2 2 [byteOf kn, byteOf vn2] rfl Hl2.out (by have := HE.out; simp [headOf_len]; omega) (by show z + 1 ≤ (wr.alloc _).heap.size; rw [World.size_alloc]; omega) ?_; intro a3 c3 w3 ho3 hg3; rw [Hlen2.out] at ho3 ⊢; have Ho3 := Lib.hid ho3; have Hg3 := Lib.hid hg3; have Hb3 := Lib.hid ((((Below.refl (z + 1) wr).alloc hbn (.cells #[.int .u8 ((kn : Int) % 256), .int .u8 ((vn2 : Int) % 256)] 5)).drew).grown hg3 (by show z + 1 ≤ (wr.alloc _).heap.size; rw [World.size_alloc]; omega) (fun k e => Hge.out k e)); clear ho3 hg3; obtain ⟨d0, d1, d2⟩ := C0.out w3 Hb3.out))
          have hzw : w.heap.size ≤ z + 1 := by have := Hz.out; omega
          have K3 := Lib.hid (HBw.out.trans (Hb3.out.mono hzw))
          have hs3 : z + 1 ≤ w3.heap.size := Nat.le_trans hbn Hb3.out.size
          have Hge3 := Lib.hid (fun b e => (OB.own Ho3.out b e).1 : ∀ b, (Value.slice a3 (11 + (E + 2)) c3).ownBlock = some b → z + 1 ≤ b)
          have Hl4 : Hid ((headOf y x ++ [byteOf n] ++ enc (R.take k) ++ [byteOf kn, byteOf vn2] ++ r.1).length = 11 + (E + 2 + kn)) := Lib.hid (by have := HE.out; have := L1.out; simp [headOf_len]; omega)
          have Hl5 : Hid ((headOf y x ++ [byteOf n] ++ enc (R.take k) ++ [byteOf kn, byteOf vn2] ++ r.1 ++ r.2).length = 11 + (E + (2 + kn + vn2))) := Lib.hid (by have := HE.out; have := L1.out; have := L2.out; simp [headOf_len]; omega)
          have He5 : Hid (headOf y x ++ [byteOf n] ++ enc (R.take k) ++ [byteOf kn, byteOf vn2] ++ r.1 ++ r.2 = headOf y x ++ [byteOf n] ++ enc (R.take (k + 1))) := Lib.hid (by
            rw [HRk.out, enc_append]
            simp only [enc, encR_split, List.append_nil, List.append_assoc, ← L1.out, ← L2.out])
          go_wp2_with (first | (at_builtin; refine wpList_append_bytes rfl (.tmp 62) (.tmp 68) rfl (z + 1) _ _ (headOf y x ++ [byteOf n] ++ enc (R.take k) ++ [byteOf kn, byteOf vn2]) rfl Ho3.out _ kn kc r.1 rfl (H3.out.below K3.out) (by have := HE.out; have := L1.out; simp [headOf_len]; omega) hs3 ?_; intro v4 w4 ho4 hg4 _; obtain ⟨a4, c4, rfl, -⟩ := ho4.rb (by rw [Hl4.out]; omega); rw [Hl4.out] at ho4 ⊢; have Ho4 := Lib.hid ho4; have Hb4 := Lib.hid (Hb3.out.grown hg4 hs3 (fun k e => Hge3.out k e)); have K4 := Lib.hid (HBw.out.trans (Hb4.out.mono hzw)); have hs4 : z + 1 ≤ w4.heap.size := Nat.le_trans hbn Hb4.out.size; have Hge4 := Lib.hid (fun b e => (OB.own ho4 b e).1 : ∀ b, (Value.slice a4 (11 + (E + 2 + kn)) c4).ownBlock = some b → z + 1 ≤ b); obtain ⟨f0, f1, f2⟩ := C0.out w4 Hb4.out; clear ho4 hg4) | (at_builtin; refine wpList_append_bytes rfl (.tmp 70) (.tmp 76) rfl (z + 1) _ _ (headOf y x ++ [byteOf n] ++ enc (R.take k) ++ [byteOf kn, byteOf vn2] ++ r.1) rfl Ho4.out _ vn2 vc2 r.2 rfl (H4.out.below K4.out) (by rw [Hl4.out]; have := L2.out; omega) hs4 ?_; intro v5 w5 ho5 hg5 _; obtain ⟨a5, c5, rfl, -⟩ := ho5.rb (by rw [Hl5.out]; omega); rw [Hl5.out] at ho5 ⊢; rw [He5.out] at ho5; have Ho5 := Lib.hid ho5; have Hb5 := Lib.hid (Hb4.out.grown hg5 hs4 (fun k e => Hge4.out k e)); clear ho5 hg5))
          go_roundw
          case rel => exact ⟨k + 1, a5, c5, E + (2 + kn + vn2), by omega, by go_num, rfl, HE2, Ho5, Lib.hid (hb.out.trans Hb5.out)⟩
          case measure => simp [intOf]; omega
        · have ek : R.take k = R := List.take_of_length_le (by have := Hln.out; omega)
          rw [ek] at HE ho
          have Ho := Lib.hid ho.out
          have Hge := Lib.hid (fun b e => (OB.own ho.out b e).1 : ∀ b, (Value.slice oa (11 + E) oc).ownBlock = some b → z + 1 ≤ b)
          by_cases hfit : E ≤ 501
          · have hd : decide ((enc R).length ≤ 501) = true := decide_eq_true (by have := HE.out; omega)
            have Hd := Lib.hid hd
            have o1 : ¬ (512 : Int) < 11 + (E : Int) := by omega
            have o2 : IntKind.i64.wrap (512 - (11 + (E : Int))) = ((501 - E : Nat) : Int) := by rw [IntWalk.i64_in _ (by omega)]; omega
            have o3 : (512 : Int) - (11 + (E : Int)) = ((501 - E : Nat) : Int) := by omega
            have hmk : headOf y x ++ [byteOf n] ++ enc R ++ List.replicate (501 - E) 0 = mkP (headOf y x) R := by
              unfold mkP
              rw [HE.out, Hln.out, List.append_assoc (headOf y x ++ [byteOf R.length])]
            obtain ⟨v6, w6, hr6, ho6, hg6⟩ := run_append_zeros Ho.out (501 - E) (by simp; omega) (by have := HE.out; simp [headOf_len]; omega) hbn 22
            rw [hmk] at ho6
            have Hr6 := Lib.hid hr6
            have Ho6 := Lib.hid ho6
            have Hg6 := Lib.hid hg6
            clear hr6 ho6 hg6 hmk hd ek
            go_wp2_with (at_builtin; refine Lib.wpList_append_run _ rfl (.tmp 81) (.tmp 84) _ _ rfl _ _ rfl rfl _ _ Hr6.out ?_)
            refine bodyPost_ret (v := .tuple #[v6, .bool true]) (by simp [results, Tryz.f137, go_sem]) rfl ⟨⟨_, by rw [Hd.out], fun _ => Ho6.out.mono (by have := Hz.out; omega)⟩, HBw.out.trans (((Below.refl (z + 1) wr).grown Hg6.out hbn (fun k e => Hge.out k e)).mono (by have := Hz.out; omega))⟩
          · have hd : decide ((enc R).length ≤ 501) = false := decide_eq_false (by have := HE.out; omega)
            have Hd := Lib.hid hd
            have o1 : (512 : Int) < 11 + (E : Int) := by omega
            clear hd ek
            go_wp2_with (fail)
            refine bodyPost_ret (v := .tuple #[.slice none 0 0, .bool false]) (by simp [results, Tryz.f137, go_sem]) rfl ⟨⟨_, by rw [Hd.out], fun h => absurd (decide_eq_true h) (by rw [Hd.out]; decide)⟩, HBw.out⟩
end Go.Proofs.YtbinikbgbgggaaaGreatDoor
