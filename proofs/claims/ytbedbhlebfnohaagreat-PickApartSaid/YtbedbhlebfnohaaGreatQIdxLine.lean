/- flow.Fill: its walk. slices.DeleteFunc at lots: what its row and its worlds are. slices.IndexFunc at api.Lot: walks. (Printed by gen/idx.py.) slices.IndexFunc, slices.ContainsFunc at api.Line: walks. (Printed by gen/idx.py.) -/
import Derived.Test.YtbedbhlebfnohaaGreatQFillW
import Derived.Lib.SlKept
import Derived.Shelf.SlSortCmp.KitK
import Derived.Test.YtbedbhlebfnohaaGreatQBridge
import Derived.Test.YtbedbhlebfnohaaGreatQTog
import Derived.Shelf.SlLaysF0
import Derived.Test.YtbedbhlebfnohaaGreatQWant
namespace Go.Proofs.YtbedbhlebfnohaaGreat
open Go.RowKit Go.Sort Go.Shelf

def FlPost (w : World) (L : List LotV) (W : List WantV) (e : Ending) (w' : World) : Prop := Below w.heap.size w w' ∧ match fillX L W with
  | none => e = .returned (.tuple #[.slice none 0 0, .bool false])
  | some (U, _) => ∃ v, e = .returned (.tuple #[v, .bool true]) ∧ useE.Own w.heap.size w' v U
set_option maxHeartbeats 2000000 in
theorem flFill_any (B : Nat) (a a2 : Option Addr) (n c n2 c2 : Nat) (L : List LotV) (W : List WantV) (w : World) (hl : lotE.In B w a n c L) (hw : wantE.In B w a2 n2 c2 W) (hB : B ≤ w.heap.size) (hn : n ≤ 100000000) :
    Calls Tryz.prog 24 #[.slice a n c, .slice a2 n2 c2] w fun e w' => FlPost w L W e w' := by
  have HF := Lib.hid (fill_any B a a2 n c n2 c2 L W w hl hw hB hn)
  have hle := hl.le; have hmx := hl.mx; have hle2 := hw.le; have hmx2 := hw.mx
  clear hl hw
  unfold FlPost
  unfold FillPost at HF
  generalize fillX L W = R at HF ⊢
  cases R with
  | none =>
    simp only at HF
    go_enter Tryz.func24, Tryz.ntmps24
    go_wp2_with (go_at_call 54; refine HF.out.mono ?_; rintro e w9 ⟨hb9, rfl⟩)
    go_ret2
    exact ⟨hb9, rfl⟩
  | some p =>
    obtain ⟨U, f⟩ := p
    simp only at HF
    go_enter Tryz.func24, Tryz.ntmps24
    go_wp2_with (go_at_call 54; refine HF.out.mono ?_; rintro e w9 ⟨hb9, v, mb, cnt, rfl, ho9, hm9, hc9⟩; obtain ⟨va, vc, hv, -, -, -⟩ := ho9.form; subst hv)
    go_ret2
    exact ⟨hb9, _, rfl, ho9⟩
end Go.Proofs.YtbedbhlebfnohaaGreat
namespace Go.Proofs.YtbedbhlebfnohaaGreat
open Go.RowKit Go.Sort Go.Lib Go.Shelf

theorem setCells_append (b : Nat) : ∀ (vs us : List Value) (o : Nat) (w : World), w.setCells b o (vs ++ us) = (w.setCells b o vs).setCells b (o + vs.length) us
  | [], us, o, w => rfl
  | v :: r, us, o, w => by
    rw [List.cons_append, World.setCells, World.setCells, setCells_append b r us (o + 1), List.length_cons, show o + 1 + r.length = o + (r.length + 1) by omega]
section
variable {α : Type} [Inhabited α] {enc : α → List Value} {k : Nat}
theorem flatK_set (hk : ∀ x, (enc x).length = k) (d : Array α) (i : Nat) (y : α) (hi : i < d.size) : setMany (flatK enc k d) (i * k) (enc y) = flatK enc k (d.setIfInBounds i y) := by
  refine ext_get! (by simp) fun t ht => ?_
  have ht' : t < d.size * k := by simpa using ht
  have k0 : 0 < k := by rcases Nat.eq_zero_or_pos k with h | h; · subst h; simp at ht'
                        · exact h
  have htk : t / k < d.size := Nat.div_lt_of_lt_mul (by rw [Nat.mul_comm]; exact ht')
  rw [get_setMany _ _ _ t (by simpa using ht'), get_flatK _ _ _ t ht', get_flatK _ _ _ t (by simpa using ht'), hk]
  by_cases a : t / k = i
  · have m : t - i * k = t % k := by rw [← a, Nat.mod_eq_sub_div_mul]
    rw [if_pos ((blk_iff k i t k0).2 a), m, a]
    simp [getElem!_pos, hi]
  · rw [if_neg (fun h => a ((blk_iff k i t k0).1 h)), getElem!_pos d _ htk, getElem!_pos (d.setIfInBounds i y) _ (by simpa using htk), Array.getElem_setIfInBounds_ne htk (Ne.symm a)]
variable {w0 W : World} {blk off : Nat} {dk : Array α}
theorem SWK_set (hk : ∀ x, (enc x).length = k) (hb : blk < w0.heap.size) (h : SWK enc k w0 blk off dk W) (i : Nat) (hi : i < dk.size) (y : α) : SWK enc k w0 blk off (dk.setIfInBounds i y) (W.setCells blk (off + i * k) (enc y)) := by
  obtain ⟨n, os, rfl⟩ := h
  refine ⟨n, os, ?_⟩
  have b : i * k + k ≤ dk.size * k := by
    have := Nat.mul_le_mul_right k (show i + 1 ≤ dk.size from hi); rwa [Nat.add_mul, Nat.one_mul] at this
  unfold sortWorldK
  rw [setCells_grow os blk _ _ _ (by rw [size_putRowK]; exact hb)]
  unfold putRowK
  rw [setCells_putRow _ _ _ _ _ _ (by rw [hk, size_flatK]; exact b), flatK_set hk dk i y hi]
theorem SWK_lay (hk : ∀ x, (enc x).length = k) (hb : blk < w0.heap.size) : ∀ (ys : List α) (dk : Array α) (W : World) (i : Nat), i + ys.length ≤ dk.size → SWK enc k w0 blk off dk W → SWK enc k w0 blk off (lay dk i ys) (W.setCells blk (off + i * k) (ys.flatMap enc))
  | [], dk, W, i, _, h => h
  | y :: r, dk, W, i, hi, h => by
    have hl : i + (r.length + 1) ≤ dk.size := by simpa using hi
    rw [List.flatMap_cons, setCells_append, hk, lay, show off + i * k + k = off + (i + 1) * k by rw [Nat.add_mul, Nat.one_mul]; omega]
    exact SWK_lay hk hb r _ _ _ (by simp; omega) (SWK_set hk hb h i (by omega) y)
end
section
variable {α : Type} [Inhabited α] {E : El α}
theorem zeroCells_rep (x : α) (n : Nat) : (Builtin.zeroCells (E.enc x).toArray n).toList = (List.replicate n x).flatMap E.enc := by
  have hs : (E.enc x).toArray.size = E.k := by simp [E.len]
  apply List.ext_getElem?
  intro t
  have hl : ((List.replicate n x).flatMap E.enc).length = n * E.k := by have := E.cells_len (List.replicate n x); rw [List.length_replicate] at this; exact this
  by_cases ht : t < n * E.k
  · have hk := E.kpos
    have hi : t / E.k < n := Nat.div_lt_of_lt_mul (by rw [Nat.mul_comm]; exact ht)
    have hm : t % E.k < E.k := Nat.mod_lt _ hk
    have hat := E.cells_at (List.replicate n x) (t / E.k) (t % E.k) (by simpa using hi) hm
    rw [Nat.div_add_mod' t E.k] at hat
    have e2 : (List.replicate n x).getD (t / E.k) default = x := by simp [List.getD_eq_getElem?_getD, hi]
    rw [e2] at hat
    show _ = (E.cells (List.replicate n x))[t]?
    rw [hat]
    have hl2 := E.len x
    unfold Builtin.zeroCells
    rw [hs]
    simp only [Array.getElem?_toList, Array.getElem?_map, Array.getElem?_range, ht, if_true, Option.map_some]
    rw [List.getElem?_eq_getElem (by omega), getElem!_pos _ _ (by simp; omega)]
    simp
  · rw [List.getElem?_eq_none (by unfold Builtin.zeroCells; rw [hs]; simp; omega), List.getElem?_eq_none (by rw [hl]; omega)]
end
set_option maxRecDepth 100000 in
/-- The clearing of the rest of a row of lots. -/
theorem run_clear_lots {w0 W : World} {g : Nat} {dk d0 : Array LotV} (h : SWK encLot 6 w0 g 0 dk W) (R : RowK encLot 6 w0 g 0 d0) (hs : dk.size = d0.size) (i m c ty : Nat) (hm : 0 < m) (hi : i + m ≤ dk.size) : (Builtin.clear_ #[23] ty #[.slice (some ⟨g, i * 6, none⟩) m c]).run Tryz.prog W = .ok (.tuple #[]) (W.setCells g (i * 6) ((List.replicate m (default : LotV)).flatMap encLot)) := by
  have hz : (Builtin.zeroCells (Value.cells lotE.z) m).toList = (List.replicate m (default : LotV)).flatMap encLot := zeroCells_rep (E := lotE) default m
  have hl : ((List.replicate m (default : LotV)).flatMap encLot).length = m * 6 := by have := lotE.cells_len (List.replicate m (default : LotV)); rw [List.length_replicate] at this; exact this
  have hst := stores_of_holds Tryz.prog (h.holds R.hblk R.hH hs) (i * 6) ((List.replicate m (default : LotV)).flatMap encLot) (by rw [hl, size_flatK, ← Nat.add_mul]; exact Nat.mul_le_mul_right 6 hi) (fun v hv => lotE.cells_one v hv)
  rw [Nat.zero_add] at hst
  have hv := Tryz.zeroValue46 W
  obtain ⟨q, rfl⟩ : ∃ q, m = q + 1 := ⟨m - 1, by omega⟩
  have hz2 : (zeroValue 46).run Tryz.prog W = .ok lotE.z W := hv
  simp [Builtin.clear_, run_underlying lotE_under, hz2, hz, hst]
theorem del1_any (x : LotV) (w : World) : Calls Tryz.prog 23 #[x.val] w fun e w' => e = .returned (.bool (!x.arr)) ∧ ∃ o, w' = w.alloc o := by
  obtain ⟨id, item, fr, un, qty, arr⟩ := x
  unfold LotV.val encStr
  simp only
  go_enter Tryz.func23, Tryz.ntmps23
  go_wp2_with (fail)
  go_ret
  exact ⟨by first | rfl | simp [*], _, rfl⟩
end Go.Proofs.YtbedbhlebfnohaaGreat
namespace Go.Proofs.YtbedbhlebfnohaaGreat
open Go.RowKit Go.Shelf

structure IxLot (P : Program) : Prop where
  fI : P.funcs[53]? = some Tryz.f53
  t3 : P.underlying 3 = some (TypeDesc.int IntKind.i64)
  a3 : ∀ w, (isAgg 3).run P w = .ok false w
  z3 : ∀ w, (Go.sizeOf 3).run P w = .ok 1 w
  v3 : ∀ w, (zeroValue 3).run P w = .ok (Value.int IntKind.i64 0) w
  t4 : P.underlying 4 = some (TypeDesc.bool)
  a4 : ∀ w, (isAgg 4).run P w = .ok false w
  z4 : ∀ w, (Go.sizeOf 4).run P w = .ok 1 w
  v4 : ∀ w, (zeroValue 4).run P w = .ok (Value.bool false) w
  t22 : P.underlying 23 = some (TypeDesc.slice 46)
  a22 : ∀ w, (isAgg 23).run P w = .ok false w
  z22 : ∀ w, (Go.sizeOf 23).run P w = .ok 1 w
  v22 : ∀ w, (zeroValue 23).run P w = .ok (Value.slice none 0 0) w
  a25 : ∀ w, (isAgg 64).run P w = .ok false w
  z25 : ∀ w, (Go.sizeOf 64).run P w = .ok 1 w
  v25 : ∀ w, (zeroValue 64).run P w = .ok (Value.nilFunc) w
  aE : ∀ w, (isAgg 46).run P w = .ok true w
  zE : ∀ w, (Go.sizeOf 46).run P w = .ok 6 w
theorem ixLot_laid : IxLot Tryz.prog where
  fI := Tryz.func53
  t3 := Tryz.underlying3
  a3 := Tryz.isAgg3
  z3 := Tryz.sizeOf3
  v3 := Tryz.zeroValue3
  t4 := Tryz.underlying4
  a4 := Tryz.isAgg4
  z4 := Tryz.sizeOf4
  v4 := Tryz.zeroValue4
  t22 := Tryz.underlying23
  a22 := Tryz.isAgg23
  z22 := Tryz.sizeOf23
  v22 := Tryz.zeroValue23
  a25 := Tryz.isAgg64
  z25 := Tryz.sizeOf64
  v25 := Tryz.zeroValue64
  aE := Tryz.isAgg46
  zE := Tryz.sizeOf46
section
variable {P : Program}
set_option maxHeartbeats 1000000 in
theorem indexLot_any (L : IxLot P) (p : LotV → Bool) (fn : Nat) (cb : Array Value) (eg : ∀ args w, (callFunc fn args).run P w = .ok (.enter fn args) w) (B : Nat) (a : Option Addr) (n c : Nat) (X : List LotV) (w : World) (h : lotE.In B w a n c X) (hB : B ≤ w.heap.size)
    (hp : ∀ (W : World) (x : LotV), Below w.heap.size w W → lotE.ok x → Calls P fn (#[.agg #[.int .i64 x.id, encStr x.item, .int .i64 x.fr, .int .i64 x.un, .int .i64 x.qty, .bool x.arr]] ++ cb) W fun e w' => e = .returned (.bool (p x)) ∧ Below W.heap.size W w') :
    Calls P 53 #[.slice a n c, .func (.func fn) #[] cb] w fun e w' => e = .returned (.int .i64 (idxI p X)) ∧ Below w.heap.size w w' := by
  generalize hr : idxI p X = r
  have HQ := Lib.hid hr
  clear hr
  have hle := h.le; have hmx := h.mx
  have Hln := Lib.hid h.len
  have H := Lib.hid h
  have HP := Lib.hid hp
  clear h hp
  have t3 := L.t3; have a3 := L.a3; have z3 := L.z3; have v3 := L.v3; have t4 := L.t4; have a4 := L.a4; have z4 := L.z4; have v4 := L.v4; have t22 := L.t22; have a22 := L.a22; have z22 := L.z22; have v22 := L.v22; have a25 := L.a25; have z25 := L.z25; have v25 := L.v25; have aE := L.aE; have zE := L.zE
  have u3 := run_underlying L.t3; have u4 := run_underlying L.t4; have u22 := run_underlying L.t22
  have FG := L.fI
  go_enter FG, Tryz.ntmps53
  go_wp2_with (fail)
  go_loopw [8] (fun i wr => ∃ j : Nat, j ≤ n ∧ i = .int .i64 j ∧ Hid (∀ k, k < j → p (X.getD k default) = false) ∧ Hid (Below w.heap.size w wr)) (fun i _ => n - (intOf i).toNat)
  case atStart => exact ⟨0, Nat.zero_le _, rfl, Lib.hid (fun k hk => absurd hk (Nat.not_lt_zero _)), Lib.hid (Below.refl _ _)⟩
  case round =>
    obtain ⟨j, hj, rfl, hno, Hb⟩ := hrel
    by_cases hlt : j < n
    · obtain ⟨b, o, rfl, -, hc⟩ := lotE_at (H.out.below (Hb.out.mono hB)) (by omega)
      obtain ⟨g0, g1, g2, g3, g4, g5⟩ := hc j hlt
      have hok := H.out.ok_at hlt
      clear hc
      have HC := Lib.hid (HP.out wr (X.getD j default) Hb.out hok)
      clear hok
      cases hpx : p (X.getD j default) with
      | true =>
        have hX := Lib.hid (idxI_some (by rw [← Hln.out]; exact hlt) hno.out hpx)
        rw [hpx] at HC
        clear hpx
        generalize X.getD j default = x at g0 g1 g2 g3 g4 g5 HC
        obtain ⟨x_id, x_item, x_fr, x_un, x_qty, x_arr⟩ := x
        simp only at g0 g1 g2 g3 g4 g5 HC
        go_wp2_with (go_at_fn fn; refine HC.out.mono ?_; rintro e w9 ⟨rfl, hb9⟩)
        go_ret
        exact ⟨by rw [← HQ.out, hX.out]; rfl, Hb.out.trans (hb9.mono Hb.out.size)⟩
      | false =>
        have hX := Lib.hid (hpx)
        rw [hpx] at HC
        clear hpx
        have Hno := Lib.hid (idx_more hno.out hX.out)
        clear hX
        generalize X.getD j default = x at g0 g1 g2 g3 g4 g5 HC
        obtain ⟨x_id, x_item, x_fr, x_un, x_qty, x_arr⟩ := x
        simp only at g0 g1 g2 g3 g4 g5 HC
        go_wp2_with (go_at_fn fn; refine HC.out.mono ?_; rintro e w9 ⟨rfl, hb9⟩; have B9 := Lib.hid (Hb.out.trans (hb9.mono Hb.out.size)); clear hb9)
        go_roundw
        case rel => exact ⟨j + 1, by omega, by go_num, Hno, B9⟩
        case measure => simp [intOf]; omega
    · have hge : j = n := by omega
      have hnn := Lib.hid (idxI_none (by rw [← Hln.out, ← hge]; exact hno.out))
      go_wp2_with (fail)
      go_ret
      exact ⟨by rw [← HQ.out, hnn.out]; rfl, Hb.out⟩
end
end Go.Proofs.YtbedbhlebfnohaaGreat
namespace Go.Proofs.YtbedbhlebfnohaaGreat
open Go.RowKit Go.Shelf

structure IxLine (P : Program) : Prop where
  fI : P.funcs[46]? = some Tryz.f46
  fC : P.funcs[47]? = some Tryz.f47
  t3 : P.underlying 3 = some (TypeDesc.int IntKind.i64)
  a3 : ∀ w, (isAgg 3).run P w = .ok false w
  z3 : ∀ w, (Go.sizeOf 3).run P w = .ok 1 w
  v3 : ∀ w, (zeroValue 3).run P w = .ok (Value.int IntKind.i64 0) w
  t4 : P.underlying 4 = some (TypeDesc.bool)
  a4 : ∀ w, (isAgg 4).run P w = .ok false w
  z4 : ∀ w, (Go.sizeOf 4).run P w = .ok 1 w
  v4 : ∀ w, (zeroValue 4).run P w = .ok (Value.bool false) w
  t22 : P.underlying 24 = some (TypeDesc.slice 49)
  a22 : ∀ w, (isAgg 24).run P w = .ok false w
  z22 : ∀ w, (Go.sizeOf 24).run P w = .ok 1 w
  v22 : ∀ w, (zeroValue 24).run P w = .ok (Value.slice none 0 0) w
  a25 : ∀ w, (isAgg 107).run P w = .ok false w
  z25 : ∀ w, (Go.sizeOf 107).run P w = .ok 1 w
  v25 : ∀ w, (zeroValue 107).run P w = .ok (Value.nilFunc) w
  aE : ∀ w, (isAgg 49).run P w = .ok true w
  zE : ∀ w, (Go.sizeOf 49).run P w = .ok 8 w
theorem ixLine_laid : IxLine Tryz.prog where
  fI := Tryz.func46
  fC := Tryz.func47
  t3 := Tryz.underlying3
  a3 := Tryz.isAgg3
  z3 := Tryz.sizeOf3
  v3 := Tryz.zeroValue3
  t4 := Tryz.underlying4
  a4 := Tryz.isAgg4
  z4 := Tryz.sizeOf4
  v4 := Tryz.zeroValue4
  t22 := Tryz.underlying24
  a22 := Tryz.isAgg24
  z22 := Tryz.sizeOf24
  v22 := Tryz.zeroValue24
  a25 := Tryz.isAgg107
  z25 := Tryz.sizeOf107
  v25 := Tryz.zeroValue107
  aE := Tryz.isAgg49
  zE := Tryz.sizeOf49
section
variable {P : Program}
set_option maxHeartbeats 1000000 in
theorem indexLine_any (L : IxLine P) (p : LineV → Bool) (fn : Nat) (cb : Array Value) (eg : ∀ args w, (callFunc fn args).run P w = .ok (.enter fn args) w) (B : Nat) (a : Option Addr) (n c : Nat) (X : List LineV) (w : World) (h : lineE.In B w a n c X) (hB : B ≤ w.heap.size)
    (hp : ∀ (W : World) (x : LineV), Below w.heap.size w W → lineE.ok x → Calls P fn (#[.agg #[.int .i64 x.id, encStr x.item, .int .i64 x.qty, .int .i64 x.asked, .int .i64 x.rank, .int .u8 x.st, .int .i64 x.day, encStr x.code]] ++ cb) W fun e w' => e = .returned (.bool (p x)) ∧ Below W.heap.size W w') :
    Calls P 46 #[.slice a n c, .func (.func fn) #[] cb] w fun e w' => e = .returned (.int .i64 (idxI p X)) ∧ Below w.heap.size w w' := by
  generalize hr : idxI p X = r
  have HQ := Lib.hid hr
  clear hr
  have hle := h.le; have hmx := h.mx
  have Hln := Lib.hid h.len
  have H := Lib.hid h
  have HP := Lib.hid hp
  clear h hp
  have t3 := L.t3; have a3 := L.a3; have z3 := L.z3; have v3 := L.v3; have t4 := L.t4; have a4 := L.a4; have z4 := L.z4; have v4 := L.v4; have t22 := L.t22; have a22 := L.a22; have z22 := L.z22; have v22 := L.v22; have a25 := L.a25; have z25 := L.z25; have v25 := L.v25; have aE := L.aE; have zE := L.zE
  have u3 := run_underlying L.t3; have u4 := run_underlying L.t4; have u22 := run_underlying L.t22
  have FG := L.fI
  go_enter FG, Tryz.ntmps46
  go_wp2_with (fail)
  go_loopw [8] (fun i wr => ∃ j : Nat, j ≤ n ∧ i = .int .i64 j ∧ Hid (∀ k, k < j → p (X.getD k default) = false) ∧ Hid (Below w.heap.size w wr)) (fun i _ => n - (intOf i).toNat)
  case atStart => exact ⟨0, Nat.zero_le _, rfl, Lib.hid (fun k hk => absurd hk (Nat.not_lt_zero _)), Lib.hid (Below.refl _ _)⟩
  case round =>
    obtain ⟨j, hj, rfl, hno, Hb⟩ := hrel
    by_cases hlt : j < n
    · obtain ⟨b, o, rfl, -, hc⟩ := lineE_at (H.out.below (Hb.out.mono hB)) (by omega)
      obtain ⟨g0, g1, g2, g3, g4, g5, g6, g7⟩ := hc j hlt
      have hok := H.out.ok_at hlt
      clear hc
      have HC := Lib.hid (HP.out wr (X.getD j default) Hb.out hok)
      clear hok
      cases hpx : p (X.getD j default) with
      | true =>
        have hX := Lib.hid (idxI_some (by rw [← Hln.out]; exact hlt) hno.out hpx)
        rw [hpx] at HC
        clear hpx
        generalize X.getD j default = x at g0 g1 g2 g3 g4 g5 g6 g7 HC
        obtain ⟨x_id, x_item, x_qty, x_asked, x_rank, x_st, x_day, x_code⟩ := x
        simp only at g0 g1 g2 g3 g4 g5 g6 g7 HC
        go_wp2_with (go_at_fn fn; refine HC.out.mono ?_; rintro e w9 ⟨rfl, hb9⟩)
        go_ret
        exact ⟨by rw [← HQ.out, hX.out]; rfl, Hb.out.trans (hb9.mono Hb.out.size)⟩
      | false =>
        have hX := Lib.hid (hpx)
        rw [hpx] at HC
        clear hpx
        have Hno := Lib.hid (idx_more hno.out hX.out)
        clear hX
        generalize X.getD j default = x at g0 g1 g2 g3 g4 g5 g6 g7 HC
        obtain ⟨x_id, x_item, x_qty, x_asked, x_rank, x_st, x_day, x_code⟩ := x
        simp only at g0 g1 g2 g3 g4 g5 g6 g7 HC
        go_wp2_with (go_at_fn fn; refine HC.out.mono ?_; rintro e w9 ⟨rfl, hb9⟩; have B9 := Lib.hid (Hb.out.trans (hb9.mono Hb.out.size)); clear hb9)
        go_roundw
        case rel => exact ⟨j + 1, by omega, by go_num, Hno, B9⟩
        case measure => simp [intOf]; omega
    · have hge : j = n := by omega
      have hnn := Lib.hid (idxI_none (by rw [← Hln.out, ← hge]; exact hno.out))
      go_wp2_with (fail)
      go_ret
      exact ⟨by rw [← HQ.out, hnn.out]; rfl, Hb.out⟩
theorem containsLine_any (L : IxLine P) (p : LineV → Bool) (fn : Nat) (cb : Array Value) (eg : ∀ args w, (callFunc fn args).run P w = .ok (.enter fn args) w) (B : Nat) (a : Option Addr) (n c : Nat) (X : List LineV) (w : World) (h : lineE.In B w a n c X) (hB : B ≤ w.heap.size)
    (hp : ∀ (W : World) (x : LineV), Below w.heap.size w W → lineE.ok x → Calls P fn (#[.agg #[.int .i64 x.id, encStr x.item, .int .i64 x.qty, .int .i64 x.asked, .int .i64 x.rank, .int .u8 x.st, .int .i64 x.day, encStr x.code]] ++ cb) W fun e w' => e = .returned (.bool (p x)) ∧ Below W.heap.size W w') :
    Calls P 47 #[.slice a n c, .func (.func fn) #[] cb] w fun e w' => e = .returned (.bool (X.any p)) ∧ Below w.heap.size w w' := by
  have HI := Lib.hid (indexLine_any L p fn cb eg B a n c X w h hB hp)
  generalize hr : X.any p = r
  have HQ := Lib.hid hr
  clear hr
  clear h hB hp eg
  have t3 := L.t3; have a3 := L.a3; have z3 := L.z3; have v3 := L.v3; have t4 := L.t4; have a4 := L.a4; have z4 := L.z4; have v4 := L.v4; have t22 := L.t22; have a22 := L.a22; have z22 := L.z22; have v22 := L.v22; have a25 := L.a25; have z25 := L.z25; have v25 := L.v25; have aE := L.aE; have zE := L.zE
  have u3 := run_underlying L.t3; have u4 := run_underlying L.t4; have u22 := run_underlying L.t22
  have eI : ∀ args w, (callFunc 46 args).run P w = .ok (.enter 46 args) w := enters_of L.fI (by kernel_rfl) rfl
  have FG := L.fC
  cases r with
  | true =>
    have hz := (idxI_ge (p := p) (X := X)).2 HQ.out
    generalize idxI p X = z at HI hz
    go_enter FG, Tryz.ntmps47
    go_wp2_with (go_at_call 46; refine HI.out.mono ?_; rintro e w9 ⟨rfl, hb9⟩)
    go_ret
    exact ⟨by first | rfl | simp [*], hb9⟩
  | false =>
    have hz : ¬ 0 ≤ idxI p X := fun e => by have := (idxI_ge (p := p) (X := X)).1 e; rw [HQ.out] at this; cases this
    generalize idxI p X = z at HI hz
    go_enter FG, Tryz.ntmps47
    go_wp2_with (go_at_call 46; refine HI.out.mono ?_; rintro e w9 ⟨rfl, hb9⟩)
    go_ret
    exact ⟨by first | rfl | simp [*], hb9⟩
end
end Go.Proofs.YtbedbhlebfnohaaGreat
