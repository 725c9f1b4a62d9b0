/- The walks of storemankit.KeptItem, LentItems, KeptItems. Marked items; lists of items in memory of the call's own. -/
import Derived.Test.YtbedbhlebfnohaaGreatKSameI
import Derived.Laws.OwnMore
namespace Go.Proofs.YtbedbhlebfnohaaGreat
open Go.RowKit

theorem RP.take {B : Nat} {w : World} {a : Option Addr} {n c : Nat} {P : List Pt} (h : RP B w a n c P) {k : Nat} (hk : k ≤ n) : RP B w a k c (P.take k) := by
  refine ⟨by rw [List.length_take, ← h.len]; omega, Nat.le_trans hk h.le, h.mx, fun p hp => h.fine p (List.mem_of_mem_take hp), fun hc => ?_⟩
  obtain ⟨b, o, e, hB, hcell⟩ := h.at_ hc
  refine ⟨b, o, e, hB, fun i hi => ?_⟩
  have := hcell i (by omega)
  have e2 : (P.take k).getD i default = P.getD i default := by
    rw [List.getD_eq_getElem?_getD, List.getElem?_take, if_pos hi, List.getD_eq_getElem?_getD]
  rw [e2]; exact this
theorem OP.rp2 {base : Nat} {w : World} {a : Option Addr} {n c : Nat} {P : List Pt} (h : OP base w (.slice a n c) P) (hf : Fine P) : RP w.heap.size w a n c P := by
  obtain ⟨a', c', e, r⟩ := h.rp hf
  injection e with e1 e2 e3
  rw [e1, e2, e3]; exact r
theorem lentX_fine : ∀ t ∈ lentX, t.length ≤ 9223372036854775807 := by
  intro t ht
  unfold lentX at ht
  obtain ⟨i, -, rfl⟩ := List.mem_map.1 ht
  simp [mkTx]
theorem lentP_fine : Fine lentP := by
  intro p hp
  unfold lentP at hp
  obtain ⟨i, hi, rfl⟩ := List.mem_map.1 hp
  have h1 := List.mem_range.1 hi
  have := markN_bd 1 i (by omega) (by omega)
  unfold mkPt
  exact ⟨Nat.zero_le _, by simp only; omega⟩
/-- A lent item is an item in memory. -/
theorem LI.ok {base N : Nat} {w w0 : World} {x y : It} (h : LI base w x y) (hx : ItOk N w0 x) : ItOk w.heap.size w y := by
  obtain ⟨⟨e1, e2, e3, e4⟩, ⟨g, g1, g2, g3, g4⟩, ⟨k, k1, k2, k3, k4⟩⟩ := h
  have hp : Fine (x.ps ++ lentP) := fun p hp => by
    rcases List.mem_append.1 hp with h | h
    · exact hx.rp.fine p h
    · exact lentP_fine p h
  have ht : ∀ t ∈ x.os ++ lentX, t.length ≤ 9223372036854775807 := fun t h => by
    rcases List.mem_append.1 h with h | h
    · exact hx.rt.fine t h
    · exact lentX_fine t h
  refine ⟨by rw [e1]; exact hx.code, by rw [e2]; exact hx.lo, by rw [e2]; exact hx.hi, ?_, ?_⟩
  · have := (g4.rp2 hp).take (show x.ps.length ≤ x.ps.length + 12 by omega)
    rw [List.take_left' rfl] at this
    rw [e3, g1]
    exact this
  · have := (k4.rt ht x.os.length (by omega)).1
    rw [List.take_left' rfl] at this
    rw [e4, k1]
    exact this
set_option maxHeartbeats 2000000 in
set_option maxRecDepth 100000 in
theorem KeptItem_any (base N : Nat) (x y : It) (w : World) (hx : ItOk N w x) (hy : LI base w x y) (hN : N ≤ w.heap.size) :
    Calls Tryz.prog 64 #[y.val, x.val] w fun e w' => e = .returned (.bool true) ∧ Below w.heap.size w w' := by
  have hyo := hy.ok hx
  have hS := SameItem_like w.heap.size y x
  obtain ⟨hlike, ⟨g, g1, g2, g3, g4⟩, ⟨k, k1, k2, k3, k4⟩⟩ := hy
  obtain ⟨e1, e2, e3, e4⟩ := hlike
  have hp : Fine (x.ps ++ lentP) := fun p hp => by
    rcases List.mem_append.1 hp with h | h
    · exact hx.rp.fine p h
    · exact lentP_fine p h
  have ht : ∀ t ∈ x.os ++ lentX, t.length ≤ 9223372036854775807 := fun t h => by
    rcases List.mem_append.1 h with h | h
    · exact hx.rt.fine t h
    · exact lentX_fine t h
  have hrp := g4.rp2 hp
  have hrt := (k4.rt ht (x.os.length + 12) (Nat.le_refl _)).1
  rw [List.take_of_length_le (by rw [List.length_append, lentX_len]; omega)] at hrt
  have hxp := hx.rp.mono hN
  have hxt := hx.rt.mono hN
  have hxo := hx.mono hN
  obtain ⟨code, life, pa, pc, ps, oa, oc, os⟩ := x
  obtain ⟨code', life', pa', pc', ps', oa', oc', os'⟩ := y
  simp only at e1 e2 e3 e4 g1 g2 g3 k1 k2 k3 hrp hrt hxp hxt
  subst e1 e2 e3 e4 g1 k1
  have HS : Hid (∀ W, Below w.heap.size w W → Calls Tryz.prog 63 #[.agg #[.string ⟨code'.toArray⟩, .int .i64 life', .slice (some ⟨g, 0, none⟩) ps'.length pc', .slice (some ⟨k, 0, none⟩) os'.length oc'], .agg #[.string ⟨code'.toArray⟩, .int .i64 life', .slice pa ps'.length pc, .slice oa os'.length oc]] W fun e w' => e = .returned (.bool true) ∧ Below W.heap.size W w') := Lib.hid fun W h => hS W (hyo.below h) (hxo.below h) h.size ⟨rfl, rfl, rfl, rfl⟩
  have HP : Hid (∀ W, Below w.heap.size w W → Calls Tryz.prog 119 #[.slice (some ⟨g, 0, none⟩) ps'.length pc', .slice pa ps'.length pc] W fun e w' => e = .returned (.bool true) ∧ Below W.heap.size W w') := Lib.hid fun W h => KeptParts_any w.heap.size w.heap.size g pc' pa ps'.length pc ps' W (hrp.below h) (hxp.below h) h.size h.size
  have HT : Hid (∀ W, Below w.heap.size w W → Calls Tryz.prog 120 #[.slice (some ⟨k, 0, none⟩) os'.length oc', .slice oa os'.length oc] W fun e w' => e = .returned (.bool true) ∧ Below W.heap.size W w') := Lib.hid fun W h => KeptTexts_any w.heap.size w.heap.size k oc' oa os'.length oc os' W (hrt.below h) (hxt.below h) h.size h.size
  unfold It.val encStr
  simp only
  generalize ps'.length = np at HS HP HT ⊢
  generalize os'.length = no at HS HP HT ⊢
  clear hx hyo hS g2 g3 g4 k2 k3 k4 hp ht hrp hrt hxp hxt hxo
  go_enter Tryz.func64, Tryz.ntmps64
  go_wp2_with (fail)
  obtain ⟨W2, hW2⟩ : ∃ W, W = (w.alloc (.cells #[.string ⟨code'.toArray⟩, .int .i64 life', .slice (some ⟨g, 0, none⟩) np pc', .slice (some ⟨k, 0, none⟩) no oc'] 102)).alloc (.cells #[.string ⟨code'.toArray⟩, .int .i64 life', .slice pa np pc, .slice oa no oc] 102) := ⟨_, rfl⟩
  rw [← hW2]
  have hs2 : W2.heap.size = w.heap.size + 2 := by rw [hW2, World.size_alloc, World.size_alloc]
  have ka : W2.heap[w.heap.size]? = some (.cells #[.string ⟨code'.toArray⟩, .int .i64 life', .slice (some ⟨g, 0, none⟩) np pc', .slice (some ⟨k, 0, none⟩) no oc'] 102) := by
    rw [hW2]
    exact (((Below.refl _ (w.alloc (.cells #[.string ⟨code'.toArray⟩, .int .i64 life', .slice (some ⟨g, 0, none⟩) np pc', .slice (some ⟨k, 0, none⟩) no oc'] 102))).alloc (Nat.le_refl _) _).block w.heap.size (by rw [World.size_alloc]; omega)).trans (heap_alloc_new _ _)
  have kb : W2.heap[w.heap.size + 1]? = some (.cells #[.string ⟨code'.toArray⟩, .int .i64 life', .slice pa np pc, .slice oa no oc] 102) := by
    rw [hW2]
    have := heap_alloc_new (w.alloc (.cells #[.string ⟨code'.toArray⟩, .int .i64 life', .slice (some ⟨g, 0, none⟩) np pc', .slice (some ⟨k, 0, none⟩) no oc'] 102)) (.cells #[.string ⟨code'.toArray⟩, .int .i64 life', .slice pa np pc, .slice oa no oc] 102)
    rw [World.size_alloc] at this
    exact this
  have hb2 : Below w.heap.size w W2 := by rw [hW2]; exact ((Below.refl _ w).alloc (Nat.le_refl _) _).alloc (by rw [World.size_alloc]; omega) _
  clear hW2
  go_at_call 63
  refine (HS.out _ hb2).mono ?_
  rintro e W3 ⟨rfl, hb3⟩
  have la := (hb3.block w.heap.size (by omega)).trans ka
  have lb := (hb3.block (w.heap.size + 1) (by omega)).trans kb
  have hb3' : Below w.heap.size w W3 := hb2.trans (hb3.mono (by omega))
  have pa2 : W3.cell? ⟨w.heap.size, 2, none⟩ = some (.slice (some ⟨g, 0, none⟩) np pc') := by unfold World.cell?; rw [la]; rfl
  have pa3 : W3.cell? ⟨w.heap.size, 3, none⟩ = some (.slice (some ⟨k, 0, none⟩) no oc') := by unfold World.cell?; rw [la]; rfl
  have pb2 : W3.cell? ⟨w.heap.size + 1, 2, none⟩ = some (.slice pa np pc) := by unfold World.cell?; rw [lb]; rfl
  have pb3 : W3.cell? ⟨w.heap.size + 1, 3, none⟩ = some (.slice oa no oc) := by unfold World.cell?; rw [lb]; rfl
  have hz3 := hb3.size
  clear hb3 hb2 ka kb
  have HB3 := Lib.hid hb3'
  have LA := Lib.hid la
  have LB := Lib.hid lb
  clear hb3' la lb
  go_wp2_with (fail)
  go_at_call 119
  refine (HP.out _ HB3.out).mono ?_
  rintro e W4 ⟨rfl, hb4⟩
  have ma := (hb4.block w.heap.size (by omega)).trans LA.out
  have mb := (hb4.block (w.heap.size + 1) (by omega)).trans LB.out
  have hb4' : Below w.heap.size w W4 := HB3.out.trans (hb4.mono (by omega))
  have qa2 : W4.cell? ⟨w.heap.size, 2, none⟩ = some (.slice (some ⟨g, 0, none⟩) np pc') := by unfold World.cell?; rw [ma]; rfl
  have qa3 : W4.cell? ⟨w.heap.size, 3, none⟩ = some (.slice (some ⟨k, 0, none⟩) no oc') := by unfold World.cell?; rw [ma]; rfl
  have qb2 : W4.cell? ⟨w.heap.size + 1, 2, none⟩ = some (.slice pa np pc) := by unfold World.cell?; rw [mb]; rfl
  have qb3 : W4.cell? ⟨w.heap.size + 1, 3, none⟩ = some (.slice oa no oc) := by unfold World.cell?; rw [mb]; rfl
  clear hb4 pa2 pa3 pb2 pb3
  have HB4 := Lib.hid hb4'
  clear hb4' ma mb
  go_wp2_with (fail)
  go_at_call 120
  refine (HT.out _ HB4.out).mono ?_
  rintro e W5 ⟨rfl, hb5⟩
  have HB5 := Lib.hid (HB4.out.trans (hb5.mono HB4.out.size))
  clear hb5
  go_wp2_with (fail)
  go_ret
  exact ⟨rfl, HB5.out⟩
end Go.Proofs.YtbedbhlebfnohaaGreat
namespace Go.Proofs.YtbedbhlebfnohaaGreat
open Go.RowKit

/-- An item's four cells. -/
def encI (y : It) : List Value := [encStr y.code, .int .i64 y.life, .slice y.pa y.ps.length y.pc, .slice y.oa y.os.length y.oc]
def cellsI (Y : List It) : List Value := Y.flatMap encI
theorem cellsI_len : ∀ Y : List It, (cellsI Y).length = Y.length * 4
  | [] => rfl
  | y :: Y => by
    have := cellsI_len Y
    unfold cellsI at *
    rw [List.flatMap_cons, List.length_append, this]
    simp [encI]; omega
theorem cellsI_append (Y Z : List It) : cellsI (Y ++ Z) = cellsI Y ++ cellsI Z := by simp [cellsI]
theorem cellsI_one {Y : List It} : ∀ u ∈ cellsI Y, u.oneCell' = true := by
  intro u hu
  obtain ⟨p, _, hp⟩ := List.mem_flatMap.1 hu
  simp only [encI, List.mem_cons, List.not_mem_nil, or_false] at hp
  rcases hp with rfl | rfl | rfl | rfl <;> rfl
theorem cellsI_at : ∀ (Y : List It) (i : Nat), i < Y.length → (cellsI Y)[i * 4]? = some (encStr (Y.getD i default).code) ∧ (cellsI Y)[i * 4 + 1]? = some (.int .i64 (Y.getD i default).life) ∧ (cellsI Y)[i * 4 + 2]? = some (.slice (Y.getD i default).pa (Y.getD i default).ps.length (Y.getD i default).pc) ∧ (cellsI Y)[i * 4 + 3]? = some (.slice (Y.getD i default).oa (Y.getD i default).os.length (Y.getD i default).oc)
  | [], i, h => by simp at h
  | y :: Y, 0, _ => by simp [cellsI, encI]
  | y :: Y, i + 1, h => by
    have ih := cellsI_at Y i (by simpa using h)
    have e : cellsI (y :: Y) = encStr y.code :: Value.int .i64 y.life :: Value.slice y.pa y.ps.length y.pc :: Value.slice y.oa y.os.length y.oc :: cellsI Y := rfl
    rw [e, show (i + 1) * 4 = i * 4 + 1 + 1 + 1 + 1 by omega]
    simpa using ih
/-- The slice value v leads to memory of the call's own, from block base on, and reads as the items Y. -/
def OIt (base : Nat) (w : World) (v : Value) (Y : List It) : Prop := w.ownsRow base 102 4 v Y.length (cellsI Y)
theorem Tryz.infoItem : (Tryz.prog.info? 102).map (fun i => (i.zero, i.size, i.bytes)) = some (some (.agg #[.string ByteArray.empty, .int .i64 0, .slice none 0 0, .slice none 0 0]), 4, 72) := by kernel_rfl
theorem OIt.mono {B B' : Nat} {w : World} {v : Value} {Y : List It} (h : OIt B w v Y) (hb : B' ≤ B) : OIt B' w v Y := by
  obtain ⟨h1, h2 | ⟨g, cap, cur, hv, hg, r⟩⟩ := h
  · exact ⟨h1, .inl h2⟩
  · exact ⟨h1, .inr ⟨g, cap, cur, hv, Nat.le_trans hb hg, r⟩⟩
theorem OIt.keep {base : Nat} {W W' : World} {v : Value} {Y : List It} (h : OIt base W v Y) (hk : ∀ b, v.ownBlock = some b → W'.heap[b]? = W.heap[b]?) : OIt base W' v Y := by
  obtain ⟨e1, h3 | ⟨g, cap, cur, hv, hg, hh, r⟩⟩ := h
  · exact ⟨e1, .inl h3⟩
  · exact ⟨e1, .inr ⟨g, cap, cur, hv, hg, (hk g (by rw [hv]; rfl)).trans hh, r⟩⟩
theorem OIt.ge {base : Nat} {W : World} {v : Value} {Y : List It} (h : OIt base W v Y) : ∀ b, v.ownBlock = some b → base ≤ b ∧ b < W.heap.size := by
  intro b hb
  obtain ⟨e1, ⟨rfl, -⟩ | ⟨g, cap, cur, rfl, hg, hh, r⟩⟩ := h
  · cases hb
  · cases hb
    exact ⟨hg, (Array.getElem?_eq_some_iff.1 hh).1⟩
theorem OIt.below {base : Nat} {W W' : World} {v : Value} {Y : List It} (h : OIt base W v Y) (hb : Below W.heap.size W W') : OIt base W' v Y :=
  h.keep fun b e => hb.block b (h.ge b e).2
theorem one_item (W : World) (y : It) (t : TypeId) : ∀ j u, (cellsI [y])[j]? = some u → (W.alloc (.cells #[encStr y.code, .int .i64 y.life, .slice y.pa y.ps.length y.pc, .slice y.oa y.os.length y.oc] t)).cell? ((⟨W.heap.size, 0, none⟩ : Addr).add j) = some u := by
  intro j u hu
  have e : (⟨W.heap.size, 0, none⟩ : Addr).add j = ⟨W.heap.size, 0 + j, none⟩ := by unfold Addr.add; split <;> simp_all
  rw [e]
  simp only [World.cell?, (Go.MapKept.heap_alloc W _).1]
  simpa [cellsI, encI] using hu
theorem one_item2 (W : World) (y : It) (c : Array Value) (t t' : TypeId) : ∀ j u, (cellsI [y])[j]? = some u → ((W.alloc (.cells c t)).alloc (.cells #[.string ⟨y.code.toArray⟩, .int .i64 y.life, .slice y.pa y.ps.length y.pc, .slice y.oa y.os.length y.oc] t')).cell? ((⟨W.heap.size + 1, 0, none⟩ : Addr).add j) = some u := by
  have := one_item (W.alloc (.cells c t)) y t'
  rw [World.size_alloc] at this
  exact this
/-- append of one item where there is room. -/
theorem wpList_append_item {w : World} {ops : Array Oper} {rest : List Oper} {o : Oper} {a : Act} {K : Exit → Act → World → Prop} (hgd : o.guard = none) (s x : Operand)
    (ho : o.op = .call { callee := .builtin .append, args := #[s, x], argTypes := #[22, 22] }) (base g0 n0 c0 : Nat) (Y : List It) (y : It) (hs : a.eval s = .slice (some ⟨g0, 0, none⟩) n0 c0) (h : OIt base w (.slice (some ⟨g0, 0, none⟩) n0 c0) Y) (ad : Addr) (c : Nat)
    (hx : a.eval x = .slice (some ad) 1 c) (hsrc : ∀ j u, (cellsI [y])[j]? = some u → w.cell? (ad.add j) = some u) (hroom : n0 + 1 ≤ c0)
    (hK : ∀ w', OIt base w' (.slice (some ⟨g0, 0, none⟩) (n0 + 1) c0) (Y ++ [y]) → w.grownBy w' (some g0) → wpList Tryz.prog ops K rest (a.put o.dst (.slice (some ⟨g0, 0, none⟩) (n0 + 1) c0)) w') : wpList Tryz.prog ops K (o :: rest) a w := by
  obtain ⟨i0, hi, hz0, hz1, hz2⟩ := info_parts Tryz.infoItem
  have hn0 : n0 = Y.length := by
    obtain ⟨e, ⟨h1, -⟩ | ⟨g, cap, cur, h1, -⟩⟩ := h
    · cases h1
    · cases h1; rfl
  subst hn0
  obtain ⟨w', hr, hown, hg⟩ := run_append_fits (P := Tryz.prog) w base 22 o.type 102 i0 4 Tryz.underlying22 hi hz1 g0 Y.length c0 (cellsI Y) h ad 1 c (cellsI [y]) (cellsI_len [y]) hsrc cellsI_one hroom
  have ho2 : OIt base w' (.slice (some ⟨g0, 0, none⟩) (Y.length + 1) c0) (Y ++ [y]) := by
    unfold OIt
    rw [List.length_append, cellsI_append]
    exact hown
  refine wpList_plain hgd fun K' hK' => ?_
  unfold Oper.wp execOp
  simp only [ho, resolve, invoke, builtin, Sem.run_bind, Sem.run_pure, Result.andThen_ok, List.map_toArray, List.map_cons, List.map_nil, hs, hx, hr]
  exact hK' _ _ (hK w' ho2 hg)

/-- The marked item. -/
def mkIt (i : Nat) : It := ⟨[], (markN 1 i : Int), none, 0, [], none, 0, []⟩
def lentI : List It := (List.range 12).map mkIt
theorem lentI_len : lentI.length = 12 := by simp [lentI]
theorem lentI_at (j : Nat) (h : j < 12) : lentI[j]'(by rw [lentI_len]; exact h) = mkIt j := by simp [lentI]
theorem lentI_take (j : Nat) (h : j < 12) : lentI.take (j + 1) = lentI.take j ++ [mkIt j] := by
  rw [List.take_succ_eq_append_getElem (by rw [lentI_len]; exact h), lentI_at j h]
theorem markItem_any (i : Nat) (w : World) (hi : i ≤ 1000000000) :
    Calls Tryz.prog 42 #[.int .i64 1, .int .i64 i] w fun e w' => e = .returned (.agg #[.string ⟨#[]⟩, .int .i64 (markN 1 i : Nat), .slice none 0 0, .slice none 0 0]) ∧ Below w.heap.size w w' := by
  have HM := Lib.hid (fun W => mark_any 1 i W (by omega) hi)
  have hm := markN_bd 1 i (by omega) hi
  generalize markN 1 i = m at HM hm
  have hw := wrap_in (x := (m : Int)) (by omega) (by omega)
  have HB := Lib.hid (fun c : Array Value => (Below.refl w.heap.size w).alloc (Nat.le_refl _) (.cells c 102))
  have HB2 := Lib.hid (fun (c : Array Value) (v : Value) => ((Below.refl w.heap.size w).alloc (Nat.le_refl _) (.cells c 102)).setCell (p := ⟨w.heap.size, 1, none⟩) (Nat.le_refl _) v)
  go_enter Tryz.func42, Tryz.ntmps42
  go_wp2_with (go_at_call 92; refine (HM.out _).mono ?_; rintro e w' ⟨rfl, rfl⟩)
  go_returns
  exact ⟨rfl, by first | exact HB.out _ | exact HB2.out _ _⟩

theorem LI.mono {base base' : Nat} {w : World} {x y : It} (h : LI base w x y) (hb : base' ≤ base) : LI base' w x y := by
  obtain ⟨g, e1, e2, e3, e4⟩ := h.op
  obtain ⟨k, f1, f2, f3, f4⟩ := h.ot
  exact ⟨h.like, ⟨g, e1, e2, e3, e4.mono hb⟩, ⟨k, f1, f2, f3, f4.mono hb⟩⟩
theorem LI.keepG {base : Nat} {w w' : World} {x y : It} (h : LI base w x y) (hk : ∀ b, base ≤ b → b < w.heap.size → w'.heap[b]? = w.heap[b]?) : LI base w' x y := by
  obtain ⟨g, e1, e2, e3, e4⟩ := h.op
  obtain ⟨k, f1, f2, f3, f4⟩ := h.ot
  exact ⟨h.like, ⟨g, e1, e2, e3, e4.keep fun b e => hk b (e4.ge b e).1 (e4.ge b e).2⟩, ⟨k, f1, f2, f3, f4.keep fun b e => hk b (f4.ge b e).1 (f4.ge b e).2⟩⟩
/-- What stands in the loop over the items. -/
def LIR (w : World) (n : Nat) (X Y : List It) (j : Nat) (wr : World) : Prop :=
  Y.length = j ∧ OIt w.heap.size wr (.slice (some ⟨w.heap.size, 0, none⟩) j (n + 12)) Y ∧ (∀ i, i < j → LI (w.heap.size + 1) wr (X.getD i default) (Y.getD i default)) ∧ Below w.heap.size w wr ∧ w.heap.size < wr.heap.size
theorem LIR.step {w : World} {n : Nat} {X Y : List It} {j : Nat} {wr wm : World} {y : It} (h : LIR w n X Y j wr) (hm : Below wr.heap.size wr wm) (hy : LI wr.heap.size wm (X.getD j default) y) {c d : Array Value} {t : TypeId} {w4 : World} (ho : OIt w.heap.size w4 (.slice (some ⟨w.heap.size, 0, none⟩) (j + 1) (n + 12)) (Y ++ [y])) (hg : ((wm.alloc (.cells c t)).alloc (.cells d t)).grownBy w4 (some w.heap.size)) : LIR w n X (Y ++ [y]) (j + 1) w4 := by
  obtain ⟨h1, h2, h3, h4, h5⟩ := h
  have hsz := hm.size
  have hb2 : Below wm.heap.size wm ((wm.alloc (.cells c t)).alloc (.cells d t)) := ((Below.refl _ wm).alloc (Nat.le_refl _) _).alloc (by rw [World.size_alloc]; omega) _
  have hk : ∀ b, w.heap.size + 1 ≤ b → b < wm.heap.size → w4.heap[b]? = wm.heap[b]? := fun b hb1 hb => (hg.block b (by rw [World.size_alloc, World.size_alloc]; omega) (fun e => by have := Option.some.inj e; omega)).trans (hb2.block b hb)
  have hs4 := hg.size
  rw [World.size_alloc, World.size_alloc] at hs4
  refine ⟨by rw [List.length_append, h1]; rfl, ho, fun i hi => ?_, (h4.trans ((hm.mono (Nat.le_of_lt h5)).trans (hb2.mono (by omega)))).grown hg (by rw [World.size_alloc, World.size_alloc]; omega) (fun k e => by rw [← Option.some.inj e]; exact Nat.le_refl _), by omega⟩
  rcases Nat.lt_or_ge i j with hij | hij
  · have e : (Y ++ [y]).getD i default = Y.getD i default := by
      rw [List.getD_eq_getElem?_getD, List.getElem?_append_left (by omega), List.getD_eq_getElem?_getD]
    rw [e]
    exact ((h3 i hij).keepG fun b _ hb => hm.block b hb).keepG hk
  · obtain rfl : i = j := by omega
    have e : (Y ++ [y]).getD i default = y := by
      rw [List.getD_eq_getElem?_getD, List.getElem?_append_right (by omega), h1]
      simp
    rw [e]
    exact (hy.mono (by omega)).keepG hk
/-- What stands in the loop behind them. -/
def LJR (w : World) (n : Nat) (X Y : List It) (d : Nat) (wr : World) : Prop :=
  OIt w.heap.size wr (.slice (some ⟨w.heap.size, 0, none⟩) (n + d) (n + 12)) (Y ++ lentI.take d) ∧ (∀ i, i < n → LI (w.heap.size + 1) wr (X.getD i default) (Y.getD i default)) ∧ Below w.heap.size w wr ∧ w.heap.size < wr.heap.size
theorem LJR.step {w : World} {n : Nat} {X Y : List It} {d : Nat} (hd : d < 12) {wr wm : World} (h : LJR w n X Y d wr) (hm : Below wr.heap.size wr wm) {c : Array Value} {t : TypeId} {w4 : World} (ho : OIt w.heap.size w4 (.slice (some ⟨w.heap.size, 0, none⟩) (n + d + 1) (n + 12)) ((Y ++ lentI.take d) ++ [mkIt d])) (hg : (wm.alloc (.cells c t)).grownBy w4 (some w.heap.size)) : LJR w n X Y (d + 1) w4 := by
  obtain ⟨h2, h3, h4, h5⟩ := h
  have hsz := hm.size
  have hb2 : Below wm.heap.size wm (wm.alloc (.cells c t)) := (Below.refl _ wm).alloc (Nat.le_refl _) _
  have hk : ∀ b, w.heap.size + 1 ≤ b → b < wm.heap.size → w4.heap[b]? = wm.heap[b]? := fun b hb1 hb => (hg.block b (by rw [World.size_alloc]; omega) (fun e => by have := Option.some.inj e; omega)).trans (hb2.block b hb)
  have hs4 := hg.size
  rw [World.size_alloc] at hs4
  refine ⟨by rw [lentI_take d hd, ← List.append_assoc]; exact ho, fun i hi => ((h3 i hi).keepG fun b _ hb => hm.block b hb).keepG hk, (h4.trans ((hm.mono (Nat.le_of_lt h5)).trans (hb2.mono (by omega)))).grown hg (by rw [World.size_alloc]; omega) (fun k e => by rw [← Option.some.inj e]; exact Nat.le_refl _), by omega⟩
set_option maxHeartbeats 2000000 in
set_option maxRecDepth 100000 in
theorem LentItems_any (N : Nat) (a : Option Addr) (n c : Nat) (X : List It) (w : World) (hr : RI N w a n c X) (hN : N ≤ w.heap.size) (hs : n ≤ 100000) (hsz : ∀ x ∈ X, x.ps.length * 24 ≤ 140737488355328 ∧ x.os.length * 16 ≤ 140737488355328) :
    Calls Tryz.prog 16 #[.slice a n c] w fun e w' => ∃ Y : List It, e = .returned (.slice (some ⟨w.heap.size, 0, none⟩) n (n + 12)) ∧ Y.length = n ∧ OIt w.heap.size w' (.slice (some ⟨w.heap.size, 0, none⟩) (n + 12) (n + 12)) (Y ++ lentI) ∧ (∀ i, i < n → LI (w.heap.size + 1) w' (X.getD i default) (Y.getD i default)) ∧ Below w.heap.size w w' := by
  obtain ⟨i0, hi, hz0, hz1, hz2⟩ := info_parts Tryz.infoItem
  have hln := hr.len
  have hle := hr.le
  have hmx := hr.mx
  have Hln := Lib.hid hln
  have Hr := Lib.hid hr
  have Hi := Lib.hid hi
  have Hz0 := Lib.hid hz0
  have Hz1 := Lib.hid hz1
  have HSZ := Lib.hid hsz
  have hb0 : i0.bytes * (n + 12) ≤ 281474976710656 := by rw [hz2]; omega
  have Hb0 := Lib.hid hb0
  clear hi hz0 hz1 hz2 hr hln hb0 hsz
  go_enter Tryz.func16, Tryz.ntmps16
  go_wp2_with (first
    | (refine wpList_make_own _ rfl _ _ 22 rfl w.heap.size 102 i0 _ 4 Tryz.underlying22 Hi.out Hz0.out Hz1.out .i64 .i64 _ (n + 12) rfl rfl (by omega) Hb0.out (by simp only [maxLen]; omega) (Nat.le_refl _) ?_; intro w1 hown1 hg1; have O1 : Hid (OIt w.heap.size w1 (.slice (some ⟨w.heap.size, 0, none⟩) 0 (n + 12)) []) := Lib.hid hown1; have B1 : Hid (Below w.heap.size w w1) := Lib.hid ((Below.refl _ w).grown hg1 (Nat.le_refl _) (fun r e => by cases e)); clear hown1 hg1))
  have hs1 : Hid (w.heap.size < w1.heap.size) := Lib.hid (by have := (O1.out.ge _ rfl).2; exact this)
  go_loopw [3, 4] (fun v i wr => ∃ (j : Nat) (Y : List It), j ≤ n ∧ i = .int .i64 j ∧ v = .slice (some ⟨w.heap.size, 0, none⟩) j (n + 12) ∧ Hid (LIR w n X Y j wr)) (fun _ i _ => n - (intOf i).toNat)
  case atStart => exact ⟨0, [], by omega, rfl, rfl, Lib.hid ⟨rfl, O1.out, fun i hi => absurd hi (Nat.not_lt_zero _), B1.out, hs1.out⟩⟩
  case round =>
    obtain ⟨j, Y, hj, rfl, rfl, HI⟩ := hrel
    by_cases hlt : j < n
    · have t1 : decide ((j : Int) < (n : Int)) = true := by simp; omega
      have f1 : IntKind.i64.wrap ((j : Int) + 1) = ((j + 1 : Nat) : Int) := by rw [wrap_in (by omega) (by omega)]; omega
      have hrj := Hr.out.below (HI.out.2.2.2.1.mono hN)
      obtain ⟨b, o, rfl, hbN, hc⟩ := hrj.at_ (by omega)
      obtain ⟨k1, k2, k3, k4⟩ := hc j hlt
      have hxm : X.getD j default ∈ X := by
        rw [List.getD_eq_getElem?_getD, List.getElem?_eq_getElem (by rw [← Hln.out]; exact hlt)]; exact List.getElem_mem _
      have hxo := hrj.ok _ hxm
      have hxs := HSZ.out _ hxm
      obtain ⟨x, hx⟩ : ∃ x, x = X.getD j default := ⟨_, rfl⟩
      rw [← hx] at k1 k2 k3 k4 hxo hxs
      have hli := LentItem_any N x wr hxo (Nat.le_trans hN HI.out.2.2.2.1.size) hxs.1 hxs.2
      unfold It.val at hli
      unfold encStr at k1 hli
      have HLI := Lib.hid hli
      have HX := Lib.hid hx
      clear hc hrj hxm hxo hxs hx hli
      go_wp2_with (fail)
      go_at_call 41
      refine HLI.out.mono ?_
      rintro e wm ⟨hbm, y, rfl, hy⟩
      have hst := fun c d t w4 => HI.out.step (c := c) (d := d) (t := t) (w4 := w4) hbm (by rw [← HX.out]; exact hy)
      have HST := Lib.hid hst
      have O3 := Lib.hid (((HI.out.2.1.below hbm).below ((Below.refl _ wm).alloc (Nat.le_refl _) (.cells #[.string ⟨y.code.toArray⟩, .int .i64 y.life, .slice y.pa y.ps.length y.pc, .slice y.oa y.os.length y.oc] 102))).below ((Below.refl _ (wm.alloc (.cells #[.string ⟨y.code.toArray⟩, .int .i64 y.life, .slice y.pa y.ps.length y.pc, .slice y.oa y.os.length y.oc] 102))).alloc (Nat.le_refl _) (.cells #[.string ⟨y.code.toArray⟩, .int .i64 y.life, .slice y.pa y.ps.length y.pc, .slice y.oa y.os.length y.oc] 102)))
      have Hl := Lib.hid (show j + 1 ≤ n + 12 by omega)
      clear hst hbm hy
      go_wp2_with (first | (at_builtin; refine wpList_append_item rfl _ _ rfl w.heap.size w.heap.size j (n + 12) Y y rfl O3.out _ 1 rfl (one_item2 _ y _ _ _) Hl.out ?_; intro w4 hown4 hg4))
      have HI4 := Lib.hid (HST.out _ _ _ w4 hown4 hg4)
      clear hown4 hg4
      go_roundw
      case rel => exact ⟨j + 1, Y ++ [y], by omega, by go_num, by go_num, HI4⟩
      case measure => simp [intOf]; omega
    · have t1 : decide ((j : Int) < (n : Int)) = false := by simp; omega
      have hjn : j = n := by omega
      subst hjn
      clear hj hlt
      go_wp2_with (fail)
      obtain ⟨hYl, hJ0⟩ := HI.out
      have HYL := Lib.hid hYl
      have HJ0 : Hid (LJR w j X Y 0 wr) := Lib.hid ⟨by simpa using hJ0.1, hJ0.2⟩
      clear hYl hJ0
      go_loopw [3, 6] (fun v i wr => ∃ (d : Nat), d ≤ 12 ∧ i = .int .i64 d ∧ v = .slice (some ⟨w.heap.size, 0, none⟩) (j + d) (j + 12) ∧ Hid (LJR w j X Y d wr)) (fun _ i _ => 12 - (intOf i).toNat)
      case atStart => exact ⟨0, by omega, rfl, rfl, HJ0⟩
      case round =>
        obtain ⟨d, hd, rfl, rfl, HJ⟩ := hrel
        by_cases hlt : d < 12
        · have t1 : decide ((d : Int) < 12) = true := by simp; omega
          have f1 : IntKind.i64.wrap ((d : Int) + 1) = ((d + 1 : Nat) : Int) := by rw [wrap_in (by omega) (by omega)]; omega
          have hmk := fun W => markItem_any d W (by omega)
          have hmt : mkIt d = ⟨[], (markN 1 d : Int), none, 0, [], none, 0, []⟩ := rfl
          obtain ⟨m, hm⟩ : ∃ m, m = markN 1 d := ⟨_, rfl⟩
          rw [← hm] at hmk hmt
          have HM := Lib.hid hmk
          have HMT := Lib.hid hmt
          have Hl := Lib.hid (show j + d + 1 ≤ j + 12 by omega)
          have HLT := Lib.hid hlt
          clear hm hmk hmt
          go_wp2_with (first | (go_at_call 42; refine (HM.out _).mono ?_; rintro e wm ⟨rfl, hbm⟩; have HST := Lib.hid (fun c t w4 => HJ.out.step HLT.out (c := c) (t := t) (w4 := w4) hbm); have O3 := Lib.hid ((HJ.out.1.below hbm).below ((Below.refl _ wm).alloc (Nat.le_refl _) (.cells #[.string ⟨#[]⟩, .int .i64 (m : Int), .slice none 0 0, .slice none 0 0] 102))); clear hbm) | (at_builtin; refine wpList_append_item rfl _ _ rfl w.heap.size w.heap.size (j + d) (j + 12) (Y ++ lentI.take d) ⟨[], (m : Int), none, 0, [], none, 0, []⟩ rfl O3.out _ 1 rfl (one_item _ ⟨[], (m : Int), none, 0, [], none, 0, []⟩ _) Hl.out ?_; intro w4 hown4 hg4))
          have HI4 := Lib.hid (HST.out _ _ w4 (by rw [HMT.out]; exact hown4) hg4)
          clear hown4 hg4
          go_roundw
          case rel => exact ⟨d + 1, by omega, by go_num, by go_num, HI4⟩
          case measure => simp [intOf]; omega
        · have t1 : decide ((d : Int) < 12) = false := by simp; omega
          have hd12 : d = 12 := by omega
          subst hd12
          have q4 : (j : Int) ≤ (j : Int) + 12 := by omega
          go_wp2_with (fail)
          go_ret
          have h := HJ.out.1
          rw [List.take_of_length_le (Nat.le_of_eq lentI_len)] at h
          exact ⟨Y, rfl, HYL.out, h, HJ.out.2.1, HJ.out.2.2.1⟩
end Go.Proofs.YtbedbhlebfnohaaGreat
