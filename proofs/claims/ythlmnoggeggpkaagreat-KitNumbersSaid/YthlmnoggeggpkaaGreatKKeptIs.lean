/- Own lists that grow: of items, of lists of parts. The walk of storemankit.KeptItems. -/
import Derived.Test.YthlmnoggeggpkaaGreatKLentI
import Derived.Test.YthlmnoggeggpkaaGreatTxA
import Derived.Test.YthlmnoggeggpkaaGreatBelowQ
namespace Go.Proofs.YthlmnoggeggpkaaGreat
open Go.RowKit Tx

def encV (v : PV) : Value := .slice v.a v.n v.c
/-- The slice value v leads to memory of the call's own, from block base on, and reads as the lists V. -/
def OV (base : Nat) (w : World) (v : Value) (V : List PV) : Prop := w.ownsRow base 26 1 v V.length (V.map encV)
theorem Tryz.infoV : (Tryz.prog.info? 26).map (fun i => (i.zero, i.size, i.bytes)) = some (some (.slice none 0 0), 1, 24) := by kernel_rfl
theorem OV.nil (base : Nat) (w : World) : OV base w (.slice none 0 0) [] := World.ownsRow_nil _ _ _ _
theorem OIt.nil (base : Nat) (w : World) : OIt base w (.slice none 0 0) [] := World.ownsRow_nil _ _ _ _
theorem OV.below {base : Nat} {W W' : World} {v : Value} {V : List PV} (h : OV base W v V) (hb : Below W.heap.size W W') : OV base W' v V := rows_below h hb
/-- Own rows of two kinds lie in two blocks. -/
theorem rows_apart {W : World} {base base' size size' n n' : Nat} {e e' : TypeId} {v v' : Value} {xs xs' : List Value} (hne : e ≠ e') (h : W.ownsRow base e size v n xs) (h' : W.ownsRow base' e' size' v' n' xs') {b : Nat} (hb : v.ownBlock = some b) : v'.ownBlock ≠ some b := fun hb' => by
  obtain ⟨c1, h1⟩ := row_is h hb
  obtain ⟨c2, h2⟩ := row_is h' hb'
  rw [h1] at h2
  injection h2 with h2
  injection h2 with _ h2 _
  exact hne h2
/-- An own row stands while one of another kind grows. -/
theorem rows_grown {W W' : World} {base base' size size' n n' : Nat} {e e' : TypeId} {v v' : Value} {xs xs' : List Value} (hne : e ≠ e') (h : W.ownsRow base e size v n xs) (h' : W.ownsRow base' e' size' v' n' xs') (hg : W.grownBy W' v'.ownBlock) : W'.ownsRow base e size v n xs :=
  rows_keep h fun b hb => hg.block b (rows_ge h b hb).2 (fun e => (rows_apart hne h h' hb) (by rw [e]))
theorem OV.rv {base : Nat} {w : World} {v : Value} {V : List PV} (h : OV base w v V) (hp : ∀ i, i < V.length → RP w.heap.size w (V.getD i default).a (V.getD i default).n (V.getD i default).c (V.getD i default).P) : ∃ a c, v = .slice a V.length c ∧ RV w.heap.size w a V.length c V := by
  obtain ⟨a, c, rfl, hle, hmx, ha⟩ := rows_form h
  refine ⟨a, c, rfl, ⟨rfl, hle, hmx, fun hc => ?_, hp⟩⟩
  obtain ⟨h1, ⟨h2, h3⟩ | ⟨g, cap, cur, hv, hg, hh, -, -, -, ht⟩⟩ := id h
  · injection h2 with e1 e2 e3
    omega
  · injection hv with e1 e2 e3
    subst e1
    refine ⟨g, 0, rfl, (Array.getElem?_eq_some_iff.1 hh).1, fun i hi => ?_⟩
    have hcell := World.ownsRow.cells (g := g) h rfl i (encV (V.getD i default)) (by
      rw [List.getElem?_map, List.getD_eq_getElem?_getD, List.getElem?_eq_getElem hi]; rfl)
    have e : (⟨g, 0, none⟩ : Addr).add i = ⟨g, 0 + i, none⟩ := by unfold Addr.add; split <;> simp_all
    rw [e] at hcell
    exact hcell
set_option maxRecDepth 100000 in
theorem wpList_append_v {w : World} {ops : Array Oper} {rest : List Oper} {o : Oper} {a : Act} {K : Exit → Act → World → Prop} (hgd : o.guard = none) (s x : Operand)
    (ho : o.op = .call { callee := .builtin .append, args := #[s, x], argTypes := #[38, 38] }) (base : Nat) (v : Value) (V : List PV) (p : PV) (hs : a.eval s = v) (h : OV base w v V) (ad : Addr) (c : Nat)
    (hx : a.eval x = .slice (some ad) 1 c) (hsrc : w.cell? ad = some (encV p)) (hbase : base ≤ w.heap.size) (hl : V.length ≤ 1000000)
    (hK : ∀ g cap w', OV base w' (.slice (some ⟨g, 0, none⟩) (V.length + 1) cap) (V ++ [p]) → w.grownBy w' v.ownBlock → (v.ownBlock = some g ∨ g = w.heap.size) → wpList Tryz.prog ops K rest (a.put o.dst (.slice (some ⟨g, 0, none⟩) (V.length + 1) cap)) w') : wpList Tryz.prog ops K (o :: rest) a w := by
  obtain ⟨i0, hi, hz0, hz1, hz2⟩ := info_parts Tryz.infoV
  refine wpList_append_keepC (P := Tryz.prog) hgd s x 38 ho 26 i0 _ (Q := [encV p]) (m := 1) (cs := 1) Tryz.underlying38 hi hz0 hz1 rfl hs h (some ad) c hx ⟨ad, rfl, fun j u hu => ?_⟩ (fun u hu => ?_) rfl (by decide) hbase (by rw [hz2]; omega) (by omega) ?_
  · obtain rfl : j = 0 := by
      cases j with
      | zero => rfl
      | succ j => cases hu
    injection hu with hu
    subst hu
    have e : ad.add 0 = ad := by unfold Addr.add; split <;> simp_all
    rw [e]; exact hsrc
  · rw [List.mem_singleton] at hu
    subst hu; rfl
  · intro g cap w' h1 h2 h3 h4
    refine hK g cap w' ?_ h3 h4
    unfold OV
    rw [List.length_append, List.map_append]
    exact h1
set_option maxRecDepth 100000 in
theorem wpList_append_item2 {w : World} {ops : Array Oper} {rest : List Oper} {o : Oper} {a : Act} {K : Exit → Act → World → Prop} (hgd : o.guard = none) (s x : Operand)
    (ho : o.op = .call { callee := .builtin .append, args := #[s, x], argTypes := #[22, 22] }) (base : Nat) (v : Value) (Y : List It) (y : It) (hs : a.eval s = v) (h : OIt base w v Y) (ad : Addr) (c : Nat)
    (hx : a.eval x = .slice (some ad) 1 c) (hsrc : ∀ j u, (cellsI [y])[j]? = some u → w.cell? (ad.add j) = some u) (hbase : base ≤ w.heap.size) (hl : Y.length ≤ 1000000)
    (hK : ∀ g cap w', OIt base w' (.slice (some ⟨g, 0, none⟩) (Y.length + 1) cap) (Y ++ [y]) → OIt base w' v Y → w.grownBy w' v.ownBlock → (v.ownBlock = some g ∨ g = w.heap.size) → wpList Tryz.prog ops K rest (a.put o.dst (.slice (some ⟨g, 0, none⟩) (Y.length + 1) cap)) w') : wpList Tryz.prog ops K (o :: rest) a w := by
  obtain ⟨i0, hi, hz0, hz1, hz2⟩ := info_parts Tryz.infoItem
  refine wpList_append_keepC (P := Tryz.prog) hgd s x 22 ho 43 i0 _ (Q := cellsI [y]) (m := 1) (cs := 4) Tryz.underlying22 hi hz0 hz1 rfl hs h (some ad) c hx ⟨ad, rfl, hsrc⟩ cellsI_one (cellsI_len [y]) (by decide) hbase (by rw [hz2]; omega) (by omega) ?_
  intro g cap w' h1 h2 h3 h4
  refine hK g cap w' ?_ h2 h3 h4
  unfold OIt
  rw [List.length_append, cellsI_append]
  exact h1
/-- What stands behind the first n statements. -/
def dropC : Nat → Code → Code
  | n + 1, .seq _ b => dropC n b
  | _, c => c
theorem less_facts {a b : List UInt8} (h : a < b) : Op.bytesLess a b = true ∧ Op.bytesLess b a = false ∧ (a == b) = false ∧ (b == a) = false := by
  have hne : a ≠ b := fun e => by rw [e] at h; exact List.lt_irrefl _ h
  refine ⟨by rw [less_iff, decide_eq_true h], ?_, by simpa using hne, by simpa using fun e => hne e.symm⟩
  rw [less_iff]
  exact decide_eq_false fun h2 => lt_asymm' h h2
end Go.Proofs.YthlmnoggeggpkaaGreat
namespace Go.Proofs.YthlmnoggeggpkaaGreat
open Go.RowKit

theorem allI_at (L : List It) (n j : Nat) (hn : n = L.length) (hj : j < n) : (L ++ lentI).getD j default = L.getD j default := by
  rw [List.getD_eq_getElem?_getD, List.getElem?_append_left (by omega), List.getD_eq_getElem?_getD]
theorem allI_behind (L : List It) (n d : Nat) (hn : n = L.length) (hd : d < 12) : (L ++ lentI).getD (n + d) default = mkIt d := by
  rw [List.getD_eq_getElem?_getD, List.getElem?_append_right (by omega), show n + d - L.length = d by omega, List.getElem?_eq_getElem (by rw [lentI_len]; exact hd), Option.getD_some, lentI_at d hd]
/-- The cells of items of one's own. -/
theorem OIt.cells {base : Nat} {w : World} {g n c : Nat} {Y : List It} (h : OIt base w (.slice (some ⟨g, 0, none⟩) n c) Y) : n = Y.length ∧ n ≤ c ∧ c ≤ 9223372036854775807 ∧ g < w.heap.size ∧ ∀ i, i < n → w.cell? ⟨g, i * 4, none⟩ = some (encStr (Y.getD i default).code) ∧ w.cell? ⟨g, i * 4 + 1, none⟩ = some (.int .i64 (Y.getD i default).life) ∧ w.cell? ⟨g, i * 4 + 2, none⟩ = some (.slice (Y.getD i default).pa (Y.getD i default).ps.length (Y.getD i default).pc) ∧ w.cell? ⟨g, i * 4 + 3, none⟩ = some (.slice (Y.getD i default).oa (Y.getD i default).os.length (Y.getD i default).oc) := by
  obtain ⟨h1, ⟨h2, -⟩ | ⟨g', cap, cur, hv, hg, hh, hle, hcap, hsz, htk⟩⟩ := h
  · cases h2
  · cases hv
    refine ⟨rfl, hle, by simpa [maxLen] using hcap, (Array.getElem?_eq_some_iff.1 hh).1, fun i hi => ?_⟩
    have hat := cellsI_at Y i hi
    rw [← htk] at hat
    simp only [World.cell?, hh, Option.isSome_none, Bool.false_eq_true, if_false]
    rw [List.getElem?_take, if_pos (by omega), List.getElem?_take, if_pos (by omega), List.getElem?_take, if_pos (by omega), List.getElem?_take, if_pos (by omega)] at hat
    simpa using hat
theorem mkIt_ok (d B : Nat) (w : World) (hd : d < 12) : ItOk B w (mkIt d) := by
  have := markN_bd 1 d (by omega) (by omega)
  refine ⟨Nat.zero_le _, by unfold mkIt; simp only; omega, by unfold mkIt; simp only; omega, ⟨rfl, Nat.le_refl _, Nat.zero_le _, fun p hp => (by cases hp), fun h => absurd h (Nat.lt_irrefl _)⟩, ⟨rfl, Nat.le_refl _, Nat.zero_le _, fun p hp => (by cases hp), fun h => absurd h (Nat.lt_irrefl _)⟩⟩

set_option maxHeartbeats 4000000 in
set_option maxRecDepth 100000 in
theorem KeptItems_any (base N : Nat) (g : Nat) (a : Option Addr) (n c : Nat) (X Y : List It) (w : World) (ho : OIt base w (.slice (some ⟨g, 0, none⟩) (n + 12) (n + 12)) (Y ++ lentI)) (hY : Y.length = n) (hL : ∀ i, i < n → LI base w (X.getD i default) (Y.getD i default)) (hr : RI N w a n c X) (hN : N ≤ w.heap.size) (hs : n ≤ 100000) :
    Calls Tryz.prog 11 #[.slice (some ⟨g, 0, none⟩) n (n + 12), .slice a n c] w fun e w' => e = .returned (.bool true) ∧ Below w.heap.size w w' := by
  obtain ⟨-, -, -, hgw, hcells⟩ := ho.cells
  have h3 := hr.le; have h4 := hr.mx
  have hln := hr.len
  have Hln := Lib.hid hln
  have HC := Lib.hid hcells
  have HL := Lib.hid hL
  have Hr := Lib.hid hr
  have HY := Lib.hid hY.symm
  clear ho hr hln hcells hL hY
  have q1 : (n : Int) + 12 ≤ ((n + 12 : Nat) : Int) := by omega
  have q2 := wrap_in (x := (n : Int) + 12) (by omega) (by omega)
  go_enter Tryz.func11, Tryz.ntmps11
  go_wp2_with (fail)
  go_loopw [6] (fun i wr => ∃ (j : Nat), j ≤ n + 12 ∧ i = .int .i64 j ∧ Hid (Below w.heap.size w wr)) (fun i _ => n + 12 - (intOf i).toNat)
  case atStart => exact ⟨0, by omega, rfl, Lib.hid (Below.refl _ _)⟩
  case round =>
    obtain ⟨j, hj, rfl, Hb⟩ := hrel
    have hsz := Hb.out.size
    by_cases hlt : j < n
    · have hrj := Hr.out.below (Hb.out.mono hN)
      obtain ⟨b2, o2, rfl, hbN, hc2⟩ := hrj.at_ (by omega)
      obtain ⟨k1, k2, k3, k4⟩ := HC.out j (by omega)
      obtain ⟨k5, k6, k7, k8⟩ := hc2 j hlt
      rw [allI_at Y n j HY.out hlt] at k1 k2 k3 k4
      have hxm : X.getD j default ∈ X := by
        rw [List.getD_eq_getElem?_getD, List.getElem?_eq_getElem (by rw [← Hln.out]; exact hlt)]; exact List.getElem_mem _
      have hxo := hrj.ok _ hxm
      have hli := (HL.out j hlt).keep Hb.out
      generalize X.getD j default = x at k5 k6 k7 k8 hxo hli
      generalize Y.getD j default = y at k1 k2 k3 k4 hli
      have hmk : ∀ z : BelowW wr, Calls Tryz.prog 35 #[y.val, x.val] z.v fun e w' => e = .returned (.bool true) ∧ Below z.v.heap.size z.v w' := fun z => KeptItem_any base N x y z.v (hxo.below (z.h.mono (Nat.le_trans hN hsz))) (hli.keep z.h) (Nat.le_trans (Nat.le_trans hN hsz) z.h.size)
      unfold It.val encStr at hmk
      unfold encStr at k1 k5
      have hbw : ∀ (i : Nat) (v : Value), w.cell? ⟨g, i, none⟩ = some v → ∀ z : BelowW wr, z.v.cell? ⟨g, i, none⟩ = some v := fun i v h z => (z.h.cell (by show g < _; omega)).trans ((Hb.out.cell (by show g < _; omega)).trans h)
      have hbx : ∀ (i : Nat) (v : Value), wr.cell? ⟨b2, i, none⟩ = some v → ∀ z : BelowW wr, z.v.cell? ⟨b2, i, none⟩ = some v := fun i v h z => (z.h.cell (by show b2 < _; omega)).trans h
      have f1 := hbw _ _ k1
      have f2 := hbw _ _ k2
      have f3 := hbw _ _ k3
      have f4 := hbw _ _ k4
      have f5 := hbx _ _ k5
      have f6 := hbx _ _ k6
      have f7 := hbx _ _ k7
      have f8 := hbx _ _ k8
      have HMK := Lib.hid hmk
      have hd : decide ((j : Int) < (n : Int)) = true := decide_eq_true (by omega)
      have hd2 : decide ((n : Int) ≤ (j : Int)) = false := decide_eq_false (by omega)
      have hd3 : decide (n ≤ j) = false := decide_eq_false (by omega)
      have hd4 : decide (j < n) = true := decide_eq_true (by omega)
      clear k1 k2 k3 k4 k5 k6 k7 k8 hbw hbx hmk hxo hli hxm hc2 hrj
      go_wp2_with (fail)
      refine wp_region_below wr (by kernel_rfl) (by kernel_rfl) (Below.refl _ _) ?_
      repeat (go_big_quiet_step ((go_at_call 35; exact below_call (HMK.out _))))
      refine wpQuiet_nil ?_
      intro _ hw'
      obtain ⟨y, hw''⟩ := hw'
      subst hw''
      clear f1 f2 f3 f4 f5 f6 f7 f8
      go_wp2_with (fail)
      go_roundw
      case rel => exact ⟨j + 1, by omega, by go_num, Lib.hid (Hb.out.trans (y.h.mono hsz))⟩
      case measure => simp [intOf]; omega
    · by_cases hlt2 : j < n + 12
      · obtain ⟨d, rfl⟩ : ∃ d, j = n + d := ⟨j - n, by omega⟩
        obtain ⟨k1, k2, k3, k4⟩ := HC.out (n + d) (by omega)
        rw [allI_behind Y n d HY.out (by omega)] at k1 k2 k3 k4
        have hmk : ∀ W : World, Calls Tryz.prog 25 #[.int .i64 1, .int .i64 (d : Int)] W fun e w' => e = .returned (.agg #[.string ⟨#[]⟩, .int .i64 (markN 1 d : Nat), .slice none 0 0, .slice none 0 0]) ∧ Below W.heap.size W w' := fun W => markItem_any d W (by omega)
        have hsm : ∀ W : World, Calls Tryz.prog 36 #[.agg #[.string ⟨#[]⟩, .int .i64 (markN 1 d : Nat), .slice none 0 0, .slice none 0 0], .agg #[.string ⟨#[]⟩, .int .i64 (markN 1 d : Nat), .slice none 0 0, .slice none 0 0]] W fun e w' => e = .returned (.bool true) ∧ Below W.heap.size W w' := fun W => SameItem_like 0 (mkIt d) (mkIt d) W (mkIt_ok d 0 W (by omega)) (mkIt_ok d 0 W (by omega)) (Nat.zero_le _) ⟨rfl, rfl, rfl, rfl⟩
        unfold mkIt at k1 k2 k3 k4
        unfold encStr at k1
        simp only [List.length_nil] at k1 k2 k3 k4
        generalize ((markN 1 d : Nat) : Int) = m at k2 hmk hsm
        have hbw : ∀ (i : Nat) (v : Value), w.cell? ⟨g, i, none⟩ = some v → ∀ z : BelowW wr, z.v.cell? ⟨g, i, none⟩ = some v := fun i v h z => (z.h.cell (by show g < _; omega)).trans ((Hb.out.cell (by show g < _; omega)).trans h)
        have f1 := hbw _ _ k1
        have f2 := hbw _ _ k2
        have f3 := hbw _ _ k3
        have f4 := hbw _ _ k4
        have HMK := Lib.hid hmk
        have HSM := Lib.hid hsm
        clear k1 k2 k3 k4 hbw hmk hsm
        have i1 : decide ((n : Int) + (d : Int) < (n : Int)) = false := decide_eq_false (by omega)
        have i2 : decide ((n : Int) ≤ (n : Int) + (d : Int)) = true := decide_eq_true (by omega)
        have i3 : IntKind.i64.wrap ((n : Int) + (d : Int) - (n : Int)) = (d : Int) := by
          rw [show (n : Int) + (d : Int) - (n : Int) = (d : Int) by omega]
          exact wrap_in (by omega) (by omega)
        have i5 : (n : Int) + (d : Int) < (n : Int) + 12 := by omega
        have i6 : (0 : Int) ≤ (n : Int) + (d : Int) := by omega
        have c5 := Lib.hid hlt2
        clear hlt hj hlt2
        go_wp2_with (fail)
        refine wp_region_below wr (by kernel_rfl) (by kernel_rfl) (Below.refl _ _) ?_
        repeat (go_big_quiet_step (first | (go_at_call 25; exact below_call (HMK.out _)) | (go_at_call 36; exact below_call (HSM.out _))))
        refine wpQuiet_nil ?_
        intro _ hw'
        obtain ⟨y, hw''⟩ := hw'
        subst hw''
        clear f1 f2 f3 f4
        go_wp2_with (fail)
        have c6 := c5.out
        go_roundw
        case rel => exact ⟨n + d + 1, by omega, by go_num, Lib.hid (Hb.out.trans (y.h.mono hsz))⟩
        case measure => simp [intOf]; omega
      · go_wp2_with (fail)
        go_ret
        exact ⟨rfl, Hb.out⟩
end Go.Proofs.YthlmnoggeggpkaaGreat
