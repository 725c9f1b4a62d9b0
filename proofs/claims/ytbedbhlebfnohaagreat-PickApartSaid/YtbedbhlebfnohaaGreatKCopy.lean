/- storemankit.ApartStates at three lists of one state each: its walk. (Printed by gen/pbag.py.) Own lists that grow: of items, of lists of parts. Copies of items. -/
import Derived.Test.YtbedbhlebfnohaaGreatQBgP
import Derived.Test.YtbedbhlebfnohaaGreatQBgW
import Derived.Test.YtbedbhlebfnohaaGreatQItC
import Derived.Test.YtbedbhlebfnohaaGreatJMap
import Derived.Test.YtbedbhlebfnohaaGreatTxA
import Derived.Test.YtbedbhlebfnohaaGreatQRefP
namespace Go.Proofs.YtbedbhlebfnohaaGreat.Tx
open Go.RowKit

structure SV where
  g : Nat
  now : Int
  nl : Int
  nx : Int
  a1 : Option Addr
  n1 : Nat
  c1 : Nat
  X : List It
  a2 : Option Addr
  n2 : Nat
  c2 : Nat
  a3 : Option Addr
  n3 : Nat
  c3 : Nat
def bgN (S : Nat → SV) : Nat → Bg
  | 0 => Bg.nil
  | k + 1 => (bgN S k).states (.slice (some ⟨(S k).g, 0, none⟩) 1 1) (.slice (S k).a1 (S k).n1 (S k).c1) (.slice (S k).a2 (S k).n2 (S k).c2) (.slice (S k).a3 (S k).n3 (S k).c3) (S k).X
theorem bgN_len (S : Nat → SV) (hX : ∀ k, (S k).X.length ≤ 1000) : ∀ k, (bgN S k).st.length = k ∧ (bgN S k).it.length = k ∧ (bgN S k).lo.length = k ∧ (bgN S k).li.length = k ∧ (bgN S k).pa.length ≤ k * 1000 ∧ (bgN S k).tx.length ≤ k * 1000
  | 0 => ⟨rfl, rfl, rfl, rfl, Nat.le_refl _, Nat.le_refl _⟩
  | k + 1 => by
    obtain ⟨h1, h2, h3, h4, h5, h6⟩ := bgN_len S hX k
    have := hX k
    simp only [bgN, Bg.states, Bg.items, List.length_append, List.length_cons, List.length_nil, List.length_map]
    omega
theorem bag_new (w : World) : Bag w.heap.size (w.alloc (.cells #[.slice none 0 0, .slice none 0 0, .slice none 0 0, .slice none 0 0, .slice none 0 0, .slice none 0 0, .slice none 0 0, .slice none 0 0, .slice none 0 0, .slice none 0 0, .slice none 0 0, .slice none 0 0, .slice none 0 0, .slice none 0 0, .slice none 0 0, .slice none 0 0, .slice none 0 0, .slice none 0 0, .slice none 0 0, .slice none 0 0, .slice none 0 0, .slice none 0 0, .slice none 0 0] 98)) Bg.nil := by
  refine ⟨_, heap_alloc_new w _, rfl, fun i h1 => ⟨.slice none 0 0, ?_, ?_, fun _ => rfl⟩⟩
  · rcases (show i = 0 ∨ i = 1 ∨ i = 2 ∨ i = 3 ∨ i = 4 ∨ i = 5 ∨ i = 6 ∨ i = 7 ∨ i = 8 ∨ i = 9 ∨ i = 10 ∨ i = 11 ∨ i = 12 ∨ i = 13 ∨ i = 14 ∨ i = 15 ∨ i = 16 ∨ i = 17 ∨ i = 18 ∨ i = 19 ∨ i = 20 ∨ i = 21 ∨ i = 22 by omega) with rfl | rfl | rfl | rfl | rfl | rfl | rfl | rfl | rfl | rfl | rfl | rfl | rfl | rfl | rfl | rfl | rfl | rfl | rfl | rfl | rfl | rfl | rfl <;> rfl
  · have h : Bg.nil.at i = [] := by simp [Bg.at, Bg.nil]
    rw [h]
    exact World.ownsRow_nil _ _ _ _
set_option maxHeartbeats 4000000 in
set_option maxRecDepth 100000 in
theorem ApartStates_any (B lb : Nat) (S : Nat → SV) (w : World) (hB : B ≤ w.heap.size) (hlb : lb < w.heap.size) (hls : ∀ k, k < 3 → w.cell? ⟨lb, k, none⟩ = some (.slice (some ⟨(S k).g, 0, none⟩) 1 1)) (hX : ∀ k, (S k).X.length ≤ 1000)
    (hst : ∀ k, k < 3 → St1 w.heap.size w (S k).g (S k).now (S k).nl (S k).nx (S k).a1 (S k).n1 (S k).c1 (S k).X (.slice (S k).a2 (S k).n2 (S k).c2) (.slice (S k).a3 (S k).n3 (S k).c3)) (h3 : Apl 9 1 (fun n => n * 16 ≤ 140737488355328) B w.heap.size w (bgN S 3).tx) (h6 : Apl 46 6 (fun n => n ≤ 1000000) B w.heap.size w (bgN S 3).lo) (h9 : Apl 60 2 (fun n => n * 24 ≤ 140737488355328) B w.heap.size w (bgN S 3).pa) (h10 : Apl 102 4 (fun n => n ≤ 1000000) B w.heap.size w (bgN S 3).it) (h11 : Apl 49 8 (fun n => n ≤ 1000000) B w.heap.size w (bgN S 3).li) (h14 : Apl 26 6 (fun n => n ≤ 1000000) B w.heap.size w (bgN S 3).st) :
    Calls Tryz.prog 14 #[.slice (some ⟨lb, 0, none⟩) 3 3] w fun e w' => e = .returned (.bool true) ∧ Below B w w' := by
  have HX := Lib.hid hX
  have HLS := Lib.hid hls
  have HST := Lib.hid hst
  obtain ⟨z, hz⟩ : ∃ z, z = w.heap.size := ⟨_, rfl⟩
  have Hz := Lib.hid hz
  have hb0 := Lib.hid (bag_new w)
  have hbw := Lib.hid ((Below.refl w.heap.size w).alloc (Nat.le_refl _) (.cells #[.slice none 0 0, .slice none 0 0, .slice none 0 0, .slice none 0 0, .slice none 0 0, .slice none 0 0, .slice none 0 0, .slice none 0 0, .slice none 0 0, .slice none 0 0, .slice none 0 0, .slice none 0 0, .slice none 0 0, .slice none 0 0, .slice none 0 0, .slice none 0 0, .slice none 0 0, .slice none 0 0, .slice none 0 0, .slice none 0 0, .slice none 0 0, .slice none 0 0, .slice none 0 0] 98))
  have HAP : Hid (∀ wr, Below w.heap.size w wr → Bag z wr (bgN S 3) → Calls Tryz.prog 40 #[.pointer (some ⟨z, 0, none⟩)] wr fun e w' => e = .returned (.bool true) ∧ Below B wr w') := Lib.hid fun wr hb hbag => by
    obtain ⟨l1, l2, l3, l4, l5, l6⟩ := bgN_len S hX 3
    exact apart_any B w.heap.size z _ wr hB (by omega) hbag (h3.below hb) (by omega) (h6.below hb) (by omega) (h9.below hb) (by omega) (h10.below hb) (by omega) (h11.below hb) (by omega) (h14.below hb) (by omega)
  rw [← hz] at hb0
  clear hls hst hX h3 h6 h9 h10 h11 h14
  go_enter Tryz.func14, Tryz.ntmps14
  go_wp2_with (fail)
  rw [← hz]
  clear hz
  go_loopw [4] (fun s4 wr => ∃ k : Nat, s4 = .int .i64 k ∧ k ≤ 3 ∧ Hid (Bag z wr (bgN S k)) ∧ Hid (Below w.heap.size w wr)) (fun s4 _ => 3 - (intOf s4).toNat)
  case atStart => exact ⟨0, rfl, by omega, hb0, hbw⟩
  case round =>
    clear hb0 hbw
    obtain ⟨k, rfl, hk, hbag, hbw⟩ := hrel
    by_cases hkn : k < 3
    · have hcl := (hbw.out.cell (p := ⟨lb, k, none⟩) hlb).trans (HLS.out k hkn)
      obtain ⟨l1, l2, l3, l4, l5, l6⟩ := bgN_len S HX.out k
      have hx := HX.out k
      have hsk := (HST.out k hkn).below hbw.out
      have hnx := hsk.ri.len
      have hput := putStates_any z (bgN S k) w.heap.size _ _ _ _ _ _ _ _ _ _ _ _ _ _ wr hbag.out hsk (by rw [Hz.out]; exact Nat.le_refl _) (by omega) (by omega) (by omega) (by omega) (by omega) (by omega)
      have Hput := Lib.hid hput
      obtain ⟨g, hg⟩ : ∃ g, g = (S k).g := ⟨_, rfl⟩
      rw [← hg] at hcl
      have Hg := Lib.hid hg
      clear hput hsk hnx hx l1 l2 l3 l4 l5 l6 hg
      have HPU : Hid (Calls Tryz.prog 39 #[.pointer (some ⟨z, 0, none⟩), .slice (some ⟨g, 0, none⟩) 1 1] wr fun e w' => e = .returned (.tuple #[]) ∧ Bag z w' (bgN S (k + 1)) ∧ Bs z wr w') := Lib.hid (by rw [Hg.out]; exact Hput.out)
      clear Hput
      go_wp2_with (go_at_call 39; refine HPU.out.mono ?_; rintro e w2 ⟨rfl, h2, h3⟩; have H2 := Lib.hid h2; have H3 := Lib.hid h3; clear h2 h3)
      go_roundw
      case rel => exact ⟨k + 1, by go_num, by omega, H2, Lib.hid (hbw.out.trans (Hz.out ▸ H3.out.below))⟩
      case measure => simp [intOf]; omega
    · have ek : k = 3 := by omega
      subst ek
      have hap := Lib.hid (HAP.out wr hbw.out hbag.out)
      go_wp2_with (go_at_call 40; refine hap.out.mono ?_; rintro e w2 ⟨rfl, h2⟩; have H2 := Lib.hid h2; clear h2)
      go_ret
      exact ⟨rfl, (hbw.out.mono hB).trans H2.out⟩
end Go.Proofs.YtbedbhlebfnohaaGreat.Tx
namespace Go.Proofs.YtbedbhlebfnohaaGreat
open Go.RowKit Tx

def encV (v : PV) : Value := .slice v.a v.n v.c
def OV (base : Nat) (w : World) (v : Value) (V : List PV) : Prop := w.ownsRow base 55 1 v V.length (V.map encV)
theorem OIt.nil (base : Nat) (w : World) : OIt base w (.slice none 0 0) [] := World.ownsRow_nil _ _ _ _
theorem rows_apart {W : World} {base base' size size' n n' : Nat} {e e' : TypeId} {v v' : Value} {xs xs' : List Value} (hne : e ≠ e') (h : W.ownsRow base e size v n xs) (h' : W.ownsRow base' e' size' v' n' xs') {b : Nat} (hb : v.ownBlock = some b) : v'.ownBlock ≠ some b := fun hb' => by
  obtain ⟨c1, h1⟩ := row_is h hb
  obtain ⟨c2, h2⟩ := row_is h' hb'
  rw [h1] at h2
  injection h2 with h2
  injection h2 with _ h2 _
  exact hne h2
theorem rows_grown {W W' : World} {base base' size size' n n' : Nat} {e e' : TypeId} {v v' : Value} {xs xs' : List Value} (hne : e ≠ e') (h : W.ownsRow base e size v n xs) (h' : W.ownsRow base' e' size' v' n' xs') (hg : W.grownBy W' v'.ownBlock) : W'.ownsRow base e size v n xs :=
  rows_keep h fun b hb => hg.block b (rows_ge h b hb).2 (fun e => (rows_apart hne h h' hb) (by rw [e]))
set_option maxRecDepth 100000 in
theorem wpList_append_item2 {w : World} {ops : Array Oper} {rest : List Oper} {o : Oper} {a : Act} {K : Exit → Act → World → Prop} (hgd : o.guard = none) (s x : Operand)
    (ho : o.op = .call { callee := .builtin .append, args := #[s, x], argTypes := #[22, 22] }) (base : Nat) (v : Value) (Y : List It) (y : It) (hs : a.eval s = v) (h : OIt base w v Y) (ad : Addr) (c : Nat)
    (hx : a.eval x = .slice (some ad) 1 c) (hsrc : ∀ j u, (cellsI [y])[j]? = some u → w.cell? (ad.add j) = some u) (hbase : base ≤ w.heap.size) (hl : Y.length ≤ 1000000)
    (hK : ∀ g cap w', OIt base w' (.slice (some ⟨g, 0, none⟩) (Y.length + 1) cap) (Y ++ [y]) → OIt base w' v Y → w.grownBy w' v.ownBlock → (v.ownBlock = some g ∨ g = w.heap.size) → wpList Tryz.prog ops K rest (a.put o.dst (.slice (some ⟨g, 0, none⟩) (Y.length + 1) cap)) w') : wpList Tryz.prog ops K (o :: rest) a w := by
  obtain ⟨i0, hi, hz0, hz1, hz2⟩ := info_parts Tryz.infoItem
  refine wpList_append_keepC (P := Tryz.prog) hgd s x 22 ho 102 i0 _ (Q := cellsI [y]) (m := 1) (cs := 4) Tryz.underlying22 hi hz0 hz1 rfl hs h (some ad) c hx ⟨ad, rfl, hsrc⟩ cellsI_one (cellsI_len [y]) (by decide) hbase (by rw [hz2]; omega) (by omega) ?_
  intro g cap w' h1 h2 h3 h4
  refine hK g cap w' ?_ h2 h3 h4
  unfold OIt
  rw [List.length_append, cellsI_append]
  exact h1
end Go.Proofs.YtbedbhlebfnohaaGreat
namespace Go.Proofs.YtbedbhlebfnohaaGreat
open Go.RowKit Tx

set_option maxRecDepth 100000 in
theorem CopyParts_any (B : Nat) (a : Option Addr) (n c : Nat) (P : List Pt) (w : World) (hr : RP B w a n c P) (hs : n * 24 ≤ 140737488355328) :
    Calls Tryz.prog 121 #[.slice a n c] w fun e w' => (∃ a' c', e = .returned (.slice a' n c') ∧ OP w.heap.size w' (.slice a' n c') P) ∧ Below w.heap.size w w' := by
  have hl := hr.len
  subst hl
  have HR := Lib.hid hr.src
  have HO : Hid (OP w.heap.size w (.slice none 0 0) []) := Lib.hid (OP.nil _ _)
  clear hr
  go_enter Tryz.func121, Tryz.ntmps121
  go_wp2_with (first | (at_builtin; refine wpList_append_parts rfl _ _ rfl w.heap.size (.slice none 0 0) [] P rfl HO.out a c rfl HR.out (Nat.le_refl _) (by simp only [List.length_nil]; omega) ?_; intro a' c' w' ho hg; simp only [List.nil_append] at ho ⊢))
  go_ret
  exact ⟨⟨a', c', rfl, ho⟩, (Below.refl _ w).grown hg (Nat.le_refl _) (fun k e => by cases e)⟩
theorem wpList_append_texts0 {w : World} {ops : Array Oper} {rest : List Oper} {o : Oper} {a : Act} {Q : Exit → Act → World → Prop} (hgd : o.guard = none) (s x : Operand)
    (ho : o.op = .call { callee := .builtin .append, args := #[s, x], argTypes := #[100, 100] }) (base : Nat) (M : List (List UInt8)) (hs : a.eval s = .slice none 0 0) (h : OT base w (.slice none 0 0) []) (sa : Option Addr) (c : Nat)
    (hx : a.eval x = .slice sa M.length c) (hsrc : 0 < M.length → ∃ ad, sa = some ad ∧ ∀ j u, (M.map encStr)[j]? = some u → w.cell? (ad.add j) = some u) (hbase : base ≤ w.heap.size) (hsize : M.length * 16 ≤ 140737488355328)
    (hK : ∀ a' c' w', OT base w' (.slice a' M.length c') M → w.grownBy w' none → wpList Tryz.prog ops Q rest (a.put o.dst (.slice a' M.length c')) w') : wpList Tryz.prog ops Q (o :: rest) a w := by
  obtain ⟨v', w', hr, hq, hg, -⟩ := run_append_texts h o.type sa c hsrc hbase (by simp only [List.length_nil]; omega)
  rw [List.nil_append] at hq
  have hv : ∃ a' c', v' = .slice a' M.length c' := by
    obtain ⟨h1, ⟨rfl, h0⟩ | ⟨g, cap, cur, rfl, r⟩⟩ := hq
    · exact ⟨none, 0, by rw [h0]⟩
    · exact ⟨_, _, rfl⟩
  obtain ⟨a', c', rfl⟩ := hv
  refine wpList_plain hgd fun K hK' => ?_
  unfold Oper.wp execOp
  simp only [ho, resolve, invoke, builtin, Sem.run_bind, Sem.run_pure, Result.andThen_ok, List.map_toArray, List.map_cons, List.map_nil, hs, hx, hr]
  exact hK' _ _ (hK a' c' w' hq hg)
set_option maxRecDepth 100000 in
theorem CopyTexts_any (B : Nat) (a : Option Addr) (n c : Nat) (L : List (List UInt8)) (w : World) (hr : RT B w a n c L) (hs : n * 16 ≤ 140737488355328) :
    Calls Tryz.prog 122 #[.slice a n c] w fun e w' => (∃ a' c', e = .returned (.slice a' n c') ∧ OT w.heap.size w' (.slice a' n c') L) ∧ Below w.heap.size w w' := by
  have hl := hr.len
  subst hl
  have HR := Lib.hid hr.src
  have HO : Hid (OT w.heap.size w (.slice none 0 0) []) := Lib.hid (World.ownsRow_nil _ _ _ _)
  clear hr
  go_enter Tryz.func122, Tryz.ntmps122
  go_wp2_with (first | (at_builtin; refine wpList_append_texts0 rfl _ _ rfl w.heap.size L rfl HO.out a c rfl HR.out (Nat.le_refl _) (by omega) ?_; intro a' c' w' ho hg))
  go_ret
  exact ⟨⟨a', c', rfl, ho⟩, (Below.refl _ w).grown hg (Nat.le_refl _) (fun k e => by cases e)⟩
structure CI (base : Nat) (w : World) (x y : It) : Prop where
  like : LikeI y x
  op : OP base w y.pv y.ps
  ot : OT base w y.ov y.os
theorem CI.mono {base base' : Nat} {w : World} {x y : It} (h : CI base w x y) (hb : base' ≤ base) : CI base' w x y := ⟨h.like, h.op.mono hb, h.ot.mono hb⟩
theorem CI.below {base : Nat} {w w' : World} {x y : It} (h : CI base w x y) (hb : Below w.heap.size w w') : CI base w' x y := ⟨h.like, h.op.below hb, h.ot.below hb⟩
theorem CI.grown {base base' : Nat} {w w' : World} {x y : It} {v : Value} {Y : List It} (h : CI base w x y) (ho : OIt base' w v Y) (hg : w.grownBy w' v.ownBlock) : CI base w' x y :=
  ⟨h.like, rows_grown (by decide) h.op ho hg, rows_grown (by decide) h.ot ho hg⟩
set_option maxHeartbeats 2000000 in
set_option maxRecDepth 100000 in
theorem CopyItem_any (N : Nat) (x : It) (w : World) (hx : ItOk N w x) (hN : N ≤ w.heap.size) (h1 : x.ps.length * 24 ≤ 140737488355328) (h2 : x.os.length * 16 ≤ 140737488355328) :
    Calls Tryz.prog 65 #[x.val] w fun e w' => Below w.heap.size w w' ∧ ∃ y, e = .returned y.val ∧ CI w.heap.size w' x y := by
  obtain ⟨code, life, pa, pc, ps, oa, oc, os⟩ := x
  have hp1 := hx.rp.mono hN
  have ht1 := hx.rt.mono hN
  simp only at hp1 ht1 h1 h2
  obtain ⟨np, hnp⟩ : ∃ k, k = ps.length := ⟨_, rfl⟩
  obtain ⟨no, hno⟩ : ∃ k, k = os.length := ⟨_, rfl⟩
  have HNP := Lib.hid hnp
  have HNO := Lib.hid hno
  rw [← hnp] at hp1 h1
  rw [← hno] at ht1 h2
  have HP : Hid (∀ W, Below w.heap.size w W → Calls Tryz.prog 121 #[.slice pa np pc] W fun e w' => (∃ g c', e = .returned (.slice g np c') ∧ OP W.heap.size w' (.slice g np c') ps) ∧ Below W.heap.size W w') := Lib.hid fun W h => CopyParts_any w.heap.size pa np pc ps W (hp1.below h) h1
  have HT : Hid (∀ W, Below w.heap.size w W → Calls Tryz.prog 122 #[.slice oa no oc] W fun e w' => (∃ g c', e = .returned (.slice g no c') ∧ OT W.heap.size w' (.slice g no c') os) ∧ Below W.heap.size W w') := Lib.hid fun W h => CopyTexts_any w.heap.size oa no oc os W (ht1.below h) h2
  unfold It.val encStr
  simp only
  rw [← hnp, ← hno]
  clear hx hp1 ht1 hnp hno
  go_enter Tryz.func65, Tryz.ntmps65
  go_wp2_with (fail)
  obtain ⟨W2, hW2⟩ : ∃ W, W = (w.alloc (.cells #[.string ⟨code.toArray⟩, .int .i64 life, .slice pa np pc, .slice oa no oc] 102)).alloc (.cells #[.string ⟨#[]⟩, .int .i64 0, .slice none 0 0, .slice none 0 0] 102) := ⟨_, rfl⟩
  rw [← hW2]
  have hs2 : W2.heap.size = w.heap.size + 2 := by rw [hW2, World.size_alloc, World.size_alloc]
  have ha2 : W2.heap[w.heap.size]? = some (.cells #[.string ⟨code.toArray⟩, .int .i64 life, .slice pa np pc, .slice oa no oc] 102) := by
    rw [hW2]
    exact (((Below.refl _ (w.alloc (.cells #[.string ⟨code.toArray⟩, .int .i64 life, .slice pa np pc, .slice oa no oc] 102))).alloc (Nat.le_refl _) _).block w.heap.size (by rw [World.size_alloc]; omega)).trans (heap_alloc_new _ _)
  have hz2 : W2.heap[w.heap.size + 1]? = some (.cells #[.string ⟨#[]⟩, .int .i64 0, .slice none 0 0, .slice none 0 0] 102) := by
    rw [hW2]
    have := heap_alloc_new (w.alloc (.cells #[.string ⟨code.toArray⟩, .int .i64 life, .slice pa np pc, .slice oa no oc] 102)) (.cells #[.string ⟨#[]⟩, .int .i64 0, .slice none 0 0, .slice none 0 0] 102)
    rw [World.size_alloc] at this
    exact this
  have hb2 : Below w.heap.size w W2 := by rw [hW2]; exact ((Below.refl _ w).alloc (Nat.le_refl _) _).alloc (by rw [World.size_alloc]; omega) _
  clear hW2
  go_at_call 121
  refine (HP.out _ hb2).mono ?_
  rintro e W3 ⟨⟨g, c', rfl, hop⟩, hb3⟩
  have ha3 := (hb3.block w.heap.size (by omega)).trans ha2
  have i0 : W3.cell? ⟨w.heap.size, 0, none⟩ = some (.string ⟨code.toArray⟩) := by unfold World.cell?; rw [ha3]; rfl
  have i1 : W3.cell? ⟨w.heap.size, 1, none⟩ = some (.int .i64 life) := by unfold World.cell?; rw [ha3]; rfl
  have i2 : W3.cell? ⟨w.heap.size, 2, none⟩ = some (.slice pa np pc) := by unfold World.cell?; rw [ha3]; rfl
  have i3 : W3.cell? ⟨w.heap.size, 3, none⟩ = some (.slice oa no oc) := by unfold World.cell?; rw [ha3]; rfl
  have fz : W3.frozen? ⟨w.heap.size, 2, none⟩ = false := by unfold World.frozen?; rw [ha3]; simp
  have HOP := Lib.hid hop
  have HB3 := Lib.hid hb3
  have HB2 := Lib.hid hb2
  clear hop hb3 hb2 ha2
  go_wp2_with (fail)
  obtain ⟨W4, hW4⟩ : ∃ W, W = W3.setCell ⟨w.heap.size, 2, none⟩ (.slice g np c') := ⟨_, rfl⟩
  rw [← hW4]
  have ha4 : W4.heap[w.heap.size]? = some (.cells #[.string ⟨code.toArray⟩, .int .i64 life, .slice g np c', .slice oa no oc] 102) := by
    rw [hW4]
    unfold World.setCell
    simp only [Array.getElem?_modify, if_true, ha3, Option.map_some]
    rfl
  have hs4 : W4.heap.size = W3.heap.size := by rw [hW4]; simp [World.setCell]
  have hk4 : ∀ k, k ≠ w.heap.size → W4.heap[k]? = W3.heap[k]? := fun k hk => by rw [hW4]; exact Below.heap_setCell W3 ⟨w.heap.size, 2, none⟩ _ k hk
  have hb4 : Below w.heap.size w W4 := by rw [hW4]; exact (HB2.out.trans (HB3.out.mono (by omega))).setCell (p := ⟨w.heap.size, 2, none⟩) (Nat.le_refl _) _
  have hz4 := (hk4 (w.heap.size + 1) (by omega)).trans ((HB3.out.block (w.heap.size + 1) (by omega)).trans hz2)
  have hop4 : OP W2.heap.size W4 (.slice g np c') ps := HOP.out.keep fun b e => hk4 b (by have := (HOP.out.ge b e).1; omega)
  have hs34 : W2.heap.size ≤ W4.heap.size := by rw [hs4]; exact HB3.out.size
  have HOP4 := Lib.hid hop4
  have HB4 := Lib.hid hb4
  clear hW4 ha3 i0 i1 i2 i3 fz hk4 hop4 hb4
  go_at_call 122
  refine (HT.out _ HB4.out).mono ?_
  rintro e W5 ⟨⟨k, d', rfl, hot⟩, hb5⟩
  have ha5 := (hb5.block w.heap.size (by omega)).trans ha4
  have j0 : W5.cell? ⟨w.heap.size, 0, none⟩ = some (.string ⟨code.toArray⟩) := by unfold World.cell?; rw [ha5]; rfl
  have j1 : W5.cell? ⟨w.heap.size, 1, none⟩ = some (.int .i64 life) := by unfold World.cell?; rw [ha5]; rfl
  have j2 : W5.cell? ⟨w.heap.size, 2, none⟩ = some (.slice g np c') := by unfold World.cell?; rw [ha5]; rfl
  have j3 : W5.cell? ⟨w.heap.size, 3, none⟩ = some (.slice oa no oc) := by unfold World.cell?; rw [ha5]; rfl
  have hz5 := (hb5.block (w.heap.size + 1) (by omega)).trans hz4
  have l0 : W5.cell? ⟨w.heap.size + 1, 0, none⟩ = some (.string ⟨#[]⟩) := by unfold World.cell?; rw [hz5]; rfl
  have m0 : W5.frozen? ⟨w.heap.size + 1, 0, none⟩ = false := by unfold World.frozen?; rw [hz5]; simp
  have l1 : W5.cell? ⟨w.heap.size + 1, 1, none⟩ = some (.int .i64 0) := by unfold World.cell?; rw [hz5]; rfl
  have m1 : W5.frozen? ⟨w.heap.size + 1, 1, none⟩ = false := by unfold World.frozen?; rw [hz5]; simp
  have l2 : W5.cell? ⟨w.heap.size + 1, 2, none⟩ = some (.slice none 0 0) := by unfold World.cell?; rw [hz5]; rfl
  have m2 : W5.frozen? ⟨w.heap.size + 1, 2, none⟩ = false := by unfold World.frozen?; rw [hz5]; simp
  have l3 : W5.cell? ⟨w.heap.size + 1, 3, none⟩ = some (.slice none 0 0) := by unfold World.cell?; rw [hz5]; rfl
  have m3 : W5.frozen? ⟨w.heap.size + 1, 3, none⟩ = false := by unfold World.frozen?; rw [hz5]; simp
  have fz5 : W5.frozen? ⟨w.heap.size, 3, none⟩ = false := by unfold World.frozen?; rw [ha5]; simp
  have hop5 := HOP4.out.below (hb5.mono (Nat.le_refl _))
  have HOP5 := Lib.hid hop5
  have HOT5 := Lib.hid hot
  have HB5 := Lib.hid (HB4.out.trans (hb5.mono (by omega)))
  have HZ5 := Lib.hid hz5
  clear hot hb5 hop5 ha4 ha5 hz5 hz4 hz2
  go_wp2_with (fail)
  have hfin : ∀ (a b c d e : Value) (k : Nat), w.heap.size + 2 ≤ k → (((((W5.setCell ⟨w.heap.size, 3, none⟩ a).setCell ⟨w.heap.size + 1, 0, none⟩ b).setCell ⟨w.heap.size + 1, 1, none⟩ c).setCell ⟨w.heap.size + 1, 2, none⟩ d).setCell ⟨w.heap.size + 1, 3, none⟩ e).heap[k]? = W5.heap[k]? := by
    intro a b c d e k hk
    have q1 : k ≠ w.heap.size := by omega
    have q2 : k ≠ w.heap.size + 1 := by omega
    exact (Below.heap_setCell _ ⟨w.heap.size + 1, 3, none⟩ _ k q2).trans ((Below.heap_setCell _ ⟨w.heap.size + 1, 2, none⟩ _ k q2).trans ((Below.heap_setCell _ ⟨w.heap.size + 1, 1, none⟩ _ k q2).trans ((Below.heap_setCell _ ⟨w.heap.size + 1, 0, none⟩ _ k q2).trans (Below.heap_setCell _ ⟨w.heap.size, 3, none⟩ _ k q1))))
  have hblk := sc_at 3 (.slice k no d') (sc_at 2 (.slice g np c') (sc_at 1 (.int .i64 life) (sc_at 0 (.string ⟨code.toArray⟩) ((Below.heap_setCell W5 ⟨w.heap.size, 3, none⟩ (.slice k no d') (w.heap.size + 1) (by show _ ≠ w.heap.size; omega)).trans HZ5.out))))
  have hbel := ((((HB5.out.setCell (p := ⟨w.heap.size, 3, none⟩) (Nat.le_refl _) (.slice k no d')).setCell (p := ⟨w.heap.size + 1, 0, none⟩) (Nat.le_succ _) (.string ⟨code.toArray⟩)).setCell (p := ⟨w.heap.size + 1, 1, none⟩) (Nat.le_succ _) (.int .i64 life)).setCell (p := ⟨w.heap.size + 1, 2, none⟩) (Nat.le_succ _) (.slice g np c')).setCell (p := ⟨w.heap.size + 1, 3, none⟩) (Nat.le_succ _) (.slice k no d')
  have hfin2 := hfin (.slice k no d') (.string ⟨code.toArray⟩) (.int .i64 life) (.slice g np c') (.slice k no d')
  obtain ⟨W6, hW6⟩ : ∃ W, W = (((((W5.setCell ⟨w.heap.size, 3, none⟩ (.slice k no d')).setCell ⟨w.heap.size + 1, 0, none⟩ (.string ⟨code.toArray⟩)).setCell ⟨w.heap.size + 1, 1, none⟩ (.int .i64 life)).setCell ⟨w.heap.size + 1, 2, none⟩ (.slice g np c')).setCell ⟨w.heap.size + 1, 3, none⟩ (.slice k no d')) := ⟨_, rfl⟩
  rw [← hW6] at hblk hbel hfin2 ⊢
  have r0 : W6.cell? ⟨w.heap.size + 1, 0, none⟩ = some (.string ⟨code.toArray⟩) := by unfold World.cell?; rw [hblk]; rfl
  have r1 : W6.cell? ⟨w.heap.size + 1, 1, none⟩ = some (.int .i64 life) := by unfold World.cell?; rw [hblk]; rfl
  have r2 : W6.cell? ⟨w.heap.size + 1, 2, none⟩ = some (.slice g np c') := by unfold World.cell?; rw [hblk]; rfl
  have r3 : W6.cell? ⟨w.heap.size + 1, 3, none⟩ = some (.slice k no d') := by unfold World.cell?; rw [hblk]; rfl
  clear hW6 hfin hblk
  refine bodyPost_ret (by simp [results, Tryz.results65, go_sem, r0, r1, r2, r3]; try rfl) rfl ?_
  refine ⟨hbel, ⟨code, life, g, c', ps, k, d', os⟩, by rw [HNP.out, HNO.out], ⟨rfl, rfl, rfl, rfl⟩, ?_, ?_⟩
  · show OP w.heap.size _ (.slice g ps.length c') ps
    rw [← HNP.out]
    exact (HOP5.out.keep fun b e => hfin2 b (by have := (HOP5.out.ge b e).1; omega)).mono (by omega)
  · show OT w.heap.size _ (.slice k os.length d') os
    rw [← HNO.out]
    exact (HOT5.out.keep fun b e => hfin2 b (by have := (HOT5.out.ge b e).1; omega)).mono (by omega)
def ApI (Y : List It) (j : Nat) : Prop := ∀ i k, i < k → k < j → (∀ b b', (Y.getD i default).pv.ownBlock = some b → (Y.getD k default).pv.ownBlock = some b' → b < b') ∧ (∀ b b', (Y.getD i default).ov.ownBlock = some b → (Y.getD k default).ov.ownBlock = some b' → b < b')
def CIR (w : World) (X Y : List It) (j : Nat) (v : Value) (wr : World) : Prop :=
  Y.length = j ∧ OIt w.heap.size wr v Y ∧ (∀ i, i < j → CI w.heap.size wr (X.getD i default) (Y.getD i default)) ∧ Below w.heap.size w wr ∧ ApI Y j
theorem CIR.step {w : World} {X Y : List It} {j : Nat} {v v' : Value} {wr wm : World} {y : It} (h : CIR w X Y j v wr) (hm : Below wr.heap.size wr wm) (hy : CI wr.heap.size wm (X.getD j default) y) {c d : Array Value} {t : TypeId} {w4 : World} (ho : OIt w.heap.size w4 v' (Y ++ [y])) (hg : ((wm.alloc (.cells c t)).alloc (.cells d t)).grownBy w4 v.ownBlock) : CIR w X (Y ++ [y]) (j + 1) v' w4 := by
  obtain ⟨h1, h2, h3, h4, h5⟩ := h
  have hsz := hm.size
  have hb2 : Below wm.heap.size wm ((wm.alloc (.cells c t)).alloc (.cells d t)) := ((Below.refl _ wm).alloc (Nat.le_refl _) _).alloc (by rw [World.size_alloc]; omega) _
  have ho2 := (h2.below hm).below hb2
  refine ⟨by rw [List.length_append, h1]; rfl, ho, fun i hi => ?_, (h4.trans ((hm.mono h4.size).trans (hb2.mono (Nat.le_trans h4.size hsz)))).grown hg (Nat.le_trans h4.size (Nat.le_trans hsz hb2.size)) (fun k e => (ho2.ge k e).1), ?_⟩
  rotate_left
  · intro i k hik hk
    have eg : ∀ i, i < j → (Y ++ [y]).getD i default = Y.getD i default := fun i hi => by
      rw [List.getD_eq_getElem?_getD, List.getElem?_append_left (by omega), List.getD_eq_getElem?_getD]
    rcases Nat.lt_or_ge k j with hkj | hkj
    · rw [eg i (by omega), eg k hkj]
      exact h5 i k hik hkj
    · obtain rfl : k = j := by omega
      have e : (Y ++ [y]).getD k default = y := by
        rw [List.getD_eq_getElem?_getD, List.getElem?_append_right (by omega), h1]
        simp
      rw [eg i hik, e]
      have hi3 := h3 i hik
      exact ⟨fun b b' e1 e2 => by have := (hi3.op.ge b e1).2; have := (hy.op.ge b' e2).1; omega, fun b b' e1 e2 => by have := (hi3.ot.ge b e1).2; have := (hy.ot.ge b' e2).1; omega⟩
  rcases Nat.lt_or_ge i j with hij | hij
  · have e : (Y ++ [y]).getD i default = Y.getD i default := by
      rw [List.getD_eq_getElem?_getD, List.getElem?_append_left (by omega), List.getD_eq_getElem?_getD]
    rw [e]
    exact (((h3 i hij).below hm).below hb2).grown ho2 hg
  · obtain rfl : i = j := by omega
    have e : (Y ++ [y]).getD i default = y := by
      rw [List.getD_eq_getElem?_getD, List.getElem?_append_right (by omega), h1]
      simp
    rw [e]
    exact ((hy.mono h4.size).below hb2).grown ho2 hg
set_option maxHeartbeats 2000000 in
set_option maxRecDepth 100000 in
theorem CopyItems_any (N : Nat) (a : Option Addr) (n c : Nat) (X : List It) (w : World) (hr : RI N w a n c X) (hN : N ≤ w.heap.size) (hs : n ≤ 100000) (hsz : ∀ x ∈ X, x.ps.length * 24 ≤ 140737488355328 ∧ x.os.length * 16 ≤ 140737488355328) :
    Calls Tryz.prog 36 #[.slice a n c] w fun e w' => ∃ (Y : List It) (a' : Option Addr) (c' : Nat), e = .returned (.slice a' n c') ∧ Y.length = n ∧ OIt w.heap.size w' (.slice a' n c') Y ∧ (∀ i, i < n → CI w.heap.size w' (X.getD i default) (Y.getD i default)) ∧ Below w.heap.size w w' ∧ ApI Y n := by
  have hln := hr.len
  have hle := hr.le
  have hmx := hr.mx
  have Hln := Lib.hid hln
  have Hr := Lib.hid hr
  have HSZ := Lib.hid hsz
  clear hr hln hsz
  go_enter Tryz.func36, Tryz.ntmps36
  go_wp2_with (fail)
  go_loopw [3, 4] (fun v i wr => ∃ (j : Nat) (Y : List It) (a' : Option Addr) (c' : Nat), j ≤ n ∧ i = .int .i64 j ∧ v = .slice a' j c' ∧ Hid (CIR w X Y j (.slice a' j c') wr)) (fun _ i _ => n - (intOf i).toNat)
  case atStart => exact ⟨0, [], none, 0, by omega, rfl, rfl, Lib.hid ⟨rfl, OIt.nil _ _, fun i hi => absurd hi (Nat.not_lt_zero _), Below.refl _ _, fun i k _ hk => absurd hk (Nat.not_lt_zero _)⟩⟩
  case round =>
    obtain ⟨j, Y, a', c', hj, rfl, rfl, HI⟩ := hrel
    by_cases hlt : j < n
    · have t1 : decide ((j : Int) < (n : Int)) = true := by simp; omega
      have f1 : IntKind.i64.wrap ((j : Int) + 1) = ((j + 1 : Nat) : Int) := by rw [wrap_in (by omega) (by omega)]; omega
      have hrj := Hr.out.below (HI.out.2.2.2.1.mono hN)
      obtain ⟨b, o, rfl, hbN, hc⟩ := hrj.at_ (by omega)
      obtain ⟨k1, k2, k3, k4⟩ := hc j hlt
      have hxm : X.getD j default ∈ X := by
        rw [List.getD_eq_getElem?_getD, List.getElem?_eq_getElem (by rw [← Hln.out]; exact hlt)]; exact List.getElem_mem _
      have hxo := hrj.ok _ hxm
      have hxs := HSZ.out _ hxm
      obtain ⟨x, hx⟩ : ∃ x, x = X.getD j default := ⟨_, rfl⟩
      rw [← hx] at k1 k2 k3 k4 hxo hxs
      have hli := CopyItem_any N x wr hxo (Nat.le_trans hN HI.out.2.2.2.1.size) hxs.1 hxs.2
      unfold It.val at hli
      unfold encStr at k1 hli
      have HLI := Lib.hid hli
      have HX := Lib.hid hx
      clear hc hrj hxm hxo hxs hx hli
      go_wp2_with (fail)
      go_at_call 65
      refine HLI.out.mono ?_
      rintro e wm ⟨hbm, y, rfl, hy⟩
      have hst := fun c d t v' w4 => HI.out.step (c := c) (d := d) (t := t) (v' := v') (w4 := w4) hbm (by rw [← HX.out]; exact hy)
      have HST := Lib.hid hst
      have O3 := Lib.hid (((HI.out.2.1.below hbm).below ((Below.refl _ wm).alloc (Nat.le_refl _) (.cells #[.string ⟨y.code.toArray⟩, .int .i64 y.life, .slice y.pa y.ps.length y.pc, .slice y.oa y.os.length y.oc] 102))).below ((Below.refl _ (wm.alloc (.cells #[.string ⟨y.code.toArray⟩, .int .i64 y.life, .slice y.pa y.ps.length y.pc, .slice y.oa y.os.length y.oc] 102))).alloc (Nat.le_refl _) (.cells #[.string ⟨y.code.toArray⟩, .int .i64 y.life, .slice y.pa y.ps.length y.pc, .slice y.oa y.os.length y.oc] 102)))
      have HBS := Lib.hid (show w.heap.size ≤ wm.heap.size from Nat.le_trans HI.out.2.2.2.1.size hbm.size)
      have HYL := Lib.hid HI.out.1
      clear hst hbm hy
      go_wp2_with (first | (at_builtin; refine wpList_append_item2 rfl _ _ rfl w.heap.size (.slice a' j c') Y y rfl O3.out _ 1 rfl (one_item2 _ y _ _ _) (by rw [World.size_alloc, World.size_alloc]; have := HBS.out; omega) (by rw [HYL.out]; omega) ?_; intro g4 c4 w4 hown4 _ hg4 _))
      have HI4 := Lib.hid (HST.out _ _ _ _ w4 hown4 hg4)
      rw [HYL.out] at HI4
      rw [HYL.out]
      clear hown4 hg4
      go_roundw
      case rel => exact ⟨j + 1, Y ++ [y], _, _, by omega, by go_num, by go_num, HI4⟩
      case measure => simp [intOf]; omega
    · have t1 : decide ((j : Int) < (n : Int)) = false := by simp; omega
      have hjn : j = n := by omega
      subst hjn
      clear hj hlt
      go_wp2_with (fail)
      go_ret
      obtain ⟨h1, h2, h3, h4, h5⟩ := HI.out
      exact ⟨Y, _, _, rfl, h1, h2, h3, h4, h5⟩
end Go.Proofs.YtbedbhlebfnohaaGreat
