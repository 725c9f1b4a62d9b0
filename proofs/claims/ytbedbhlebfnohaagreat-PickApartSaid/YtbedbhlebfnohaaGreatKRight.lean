/- Heights, reckoned in rounds and by looking down: plain Lean, no program. Maps keyed by texts, as functions. What an item may be, by the program. -/
import Derived.Test.YtbedbhlebfnohaaGreatKGraph
import Derived.Test.YtbedbhlebfnohaaGreatJBase
import Derived.Maps.OwnSet
import Derived.Maps.Views
import Derived.WideKeyArgs2
import Derived.OwnWalk
import Derived.Sort.EncStr
import Derived.Test.YtbedbhlebfnohaaGreatBelowQ
namespace Go.Proofs.YtbedbhlebfnohaaGreat

section
variable {α : Type} {kids : α → List α}

/-! ### in rounds -/
def setO [DecidableEq α] {β : Type} (o : α → β) (c : α) (v : β) : α → β := fun x => if x = c then v else o x
/-! ### by looking down -/
def DI (kids : α → List α) (o : α → Int) : Prop := ∀ c, o c = 0 ∨ o c = -1 ∨ ∃ k d, hgt kids k c = some d ∧ o c = (d : Int)
def Ext (o o' : α → Int) : Prop := (∀ x, o x ≠ 0 → o' x = o x) ∧ ∀ x, o' x = -1 → o x = -1
theorem Ext.refl (o : α → Int) : Ext o o := ⟨fun _ _ => rfl, fun _ h => h⟩
theorem Ext.trans {a b c : α → Int} (h : Ext a b) (k : Ext b c) : Ext a c :=
  ⟨fun x hx => by have := h.1 x hx; rw [k.1 x (by rw [this]; exact hx), this], fun x hx => h.2 x (k.2 x hx)⟩
def zc (V : List α) (o : α → Int) : Nat := V.countP fun x => decide (o x = 0)
theorem zc_cons (x : α) (V : List α) (o : α → Int) : zc (x :: V) o = zc V o + (if o x = 0 then 1 else 0) := by simp [zc, List.countP_cons]
theorem zc_le {V : List α} {a b : α → Int} (h : ∀ x ∈ V, b x = 0 → a x = 0) : zc V b ≤ zc V a := by
  induction V with
  | nil => exact Nat.le_refl _
  | cons x V ih =>
    rw [zc_cons, zc_cons]
    have := ih (fun y hy => h y (List.mem_cons_of_mem _ hy))
    have h1 := h x (List.mem_cons_self ..)
    by_cases hb : b x = 0
    · rw [if_pos hb, if_pos (h1 hb)]; omega
    · rw [if_neg hb]; omega
theorem Ext.zc {a b : α → Int} (h : Ext a b) (V : List α) : zc V b ≤ zc V a := zc_le fun x _ hb => by
  by_cases ha : a x = 0
  · exact ha
  · rw [h.1 x ha] at hb; exact hb
theorem setO_same [DecidableEq α] {β : Type} (o : α → β) (c : α) (v : β) : setO o c v c = v := if_pos rfl
theorem setO_other [DecidableEq α] {β : Type} (o : α → β) {c x : α} (h : x ≠ c) (v : β) : setO o c v x = o x := if_neg h
theorem zc_set [DecidableEq α] {o : α → Int} {c : α} {V : List α} (h0 : o c = 0) (hc : c ∈ V) : zc V (setO o c (-1)) < zc V o := by
  have hz : ∀ x, setO o c (-1) x = 0 → o x = 0 := fun x hx => by
    by_cases e : x = c
    · rw [e]; exact h0
    · rw [setO_other o e] at hx; exact hx
  induction V with
  | nil => cases hc
  | cons x V ih =>
    rw [zc_cons, zc_cons]
    by_cases e : x = c
    · subst e
      have := zc_le (V := V) (fun y _ => hz y)
      rw [setO_same, if_pos h0, if_neg (by decide)]
      omega
    · have hm : c ∈ V := by
        rcases List.mem_cons.1 hc with h | h
        · exact absurd h.symm e
        · exact h
      have := ih hm
      rw [setO_other o e]
      omega
def Up2 (kids : α → List α) (o : α → Int) (c : α) : Prop := ∀ x, o x = -1 → Way kids x c
theorem Up2.kid [DecidableEq α] {o o' : α → Int} {c p : α} (h : Up2 kids o c) (he : ∀ x, o' x = -1 → setO o c (-1) x = -1) (hp : p ∈ kids c) : Up2 kids o' p := fun x hx => by
  have h1 := he x hx
  by_cases e : x = c
  · subst e
    exact Way.one hp
  · simp only [setO, if_neg e] at h1
    exact Way.more (h x h1) hp
theorem DI.set [DecidableEq α] {o : α → Int} (h : DI kids o) (c : α) : DI kids (setO o c (-1)) := fun x => by
  by_cases e : x = c
  · subst e
    exact Or.inr (Or.inl (by simp [setO]))
  · simp only [setO, if_neg e]
    exact h x
theorem DI.done [DecidableEq α] {o : α → Int} (h : DI kids o) {c : α} (hk : ∀ p ∈ kids c, 0 < o p) : ∃ k, hgt kids k c = some ((kids c).foldl (fun n p => max n ((o p).toNat + 1)) 1) :=
  hgt_of_kids fun p hp => by
    rcases h p with h0 | h0 | ⟨k, d, hd, e⟩
    · have := hk p hp; omega
    · have := hk p hp; omega
    · exact ⟨k, by rw [hd, e]; simp⟩
theorem DI.put [DecidableEq α] {o : α → Int} (h : DI kids o) {c : α} {k d : Nat} (hd : hgt kids k c = some d) : DI kids (setO o c (d : Int)) := fun x => by
  by_cases e : x = c
  · subst e
    exact Or.inr (Or.inr ⟨k, d, hd, by simp [setO]⟩)
  · simp only [setO, if_neg e]
    exact h x
theorem Ext.back [DecidableEq α] {o oj : α → Int} {c : α} (h0 : o c = 0) (h : Ext (setO o c (-1)) oj) {d : Nat} : Ext o (setO oj c (d : Int)) := by
  refine ⟨fun x hx => ?_, fun x hx => ?_⟩
  · by_cases e : x = c
    · subst e; exact absurd h0 hx
    · simp only [setO, if_neg e]
      have := h.1 x (by simp only [setO, if_neg e]; exact hx)
      simp only [setO, if_neg e] at this
      exact this
  · by_cases e : x = c
    · subst e
      simp only [setO, if_true] at hx
      omega
    · simp only [setO, if_neg e] at hx
      have := h.2 x hx
      simp only [setO, if_neg e] at this
      exact this
theorem maxfold_congr {o o' : α → Int} {l : List α} {n : Nat} (h : ∀ p ∈ l, o p = o' p) : l.foldl (fun n p => max n ((o p).toNat + 1)) n = l.foldl (fun n p => max n ((o' p).toNat + 1)) n := by
  induction l generalizing n with
  | nil => rfl
  | cons x l ih =>
    rw [List.foldl_cons, List.foldl_cons, h x (List.mem_cons_self ..)]
    exact ih fun p hp => h p (List.mem_cons_of_mem _ hp)
end
end Go.Proofs.YtbedbhlebfnohaaGreat
namespace Go.Proofs.YtbedbhlebfnohaaGreat
open Go.RowKit Go.Maps

def RVal (v : Value) : Option (DataW Value × List MemPlace) := some (.held v, [])
def MF (w : World) (b n : Nat) (z : Value) (f : List UInt8 → Value) : Prop := ∃ D, w.ownsMap Tryz.prog 9 RVal b n D ∧ (∀ s, D.atKey (.string s) (.held z) = .held (f s)) ∧ ∀ s, Maps.has D (.string s) = true ↔ f s ≠ z
theorem skey : Keyed Tryz.prog 9 := string_keyed Tryz.underlying9
theorem skey_of (s : List UInt8) (hs : s.length ≤ 9223372036854775807) : keyOf Tryz.prog 9 (.string ⟨s.toArray⟩) = some (.string s) := by
  have h := WideMaps.keyOf_string_mk (s := ⟨s.toArray⟩) Tryz.underlying9 (by simpa [ByteArray.size, maxLen] using hs)
  simpa using h
theorem MF.made (w : World) (z : Value) : MF (w.alloc (.map #[] 0)) w.heap.size 0 z (fun _ => z) := ⟨_, World.ownsMap_made _ _ _ _, fun _ => rfl, fun s => Iff.intro (fun h => by simp [Maps.has] at h) (fun h => absurd rfl h)⟩
section
variable {w w' : World} {b n : Nat} {z : Value} {f : List UInt8 → Value}
theorem MF.lt (h : MF w b n z f) : b < w.heap.size := by
  obtain ⟨D, h1, -⟩ := h
  exact h1.lt
theorem MF.kept (h : MF w b n z f) {row : Option Nat} (hg : w.grownBy w' row) (hne : some b ≠ row) : MF w' b n z f := by
  obtain ⟨D, h1, h2⟩ := h
  exact ⟨D, h1.kept hg hne, h2⟩
theorem MF.block (h : MF w b n z f) (hb : w'.heap[b]? = w.heap[b]?) : MF w' b n z f := by
  obtain ⟨D, ⟨es, clock, h1, h2⟩, h3⟩ := h
  exact ⟨D, ⟨es, clock, hb.trans h1, h2⟩, h3⟩
theorem MF.below (h : MF w b n z f) {B : Nat} (hb : Below B w w') (hB : b < B) : MF w' b n z f := h.block (hb.block b hB)
theorem MF.look (h : MF w b n z f) {t e : TypeId} (ht : Tryz.prog.underlying t = some (.map 9 e)) (hz : (zeroValue e).run Tryz.prog w = .ok z w) (s : List UInt8) (hs : s.length ≤ 9223372036854775807) :
    (Instr.lookup t (.map (some b)) (.string ⟨s.toArray⟩) false).run Tryz.prog w = .ok (f s) w := by
  obtain ⟨D, h1, h2, -⟩ := h
  obtain ⟨v, ps, hrun, hv⟩ := h1.lookup skey ht hz (zd := .held z) (zp := []) rfl (skey_of s hs)
  rw [h2 s] at hv
  cases hv
  exact hrun
theorem MF.put (h : MF w b n z f) {t e : TypeId} (ht : Tryz.prog.underlying t = some (.map 9 e)) (hn : n < 9223372036854775807) (s : List UInt8) (hs : s.length ≤ 9223372036854775807) (v : Value) (hne : v ≠ z) :
    ∃ w', (Instr.mapUpdate t (.map (some b)) (.string ⟨s.toArray⟩) v).run Tryz.prog w = .ok () w' ∧ MF w' b (n + 1) z (setO f s v) ∧ w.grownBy w' (some b) := by
  obtain ⟨D, h1, h2, h3⟩ := h
  obtain ⟨w', hrun, r1, r2⟩ := h1.update skey ht (by simpa [maxLen] using hn) (skey_of s hs) (val := v) (d := .held v) (ps := []) rfl
  refine ⟨w', hrun, ⟨_, r1, fun x => ?_, fun x => ?_⟩, r2⟩
  · by_cases e : x = s
    · subst e
      rw [atKey_put_same h1.isMap (show WideAt.IsKeyLit (.string x) by trivial), setO_same]
    · rw [atKey_put_other (fun e2 => e (by cases e2; rfl)), h2, setO_other _ e]
  · by_cases e : x = s
    · subst e
      rw [has_put_same h1.isMap (show WideAt.IsKeyLit (.string x) by trivial), setO_same]
      exact ⟨fun _ => hne, fun _ => rfl⟩
    · rw [has_put_other (fun e2 => e (by cases e2; rfl)), h3, setO_other _ e]
end
theorem wpList_put_mf {w : World} {ops : Array Oper} {rest : List Oper} {o : Oper} {a : Act} {Q : Exit → Act → World → Prop} (hgd : o.guard = none) (m x v : Operand) (t : TypeId) (ho : o.op = .mapUpdate t m x v) {e : TypeId}
    (ht : Tryz.prog.underlying t = some (.map 9 e)) {b n : Nat} {z : Value} {f : List UInt8 → Value} (h : MF w b n z f) (hn : n < 9223372036854775807) (s : List UInt8) (val : Value) (hm : a.eval m = .map (some b)) (hx : a.eval x = .string ⟨s.toArray⟩) (hv : a.eval v = val) (hs : s.length ≤ 9223372036854775807) (hne : val ≠ z)
    (hK : ∀ w', MF w' b (n + 1) z (setO f s val) → w.grownBy w' (some b) → wpList Tryz.prog ops Q rest (a.put o.dst undef) w') : wpList Tryz.prog ops Q (o :: rest) a w := by
  refine wpList_plain hgd fun K' hK' => ?_
  obtain ⟨w', hrun, r1, r2⟩ := h.put ht hn s hs val hne
  unfold Oper.wp
  simp [execOp, ho, hm, hx, hv, hrun, Result.andThen]
  exact hK' _ _ (hK w' r1 r2)
theorem zeroInt (w : World) : (zeroValue 3).run Tryz.prog w = .ok (.int .i64 0) w := by kernel_rfl
def zItem : Value := .agg #[.string ⟨#[]⟩, .int .i64 0, .slice none 0 0, .slice none 0 0]
theorem zeroItem (w : World) : (zeroValue 102).run Tryz.prog w = .ok zItem w := by kernel_rfl
end Go.Proofs.YtbedbhlebfnohaaGreat
namespace Go.Proofs.YtbedbhlebfnohaaGreat
open Go.RowKit

def met (P : List Pt) (i : Nat) : List UInt8 → Value := fun s => .int .i64 (if s ∈ (P.take i).map (·.1) then 1 else 0)
theorem mem_take {P : List Pt} {i : Nat} (hi : i ≤ P.length) (s : List UInt8) : s ∈ (P.take i).map (·.1) ↔ ∃ k, k < i ∧ (P.getD k default).1 = s := by
  rw [List.mem_map]
  constructor
  · rintro ⟨p, hp, rfl⟩
    obtain ⟨k, hk, rfl⟩ := List.getElem_of_mem hp
    rw [List.length_take] at hk
    refine ⟨k, by omega, ?_⟩
    rw [List.getD_eq_getElem?_getD, List.getElem?_eq_getElem (by omega), List.getElem_take]
    rfl
  · rintro ⟨k, hk, rfl⟩
    refine ⟨P.getD k default, ?_, rfl⟩
    rw [List.getD_eq_getElem?_getD, List.getElem?_eq_getElem (by omega)]
    exact List.mem_take_iff_getElem.2 ⟨k, by omega, rfl⟩
theorem met_zero (P : List Pt) : met P 0 = fun _ => .int .i64 0 := by
  funext s
  simp [met]
theorem met_next {P : List Pt} {i : Nat} (hi : i < P.length) (hno : ∀ k, k < i → (P.getD k default).1 ≠ (P.getD i default).1) : setO (met P i) (P.getD i default).1 (.int .i64 1) = met P (i + 1) := by
  funext s
  unfold met
  by_cases e : s = (P.getD i default).1
  · subst e
    rw [setO_same, if_pos ((mem_take (by omega) _).2 ⟨i, by omega, rfl⟩)]
  · rw [setO_other _ e]
    congr 1
    have : s ∈ (P.take i).map (·.1) ↔ s ∈ (P.take (i + 1)).map (·.1) := by
      rw [mem_take (by omega), mem_take (by omega)]
      constructor
      · rintro ⟨k, hk, h⟩; exact ⟨k, by omega, h⟩
      · rintro ⟨k, hk, h⟩
        by_cases hki : k = i
        · subst hki; exact absurd h.symm e
        · exact ⟨k, by omega, h⟩
    simp only [this]
theorem met_new {P : List Pt} {i : Nat} (hi : i ≤ P.length) {s : List UInt8} (hno : ∀ k, k < i → (P.getD k default).1 ≠ s) : met P i s = .int .i64 0 := by
  unfold met
  rw [if_neg (fun h => by obtain ⟨k, hk, e⟩ := (mem_take hi s).1 h; exact hno k hk e)]
theorem met_old {P : List Pt} {i : Nat} (hi : i ≤ P.length) {s : List UInt8} {k : Nat} (hk : k < i) (e : (P.getD k default).1 = s) : met P i s = .int .i64 1 := by
  unfold met
  rw [if_pos ((mem_take hi s).2 ⟨k, hk, e⟩)]
theorem pair_cells (w : World) (u v : Value) : (w.alloc (.cells #[u, v] 60)).heap[w.heap.size]? = some (.cells #[u, v] 60) := heap_alloc_new _ _
theorem pair_at {W : World} {g : Nat} {u v : Value} (h : W.heap[g]? = some (.cells #[u, v] 60)) : W.cell? ⟨g, 0, none⟩ = some u ∧ W.cell? ⟨g, 1, none⟩ = some v := by
  exact ⟨by unfold World.cell?; rw [h]; rfl, by unfold World.cell?; rw [h]; rfl⟩

set_option maxHeartbeats 4000000 in
set_option maxRecDepth 100000 in
theorem right_any (B : Nat) (x : It) (w : World) (hx : ItOk B w x) (hB : B ≤ w.heap.size) : Calls Tryz.prog 94 #[x.val] w fun e w' => e = .returned (.bool (okShape x.life x.ps)) ∧ Below w.heap.size w w' := by
  obtain ⟨c1, c2⟩ := box_cells w x
  have hb1 : Below w.heap.size w (w.alloc (.cells #[encStr x.code, .int .i64 x.life, .slice x.pa x.ps.length x.pc, .slice x.oa x.os.length x.oc] 102)) := (Below.refl _ w).alloc (Nat.le_refl _) _
  have hrp := (hx.rp.below (hb1.mono hB)).mono hB
  unfold It.val
  obtain ⟨cd, hcd⟩ : ∃ v, v = encStr x.code := ⟨_, rfl⟩
  rw [← hcd] at c1 c2 hb1 hrp ⊢
  obtain ⟨W1, hW1⟩ : ∃ W, W = w.alloc (.cells #[cd, .int .i64 x.life, .slice x.pa x.ps.length x.pc, .slice x.oa x.os.length x.oc] 102) := ⟨_, rfl⟩
  have hs1 : W1.heap.size = w.heap.size + 1 := by rw [hW1, World.size_alloc]
  rw [← hW1] at c1 c2 hb1 hrp
  have hle := hrp.le
  have hmx := hrp.mx
  have hlo := hx.lo
  have hhi := hx.hi
  obtain ⟨gb, hgb⟩ : ∃ g, g = w.heap.size := ⟨_, rfl⟩
  rw [← hgb] at c1 c2 hrp hb1 hs1
  have HP := Lib.hid hrp
  have B1 := Lib.hid hb1
  have C1 := Lib.hid c1
  have C2 := Lib.hid c2
  clear hx hrp hb1 hcd
  have hmk := @run_makeMap Tryz.prog
  go_enter Tryz.func94, Tryz.ntmps94
  go_upto_region 1 with (fail)
  rw [← hW1, ← hgb]
  have HG := Lib.hid hgb
  clear hW1 hgb
  obtain ⟨np, hnp⟩ : ∃ m, m = x.ps.length := ⟨_, rfl⟩
  obtain ⟨lf, hlf⟩ : ∃ m, m = x.life := ⟨_, rfl⟩
  rw [← hnp] at c2 hle C2
  rw [← hlf] at c1 hlo hhi C1
  have HNP := Lib.hid hnp
  have HLF := Lib.hid hlf
  clear hnp hlf
  by_cases h0 : np = 0
  · have e0 : ((np : Int) == 0) = true := by simp; omega
    have ho := Lib.hid (show okShape x.life x.ps = decide (1 ≤ lf ∧ lf ≤ 2000) by unfold okShape; rw [if_pos (by rw [← HNP.out]; exact h0), HLF.out])
    clear h0
    by_cases h1 : 0 < lf
    · have e1 : decide (0 < lf) = true := by simp; omega
      by_cases h2 : lf ≤ 2000
      · have e2 : decide (lf ≤ 2000) = true := by simp; omega
        have hf := Lib.hid (show decide (1 ≤ lf ∧ lf ≤ 2000) = true by simp; omega)
        clear h1 h2
        go_wp2_with (fail)
        go_ret
        exact ⟨by rw [ho.out, hf.out]; rfl, HG.out ▸ B1.out⟩
      · have e2 : decide (lf ≤ 2000) = false := by simp; omega
        have hf := Lib.hid (show decide (1 ≤ lf ∧ lf ≤ 2000) = false by simp; omega)
        clear h1 h2
        go_wp2_with (fail)
        go_ret
        exact ⟨by rw [ho.out, hf.out]; rfl, HG.out ▸ B1.out⟩
    · have e1 : decide (0 < lf) = false := by simp; omega
      have hf := Lib.hid (show decide (1 ≤ lf ∧ lf ≤ 2000) = false by simp; omega)
      clear h1
      go_wp2_with (fail)
      go_ret
      exact ⟨by rw [ho.out, hf.out]; rfl, HG.out ▸ B1.out⟩
  · have e0 : ((np : Int) == 0) = false := by simp; omega
    have HNZ := Lib.hid (show x.ps.length ≠ 0 by rw [← HNP.out]; exact h0)
    clear h0
    obtain ⟨b, o, hpa, hbB, -⟩ := HP.out.part (i := 0) (by have := HNZ.out; omega)
    rw [hpa] at c2 C2
    have HPA := Lib.hid hpa
    clear hpa
    have hM0 := Lib.hid (MF.made W1 (.int .i64 0))
    have hB0 : Hid (Below (gb + 1) W1 (W1.alloc (.map #[] 0))) := Lib.hid ((Below.refl _ W1).alloc (by rw [hs1]; exact Nat.le_refl _) _)
    rw [met_zero x.ps |>.symm] at hM0
    rw [hs1] at hM0
    go_upto_region 4 with (fail)
    go_wp2_with (fail)
    go_loopw [22] (fun s22 wr => ∃ i : Nat, s22 = .int .i64 i ∧ i ≤ np ∧ Hid (MF wr (gb + 1) i (.int .i64 0) (met x.ps i)) ∧ Hid (Below (gb + 1) W1 wr) ∧ Hid (∀ j, j < i → okPart x.ps j = true)) (fun s22 _ => np - (intOf s22).toNat)
    case atStart => exact ⟨0, rfl, by omega, hM0, hB0, Lib.hid (fun j hj => absurd hj (Nat.not_lt_zero _))⟩
    case round =>
      obtain ⟨i, rfl, hi, HM, HB, hok⟩ := hrel
      have c1' : wr.cell? ⟨gb, 1, none⟩ = some (.int .i64 lf) := (HB.out.cell (show gb < gb + 1 by omega)).trans C1.out
      have c2' : wr.cell? ⟨gb, 2, none⟩ = some (.slice (some ⟨b, o, none⟩) np x.pc) := (HB.out.cell (show gb < gb + 1 by omega)).trans C2.out
      clear c1 c2
      by_cases hin : i < np
      · have t1 : decide ((i : Int) < (np : Int)) = true := by simp; omega
        have i0 : (0 : Int) ≤ (i : Int) := by omega
        have i1 : (i : Int) < (np : Int) := by omega
        have f1 : IntKind.i64.wrap ((i : Int) + 1) = ((i + 1 : Nat) : Int) := by rw [wrap_in (by omega) (by omega)]; omega
        have hin' : i < x.ps.length := by rw [← HNP.out]; exact hin
        obtain ⟨b', o', hpa', -, p0, p1⟩ := (HP.out.below (HB.out.mono (Nat.le_succ _))).part hin'
        have HIN := Lib.hid hin'
        clear hin'
        rw [HPA.out] at hpa'
        cases hpa'
        obtain ⟨pi, hpi⟩ : ∃ p, p = x.ps.getD i default := ⟨_, rfl⟩
        have hfn := HP.out.fine.at_ HIN.out
        rw [← hpi] at p0 p1 hfn
        unfold encStr at p0
        have HPI := Lib.hid hpi
        clear hpi
        obtain ⟨nm, qt⟩ := pi
        simp only at p0 p1 hfn
        obtain ⟨hnl, hq0, hq9⟩ := hfn
        have HNL := Lib.hid hnl
        clear hnl
        -- the pair's own block
        have hz := zeroInt
        have hpc := pair_cells wr (.string ⟨nm.toArray⟩) (.int .i64 qt)
        have hal : Below wr.heap.size wr (wr.alloc (.cells #[.string ⟨nm.toArray⟩, .int .i64 qt] 60)) := (Below.refl _ wr).alloc (Nat.le_refl _) _
        have hM2 : MF (wr.alloc (.cells #[.string ⟨nm.toArray⟩, .int .i64 qt] 60)) (gb + 1) i (.int .i64 0) (met x.ps i) := HM.out.below hal HM.out.lt
        have hB2 : Below (gb + 1) W1 (wr.alloc (.cells #[.string ⟨nm.toArray⟩, .int .i64 qt] 60)) := HB.out.alloc (by have := HB.out.size; omega) _
        have hlk := hM2.look Tryz.underlying111 (hz _) nm HNL.out
        have hgw : gb + 1 < wr.heap.size := HM.out.lt
        obtain ⟨q0, q1⟩ := pair_at hpc
        have HM2 := Lib.hid hM2
        have HB2 := Lib.hid hB2
        have HPC := Lib.hid hpc
        clear hz hal hM2 hB2 hpc
        by_cases htw : ∃ k, k < i ∧ (x.ps.getD k default).1 = nm
        · obtain ⟨k, hk, hkn⟩ := htw
          rw [met_old (by have := HIN.out; omega) hk hkn] at hlk
          have ho := Lib.hid (okShape_no (life := x.life) HIN.out (okPart_twice hk (by rw [← HPI.out]; exact hkn)))
          clear hkn
          go_wp2_with (at_mapUpdate; refine wpList_put_mf rfl _ _ _ 111 rfl Tryz.underlying111 HM2.out (by omega) nm (.int .i64 2) rfl rfl rfl HNL.out (by simp) ?_; intro w2 hM3 hg2; have hlk2 := hM3.look Tryz.underlying111 (zeroInt _) nm HNL.out; rw [setO_same] at hlk2; obtain ⟨q2, q3⟩ := pair_at ((hg2.block wr.heap.size (by rw [World.size_alloc]; omega) (fun e => by have := Option.some.inj e; omega)).trans HPC.out); have HB3 := Lib.hid (HB2.out.grown hg2 (by rw [World.size_alloc]; omega) (fun k e => by have := Option.some.inj e; omega)); clear hM3 hg2)
          all_goals go_ret
          all_goals exact ⟨by rw [ho.out]; rfl, HG.out ▸ B1.out.trans (HB3.out.mono (Nat.le_succ _))⟩
        · have hno : ∀ k, k < i → (x.ps.getD k default).1 ≠ nm := fun k hk e => htw ⟨k, hk, e⟩
          rw [met_new (by have := HIN.out; omega) hno] at hlk
          have HNO := Lib.hid hno
          clear htw hno
          by_cases hq : 1 ≤ qt ∧ qt ≤ 1073741824
          · obtain ⟨hq1, hq2⟩ := hq
            have e3 : decide (qt < 1) = false := by simp; omega
            have e4 : decide ((1073741824 : Int) < qt) = false := by simp; omega
            have ho := Lib.hid (okPart_yes (P := x.ps) (i := i) (by rw [← HPI.out]; exact hq1) (by rw [← HPI.out]; exact hq2) (fun m hm => by rw [← HPI.out]; exact HNO.out m hm))
            clear hq1 hq2
            go_wp2_with (at_mapUpdate; refine wpList_put_mf rfl _ _ _ 111 rfl Tryz.underlying111 HM2.out (by omega) nm (.int .i64 1) rfl rfl rfl HNL.out (by simp) ?_; intro w2 hM3 hg2; have hlk2 := hM3.look Tryz.underlying111 (zeroInt _) nm HNL.out; rw [setO_same] at hlk2; obtain ⟨q2, q3⟩ := pair_at ((hg2.block wr.heap.size (by rw [World.size_alloc]; omega) (fun e => by have := Option.some.inj e; omega)).trans HPC.out); have HB3 := Lib.hid (HB2.out.grown hg2 (by rw [World.size_alloc]; omega) (fun k e => by have := Option.some.inj e; omega)); have HM3 := Lib.hid hM3; clear hM3 hg2)
            go_roundw
            case rel => exact ⟨i + 1, rfl, by omega, Lib.hid (by
              have h := HM3.out
              have hm := met_next HIN.out (by rw [← HPI.out]; exact HNO.out)
              rw [← HPI.out] at hm
              simp only at hm
              rw [hm] at h
              exact h), HB3, Lib.hid (fun j hj => if e : j < i then hok.out j e else by rw [show j = i by omega]; exact ho.out)⟩
            case measure => simp only [intOf]; omega
          · have ho := Lib.hid (okShape_no (life := x.life) HIN.out (okPart_qty (by rw [← HPI.out]; exact hq)))
            by_cases hq1 : 1 ≤ qt
            · have e3 : decide (qt < 1) = false := by simp; omega
              have e4 : decide ((1073741824 : Int) < qt) = true := by simp; omega
              clear hq hq1
              go_wp2_with (at_mapUpdate; refine wpList_put_mf rfl _ _ _ 111 rfl Tryz.underlying111 HM2.out (by omega) nm (.int .i64 1) rfl rfl rfl HNL.out (by simp) ?_; intro w2 hM3 hg2; have hlk2 := hM3.look Tryz.underlying111 (zeroInt _) nm HNL.out; rw [setO_same] at hlk2; obtain ⟨q2, q3⟩ := pair_at ((hg2.block wr.heap.size (by rw [World.size_alloc]; omega) (fun e => by have := Option.some.inj e; omega)).trans HPC.out); have HB3 := Lib.hid (HB2.out.grown hg2 (by rw [World.size_alloc]; omega) (fun k e => by have := Option.some.inj e; omega)); clear hM3 hg2)
              go_ret
              exact ⟨by rw [ho.out]; rfl, HG.out ▸ B1.out.trans (HB3.out.mono (Nat.le_succ _))⟩
            · have e3 : decide (qt < 1) = true := by simp; omega
              clear hq hq1
              go_wp2_with (at_mapUpdate; refine wpList_put_mf rfl _ _ _ 111 rfl Tryz.underlying111 HM2.out (by omega) nm (.int .i64 1) rfl rfl rfl HNL.out (by simp) ?_; intro w2 hM3 hg2; have hlk2 := hM3.look Tryz.underlying111 (zeroInt _) nm HNL.out; rw [setO_same] at hlk2; obtain ⟨q2, q3⟩ := pair_at ((hg2.block wr.heap.size (by rw [World.size_alloc]; omega) (fun e => by have := Option.some.inj e; omega)).trans HPC.out); have HB3 := Lib.hid (HB2.out.grown hg2 (by rw [World.size_alloc]; omega) (fun k e => by have := Option.some.inj e; omega)); clear hM3 hg2)
              go_ret
              exact ⟨by rw [ho.out]; rfl, HG.out ▸ B1.out.trans (HB3.out.mono (Nat.le_succ _))⟩
      · have t1 : decide ((i : Int) < (np : Int)) = false := by simp; omega
        have hall := Lib.hid (okShape_yes (life := x.life) HNZ.out (fun j hj => hok.out j (by have := HNP.out; omega)))
        have hfin : Below w.heap.size w wr := HG.out ▸ B1.out.trans (HB.out.mono (Nat.le_succ _))
        have HFIN := Lib.hid hfin
        clear hfin
        by_cases h1 : lf = 0
        · have e1 : (lf == 0) = true := by simp; omega
          have H1 := Lib.hid h1
          clear h1
          by_cases h2 : np ≤ 8
          · have e2 : decide ((np : Int) ≤ 8) = true := by simp; omega
            have H2 := Lib.hid h2
            clear h2
            go_wp2_with (fail)
            go_ret
            exact ⟨by rw [hall.out, decide_eq_true (by rw [← HLF.out, ← HNP.out]; exact ⟨H1.out, H2.out⟩)]; rfl, HFIN.out⟩
          · have e2 : decide ((np : Int) ≤ 8) = false := by simp; omega
            have H2 := Lib.hid h2
            clear h2
            go_wp2_with (fail)
            go_ret
            exact ⟨by rw [hall.out, decide_eq_false (by rw [← HLF.out, ← HNP.out]; exact fun h => H2.out h.2)]; rfl, HFIN.out⟩
        · have e1 : (lf == 0) = false := by simp; omega
          have H1 := Lib.hid h1
          clear h1
          go_wp2_with (fail)
          go_ret
          exact ⟨by rw [hall.out, decide_eq_false (by rw [← HLF.out]; exact fun h => H1.out h.1)]; rfl, HFIN.out⟩
end Go.Proofs.YtbedbhlebfnohaaGreat
