/- CopyRow. The walk of the law's holds. -/
import Derived.Test.YtbinikbgbgggaaaDoorKeepA
import Derived.Test.YtbinikbgbgggaaaDoorLawC
import Derived.Test.YtbinikbgbgggaaaDoorBelowQ
namespace Go.Proofs.YtbinikbgbgggaaaDoor
open Go.RowKit Go.Shelf

theorem T2.frozen {W : World} {z : Nat} {v0 v1 : Value} (h : T2 W z v0 v1) : W.frozen? ⟨z, 0, none⟩ = false ∧ W.frozen? ⟨z, 1, none⟩ = false := by
  unfold T2 at h; simp [World.frozen?, h]
theorem T2.lt {W : World} {z : Nat} {v0 v1 : Value} (h : T2 W z v0 v1) : z < W.heap.size := (Array.getElem?_eq_some_iff.1 h).1
theorem T2.new (W : World) (v0 v1 : Value) : T2 (W.alloc (.cells #[v0, v1] 25)) W.heap.size v0 v1 := heap_alloc_new W _
theorem T2.alloc {W : World} {z : Nat} {v0 v1 : Value} (h : T2 W z v0 v1) (o : Obj) : T2 (W.alloc o) z v0 v1 := (Below.heap_alloc W o z h.lt).trans h
theorem T2.set0 {W : World} {z : Nat} {v0 v1 : Value} (h : T2 W z v0 v1) (u : Value) : T2 (W.setCell ⟨z, 0, none⟩ u) z u v1 := by
  unfold T2 at h ⊢
  simp [World.setCell, Array.getElem?_modify, h]
theorem T2.set1 {W : World} {z : Nat} {v0 v1 : Value} (h : T2 W z v0 v1) (u : Value) : T2 (W.setCell ⟨z, 1, none⟩ u) z v0 u := by
  unfold T2 at h ⊢
  simp [World.setCell, Array.getElem?_modify, h]
theorem T2.other {W : World} {z : Nat} {v0 v1 : Value} (h : T2 W z v0 v1) {j o : Nat} (hj : j ≠ z) (u : Value) : T2 (W.setCell ⟨j, o, none⟩ u) z v0 v1 := by
  unfold T2 at h ⊢
  rw [← h]; exact Below.heap_setCell W ⟨j, o, none⟩ u z (fun e => hj e.symm)
theorem OB.set {base : Nat} {W : World} {v : Value} {l : List UInt8} (h : OB base W v l) {y j : Nat} (hy : y < base) (u : Value) : OB base (W.setCell ⟨y, j, none⟩ u) v l := by
  obtain ⟨e, h3 | ⟨g, cap, cur, hv, hg, hh, r⟩⟩ := h
  · exact ⟨e, .inl h3⟩
  · exact ⟨e, .inr ⟨g, cap, cur, hv, hg, (Below.heap_setCell W ⟨y, j, none⟩ u g (fun e => by have e' : g = y := e; omega)).trans hh, r⟩⟩
theorem OB.below {base : Nat} {W W' : World} {v : Value} {l : List UInt8} (h : OB base W v l) (hb : Below W.heap.size W W') : OB base W' v l := by
  obtain ⟨e, h3 | ⟨g, cap, cur, hv, hg, hh, r⟩⟩ := h
  · exact ⟨e, .inl h3⟩
  · exact ⟨e, .inr ⟨g, cap, cur, hv, hg, (hb.block g (Array.getElem?_eq_some_iff.1 hh).1).trans hh, r⟩⟩

set_option maxHeartbeats 1000000 in
theorem CopyRow_any (N : Nat) (ka va : Option Addr) (kn kc vn vc : Nat) (K V : List UInt8) (w : World) (hN : N ≤ w.heap.size) (hk : RB N w ka kn kc K) (hv : RB N w va vn vc V) :
    Calls Tryd.prog 21 #[.agg #[.slice ka kn kc, .slice va vn vc]] w fun e w' => (∃ a0 c0 a1 c1, e = .returned (.agg #[.slice a0 kn c0, .slice a1 vn c1]) ∧ OB w.heap.size w' (.slice a0 kn c0) K ∧ OB w.heap.size w' (.slice a1 vn c1) V) ∧ Below w.heap.size w w' := by
  obtain ⟨z, hz⟩ : ∃ z, z = w.heap.size := ⟨_, rfl⟩
  have hkl := hk.len; have hvl := hv.len; have hkm := hk.lm; have hvm := hv.lm
  have Hkl := Lib.hid hkl
  have Hvl := Lib.hid hvl
  clear hkl hvl
  have t0 : T2 ((w.alloc (.cells #[.slice ka kn kc, .slice va vn vc] 25)).alloc (.cells #[.slice none 0 0, .slice none 0 0] 25)) z (.slice ka kn kc) (.slice va vn vc) := by rw [hz]; exact (T2.new w _ _).alloc _
  have r0 : T2 ((w.alloc (.cells #[.slice ka kn kc, .slice va vn vc] 25)).alloc (.cells #[.slice none 0 0, .slice none 0 0] 25)) (z + 1) (.slice none 0 0) (.slice none 0 0) := by
    have := T2.new (w.alloc (.cells #[.slice ka kn kc, .slice va vn vc] 25)) (.slice none 0 0) (.slice none 0 0)
    rw [World.size_alloc, ← hz] at this; exact this
  have b0 : Below z w ((w.alloc (.cells #[.slice ka kn kc, .slice va vn vc] 25)).alloc (.cells #[.slice none 0 0, .slice none 0 0] 25)) := ((Below.refl z w).alloc (by omega) _).alloc (by simp; omega) _
  have s0 : ((w.alloc (.cells #[.slice ka kn kc, .slice va vn vc] 25)).alloc (.cells #[.slice none 0 0, .slice none 0 0] 25)).heap.size = z + 2 := by simp; omega
  have T0 := Lib.hid t0
  have R0 := Lib.hid r0
  have B0 := Lib.hid b0
  have S0 := Lib.hid s0
  have Hz := Lib.hid hz
  clear t0 r0 b0 s0 hz
  go_enter Tryd.func21, Tryd.ntmps21
  go_wp2_with (fail)
  refine (CopyBytes_any N _ _ _ K _ (hk.below (B0.out.mono (by have := Hz.out; omega))) (by have := S0.out; have := Hz.out; simp; omega)).mono ?_
  rintro e w1 ⟨⟨k1, rfl, o1⟩, b1⟩
  obtain ⟨a0, c0, rfl, -⟩ := o1.rb (by rw [← Hkl.out]; exact hkm)
  have b1' := b1
  simp only [World.size_alloc, ← Hz.out] at b1' o1
  have T1 := Lib.hid (T0.out.below b1' (by omega))
  have R1 := Lib.hid (R0.out.below b1' (by omega))
  have O1 := Lib.hid o1
  have B1 := Lib.hid (B0.out.trans (b1'.mono (by omega)))
  have S1 := Lib.hid b1'.size
  clear o1 b1 b1'
  obtain ⟨c10, c11⟩ := T1.out.cells
  obtain ⟨f10, f11⟩ := T1.out.frozen
  rw [← Hz.out]
  rw [← Hkl.out] at O1 ⊢
  go_wp2_with (fail)
  have T2' := Lib.hid (T1.out.set0 (.slice a0 kn c0))
  have R2 := Lib.hid (R1.out.other (j := z) (o := 0) (by omega) (.slice a0 kn c0))
  have O2 := Lib.hid (O1.out.set (y := z) (j := 0) (by omega) (.slice a0 kn c0))
  have B2 := Lib.hid (B1.out.setCell (p := ⟨z, 0, none⟩) (Nat.le_refl _) (.slice a0 kn c0))
  have S2 : Hid ((w1.setCell ⟨z, 0, none⟩ (.slice a0 kn c0)).heap.size = w1.heap.size) := Lib.hid (size_setCell' _ _ _)
  have S1' := S1.out
  rw [S0.out] at S1'
  refine (CopyBytes_any N _ _ _ V _ (hv.below (B2.out.mono (by have := Hz.out; omega))) (by have := S2.out; have := Hz.out; omega)).mono ?_
  rintro e w3 ⟨⟨k1, rfl, o3⟩, b3⟩
  obtain ⟨a1, c1, rfl, -⟩ := o3.rb (by rw [← Hvl.out]; exact hvm)
  rw [← Hvl.out] at o3 ⊢
  rw [S2.out] at o3
  have T3 := Lib.hid (T2'.out.below b3 (by have := S2.out; omega))
  have R3 := Lib.hid (R2.out.below b3 (by have := S2.out; omega))
  have O3 := Lib.hid o3
  have P3 := Lib.hid (O2.out.below b3)
  have B3 := Lib.hid (B2.out.trans (b3.mono (by have := S2.out; omega)))
  clear o3 b3 c10 c11 f10 f11
  obtain ⟨c10, c11⟩ := T3.out.cells
  obtain ⟨f10, f11⟩ := T3.out.frozen
  obtain ⟨c20, c21⟩ := R3.out.cells
  obtain ⟨f20, f21⟩ := R3.out.frozen
  have T4 := Lib.hid (T3.out.set1 (.slice a1 vn c1))
  have c40 := T4.out.cells.1
  have c41 := T4.out.cells.2
  have R4 := Lib.hid (R3.out.other (j := z) (o := 1) (by omega) (.slice a1 vn c1))
  have d40 := R4.out.cells.1
  have d41 := R4.out.cells.2
  have e40 := R4.out.frozen.1
  have e41 := R4.out.frozen.2
  go_wp2_with (fail)
  have R5 := (R4.out.set0 (.slice a0 kn c0)).set1 (.slice a1 vn c1)
  have c50 := R5.cells.1
  have c51 := R5.cells.2
  refine bodyPost_ret (v := .agg #[.slice a0 kn c0, .slice a1 vn c1]) (by simp [results, Tryd.f21, go_sem, c50, c51]) rfl ⟨⟨a0, c0, a1, c1, rfl, ?_, ?_⟩, ?_⟩
  · exact (((P3.out.set (by omega) _).set (by omega) _).set (by omega) _).mono (by have := Hz.out; omega)
  · exact (((O3.out.set (by omega) _).set (by omega) _).set (by omega) _).mono (by have := Hz.out; omega)
  · rw [← Hz.out]
    exact ((B3.out.setCell (p := ⟨z, 1, none⟩) (Nat.le_refl _) _).setCell (p := ⟨z + 1, 0, none⟩) (by show z ≤ z + 1; omega) _).setCell (p := ⟨z + 1, 1, none⟩) (by show z ≤ z + 1; omega) _
end Go.Proofs.YtbinikbgbgggaaaDoor
namespace Go.Proofs.YtbinikbgbgggaaaDoor
open Go.RowKit Go.Shelf

theorem rows_mk {h : List UInt8} {R : List Rw} (H : PageOf h R) : rowsL (mkP h R) = R := by
  have hb := behind_mk H
  obtain ⟨a, ha, -, hs⟩ := mkP_split H
  have := scan_rows R (mkP h R) a _ hs H.ok
  unfold rowsL
  rw [if_neg (by omega), mkP_cnt H]
  rw [ha] at this
  exact this
theorem less_cb : ∀ {a b : List UInt8}, cb a b < 0 → Op.bytesLess a b = true
  | [], [], h => by simp [cb, Lib.compareBytes] at h
  | [], _ :: _, _ => rfl
  | _ :: _, [], h => by simp [cb, Lib.compareBytes] at h
  | x :: a, y :: b, h => by
    unfold cb Lib.compareBytes at h
    unfold Op.bytesLess
    by_cases h1 : x < y
    · simp [h1]
    · rw [if_neg h1] at h
      by_cases h2 : y < x
      · rw [if_pos h2] at h; omega
      · rw [if_neg h2] at h
        have e : x = y := by
          have h1' := UInt8.not_lt.1 h1
          have h2' := UInt8.not_lt.1 h2
          exact UInt8.le_antisymm h2' h1'
        simp [e, less_cb h]

set_option maxHeartbeats 4000000 in
set_option maxRecDepth 100000 in
theorem holds_any (N : Nat) (a la : Option Addr) (n c ln lc : Nat) (h : List UInt8) (L R : List Rw) (w : World) (H : PageOf h R) (hp : L.Perm R) (hr : RB N w a n c (mkP h R)) (hl : RowsAt N w la ln lc L) (hN : N ≤ w.heap.size) :
    Calls Tryd.prog 22 #[.slice a n c, .slice la ln lc] w fun e w' => e = .returned (.bool true) ∧ Below w.heap.size w w' := by
  have hbeh : 0 < behindL (mkP h R) := by rw [behind_mk H]; omega
  have hd : decide (0 < behindL (mkP h R)) = true := by simpa using hbeh
  have hRlen : R.length < 256 := by
    have := enc_ge H.ok
    have := H.fit
    omega
  have Hroom := Lib.hid (room_mk H)
  have hrows := Rows_any N a n c (mkP h R) w hr hN
  rw [rows_mk H] at hrows
  have Hrows := Lib.hid hrows
  obtain rfl : ln = R.length := by have := hl.len; have := hp.length_eq; omega
  have hll := hl.le
  have hlm := hl.mx
  have Hlp := Lib.hid hp
  have Hl := Lib.hid hl
  have Hr := Lib.hid hr
  clear hrows hbeh hp hl hr
  go_enter Tryd.func22, Tryd.ntmps22
  go_wp2_with (fail)
  refine Hrows.out.mono ?_
  rintro e w1 ⟨⟨gv, rfl, hor⟩, b1⟩
  obtain ⟨ga, gc, rfl, hgr⟩ := hor.rows
  have Hgr := Lib.hid hgr
  have B1 := Lib.hid b1
  have Hright := Right_any N a n c (mkP h R) w1 (Hr.out.below (b1.mono hN)) (Nat.le_trans hN b1.size)
  rw [hd] at Hright
  have HRight := Lib.hid Hright
  have hgl := hgr.le
  have hgm := hgr.mx
  have hs1 := b1.size
  clear hor b1 Hright hd hgr
  have hneq : ((R.length : Int) != (R.length : Int)) = false := by simp
  go_wp2_with (fail)
  refine HRight.out.mono ?_
  rintro e w2 ⟨rfl, b2⟩
  have B2 := Lib.hid b2
  clear b2
  go_wp2_with (fail)
  go_loopw [6, 7] (fun rm i wr => ∃ k : Nat, k ≤ R.length ∧ i = .int .i64 k ∧ rm = .int .i64 ((501 - (enc (R.take k)).length : Nat) : Int) ∧ Hid (Below w1.heap.size w1 wr)) (fun _ i _ => R.length - (intOf i).toNat)
  case atStart => exact ⟨0, Nat.zero_le _, rfl, by simp [enc], B2⟩
  case round =>
    obtain ⟨k, hk, rfl, rfl, Hb⟩ := hrel
    obtain ⟨u, hu⟩ : ∃ u, u = 501 - (enc (R.take k)).length := ⟨_, rfl⟩
    rw [← hu]
    have hu5 : u ≤ 501 := by omega
    have Hu := Lib.hid hu
    clear hu
    by_cases hlt : k < R.length
    · obtain ⟨gb, go, rfl, hgB, hgat⟩ := (Hgr.out.below Hb.out).at_ (by omega)
      obtain ⟨r, hr0⟩ : ∃ r, r = R[k] := ⟨_, rfl⟩
      have hrk : R[k]? = some r := by rw [hr0]; exact List.getElem?_eq_getElem hlt
      obtain ⟨ka, kn, kc, va, vn, vc, c0, c1, rk, rv⟩ := hgat k r hrk
      have hmem : (r.1, r.2) ∈ R := List.mem_of_getElem? hrk
      obtain ⟨j, hj1, hj2, hj3⟩ := fidx_in Hlp.out H.up hmem
      have hjl : j < R.length := by rw [← Hlp.out.length_eq]; exact hj3
      obtain ⟨lb, lo, rfl, hlB, hlat⟩ := ((Hl.out.below (B1.out.mono hN)).below (Hb.out.mono (Nat.le_trans hN hs1))).at_ (by omega)
      obtain ⟨ka', kn', kc', va', vn', vc', d0, d1, rk', rv'⟩ := hlat j _ hj2
      have hfind := lawfind_any w1.heap.size (some ⟨lb, lo, none⟩) ka R.length lc kn kc L r.1 wr (((Hl.out.below (B1.out.mono hN)).below (Hb.out.mono (Nat.le_trans hN hs1))).mono (Nat.le_trans hN hs1)) rk
      rw [hj1] at hfind
      have Hfind := Lib.hid hfind
      have hsz := Hb.out.size
      have hget : ∀ q, Calls Tryd.prog 10 #[.slice a n c, .slice ka kn kc] (wr.drewN q) fun e w' => (∃ v, e = .returned (.tuple #[v, .bool true]) ∧ OB (wr.drewN q).heap.size w' v r.2) ∧ Below (wr.drewN q).heap.size (wr.drewN q) w' := fun q => by
        have := Get_any N w1.heap.size a n c (mkP h R) ka kn kc r.1 (wr.drewN q) (((Hr.out.below (B1.out.mono hN)).below (Hb.out.mono (Nat.le_trans hN hs1))).drewN q) (rk.drewN q) (by show N ≤ wr.heap.size; omega) hsz
        rw [get_mk H, got_of_mem H.up hmem] at this
        exact this
      have Hget := Lib.hid hget
      have hokr := H.ok r (List.mem_of_getElem? hrk)
      have henc := enc_take R k r hrk
      have hencle : (enc (R.take (k + 1))).length ≤ 501 := by
        have h1 : (enc R).length = (enc (R.take (k + 1))).length + (enc (R.drop (k + 1))).length := by rw [← enc_len_append, List.take_append_drop]
        have := H.fit
        omega
      have hkn := rk.len
      have hvn := rv.len
      have huu : 2 + kn + vn ≤ u := by have := Hu.out; omega
      have Hu' : Hid (((u : Int) - 2 - kn - vn) = ((501 - (enc (R.take (k + 1))).length : Nat) : Int)) := Lib.hid (by have := Hu.out; omega)
      have Hc0 := Lib.hid c0
      have Hc1 := Lib.hid c1
      have Hd0 := Lib.hid d0
      have Hd1 := Lib.hid d1
      have Hrk := Lib.hid rk
      have Hrv := Lib.hid rv
      have Hrk' := Lib.hid rk'
      have Hrv' := Lib.hid rv'
      have Hgat := Lib.hid hgat
      have Hrk0 := Lib.hid hrk
      have Hvn := Lib.hid hvn
      have hrv2 : r.2.length ≤ 140737488355328 := by rw [← hvn]; exact rv.lm
      have Hokr := Lib.hid hokr
      clear hfind hget hokr henc hencle hkn hvn c1 d0 d1 rk rv rk' rv' hgat hlat hr0 hrk hj1 hj2 hj3 hmem
      have hj0 : ¬ ((j : Int) < 0) := by omega
      have hj0' : (fint (some j)) = (j : Int) := rfl
      go_wp2_with (fail)
      refine Hfind.out.mono ?_
      rw [hj0']
      rintro e w3 ⟨rfl, q, rfl⟩
      clear hj0'
      go_wp2_with (fail)
      refine (Hget.out q).mono ?_
      rintro e w3 ⟨⟨v, rfl, ov⟩, b3⟩
      obtain ⟨ov1, ov2, rfl, hrov⟩ := ov.rb hrv2
      have hb3 : Below wr.heap.size wr w3 := ((Below.refl _ wr).trans (below_dn (Below.refl _ wr) q)).trans b3
      have Hb3 := Lib.hid hb3
      have Hrov := Lib.hid hrov
      clear ov b3 hb3 hrov c0
      have hsz3 : wr.heap.size ≤ w3.heap.size := Hb3.out.size
      have hgb3 : gb < w3.heap.size := by omega
      have hlb3 : lb < w3.heap.size := by omega
      have f0 : ∀ x : BelowW w3, x.v.cell? ⟨gb, go + k * 2, none⟩ = some (.slice ka kn kc) := fun x => (x.h.cell hgb3).trans ((Hb3.out.cell (by show gb < _; omega)).trans Hc0.out)
      have f1 : ∀ x : BelowW w3, x.v.cell? ⟨gb, go + k * 2 + 1, none⟩ = some (.slice va vn vc) := fun x => (x.h.cell hgb3).trans ((Hb3.out.cell (by show gb < _; omega)).trans Hc1.out)
      have f2 : ∀ x : BelowW w3, x.v.cell? ⟨lb, lo + j * 2, none⟩ = some (.slice ka' kn' kc') := fun x => (x.h.cell hlb3).trans ((Hb3.out.cell (by show lb < _; omega)).trans Hd0.out)
      have f3 : ∀ x : BelowW w3, x.v.cell? ⟨lb, lo + j * 2 + 1, none⟩ = some (.slice va' vn' vc') := fun x => (x.h.cell hlb3).trans ((Hb3.out.cell (by show lb < _; omega)).trans Hd1.out)
      have Hk3 : Hid (∀ x : BelowW w3, RB w1.heap.size x.v ka kn kc r.1) := Lib.hid fun x => (Hrk.out.below (Hb3.out.mono hsz)).below (x.h.mono (by omega))
      have Hv3 : Hid (∀ x : BelowW w3, RB w1.heap.size x.v va vn vc r.2) := Lib.hid fun x => (Hrv.out.below (Hb3.out.mono hsz)).below (x.h.mono (by omega))
      have Hk3' : Hid (∀ x : BelowW w3, RB w1.heap.size x.v ka' kn' kc' r.1) := Lib.hid fun x => ((Hrk'.out.below (Hb3.out.mono (by omega))).below (x.h.mono (by omega))).mono (by omega)
      have Hv3' : Hid (∀ x : BelowW w3, RB w1.heap.size x.v va' vn' vc' r.2) := Lib.hid fun x => ((Hrv'.out.below (Hb3.out.mono (by omega))).below (x.h.mono (by omega))).mono (by omega)
      have Hsr : Hid (∀ x : BelowW w3, Calls Tryd.prog 47 #[.agg #[.slice ka kn kc, .slice va vn vc], .agg #[.slice ka' kn' kc', .slice va' vn' vc']] x.v fun e w' => e = .returned (.bool true) ∧ Below x.v.heap.size x.v w') := Lib.hid fun x => by
        have := SameRow_any w1.heap.size ka va ka' va' kn kc vn vc kn' kc' vn' vc' r.1 r.2 r.1 r.2 x.v (by have := x.h.size; omega) (Hk3.out x) (Hv3.out x) (Hk3'.out x) (Hv3'.out x)
        rw [eqB_self, eqB_self] at this; exact this
      have Hsb : Hid (∀ x : BelowW w3, Calls Tryd.prog 20 #[.slice ov1 r.2.length ov2, .slice va vn vc] x.v fun e w' => e = .returned (.bool true) ∧ ∃ q, w' = x.v.drewN q) := Lib.hid fun x => by
        have := SameBytes_any w3.heap.size ov1 va r.2.length ov2 vn vc r.2 r.2 x.v (Hrov.out.below x.h) ((Hv3.out x).mono (by omega))
        rw [eqB_self] at this; exact this
      have i1 : (0 : Int) ≤ (k : Int) := by omega
      have i2 : (k : Int) < (R.length : Int) := by omega
      have i3 : (j : Int) < (R.length : Int) := by omega
      have i4 : decide ((j : Int) < 0) = false := by simp
      by_cases hk0 : 0 < k
      · obtain ⟨pa, pn, pc, -, -, -, c0, -, prk, -⟩ := Hgat.out (k - 1) (R[k - 1]'(by omega)) (List.getElem?_eq_getElem _)
        obtain ⟨p, hpp⟩ : ∃ p, p = R[k - 1]'(by omega) := ⟨_, rfl⟩
        have hup : cb p.1 r.1 < 0 := by
          have h1 := (List.pairwise_iff_getElem.1 H.up) (k - 1) k (by omega) hlt (by omega)
          have h2 : R[k] = r := (List.getElem?_eq_some_iff.1 Hrk0.out).2
          rw [h2, ← hpp] at h1
          exact h1
        rw [← hpp] at prk
        have f4 : ∀ x : BelowW w3, x.v.cell? ⟨gb, go + (k - 1) * 2, none⟩ = some (.slice pa pn pc) := fun x => (x.h.cell hgb3).trans ((Hb3.out.cell (by show gb < _; omega)).trans c0)
        have g1 : ∀ x : BelowW w3, (convert 23 9 (.slice pa pn pc)).run Tryd.prog x.v = .ok (.string ⟨p.1.toArray⟩) x.v := fun x => run_conv ((prk.below (Hb3.out.mono hsz)).below (x.h.mono (by omega))) _ _ _ Tryd.underlying23 Tryd.underlying5 Tryd.underlying9
        have g2 : ∀ x : BelowW w3, (convert 23 9 (.slice ka kn kc)).run Tryd.prog x.v = .ok (.string ⟨r.1.toArray⟩) x.v := fun x => run_conv (Hk3.out x) _ _ _ Tryd.underlying23 Tryd.underlying5 Tryd.underlying9
        have hless : Op.bytesLess p.1 r.1 = true := less_cb hup
        have i5 : decide ((0 : Int) < (k : Int)) = true := by simpa using hk0
        have i6 : IntKind.i64.wrap ((k : Int) - 1) = (k : Int) - 1 := IntWalk.i64_in _ (by omega)
        have i7 : (0 : Int) ≤ (k : Int) - 1 := by omega
        have i8 : (k : Int) - 1 < (R.length : Int) := by omega
        have i9 : ((k : Int) - 1).toNat = k - 1 := by omega
        clear hup hpp prk c0
        have Hf0 := Lib.hid f0
        have Hf1 := Lib.hid f1
        go_wp2_with (fail)
        refine wp_region_below w3 (by kernel_rfl) (by kernel_rfl) (Below.refl _ _) ?_
        repeat (go_big_quiet_step (first | (go_at_call 47; with_reducible exact below_call (Hsr.out _)) | (go_at_call 20; with_reducible exact below_call_drew (Hsb.out _))))
        refine wpQuiet_nil ?_
        intro _ hw'
        obtain ⟨x, hw''⟩ := hw'
        subst hw''

        have e0 := Hf0.out x
        have e1 := Hf1.out x
        have hbx : Hid (Below w1.heap.size w1 x.v) := Lib.hid ((Hb.out.trans (Hb3.out.mono hsz)).trans (x.h.mono (by omega)))
        have o1 : IntKind.i64.wrap ((u : Int) - 2) = (u : Int) - 2 := IntWalk.i64_in _ (by omega)
        have o2 : IntKind.i64.wrap ((u : Int) - 2 - (kn : Int)) = (u : Int) - 2 - (kn : Int) := IntWalk.i64_in _ (by omega)
        have o3 : IntKind.i64.wrap ((u : Int) - 2 - (kn : Int) - (vn : Int)) = (u : Int) - 2 - (kn : Int) - (vn : Int) := IntWalk.i64_in _ (by omega)
        go_wp2_with (fail)
        go_quiet (fail)
        clear o1 o2 o3
        go_wp2_with (fail)
        go_roundw
        case rel => exact ⟨k + 1, by omega, by go_num, by rw [Hu'.out], Lib.hid (below_dn hbx.out _)⟩
        case measure => simp [intOf]; omega
      · have i5 : decide ((0 : Int) < (k : Int)) = false := by simpa using hk0
        have Hf0 := Lib.hid f0
        have Hf1 := Lib.hid f1
        go_wp2_with (fail)
        refine wp_region_below w3 (by kernel_rfl) (by kernel_rfl) (Below.refl _ _) ?_
        repeat (go_big_quiet_step (first | (go_at_call 47; with_reducible exact below_call (Hsr.out _)) | (go_at_call 20; with_reducible exact below_call_drew (Hsb.out _))))
        refine wpQuiet_nil ?_
        intro _ hw'
        obtain ⟨x, hw''⟩ := hw'
        subst hw''
        have e0 := Hf0.out x
        have e1 := Hf1.out x
        have hbx : Hid (Below w1.heap.size w1 x.v) := Lib.hid ((Hb.out.trans (Hb3.out.mono hsz)).trans (x.h.mono (by omega)))
        have o1 : IntKind.i64.wrap ((u : Int) - 2) = (u : Int) - 2 := IntWalk.i64_in _ (by omega)
        have o2 : IntKind.i64.wrap ((u : Int) - 2 - (kn : Int)) = (u : Int) - 2 - (kn : Int) := IntWalk.i64_in _ (by omega)
        have o3 : IntKind.i64.wrap ((u : Int) - 2 - (kn : Int) - (vn : Int)) = (u : Int) - 2 - (kn : Int) - (vn : Int) := IntWalk.i64_in _ (by omega)
        go_wp2_with (fail)
        go_quiet (fail)
        clear o1 o2 o3
        go_wp2_with (fail)
        go_roundw
        case rel => exact ⟨k + 1, by omega, by go_num, by rw [Hu'.out], Lib.hid (below_dn hbx.out _)⟩
        case measure => simp [intOf]; omega
    · have hge : k = R.length := by omega
      have hu : u = 501 - (enc R).length := by rw [Hu.out, hge, List.take_length]
      have Hroom' := Room_any N a n c (mkP h R) wr ((Hr.out.below (B1.out.mono hN)).below (Hb.out.mono (Nat.le_trans hN hs1))) (Nat.le_trans hN (Nat.le_trans hs1 Hb.out.size))
      rw [Hroom.out, ← hu] at Hroom'
      have HRoom := Lib.hid Hroom'
      have hge' : R.length ≤ k := by omega
      have heq : ((u : Int) == (u : Int)) = true := by simp
      clear hge hu Hroom'
      go_wp2_with (fail)
      refine HRoom.out.mono ?_
      rintro e w4 ⟨rfl, b4⟩
      have B4 := Lib.hid b4
      clear b4
      go_wp2_with (fail)
      go_ret
      exact ⟨rfl, (B1.out.trans (Hb.out.mono hs1)).trans (B4.out.mono (Nat.le_trans hs1 Hb.out.size))⟩
end Go.Proofs.YtbinikbgbgggaaaDoor
