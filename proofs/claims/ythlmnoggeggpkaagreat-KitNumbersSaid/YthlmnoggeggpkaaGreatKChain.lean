/- The walk of storemanlaw07.chain. -/
import Derived.Test.YthlmnoggeggpkaaGreatKML
import Derived.Test.YthlmnoggeggpkaaGreatKMark
import Derived.Deep.RegionLaw
namespace Go.Proofs.YthlmnoggeggpkaaGreat
open Go.RowKit Tx

theorem conv2 (w : World) (a b : UInt8) : (convert 48 9 (.slice (some ⟨w.heap.size, 0, none⟩) 2 2)).run Tryz.prog (w.alloc (.cells #[.int .u8 a.toNat, .int .u8 b.toNat] 5)) = .ok (.string ⟨#[a, b]⟩) (w.alloc (.cells #[.int .u8 a.toNat, .int .u8 b.toNat] 5)) := by
  refine run_convert_bytes_back (P := Tryz.prog) _ _ _ 5 ⟨w.heap.size, 0, none⟩ 2 [a, b] Tryz.underlying48 Tryz.underlying5 Tryz.underlying9 fun j hj => ?_
  have e1 : (⟨w.heap.size, 0, none⟩ : Addr).add j = ⟨w.heap.size, j, none⟩ := by unfold Addr.add; split <;> simp_all
  rw [e1, World.cell?_alloc_new]
  have hj2 : j < 2 := hj
  obtain rfl | rfl : j = 0 ∨ j = 1 := by omega
  all_goals rfl
theorem conv2d (w : World) (g : Nat) (a b : UInt8) (h0 : w.cell? ⟨g, 0, none⟩ = some (.int .u8 a.toNat)) (h1 : w.cell? ⟨g, 1, none⟩ = some (.int .u8 b.toNat)) : (convert 48 9 (.slice (some ⟨g, 0, none⟩) 2 2)).run Tryz.prog w = .ok (.string ⟨#[a, b]⟩) w := by
  refine run_convert_bytes_back (P := Tryz.prog) _ _ _ 5 ⟨g, 0, none⟩ 2 [a, b] Tryz.underlying48 Tryz.underlying5 Tryz.underlying9 fun j hj => ?_
  have e1 : (⟨g, 0, none⟩ : Addr).add j = ⟨g, j, none⟩ := by unfold Addr.add; split <;> simp_all
  rw [e1]
  have hj2 : j < 2 := hj
  obtain rfl | rfl : j = 0 ∨ j = 1 := by omega
  · exact h0
  · exact h1
theorem conv2e (w : World) (a b : UInt8) : (convert 48 9 (.slice (some ⟨w.heap.size, 0, none⟩) 2 2)).run Tryz.prog (w.alloc (.cells #[.int .u8 a.toNat, .int .u8 b.toNat] 5)).drew = .ok (.string ⟨#[a, b]⟩) (w.alloc (.cells #[.int .u8 a.toNat, .int .u8 b.toNat] 5)).drew :=
  conv2d _ _ a b (by rw [World.cell?_drew, World.cell?_alloc_new]; rfl) (by rw [World.cell?_drew, World.cell?_alloc_new]; rfl)
set_option maxRecDepth 100000 in
theorem step_append_item {w : World} {ops : Array Oper} {o : Oper} {a : Act} {K : Act → World → Prop} {Q : Exit → Act → World → Prop} {E : Prop} (hgd : o.guard = none) (s x : Operand)
    (ho : o.op = .call { callee := .builtin .append, args := #[s, x], argTypes := #[22, 22] }) (base : Nat) (v : Value) (Y : List It) (y : It) (n : Nat) (hn : Y.length = n) (hs : a.eval s = v) (h : OIt base w v Y) (ad : Addr) (c : Nat)
    (hx : a.eval x = .slice (some ad) 1 c) (hsrc : ∀ j u, (cellsI [y])[j]? = some u → w.cell? (ad.add j) = some u) (hbase : base ≤ w.heap.size) (hl : Y.length ≤ 1000000)
    (hK : ∀ g cap w', OIt base w' (.slice (some ⟨g, 0, none⟩) (n + 1) cap) (Y ++ [y]) → OIt base w' v Y → w.grownBy w' v.ownBlock → K (a.put o.dst (.slice (some ⟨g, 0, none⟩) (n + 1) cap)) w') :
    if Region.wanted o (yielded ops a.tmps) = true then Oper.wp Tryz.prog o a w K Q else E := by
  have hw : Region.wanted o (yielded ops a.tmps) = true := by simp [Region.wanted, hgd]
  rw [if_pos hw]
  subst hn
  obtain ⟨i0, hi, hz0, hz1, hz2⟩ := info_parts Tryz.infoItem
  obtain ⟨g, cap, w', hr, h1, h2, h3, h4⟩ := append_keepC (P := Tryz.prog) (m := 1) (cs := 4) (Q := cellsI [y]) 22 o.type 43 i0 _ Tryz.underlying22 hi hz0 hz1 rfl h (some ad) c ⟨ad, rfl, hsrc⟩ cellsI_one (cellsI_len [y]) (by decide) hbase (by rw [hz2]; omega) (by omega)
  unfold Oper.wp execOp
  simp only [ho, resolve, invoke, builtin, Sem.run_bind, Sem.run_pure, Result.andThen_ok, List.map_toArray, List.map_cons, List.map_nil, hs, hx, hr]
  refine hK g cap w' ?_ h2 h3
  unfold OIt
  rw [List.length_append, cellsI_append]
  exact h1
def CHR (w : World) (q : Int) (Y : List It) (j : Nat) (v : Value) (wr : World) : Prop := MY w.heap.size wr v (chL j q) Y ∧ Below w.heap.size w wr
set_option maxHeartbeats 4000000 in
set_option maxRecDepth 100000 in
theorem chain_any (n : Nat) (q : Int) (w : World) (h1 : 1 ≤ n) (hn : n ≤ 61) (hq : -9223372036854775808 ≤ q ∧ q ≤ 9223372036854775807) :
    Calls Tryz.prog 22 #[.int .i64 n, .int .i64 q] w fun e w' => ∃ v Y, e = .returned v ∧ MY w.heap.size w' v (chL n q) Y ∧ Below w.heap.size w w' := by
  have HQ := Lib.hid hq
  clear hq
  go_enter Tryz.func22, Tryz.ntmps22
  go_wp2_with (fail)
  have hst : Hid (CHR w q [⟨[65], 1, none, 0, [], none, 0, []⟩] 1 (.slice (some ⟨w.heap.size, 0, none⟩) 1 1) (w.alloc (.cells #[.string ⟨#[65]⟩, .int .i64 1, .slice none 0 0, .slice none 0 0] 43))) :=
    Lib.hid ⟨⟨rfl, OIt.lit w [⟨[65], 1, none, 0, [], none, 0, []⟩] _ rfl (Nat.le_refl _) (by decide), fun y hy => by
      rw [List.mem_singleton] at hy
      subst hy
      exact ⟨rfl, rfl, rfl, OP.nil _ _⟩⟩, (Below.refl _ w).alloc (Nat.le_refl _) _⟩
  go_loopw [5, 6] (fun v i wr => ∃ (k : Nat) (Y : List It) (g c' : Nat), k + 1 ≤ n ∧ i = .int .i64 ((k + 1 : Nat) : Int) ∧ v = .slice (some ⟨g, 0, none⟩) (k + 1) c' ∧ Hid (CHR w q Y (k + 1) (.slice (some ⟨g, 0, none⟩) (k + 1) c') wr)) (fun _ i _ => n - (intOf i).toNat)
  case atStart => exact ⟨0, _, w.heap.size, 1, h1, rfl, rfl, hst⟩
  case round =>
    obtain ⟨k, Y, g, c', hk, rfl, rfl, HI⟩ := hrel
    clear hst
    by_cases hlt : k + 1 < n
    · have t1 : decide (((k + 1 : Nat) : Int) < (n : Int)) = true := by simp; omega
      obtain ⟨m, hm⟩ : ∃ m, m = k + 1 := ⟨_, rfl⟩
      have hmy := HI.out.1
      rw [← hm] at t1 hlt hmy ⊢
      have hYl : Y.length = m := by rw [hmy.len, chL_len]
      obtain ⟨cp, hcp⟩ : ∃ cp, cp = chC k := ⟨_, rfl⟩
      obtain ⟨-, -, hc9, hgw, hcells⟩ := hmy.own.cells
      have c0 := (hcells k (by omega)).1
      have hyk : (Y.getD k default).code = cp := by
        have h := getD_strip Y k
        rw [hmy.say, chL_at (by omega)] at h
        rw [hcp]
        exact (congrArg It.code h).symm
      rw [hyk] at c0
      unfold encStr at c0
      obtain ⟨d, hd⟩ : ∃ d, d = m / 26 := ⟨_, rfl⟩
      obtain ⟨r, hr⟩ : ∃ r, r = m % 26 := ⟨_, rfl⟩
      obtain ⟨a, ha⟩ : ∃ a, a = UInt8.ofNat (65 + d) := ⟨_, rfl⟩
      obtain ⟨b, hb⟩ : ∃ b, b = UInt8.ofNat (65 + r) := ⟨_, rfl⟩
      have hd2 : d ≤ 2 := by omega
      have hr2 : r < 26 := by omega
      have na : (a.toNat : Int) = 65 + (d : Int) := by rw [ha, UInt8.toNat_ofNat']; omega
      have nb : (b.toNat : Int) = 65 + (r : Int) := by rw [hb, UInt8.toNat_ofNat']; omega
      have f1 : IntKind.i64.wrap ((m : Int) / 26) = (d : Int) := by
        have e : (m : Int) / 26 = (d : Int) := by rw [hd]; rfl
        rw [e, wrap_in (by omega) (by omega)]
      have f2 : (m : Int).tmod 26 = (r : Int) := by rw [hr]; rfl
      have f3 : IntKind.i64.wrap (65 + (d : Int)) = (a.toNat : Int) := by rw [na, wrap_in (by omega) (by omega)]
      have f4 : IntKind.i64.wrap (65 + (r : Int)) = (b.toNat : Int) := by rw [nb, wrap_in (by omega) (by omega)]
      have f5 : IntKind.u8.wrap (a.toNat : Int) = (a.toNat : Int) := by unfold IntKind.wrap; simp [IntKind.bits, IntKind.signed]; omega
      have f6 : IntKind.u8.wrap (b.toNat : Int) = (b.toNat : Int) := by unfold IntKind.wrap; simp [IntKind.bits, IntKind.signed]; omega
      have f7 : IntKind.i64.wrap ((m : Int) - 1) = (k : Int) := by rw [wrap_in (by omega) (by omega)]; omega
      have f8 : IntKind.i64.wrap ((m : Int) + 1) = ((m + 1 : Nat) : Int) := by rw [wrap_in (by omega) (by omega)]; omega
      have u1 := conv2e wr a b
      have u2 := fun x => conv2e (wr.alloc x) a b
      have u3 := fun x => conv2e (wr.alloc x).drew a b
      simp only [World.size_alloc, World.size_drew] at u1 u2 u3
      have u5 := fun x => conv2d ((wr.alloc (.cells #[.int .u8 a.toNat, .int .u8 b.toNat] 5)).alloc x).drew wr.heap.size a b
        ((((Below.refl _ (wr.alloc (.cells #[.int .u8 a.toNat, .int .u8 b.toNat] 5))).alloc (Nat.le_refl _) x).cell (p := ⟨wr.heap.size, 0, none⟩) (by show wr.heap.size < _; rw [World.size_alloc]; omega)).trans (by rw [World.cell?_alloc_new]; rfl))
        ((((Below.refl _ (wr.alloc (.cells #[.int .u8 a.toNat, .int .u8 b.toNat] 5))).alloc (Nat.le_refl _) x).cell (p := ⟨wr.heap.size, 1, none⟩) (by show wr.heap.size < _; rw [World.size_alloc]; omega)).trans (by rw [World.cell?_alloc_new]; rfl))
      have hkm : k < m := by omega
      have hm62 : m < 62 := by omega
      have HM := Lib.hid hm
      have HCP := Lib.hid hcp
      have HA := Lib.hid ha
      have HB := Lib.hid hb
      have HD := Lib.hid hd
      have HR := Lib.hid hr
      have HY := Lib.hid hmy
      have HNA := Lib.hid na
      have HNB := Lib.hid nb
      have HYL := Lib.hid hYl
      clear hk hm hcp ha hb hd hr hmy hcells na nb hYl
      have u4 : (⟨#[65]⟩ : ByteArray) ++ ⟨#[a, b]⟩ = ⟨#[65, a, b]⟩ := rfl
      obtain ⟨yp, hyp⟩ : ∃ yp : Nat → It, yp = fun p => ⟨[65, a, b], 0, some ⟨p, 0, none⟩, 1, [(cp, q)], none, 0, []⟩ := ⟨_, rfl⟩
      have HC := Lib.hid (fun x y z => (by
        show ((((wr.alloc x).alloc y).alloc z).cell? ⟨g, k * 4, none⟩) = some (.string ⟨cp.toArray⟩)
        exact ((((Below.refl wr.heap.size wr).alloc (Nat.le_refl _) x).alloc (by rw [World.size_alloc]; omega) y).alloc (by rw [World.size_alloc, World.size_alloc]; omega) z).cell hgw |>.trans c0 : (((wr.alloc x).alloc y).alloc z).drew.cell? ⟨g, k * 4, none⟩ = some (.string ⟨cp.toArray⟩)))
      have hB3 : ∀ x y z, Below wr.heap.size wr (((wr.alloc x).alloc y).alloc z).drew := fun x y z => ((((Below.refl wr.heap.size wr).alloc (Nat.le_refl _) x).alloc (by rw [World.size_alloc]; omega) y).alloc (by rw [World.size_alloc, World.size_alloc]; omega) z).drew
      have HO := Lib.hid (fun x y z => HY.out.own.below (hB3 x y z))
      have H1 := Lib.hid (fun p x y => (by
        intro j u hu
        have h := one_item ((wr.alloc x).alloc y) (yp p) 43 j u hu
        rw [World.size_alloc, World.size_alloc, hyp] at h
        exact h : ∀ j u, (cellsI [yp p])[j]? = some u → (((wr.alloc x).alloc y).alloc (.cells #[.string ⟨#[65, a, b]⟩, .int .i64 0, .slice (some ⟨p, 0, none⟩) 1 1, .slice none 0 0] 43)).drew.cell? ((⟨wr.heap.size + 1 + 1, 0, none⟩ : Addr).add j) = some u))
      have hst : ∀ p, strip (yp p) = chI q m := fun p => by
        have e : chI q m = ⟨chC m, 0, none, 0, [(chC (m - 1), q)], none, 0, []⟩ := by
          unfold chI
          rw [if_neg (show m ≠ 0 by omega), if_neg (show m ≠ 0 by omega)]
        rw [e, hyp, HCP.out, show m - 1 = k by have := HM.out; omega]
        unfold strip chC
        rw [if_neg (show m ≠ 0 by omega), HA.out, HB.out, HD.out, HR.out]
      have hend : ∀ p x y z w4 g4 c4, OP wr.heap.size (((wr.alloc x).alloc y).alloc z).drew (.slice (some ⟨p, 0, none⟩) 1 1) [(cp, q)] → OIt w.heap.size w4 (.slice (some ⟨g4, 0, none⟩) (m + 1) c4) (Y ++ [yp p]) → (((wr.alloc x).alloc y).alloc z).drew.grownBy w4 (Value.slice (some ⟨g, 0, none⟩) m c').ownBlock → CHR w q (Y ++ [yp p]) (m + 1) (.slice (some ⟨g4, 0, none⟩) (m + 1) c4) w4 := fun p x y z w4 g4 c4 hop ho hg => by
        have hm := HY.out.below (hB3 x y z)
        have hmi : MI w.heap.size (((wr.alloc x).alloc y).alloc z).drew (yp p) := by
          rw [hyp]
          exact ⟨rfl, rfl, rfl, hop.mono HI.out.2.size⟩
        have h := hm.push hmi ho hg
        rw [hst, ← chL_succ] at h
        exact ⟨h, (HI.out.2.trans ((hB3 x y z).mono HI.out.2.size)).grown hg (Nat.le_trans HI.out.2.size (hB3 x y z).size) (fun b e => (hm.own.ge b e).1)⟩
      have hlit := fun x => OP.lit (base := wr.heap.size) (wr.alloc x) [(cp, q)] _ rfl (by rw [World.size_alloc]; omega) (show 1 ≤ 1000 by decide)
      have hlit2 := OP.lit (base := wr.heap.size) wr [(cp, q)] _ rfl (Nat.le_refl _) (show 1 ≤ 1000 by decide)
      have E1 := Lib.hid (fun x z w4 g4 c4 => hend (wr.heap.size + 1) x (.cells #[.string ⟨cp.toArray⟩, .int .i64 q] 45) z w4 g4 c4 (by
        have h := (hlit x).below (((Below.refl _ ((wr.alloc x).alloc (.cells (cellsP [(cp, q)]).toArray 45))).alloc (Nat.le_refl _) z).drew)
        rw [World.size_alloc] at h
        exact h))
      have E2 := Lib.hid (fun y z w4 g4 c4 => hend wr.heap.size (.cells #[.string ⟨cp.toArray⟩, .int .i64 q] 45) y z w4 g4 c4 (by
        exact hlit2.below ((((Below.refl _ (wr.alloc (.cells (cellsP [(cp, q)]).toArray 45))).alloc (Nat.le_refl _) y).alloc (by rw [World.size_alloc (w := World.alloc _ _)]; omega) z).drew)))
      have HSZ := Lib.hid HI.out.2.size
      have HCL := Lib.hid (fun W (h : OIt w.heap.size W (.slice (some ⟨g, 0, none⟩) m c') Y) => (by
        obtain ⟨-, -, -, -, hcells⟩ := h.cells
        have c0 := (hcells k (by omega)).1
        rw [hyk] at c0
        exact c0 : W.cell? ⟨g, k * 4, none⟩ = some (.string ⟨cp.toArray⟩)))
      clear hst hend hlit hlit2 hB3 hyp hyk
      go_wp2_with (fail)
      go_region_law (first | (refine step_append_item rfl _ _ rfl w.heap.size (.slice (some ⟨g, 0, none⟩) m c') Y (yp (wr.heap.size + 1)) m HYL.out rfl (HO.out _ _ _) _ 1 rfl (H1.out (wr.heap.size + 1) _ _) (by have := HSZ.out; simp; omega) (by rw [HYL.out]; omega) ?_; intro g4 c4 w4 ho4 hk4 hg4; have c0 := HCL.out w4 hk4; have HE := Lib.hid (E1.out _ _ w4 g4 c4 ho4 hg4); clear ho4 hk4 hg4) | (refine step_append_item rfl _ _ rfl w.heap.size (.slice (some ⟨g, 0, none⟩) m c') Y (yp wr.heap.size) m HYL.out rfl (HO.out _ _ _) _ 1 rfl (H1.out wr.heap.size _ _) (by have := HSZ.out; simp; omega) (by rw [HYL.out]; omega) ?_; intro g4 c4 w4 ho4 hk4 hg4; have c0 := HCL.out w4 hk4; have HE := Lib.hid (E2.out _ _ w4 g4 c4 ho4 hg4); clear ho4 hk4 hg4))
      all_goals (
        clear c0 u1 u2 u3 u5
        go_wp2_with (fail)
        go_roundw
        case rel => exact ⟨m, _, g4, c4, by omega, by go_num, by go_num, HE⟩
        case measure => simp [intOf]; omega)
    · have t1 : decide (((k + 1 : Nat) : Int) < (n : Int)) = false := by simp; omega
      have hjn : k + 1 = n := by omega
      clear hk hlt
      go_wp2_with (fail)
      go_ret
      obtain ⟨h1, h2⟩ := HI.out
      rw [hjn] at h1
      exact ⟨_, Y, rfl, by rw [hjn]; exact h1, h2⟩
end Go.Proofs.YthlmnoggeggpkaaGreat
