/- The walk of PageKeeps. -/
import Derived.Test.YtbinikbgbgggaaaDoorErase
import Derived.Deep.DeepCutAuto
import Derived.Deep.CutBlock
namespace Go.Proofs.YtbinikbgbgggaaaDoor
open Go.RowKit Go.Shelf

set_option maxHeartbeats 8000000 in
set_option maxRecDepth 100000 in
theorem PageKeeps_any (la : Option Addr) (ln0 lc : Nat) (D : Nat → DoV) (w : World) (hl : DosAt w.heap.size w la ln0 lc D) (hD : ∀ i, i < ln0 → DoOk (D i)) :
    Calls Tryd.prog 5 #[.slice la ln0 lc] w fun e w' => e = .returned (.bool true) ∧ Below w.heap.size w w' := by
  obtain ⟨ln, hlnm⟩ : ∃ ln, ln = min ln0 100 := ⟨_, rfl⟩
  have hln : ln ≤ 100 := by omega
  have hln0 : ln ≤ ln0 := by omega
  have Hlnm := Lib.hid hlnm
  have hlmx := hl.mx
  have hlle0 := hl.le
  have hlle : ln ≤ lc := by omega
  have Hl0 := Lib.hid hl
  have Hl := Lib.hid (hl.cut ln hln0)
  have HD : Hid (∀ i, i < ln → DoOk (D i)) := Lib.hid (fun i hi => hD i (by omega))
  clear hl hD hlnm
  go_enter Tryd.func5, Tryd.ntmps5
  go_wp2_with (fail)
  go_at_call 6
  refine (awake_any _).mono ?_
  rintro e w1 ⟨rfl, hb1⟩
  have Hb1 := Lib.hid hb1
  clear hb1
  go_upto_if 18 with (fail)
  go_cut [0] (fun s0 wx => s0 = .slice la ln lc ∧ w1 = wx)
  case first =>
    by_cases hA : 100 < ln0
    · obtain rfl : ln = 100 := by have := Hlnm.out; omega
      obtain ⟨b, o, rfl, -, -⟩ := Hl0.out.at_ (by omega)
      have hA' : (100 : Int) < (ln0 : Int) := by omega
      have hA2 : (100 : Int) ≤ (lc : Int) := by omega
      have hA3 : decide ((100 : Int) < (ln0 : Int)) = true := decide_eq_true hA'
      go_wp2_with (fail)
      go_meet
      case rel => exact ⟨rfl, rfl⟩
    · obtain rfl : ln = ln0 := by have := Hlnm.out; omega
      have hA' : ¬ (100 : Int) < (ln : Int) := by omega
      go_wp2_with (fail)
      go_meet
      case rel => exact ⟨rfl, rfl⟩
  case rest =>
  obtain ⟨rfl, rfl⟩ := hcut
  clear Hl0 hlle0
  go_wp2_with (fail)
  go_at_call 7
  refine (New_any _).mono ?_
  rintro e w2 ⟨rfl, hpg2, hb2⟩
  rw [new_mk] at hpg2
  have Hk : Hid (KeepAt w w2 w1.heap.size (.slice none 0 0) z10 [] []) := Lib.hid ⟨hpg2, new_page, Hb1.out.trans (hb2.mono Hb1.out.size), Hb1.out.size, OQ.nil _ _⟩
  clear hpg2 hb2 Hb1
  obtain ⟨g, hg⟩ : ∃ g, g = w1.heap.size := ⟨_, rfl⟩
  rw [← hg] at Hk ⊢
  clear hg
  go_wp2_with (fail)
  go_loopw [4, 5, 6, 7] (fun rv ls nx i wr => ∃ (j : Nat) (h : List UInt8) (R L : List Rw), j ≤ ln ∧ i = .int .i64 j ∧ ls = .int .i64 (lsN h : Nat) ∧ nx = .int .i64 (nxN h : Nat) ∧ Hid (L.Perm R) ∧ Hid (KeepAt w wr g rv h R L)) (fun _ _ _ i _ => ln - (intOf i).toNat)
  case atStart => exact ⟨0, z10, [], [], Nat.zero_le _, rfl, by rw [show lsN z10 = 0 by decide +kernel]; rfl, by rw [show nxN z10 = 0 by decide +kernel]; rfl, Lib.hid List.Perm.nil, Hk⟩
  case round =>
    obtain ⟨j, h, R, L, hj, rfl, rfl, rfl, Pm, Hk⟩ := hrel
    obtain ⟨ra, rc, rfl, hrows⟩ := Hk.out.oq.or.rows
    have hrl := hrows.le
    have hrm := hrows.mx
    clear hrows
    by_cases hlt : j < ln
    · obtain ⟨b, o, rfl, hbB, hat⟩ := Hl.out.at_ (by omega)
      have Hat := Lib.hid ((hat j hlt).below Hk.out.bl hbB)
      obtain ⟨p0, p1, p2, p3, p4, p5, p6, pk, po, pn⟩ := Hat.out
      have hkm := pk.lm
      have hom := po.lm
      have hnm := pn.lm
      have Pk := Lib.hid (hat j hlt).rk
      have Po := Lib.hid (hat j hlt).ro
      have Pn := Lib.hid (hat j hlt).rn
      clear hat pk po pn Hat
      obtain ⟨z, hz⟩ : ∃ z, z = wr.heap.size := ⟨_, rfl⟩
      have hx0 : X7 (wr.alloc (.cells #[.int .i64 (D j).op, .int .i64 (D j).next, .int .i64 (D j).lsn, .slice (D j).ka (D j).kn (D j).kc, .slice (D j).oa (D j).on (D j).oc, .slice (D j).na (D j).nn (D j).nc, .bool (D j).take] 32)) z (D j) := by rw [hz]; exact heap_alloc_new wr _
      have Hx0 := Lib.hid hx0
      have Hb0 := Lib.hid (((Below.refl _ wr).alloc (Nat.le_refl _) (.cells #[.int .i64 (D j).op, .int .i64 (D j).next, .int .i64 (D j).lsn, .slice (D j).ka (D j).kn (D j).kc, .slice (D j).oa (D j).on (D j).oc, .slice (D j).na (D j).nn (D j).nc, .bool (D j).take] 32)))
      have Hz := Lib.hid hz
      clear hx0 hz
      go_wp2_with (fail)
      refine (long_any _ _ _ _ _ _ _ _ _ _ _ _ _ _ hkm hom hnm).mono ?_
      rintro e w3 ⟨rfl, hb3⟩
      rw [← Hz.out]
      have Hx3 := Lib.hid (Hx0.out.below hb3 Hx0.out.lt)
      have Hb3 := Lib.hid (Hb0.out.trans (hb3.mono (by simp)))
      have Hz3 := Lib.hid Hx3.out.lt
      clear hb3 Hx0 Hb0 p0 p1 p2 p3 p4 p5 p6
      obtain ⟨p0, p1, p2, p3, p4, p5, p6⟩ := Hx3.out.cells
      obtain ⟨d, hd⟩ : ∃ d, d = D j := ⟨_, rfl⟩
      rw [← hd] at Pk Po Pn Hx3 p0 p1 p2 p3 p4 p5 p6 hkm hom hnm ⊢
      have Hok : Hid (DoOk d) := Lib.hid (by rw [hd]; exact HD.out j hlt)
      clear hd
      have K3 := Lib.hid (Hk.out.below Hb3.out)
      cases hlg : longB d.kn d.on d.nn with
      | true =>
        go_wp2_with (fail)
        go_ret
        exact ⟨rfl, K3.out.bl⟩
      | false =>
        go_wp2_with (fail)
        refine (Pick_any _ _ Hok.out.o0 Hok.out.o1).mono ?_
        rintro e w' ⟨rfl, rfl⟩
        obtain ⟨pk, hpk⟩ : ∃ pk, pk = pickL d.op := ⟨_, rfl⟩
        rw [← hpk]
        clear hpk
        by_cases h0 : pk = 0
        · subst h0
          by_cases hs : 0 ≤ d.lsn
          · have HS := Lib.hid (K3.out.setLsn_yes d.lsn Hok.out.l1 hs)
            go_wp2_with (fail)
            refine HS.out.mono ?_
            rintro e w4 ⟨rfl, hm4, h', k4, e5, e6⟩
            have q2 := (Hx3.out.mod hm4 (by have := K3.out.pg.lt; have := Hk.out.pg.lt; have := Hz.out; omega)).cells.2.2.1
            have K4 := Lib.hid k4
            rw [← e5] at q2
            rw [← e6]
            clear hm4 k4 e5 e6 p0 p1 p2 p3 p4 p5 p6
            have lslt := lsN_lt K4.out.ok
            have nxlt := nxN_lt K4.out.ok
            have ne1 : ((lsN h' : Int) != (lsN h' : Int)) = false := by simp
            have ne2 : ((nxN h' : Int) != (nxN h' : Int)) = false := by simp
            go_wp2_with (fail)
            refine (K4.out.holds Pm.out).mono ?_
            rintro e wt1 ⟨rfl, bt1⟩
            have Kt1 := Lib.hid (K4.out.below bt1)
            clear bt1
            go_wp2_with (fail)
            refine Kt1.out.lsn.mono ?_
            rintro e wt2 ⟨rfl, bt2⟩
            have Kt2 := Lib.hid (Kt1.out.below bt2)
            clear bt2
            go_wp2_with (fail)
            refine Kt2.out.next.mono ?_
            rintro e wt3 ⟨rfl, bt3⟩
            have Kt3 := Lib.hid (Kt2.out.below bt3)
            clear bt3
            go_wp2_with (fail)
            go_roundw
            case rel => exact ⟨j + 1, h', R, L, by omega, by go_num, rfl, rfl, Pm, Kt3⟩
            case measure => simp [intOf]; omega
          · have HS := Lib.hid (K3.out.setLsn_no d.lsn Hok.out.l1 hs)
            go_wp2_with (fail)
            refine HS.out.mono ?_
            rintro e w4 ⟨rfl, hm4, k4⟩
            have K4 := Lib.hid k4
            clear hm4 k4 p0 p1 p2 p3 p4 p5 p6
            have lslt := lsN_lt K4.out.ok
            have nxlt := nxN_lt K4.out.ok
            have ne1 : ((lsN h : Int) != (lsN h : Int)) = false := by simp
            have ne2 : ((nxN h : Int) != (nxN h : Int)) = false := by simp
            go_wp2_with (fail)
            refine (K4.out.holds Pm.out).mono ?_
            rintro e wt1 ⟨rfl, bt1⟩
            have Kt1 := Lib.hid (K4.out.below bt1)
            clear bt1
            go_wp2_with (fail)
            refine Kt1.out.lsn.mono ?_
            rintro e wt2 ⟨rfl, bt2⟩
            have Kt2 := Lib.hid (Kt1.out.below bt2)
            clear bt2
            go_wp2_with (fail)
            refine Kt2.out.next.mono ?_
            rintro e wt3 ⟨rfl, bt3⟩
            have Kt3 := Lib.hid (Kt2.out.below bt3)
            clear bt3
            go_wp2_with (fail)
            go_roundw
            case rel => exact ⟨j + 1, h, R, L, by omega, by go_num, rfl, rfl, Pm, Kt3⟩
            case measure => simp [intOf]; omega
        by_cases h1 : pk = 1
        · subst h1
          by_cases hs : 0 ≤ d.next ∧ d.next < 8192
          · have HS := Lib.hid (K3.out.setNext_yes d.next hs)
            clear hs
            go_wp2_with (fail)
            refine HS.out.mono ?_
            rintro e w4 ⟨rfl, hm4, h', k4, e5, e6⟩
            have q2 := (Hx3.out.mod hm4 (by have := K3.out.pg.lt; have := Hk.out.pg.lt; have := Hz.out; omega)).cells.2.1
            have K4 := Lib.hid k4
            rw [← e6] at q2
            rw [← e5]
            clear hm4 k4 e5 e6 p0 p1 p2 p3 p4 p5 p6
            have lslt := lsN_lt K4.out.ok
            have nxlt := nxN_lt K4.out.ok
            have ne1 : ((lsN h' : Int) != (lsN h' : Int)) = false := by simp
            have ne2 : ((nxN h' : Int) != (nxN h' : Int)) = false := by simp
            go_wp2_with (fail)
            refine (K4.out.holds Pm.out).mono ?_
            rintro e wt1 ⟨rfl, bt1⟩
            have Kt1 := Lib.hid (K4.out.below bt1)
            clear bt1
            go_wp2_with (fail)
            refine Kt1.out.lsn.mono ?_
            rintro e wt2 ⟨rfl, bt2⟩
            have Kt2 := Lib.hid (Kt1.out.below bt2)
            clear bt2
            go_wp2_with (fail)
            refine Kt2.out.next.mono ?_
            rintro e wt3 ⟨rfl, bt3⟩
            have Kt3 := Lib.hid (Kt2.out.below bt3)
            clear bt3
            go_wp2_with (fail)
            go_roundw
            case rel => exact ⟨j + 1, h', R, L, by omega, by go_num, rfl, rfl, Pm, Kt3⟩
            case measure => simp [intOf]; omega
          · have HS := Lib.hid (K3.out.setNext_no d.next hs)
            clear hs
            go_wp2_with (fail)
            refine HS.out.mono ?_
            rintro e w4 ⟨rfl, hm4, k4⟩
            have K4 := Lib.hid k4
            clear hm4 k4 p0 p1 p2 p3 p4 p5 p6
            have lslt := lsN_lt K4.out.ok
            have nxlt := nxN_lt K4.out.ok
            have ne1 : ((lsN h : Int) != (lsN h : Int)) = false := by simp
            have ne2 : ((nxN h : Int) != (nxN h : Int)) = false := by simp
            go_wp2_with (fail)
            refine (K4.out.holds Pm.out).mono ?_
            rintro e wt1 ⟨rfl, bt1⟩
            have Kt1 := Lib.hid (K4.out.below bt1)
            clear bt1
            go_wp2_with (fail)
            refine Kt1.out.lsn.mono ?_
            rintro e wt2 ⟨rfl, bt2⟩
            have Kt2 := Lib.hid (Kt1.out.below bt2)
            clear bt2
            go_wp2_with (fail)
            refine Kt2.out.next.mono ?_
            rintro e wt3 ⟨rfl, bt3⟩
            have Kt3 := Lib.hid (Kt2.out.below bt3)
            clear bt3
            go_wp2_with (fail)
            go_roundw
            case rel => exact ⟨j + 1, h, R, L, by omega, by go_num, rfl, rfl, Pm, Kt3⟩
            case measure => simp [intOf]; omega
        have h0' : (pk == 0) = false := by simpa using h0
        have h1' : (pk == 1) = false := by simpa using h1
        clear h0 h1
        -- THE TURN
        obtain ⟨zt, hzt⟩ : ∃ zt, zt = w3.heap.size := ⟨_, rfl⟩
        have ht0 := T3.new w3 (.slice d.ka d.kn d.kc) (.slice d.oa d.on d.oc) (.slice d.na d.nn d.nc)
        rw [← hzt] at ht0
        have hb0 : Below w3.heap.size w3 (w3.alloc (.cells #[.slice d.ka d.kn d.kc, .slice d.oa d.on d.oc, .slice d.na d.nn d.nc] 30)) := (Below.refl _ w3).alloc (Nat.le_refl _) _
        have hx0 := Hx3.out.below hb0 Hz3.out
        have q0 := hx0.cells
        have Ht0 := Lib.hid ht0
        have Hb0 := Lib.hid hb0
        have Hx0 := Lib.hid hx0
        have Hzt := Lib.hid hzt
        clear ht0 hb0 hx0 hzt
        obtain ⟨q0, q1, q2, q3, q4, q5, q6⟩ := q0
        obtain ⟨t0, t1, t2⟩ := Ht0.out.cells
        obtain ⟨fz0, fz1, fz2⟩ := Ht0.out.frozen
        have K0 := Lib.hid (K3.out.below Hb0.out)
        have hbw : ∀ {a n c l}, RB w.heap.size w a n c l → RB w.heap.size (w3.alloc (.cells #[.slice d.ka d.kn d.kc, .slice d.oa d.on d.oc, .slice d.na d.nn d.nc] 30)) a n c l := fun hr => hr.below K0.out.bl
        have HF : Hid (Calls Tryd.prog 19 #[.slice ra L.length rc, .slice d.ka d.kn d.kc] (w3.alloc (.cells #[.slice d.ka d.kn d.kc, .slice d.oa d.on d.oc, .slice d.na d.nn d.nc] 30)) fun e w' => e = .returned (.int .i64 (fint (fidx L d.K))) ∧ ∃ q, w' = (w3.alloc (.cells #[.slice d.ka d.kn d.kc, .slice d.oa d.on d.oc, .slice d.na d.nn d.nc] 30)).drewN q) := Lib.hid (by
          obtain ⟨a', c', e', hr'⟩ := K0.out.oq.or.rows
          cases e'
          exact lawfind_any _ _ _ _ _ _ _ L d.K _ hr' ((hbw Pk.out).mono K0.out.bl.size))
        have Hbw : Hid (RBn g w3.heap.size w3 d.ka d.kn d.kc d.K ∧ RBn g w3.heap.size w3 d.oa d.on d.oc d.O ∧ RBn g w3.heap.size w3 d.na d.nn d.nc d.N) :=
          Lib.hid ⟨(RBn.of_rb (Pk.out.below K3.out.bl) K3.out.gw).mono K3.out.bl.size, (RBn.of_rb (Po.out.below K3.out.bl) K3.out.gw).mono K3.out.bl.size, (RBn.of_rb (Pn.out.below K3.out.bl) K3.out.gw).mono K3.out.bl.size⟩
        clear hbw
        go_wp2_with (fail)
        rw [← Hzt.out]
        refine HF.out.mono ?_
        rintro e w4 ⟨rfl, q, rfl⟩
        go_upto_if 44 with (fail)
        go_cut [10] (fun s10 wc => s10 = .int .i64 (fint (fidx L d.K)) ∧ ∃ oa on oc O, Hid (Below w3.heap.size w3 wc) ∧ Hid (T3 wc zt (.slice d.ka d.kn d.kc) (.slice oa on oc) (.slice d.na d.nn d.nc)) ∧ Hid (RBn g wc.heap.size wc oa on oc O) ∧ on ≤ 140737488355328)
        case first =>
          have Hbd := Lib.hid (below_dn Hb0.out q)
          have T0 := Lib.hid (Ht0.out.drewN q)
          have hzw : zt < (w3.alloc (.cells #[.slice d.ka d.kn d.kc, .slice d.oa d.on d.oc, .slice d.na d.nn d.nc] 30)).heap.size := Ht0.out.lt
          have Hzw := Lib.hid hzw
          clear hzw
          cases htk : d.take with
          | false =>
            go_wp2_with (fail)
            go_meet
            case rel => exact ⟨rfl, d.oa, d.on, d.oc, d.O, Hbd, T0, Lib.hid ((Hbw.out.2.1.below Hb0.out).mono Hb0.out.size |>.below (below_dn (Below.refl _ _) q)), hom⟩
          | true =>
            cases hfi : fidx L d.K with
            | none =>
              have hfv : fint none = -1 := rfl
              have hge : ¬ (0 : Int) ≤ -1 := by omega
              go_wp2_with (fail)
              go_meet
              case rel => exact ⟨by simp only [hfi, hfv], none, 0, 0, [], Lib.hid (Hbd.out.setCell (p := ⟨zt, 1, none⟩) (by show w3.heap.size ≤ zt; rw [Hzt.out]; exact Nat.le_refl _) _), Lib.hid (T0.out.set1 _), Lib.hid ⟨RB.emp _, fun h => by omega⟩, by omega⟩
            | some i =>
              obtain ⟨u, hLi, hil⟩ := fidx_some hfi
              obtain ⟨gb, gc, va, vn, vc, e', hgb1, hgb2, hcell, hrv, hfar⟩ := K3.out.oq.get hLi
              cases e'
              have hfv : fint (some i) = (i : Int) := rfl
              have hvm := hrv.lm
              have Hrv := Lib.hid hrv
              have Hfar := Lib.hid hfar
              have i2 : (0 : Int) ≤ (i : Int) := by omega
              have i3 : (i : Int) < (L.length : Int) := by omega
              have hne : zt ≠ gb := by have := Hzt.out; omega
              have hne' : gb ≠ zt := fun e => hne e.symm
              have hcell2 : (w3.alloc (.cells #[.slice d.ka d.kn d.kc, .slice d.oa d.on d.oc, .slice d.na d.nn d.nc] 30)).cell? ⟨gb, i * 2 + 1, none⟩ = some (.slice va vn vc) := (Hb0.out.cell (p := ⟨gb, i * 2 + 1, none⟩) hgb1).trans hcell
              have Hb5 := Lib.hid ((Hbd.out.setCell (p := ⟨zt, 1, none⟩) (by show w3.heap.size ≤ zt; rw [Hzt.out]; exact Nat.le_refl _) (.slice none 0 0)).setCell (p := ⟨zt, 1, none⟩) (by show w3.heap.size ≤ zt; rw [Hzt.out]; exact Nat.le_refl _) (.slice va vn vc))
              clear hrv hfar hLi hcell
              go_wp2_with (fail)
              go_meet
              case rel => exact ⟨by simp only [hfi, hfv], va, vn, vc, u, Hb5, Lib.hid ((T0.out.set1 _).set1 _), Lib.hid ((RBn.of_far (Hrv.out.below Hb5.out) Hfar.out).mono Hb5.out.size), hvm⟩
        case rest =>
          obtain ⟨rfl, oa, on, oc, O, Hb5, T5, Ho5, hom5⟩ := hcut
          have K5 := Lib.hid (K3.out.below Hb5.out)
          have X5 := Lib.hid (Hx3.out.below Hb5.out Hz3.out)
          have Hbw5 : Hid (RBn g wc.heap.size wc d.ka d.kn d.kc d.K ∧ RBn g wc.heap.size wc d.na d.nn d.nc d.N) := Lib.hid ⟨(Hbw.out.1.below Hb5.out).mono Hb5.out.size, (Hbw.out.2.2.below Hb5.out).mono Hb5.out.size⟩
          clear HF Hbw K0 Hb0 Ht0 Hx0 p0 p1 p2 p3 p4 p5 p6 q0 q1 q2 q3 q4 q5 q6 t0 t1 t2 fz0 fz1 fz2
          have hgwc : g < wc.heap.size := K5.out.pg.lt
          go_wp2_with (fail)
          refine (CopyBytes_any wc.heap.size _ _ _ (mkP h R) wc K5.out.pg.rb (Nat.le_refl _)).mono ?_
          rintro e w6 ⟨⟨wv, rfl, ow⟩, b6⟩
          obtain ⟨wa, wcp, rfl, hrw⟩ := ow.rb (by rw [mkP_len K5.out.ok]; omega)
          obtain ⟨gw, gc, gX, hge, hgb, -⟩ := ow.pg (mkP_len K5.out.ok)
          rw [mkP_len K5.out.ok] at hrw hge ⊢
          have Hrw : Hid (RBn g w6.heap.size w6 wa 512 wcp (mkP h R)) := Lib.hid ⟨hrw, fun _ b o s e => by cases hge; cases e; omega⟩
          have K6 := Lib.hid (K5.out.below b6)
          have T6 := Lib.hid (T5.out.below b6 T5.out.lt)
          have Hbw6 : Hid (RBn g w6.heap.size w6 d.ka d.kn d.kc d.K ∧ RBn g w6.heap.size w6 d.na d.nn d.nc d.N ∧ RBn g w6.heap.size w6 oa on oc O) := Lib.hid ⟨(Hbw5.out.1.below b6).mono b6.size, (Hbw5.out.2.below b6).mono b6.size, (Ho5.out.below b6).mono b6.size⟩
          have hs6 := b6.size
          have hzt6 : zt < w6.heap.size := T6.out.lt
          have htg : zt ≠ g := by have := K3.out.pg.lt; have := Hzt.out; omega
          have Hwa : Hid (∀ b o s, wa = some ⟨b, o, s⟩ → w3.heap.size ≤ b) := Lib.hid (fun b o s e => by have := Hb5.out.size; cases hge; cases e; omega)
          clear ow hrw hge b6 hgb
          obtain ⟨t0, t1, t2⟩ := T6.out.cells
          obtain ⟨rr, hrr⟩ : ∃ rr, rr = (turnL (mkP h R) d.K O d.N).1 := ⟨_, rfl⟩
          have HT := K6.out.turn d.ka oa d.na d.kn d.kc on oc d.nn d.nc d.K O d.N Hbw6.out.1 Hbw6.out.2.2 Hbw6.out.2.1
          rw [← hrr] at HT
          have Hrr := Lib.hid hrr
          have HTh := Lib.hid HT
          clear hrr HT
          by_cases hr0 : rr = 0
          · have Hok2 := Lib.hid (turn_ok K6.out.ok Pm.out d.K O d.N (by rw [← Hrr.out]; exact hr0))
            subst hr0
            go_wp2_with (fail)
            refine HTh.out.mono ?_
            rintro e w7 ⟨rfl, hp7, hm7⟩
            rw [Hok2.out.1] at hp7
            have K7 := Lib.hid (K6.out.mod hm7 hp7 Hok2.out.2.1)
            have T7 := Lib.hid (T6.out.mod hm7 htg)
            have hmx : ∀ {a n c l}, RBn g w6.heap.size w6 a n c l → RBn g w7.heap.size w7 a n c l := fun hr => (hr.mod hm7 (Nat.le_refl _)).mono hm7.size
            have Hbw7 : Hid (RBn g w7.heap.size w7 d.ka d.kn d.kc d.K ∧ RBn g w7.heap.size w7 d.na d.nn d.nc d.N ∧ RBn g w7.heap.size w7 oa on oc O ∧ RBn g w7.heap.size w7 wa 512 wcp (mkP h R)) := Lib.hid ⟨hmx Hbw6.out.1, hmx Hbw6.out.2.1, hmx Hbw6.out.2.2, hmx Hrw.out⟩
            clear hmx hm7 hp7 t0 t1 t2 HTh
            obtain ⟨t0, t1, t2⟩ := T7.out.cells
            go_upto_region 26 with (fail)
            go_cut [10, 86] (fun s10 s86 wx => s10 = .int .i64 (fint (fidx L d.K)) ∧ s86 = .bool false ∧ ∃ q, wx = w7.drewN q)
            case first =>
              rcases Hok2.out.2.2.2.2 with ⟨ho, hfi⟩ | ⟨ho, i, hfi, hLi, hil⟩
              · have hfv : fint (fidx L d.K) = -1 := by rw [hfi]; rfl
                obtain rfl : on = 0 := by have := Ho5.out.rb.len; rw [ho] at this; exact this
                have i1 : decide ((0 : Int) ≤ -1) = false := by decide
                have i2 : decide ((0 : Int) < 0) = false := by decide
                clear ho hfi
                go_quiet (fail)
                go_wp2_with (fail)
                go_meet
                case rel => exact ⟨by simp only [hfv], rfl, nq, rfl⟩
              · have hfv : fint (fidx L d.K) = (i : Int) := by rw [hfi]; rfl
                have hon : (0 : Int) < (on : Int) := by
                  have h1 := Ho5.out.rb.len
                  have h2 := List.length_pos_iff.2 ho
                  omega
                obtain ⟨gb, gc, va, vn, vc, e', hgb1, hgb2, hcell, hrv, hfar⟩ := K7.out.oq.get hLi
                cases e'
                have i2 : (0 : Int) ≤ (i : Int) := by omega
                have i3 : (i : Int) < (L.length : Int) := by omega
                have i4 : decide ((0 : Int) ≤ (i : Int)) = true := by simp
                have i5 : decide (0 < on) = true := decide_eq_true (by omega)
                have HSB : Hid (∀ n, Calls Tryd.prog 20 #[.slice va vn vc, .slice oa on oc] (w7.drewN n) fun e w'' => e = .returned (.bool true) ∧ ∃ m, w'' = w7.drewN m) := Lib.hid (fun n => by
                  have := SameBytes_any w7.heap.size _ _ _ _ _ _ _ _ (w7.drewN n) (hrv.drewN n) (Hbw7.out.2.2.1.rb.drewN n)
                  rw [eqB_self] at this
                  exact Calls.quiet_of this)
                clear ho hfi hLi hrv hfar
                go_quiet (((go_at_call 20; with_reducible exact HSB.out _)))
                go_wp2_with (fail)
                go_meet
                case rel => exact ⟨by simp only [hfv], rfl, nq, rfl⟩
            case rest =>
              obtain ⟨rfl, rfl, q7, rfl⟩ := hcut
              have K7' := Lib.hid (K7.out.below (below_dn (Below.refl _ w7) q7))
              go_upto_if 88 with (fail)
              go_cut [4, 10] (fun s4 s10 wx => s10 = .int .i64 (fint (fidx L d.K)) ∧ ∃ a' c', s4 = .slice a' (cutL L d.K).length c' ∧ Hid (OQ (g + 1) wx (.slice a' (cutL L d.K).length c') (cutL L d.K)) ∧ Hid (Below w7.heap.size w7 wx) ∧ Hid (∀ r, (Value.slice a' (cutL L d.K).length c').ownBlock = some r → (r < w3.heap.size ∧ O = []) ∨ w7.heap.size ≤ r))
              case first =>
                rcases Hok2.out.2.2.2.2 with ⟨ho, hfi⟩ | ⟨ho, i, hfi, hLi, hil⟩
                · have hfv : fint (fidx L d.K) = -1 := by rw [hfi]; rfl
                  have hge : ¬ (0 : Int) ≤ -1 := by omega
                  have hcutL : cutL L d.K = L := by unfold cutL; rw [hfi]
                  have HcutL := Lib.hid hcutL
                  have Hoo := Lib.hid ho
                  have Hown := Lib.hid K3.out.oq.or.own
                  clear ho hfi hcutL
                  go_wp2_with (fail)
                  go_meet
                  case rel =>
                    rw [HcutL.out]
                    exact ⟨by simp only [hfv], _, _, rfl, Lib.hid K7'.out.oq, Lib.hid (below_dn (Below.refl _ w7) q7), Lib.hid (fun r hr => .inl ⟨Hown.out r hr, Hoo.out⟩)⟩
                · have hfv : fint (fidx L d.K) = (i : Int) := by rw [hfi]; rfl
                  have hge : (0 : Int) ≤ (i : Int) := by omega
                  have hcutL : cutL L d.K = L.take i ++ L.drop (i + 1) := by unfold cutL; rw [hfi]
                  have HcutL := Lib.hid hcutL
                  have hll := perm_len Pm.out K6.out.ok
                  obtain ⟨gb, gc, cs, e', -, -, -, -, -, -, -⟩ := K7'.out.oq.cells (by omega)
                  cases e'
                  clear ho hfi hcutL hLi
                  go_upto_region 29 with (fail)
                  refine erase_region (base := g + 1) (gb := gb) (i := i) (rc := rc) (L := L) rfl (by first | rfl | (simp only [hfv]; rfl)) (by simp) K7'.out.oq hil hll K7'.out.pg.lt hrl hrm (fun _ _ _ _ _ h => h) ?_
                  intro v0 v1 v2 v3 v4 v5 v6 v7 v8 a2 c2 w2' hq2 hb2 ho2
                  have Hq2 := Lib.hid hq2
                  have Hb2' := Lib.hid hb2
                  have Ho2 := Lib.hid ho2
                  clear hq2 hb2 ho2
                  simp only [Act.put, List.setIfInBounds_toArray, List.set_cons_zero, List.set_cons_succ]
                  go_wp2_with (fail)
                  go_meet
                  case rel =>
                    rw [HcutL.out]
                    exact ⟨by simp only [hfv], a2, c2, rfl, Hq2, Lib.hid ((below_dn (Below.refl _ w7) q7).trans Hb2'.out), Lib.hid (fun r hr => .inr (Ho2.out r hr))⟩
              case rest =>
                obtain ⟨rfl, a8, c8, rfl, Q8, B8, Ho8⟩ := hcut
                have K8 := Lib.hid (K7.out.cow B8.out Q8.out)
                have T8 := Lib.hid (T7.out.below B8.out T7.out.lt)
                have Hbw8 : Hid (RB w7.heap.size wc d.ka d.kn d.kc d.K ∧ RB w7.heap.size wc d.na d.nn d.nc d.N ∧ RB w7.heap.size wc oa on oc O ∧ RB w7.heap.size wc wa 512 wcp (mkP h R)) := Lib.hid ⟨(Hbw7.out.1.below B8.out).rb, (Hbw7.out.2.1.below B8.out).rb, (Hbw7.out.2.2.1.below B8.out).rb, (Hbw7.out.2.2.2.below B8.out).rb⟩
                clear t0 t1 t2
                obtain ⟨t0, t1, t2⟩ := T8.out.cells
                rename World => w8
                go_upto_if 102 with (fail)
                go_cut [4] (fun s4 wx => ∃ a' c', s4 = .slice a' (rowsTo L d.K d.N).length c' ∧ Hid (KeepAt w wx g (.slice a' (rowsTo L d.K d.N).length c') h (put R d.K d.N) (rowsTo L d.K d.N)) ∧ Hid (T3 wx zt (.slice d.ka d.kn d.kc) (.slice oa on oc) (.slice d.na d.nn d.nc)) ∧
                  Hid (RB w7.heap.size wx d.ka d.kn d.kc d.K ∧ RB w7.heap.size wx d.na d.nn d.nc d.N ∧ RB w7.heap.size wx oa on oc O ∧ RB w7.heap.size wx wa 512 wcp (mkP h R)) ∧ Hid (w7.heap.size ≤ wx.heap.size))
                case first =>
                  by_cases hN : d.nn = 0
                  · have hN0 : d.N = [] := List.eq_nil_of_length_eq_zero (by rw [← Hbw8.out.2.1.len]; exact hN)
                    have hrt : rowsTo L d.K d.N = cutL L d.K := by rw [rowsTo_cut, hN0]; unfold sel; simp
                    have Hrt := Lib.hid hrt
                    have hnI : ¬ (0 : Int) < (d.nn : Int) := by omega
                    clear hN0 hrt hN
                    go_wp2_with (fail)
                    go_meet
                    case rel =>
                      rw [Hrt.out]
                      exact ⟨_, _, rfl, K8, T8, Hbw8, Lib.hid B8.out.size⟩
                  · have hN0 : d.N ≠ [] := by intro e; have := Hbw8.out.2.1.len; rw [e] at this; exact hN this
                    have hrt : rowsTo L d.K d.N = cutL L d.K ++ [(d.K, d.N)] := by rw [rowsTo_cut]; unfold sel; rw [if_neg hN0]
                    have Hrt := Lib.hid hrt
                    have hnI : (0 : Int) < (d.nn : Int) := by omega
                    have Hcl : Hid ((cutL L d.K).length ≤ 256) := Lib.hid (by
                      have h1 := perm_len Hok2.out.2.2.1 Hok2.out.2.1
                      rw [hrt, List.length_append] at h1
                      omega)
                    have Hs8 := Lib.hid B8.out.size
                    clear hN0 hrt hN
                    go_wp2_with (fail)
                    refine (CopyRow_any w7.heap.size _ _ _ _ _ _ d.K d.N w8 Hs8.out Hbw8.out.1 Hbw8.out.2.1).mono ?_
                    rintro e w9 ⟨⟨a0, c0, a1, c1, rfl, o0, o1⟩, b9⟩
                    have Ho0 := Lib.hid o0
                    have Ho1 := Lib.hid o1
                    have Hb9 := Lib.hid b9
                    clear o0 o1 b9
                    have hsz9 := Hb9.out.size
                    have hk140 : d.K.length ≤ 140737488355328 := by rw [← Hbw8.out.1.len]; exact hkm
                    have hn140 : d.N.length ≤ 140737488355328 := by rw [← Hbw8.out.2.1.len]; exact hnm
                    have Hg8 : Hid (∀ r, (Value.slice a8 (cutL L d.K).length c8).ownBlock = some r → g + 1 ≤ r ∧ r < w8.heap.size) := Lib.hid (fun r e => ⟨(K8.out.oq.or.own_ge r e).1, (K8.out.oq.or.own_ge r e).2.1⟩)
                    have hb10 : Below w8.heap.size w8 (w9.alloc (.cells #[.slice a0 d.kn c0, .slice a1 d.nn c1] 25)) := Hb9.out.alloc (Hb9.out.size) _
                    have hone := rows_one (W1 := w9.alloc (.cells #[.slice a0 d.kn c0, .slice a1 d.nn c1] 25)) Ho0.out Ho1.out hk140 hn140 (fun b e => (Hg8.out b e).2) ((Below.refl _ w9).alloc (Nat.le_refl _) _)
                    have Hone := Lib.hid hone
                    have Hb10 := Lib.hid hb10
                    have K10 := Lib.hid (K8.out.below hb10)
                    have Hfar1 : Hid (∀ u ∈ [Value.slice a0 d.kn c0, Value.slice a1 d.nn c1], Far (g + 1) u) := Lib.hid (fun u hu b o s n c e hc => by
                      have := Hone.out.2 u hu b o s n c e hc
                      have := K8.out.pg.lt
                      omega)
                    clear hone hb10 hk140 hn140
                    go_wp2_with (at_builtin; refine wpList_append_rows rfl _ _ rfl (g + 1) _ (cutL L d.K) [(d.K, d.N)] rfl K10.out.oq (some ⟨w9.heap.size, 0, none⟩) 1 [.slice a0 d.kn c0, .slice a1 d.nn c1] rfl (fun _ => ⟨_, rfl, World.news_of_block (heap_alloc_new _ _)⟩) Hone.out.1 Hfar1.out K10.out.pg.lt (by have := Hcl.out; simp; omega) ?_; intro a' c' w11 hq11 hg11)
                    have hno : ∀ b, (b < g + 1 ∨ (w3.heap.size ≤ b ∧ b < w7.heap.size)) → some b ≠ (Value.slice a8 (cutL L d.K).length c8).ownBlock := fun b hb e => by
                      have h1 := (Hg8.out b e.symm).1
                      rcases Ho8.out b e.symm with ⟨h2, -⟩ | h2 <;> omega
                    have Hno := Lib.hid hno
                    have Hq11 := Lib.hid hq11
                    have Hg11 := Lib.hid hg11
                    clear hno hq11 hg11
                    go_meet
                    case rel =>
                      have hN10 : w7.heap.size ≤ (w9.alloc (.cells #[.slice a0 d.kn c0, .slice a1 d.nn c1] 25)).heap.size := Nat.le_trans Hs8.out Hb10.out.size
                      have hgw := K3.out.gw
                      have hb8 := Hb10.out.mono Hs8.out
                      have hlow : ∀ {a n c l}, RB w.heap.size w a n c l → 0 < n → ∀ b o s, a = some ⟨b, o, s⟩ → some b ≠ (Value.slice a8 (cutL L d.K).length c8).ownBlock := fun hr hn b o s e => by
                        have := hr.le
                        obtain ⟨b', o', e', hb', -⟩ := hr.at_ (by omega)
                        rw [e] at e'; cases e'
                        exact Hno.out b (.inl (by omega))
                      rw [Hrt.out]
                      refine ⟨a', c', by simp, Lib.hid (K10.out.grow Hg11.out Hq11.out), Lib.hid ((T8.out.below Hb10.out T8.out.lt).grow Hg11.out (Hno.out zt (.inr ⟨Nat.le_of_eq Hzt.out.symm, T7.out.lt⟩))), Lib.hid ⟨?_, ?_, ?_, ?_⟩, Lib.hid (Nat.le_trans hN10 Hg11.out.size)⟩
                      · exact (Hbw8.out.1.below hb8).grow Hg11.out hN10 (hlow Pk.out)
                      · exact (Hbw8.out.2.1.below hb8).grow Hg11.out hN10 (hlow Pn.out)
                      · refine (Hbw8.out.2.2.1.below hb8).grow Hg11.out hN10 (fun hn b o s e h2 => ?_)
                        rcases Ho8.out b h2.symm with ⟨-, h3⟩ | h3
                        · have := Hbw8.out.2.2.1.len; rw [h3] at this; simp at this; omega
                        · have h4 := Hbw8.out.2.2.1.le
                          obtain ⟨b', o', e', hb', -⟩ := Hbw8.out.2.2.1.at_ (by omega)
                          rw [e] at e'; cases e'; omega
                      · refine (Hbw8.out.2.2.2.below hb8).grow Hg11.out hN10 (fun hn b o s e => Hno.out b (.inr ⟨Hwa.out b o s e, ?_⟩))
                        have h4 := Hbw8.out.2.2.2.le
                        obtain ⟨b', o', e', hb', -⟩ := Hbw8.out.2.2.2.at_ (by omega)
                        rw [e] at e'; cases e'; exact hb'
                case rest =>
                  obtain ⟨a9, c9, rfl, K9, T9, Hbw9, Hs9⟩ := hcut
                  rename World => w9
                  have Pm9 : Hid ((rowsTo L d.K d.N).Perm (put R d.K d.N)) := Lib.hid Hok2.out.2.2.1
                  clear t0 t1 t2
                  go_wp2_with (fail)
                  refine (CopyBytes_any w9.heap.size _ _ _ (mkP h (put R d.K d.N)) w9 K9.out.pg.rb (Nat.le_refl _)).mono ?_
                  rintro e w10 ⟨⟨bv, rfl, ob⟩, b10⟩
                  obtain ⟨gb, gc2, X, rfl, hgb2, hpg⟩ := ob.pg (mkP_len K9.out.ok)
                  have T10 := Lib.hid (T9.out.below b10 T9.out.lt)
                  have hs9 := Hs9.out
                  have hw10 : ∀ {a n c l}, RB w7.heap.size w9 a n c l → RBn gb w9.heap.size w10 a n c l := fun hr => RBn.of_rb ((hr.mono hs9).below b10) hgb2
                  have HB : Calls Tryd.prog 9 #[.slice (some ⟨gb, 0, none⟩) 512 gc2, .agg #[.slice d.ka d.kn d.kc, .slice d.na d.nn d.nc, .slice oa on oc]] w10 fun e w' => e = .returned (.int .i64 0) ∧ PG w' gb gc2 (mkP h R) X ∧ Mod gb w10 w' := by
                    have := Turn_any gb gc2 (mkP h (put R d.K d.N)) X w9.heap.size d.ka d.na oa d.kn d.kc d.nn d.nc on oc d.K d.N O w10 hpg (hw10 Hbw9.out.1) (hw10 Hbw9.out.2.1) (hw10 Hbw9.out.2.2.1) b10.size
                    rw [Hok2.out.2.2.2.1] at this
                    exact this.mono (fun e w' ⟨h1, h2, h3⟩ => ⟨h1, h2, h3⟩)
                  have HB' := Lib.hid HB
                  have B10 := Lib.hid b10
                  have Hgb2 := Lib.hid hgb2
                  clear ob hpg hw10 HB b10
                  obtain ⟨t0, t1, t2⟩ := T10.out.cells
                  go_wp2_with (fail)
                  refine HB'.out.mono ?_
                  rintro e w11 ⟨rfl, hp11, hm11⟩
                  have B11 : Hid (Below w9.heap.size w9 w11) := Lib.hid (Below.mod B10.out hm11 Hgb2.out B10.out.size)
                  have HS : Calls Tryd.prog 20 #[.slice (some ⟨gb, 0, none⟩) 512 gc2, .slice wa 512 wcp] w11 fun e w' => e = .returned (.bool true) ∧ ∃ q, w' = w11.drewN q := by
                    have := SameBytes_any w11.heap.size _ _ _ _ _ _ _ _ w11 hp11.rb (((Hbw9.out.2.2.2.mono hs9).below B11.out).mono B11.out.size)
                    rw [eqB_self] at this
                    exact this
                  have HSh := Lib.hid HS
                  clear HS hp11 hm11 HB' t0 t1 t2
                  go_wp2_with (fail)
                  refine HSh.out.mono ?_
                  rintro e w12 ⟨rfl, q12, rfl⟩
                  have K12 := Lib.hid (K9.out.below (below_dn B11.out q12))
                  go_wp2_with (fail)
                  have lslt := lsN_lt K12.out.ok
                  have nxlt := nxN_lt K12.out.ok
                  have ne1 : ((lsN h : Int) != (lsN h : Int)) = false := by simp
                  have ne2 : ((nxN h : Int) != (nxN h : Int)) = false := by simp
                  go_wp2_with (fail)
                  refine (K12.out.holds Pm9.out).mono ?_
                  rintro e wt1 ⟨rfl, bt1⟩
                  have Kt1 := Lib.hid (K12.out.below bt1)
                  clear bt1
                  go_wp2_with (fail)
                  refine Kt1.out.lsn.mono ?_
                  rintro e wt2 ⟨rfl, bt2⟩
                  have Kt2 := Lib.hid (Kt1.out.below bt2)
                  clear bt2
                  go_wp2_with (fail)
                  refine Kt2.out.next.mono ?_
                  rintro e wt3 ⟨rfl, bt3⟩
                  have Kt3 := Lib.hid (Kt2.out.below bt3)
                  clear bt3
                  go_wp2_with (fail)
                  go_roundw
                  case rel => exact ⟨j + 1, h, (put R d.K d.N), (rowsTo L d.K d.N), by omega, by go_num, rfl, rfl, Pm9, Kt3⟩
                  case measure => simp [intOf]; omega
          · have hr0' : ((rr : Int) != 0) = true := by simp; omega
            have hr0n : ¬ (rr : Int) = 0 := by omega
            go_wp2_with (fail)
            refine HTh.out.mono ?_
            rintro e w7 ⟨rfl, hp7, hm7⟩
            rw [turn_no K6.out.ok _ _ _ (by rw [← Hrr.out]; exact hr0)] at hp7
            have K7 := Lib.hid (K6.out.mod hm7 hp7 K6.out.ok)
            have HS : Calls Tryd.prog 20 #[.slice (some ⟨g, 0, none⟩) 512 512, .slice wa 512 wcp] w7 fun e w' => e = .returned (.bool true) ∧ ∃ q, w' = w7.drewN q := by
              have := SameBytes_any w7.heap.size _ _ _ _ _ _ _ _ w7 K7.out.pg.rb ((Hrw.out.mod hm7 (Nat.le_refl _)).rb.mono hm7.size)
              rw [eqB_self] at this
              exact this
            have HSh := Lib.hid HS
            clear HS hp7 hm7 HTh t0 t1 t2
            go_wp2_with (fail)
            refine HSh.out.mono ?_
            rintro e w12 ⟨rfl, q12, rfl⟩
            have K12 := Lib.hid (K7.out.below (below_dn (Below.refl _ w7) q12))
            go_wp2_with (fail)
            have lslt := lsN_lt K12.out.ok
            have nxlt := nxN_lt K12.out.ok
            have ne1 : ((lsN h : Int) != (lsN h : Int)) = false := by simp
            have ne2 : ((nxN h : Int) != (nxN h : Int)) = false := by simp
            go_wp2_with (fail)
            refine (K12.out.holds Pm.out).mono ?_
            rintro e wt1 ⟨rfl, bt1⟩
            have Kt1 := Lib.hid (K12.out.below bt1)
            clear bt1
            go_wp2_with (fail)
            refine Kt1.out.lsn.mono ?_
            rintro e wt2 ⟨rfl, bt2⟩
            have Kt2 := Lib.hid (Kt1.out.below bt2)
            clear bt2
            go_wp2_with (fail)
            refine Kt2.out.next.mono ?_
            rintro e wt3 ⟨rfl, bt3⟩
            have Kt3 := Lib.hid (Kt2.out.below bt3)
            clear bt3
            go_wp2_with (fail)
            go_roundw
            case rel => exact ⟨j + 1, h, R, L, by omega, by go_num, rfl, rfl, Pm, Kt3⟩
            case measure => simp [intOf]; omega
    · go_wp2_with (fail)
      go_ret
      exact ⟨rfl, Hk.out.bl⟩
end Go.Proofs.YtbinikbgbgggaaaDoor
