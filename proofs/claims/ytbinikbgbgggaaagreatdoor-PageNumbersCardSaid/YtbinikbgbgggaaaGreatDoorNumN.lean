/- storemanlaw21.near: its walk. -/
import Derived.Test.YtbinikbgbgggaaaGreatDoorNumC
import Derived.Deep.RegionHeld3
import Derived.Deep.DeepCutAuto
namespace Go.Proofs.YtbinikbgbgggaaaGreatDoor
open Go.RowKit Go.Shelf

def nearP (k v : Nat) : List UInt8 := ((zs 512).set 10 1 |>.set 11 (UInt8.ofNat k)).set 12 (UInt8.ofNat v)
theorem near_right : ∀ a, a < 5 → ∀ b, b < 5 → decide (0 < behindL (nearP (38 + a) (178 + b))) = decide (38 + a ≤ 40 ∧ 38 + a + (178 + b) ≤ 220) := by decide +kernel
/-- The four pages, behind what was done to each. -/
structure NR (w W : World) (a b c d : Nat) (La Lb Lc Ld : List UInt8) : Prop where
  pa : PG W a 512 La []
  pb : PG W b 512 Lb []
  pc : PG W c 512 Lc []
  pd : PG W d 512 Ld []
  bl : Below w.heap.size w W
  na : w.heap.size ≤ a
  nb : w.heap.size ≤ b
  nc : w.heap.size ≤ c
  nd : w.heap.size ≤ d
  ab : a ≠ b
  ac : a ≠ c
  ad : a ≠ d
  bc : b ≠ c
  bd : b ≠ d
  cd : c ≠ d
section
variable {w W W' : World} {a b c d : Nat} {La Lb Lc Ld L' : List UInt8}
theorem NR.below (h : NR w W a b c d La Lb Lc Ld) (hb : Below W.heap.size W W') : NR w W' a b c d La Lb Lc Ld :=
  ⟨h.pa.below hb h.pa.lt, h.pb.below hb h.pb.lt, h.pc.below hb h.pc.lt, h.pd.below hb h.pd.lt, h.bl.trans (hb.mono h.bl.size), h.na, h.nb, h.nc, h.nd, h.ab, h.ac, h.ad, h.bc, h.bd, h.cd⟩
theorem NR.modA (h : NR w W a b c d La Lb Lc Ld) (hm : Mod a W W') (hp : PG W' a 512 L' []) : NR w W' a b c d L' Lb Lc Ld :=
  ⟨hp, h.pb.mod hm (Ne.symm h.ab), h.pc.mod hm (Ne.symm h.ac), h.pd.mod hm (Ne.symm h.ad), Below.mod h.bl hm h.na h.bl.size, h.na, h.nb, h.nc, h.nd, h.ab, h.ac, h.ad, h.bc, h.bd, h.cd⟩
theorem NR.modB (h : NR w W a b c d La Lb Lc Ld) (hm : Mod b W W') (hp : PG W' b 512 L' []) : NR w W' a b c d La L' Lc Ld :=
  ⟨h.pa.mod hm h.ab, hp, h.pc.mod hm (Ne.symm h.bc), h.pd.mod hm (Ne.symm h.bd), Below.mod h.bl hm h.nb h.bl.size, h.na, h.nb, h.nc, h.nd, h.ab, h.ac, h.ad, h.bc, h.bd, h.cd⟩
theorem NR.modC (h : NR w W a b c d La Lb Lc Ld) (hm : Mod c W W') (hp : PG W' c 512 L' []) : NR w W' a b c d La Lb L' Ld :=
  ⟨h.pa.mod hm h.ac, h.pb.mod hm h.bc, hp, h.pd.mod hm (Ne.symm h.cd), Below.mod h.bl hm h.nc h.bl.size, h.na, h.nb, h.nc, h.nd, h.ab, h.ac, h.ad, h.bc, h.bd, h.cd⟩
theorem NR.modD (h : NR w W a b c d La Lb Lc Ld) (hm : Mod d W W') (hp : PG W' d 512 L' []) : NR w W' a b c d La Lb Lc L' :=
  ⟨h.pa.mod hm h.ad, h.pb.mod hm h.bd, h.pc.mod hm h.cd, hp, Below.mod h.bl hm h.nd h.bl.size, h.na, h.nb, h.nc, h.nd, h.ab, h.ac, h.ad, h.bc, h.bd, h.cd⟩
def N5 (W : World) (a b d : Nat) : World := ((((W.setCell ⟨a, 8, none⟩ (.int .u8 32)).setCell ⟨b, 0, none⟩ (.int .u8 128)).setCell ⟨d, 10, none⟩ (.int .u8 1)).setCell ⟨d, 11, none⟩ (.int .u8 1)).setCell ⟨d, 13, none⟩ (.int .u8 107)
theorem NR.n5 {L : List UInt8} (h : NR w W a b c d L L L L) : NR w (N5 W a b d) a b c d (L.set 8 32) (L.set 0 128) L (((L.set 10 1).set 11 1).set 13 107) := by
  have h1 := h.modA ((Mod.refl a W).set a 8 (.int .u8 32)) (h.pa.set 8 32 (by decide))
  have h2 := h1.modB ((Mod.refl b _).set b 0 (.int .u8 128)) (h1.pb.set 0 128 (by decide))
  have h3 := h2.modD ((Mod.refl d _).set d 10 (.int .u8 1)) (h2.pd.set 10 1 (by decide))
  have h4 := h3.modD ((Mod.refl d _).set d 11 (.int .u8 1)) (h3.pd.set 11 1 (by decide))
  exact h4.modD ((Mod.refl d _).set d 13 (.int .u8 107)) (h4.pd.set 13 107 (by decide))
def N3 (W : World) (g : Nat) (k v : Nat) : World := ((W.setCell ⟨g, 10, none⟩ (.int .u8 1)).setCell ⟨g, 11, none⟩ (.int .u8 (k : Int))).setCell ⟨g, 12, none⟩ (.int .u8 (v : Int))
theorem N3_pg {g k v : Nat} {L : List UInt8} (h : PG W g 512 L []) (hk : k < 256) (hv : v < 256) : PG (N3 W g k v) g 512 (((L.set 10 1).set 11 (UInt8.ofNat k)).set 12 (UInt8.ofNat v)) [] := by
  have ek : ((UInt8.ofNat k).toNat : Int) = (k : Int) := by rw [UInt8.toNat_ofNat']; omega
  have ev : ((UInt8.ofNat v).toNat : Int) = (v : Int) := by rw [UInt8.toNat_ofNat']; omega
  have h3 := ((h.set 10 1 (by decide)).set 11 (UInt8.ofNat k) (by decide)).set 12 (UInt8.ofNat v) (by decide)
  rw [ek, ev] at h3
  exact h3
theorem N3_mod (W : World) (g k v : Nat) : Mod g W (N3 W g k v) := (((Mod.refl g W).set g 10 _).set g 11 _).set g 12 _
end
/-- What near asks of its bytes. -/
structure NQ (L0 La Lb Lc Ld : List UInt8) : Prop where
  ea : La = L0.set 8 32
  eb : Lb = L0.set 0 128
  ec : Lc = Go.splice L0 10 [2, 1, 1, 107, 118, 1, 1, 107, 119]
  ed : Ld = ((L0.set 10 1).set 11 1).set 13 107
  ha : decide (0 < behindL La) = false
  hb : decide (0 < behindL Lb) = false
  hc : decide (0 < behindL Lc) = false
  hd : decide (0 < behindL Ld) = false
  hr : ∀ k v : Nat, 38 ≤ k → k < 43 → 178 ≤ v → v < 183 → decide (0 < behindL (((L0.set 10 1).set 11 (UInt8.ofNat k)).set 12 (UInt8.ofNat v))) = decide (k ≤ 40 ∧ k + v ≤ 220)
section
variable {w W W' : World} {a b c d : Nat} {La Lb Lc Ld L : List UInt8}
theorem NR.right (h : NR w W a b c d La Lb Lc Ld) {g : Nat} (hp : PG W g 512 L []) (hf : decide (0 < behindL L) = false) : Calls Tryz.prog 23 #[.slice (some ⟨g, 0, none⟩) 512 512] W fun e W' => e = .returned (.bool false) ∧ NR w W' a b c d La Lb Lc Ld := by
  refine (Right_any W.heap.size (some ⟨g, 0, none⟩) 512 512 L W hp.rb (Nat.le_refl _)).mono ?_
  rintro e W' ⟨rfl, hb⟩
  rw [hf]
  exact ⟨rfl, h.below hb⟩
theorem NR.rightK (h : NR w W a b c d La Lb Lc Ld) {g : Nat} (hp : PG W g 512 L []) {x : Bool} (hf : decide (0 < behindL L) = x) : Calls Tryz.prog 23 #[.slice (some ⟨g, 0, none⟩) 512 512] W fun e W' => e = .returned (.bool x) ∧ NR w W' a b c d La Lb Lc Ld ∧ PG W' g 512 L [] := by
  refine (Right_any W.heap.size (some ⟨g, 0, none⟩) 512 512 L W hp.rb (Nat.le_refl _)).mono ?_
  rintro e W' ⟨rfl, hb⟩
  rw [hf]
  exact ⟨rfl, h.below hb, hp.below hb hp.lt⟩
theorem NR.tells (h : NR w W a b c d La Lb Lc Ld) {g : Nat} (hp : PG W g 512 L []) {ka : Option Addr} {kn kc : Nat} {K : List UInt8} (hk : RB W.heap.size W ka kn kc K) : Calls Tryz.prog 3 #[.slice (some ⟨g, 0, none⟩) 512 512, .slice ka kn kc] W fun e W' => e = .returned (.bool true) ∧ NR w W' a b c d La Lb Lc Ld := by
  refine (PageTells_any (some ⟨g, 0, none⟩) ka 512 512 kn kc L K W hp.rb hk).mono ?_
  rintro e W' ⟨rfl, hb⟩
  exact ⟨rfl, h.below hb⟩
end

/-- Four new pages, in whatever order they were made. -/
def Four (w W : World) (a b c d : Nat) (L : List UInt8) : Prop := PG W a 512 L [] ∧ PG W b 512 L [] ∧ PG W c 512 L [] ∧ PG W d 512 L [] ∧ Below w.heap.size w W ∧ w.heap.size ≤ a ∧ w.heap.size ≤ b ∧ w.heap.size ≤ c ∧ w.heap.size ≤ d ∧ a ≠ b ∧ a ≠ c ∧ a ≠ d ∧ b ≠ c ∧ b ≠ d ∧ c ≠ d

set_option maxHeartbeats 16000000 in
set_option maxRecDepth 100000 in
theorem near_core (w : World) (L0 La Lb Lc Ld : List UInt8) (hQ : NQ L0 La Lb Lc Ld) (b512 : Array Value) (m512 : ∀ W : World, (Instr.makeSlice 22 (.int .i64 512) (.int .i64 512)).run Tryz.prog W = .ok (.slice (some ⟨W.heap.size, 0, none⟩) 512 512) (W.alloc (.cells b512 5))) (r512 : ∀ W : World, PG (W.alloc (.cells b512 5)) W.heap.size 512 L0 []) :
    Calls Tryz.prog 22 #[] w fun e w' => e = .returned (.bool true) ∧ Below w.heap.size w w' := by
  have R := Lib.hid r512
  have Q := Lib.hid hQ
  clear r512 hQ
  obtain ⟨W4, hW4⟩ : ∃ W, W = ((((w.alloc (.cells b512 5)).alloc (.cells b512 5)).alloc (.cells b512 5)).alloc (.cells b512 5)).drew := ⟨_, rfl⟩
  have H4 : Hid (∀ x, w.heap.size ≤ x → x < w.heap.size + 4 → PG W4 x 512 L0 []) := Lib.hid (by
    intro x hx1 hx2
    have p0 := R.out w
    have p1 := R.out (w.alloc (.cells b512 5))
    have p2 := R.out ((w.alloc (.cells b512 5)).alloc (.cells b512 5))
    have p3 := R.out (((w.alloc (.cells b512 5)).alloc (.cells b512 5)).alloc (.cells b512 5))
    have al : ∀ {V : World} {g : Nat}, PG V g 512 L0 [] → PG (V.alloc (.cells b512 5)) g 512 L0 [] := fun h => h.below ((Below.refl _ _).alloc (Nat.le_refl _) _) h.lt
    simp only [World.size_alloc] at p1 p2 p3
    rw [hW4]
    rcases (show x = w.heap.size ∨ x = w.heap.size + 1 ∨ x = w.heap.size + 1 + 1 ∨ x = w.heap.size + 1 + 1 + 1 by omega) with rfl | rfl | rfl | rfl
    · exact (al (al (al p0))).drew
    · exact (al (al p1)).drew
    · exact (al p2).drew
    · exact p3.drew)
  have B4 : Hid (Below w.heap.size w W4) := Lib.hid (by
    rw [hW4]
    exact ((((((Below.refl w.heap.size w).alloc (Nat.le_refl _) _).alloc (by simp) _).alloc (by simp; omega) _).alloc (by simp; omega) _)).drew)
  have HF : Hid (∀ a b c d, w.heap.size ≤ a → w.heap.size ≤ b → w.heap.size ≤ c → w.heap.size ≤ d → a < w.heap.size + 4 → b < w.heap.size + 4 → c < w.heap.size + 4 → d < w.heap.size + 4 → a ≠ b → a ≠ c → a ≠ d → b ≠ c → b ≠ d → c ≠ d → Four w W4 a b c d L0) := Lib.hid fun a b c d ha hb hc hd ha' hb' hc' hd' e1 e2 e3 e4 e5 e6 =>
    ⟨H4.out a ha ha', H4.out b hb hb', H4.out c hc hc', H4.out d hd hd', B4.out, ha, hb, hc, hd, e1, e2, e3, e4, e5, e6⟩
  have HW := Lib.hid hW4
  clear hW4 H4 B4
  go_enter Tryz.func22, Tryz.ntmps22
  go_upto_region 1 with (fail)
  go_cut [1, 2, 3, 4] (fun s1 s2 s3 s4 wx => ∃ a b c d, s1 = .slice (some ⟨a, 0, none⟩) 512 512 ∧ s2 = .slice (some ⟨b, 0, none⟩) 512 512 ∧ s3 = .slice (some ⟨c, 0, none⟩) 512 512 ∧ s4 = .slice (some ⟨d, 0, none⟩) 512 512 ∧ Hid (Four w wx a b c d L0))
  case first =>
    go_region_held3 (fun _ => True) (trivial) (fail)
    all_goals (rw [← HW.out]; go_wp2_with (fail); go_meet; case rel => exact ⟨_, _, _, _, rfl, rfl, rfl, rfl, Lib.hid (HF.out _ _ _ _ (by omega) (by omega) (by omega) (by omega) (by omega) (by omega) (by omega) (by omega) (by omega) (by omega) (by omega) (by omega) (by omega) (by omega))⟩)
  case rest =>
    obtain ⟨a, b, c, d, rfl, rfl, rfl, rfl, h4⟩ := hcut
    rename World => w5
    obtain ⟨pa, pb, pc, pd, hb, na, nb, nc, nd, ab, ac, ad, bc, bd, cd⟩ := h4.out
    have PA := Lib.hid pa
    have PB := Lib.hid pb
    have PC := Lib.hid pc
    have PD := Lib.hid pd
    have HB := Lib.hid hb
    have HW2 := HW
    have ca8 := pa.cell 8 (by decide)
    have fa8 := pa.frozen 8
    have cb0 := pb.cell 0 (by decide)
    have fb0 := pb.frozen 0
    have cd10 := pd.cell 10 (by decide)
    have fd10 := pd.frozen 10
    have cd11 := pd.cell 11 (by decide)
    have fd11 := pd.frozen 11
    have cd13 := pd.cell 13 (by decide)
    have fd13 := pd.frozen 13
    have R5 : Hid (NR w (N5 w5 a b d) a b c d La Lb L0 Ld) := Lib.hid (by
      rw [Q.out.ea, Q.out.eb, Q.out.ed]
      exact NR.n5 ⟨pa, pb, pc, pd, hb, na, nb, nc, nd, ab, ac, ad, bc, bd, cd⟩)
    clear h4 pa pb pc pd hb HF HW HW2 na nb nc nd
    go_upto_region 3 with (fail)
    obtain ⟨W6, hW6⟩ : ∃ W, W = N5 w5 a b d := ⟨_, rfl⟩
    have hW6' := hW6
    unfold N5 at hW6'
    rw [← hW6']
    rw [← hW6] at R5
    clear hW6 hW6' ca8 fa8 cb0 fb0 cd10 fd10 cd11 fd11 cd13 fd13 ab ac ad bc bd cd PA PB PC PD HB
    have hal : Below W6.heap.size W6 (W6.alloc (.cells #[.int .u8 2, .int .u8 1, .int .u8 1, .int .u8 107, .int .u8 118, .int .u8 1, .int .u8 1, .int .u8 107, .int .u8 119] 5)) := (Below.refl _ _).alloc (Nat.le_refl _) _
    have R6 := Lib.hid (R5.out.below hal)
    have lit : RB (W6.alloc (.cells #[.int .u8 2, .int .u8 1, .int .u8 1, .int .u8 107, .int .u8 118, .int .u8 1, .int .u8 1, .int .u8 107, .int .u8 119] 5)).heap.size (W6.alloc (.cells #[.int .u8 2, .int .u8 1, .int .u8 1, .int .u8 107, .int .u8 118, .int .u8 1, .int .u8 1, .int .u8 107, .int .u8 119] 5)) (some ⟨W6.heap.size, 0, none⟩) 9 9 [2, 1, 1, 107, 118, 1, 1, 107, 119] := lit_rb W6 [2, 1, 1, 107, 118, 1, 1, 107, 119] (0, 0) (by decide)
    have LIT := Lib.hid lit
    clear hal lit
    go_wp2_with (refine wpList_copy_pg rfl _ _ rfl c 512 L0 [] R6.out.pc _ _ _ _ _ _ 10 [2, 1, 1, 107, 118, 1, 1, 107, 119] rfl rfl (by decide) LIT.out.src (fun _ => rfl) (by decide) ?_; intro w7 hp7 hm7 hs7; have H7 := Lib.hid (And.intro hp7 hm7); clear hp7 hm7 hs7)
    have S7 : Hid (NR w w7 a b c d La Lb Lc Ld) := Lib.hid (by
      have h := R6.out.modC H7.out.2 H7.out.1
      rw [← Q.out.ec] at h
      exact h)
    clear H7 R6 LIT R5
    go_at_call 23
    refine (S7.out.right S7.out.pa Q.out.ha).mono ?_
    rintro e w8 ⟨rfl, h8⟩
    have S8 := Lib.hid h8
    clear h8 S7
    go_wp2_with (fail)
    go_at_call 23
    refine (S8.out.right S8.out.pb Q.out.hb).mono ?_
    rintro e w9 ⟨rfl, h9⟩
    have S9 := Lib.hid h9
    clear h9 S8
    go_wp2_with (fail)
    go_at_call 23
    refine (S9.out.right S9.out.pc Q.out.hc).mono ?_
    rintro e w10 ⟨rfl, h10⟩
    have S10 := Lib.hid h10
    clear h10 S9
    go_wp2_with (fail)
    go_at_call 23
    refine (S10.out.right S10.out.pd Q.out.hd).mono ?_
    rintro e w11 ⟨rfl, h11⟩
    have S11 := Lib.hid h11
    clear h11 S10
    go_wp2_with (fail)
    go_loopw [5] (fun s5 wr => ∃ k : Nat, s5 = .int .i64 k ∧ 38 ≤ k ∧ k ≤ 43 ∧ Hid (NR w wr a b c d La Lb Lc Ld)) (fun s5 _ => 43 - (intOf s5).toNat)
    case atStart => exact ⟨38, rfl, by omega, by omega, S11⟩
    case round =>
      obtain ⟨k, rfl, hk1, hk2, S⟩ := hrel
      obtain ⟨w12, rfl⟩ : ∃ z, z = wr := ⟨_, rfl⟩
      by_cases hkn : k < 43
      · have k1 : decide ((k : Int) < 43) = true := by simp; omega
        have f1 : IntKind.i64.wrap ((k : Int) + 1) = ((k + 1 : Nat) : Int) := by rw [wrap_in (by omega) (by omega)]; omega
        have f2 : IntKind.u8.wrap (k : Int) = (k : Int) := by rw [IntKind.wrap_u8]; omega
        have f3 : IntKind.i64.wrap (13 + (k : Int)) = ((13 + k : Nat) : Int) := by rw [wrap_in (by omega) (by omega)]; omega
        go_wp2_with (fail)
        go_loopw [6] (fun s6 wr => ∃ v : Nat, s6 = .int .i64 v ∧ 178 ≤ v ∧ v ≤ 183 ∧ Hid (NR w wr a b c d La Lb Lc Ld)) (fun s6 _ => 183 - (intOf s6).toNat)
        case atStart => exact ⟨178, rfl, by omega, by omega, S⟩
        case round =>
          obtain ⟨v, rfl, hv1, hv2, S2⟩ := hrel
          obtain ⟨w13, rfl⟩ : ∃ z, z = wr := ⟨_, rfl⟩
          by_cases hvn : v < 183
          · have v1 : decide ((v : Int) < 183) = true := by simp; omega
            have v2 : IntKind.i64.wrap ((v : Int) + 1) = ((v + 1 : Nat) : Int) := by rw [wrap_in (by omega) (by omega)]; omega
            have v3 : IntKind.u8.wrap (v : Int) = (v : Int) := by rw [IntKind.wrap_u8]; omega
            have v4 : IntKind.i64.wrap ((k : Int) + (v : Int)) = ((k + v : Nat) : Int) := by rw [wrap_in (by omega) (by omega)]; omega
            obtain ⟨g3, hg3⟩ : ∃ z, z = w13.heap.size := ⟨_, rfl⟩
            obtain ⟨W0, hW0⟩ : ∃ W, W = w13.alloc (.cells b512 5) := ⟨_, rfl⟩
            have p0 := R.out w13
            have hbd0 : Below w13.heap.size w13 W0 := by rw [hW0]; exact (Below.refl _ w13).alloc (Nat.le_refl _) _
            rw [← hW0, ← hg3] at p0
            have P0 := Lib.hid p0
            have D0 := Lib.hid hbd0
            clear p0 hbd0
            go_upto_region 13 with (fail)
            rw [← hg3, ← hW0]
            have G3 := Lib.hid hg3
            clear hW0 hg3
            have c10 := P0.out.cell 10 (by decide)
            have c11 := P0.out.cell 11 (by decide)
            have c12 := P0.out.cell 12 (by decide)
            have e10 := P0.out.frozen 10
            have e11 := P0.out.frozen 11
            have e12 := P0.out.frozen 12
            go_upto_region 14 with (fail)
            obtain ⟨W3, hW3⟩ : ∃ W, W = N3 W0 g3 k v := ⟨_, rfl⟩
            have hW3' := hW3
            unfold N3 at hW3'
            rw [← hW3']
            have P3 : Hid (PG W3 g3 512 (((L0.set 10 1).set 11 (UInt8.ofNat k)).set 12 (UInt8.ofNat v)) []) := Lib.hid (by rw [hW3]; exact N3_pg P0.out (by omega) (by omega))
            have M3 : Hid (Mod g3 W0 W3) := Lib.hid (by rw [hW3]; exact N3_mod W0 g3 k v)
            have hb3 : Below w13.heap.size w13 W3 := Below.mod D0.out M3.out (by rw [G3.out]; exact Nat.le_refl _) D0.out.size
            have T3 := Lib.hid (S2.out.below hb3)
            clear hW3 hW3' c10 c11 c12 e10 e11 e12 hb3 M3 D0 P0 f2 v3
            have HR := Lib.hid (T3.out.rightK P3.out (Q.out.hr k v (by omega) hkn (by omega) hvn))
            go_wp2_with (fail)
            go_at_call 23
            refine HR.out.mono ?_
            rintro e w14 ⟨rfl, h14, hp14⟩
            have T4 := Lib.hid h14
            have P4 := Lib.hid hp14
            have HT := Lib.hid (h14.tells hp14 (hp14.rb.sub 13 k (by omega)))
            clear h14 hp14 T3 P3 HR
            by_cases hk40 : k ≤ 40
            · have g1 : decide ((k : Int) ≤ 40) = true := by simp; omega
              by_cases hkv : k + v ≤ 220
              · have g2 : decide (((k + v : Nat) : Int) ≤ 220) = true := by simp; omega
                have g3' : decide (k ≤ 40 ∧ k + v ≤ 220) = true := by simp; omega
                go_wp2_with (go_at_call 3; refine HT.out.mono ?_; rintro e w15 ⟨rfl, h15⟩; have T5 := Lib.hid h15; clear h15)
                go_roundw
                case rel => exact ⟨v + 1, rfl, by omega, by omega, T5⟩
                case measure => simp only [intOf]; omega
              · have g2 : decide (((k + v : Nat) : Int) ≤ 220) = false := by simp; omega
                have g3' : decide (k ≤ 40 ∧ k + v ≤ 220) = false := by simp; omega
                go_wp2_with (go_at_call 3; refine HT.out.mono ?_; rintro e w15 ⟨rfl, h15⟩; have T5 := Lib.hid h15; clear h15)
                go_roundw
                case rel => exact ⟨v + 1, rfl, by omega, by omega, T5⟩
                case measure => simp only [intOf]; omega
            · have g1 : decide ((k : Int) ≤ 40) = false := by simp; omega
              have g3' : decide (k ≤ 40 ∧ k + v ≤ 220) = false := by simp; omega
              go_wp2_with (go_at_call 3; refine HT.out.mono ?_; rintro e w15 ⟨rfl, h15⟩; have T5 := Lib.hid h15; clear h15)
              go_roundw
              case rel => exact ⟨v + 1, rfl, by omega, by omega, T5⟩
              case measure => simp only [intOf]; omega
          · have v1 : decide ((v : Int) < 183) = false := by simp; omega
            go_wp2_with (fail)
            go_roundw
            case rel => exact ⟨k + 1, rfl, by omega, by omega, S2⟩
            case measure => simp only [intOf]; omega
      · have k1 : decide ((k : Int) < 43) = false := by simp; omega
        have HT1 := Lib.hid (S.out.tells S.out.pa (RB.emp none))
        go_wp2_with (fail)
        go_at_call 3
        refine HT1.out.mono ?_
        rintro e w13 ⟨rfl, h13⟩
        have S13 := Lib.hid h13
        clear h13 HT1 S
        have HT2 := Lib.hid (S13.out.tells S13.out.pb (RB.emp none))
        go_wp2_with (fail)
        go_at_call 3
        refine HT2.out.mono ?_
        rintro e w14 ⟨rfl, h14⟩
        have S14 := Lib.hid h14
        clear h14 HT2 S13
        have kc := fun (w : World) (C : Array Value) (n c : Nat) => Lib.run_convert_bytes_const (P := Tryz.prog) w 22 5 C n c Tryz.underlying22 Tryz.underlying5
        have b14 : Below w14.heap.size w14 (w14.alloc (.cells #[.int .u8 107] 5 (1, 2))) := (Below.refl _ w14).alloc (Nat.le_refl _) _
        have l14 : RB (w14.alloc (.cells #[.int .u8 107] 5 (1, 2))).heap.size (w14.alloc (.cells #[.int .u8 107] 5 (1, 2))) (some ⟨w14.heap.size, 0, none⟩) 1 1 [107] := lit_rb w14 [107] (1, 2) (by simp)
        have S14b := S14.out.below b14
        have HT3 := Lib.hid (S14b.tells S14b.pc l14)
        clear b14 l14 S14b
        go_wp2_with (fail)
        go_at_call 3
        refine HT3.out.mono ?_
        rintro e w15 ⟨rfl, h15⟩
        have S15 := Lib.hid h15
        clear h15 HT3 S14
        have b15 : Below w15.heap.size w15 (w15.alloc (.cells #[.int .u8 107] 5 (1, 2))) := (Below.refl _ w15).alloc (Nat.le_refl _) _
        have l15 : RB (w15.alloc (.cells #[.int .u8 107] 5 (1, 2))).heap.size (w15.alloc (.cells #[.int .u8 107] 5 (1, 2))) (some ⟨w15.heap.size, 0, none⟩) 1 1 [107] := lit_rb w15 [107] (1, 2) (by simp)
        have S15b := S15.out.below b15
        have HT4 := Lib.hid (S15b.tells S15b.pd l15)
        clear b15 l15 S15b
        go_wp2_with (fail)
        go_at_call 3
        refine HT4.out.mono ?_
        rintro e w16 ⟨rfl, h16⟩
        have S16 := Lib.hid h16
        clear h16 HT4 S15
        go_wp2_with (fail)
        go_ret
        exact ⟨rfl, S16.out.bl⟩
theorem nq : NQ (zs 512) ((zs 512).set 8 32) ((zs 512).set 0 128) (Go.splice (zs 512) 10 [2, 1, 1, 107, 118, 1, 1, 107, 119]) ((((zs 512).set 10 1).set 11 1).set 13 107) :=
  ⟨rfl, rfl, rfl, rfl, by decide +kernel, by decide +kernel, by decide +kernel, by decide +kernel, fun k v h1 h2 h3 h4 => by
    have h := near_right (k - 38) (by omega) (v - 178) (by omega)
    rw [show 38 + (k - 38) = k by omega, show 178 + (v - 178) = v by omega] at h
    exact h⟩
theorem near_any (w : World) : Calls Tryz.prog 22 #[] w fun e w' => e = .returned (.bool true) ∧ Below w.heap.size w w' :=
  near_core w (zs 512) _ _ _ _ nq (zb 512) (makeZ 512 (by decide)) zpg
end Go.Proofs.YtbinikbgbgggaaaGreatDoor
