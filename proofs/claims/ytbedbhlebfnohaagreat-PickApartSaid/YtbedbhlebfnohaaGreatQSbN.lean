/- slices.SortStableFunc at int: slices.symMergeCmpFunc. (Printed by gen/sorts.py.) slices.SortStableFunc at int: its contract. (Printed by gen/sorts.py.) -/
import Derived.Test.YtbedbhlebfnohaaGreatQSmNB
import Derived.Test.YtbedbhlebfnohaaGreatQSmNC
import Derived.Test.YtbedbhlebfnohaaGreatQStab
import Derived.Test.YtbedbhlebfnohaaGreatJShelf
namespace Go.Proofs.YtbedbhlebfnohaaGreat
open Go.Proofs Go.Shelf Go.RowKit Go.Lib Go.Sort

section
variable {P : Program} {α : Type} [Inhabited α]
theorem symMergeN (L : StN P) (enc : α → Value) (cf : α → α → Int) (T : α → α → Bool) (hT : SWO T) (g : Nat) (cb : Array Value) (blk off cap sz : Nat) (d0 : Array α) (w0 : World)
    (eg : ∀ args w, (callFunc g args).run P w = .ok (.enter g args) w) (hcmp : CmpLays1 P g cb enc cf blk off d0.size w0) (R : Row1 enc w0 blk off d0) (h0 : d0.size = sz) (hsz : sz < 4611686018427387904) :
    ∀ (N a m b : Nat) (d : Array α) (w : World), b ≤ N + a → d.size = sz → SW enc w0 blk off d w → a < m → m < b → b ≤ sz → SM (ltOf cf) T a m b d →
    Calls P 201 #[.slice (some ⟨blk, off, none⟩) sz cap, .int .i64 a, .int .i64 m, .int .i64 b, .func (.func g) #[] cb] w fun e w' => e = .returned (.tuple #[]) ∧ ∃ d', d'.size = sz ∧ SW enc w0 blk off d' w' ∧ PermIn a b d d' ∧ SortedIn T a b d'
  | 0, a, m, b, d, w, hN, hs, S, ham, hmb, hb, hSM => by omega
  | N + 1, a, m, b, d, w, hN, hs, S, ham, hmb, hb, hSM => by
    by_cases h1 : m = a + 1
    · exact symMergeNA L enc cf T hT g cb blk off cap sz d0 w0 eg hcmp R h0 hsz a m b d w hs S ham hmb hb hSM h1
    · by_cases h2 : b = m + 1
      · exact symMergeNB L enc cf T hT g cb blk off cap sz d0 w0 eg hcmp R h0 hsz a m b d w hs S ham hmb hb hSM (by omega) h2
      · exact symMergeNC L enc cf T hT g cb blk off cap sz d0 w0 eg hcmp R h0 hsz a m b d w hs S ham hmb hb hSM (by omega) (by omega) N hN (symMergeN L enc cf T hT g cb blk off cap sz d0 w0 eg hcmp R h0 hsz N)
end
end Go.Proofs.YtbedbhlebfnohaaGreat
namespace Go.Proofs.YtbedbhlebfnohaaGreat
open Go.Proofs Go.Shelf Go.RowKit Go.Lib Go.Sort

theorem stN_laid : StN Tryz.prog where
  mixed := by kernel_rfl
  late := by kernel_rfl
  unsure := by kernel_rfl
  fSwap := Tryz.func206
  fRot := Tryz.func204
  fSym := Tryz.func201
  t0 := Tryz.underlying0
  a0 := Tryz.isAgg0
  z0 := Tryz.sizeOf0
  v0 := Tryz.zeroValue0
  t3 := Tryz.underlying3
  a3 := Tryz.isAgg3
  z3 := Tryz.sizeOf3
  v3 := Tryz.zeroValue3
  t4 := Tryz.underlying4
  a4 := Tryz.isAgg4
  z4 := Tryz.sizeOf4
  v4 := Tryz.zeroValue4
  t22 := Tryz.underlying173
  a22 := Tryz.isAgg173
  z22 := Tryz.sizeOf173
  v22 := Tryz.zeroValue173
  a25 := Tryz.isAgg158
  z25 := Tryz.sizeOf158
  v25 := Tryz.zeroValue158
  t35 := Tryz.underlying249
  a35 := Tryz.isAgg249
  z35 := Tryz.sizeOf249
  v35 := Tryz.zeroValue249
section
variable {α : Type} [Inhabited α]
theorem insN_w (enc : α → Value) (cf : α → α → Int) (T : α → α → Bool) (hT : SWO T) (g : Nat) (cb : Array Value) (blk off cap sz : Nat) (d0 : Array α) (w0 : World)
    (eg : ∀ args w, (callFunc g args).run Tryz.prog w = .ok (.enter g args) w) (hcmp : CmpLays1 Tryz.prog g cb enc cf blk off d0.size w0) (R : Row1 enc w0 blk off d0) (h0 : d0.size = sz) (hsz : sz < 4611686018427387904)
    (a b : Nat) (d : Array α) (w : World) (hs : d.size = sz) (S : SW enc w0 blk off d w) (hab : a ≤ b) (hb : b ≤ sz) (hc : Compat (ltOf cf) T a b d) :
    Calls Tryz.prog 200 #[.slice (some ⟨blk, off, none⟩) sz cap, .int .i64 a, .int .i64 b, .func (.func g) #[] cb] w fun e w' => e = .returned (.tuple #[]) ∧ ∃ d', d'.size = sz ∧ SW enc w0 blk off d' w' ∧ PermIn a b d d' ∧ SortedIn T a b d' := by
  have HH := Any.insertionSortCmpFunc_s Tryz.laysSlF20_f200 enc cf g cb blk off cap a b d0 d w0 w eg hcmp R (by omega) S hab (by omega) (by omega)
  rw [hs] at HH
  refine HH.mono ?_
  rintro e w' ⟨rfl, hw⟩
  have hB := ins_block hT hab (by rw [hs]; exact hb) hc
  exact ⟨rfl, _, hB.1.1.trans hs, hw, hB.1, hB.2⟩
set_option maxHeartbeats 4000000 in
set_option maxRecDepth 1000000 in
theorem stableN (enc : α → Value) (cf : α → α → Int) (T : α → α → Bool) (hT : SWO T) (g : Nat) (cb : Array Value) (blk off cap sz : Nat) (d0 : Array α) (w0 : World)
    (eg : ∀ args w, (callFunc g args).run Tryz.prog w = .ok (.enter g args) w) (hcmp : CmpLays1 Tryz.prog g cb enc cf blk off d0.size w0) (R : Row1 enc w0 blk off d0) (h0 : d0.size = sz) (hsz : sz < 1152921504606846976) (S : SW enc w0 blk off d0 w0) (hc : Compat (ltOf cf) T 0 d0.size d0) :
    Calls Tryz.prog 189 #[.slice (some ⟨blk, off, none⟩) sz cap, .int .i64 sz, .func (.func g) #[] cb] w0 fun e w' => e = .returned (.tuple #[]) ∧ ∃ d', d'.size = sz ∧ SW enc w0 blk off d' w' ∧ PermIn 0 sz d0 d' ∧ SortedIn T 0 sz d' := by
  have HI : Hid (∀ (a b : Nat) (d : Array α) (w : World), d.size = sz → SW enc w0 blk off d w → a ≤ b → b ≤ sz → Compat (ltOf cf) T a b d → Calls Tryz.prog 200 #[.slice (some ⟨blk, off, none⟩) sz cap, .int .i64 a, .int .i64 b, .func (.func g) #[] cb] w fun e w' => e = .returned (.tuple #[]) ∧ ∃ d', d'.size = sz ∧ SW enc w0 blk off d' w' ∧ PermIn a b d d' ∧ SortedIn T a b d') := Lib.hid (insN_w enc cf T hT g cb blk off cap sz d0 w0 eg hcmp R h0 (by omega))
  have HM : Hid (∀ (a m b : Nat) (d : Array α) (w : World), d.size = sz → SW enc w0 blk off d w → a < m → m < b → b ≤ sz → SM (ltOf cf) T a m b d → Calls Tryz.prog 201 #[.slice (some ⟨blk, off, none⟩) sz cap, .int .i64 a, .int .i64 m, .int .i64 b, .func (.func g) #[] cb] w fun e w' => e = .returned (.tuple #[]) ∧ ∃ d', d'.size = sz ∧ SW enc w0 blk off d' w' ∧ PermIn a b d d' ∧ SortedIn T a b d') := Lib.hid fun a m b d w => symMergeN stN_laid enc cf T hT g cb blk off cap sz d0 w0 eg hcmp R h0 (by omega) b a m b d w (by omega)
  have HC : Hid (Compat (ltOf cf) T 0 d0.size d0) := Lib.hid hc
  have S0 : Hid (SW enc w0 blk off d0 w0) := Lib.hid S
  have H0 : Hid (d0.size = sz) := Lib.hid h0
  clear hcmp R hc S h0 hT eg
  go_enter Tryz.func189, Tryz.ntmps189
  go_wp2_with (fail)
  go_loopg [7, 8] sz (fun kx s7 s8 wr => ∃ (p A : Nat) (dk : Array α), s7 = .int .i64 A ∧ s8 = .int .i64 ((A : Int) + 20) ∧ A ≤ sz ∧ sz - A ≤ kx ∧ Hid (SW enc w0 blk off dk wr) ∧ Hid (A = p * 20) ∧ Hid (First T d0 dk 20 p))
  case atStart => exact ⟨0, 0, d0, rfl, by go_num, Nat.zero_le _, by omega, S0, Lib.hid (by omega), Lib.hid (First.start T d0 20)⟩
  case round =>
    clear S0
    obtain ⟨p, A, dk, rfl, rfl, hA, hkx, S1, HA, F1⟩ := hrel
    by_cases hlt : A + 20 ≤ sz
    · have hC := Lib.hid (HI.out A (A + 20) dk wr (F1.out.size.trans H0.out) S1.out (by omega) hlt (F1.out.compat HC.out (by rw [HA.out]; exact Nat.le_refl _) (by rw [H0.out]; exact hlt)))
      go_wp2_with (first | (go_at_call 200; refine hC.out.mono ?_; rintro e9 w9 ⟨rfl, d', t1, t2, t3, t4⟩; have Q := Lib.hid (And.intro t1 (And.intro t2 (And.intro t3 t4))); clear t1 t2 t3 t4))
      go_roundg (sz - (A + 20))
      case measure => omega
      case rel => exact ⟨p + 1, A + 20, d', by go_num, by go_num, hlt, Nat.le_refl _, Lib.hid Q.out.2.1, Lib.hid (by have := HA.out; omega), Lib.hid (F1.out.step (by rw [← HA.out, H0.out]; exact hlt) (by rw [← HA.out]; exact Q.out.2.2.1) (by rw [← HA.out]; exact Q.out.2.2.2))⟩
    · have hC := Lib.hid (HI.out A sz dk wr (F1.out.size.trans H0.out) S1.out hA (Nat.le_refl _) (F1.out.compat HC.out (by rw [HA.out]; exact Nat.le_refl _) (by rw [H0.out]; exact Nat.le_refl _)))
      go_wp2_with (first | (go_at_call 200; refine hC.out.mono ?_; rintro e9 w9 ⟨rfl, d', t1, t2, t3, t4⟩; have Q := Lib.hid (And.intro t1 (And.intro t2 (And.intro t3 t4))); clear t1 t2 t3 t4))
      have AL : Hid (All T d0 d' 20) := Lib.hid (F1.out.all (by rw [← HA.out, H0.out]; exact hA) (by rw [← HA.out, H0.out]; omega) (by rw [← HA.out, H0.out]; exact Q.out.2.2.1) (by rw [← HA.out, H0.out]; exact Q.out.2.2.2))
      have S2 : Hid (SW enc w0 blk off d' w9) := Lib.hid Q.out.2.1
      clear Q hC F1 HA S1 hlt hkx hA
      go_loopg [6] (2 * sz + 20) (fun kx s6 wr => ∃ (bs : Nat) (dk : Array α), s6 = .int .i64 bs ∧ 0 < bs ∧ bs ≤ 2 * sz + 20 ∧ 2 * sz + 20 - bs ≤ kx ∧ Hid (SW enc w0 blk off dk wr) ∧ Hid (All T d0 dk bs))
      case atStart => exact ⟨20, d', rfl, by omega, by omega, by omega, S2, AL⟩
      case round =>
        clear S2 AL
        obtain ⟨bs, dk, rfl, hb0, hbs, hkx, S3, A3⟩ := hrel
        by_cases hlt : bs < sz
        · have rw2 : IntKind.i64.wrap (2 * (bs : Int)) = ((2 * bs : Nat) : Int) := by rw [IntKind.wrap_i64]; omega
          go_wp2_with (fail)
          go_loopg [7, 8] sz (fun kx s7 s8 wr => ∃ (p A : Nat) (dk : Array α), s7 = .int .i64 A ∧ s8 = .int .i64 ((A + 2 * bs : Nat) : Int) ∧ A ≤ sz ∧ sz - A ≤ kx ∧ Hid (SW enc w0 blk off dk wr) ∧ Hid (A = p * (2 * bs)) ∧ Hid (Pairs T d0 dk bs p))
          case atStart => exact ⟨0, 0, dk, rfl, by go_num, Nat.zero_le _, by omega, S3, Lib.hid (by omega), Lib.hid A3.out.pairs⟩
          case round =>
            clear S3 A3
            obtain ⟨p, A, dk, rfl, rfl, hA, hkx2, S1, HA, F1⟩ := hrel
            have rA : IntKind.i64.wrap ((A : Int) + (bs : Int)) = ((A + bs : Nat) : Int) := by rw [IntKind.wrap_i64]; omega
            by_cases hle : A + 2 * bs ≤ sz
            · have hsm : Hid (SM (ltOf cf) T A (A + bs) (A + 2 * bs) dk) := Lib.hid (by
                have g1 := F1.out.first hb0 (by rw [← HA.out, H0.out]; omega)
                have g2 := F1.out.last hb0 (by rw [← HA.out, H0.out]; omega)
                rw [← HA.out] at g1 g2
                rw [H0.out, show min (A + 2 * bs) sz = A + 2 * bs by omega] at g2
                exact g1.sm g2 (fun i j h1 h2 h3 => HC.out i j (Nat.zero_le _) h2 (by rw [H0.out]; omega)) (by rw [F1.out.size, H0.out]; exact hle) (by rw [H0.out]; exact hle))
              have hC := Lib.hid (HM.out A (A + bs) (A + 2 * bs) dk wr (F1.out.size.trans H0.out) S1.out (by omega) (by omega) hle hsm.out)
              obtain ⟨ab, hab⟩ : ∃ ab, ab = A + bs := ⟨_, rfl⟩
              obtain ⟨a2, ha2⟩ : ∃ a2, a2 = A + 2 * bs := ⟨_, rfl⟩
              obtain ⟨b2, hb2⟩ : ∃ b2, b2 = 2 * bs := ⟨_, rfl⟩
              obtain ⟨a4, ha4⟩ : ∃ a4, a4 = a2 + b2 := ⟨_, rfl⟩
              clear rA rw2
              have rA : IntKind.i64.wrap ((A : Int) + (bs : Int)) = (ab : Int) := by rw [IntKind.wrap_i64]; omega
              have rw2 : IntKind.i64.wrap (2 * (bs : Int)) = (b2 : Int) := by rw [IntKind.wrap_i64]; omega
              have rB : IntKind.i64.wrap ((a2 : Int) + (b2 : Int)) = (a4 : Int) := by rw [IntKind.wrap_i64]; omega
              have hlez : (a2 : Int) ≤ (sz : Int) := by omega
              rw [← ha2, ← hab] at hC
              rw [← ha2]
              have HAB := Lib.hid hab
              have HA2 := Lib.hid ha2
              have HA4 := Lib.hid ha4
              have HB2 := Lib.hid hb2
              clear hab ha2 ha4 hb2
              go_wp2_with (first | (go_at_call 201; refine hC.out.mono ?_; rintro e9 w9 ⟨rfl, d', t1, t2, t3, t4⟩; have Q := Lib.hid (And.intro t1 (And.intro t2 (And.intro t3 t4))); clear t1 t2 t3 t4))
              go_roundg (sz - a2)
              case measure => have := HA2.out; omega
              case rel => exact ⟨p + 1, a2, d', by go_num, by rw [HA4.out, HB2.out], by have := HA2.out; omega, Nat.le_refl _, Lib.hid Q.out.2.1, Lib.hid (by rw [HA2.out, HA.out, Nat.add_mul, Nat.one_mul]), Lib.hid (F1.out.step hb0 (by rw [← HA.out, H0.out]; exact hle) (by rw [← HA.out, ← HA2.out]; exact Q.out.2.2.1) (by rw [← HA.out, ← HA2.out]; exact Q.out.2.2.2))⟩
            · have hlez : ¬ ((A + 2 * bs : Nat) : Int) ≤ (sz : Int) := by omega
              obtain ⟨a2, ha2⟩ : ∃ a2, a2 = A + 2 * bs := ⟨_, rfl⟩
              rw [← ha2] at hlez ⊢
              have HA2 := Lib.hid ha2
              clear ha2
              have rC : IntKind.i64.wrap ((bs : Int) * 2) = ((2 * bs : Nat) : Int) := by rw [IntKind.wrap_i64]; omega
              by_cases hm : A + bs < sz
              · have hsm : Hid (SM (ltOf cf) T A (A + bs) sz dk) := Lib.hid (by
                  have g1 := F1.out.first hb0 (by rw [← HA.out, H0.out]; omega)
                  have g2 := F1.out.last hb0 (by rw [← HA.out, H0.out]; omega)
                  rw [← HA.out] at g1 g2
                  rw [H0.out, show min (A + 2 * bs) sz = sz by omega] at g2
                  exact g1.sm g2 (fun i j h1 h2 h3 => HC.out i j (Nat.zero_le _) h2 (by rw [H0.out]; omega)) (by rw [F1.out.size, H0.out]; exact Nat.le_refl _) (by rw [H0.out]; exact Nat.le_refl _))
                have hC := Lib.hid (HM.out A (A + bs) sz dk wr (F1.out.size.trans H0.out) S1.out (by omega) hm (Nat.le_refl _) hsm.out)
                have hmz : ((A + bs : Nat) : Int) < (sz : Int) := by omega
                obtain ⟨ab, hab⟩ : ∃ ab, ab = A + bs := ⟨_, rfl⟩
                rw [← hab] at hC rA hmz
                clear hab
                go_wp2_with (first | (go_at_call 201; refine hC.out.mono ?_; rintro e9 w9 ⟨rfl, d', t1, t2, t3, t4⟩; have Q := Lib.hid (And.intro t1 (And.intro t2 (And.intro t3 t4))); clear t1 t2 t3 t4))
                go_roundg (2 * sz + 20 - 2 * bs)
                case measure => omega
                case rel => exact ⟨2 * bs, d', rfl, by omega, by omega, Nat.le_refl _, Lib.hid Q.out.2.1, Lib.hid (F1.out.end2 hb0 (by rw [← HA.out, H0.out]; exact hm) (by rw [← HA.out, H0.out]; omega) (by rw [← HA.out, H0.out]; exact Q.out.2.2.1) (by rw [← HA.out, H0.out]; exact Q.out.2.2.2))⟩
              · have hmz : ¬ ((A + bs : Nat) : Int) < (sz : Int) := by omega
                obtain ⟨ab, hab⟩ : ∃ ab, ab = A + bs := ⟨_, rfl⟩
                rw [← hab] at rA hmz
                clear hab
                go_wp2_with (fail)
                go_roundg (2 * sz + 20 - 2 * bs)
                case measure => omega
                case rel => exact ⟨2 * bs, dk, rfl, by omega, by omega, Nat.le_refl _, S1, Lib.hid (F1.out.end1 hb0 (by rw [← HA.out, H0.out]; exact hA) (by rw [← HA.out, H0.out]; omega))⟩
        · go_wp2_with (fail)
          go_end0
          have E := A3.out.end_ (by rw [H0.out]; omega)
          rw [H0.out] at E
          exact ⟨rfl, dk, A3.out.size.trans H0.out, S3.out, E.1, E.2⟩
theorem sortStableN (enc : α → Value) (cf : α → α → Int) (T : α → α → Bool) (hT : SWO T) (g : Nat) (cb : Array Value) (blk off cap sz : Nat) (d0 : Array α) (w0 : World)
    (eg : ∀ args w, (callFunc g args).run Tryz.prog w = .ok (.enter g args) w) (hcmp : CmpLays1 Tryz.prog g cb enc cf blk off d0.size w0) (R : Row1 enc w0 blk off d0) (h0 : d0.size = sz) (hsz : sz < 1152921504606846976) (S : SW enc w0 blk off d0 w0) (hc : Compat (ltOf cf) T 0 d0.size d0) :
    Calls Tryz.prog 161 #[.slice (some ⟨blk, off, none⟩) sz cap, .func (.func g) #[] cb] w0 fun e w' => e = .returned (.tuple #[]) ∧ ∃ d', d'.size = sz ∧ SW enc w0 blk off d' w' ∧ PermIn 0 sz d0 d' ∧ SortedIn T 0 sz d' := by
  have HS := Lib.hid (stableN enc cf T hT g cb blk off cap sz d0 w0 eg hcmp R h0 hsz S hc)
  clear hcmp R hc S h0 hT eg
  go_enter Tryz.func161, Tryz.ntmps161
  go_wp2_with (first | (go_at_call 189; refine HS.out.mono ?_; rintro e9 w9 ⟨rfl, t1⟩))
  go_end0
  exact ⟨rfl, t1⟩
end
end Go.Proofs.YtbedbhlebfnohaaGreat
