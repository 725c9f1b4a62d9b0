/- The pool: write. (Printed by gen/opw.py.) -/
import Derived.Test.YtohlkkannjifmaaGreatDoorOPool1
namespace Go.Proofs.YtohlkkannjifmaaGreatDoor
open Go.RowKit
structure RG (w : World) (U V : Nat → Prop) (d ds do_ l p K : Nat) (D : DK) (L : LK) (P : PK) (sv : Value) (m hand : Nat) (Q : Nat → Nat) (B : Nat → Value) (Us : Nat → Bool) : Prop where
  log : LogR w U l d K L
  dk : DiskR w d ds do_ K D
  pf : PF w V p d l K P sv m hand Q B Us
  du : ∀ g, DB d ds do_ g → ¬ U g
  dv : ∀ g, DB d ds do_ g → ¬ V g
  uv : ∀ g, U g → ¬ V g
def AllB (U V : Nat → Prop) (d ds do_ : Nat) (g : Nat) : Prop := U g ∨ V g ∨ DB d ds do_ g
theorem PF.mono {w : World} {V : Nat → Prop} {p d l k k' : Nat} {P : PK} {sv : Value} {m hand : Nat} {Q : Nat → Nat} {B : Nat → Value} {Us : Nat → Bool} (h : PF w V p d l k P sv m hand Q B Us) (hk : k ≤ k') : PF w V p d l k' P sv m hand Q B Us := by
  obtain ⟨mk, f, g, h1, h2⟩ := h.map
  exact { h with map := ⟨mk, f, g, by omega, h2⟩, hd := Nat.le_trans h.hd hk }
theorem RG.keep {w w' : World} {U V : Nat → Prop} {d ds do_ l p K K' : Nat} {D : DK} {L : LK} {P : PK} {sv : Value} {m hand : Nat} {Q : Nat → Nat} {B : Nat → Value} {Us : Nat → Bool} (h : RG w U V d ds do_ l p K D L P sv m hand Q B Us) (hb : Below w.heap.size w w') (hK : K ≤ K') : RG w' U V d ds do_ l p K' D L P sv m hand Q B Us :=
  ⟨(h.log.keep (fun i hi => hb.block i (h.log.lt i hi)) hb.size).mono hK, (h.dk.keep fun i hi => hb.block i (h.dk.lt hi)).mono hK, (h.pf.keep (fun i hi => hb.block i (h.pf.lt i hi)) hb.size).mono hK, h.du, h.dv, h.uv⟩
theorem RG.keepN {w : World} {U V : Nat → Prop} {d ds do_ l p K : Nat} {D : DK} {L : LK} {P : PK} {sv : Value} {m hand : Nat} {Q : Nat → Nat} {B : Nat → Value} {Us : Nat → Bool} (h : RG w U V d ds do_ l p K D L P sv m hand Q B Us) {w' : World} (hh : w'.heap = w.heap) : RG w' U V d ds do_ l p K D L P sv m hand Q B Us :=
  ⟨h.log.keep (fun i _ => by rw [hh]) (by rw [hh]; exact Nat.le_refl _), h.dk.keep fun i _ => by rw [hh], h.pf.keep (fun i _ => by rw [hh]) (by rw [hh]; exact Nat.le_refl _), h.du, h.dv, h.uv⟩
theorem RG.turn {w w' : World} {U V : Nat → Prop} {d ds do_ l p K K' : Nat} {D D' : DK} {L L' : LK} {P : PK} {sv : Value} {m hand : Nat} {Q : Nat → Nat} {B : Nat → Value} {Us : Nat → Bool} (h : RG w U V d ds do_ l p K D L P sv m hand Q B Us) (hl : LogR w' U l d K' L') (hd : DiskR w' d ds do_ K' D') (ht : Trn (fun g => U g ∨ DB d ds do_ g) w w') (hK : K ≤ K') : RG w' U V d ds do_ l p K' D' L' P sv m hand Q B Us :=
  ⟨hl, hd, (h.pf.keep (fun i hi => ht.block i (h.pf.lt i hi) (fun h2 => by rcases h2 with h2 | h2; exact h.uv i h2 hi; exact h.dv i h2 hi)) ht.size).mono hK, h.du, h.dv, h.uv⟩
theorem RG.pool {w w' : World} {U V : Nat → Prop} {d ds do_ l p K K' : Nat} {D : DK} {L : LK} {P P' : PK} {sv sv' : Value} {m hand hand' : Nat} {Q Q' : Nat → Nat} {B B' : Nat → Value} {Us Us' : Nat → Bool} {V' : Nat → Prop} (h : RG w U V d ds do_ l p K D L P sv m hand Q B Us) (hp : PF w' V' p d l K' P' sv' m hand' Q' B' Us') (ht : Trn V w w') (hV : ∀ g, V' g → V g ∨ w.heap.size ≤ g) (hK : K ≤ K') : RG w' U V' d ds do_ l p K' D L P' sv' m hand' Q' B' Us' :=
  ⟨(h.log.keep (fun i hi => ht.block i (h.log.lt i hi) (fun h2 => h.uv i hi h2)) ht.size).mono hK, (h.dk.keep fun i hi => ht.block i (h.dk.lt hi) (fun h2 => h.dv i hi h2)).mono hK, hp, h.du, fun g hg hv => by
    rcases hV g hv with h1 | h1
    · exact h.dv g hg h1
    · have := h.dk.lt hg; omega, fun g hg hv => by
    rcases hV g hv with h1 | h1
    · exact h.uv g hg h1
    · have := h.log.lt g hg; omega⟩
def clean (f : FrV) : FrV := { f with dirty := false, first := 0 }
theorem PF.clean {w : World} {V : Nat → Prop} {p d l k : Nat} {P : PK} {sv : Value} {m hand : Nat} {Q : Nat → Nat} {B : Nat → Value} {Us : Nat → Bool} (h : PF w V p d l k P sv m hand Q B Us) {i : Nat} (hi : i < P.frames.length) :
    PF ((w.setCell ⟨Q i, 3, none⟩ (.bool false)).setCell ⟨Q i, 4, none⟩ (.int .i64 0)) V p d l k (P.setFr i (clean (P.frames.getD i fr0))) sv m hand Q B Us := by
  have hf := h.fr i hi
  have := h.setFr (w' := (w.setCell ⟨Q i, 3, none⟩ (.bool false)).setCell ⟨Q i, 4, none⟩ (.int .i64 0)) hi (f' := Go.Proofs.YtohlkkannjifmaaGreatDoor.clean (P.frames.getD i fr0)) (v' := B i) (u' := Us i) (V' := V) rfl ⟨Int.le_refl _, by show (0 : Int) ≤ _; omega⟩ (set_at (set_at hf.blk 3 _) 4 _) (ownsRow_keep hf.b fun g e => (by
    obtain ⟨c, hc⟩ := own_tag hf.b e
    have hne : g ≠ Q i := fun e2 => by subst e2; exact tag_ne hc hf.blk (by decide)
    exact (set_ne hne).trans (set_ne hne))) hf.len (fun g _ hg => (set_ne hg).trans (set_ne hg)) (by rw [size_set, size_set]; exact Nat.le_refl _) (fun g hg => hg) (fun b e => h.vb i hi b e) (fun g hg => by rw [size_set, size_set]; exact h.lt g hg)
  rw [upd_same, upd_same] at this
  exact this
set_option maxHeartbeats 8000000 in
set_option maxRecDepth 100000 in
theorem pw_tail (U V : Nat → Prop) (d ds do_ l p K : Nat) (D : DK) (L : LK) (P : PK) (sv : Value) (m hand : Nat) (Q : Nat → Nat) (B : Nat → Value) (Us : Nat → Bool) (i : Nat) (W : World) (R : Ending → World → Prop)
    (h : RG W U V d ds do_ l p K D L P sv m hand Q B Us) (hi : i < P.frames.length) (hK : K ≤ 1000000000)
    (hBad : (D.write (P.first + (P.frames.getD i fr0).page) (P.frames.getD i fr0).b).1 ≠ 0 → ∀ w', RG w' U V d ds do_ l p (K + 1) (D.write (P.first + (P.frames.getD i fr0).page) (P.frames.getD i fr0).b).2 L P sv m hand Q B Us → Trn (AllB U V d ds do_) W w' → R (.returned (.int .i64 (D.write (P.first + (P.frames.getD i fr0).page) (P.frames.getD i fr0).b).1)) w')
    (hGood : (D.write (P.first + (P.frames.getD i fr0).page) (P.frames.getD i fr0).b).1 = 0 → ∀ w', RG w' U V d ds do_ l p (K + 1) (D.write (P.first + (P.frames.getD i fr0).page) (P.frames.getD i fr0).b).2 L (P.setFr i (clean (P.frames.getD i fr0))) sv m hand Q B Us → Trn (AllB U V d ds do_) W w' → R (.returned (.int .i64 0)) w') (s2 s3 s4 s5 s6 s7 s8 s9 s10 s11 s12 s13 s14 s15 s16 s17 s18 s19 s20 s21 s22 s23 s24 s25 s26 s27 s28 s29 s30 s31 s32 s33 s34 s35 s36 s37 s38 s39 s40 s41 s42 s43 s44 s45 s46 s47 s48 s49 s50 s51 s52 : Value)
    (C1 C2 : Act → World → Prop) (hC2 : ∀ a w, Code.wp Tryz.prog (dropQ 3 (Tryz.f58.body.getD .skip)) (bodyPost Tryz.prog Tryz.f58 R) a w → C2 a w) (hC1 : ∀ a w, Code.wp Tryz.prog (tailQ (headQ (dropQ 2 (Tryz.f58.body.getD .skip)))) (Exit.then C2 (bodyPost Tryz.prog Tryz.f58 R)) a w → C1 a w) :
    Code.wp Tryz.prog (headQ (headQ (dropQ 2 (Tryz.f58.body.getD .skip)))) (Exit.then C1 (Exit.then C2 (bodyPost Tryz.prog Tryz.f58 R))) ⟨List.toArray ((.pointer (some ⟨p, 0, none⟩)) :: (.pointer (some ⟨Q i, 0, none⟩)) :: s2 :: s3 :: s4 :: s5 :: s6 :: s7 :: s8 :: s9 :: s10 :: s11 :: s12 :: s13 :: s14 :: s15 :: s16 :: s17 :: s18 :: s19 :: s20 :: s21 :: s22 :: s23 :: s24 :: s25 :: s26 :: s27 :: s28 :: s29 :: s30 :: s31 :: s32 :: s33 :: s34 :: s35 :: s36 :: s37 :: s38 :: s39 :: s40 :: s41 :: s42 :: s43 :: s44 :: s45 :: s46 :: s47 :: s48 :: s49 :: s50 :: s51 :: s52 :: []), []⟩ W := by
  conv at hC1 => enter [a, w, 1, 2]; whnf
  conv at hC2 => enter [a, w, 1, 2]; whnf
  have hf := h.pf.fr i hi
  have hok := h.pf.ok
  have hrng := hok.rng _ (getD_mem P.frames fr0 i hi)
  obtain ⟨va, vc, hve, hvr⟩ := hf.b.rb (by rw [hf.len]; omega)
  have p4 : W.cell? ⟨p, 4, none⟩ = some (.pointer (some ⟨d, 0, none⟩)) := cell_of_row _ _ 4 _ _ _ h.pf.blk
  have p6 : W.cell? ⟨p, 6, none⟩ = some (.int .i64 P.first) := cell_of_row _ _ 6 _ _ _ h.pf.blk
  have q0 : W.cell? ⟨Q i, 0, none⟩ = some (.int .i64 (P.frames.getD i fr0).page) := cell_of_row _ _ 0 _ _ _ hf.blk
  rw [hf.len] at hvr
  have q1 : W.cell? ⟨Q i, 1, none⟩ = some (.slice va 512 vc) := by
    have e : B i = .slice va 512 vc := by rw [hve, hf.len]
    rw [← e]; exact cell_of_row _ _ 1 _ _ _ hf.blk
  have hsum : IntKind.i64.wrap (P.first + (P.frames.getD i fr0).page) = P.first + (P.frames.getD i fr0).page := IntWalk.i64_in _ (by have := hok.f1; have := hok.fc; omega)
  have HDW : Hid (∀ W', W'.heap = W.heap → Calls Tryz.prog 116 #[.pointer (some ⟨d, 0, none⟩), .int .i64 (P.first + (P.frames.getD i fr0).page), .slice va 512 vc] W' fun e w' => e = .returned (.int .i64 (D.write (P.first + (P.frames.getD i fr0).page) (P.frames.getD i fr0).b).1) ∧ DiskR w' d ds do_ (K + 1) (D.write (P.first + (P.frames.getD i fr0).page) (P.frames.getD i fr0).b).2 ∧ Trn (DB d ds do_) W' w') := Lib.hid fun W' hW => by
    have hr' : RB W'.heap.size W' va 512 vc (P.frames.getD i fr0).b := by
      have := hvr.of_block (w' := W') (fun b o s _ _ _ => by rw [hW])
      rw [hW]; exact this
    exact dwrite_any d ds do_ K W'.heap.size D _ va 512 vc _ W' (h.dk.keep fun g _ => by rw [hW]) hr' (by have := hok.f1; omega) (by have := hok.fc; omega) (by omega)
  have H := Lib.hid h
  have HI := Lib.hid hi
  have HB := Lib.hid hBad
  have HG := Lib.hid hGood
  have hne : d ≠ p := fun e => h.dv p (.inl e.symm) h.pf.vp
  clear h hi hBad hGood hf hok hrng hve hvr
  obtain ⟨res, hres⟩ : ∃ res, res = D.write (P.first + (P.frames.getD i fr0).page) (P.frames.getD i fr0).b := ⟨_, rfl⟩
  rw [← hres] at HDW HB HG
  clear hres
  obtain ⟨r1, D1⟩ := res
  simp only at HDW HB HG
  obtain ⟨sec, hsec⟩ : ∃ sec, sec = P.first + (P.frames.getD i fr0).page := ⟨_, rfl⟩
  rw [← hsec] at HDW
  have hsum2 : IntKind.i64.wrap (P.first + (P.frames.getD i fr0).page) = sec := hsum.trans hsec.symm
  clear hsec hsum
  generalize (P.frames.getD i fr0).page = pgn at *
  generalize P.first = pf at *
  have HQ : Hid (Calls Tryz.prog 116 #[.pointer (some ⟨d, 0, none⟩), .int .i64 sec, .slice va 512 vc] W.drew fun e w' => e = .returned (.int .i64 r1) ∧ RG w' U V d ds do_ l p (K + 1) D1 L P sv m hand Q B Us ∧ Trn (AllB U V d ds do_) W w') := Lib.hid ((HDW.out W.drew rfl).mono fun e w' hh => ⟨hh.1, H.out.turn ((H.out.log.keep (fun g hg => hh.2.2.block g (H.out.log.lt g hg) (fun h2 => H.out.du g h2 hg)) hh.2.2.size).mono (Nat.le_succ _)) hh.2.1 (((Trn.refl _ W).drew).then (hh.2.2.mono fun g hg => .inl (.inr hg))) (Nat.le_succ _), ((Trn.refl _ W).drew).then (hh.2.2.mono fun g hg => .inl (.inr (.inr hg)))⟩)
  clear HDW
  by_cases h0 : r1 = 0
  · subst h0
    have HG0 := Lib.hid (HG.out rfl)
    clear HG HB
    conv => arg 2; whnf
    refine wp_region_still_tail 17 (by kernel_rfl) (by kernel_rfl) ?_
    simp only [List.take_succ_cons, List.take_zero, List.drop_succ_cons, List.drop_zero]
    change wpStill _ _ (World.drew _) _ _ _
    repeat still_step
    refine wpStill_nil ?_
    change wpList _ _ _ _ _ (World.drew _)
    go_wp2_with (go_at_call 116; refine HQ.out.mono ?_; rintro e w2 ⟨rfl, h2, ht2⟩; have H2 := Lib.hid h2; have T2 := Lib.hid ht2; have k3 : w2.cell? ⟨Q i, 3, none⟩ = some (.bool (P.frames.getD i fr0).dirty) := cell_of_row _ _ 3 _ _ _ (h2.pf.fr i HI.out).blk; have k4 : w2.cell? ⟨Q i, 4, none⟩ = some (.int .i64 (P.frames.getD i fr0).first) := cell_of_row _ _ 4 _ _ _ (h2.pf.fr i HI.out).blk; have f3 : w2.frozen? ⟨Q i, 3, none⟩ = false := (by simp [World.frozen?, (h2.pf.fr i HI.out).blk, frObj]); have f4 : w2.frozen? ⟨Q i, 4, none⟩ = false := (by simp [World.frozen?, (h2.pf.fr i HI.out).blk, frObj]); clear h2 ht2)
    refine HG0.out _ (H2.out.pool (H2.out.pf.clean HI.out) (((Trn.refl V w2).set _ _ _ (.inl (H2.out.pf.vq i HI.out))).set _ _ _ (.inl (H2.out.pf.vq i HI.out))) (fun g hg => .inl hg) (Nat.le_refl _)) ?_
    exact (T2.out.set _ _ _ (.inl (.inr (.inl (H2.out.pf.vq i HI.out))))).set _ _ _ (.inl (.inr (.inl (H2.out.pf.vq i HI.out))))
  · have HB0 := Lib.hid (HB.out h0)
    have e1 : (r1 == 0) = false := by simpa using h0
    clear HG HB h0
    conv => arg 2; whnf
    refine wp_region_still_tail 17 (by kernel_rfl) (by kernel_rfl) ?_
    simp only [List.take_succ_cons, List.take_zero, List.drop_succ_cons, List.drop_zero]
    change wpStill _ _ (World.drew _) _ _ _
    repeat still_step
    refine wpStill_nil ?_
    change wpList _ _ _ _ _ (World.drew _)
    go_wp2_with (go_at_call 116; refine HQ.out.mono ?_; rintro e w2 ⟨rfl, h2, ht2⟩; have H2 := Lib.hid h2; have T2 := Lib.hid ht2; clear h2 ht2)
    exact HB0.out _ H2.out T2.out
def PwP (U V : Nat → Prop) (d ds do_ l p K : Nat) (sv : Value) (m hand : Nat) (Q : Nat → Nat) (B : Nat → Value) (Us : Nat → Bool) (x : Int × PK × LK × DK) (w : World) (e : Ending) (w' : World) : Prop :=
  e = .returned (.int .i64 x.1) ∧ RG w' U V d ds do_ l p (K + 8193) x.2.2.2 x.2.2.1 x.2.1 sv m hand Q B Us ∧ Trn (AllB U V d ds do_) w w'
theorem RG.mono {w : World} {U V : Nat → Prop} {d ds do_ l p K K' : Nat} {D : DK} {L : LK} {P : PK} {sv : Value} {m hand : Nat} {Q : Nat → Nat} {B : Nat → Value} {Us : Nat → Bool} (h : RG w U V d ds do_ l p K D L P sv m hand Q B Us) (hK : K ≤ K') : RG w U V d ds do_ l p K' D L P sv m hand Q B Us :=
  ⟨h.log.mono hK, h.dk.mono hK, h.pf.mono hK, h.du, h.dv, h.uv⟩
set_option maxHeartbeats 8000000 in
set_option maxRecDepth 100000 in
theorem pwrite_any (U V : Nat → Prop) (d ds do_ l p K : Nat) (D : DK) (L : LK) (P : PK) (sv : Value) (m hand : Nat) (Q : Nat → Nat) (B : Nat → Value) (Us : Nat → Bool) (i : Nat) (w : World) (h : RG w U V d ds do_ l p K D L P sv m hand Q B Us) (hi : i < P.frames.length) (hK : K ≤ 900000000) :
    Calls Tryz.prog 58 #[.pointer (some ⟨p, 0, none⟩), .pointer (some ⟨Q i, 0, none⟩)] w (PwP U V d ds do_ l p K sv m hand Q B Us (P.write i (P.frames.getD i fr0) L D) w) := by
  have hf := h.pf.fr i hi
  obtain ⟨va, vc, hve, hvr⟩ := hf.b.rb (by rw [hf.len]; omega)
  rw [hf.len] at hvr
  have q1 : w.cell? ⟨Q i, 1, none⟩ = some (.slice va 512 vc) := by
    have e : B i = .slice va 512 vc := by rw [hve, hf.len]
    rw [← e]; exact cell_of_row _ _ 1 _ _ _ hf.blk
  have p5 : w.cell? ⟨p, 5, none⟩ = some (.pointer (some ⟨l, 0, none⟩)) := cell_of_row _ _ 5 _ _ _ h.pf.blk
  have HLs : Hid (∀ W, Below w.heap.size w W → Calls Tryz.prog 32 #[.slice va 512 vc] W fun e w' => e = .returned (.int .i64 (lsnL (P.frames.getD i fr0).b)) ∧ Below W.heap.size W w') := Lib.hid fun W hW => Lsn_any w.heap.size va 512 vc _ W (hvr.below hW) hW.size
  have HSf : Hid (∀ W, Below w.heap.size w W → Calls Tryz.prog 59 #[.pointer (some ⟨l, 0, none⟩)] W fun e w' => e = .returned (.int .i64 L.safe) ∧ ∃ q, w' = W.drewN q) := Lib.hid fun W hW => safe_any W U l d K L (h.keep hW (Nat.le_refl _)).log (by omega)
  have HFo : Hid (∀ W, Below w.heap.size w W → Calls Tryz.prog 20 #[.pointer (some ⟨l, 0, none⟩)] W fun e w' => e = .returned (.int .i64 (L.force D).1) ∧ RG w' U V d ds do_ l p (K + 8192) (L.force D).2.2 (L.force D).2.1 P sv m hand Q B Us ∧ Trn (AllB U V d ds do_) w w') := Lib.hid fun W hW =>
    (force_any U l K L d ds do_ K D W (h.keep hW (Nat.le_refl _)).log (h.keep hW (Nat.le_refl _)).dk h.du hK (by omega)).mono fun e w' hh => ⟨hh.1, (h.keep hW (Nat.le_refl _)).turn (hh.2.1.mono (by omega)) hh.2.2.1 hh.2.2.2 (by omega), ((Trn.refl _ w).below hW (Nat.le_refl _)).then (hh.2.2.2.mono fun g hg => .inl (by rcases hg with hg | hg; exact .inl hg; exact .inr (.inr hg)))⟩
  have H := Lib.hid h
  have HI := Lib.hid hi
  obtain ⟨f, hfe⟩ : ∃ f, f = P.frames.getD i fr0 := ⟨_, rfl⟩
  rw [← hfe] at HLs ⊢
  have HF := Lib.hid hfe
  clear h hi hf hve hvr hfe
  by_cases hs : L.safe ≤ (lsnL f.b : Int)
  · have e1 : decide ((lsnL f.b : Int) ≥ L.safe) = true := decide_eq_true hs
    by_cases h0 : (L.force D).1 = 0
    · have HX1 : Hid ((((L.force D).2.2.write (P.first + f.page) f.b).1 ≠ 0) → P.write i f L D = (((L.force D).2.2.write (P.first + f.page) f.b).1, P, (L.force D).2.1, ((L.force D).2.2.write (P.first + f.page) f.b).2)) := Lib.hid fun h2 => by
        unfold PK.write behind; rw [if_pos hs, if_neg (by omega), if_pos h2]
      have HX2 : Hid ((((L.force D).2.2.write (P.first + f.page) f.b).1 = 0) → P.write i f L D = (0, P.setFr i (clean f), (L.force D).2.1, ((L.force D).2.2.write (P.first + f.page) f.b).2)) := Lib.hid fun h2 => by
        unfold PK.write behind; rw [if_pos hs, if_neg (by omega), if_neg (by omega)]; rfl
      rw [h0] at HFo
      clear h0 hs
      generalize (lsnL f.b : Int) = ln at *
      generalize L.safe = sf at *
      obtain ⟨y, hy⟩ : ∃ y, y = (L.force D).2 := ⟨_, rfl⟩
      rw [← hy] at HFo HX1 HX2
      clear hy
      obtain ⟨L1, D1⟩ := y
      simp only at HFo HX1 HX2
      go_enter Tryz.func58, Tryz.ntmps58
      go_upto_region 1 with (fail)
      go_region_held3 (fun w' => w'.cell? ⟨Q i, 1, none⟩ = some (.slice va 512 vc) ∧ w'.cell? ⟨p, 5, none⟩ = some (.pointer (some ⟨l, 0, none⟩))) (first | go_keep | exact ⟨by assumption, by assumption⟩) (first | (go_at_call 32; refine (HLs.out w.drew ((Below.refl _ _).drew)).mono ?_; rintro e w1 ⟨rfl, hb1⟩; have B1 := Lib.hid ((Below.refl w.heap.size w).drew.trans hb1); have q1' : w1.cell? ⟨Q i, 1, none⟩ = some (.slice va 512 vc) := (B1.out.cell (p := ⟨Q i, 1, none⟩) (lt_of_cell q1)).trans q1; have p5' : w1.cell? ⟨p, 5, none⟩ = some (.pointer (some ⟨l, 0, none⟩)) := (B1.out.cell (p := ⟨p, 5, none⟩) (lt_of_cell p5)).trans p5; clear hb1) | (go_at_call 59; refine (HSf.out _ B1.out).mono ?_; rintro e w2 ⟨rfl, q, hw2⟩; have B2 : Hid (Below w.heap.size w w2) := Lib.hid (by rw [hw2]; exact below_dn B1.out q); have q2' : w2.cell? ⟨Q i, 1, none⟩ = some (.slice va 512 vc) := (B2.out.cell (p := ⟨Q i, 1, none⟩) (lt_of_cell q1)).trans q1; have p2' : w2.cell? ⟨p, 5, none⟩ = some (.pointer (some ⟨l, 0, none⟩)) := (B2.out.cell (p := ⟨p, 5, none⟩) (lt_of_cell p5)).trans p5; clear hw2))
      go_upto_region 5 with (go_at_call 20; refine (HFo.out _ B2.out).mono ?_; rintro e w3 ⟨rfl, h3, ht3⟩; have H3 := Lib.hid h3; have T3 := Lib.hid ht3; clear h3 ht3)
      exact pw_tail U V d ds do_ l p (K + 8192) D1 L1 P sv m hand Q B Us i w3 _ H3.out HI.out (by omega) (by rw [← HF.out]; exact fun h2 w' h4 ht => ⟨by rw [HX1.out h2], by rw [HX1.out h2]; exact h4, T3.out.then ht⟩) (by rw [← HF.out]; exact fun h2 w' h4 ht => ⟨by rw [HX2.out h2], by rw [HX2.out h2]; exact h4, T3.out.then ht⟩) _ _ _ _ _ _ _ _ _ _ _ _ _ _ _ _ _ _ _ _ _ _ _ _ _ _ _ _ _ _ _ _ _ _ _ _ _ _ _ _ _ _ _ _ _ _ _ _ _ _ _ _ _ (by assumption) (by assumption)
    · have HX : Hid (P.write i f L D = ((L.force D).1, P, (L.force D).2)) := Lib.hid (by unfold PK.write behind; rw [if_pos hs, if_pos h0])
      have e2 : ((L.force D).1 == 0) = false := by simpa using h0
      rw [HX.out]
      clear h0 hs HX
      generalize (lsnL f.b : Int) = ln at *
      generalize L.safe = sf at *
      obtain ⟨y, hy⟩ : ∃ y, y = L.force D := ⟨_, rfl⟩
      rw [← hy] at HFo e2 ⊢
      clear hy
      obtain ⟨y1, L1, D1⟩ := y
      simp only at HFo e2 ⊢
      go_enter Tryz.func58, Tryz.ntmps58
      go_upto_region 1 with (fail)
      go_region_held3 (fun w' => w'.cell? ⟨Q i, 1, none⟩ = some (.slice va 512 vc) ∧ w'.cell? ⟨p, 5, none⟩ = some (.pointer (some ⟨l, 0, none⟩))) (first | go_keep | exact ⟨by assumption, by assumption⟩) (first | (go_at_call 32; refine (HLs.out w.drew ((Below.refl _ _).drew)).mono ?_; rintro e w1 ⟨rfl, hb1⟩; have B1 := Lib.hid ((Below.refl w.heap.size w).drew.trans hb1); have q1' : w1.cell? ⟨Q i, 1, none⟩ = some (.slice va 512 vc) := (B1.out.cell (p := ⟨Q i, 1, none⟩) (lt_of_cell q1)).trans q1; have p5' : w1.cell? ⟨p, 5, none⟩ = some (.pointer (some ⟨l, 0, none⟩)) := (B1.out.cell (p := ⟨p, 5, none⟩) (lt_of_cell p5)).trans p5; clear hb1) | (go_at_call 59; refine (HSf.out _ B1.out).mono ?_; rintro e w2 ⟨rfl, q, hw2⟩; have B2 : Hid (Below w.heap.size w w2) := Lib.hid (by rw [hw2]; exact below_dn B1.out q); have q2' : w2.cell? ⟨Q i, 1, none⟩ = some (.slice va 512 vc) := (B2.out.cell (p := ⟨Q i, 1, none⟩) (lt_of_cell q1)).trans q1; have p2' : w2.cell? ⟨p, 5, none⟩ = some (.pointer (some ⟨l, 0, none⟩)) := (B2.out.cell (p := ⟨p, 5, none⟩) (lt_of_cell p5)).trans p5; clear hw2))
      go_wp2_with (go_at_call 20; refine (HFo.out _ B2.out).mono ?_; rintro e w3 ⟨rfl, h3, ht3⟩; have H3 := Lib.hid h3; have T3 := Lib.hid ht3; clear h3 ht3)
      go_ret
      exact ⟨rfl, H3.out.mono (by omega), T3.out⟩
  · have e1 : decide ((lsnL f.b : Int) ≥ L.safe) = false := decide_eq_false (by omega)
    have HX1 : Hid (((D.write (P.first + f.page) f.b).1 ≠ 0) → P.write i f L D = ((D.write (P.first + f.page) f.b).1, P, L, (D.write (P.first + f.page) f.b).2)) := Lib.hid fun h2 => by
      unfold PK.write behind; rw [if_neg hs]; simp only; rw [if_neg (by omega), if_pos h2]
    have HX2 : Hid (((D.write (P.first + f.page) f.b).1 = 0) → P.write i f L D = (0, P.setFr i (clean f), L, (D.write (P.first + f.page) f.b).2)) := Lib.hid fun h2 => by
      unfold PK.write behind; rw [if_neg hs]; simp only; rw [if_neg (by omega), if_neg (by omega)]; rfl
    clear hs HFo
    generalize (lsnL f.b : Int) = ln at *
    generalize L.safe = sf at *
    go_enter Tryz.func58, Tryz.ntmps58
    go_upto_region 1 with (fail)
    go_region_held3 (fun w' => w'.cell? ⟨Q i, 1, none⟩ = some (.slice va 512 vc) ∧ w'.cell? ⟨p, 5, none⟩ = some (.pointer (some ⟨l, 0, none⟩))) (first | go_keep | exact ⟨by assumption, by assumption⟩) (first | (go_at_call 32; refine (HLs.out w.drew ((Below.refl _ _).drew)).mono ?_; rintro e w1 ⟨rfl, hb1⟩; have B1 := Lib.hid ((Below.refl w.heap.size w).drew.trans hb1); have q1' : w1.cell? ⟨Q i, 1, none⟩ = some (.slice va 512 vc) := (B1.out.cell (p := ⟨Q i, 1, none⟩) (lt_of_cell q1)).trans q1; have p5' : w1.cell? ⟨p, 5, none⟩ = some (.pointer (some ⟨l, 0, none⟩)) := (B1.out.cell (p := ⟨p, 5, none⟩) (lt_of_cell p5)).trans p5; clear hb1) | (go_at_call 59; refine (HSf.out _ B1.out).mono ?_; rintro e w2 ⟨rfl, q, hw2⟩; have B2 : Hid (Below w.heap.size w w2) := Lib.hid (by rw [hw2]; exact below_dn B1.out q); have q2' : w2.cell? ⟨Q i, 1, none⟩ = some (.slice va 512 vc) := (B2.out.cell (p := ⟨Q i, 1, none⟩) (lt_of_cell q1)).trans q1; have p2' : w2.cell? ⟨p, 5, none⟩ = some (.pointer (some ⟨l, 0, none⟩)) := (B2.out.cell (p := ⟨p, 5, none⟩) (lt_of_cell p5)).trans p5; clear hw2))
    go_upto_region 5 with (fail)
    exact pw_tail U V d ds do_ l p K D L P sv m hand Q B Us i w2 _ (H.out.keep B2.out (Nat.le_refl _)) HI.out (by omega) (by rw [← HF.out]; exact fun h2 w' h4 ht => ⟨by rw [HX1.out h2], by rw [HX1.out h2]; exact h4.mono (by omega), ((Trn.refl _ w).below B2.out (Nat.le_refl _)).then ht⟩) (by rw [← HF.out]; exact fun h2 w' h4 ht => ⟨by rw [HX2.out h2], by rw [HX2.out h2]; exact h4.mono (by omega), ((Trn.refl _ w).below B2.out (Nat.le_refl _)).then ht⟩) _ _ _ _ _ _ _ _ _ _ _ _ _ _ _ _ _ _ _ _ _ _ _ _ _ _ _ _ _ _ _ _ _ _ _ _ _ _ _ _ _ _ _ _ _ _ _ _ _ _ _ _ _ (by assumption) (by assumption)
end Go.Proofs.YtohlkkannjifmaaGreatDoor
