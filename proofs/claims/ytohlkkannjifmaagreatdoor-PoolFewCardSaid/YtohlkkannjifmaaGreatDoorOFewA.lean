/- The law PoolFew: a record in its box, two rigs side by side; what each step leaves. -/
import Derived.Test.YtohlkkannjifmaaGreatDoorOAwake
import Derived.Test.YtohlkkannjifmaaGreatDoorOCopyR
import Derived.Test.YtohlkkannjifmaaGreatDoorOOpen
import Derived.Test.YtohlkkannjifmaaGreatDoorFlApart
namespace Go.Proofs.YtohlkkannjifmaaGreatDoor
open Go.RowKit Go.Shelf
set_option maxHeartbeats 1000000 in
theorem pickn_any (x n : Int) (w : World) (_h0 : -9223372036854775808 ≤ x ∧ x ≤ 9223372036854775807) (hn : 1 ≤ n ∧ n ≤ 140737488355328) :
    Calls Tryz.prog 9 #[.int .i64 x, .int .i64 n] w fun e w' => (∃ k : Nat, (k : Int) < n ∧ e = .returned (.int .i64 k)) ∧ w = w' := by
  have hm : -n < x.tmod n ∧ x.tmod n < n := ⟨Int.lt_tmod_of_pos x (by omega), Int.tmod_lt_of_pos x (by omega)⟩
  obtain ⟨hm1, hm2⟩ := hm
  have hne : ¬ n = 0 := by omega
  have hw0 := wrap_in (x := x.tmod n) (by omega) (by omega)
  have hw1 := wrap_in (x := x.tmod n + n) (by omega) (by omega)
  obtain ⟨m, hmm⟩ : ∃ m, m = x.tmod n := ⟨_, rfl⟩
  rw [← hmm] at hm1 hm2 hw0 hw1
  have hmm' := hmm.symm
  clear hmm
  by_cases hneg : m < 0
  · have Hk := Lib.hid (show ((m + n).toNat : Int) = m + n ∧ ((m + n).toNat : Int) < n by omega)
    go_enter Tryz.func9, Tryz.ntmps9
    go_wp2
    go_ret
    exact ⟨⟨_, Hk.out.2, by rw [Hk.out.1]; rfl⟩, rfl⟩
  · have Hk := Lib.hid (show (m.toNat : Int) = m ∧ (m.toNat : Int) < n by omega)
    go_enter Tryz.func9, Tryz.ntmps9
    go_wp2
    go_ret
    exact ⟨⟨_, Hk.out.2, by rw [Hk.out.1]; rfl⟩, rfl⟩
theorem PI.of_block {B : Nat} {w w' : World} {a : Option Addr} {n c : Nat} {X : List (Int × Int)} (h : PI B w a n c X) (hb : ∀ b o s, a = some ⟨b, o, s⟩ → b < B → w'.heap[b]? = w.heap[b]?) : PI B w' a n c X :=
  ⟨h.len, h.le, h.mx, h.lm, fun hc => by
    obtain ⟨b, o, rfl, hB, hcell⟩ := h.at_ hc
    have e : ∀ i, w'.cell? ⟨b, i, none⟩ = w.cell? ⟨b, i, none⟩ := fun i => World.cell?_of_block (w := w) (hb b o none rfl hB)
    exact ⟨b, o, rfl, hB, fun i hi => ⟨(e _).trans (hcell i hi).1, (e _).trans (hcell i hi).2⟩⟩⟩
theorem PI.mono {B B' : Nat} {w : World} {a : Option Addr} {n c : Nat} {X : List (Int × Int)} (h : PI B w a n c X) (hb : B ≤ B') : PI B' w a n c X :=
  ⟨h.len, h.le, h.mx, h.lm, fun hc => by
    obtain ⟨b, o, e, hB, hcell⟩ := h.at_ hc
    exact ⟨b, o, e, Nat.lt_of_lt_of_le hB hb, hcell⟩⟩
structure RecX (W : World) (lo rb : Nat) (r : RecV) (ka oa na da pa : Option Addr) (kc oc nc dc pc : Nat) : Prop where
  blk : W.heap[rb]? = some (recObj r ka oa na da pa kc oc nc dc pc)
  k : RB W.heap.size W ka r.key.length kc r.key
  o : RB W.heap.size W oa r.old.length oc r.old
  n : RB W.heap.size W na r.new.length nc r.new
  d : PI W.heap.size W da r.dirty.length dc r.dirty
  p : PI W.heap.size W pa r.opn.length pc r.opn
  le : lo ≤ rb
  rng : ∀ a b o s, (a = ka ∨ a = oa ∨ a = na ∨ a = da ∨ a = pa) → a = some (⟨b, o, s⟩ : Addr) → lo ≤ b ∧ b < rb
theorem RecX.lt {W : World} {lo rb : Nat} {r : RecV} {ka oa na da pa : Option Addr} {kc oc nc dc pc : Nat} (h : RecX W lo rb r ka oa na da pa kc oc nc dc pc) : rb < W.heap.size := lt_of_heap' h.blk
def Away (S : Nat → Prop) (lo rb : Nat) : Prop := ∀ g, S g → g < lo ∨ rb < g
theorem RecX.keep {W W' : World} {lo rb : Nat} {r : RecV} {ka oa na da pa : Option Addr} {kc oc nc dc pc : Nat} (h : RecX W lo rb r ka oa na da pa kc oc nc dc pc) (hb : ∀ g, lo ≤ g → g ≤ rb → W'.heap[g]? = W.heap[g]?) (hs : W.heap.size ≤ W'.heap.size) : RecX W' lo rb r ka oa na da pa kc oc nc dc pc := by
  have e : ∀ a b o s, (a = ka ∨ a = oa ∨ a = na ∨ a = da ∨ a = pa) → a = some (⟨b, o, s⟩ : Addr) → W'.heap[b]? = W.heap[b]? := fun a b o s ha e => hb b (h.rng a b o s ha e).1 (Nat.le_of_lt (h.rng a b o s ha e).2)
  exact ⟨(hb rb h.le (Nat.le_refl _)).trans h.blk, (RB.of_block h.k fun b o s he _ _ => e _ b o s (.inl rfl) he).mono hs, (RB.of_block h.o fun b o s he _ _ => e _ b o s (.inr (.inl rfl)) he).mono hs, (RB.of_block h.n fun b o s he _ _ => e _ b o s (.inr (.inr (.inl rfl))) he).mono hs,
    (h.d.of_block fun b o s he _ => e _ b o s (.inr (.inr (.inr (.inl rfl)))) he).mono hs, (h.p.of_block fun b o s he _ => e _ b o s (.inr (.inr (.inr (.inr rfl)))) he).mono hs, h.le, h.rng⟩
theorem RecX.mv {W W' : World} {lo rb : Nat} {r : RecV} {ka oa na da pa : Option Addr} {kc oc nc dc pc : Nat} {S : Nat → Prop} (h : RecX W lo rb r ka oa na da pa kc oc nc dc pc) (hm : Trn S W W') (hS : Away S lo rb) : RecX W' lo rb r ka oa na da pa kc oc nc dc pc :=
  h.keep (fun g h1 h2 => hm.block g (by have := h.lt; omega) (fun hs => by rcases hS g hs with h3 | h3 <;> omega)) hm.size
theorem RecX.drew {W : World} {lo rb : Nat} {r : RecV} {ka oa na da pa : Option Addr} {kc oc nc dc pc : Nat} (h : RecX W lo rb r ka oa na da pa kc oc nc dc pc) : RecX W.drew lo rb r ka oa na da pa kc oc nc dc pc := h.keep (fun _ _ _ => rfl) (Nat.le_refl _)
theorem RecX.frozen {W : World} {lo rb : Nat} {r : RecV} {ka oa na da pa : Option Addr} {kc oc nc dc pc : Nat} (h : RecX W lo rb r ka oa na da pa kc oc nc dc pc) (i : Nat) : W.frozen? ⟨rb, i, none⟩ = false := by
  have := h.blk
  unfold recObj at this
  simp [World.frozen?, this]
def RecV.atPage (r : RecV) (x : Int) : RecV := { r with page := x }
def RecV.atLsn (r : RecV) (x : Int) : RecV := { r with lsn := x }
theorem RecX.setAny {W : World} {lo rb : Nat} {r : RecV} {ka oa na da pa : Option Addr} {kc oc nc dc pc : Nat} (h : RecX W lo rb r ka oa na da pa kc oc nc dc pc) (i : Nat) (v : Value) (r' : RecV) (hk : r'.key = r.key) (ho : r'.old = r.old) (hn : r'.new = r.new) (hd : r'.dirty = r.dirty) (hp : r'.opn = r.opn)
    (hb : (W.setCell ⟨rb, i, none⟩ v).heap[rb]? = some (recObj r' ka oa na da pa kc oc nc dc pc)) : RecX (W.setCell ⟨rb, i, none⟩ v) lo rb r' ka oa na da pa kc oc nc dc pc := by
  have hsz : W.heap.size ≤ (W.setCell ⟨rb, i, none⟩ v).heap.size := by rw [size_set]; exact Nat.le_refl _
  have e : ∀ a b o s, (a = ka ∨ a = oa ∨ a = na ∨ a = da ∨ a = pa) → a = some (⟨b, o, s⟩ : Addr) → (W.setCell ⟨rb, i, none⟩ v).heap[b]? = W.heap[b]? := fun a b o s ha e => set_ne (by have := (h.rng a b o s ha e).2; omega)
  refine ⟨hb, ?_, ?_, ?_, ?_, ?_, h.le, h.rng⟩
  · rw [hk]; exact (RB.of_block h.k fun b o s he _ _ => e _ b o s (.inl rfl) he).mono hsz
  · rw [ho]; exact (RB.of_block h.o fun b o s he _ _ => e _ b o s (.inr (.inl rfl)) he).mono hsz
  · rw [hn]; exact (RB.of_block h.n fun b o s he _ _ => e _ b o s (.inr (.inr (.inl rfl))) he).mono hsz
  · rw [hd]; exact (h.d.of_block fun b o s he _ => e _ b o s (.inr (.inr (.inr (.inl rfl)))) he).mono hsz
  · rw [hp]; exact (h.p.of_block fun b o s he _ => e _ b o s (.inr (.inr (.inr (.inr rfl)))) he).mono hsz
theorem RecX.lsn {W : World} {lo rb : Nat} {r : RecV} {ka oa na da pa : Option Addr} {kc oc nc dc pc : Nat} (h : RecX W lo rb r ka oa na da pa kc oc nc dc pc) (x : Int) : RecX (W.setCell ⟨rb, 0, none⟩ (.int .i64 x)) lo rb (r.atLsn x) ka oa na da pa kc oc nc dc pc :=
  h.setAny 0 _ _ rfl rfl rfl rfl rfl (set_at h.blk 0 (.int .i64 x))
theorem RecX.pte {W : World} {lo rb : Nat} {r : RecV} {ka oa na da pa : Option Addr} {kc oc nc dc pc : Nat} (h : RecX W lo rb r ka oa na da pa kc oc nc dc pc) (h1 : r.key.length + r.old.length + r.new.length ≤ 2000) (h2 : r.dirty.length + r.opn.length ≤ 300) : PtE W.heap.size W ka oa na da pa kc oc nc dc pc r.key r.old r.new r.dirty r.opn :=
  ⟨h.k, h.o, h.n, h.d, h.p, Nat.le_refl _, by omega, by omega, by omega, by omega, by omega⟩
theorem RecX.hout {W : World} {lo rb : Nat} {r : RecV} {ka oa na da pa : Option Addr} {kc oc nc dc pc : Nat} (h : RecX W lo rb r ka oa na da pa kc oc nc dc pc) {S : Nat → Prop} (hS : Away S lo rb) : ∀ a b o s, (a = ka ∨ a = oa ∨ a = na) → a = some (⟨b, o, s⟩ : Addr) → ¬ S b := fun a b o s ha e hs => by
  have := h.rng a b o s (by rcases ha with h1 | h1 | h1 <;> simp [h1]) e
  rcases hS b hs with h3 | h3 <;> omega
theorem recx_new {w w' : World} {r : RecV} {a0 a1 a2 a3 a4 : Option Addr} {d0 d1 d2 d3 d4 : Nat} (h0 : OB w.heap.size w' (.slice a0 r.key.length d0) r.key) (h1 : OB w.heap.size w' (.slice a1 r.old.length d1) r.old) (h2 : OB w.heap.size w' (.slice a2 r.new.length d2) r.new)
    (h3 : dirtyE.Own w.heap.size w' (.slice a3 r.dirty.length d3) r.dirty) (h4 : openE.Own w.heap.size w' (.slice a4 r.opn.length d4) r.opn) (hb : Below w.heap.size w w') (fd : ∀ x ∈ r.dirty, okPr x) (fp : ∀ x ∈ r.opn, okPr x) (l1 : r.key.length + r.old.length + r.new.length ≤ 2000) (l2 : r.dirty.length + r.opn.length ≤ 300) :
    RecX (w'.alloc (recObj r a0 a1 a2 a3 a4 d0 d1 d2 d3 d4)) w.heap.size w'.heap.size r a0 a1 a2 a3 a4 d0 d1 d2 d3 d4 := by
  have hal : Below w'.heap.size w' (w'.alloc (recObj r a0 a1 a2 a3 a4 d0 d1 d2 d3 d4)) := (Below.refl _ w').alloc (Nat.le_refl _) _
  obtain ⟨b0, e0, q0, r0⟩ := h0.rb (by omega)
  obtain ⟨b1, e1, q1, r1⟩ := h1.rb (by omega)
  obtain ⟨b2, e2, q2, r2⟩ := h2.rb (by omega)
  obtain ⟨b3, e3, q3, r3⟩ := h3.in_ fd
  obtain ⟨b4, e4, q4, r4⟩ := h4.in_ fp
  cases q0; cases q1; cases q2; cases q3; cases q4
  refine ⟨heap_alloc_new w' _, (r0.below hal).mono hal.size, (r1.below hal).mono hal.size, (r2.below hal).mono hal.size, ((dirtyE_pi r3 (by omega)).below hal).mono hal.size, ((openE_pi r4 (by omega)).below hal).mono hal.size, hb.size, fun a b o s ha e => ?_⟩
  rcases ha with rfl | rfl | rfl | rfl | rfl
  · subst e; exact Tx.rows_ge h0 b rfl
  · subst e; exact Tx.rows_ge h1 b rfl
  · subst e; exact Tx.rows_ge h2 b rfl
  · subst e; exact Tx.rows_ge h3 b rfl
  · subst e; exact Tx.rows_ge h4 b rfl
theorem RecI.fit {B : Nat} {w : World} {r : RecV} {ka oa na da pa : Option Addr} {kc oc nc dc pc : Nat} (h : RecI B w r ka oa na da pa kc oc nc dc pc) : r.Fit :=
  ⟨h.wf.work.2, h.wf.prev.2, h.wf.next.2, h.wf.page.2, fun d hd => (h.d.fine d hd).2.2, fun x hx => ⟨(h.p.fine x hx).1.2, (h.p.fine x hx).2.2⟩⟩
structure Two (w0 W : World) (ga gb da la pa db lb pb k : Nat) (Sa Sb : Nat → Prop) (Da : DK) (La : LK) (Pa : PK) (ca : Int → List UInt8) (Db : DK) (Lb : LK) (Pb : PK) (cb : Int → List UInt8) : Prop where
  a : Rig Sa W da la pa k Da La Pa ca
  b : Rig Sb W db lb pb k Db Lb Pb cb
  ab : ∀ g, Sa g → ¬ Sb g
  xa : W.heap[ga]? = some (rigObj da la pa)
  xb : W.heap[gb]? = some (rigObj db lb pb)
  oa : ¬ Sa ga ∧ ¬ Sa gb
  ob : ¬ Sb ga ∧ ¬ Sb gb
  bel : Below w0.heap.size w0 W
  la_ : ∀ g, Sa g → w0.heap.size ≤ g
  lb_ : ∀ g, Sb g → w0.heap.size ≤ g
  na : Pa.count = 30
  nb : Pb.count = 30
theorem Two.swap {w0 W : World} {ga gb da la pa db lb pb k : Nat} {Sa Sb : Nat → Prop} {Da : DK} {La : LK} {Pa : PK} {ca : Int → List UInt8} {Db : DK} {Lb : LK} {Pb : PK} {cb : Int → List UInt8} (h : Two w0 W ga gb da la pa db lb pb k Sa Sb Da La Pa ca Db Lb Pb cb) : Two w0 W gb ga db lb pb da la pa k Sb Sa Db Lb Pb cb Da La Pa ca :=
  ⟨h.b, h.a, fun g hb ha => h.ab g ha hb, h.xb, h.xa, ⟨h.ob.2, h.ob.1⟩, ⟨h.oa.2, h.oa.1⟩, h.bel, h.lb_, h.la_, h.nb, h.na⟩
theorem Two.step {w0 W W' : World} {ga gb da la pa db lb pb k k' : Nat} {Sa Sb Sa' : Nat → Prop} {Da Da' : DK} {La La' : LK} {Pa Pa' : PK} {ca ca' : Int → List UInt8} {Db : DK} {Lb : LK} {Pb : PK} {cb : Int → List UInt8} (h : Two w0 W ga gb da la pa db lb pb k Sa Sb Da La Pa ca Db Lb Pb cb)
    (hr : Rig Sa' W' da la pa k' Da' La' Pa' ca') (hm : Mv Sa Sa' W W') (hc : Pa'.count = Pa.count) (hk : k ≤ k') : Two w0 W' ga gb da la pa db lb pb k' Sa' Sb Da' La' Pa' ca' Db Lb Pb cb := by
  obtain ⟨b1, b2⟩ := hm.below h.la_ h.bel.size
  have hga := lt_of_heap' h.xa
  have hgb := lt_of_heap' h.xb
  refine ⟨hr, (h.b.other hm h.ab).mono hk, hm.out h.ab h.b.lt, (hm.trn.block ga hga h.oa.1).trans h.xa, (hm.trn.block gb hgb h.oa.2).trans h.xb, ⟨fun hs => ?_, fun hs => ?_⟩, h.ob, h.bel.trans b1, b2, h.lb_, hc.trans h.na, h.nb⟩
  · rcases hm.sub ga hs with h1 | h1
    · exact h.oa.1 h1
    · omega
  · rcases hm.sub gb hs with h1 | h1
    · exact h.oa.2 h1
    · omega
theorem Two.keep {w0 W W' : World} {ga gb da la pa db lb pb k k' : Nat} {Sa Sb : Nat → Prop} {Da : DK} {La : LK} {Pa : PK} {ca : Int → List UInt8} {Db : DK} {Lb : LK} {Pb : PK} {cb : Int → List UInt8} (h : Two w0 W ga gb da la pa db lb pb k Sa Sb Da La Pa ca Db Lb Pb cb)
    (hb : ∀ g, g < W.heap.size → (Sa g ∨ Sb g ∨ g = ga ∨ g = gb) → W'.heap[g]? = W.heap[g]?) (hs : W.heap.size ≤ W'.heap.size) (hl : Below w0.heap.size w0 W') (hk : k ≤ k') : Two w0 W' ga gb da la pa db lb pb k' Sa Sb Da La Pa ca Db Lb Pb cb :=
  ⟨h.a.keep (fun g hg => hb g (h.a.lt g hg) (.inl hg)) hs hk, h.b.keep (fun g hg => hb g (h.b.lt g hg) (.inr (.inl hg))) hs hk, h.ab, (hb ga (lt_of_heap' h.xa) (.inr (.inr (.inl rfl)))).trans h.xa, (hb gb (lt_of_heap' h.xb) (.inr (.inr (.inr rfl)))).trans h.xb, h.oa, h.ob, hl, h.la_, h.lb_, h.na, h.nb⟩
theorem Two.below {w0 W W' : World} {ga gb da la pa db lb pb k : Nat} {Sa Sb : Nat → Prop} {Da : DK} {La : LK} {Pa : PK} {ca : Int → List UInt8} {Db : DK} {Lb : LK} {Pb : PK} {cb : Int → List UInt8} (h : Two w0 W ga gb da la pa db lb pb k Sa Sb Da La Pa ca Db Lb Pb cb) (hb : Below W.heap.size W W') : Two w0 W' ga gb da la pa db lb pb k Sa Sb Da La Pa ca Db Lb Pb cb :=
  h.keep (fun g hg _ => hb.block g hg) hb.size (h.bel.trans (hb.mono h.bel.size)) (Nat.le_refl _)
theorem Two.drew {w0 W : World} {ga gb da la pa db lb pb k : Nat} {Sa Sb : Nat → Prop} {Da : DK} {La : LK} {Pa : PK} {ca : Int → List UInt8} {Db : DK} {Lb : LK} {Pb : PK} {cb : Int → List UInt8} (h : Two w0 W ga gb da la pa db lb pb k Sa Sb Da La Pa ca Db Lb Pb cb) : Two w0 W.drew ga gb da la pa db lb pb k Sa Sb Da La Pa ca Db Lb Pb cb := h.below (Below.refl _ W).drew
theorem Two.mono {w0 W : World} {ga gb da la pa db lb pb k k' : Nat} {Sa Sb : Nat → Prop} {Da : DK} {La : LK} {Pa : PK} {ca : Int → List UInt8} {Db : DK} {Lb : LK} {Pb : PK} {cb : Int → List UInt8} (h : Two w0 W ga gb da la pa db lb pb k Sa Sb Da La Pa ca Db Lb Pb cb) (hk : k ≤ k') : Two w0 W ga gb da la pa db lb pb k' Sa Sb Da La Pa ca Db Lb Pb cb := h.keep (fun _ _ _ => rfl) (Nat.le_refl _) h.bel hk
theorem Two.set {w0 W : World} {ga gb da la pa db lb pb k : Nat} {Sa Sb : Nat → Prop} {Da : DK} {La : LK} {Pa : PK} {ca : Int → List UInt8} {Db : DK} {Lb : LK} {Pb : PK} {cb : Int → List UInt8} (h : Two w0 W ga gb da la pa db lb pb k Sa Sb Da La Pa ca Db Lb Pb cb) {lo rb : Nat} (hA : Away Sa lo rb) (hB : Away Sb lo rb) (hg : ga < lo ∧ gb < lo) (hl : lo ≤ rb) (h0 : w0.heap.size ≤ lo) (j : Nat) (v : Value) : Two w0 (W.setCell ⟨rb, j, none⟩ v) ga gb da la pa db lb pb k Sa Sb Da La Pa ca Db Lb Pb cb :=
  h.keep (fun g _ hg' => set_ne (fun e => by
    subst e
    rcases hg' with h1 | h1 | h1 | h1
    · rcases hA _ h1 with h2 | h2 <;> omega
    · rcases hB _ h1 with h2 | h2 <;> omega
    · omega
    · omega)) (by rw [size_set]; exact Nat.le_refl _) (h.bel.setCell (p := ⟨rb, j, none⟩) (by show w0.heap.size ≤ rb; omega) v) (Nat.le_refl _)
theorem Two.cells {w0 W : World} {ga gb da la pa db lb pb k : Nat} {Sa Sb : Nat → Prop} {Da : DK} {La : LK} {Pa : PK} {ca : Int → List UInt8} {Db : DK} {Lb : LK} {Pb : PK} {cb : Int → List UInt8} (h : Two w0 W ga gb da la pa db lb pb k Sa Sb Da La Pa ca Db Lb Pb cb) :
    W.cell? ⟨ga, 1, none⟩ = some (.pointer (some ⟨la, 0, none⟩)) ∧ W.cell? ⟨ga, 2, none⟩ = some (.pointer (some ⟨pa, 0, none⟩)) ∧ W.cell? ⟨gb, 1, none⟩ = some (.pointer (some ⟨lb, 0, none⟩)) ∧ W.cell? ⟨gb, 2, none⟩ = some (.pointer (some ⟨pb, 0, none⟩)) :=
  ⟨cell_of_row _ _ 1 _ _ _ h.xa, cell_of_row _ _ 2 _ _ _ h.xa, cell_of_row _ _ 1 _ _ _ h.xb, cell_of_row _ _ 2 _ _ _ h.xb⟩
theorem Away.mv {S S' : Nat → Prop} {W W' : World} {lo rb : Nat} (h : Away S lo rb) (hm : Mv S S' W W') (hl : rb < W.heap.size) : Away S' lo rb := fun g hg => by
  rcases hm.sub g hg with h1 | h1
  · exact h g h1
  · exact .inr (by omega)
theorem argBad_core {r : RecV} {L M : LK} (h : CoreEq L M) : argBad r L ↔ argBad r M := by
  unfold argBad
  rw [h.end_]
theorem doF_core {r : RecV} {L M : LK} (h : CoreEq L M) (cnt : Int) (c : Int → List UInt8) : doF r L cnt c = doF r M cnt c := by
  unfold doF
  by_cases ha : argBad r L
  · rw [if_pos ha, if_pos ((argBad_core h).1 ha)]
  · rw [if_neg ha, if_neg (fun h2 => ha ((argBad_core h).2 h2))]
def duo (a b : Value) : Nat → Value := fun k => if k = 0 then a else b
theorem apart2 (B : Nat) (a b : Value) (la lb' : List UInt8) (w : World) (h1 : OB B w a la) (h2 : OB B w b lb') (d1 : ∀ x y, a.ownBlock = some x → b.ownBlock = some y → x ≠ y) :
    Ap 5 1 TB B w.heap.size 2 (duo a b) (fun k => if k = 0 then la.length else lb'.length) (fun _ => 0) w := by
  refine ⟨fun k hk => ?_, fun k hk x e => ?_, fun j k hj hk hne x e1 e2 => ?_, Nat.le_refl _⟩
  · rcases (show k = 0 ∨ k = 1 by omega) with rfl | rfl
    · exact ⟨_, h1, TB_stab.zero (e := 5) (le := 27) _ _ _⟩
    · exact ⟨_, h2, TB_stab.zero (e := 5) (le := 27) _ _ _⟩
  · rcases (show k = 0 ∨ k = 1 by omega) with rfl | rfl
    · exact (rows_ge h1 x e).2
    · exact (rows_ge h2 x e).2
  · rcases (show j = 0 ∨ j = 1 by omega) with rfl | rfl <;> rcases (show k = 0 ∨ k = 1 by omega) with rfl | rfl
    · exact hne rfl
    · exact d1 x x e1 e2 rfl
    · exact d1 x x e2 e1 rfl
    · exact hne rfl
theorem ApartBytes2 (B : Nat) (a b : Value) (la lb' : List UInt8) (w : World) (hB : B ≤ w.heap.size) (h1 : OB B w a la) (h2 : OB B w b lb') (d1 : ∀ x y, a.ownBlock = some x → b.ownBlock = some y → x ≠ y) (l1 : la.length ≤ 1000000) (l2 : lb'.length ≤ 1000000) :
    Calls Tryz.prog 16 #[.slice (some ⟨w.heap.size, 0, none⟩) 2 2] (w.alloc (.cells #[a, b] 27)) fun e w' => e = .returned (.bool true) ∧ Out 2 (duo a b) (w.alloc (.cells #[a, b] 27)) w' := by
  have hb : Below w.heap.size w (w.alloc (.cells #[a, b] 27)) := (Below.refl _ w).alloc (Nat.le_refl _) _
  have hn := heap_alloc_new w (.cells #[a, b] 27)
  refine ApartBytes_any B 2 2 w.heap.size (duo a b) (fun k => if k = 0 then la.length else lb'.length) _ (Nat.le_trans hB hb.size) (apart2 B a b la lb' _ (rows_below h1 hb) (rows_below h2 hb) d1) (by decide) ⟨by decide, by decide⟩ (by rw [World.size_alloc]; omega) (fun k hk => ?_) (fun k hk => ?_)
  · rcases (show k = 0 ∨ k = 1 by omega) with rfl | rfl <;> rw [cell_of_row _ w.heap.size _ _ _ _ hn] <;> rfl
  · rcases (show k = 0 ∨ k = 1 by omega) with rfl | rfl <;> simp <;> omega
theorem append_lsn_le {L : LK} (h : ∃ k, L.Ok k) (r : RecV) : (L.append r).1 ≤ 9223372036854775807 := by
  have hm := LK.end_max h
  obtain ⟨k, hk⟩ := h
  have hb := hk.end_bd
  have hs : L.sheet.end_ = (L.last.num + 1) * 512 + 0 + 1 := by
    have e : L.sheet.last = ⟨L.last.num + 1, 0, L.last.body.length, 0, [], 0, false⟩ := by
      show (L.sheets ++ [_]).getLastD sh0 = _
      simp
    unfold LK.end_
    rw [e]
    rfl
  unfold LK.append
  split
  · exact (by omega : (0 : Int) ≤ 9223372036854775807)
  · split
    · exact hm
    · split
      · exact (by omega : (0 : Int) ≤ 9223372036854775807)
      · show L.sheet.end_ ≤ _
        rw [hs]; omega
theorem OB.mv {base : Nat} {w w' : World} {v : Value} {l : List UInt8} {S : Nat → Prop} (h : OB base w v l) (hm : Trn S w w') (hS : ∀ g, S g → g < base) : OB base w' v l :=
  rows_keep h fun b hb => hm.block b (rows_ge h b hb).2 (fun hs => by have := hS b hs; have := (rows_ge h b hb).1; omega)
theorem few_box {w0 W V w4 : World} {ga gb da la pa db lb pb k : Nat} {Sa Sb : Nat → Prop} {Da : DK} {La : LK} {Pa : PK} {ca : Int → List UInt8} {Db : DK} {Lb : LK} {Pb : PK} {cb : Int → List UInt8} (h : Two w0 W ga gb da la pa db lb pb k Sa Sb Da La Pa ca Db Lb Pb cb) (hV : Below W.heap.size W V)
    {r : RecV} {a0 a1 a2 a3 a4 : Option Addr} {d0 d1 d2 d3 d4 : Nat} (h0 : OB V.heap.size w4 (.slice a0 r.key.length d0) r.key) (h1 : OB V.heap.size w4 (.slice a1 r.old.length d1) r.old) (h2 : OB V.heap.size w4 (.slice a2 r.new.length d2) r.new)
    (h3 : dirtyE.Own V.heap.size w4 (.slice a3 r.dirty.length d3) r.dirty) (h4 : openE.Own V.heap.size w4 (.slice a4 r.opn.length d4) r.opn) (hb : Below V.heap.size V w4) (fd : ∀ x ∈ r.dirty, okPr x) (fp : ∀ x ∈ r.opn, okPr x) (l1 : r.key.length + r.old.length + r.new.length ≤ 2000) (l2 : r.dirty.length + r.opn.length ≤ 300) :
    Two w0 (w4.alloc (recObj r a0 a1 a2 a3 a4 d0 d1 d2 d3 d4)) ga gb da la pa db lb pb k Sa Sb Da La Pa ca Db Lb Pb cb ∧ RecX (w4.alloc (recObj r a0 a1 a2 a3 a4 d0 d1 d2 d3 d4)) V.heap.size w4.heap.size r a0 a1 a2 a3 a4 d0 d1 d2 d3 d4 ∧
      Away Sa V.heap.size w4.heap.size ∧ Away Sb V.heap.size w4.heap.size ∧ (ga < V.heap.size ∧ gb < V.heap.size) ∧ w0.heap.size ≤ V.heap.size := by
  have hal : Below w4.heap.size w4 (w4.alloc (recObj r a0 a1 a2 a3 a4 d0 d1 d2 d3 d4)) := (Below.refl _ w4).alloc (Nat.le_refl _) _
  have s1 := hV.size
  have s2 := hb.size
  have s0 := h.bel.size
  refine ⟨h.below ((hV.trans (hb.mono s1)).trans (hal.mono (by omega))), recx_new h0 h1 h2 h3 h4 hb fd fp l1 l2, fun g hg => .inl ?_, fun g hg => .inl ?_, ⟨?_, ?_⟩, by omega⟩
  · have := h.a.lt g hg; omega
  · have := h.b.lt g hg; omega
  · have := lt_of_heap' h.xa; omega
  · have := lt_of_heap' h.xb; omega
structure Few (w0 W : World) (ga gb da la pa db lb pb k : Nat) (Sa Sb : Nat → Prop) (Da : DK) (La : LK) (Pa : PK) (ca : Int → List UInt8) (Db : DK) (Lb : LK) (Pb : PK) (cb : Int → List UInt8) (lo rb : Nat) (r : RecV) (ka oa na qa za : Option Addr) (kc oc nc qc zc : Nat) : Prop where
  two : Two w0 W ga gb da la pa db lb pb k Sa Sb Da La Pa ca Db Lb Pb cb
  rec_ : RecX W lo rb r ka oa na qa za kc oc nc qc zc
  wa : Away Sa lo rb
  wb : Away Sb lo rb
  gl : ga < lo ∧ gb < lo
  le : w0.heap.size ≤ lo
  l1 : r.key.length + r.old.length + r.new.length ≤ 2000
  l2 : r.dirty.length + r.opn.length ≤ 300
  fit : r.Fit
theorem Few.swap {w0 W : World} {ga gb da la pa db lb pb k : Nat} {Sa Sb : Nat → Prop} {Da : DK} {La : LK} {Pa : PK} {ca : Int → List UInt8} {Db : DK} {Lb : LK} {Pb : PK} {cb : Int → List UInt8} {lo rb : Nat} {r : RecV} {ka oa na qa za : Option Addr} {kc oc nc qc zc : Nat}
    (h : Few w0 W ga gb da la pa db lb pb k Sa Sb Da La Pa ca Db Lb Pb cb lo rb r ka oa na qa za kc oc nc qc zc) : Few w0 W gb ga db lb pb da la pa k Sb Sa Db Lb Pb cb Da La Pa ca lo rb r ka oa na qa za kc oc nc qc zc :=
  ⟨h.two.swap, h.rec_, h.wb, h.wa, ⟨h.gl.2, h.gl.1⟩, h.le, h.l1, h.l2, h.fit⟩
theorem Few.drew {w0 W : World} {ga gb da la pa db lb pb k : Nat} {Sa Sb : Nat → Prop} {Da : DK} {La : LK} {Pa : PK} {ca : Int → List UInt8} {Db : DK} {Lb : LK} {Pb : PK} {cb : Int → List UInt8} {lo rb : Nat} {r : RecV} {ka oa na qa za : Option Addr} {kc oc nc qc zc : Nat}
    (h : Few w0 W ga gb da la pa db lb pb k Sa Sb Da La Pa ca Db Lb Pb cb lo rb r ka oa na qa za kc oc nc qc zc) : Few w0 W.drew ga gb da la pa db lb pb k Sa Sb Da La Pa ca Db Lb Pb cb lo rb r ka oa na qa za kc oc nc qc zc :=
  ⟨h.two.drew, h.rec_.drew, h.wa, h.wb, h.gl, h.le, h.l1, h.l2, h.fit⟩
theorem Few.step {w0 W W' : World} {ga gb da la pa db lb pb k k' : Nat} {Sa Sb Sa' : Nat → Prop} {Da Da' : DK} {La La' : LK} {Pa Pa' : PK} {ca ca' : Int → List UInt8} {Db : DK} {Lb : LK} {Pb : PK} {cb : Int → List UInt8} {lo rb : Nat} {r : RecV} {ka oa na qa za : Option Addr} {kc oc nc qc zc : Nat}
    (h : Few w0 W ga gb da la pa db lb pb k Sa Sb Da La Pa ca Db Lb Pb cb lo rb r ka oa na qa za kc oc nc qc zc) (hr : Rig Sa' W' da la pa k' Da' La' Pa' ca') (hm : Mv Sa Sa' W W') (hc : Pa'.count = Pa.count) (hk : k ≤ k') : Few w0 W' ga gb da la pa db lb pb k' Sa' Sb Da' La' Pa' ca' Db Lb Pb cb lo rb r ka oa na qa za kc oc nc qc zc :=
  ⟨h.two.step hr hm hc hk, h.rec_.mv hm.trn h.wa, h.wa.mv hm h.rec_.lt, h.wb, h.gl, h.le, h.l1, h.l2, h.fit⟩
theorem Few.lsn {w0 W : World} {ga gb da la pa db lb pb k : Nat} {Sa Sb : Nat → Prop} {Da : DK} {La : LK} {Pa : PK} {ca : Int → List UInt8} {Db : DK} {Lb : LK} {Pb : PK} {cb : Int → List UInt8} {lo rb : Nat} {r : RecV} {ka oa na qa za : Option Addr} {kc oc nc qc zc : Nat}
    (h : Few w0 W ga gb da la pa db lb pb k Sa Sb Da La Pa ca Db Lb Pb cb lo rb r ka oa na qa za kc oc nc qc zc) (x : Int) : Few w0 (W.setCell ⟨rb, 0, none⟩ (.int .i64 x)) ga gb da la pa db lb pb k Sa Sb Da La Pa ca Db Lb Pb cb lo rb (r.atLsn x) ka oa na qa za kc oc nc qc zc :=
  ⟨h.two.set h.wa h.wb h.gl h.rec_.le h.le 0 _, h.rec_.lsn x, h.wa, h.wb, h.gl, h.le, h.l1, h.l2, ⟨h.fit.work, h.fit.prev, h.fit.next, h.fit.page, h.fit.dirty, h.fit.opn⟩⟩
theorem Few.app {w0 W : World} {ga gb da la pa db lb pb k : Nat} {Sa Sb : Nat → Prop} {Da : DK} {La : LK} {Pa : PK} {ca : Int → List UInt8} {Db : DK} {Lb : LK} {Pb : PK} {cb : Int → List UInt8} {lo rb : Nat} {r : RecV} {ka oa na qa za : Option Addr} {kc oc nc qc zc : Nat}
    (h : Few w0 W ga gb da la pa db lb pb k Sa Sb Da La Pa ca Db Lb Pb cb lo rb r ka oa na qa za kc oc nc qc zc) (hk : k ≤ 100000000) :
    Calls Tryz.prog 11 #[.pointer (some ⟨la, 0, none⟩), recV r ka oa na qa za kc oc nc qc zc] W fun e W' => ∃ Sa', e = .returned (.tuple #[.int .i64 (La.append r).1, .int .i64 (La.append r).2.1]) ∧ Few w0 W' ga gb da la pa db lb pb (k + 1) Sa' Sb Da (La.append r).2.2 Pa ca Db Lb Pb cb lo rb r ka oa na qa za kc oc nc qc zc := by
  refine (h.two.a.append W.heap.size r ka oa na qa za kc oc nc qc zc (h.rec_.pte h.l1 h.l2) h.fit (by omega)).mono ?_
  rintro e W' ⟨S', rfl, hr, hm⟩
  exact ⟨S', rfl, h.step hr hm rfl (Nat.le_succ _)⟩
theorem Few.do_ {w0 W : World} {ga gb da la pa db lb pb k : Nat} {Sa Sb : Nat → Prop} {Da : DK} {La : LK} {Pa : PK} {ca : Int → List UInt8} {Db : DK} {Lb : LK} {Pb : PK} {cb : Int → List UInt8} {lo rb : Nat} {r : RecV} {ka oa na qa za : Option Addr} {kc oc nc qc zc : Nat}
    (h : Few w0 W ga gb da la pa db lb pb k Sa Sb Da La Pa ca Db Lb Pb cb lo rb r ka oa na qa za kc oc nc qc zc) (hk : k ≤ 100000000) (hl : r.lsn ≤ 9223372036854775807) :
    Calls Tryz.prog 12 #[.pointer (some ⟨pa, 0, none⟩), recV r ka oa na qa za kc oc nc qc zc] W fun e W' => ∃ Sa' Da' La' Pa', e = .returned (.tuple #[.bool (doF r La 30 ca).1, .int .i64 (doF r La 30 ca).2.1]) ∧ Few w0 W' ga gb da la pa db lb pb (k + 20000) Sa' Sb Da' La' Pa' (doF r La 30 ca).2.2 Db Lb Pb cb lo rb r ka oa na qa za kc oc nc qc zc ∧ CoreEq La' La ∧ Pa'.most = Pa.most := by
  refine (h.two.a.do_ W.heap.size r ka oa na qa za kc oc nc qc zc h.rec_.k h.rec_.o h.rec_.n (Nat.le_refl _) (h.rec_.hout h.wa) hl (by omega)).mono ?_
  rintro e W' ⟨D', L', P', S', rfl, hr, hst, hx, hm⟩
  rw [h.two.na] at hr ⊢
  exact ⟨S', D', L', P', rfl, h.step hr hm hst.count (by omega), hst.core, hst.most⟩
theorem Two.read {w0 W : World} {ga gb da la pa db lb pb k : Nat} {Sa Sb : Nat → Prop} {Da : DK} {La : LK} {Pa : PK} {ca : Int → List UInt8} {Db : DK} {Lb : LK} {Pb : PK} {cb : Int → List UInt8} (h : Two w0 W ga gb da la pa db lb pb k Sa Sb Da La Pa ca Db Lb Pb cb) (hk : k ≤ 100000000) {n : Int} (hn : 0 ≤ n ∧ n < 30) :
    Calls Tryz.prog 13 #[.pointer (some ⟨pa, 0, none⟩), .int .i64 n] W fun e W' => ∃ Sa' Da' La' Pa' v, e = .returned (.tuple #[v, .int .i64 0]) ∧ OB W.heap.size W' v (ca n) ∧ (∀ g, v.ownBlock = some g → ¬ Sa' g ∧ ¬ Sb g) ∧ (ca n).length = 512 ∧ Two w0 W' ga gb da la pa db lb pb (k + 10000) Sa' Sb Da' La' Pa' ca Db Lb Pb cb ∧ CoreEq La' La ∧ Pa'.most = Pa.most ∧ Trn Sa W W' := by
  refine (h.a.read (n := n) ⟨hn.1, by rw [h.na]; exact hn.2⟩ (by omega)).mono ?_
  rintro e W' ⟨D', L', P', S', v, j, rfl, hob, hv, hr, hkk, hf, hm⟩
  exact ⟨S', D', L', P', v, rfl, hob, fun g hg => ⟨hv g hg, fun hs => by have := h.b.lt g hs; have := (rows_ge hob g hg).1; omega⟩, (h.a.pg n hn.1 (by rw [h.na]; exact hn.2)).2.len, h.step hr hm hkk.count (by omega), hkk.core, hkk.most, hm.trn⟩
theorem Two.frames {w0 W : World} {ga gb da la pa db lb pb k : Nat} {Sa Sb : Nat → Prop} {Da : DK} {La : LK} {Pa : PK} {ca : Int → List UInt8} {Db : DK} {Lb : LK} {Pb : PK} {cb : Int → List UInt8} (h : Two w0 W ga gb da la pa db lb pb k Sa Sb Da La Pa ca Db Lb Pb cb) (hm : Pa.most = 4) :
    Calls Tryz.prog 15 #[.pointer (some ⟨pa, 0, none⟩)] W fun e W' => (∃ n : Nat, n ≤ 4 ∧ e = .returned (.int .i64 n)) ∧ W' = W := by
  refine h.a.frames.mono ?_
  rintro e W' ⟨rfl, rfl⟩
  exact ⟨⟨_, by have := h.a.well.sz; omega, rfl⟩, rfl⟩
theorem OB.mv2 {base : Nat} {w w' : World} {v : Value} {l : List UInt8} {S : Nat → Prop} (h : OB base w v l) (hm : Trn S w w') (hS : ∀ g, v.ownBlock = some g → ¬ S g) : OB base w' v l :=
  rows_keep h fun b hb => hm.block b (rows_ge h b hb).2 (hS b hb)
theorem few_end {w W wb wd we : World} {v1 v2 : Value} {l : List UInt8} {_S : Nat → Prop} (hB : Below w.heap.size w W) (h1 : OB W.heap.size wb v1 l) (h2 : OB wb.heap.size wd v2 l) (ho : Out 2 (duo v1 v2) (wd.alloc (.cells #[v1, v2] 27)) we) (hd : Below w.heap.size w wd) (hs : W.heap.size ≤ wb.heap.size) : Below w.heap.size w we := by
  have hal := hd.alloc hd.size (.cells #[v1, v2] 27)
  refine ⟨ho.os.trans hal.os, ho.tape.trans hal.tape, ho.output.trans hal.output, Nat.le_trans hal.size ho.size, fun k hk => (ho.block k (Nat.lt_of_lt_of_le hk hal.size) (fun j hj e => ?_)).trans (hal.block k hk)⟩
  have s1 := hB.size
  rcases (show j = 0 ∨ j = 1 by omega) with rfl | rfl
  · have := (rows_ge h1 k e).1; omega
  · have := (rows_ge h2 k e).1; omega
theorem apart_few {w W wb wd : World} {v1 v2 : Value} {l : List UInt8} {S : Nat → Prop} (hB : Below w.heap.size w W) (h1 : OB W.heap.size wb v1 l) (h2 : OB wb.heap.size wd v2 l) (hm : Trn S wb wd) (hv : ∀ g, v1.ownBlock = some g → ¬ S g) (hl : l.length = 512) (hs : W.heap.size ≤ wb.heap.size) :
    Calls Tryz.prog 16 #[.slice (some ⟨wd.heap.size, 0, none⟩) 2 2] (wd.alloc (.cells #[v1, v2] 27)) fun e w' => e = .returned (.bool true) ∧ Out 2 (duo v1 v2) (wd.alloc (.cells #[v1, v2] 27)) w' := by
  have s1 := hB.size
  have s2 := hm.size
  refine ApartBytes2 w.heap.size v1 v2 l l wd (by omega) ((h1.mv2 hm hv).mono s1) (h2.mono (by omega)) (fun x y e1 e2 e => ?_) (by omega) (by omega)
  have a1 := (rows_ge h1 x e1).2
  have a2 := (rows_ge h2 y e2).1
  omega
end Go.Proofs.YtohlkkannjifmaaGreatDoor
