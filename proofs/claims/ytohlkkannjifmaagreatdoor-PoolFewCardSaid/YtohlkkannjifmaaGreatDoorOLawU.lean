/- The law: awake's pages have one row; reading them. The law: pages that are right, and what a record makes of all pages of a healthy rig. Plain; no program in sight. The law: a healthy rig as one thing within some blocks: what is asked of it, and what is done to it. -/
import Derived.Test.YtohlkkannjifmaaGreatDoorSteps
import Derived.Test.YtohlkkannjifmaaGreatDoorRowsW
namespace Go.Proofs.YtohlkkannjifmaaGreatDoor
open Go.RowKit Go.Shelf
theorem rows_mk {h : List UInt8} {R : List Rw} (H : PageOf h R) : rowsL (mkP h R) = R := by
  have hb := behind_mk H
  obtain ⟨a, ha, -, hs⟩ := mkP_split H
  have := scan_rows R (mkP h R) a _ hs H.ok
  unfold rowsL
  rw [if_neg (by omega), mkP_cnt H]
  rw [ha] at this
  exact this
theorem aw_rows {n : Int} (h0 : 0 ≤ n) (h1 : n ≤ 9223372036854775807) : (rowsL (setLsnL awP0 n)).length = 1 := by
  obtain ⟨h, e, hp, -⟩ := aw_page h0 h1
  rw [e, rows_mk hp]
  rfl
theorem got_cont {D : DK} {L : LK} {P : PK} (h : Well D L P) {n : Int} (h0 : 0 ≤ n) (h1 : n < P.count) {x : Int × Nat × PK × LK × DK} (hx : FrameP P n L D x) {b : List UInt8} (hb : Cont P D n b) : x.1 = 0 ∧ (x.2.1 < x.2.2.1.frames.length → (x.2.2.1.frames.getD x.2.1 fr0).b = b) := by
  have hg := frame_well h h0 h1 hx
  refine ⟨hg.ok, fun hl => ?_⟩
  obtain ⟨f, hf, hp⟩ := hg.fr
  rw [List.getD_eq_getElem?_getD, hf]
  exact (hg.kept.well.cont_at hf).1 (by rw [hp]; exact hg.kept.cont n b h0 hb)
end Go.Proofs.YtohlkkannjifmaaGreatDoor
namespace Go.Proofs.YtohlkkannjifmaaGreatDoor
open Go.RowKit Go.Shelf
def PgOk (b : List UInt8) : Prop := ∃ h R, b = mkP h R ∧ PageOf h R
theorem PgOk.len {b : List UInt8} (h : PgOk b) : b.length = 512 := by
  obtain ⟨q, R, rfl, hp⟩ := h
  exact mkP_len hp
theorem PgOk.zero : PgOk (List.replicate 512 0) := ⟨_, _, new_mk, new_page⟩
theorem PgOk.turn {b : List UInt8} (h : PgOk b) (k o n : List UInt8) : PgOk (turnL b k o n).2 := by
  obtain ⟨q, R, rfl, hp⟩ := h
  by_cases h0 : (turnL (mkP q R) k o n).1 = 0
  · obtain ⟨e1, e2, -⟩ := turn_ok hp (List.Perm.refl R) k o n h0
    exact ⟨_, _, e1, e2⟩
  · exact ⟨_, _, turn_no hp k o n h0, hp⟩
theorem PgOk.setLsn {b : List UInt8} (h : PgOk b) {x : Int} (hx : x ≤ 9223372036854775807) : PgOk (setLsnL b x) := by
  obtain ⟨q, R, rfl, hp⟩ := h
  by_cases h0 : x < 0
  · rw [setLsn_no _ h0]; exact ⟨_, _, rfl, hp⟩
  · obtain ⟨e1, e2, -⟩ := setLsn_mk hp (by omega) hx
    exact ⟨_, _, e1, e2⟩
theorem PgOk.setNext {b : List UInt8} (h : PgOk b) (x : Int) : PgOk (setNextL b x) := by
  obtain ⟨q, R, rfl, hp⟩ := h
  by_cases h0 : 0 ≤ x ∧ x < 8192
  · obtain ⟨e1, e2, -⟩ := setNext_mk hp h0.1 h0.2
    exact ⟨_, _, e1, e2⟩
  · rw [setNext_no _ h0]; exact ⟨_, _, rfl, hp⟩
def doneF (b : List UInt8) (lsn : Int) (act : List UInt8 → Int × List UInt8) : Bool × Int × List UInt8 :=
  (decide ((lsnL b : Int) < lsn) && decide ((act b).1 = 0), if (lsnL b : Int) < lsn then (act b).1 else 0, if (decide ((lsnL b : Int) < lsn) && decide ((act b).1 = 0)) = true then setLsnL (act b).2 lsn else b)
def updI (c : Int → List UInt8) (n : Int) (b : List UInt8) : Int → List UInt8 := fun m => if m = n then b else c m
theorem updI_at (c : Int → List UInt8) (n : Int) (b : List UInt8) : updI c n b n = b := if_pos rfl
theorem updI_ne {c : Int → List UInt8} {n m : Int} (h : m ≠ n) (b : List UInt8) : updI c n b m = c m := if_neg h
def Pages (P : PK) (D : DK) (c : Int → List UInt8) : Prop := ∀ n, 0 ≤ n → n < P.count → Cont P D n (c n) ∧ PgOk (c n)
theorem Pages.kept {D D' : DK} {L L' : LK} {P P' : PK} {c : Int → List UInt8} (h : Pages P D c) (k : Kept D L P D' L' P') : Pages P' D' c := fun n h0 h1 =>
  have h2 := h n h0 (by rw [← k.count]; exact h1)
  ⟨k.cont n _ h0 h2.1, h2.2⟩
def ActOk (act : List UInt8 → Int × List UInt8) : Prop := ∀ b, PgOk b → PgOk (act b).2
theorem actTurn_ok (k o n : List UInt8) : ActOk (actTurn k o n) := fun _b h => h.turn k o n
theorem actNext_ok (x : Int) : ActOk (actNext x) := fun _b h => h.setNext x
theorem actNew_ok : ActOk actNew := fun _ _ => PgOk.zero
theorem doneF_ok {act : List UInt8 → Int × List UInt8} (ha : ActOk act) {b : List UInt8} (hb : PgOk b) {lsn : Int} (hl : lsn ≤ 9223372036854775807) : PgOk (doneF b lsn act).2.2 := by
  unfold doneF
  dsimp only
  split
  · exact (ha b hb).setLsn hl
  · exact hb
structure Stay (L : LK) (P : PK) (L' : LK) (P' : PK) : Prop where
  core : CoreEq L' L
  first : P'.first = P.first
  count : P'.count = P.count
  most : P'.most = P.most
  le : P.frames.length ≤ P'.frames.length
theorem Stay.refl (L : LK) (P : PK) : Stay L P L P := ⟨CoreEq.refl L, rfl, rfl, rfl, Nat.le_refl _⟩
theorem Stay.trans {L L1 L2 : LK} {P P1 P2 : PK} (h : Stay L P L1 P1) (k : Stay L1 P1 L2 P2) : Stay L P L2 P2 :=
  ⟨k.core.trans h.core, k.first.trans h.first, k.count.trans h.count, k.most.trans h.most, Nat.le_trans h.le k.le⟩
theorem Kept.stay {D D' : DK} {L L' : LK} {P P' : PK} (h : Kept D L P D' L' P') : Stay L P L' P' := ⟨h.core, h.first, h.count, h.most, h.le⟩
theorem done_pages {D : DK} {L : LK} {P : PK} {c : Int → List UInt8} (h : Well D L P) (hc : Pages P D c) {n lsn : Int} (h0 : 0 ≤ n) (h1 : n < P.count) (hl : lsn ≤ 9223372036854775807) {act : List UInt8 → Int × List UInt8} (ha : ActOk act)
    {x : Bool × Int × PK × LK × DK} (hx : DoneP P n lsn act L D x) :
    Well x.2.2.2.2 x.2.2.2.1 x.2.2.1 ∧ Pages x.2.2.1 x.2.2.2.2 (updI c n (doneF (c n) lsn act).2.2) ∧ Stay L P x.2.2.2.1 x.2.2.1 ∧ x.1 = (doneF (c n) lsn act).1 ∧ x.2.1 = (doneF (c n) lsn act).2.1 := by
  have hb := hc n h0 h1
  obtain ⟨g1, g2, g3, g4, g5, g6, g7, g8, g9, g10, g11, g12⟩ := done_well h h0 h1 hb.1 (fun _ => ((ha _ hb.2).setLsn hl).len) hx
  refine ⟨g1, fun m k0 k1 => ?_, ⟨g2, g3, g4, g5, g6⟩, g7, g8⟩
  by_cases hm : m = n
  · subst hm
    rw [updI_at]
    refine ⟨?_, doneF_ok ha hb.2 hl⟩
    rw [g7] at g10
    exact g10
  · rw [updI_ne hm]
    rw [g4] at k1
    exact ⟨g9 m _ k0 hm (hc m k0 k1).1, (hc m k0 k1).2⟩
instance (r : RecV) (L : LK) : Decidable (argBad r L) := by unfold argBad; infer_instance
instance (r : RecV) (c : Int) : Decidable (pageBad r c) := by unfold pageBad; infer_instance
def doLink (r : RecV) (c : Int → List UInt8) : Int → List UInt8 := updI c r.page (doneF (c r.page) r.lsn (actNext r.next)).2.2
def doF (r : RecV) (L : LK) (cnt : Int) (c : Int → List UInt8) : Bool × Int × (Int → List UInt8) :=
  if argBad r L then (false, 2, c) else if pageBad r cnt then (false, 6, c) else if r.kind = 6 then
    ((doneF (c r.page) r.lsn (actNext r.next)).1 || (doneF (doLink r c r.next) r.lsn actNew).1, 0, updI (doLink r c) r.next (doneF (doLink r c r.next) r.lsn actNew).2.2)
  else ((doneF (c r.page) r.lsn (actTurn r.key r.old r.new)).1, (doneF (c r.page) r.lsn (actTurn r.key r.old r.new)).2.1, updI c r.page (doneF (c r.page) r.lsn (actTurn r.key r.old r.new)).2.2)
theorem doneF_zero {act : List UInt8 → Int × List UInt8} (ha : ∀ b, (act b).1 = 0) (b : List UInt8) (lsn : Int) : (doneF b lsn act).2.1 = 0 := by
  unfold doneF
  dsimp only
  split
  · exact ha b
  · rfl
theorem do_pages {D : DK} {L : LK} {P : PK} {c : Int → List UInt8} {r : RecV} (h : Well D L P) (hc : Pages P D c) (hl : r.lsn ≤ 9223372036854775807) {x : Bool × Int × PK × LK × DK} (hx : DoP P r L D x) :
    Well x.2.2.2.2 x.2.2.2.1 x.2.2.1 ∧ Pages x.2.2.1 x.2.2.2.2 (doF r L P.count c).2.2 ∧ Stay L P x.2.2.2.1 x.2.2.1 ∧ x.1 = (doF r L P.count c).1 ∧ x.2.1 = (doF r L P.count c).2.1 := by
  unfold doF
  cases hx with
  | arg ha => rw [if_pos ha]; exact ⟨h, hc, Stay.refl L P, rfl, rfl⟩
  | none ha hp => rw [if_neg ha, if_pos hp]; exact ⟨h, hc, Stay.refl L P, rfl, rfl⟩
  | one x ha hp h6 hd =>
    rw [if_neg ha, if_neg hp, if_neg h6]
    have hp0 : 0 ≤ r.page ∧ r.page < P.count := by unfold pageBad at hp; omega
    exact done_pages h hc hp0.1 hp0.2 hl (actTurn_ok _ _ _) hd
  | bad x ha hp h6 hd he =>
    have hp0 : 0 ≤ r.page ∧ r.page < P.count := by unfold pageBad at hp; omega
    obtain ⟨-, -, -, -, e⟩ := done_pages h hc hp0.1 hp0.2 hl (actNext_ok _) hd
    rw [doneF_zero (fun _ => rfl)] at e
    exact absurd e he
  | two x y ha hp h6 hd he hd2 =>
    rw [if_neg ha, if_neg hp, if_pos h6]
    have hp0 : (0 ≤ r.page ∧ r.page < P.count) ∧ 0 ≤ r.next ∧ r.next < P.count := by unfold pageBad at hp; omega
    obtain ⟨a1, a2, a3, a4, a5⟩ := done_pages h hc hp0.1.1 hp0.1.2 hl (actNext_ok _) hd
    obtain ⟨b1, b2, b3, b4, b5⟩ := done_pages (c := doLink r c) a1 a2 hp0.2.1 (by rw [a3.count]; exact hp0.2.2) hl actNew_ok hd2
    rw [doneF_zero (fun _ => rfl)] at b5
    refine ⟨b1, b2, a3.trans b3, ?_, b5⟩
    rw [a4, b4, b5]
    simp
theorem append_first (L : LK) (r : RecV) : (L.append r).2.2.first = L.first ∧ (L.append r).2.2.count = L.count := by
  unfold LK.append
  split
  · exact ⟨rfl, rfl⟩
  · split
    · exact ⟨rfl, rfl⟩
    · split <;> exact ⟨rfl, rfl⟩
end Go.Proofs.YtohlkkannjifmaaGreatDoor
namespace Go.Proofs.YtohlkkannjifmaaGreatDoor
open Go.RowKit Go.Shelf
structure Rig (S : Nat → Prop) (w : World) (d l p K : Nat) (D : DK) (L : LK) (P : PK) (c : Int → List UInt8) : Prop where
  rg : ∃ U V ds do_ sv m hand Q B Us, RG w U V d ds do_ l p K D L P sv m hand Q B Us ∧ ∀ g, AllB U V d ds do_ g → S g
  lt : ∀ g, S g → g < w.heap.size
  well : Well D L P
  pg : Pages P D c
structure Mv (S S' : Nat → Prop) (w w' : World) : Prop where
  trn : Trn S w w'
  sub : ∀ g, S' g → S g ∨ w.heap.size ≤ g
theorem Mv.below {S S' : Nat → Prop} {w w' : World} (h : Mv S S' w w') {B : Nat} (hS : ∀ g, S g → B ≤ g) (hB : B ≤ w.heap.size) : Below B w w' ∧ ∀ g, S' g → B ≤ g :=
  ⟨h.trn.out hS hB, fun g hg => by
    rcases h.sub g hg with h1 | h1
    · exact hS g h1
    · exact Nat.le_trans hB h1⟩
theorem Mv.out {S S' T : Nat → Prop} {w w' : World} (h : Mv S S' w w') (hST : ∀ g, S g → ¬ T g) (hT : ∀ g, T g → g < w.heap.size) : ∀ g, S' g → ¬ T g := fun g hg ht => by
  rcases h.sub g hg with h1 | h1
  · exact hST g h1 ht
  · exact absurd (hT g ht) (by omega)
theorem Rig.keep {S : Nat → Prop} {w w' : World} {d l p K K' : Nat} {D : DK} {L : LK} {P : PK} {c : Int → List UInt8} (h : Rig S w d l p K D L P c) (hb : ∀ g, S g → w'.heap[g]? = w.heap[g]?) (hs : w.heap.size ≤ w'.heap.size) (hK : K ≤ K') : Rig S w' d l p K' D L P c := by
  obtain ⟨U, V, ds, do_, sv, m, hand, Q, B, Us, hr, hA⟩ := h.rg
  exact ⟨⟨U, V, ds, do_, sv, m, hand, Q, B, Us, ⟨(hr.log.keep (fun i hi => hb i (hA i (.inl hi))) hs).mono hK, (hr.dk.keep fun i hi => hb i (hA i (.inr (.inr hi)))).mono hK, (hr.pf.keep (fun i hi => hb i (hA i (.inr (.inl hi)))) hs).mono hK, hr.du, hr.dv, hr.uv⟩, hA⟩, fun g hg => Nat.lt_of_lt_of_le (h.lt g hg) hs, h.well, h.pg⟩
theorem Rig.below {S : Nat → Prop} {w w' : World} {d l p K : Nat} {D : DK} {L : LK} {P : PK} {c : Int → List UInt8} (h : Rig S w d l p K D L P c) (hb : Below w.heap.size w w') : Rig S w' d l p K D L P c :=
  h.keep (fun g hg => hb.block g (h.lt g hg)) hb.size (Nat.le_refl _)
theorem Rig.mono {S : Nat → Prop} {w : World} {d l p K K' : Nat} {D : DK} {L : LK} {P : PK} {c : Int → List UInt8} (h : Rig S w d l p K D L P c) (hK : K ≤ K') : Rig S w d l p K' D L P c := h.keep (fun _ _ => rfl) (Nat.le_refl _) hK
theorem Rig.other {S S' T : Nat → Prop} {w w' : World} {d l p K : Nat} {D : DK} {L : LK} {P : PK} {c : Int → List UInt8} (h : Rig T w d l p K D L P c) (hm : Mv S S' w w') (hST : ∀ g, S g → ¬ T g) : Rig T w' d l p K D L P c :=
  h.keep (fun g hg => hm.trn.block g (h.lt g hg) (fun hs => hST g hs hg)) hm.trn.size (Nat.le_refl _)
theorem Rig.read {S : Nat → Prop} {w : World} {d l p K : Nat} {D : DK} {L : LK} {P : PK} {c : Int → List UInt8} (h : Rig S w d l p K D L P c) {n : Int} (hn : 0 ≤ n ∧ n < P.count) (hK : K ≤ 800000000) :
    Calls Tryz.prog 13 #[.pointer (some ⟨p, 0, none⟩), .int .i64 n] w fun e w' => ∃ D' L' P' S' v j, e = .returned (.tuple #[v, .int .i64 0]) ∧ OB w.heap.size w' v (c n) ∧ (∀ g, v.ownBlock = some g → ¬ S' g) ∧
      Rig S' w' d l p (K + 10000) D' L' P' c ∧ Kept D L P D' L' P' ∧ FrameP P n L D (0, j, P', L', D') ∧ Mv S S' w w' := by
  obtain ⟨U, V, ds, do_, sv, m, hand, Q, B, Us, hr, hA⟩ := h.rg
  refine (read_any U V d ds do_ l p K D L P sv m hand Q B Us n w hr hn hK).mono ?_
  rintro e w' ⟨x, V', sv', hand', Q', B', Us', hx, hr', ht, hV, hq⟩
  have hc := h.pg n hn.1 hn.2
  obtain ⟨g1, g2⟩ := got_cont h.well hn.1 hn.2 hx hc.1
  have hk := (frame_well h.well hn.1 hn.2 hx).kept
  obtain ⟨x1, x2, P', L', D'⟩ := x
  dsimp only at *
  subst g1
  rcases hq with ⟨h1, -⟩ | ⟨-, hlt, v, rfl, hob, hv⟩
  · exact absurd rfl h1
  have hT : Trn S w w' := ht.mono fun g hg => .inl (hA g hg)
  have hsub : ∀ g, AllB U V' d ds do_ g → S g ∨ w.heap.size ≤ g := fun g hg => by
    rcases hg with h1 | h1 | h1
    · exact .inl (hA g (.inl h1))
    · rcases hV g h1 with h2 | h2
      · exact .inl (hA g (.inr (.inl h2)))
      · exact .inr h2
    · exact .inl (hA g (.inr (.inr h1)))
  refine ⟨D', L', P', AllB U V' d ds do_, v, x2, rfl, ?_, hv, ⟨⟨U, V', ds, do_, sv', m, hand', Q', B', Us', hr', fun _ hg => hg⟩, fun g hg => hr'.lt hg, hk.well, h.pg.kept hk⟩, hk, hx, hT, hsub⟩
  rw [g2 hlt] at hob
  exact hob
theorem Rig.do_ {S : Nat → Prop} {w : World} {d l p K : Nat} {D : DK} {L : LK} {P : PK} {c : Int → List UInt8} (h : Rig S w d l p K D L P c) (N : Nat) (r : RecV) (ka oa na da pa : Option Addr) (kc oc nc dc pc : Nat) (hk : RB N w ka r.key.length kc r.key) (ho : RB N w oa r.old.length oc r.old) (hn : RB N w na r.new.length nc r.new)
    (hN : N ≤ w.heap.size) (hout : ∀ a b o s, (a = ka ∨ a = oa ∨ a = na) → a = some (⟨b, o, s⟩ : Addr) → ¬ S b) (hl : r.lsn ≤ 9223372036854775807) (hK : K ≤ 700000000) :
    Calls Tryz.prog 12 #[.pointer (some ⟨p, 0, none⟩), recV r ka oa na da pa kc oc nc dc pc] w fun e w' => ∃ D' L' P' S', e = .returned (.tuple #[.bool (doF r L P.count c).1, .int .i64 (doF r L P.count c).2.1]) ∧
      Rig S' w' d l p (K + 20000) D' L' P' (doF r L P.count c).2.2 ∧ Stay L P L' P' ∧ DoP P r L D ((doF r L P.count c).1, (doF r L P.count c).2.1, P', L', D') ∧ Mv S S' w w' := by
  obtain ⟨U, V, ds, do_, sv, m, hand, Q, B, Us, hr, hA⟩ := h.rg
  refine (do_any U V d ds do_ l p K D L P sv m hand Q B Us N r ka oa na da pa kc oc nc dc pc w hr hK ⟨hk, ho, hn, hN, fun a b o s ha e hb => hout a b o s ha e (hA b hb), hl⟩).mono ?_
  rintro e w' ⟨x, V', sv', hand', Q', B', Us', hx, hr', ht, hV, rfl⟩
  obtain ⟨k1, k2, k3, k4, k5⟩ := do_pages h.well h.pg hl hx
  obtain ⟨x1, x2, P', L', D'⟩ := x
  dsimp only at *
  subst k4
  subst k5
  have hT : Trn S w w' := ht.mono fun g hg => .inl (hA g hg)
  have hsub : ∀ g, AllB U V' d ds do_ g → S g ∨ w.heap.size ≤ g := fun g hg => by
    rcases hg with h1 | h1 | h1
    · exact .inl (hA g (.inl h1))
    · rcases hV g h1 with h2 | h2
      · exact .inl (hA g (.inr (.inl h2)))
      · exact .inr h2
    · exact .inl (hA g (.inr (.inr h1)))
  exact ⟨D', L', P', AllB U V' d ds do_, rfl, ⟨⟨U, V', ds, do_, sv', m, hand', Q', B', Us', hr', fun _ hg => hg⟩, fun g hg => hr'.lt hg, k1, k2⟩, k3, hx, hT, hsub⟩
theorem Rig.append {S : Nat → Prop} {w : World} {d l p K : Nat} {D : DK} {L : LK} {P : PK} {c : Int → List UInt8} (h : Rig S w d l p K D L P c) (N : Nat) (r : RecV) (ka oa na da pa : Option Addr) (kc oc nc dc pc : Nat) (hP : PtE N w ka oa na da pa kc oc nc dc pc r.key r.old r.new r.dirty r.opn) (hf : r.Fit) (hK : K ≤ 1000000000) :
    Calls Tryz.prog 11 #[.pointer (some ⟨l, 0, none⟩), recV r ka oa na da pa kc oc nc dc pc] w fun e w' => ∃ S', e = .returned (.tuple #[.int .i64 (L.append r).1, .int .i64 (L.append r).2.1]) ∧ Rig S' w' d l p (K + 1) D (L.append r).2.2 P c ∧ Mv S S' w w' := by
  obtain ⟨U, V, ds, do_, sv, m, hand, Q, B, Us, hr, hA⟩ := h.rg
  refine (append_any U l d K L N r ka oa na da pa kc oc nc dc pc w hr.log hP hf hK).mono ?_
  rintro e w' ⟨rfl, U', hl', ht, hU⟩
  have hsub : ∀ g, AllB U' V d ds do_ g → S g ∨ w.heap.size ≤ g := fun g hg => by
    rcases hg with h1 | h1 | h1
    · rcases hU g h1 with h2 | h2
      · exact .inl (hA g (.inl h2))
      · exact .inr h2
    · exact .inl (hA g (.inr (.inl h1)))
    · exact .inl (hA g (.inr (.inr h1)))
  have hr' : RG w' U' V d ds do_ l p (K + 1) D (L.append r).2.2 P sv m hand Q B Us := by
    refine ⟨hl', (hr.dk.keep fun i hi => ht.block i (hr.dk.lt hi) (hr.du i hi)).mono (Nat.le_succ _), (hr.pf.keep (fun i hi => ht.block i (hr.pf.lt i hi) (fun hu => hr.uv i hu hi)) ht.size).mono (Nat.le_succ _), fun g hg hu => ?_, hr.dv, fun g hu hv => ?_⟩
    · rcases hU g hu with h2 | h2
      · exact hr.du g hg h2
      · exact absurd (hr.dk.lt hg) (by omega)
    · rcases hU g hu with h2 | h2
      · exact hr.uv g h2 hv
      · exact absurd (hr.pf.lt g hv) (by omega)
  obtain ⟨f1, f2⟩ := append_first L r
  exact ⟨AllB U' V d ds do_, rfl, ⟨⟨U', V, ds, do_, sv, m, hand, Q, B, Us, hr', fun _ hg => hg⟩, fun g hg => hr'.lt hg, h.well.log ⟨_, hl'.ok⟩ f1 f2, h.pg⟩, ht.mono fun g hg => .inl (hA g (.inl hg)), hsub⟩
theorem Rig.frames {S : Nat → Prop} {w : World} {d l p K : Nat} {D : DK} {L : LK} {P : PK} {c : Int → List UInt8} (h : Rig S w d l p K D L P c) :
    Calls Tryz.prog 15 #[.pointer (some ⟨p, 0, none⟩)] w fun e w' => e = .returned (.int .i64 P.frames.length) ∧ w' = w := by
  obtain ⟨U, V, ds, do_, sv, m, hand, Q, B, Us, hr, hA⟩ := h.rg
  exact hr.frames
def zC : Int → List UInt8 := fun _ => List.replicate 512 0
def BegR (fr : Nat) (pages : Int) (w : World) (e : Ending) (w' : World) : Prop :=
  ∃ g S d l p, e = .returned (.pointer (some ⟨g, 0, none⟩)) ∧ w'.heap[g]? = some (rigObj d l p) ∧ Rig S w' d l p 0 (DK.fresh (40 + pages)) (LK.fresh 40) (PK.fresh fr 40 pages) zC ∧ Below w.heap.size w w' ∧
    (∀ i, S i → w.heap.size ≤ i) ∧ w.heap.size ≤ g ∧ ¬ S g
theorem zC_page (fr : Nat) (pages : Int) : Pages (PK.fresh fr 40 pages) (DK.fresh (40 + pages)) zC := fun n _ _ => ⟨.inr ⟨fun f hf => (by cases hf), rfl⟩, PgOk.zero⟩
theorem fresh_well (fr : Nat) (pages : Int) (h3 : 1 ≤ pages) (h4 : pages ≤ 8152) : Well (DK.fresh (40 + pages)) (LK.fresh 40) (PK.fresh fr 40 pages) :=
  ⟨⟨rfl, rfl, DK.Ok.fresh (by omega) (by omega)⟩, ⟨0, LK.Ok.fresh (by omega) (by omega)⟩, by show (0 : Int) + 40 ≤ 40; omega, by show (40 : Int) + pages ≤ 40 + pages; omega, by show (0 : Int) ≤ pages; omega, List.Pairwise.nil, fun f hf => (by cases hf), fun f hf => (by cases hf), Nat.zero_le _⟩
theorem begin_rig (fr : Nat) (pages : Int) (w : World) (h1 : 4 ≤ fr) (h2 : fr ≤ 32) (h3 : 1 ≤ pages) (h4 : pages ≤ 8152) :
    Calls Tryz.prog 8 #[.int .i64 pages, .int .i64 fr] w (BegR fr pages w) := by
  refine (begin_any fr pages w h1 h2 h3 h4).mono ?_
  rintro e w' ⟨g, U, V, d, ds, do_, l, p, sv, m, hand, Q, B, Us, rfl, hg, hr, hb, hA, hge, hng⟩
  exact ⟨g, AllB U V d ds do_, d, l, p, rfl, hg, ⟨⟨U, V, ds, do_, sv, m, hand, Q, B, Us, hr, fun _ h => h⟩, fun g hg => hr.lt hg, fresh_well fr pages h3 h4, zC_page fr pages⟩, hb, hA, hge, hng⟩
end Go.Proofs.YtohlkkannjifmaaGreatDoor
