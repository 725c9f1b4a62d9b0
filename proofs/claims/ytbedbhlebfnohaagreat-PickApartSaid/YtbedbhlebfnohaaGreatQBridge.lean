/- Lots, wants, uses, lines as values: plain Lean. Lists of api.Lot as they stand in memory; storemankit's equality of them: its walk. (Printed by gen/kinds.py.) What lots serve what wants: plain Lean. cmp.Compare, cmp.Or at int; lot.Compare: walks. Between own slices and the sort's rows. -/
import Derived.Test.YtbedbhlebfnohaaGreatBelowQ
import Derived.Test.YtbedbhlebfnohaaGreatJSame
import Derived.Laws.StructEq
import Derived.Shelf.SlSortCmp.Insertion
import Derived.Test.YtbedbhlebfnohaaGreatJShelf
import Derived.Deep.RegionHeld3
import Derived.Sort.Grow
import Derived.Lib.OwnBridge
import Derived.Shelf.SlSortCmp.KitK
import Derived.Shelf.SlSortCmp.Kit1
namespace Go.Proofs.YtbedbhlebfnohaaGreat
open Go.RowKit

structure LotV where
  id : Int
  item : List UInt8
  fr : Int
  un : Int
  qty : Int
  arr : Bool
deriving DecidableEq
instance : Inhabited LotV := ⟨⟨0, [], 0, 0, 0, false⟩⟩
structure WantV where
  item : List UInt8
  day : Int
  qty : Int
deriving DecidableEq
instance : Inhabited WantV := ⟨⟨[], 0, 0⟩⟩
structure UseV where
  want : Int
  lot : Int
  qty : Int
deriving DecidableEq
instance : Inhabited UseV := ⟨⟨0, 0, 0⟩⟩
structure LineV where
  id : Int
  item : List UInt8
  qty : Int
  asked : Int
  rank : Int
  st : Int
  day : Int
  code : List UInt8
deriving DecidableEq
instance : Inhabited LineV := ⟨⟨0, [], 0, 0, 0, 0, 0, []⟩⟩
end Go.Proofs.YtbedbhlebfnohaaGreat
namespace Go.Proofs.YtbedbhlebfnohaaGreat
open Go.RowKit

def encLot (x : LotV) : List Value := [.int .i64 x.id, encStr x.item, .int .i64 x.fr, .int .i64 x.un, .int .i64 x.qty, .bool x.arr]
def okLot (x : LotV) : Prop := (-9223372036854775808 ≤ x.id ∧ x.id ≤ 9223372036854775807) ∧ x.item.length ≤ 9223372036854775807 ∧ (-9223372036854775808 ≤ x.fr ∧ x.fr ≤ 9223372036854775807) ∧ (-9223372036854775808 ≤ x.un ∧ x.un ≤ 9223372036854775807) ∧ (-9223372036854775808 ≤ x.qty ∧ x.qty ≤ 9223372036854775807)
set_option maxRecDepth 100000 in
theorem lotE_under : Tryz.prog.underlying 23 = some (.slice 46) := Tryz.underlying23
theorem lotE_info : (Tryz.prog.info? 46).map (fun i => (i.zero, i.size, i.bytes)) = some (some (.agg #[.int .i64 0, .string ⟨#[]⟩, .int .i64 0, .int .i64 0, .int .i64 0, .bool false]), 6, 56) := by kernel_rfl
def lotE : El LotV where
  e := 46
  t := 23
  k := 6
  bytes := 56
  z := .agg #[.int .i64 0, .string ⟨#[]⟩, .int .i64 0, .int .i64 0, .int .i64 0, .bool false]
  enc := encLot
  ok := okLot
  len := fun _ => rfl
  one := fun x u hu => by
    unfold encLot at hu
    simp only [List.mem_cons, List.not_mem_nil, or_false] at hu
    rcases hu with rfl | rfl | rfl | rfl | rfl | rfl <;> rfl
  kpos := by decide
  under := lotE_under
  info := lotE_info
  zc := rfl
  small := by decide
theorem lotE_at {B : Nat} {w : World} {a : Option Addr} {n c : Nat} {X : List LotV} (h : lotE.In B w a n c X) (hc : 0 < c) : ∃ b o, a = some ⟨b, o, none⟩ ∧ b < B ∧ ∀ i, i < n → w.cell? ⟨b, o + i * 6, none⟩ = some (.int .i64 (X.getD i default).id) ∧ w.cell? ⟨b, o + i * 6 + 1, none⟩ = some (encStr (X.getD i default).item) ∧ w.cell? ⟨b, o + i * 6 + 2, none⟩ = some (.int .i64 (X.getD i default).fr) ∧ w.cell? ⟨b, o + i * 6 + 3, none⟩ = some (.int .i64 (X.getD i default).un) ∧ w.cell? ⟨b, o + i * 6 + 4, none⟩ = some (.int .i64 (X.getD i default).qty) ∧ w.cell? ⟨b, o + i * 6 + 5, none⟩ = some (.bool (X.getD i default).arr) := by
  obtain ⟨b, o, e, hb, hcell⟩ := h.at_ hc
  exact ⟨b, o, e, hb, fun i hi => ⟨hcell i hi 0 (by decide), hcell i hi 1 (by decide), hcell i hi 2 (by decide), hcell i hi 3 (by decide), hcell i hi 4 (by decide), hcell i hi 5 (by decide)⟩⟩
theorem lotE_lit (W : World) (x : LotV) (t : TypeId) : ∀ j u, (lotE.cells [x])[j]? = some u → (W.alloc (.cells #[.int .i64 x.id, encStr x.item, .int .i64 x.fr, .int .i64 x.un, .int .i64 x.qty, .bool x.arr] t)).cell? ((⟨W.heap.size, 0, none⟩ : Addr).add j) = some u := El.one_lit (E := lotE) W x _ t rfl
theorem eqLot_b (x_id : Int) (x_item : List UInt8) (x_fr : Int) (x_un : Int) (x_qty : Int) (x_arr : Bool) (y_id : Int) (y_item : List UInt8) (y_fr : Int) (y_un : Int) (y_qty : Int) (y_arr : Bool) : decide ((⟨x_id, x_item, x_fr, x_un, x_qty, x_arr⟩ : LotV) = ⟨y_id, y_item, y_fr, y_un, y_qty, y_arr⟩) = (decide (x_id = y_id) && decide (x_item = y_item) && decide (x_fr = y_fr) && decide (x_un = y_un) && decide (x_qty = y_qty) && decide (x_arr = y_arr)) := by
  rw [Bool.eq_iff_iff]
  simp [LotV.mk.injEq, and_assoc]
theorem eqLot (x_id : Int) (x_item : List UInt8) (x_fr : Int) (x_un : Int) (x_qty : Int) (x_arr : Bool) (y_id : Int) (y_item : List UInt8) (y_fr : Int) (y_un : Int) (y_qty : Int) (y_arr : Bool) (w : World) : (Op.equalIn 10000 46 (.agg #[.int .i64 x_id, encStr x_item, .int .i64 x_fr, .int .i64 x_un, .int .i64 x_qty, .bool x_arr]) (.agg #[.int .i64 y_id, encStr y_item, .int .i64 y_fr, .int .i64 y_un, .int .i64 y_qty, .bool y_arr])).run Tryz.prog w = .ok (decide ((⟨x_id, x_item, x_fr, x_un, x_qty, x_arr⟩ : LotV) = ⟨y_id, y_item, y_fr, y_un, y_qty, y_arr⟩)) w := by
  have u0 := Tryz.underlying4
  have a0 := Tryz.isAgg4
  have z0 := Tryz.sizeOf4
  have u1 := Tryz.underlying3
  have a1 := Tryz.isAgg3
  have z1 := Tryz.sizeOf3
  have u2 := Tryz.underlying2
  have a2 := Tryz.isAgg2
  have z2 := Tryz.sizeOf2
  have u3 := Tryz.underlying9
  have a3 := Tryz.isAgg9
  have z3 := Tryz.sizeOf9
  have u4 := Tryz.underlying44
  have a4 := Tryz.isAgg44
  have z4 := Tryz.sizeOf44
  have s0 : Tryz.prog.underlying 44 = some (.struct (Tryz.prog.fieldsOf 44)) := by kernel_rfl
  have q0 : Tryz.prog.stoodInHeld 44 = false := by kernel_rfl
  have hS : Tryz.prog.underlying 46 = some (.struct (Tryz.prog.fieldsOf 46)) := by kernel_rfl
  have hp : Tryz.prog.stoodInHeld 46 = false := by kernel_rfl
  rw [eqLot_b, show (10000 : Nat) = 9999 + 1 from rfl, run_equalIn_agg w 9999 46 _ _ hS hp]
  simp only [Program.fieldsOf, Tryz.underlying46]
  go_simp
  all_goals (try by_cases h_id : x_id = y_id)
  all_goals (try by_cases h_item : x_item = y_item)
  all_goals (try by_cases h_fr : x_fr = y_fr)
  all_goals (try by_cases h_un : x_un = y_un)
  all_goals (try by_cases h_qty : x_qty = y_qty)
  all_goals (try by_cases h_arr : x_arr = y_arr)
  all_goals simp_all
theorem takeLot_succ {P Q : List LotV} {k : Nat} (hk : k < P.length) (hk2 : k < Q.length) (h : P.take k = Q.take k) (he : P.getD k default = Q.getD k default) : P.take (k+1) = Q.take (k+1) := by
  rw [List.take_succ_eq_append_getElem hk, List.take_succ_eq_append_getElem hk2, h]
  simp only [List.getD, List.getElem?_eq_getElem hk, List.getElem?_eq_getElem hk2, Option.getD_some] at he
  rw [he]
set_option maxHeartbeats 4000000 in
theorem SameLots_any (B B' : Nat) (a b : Option Addr) (n m c d : Nat) (P Q : List LotV) (w : World) (hp : lotE.In B w a n c P) (hq : lotE.In B' w b m d Q) :
    Calls Tryz.prog 31 #[.slice a n c, .slice b m d] w fun e w' => e = .returned (.bool (decide (P = Q))) ∧ ∃ q, w' = w.drewN q := by
  have hle := hp.le; have hmx := hp.mx; have hle2 := hq.le; have hmx2 := hq.mx
  have Hln := Lib.hid hp.len
  have Hln2 := Lib.hid hq.len
  by_cases hnm : n = m
  · subst hnm
    go_enter Tryz.func31, Tryz.ntmps31
    go_wp2_with (fail)
    go_loopw [5] (fun i wr => ∃ j : Nat, j ≤ n ∧ i = .int .i64 j ∧ Hid (P.take j = Q.take j) ∧ ∃ q, wr = w.drewN q) (fun i _ => n - (intOf i).toNat)
    case atStart => exact ⟨0, Nat.zero_le _, rfl, Lib.hid rfl, 0, rfl⟩
    case round =>
      obtain ⟨j, hj, rfl, ht, q, rfl⟩ := hrel
      by_cases hlt : j < n
      · obtain ⟨b1, o1, rfl, -, hc1⟩ := lotE_at hp (by omega)
        obtain ⟨b2, o2, rfl, -, hc2⟩ := lotE_at hq (by omega)
        obtain ⟨g0, g1, g2, g3, g4, g5⟩ := hc1 j hlt
        obtain ⟨k0, k1, k2, k3, k4, k5⟩ := hc2 j hlt
        clear hc1 hc2
        have Hsucc := Lib.hid (fun he => takeLot_succ (by rw [← Hln.out]; exact hlt) (by rw [← Hln2.out]; exact hlt) ht.out he)
        have Hno := Lib.hid (show P.getD j default ≠ Q.getD j default → decide (P = Q) = false from fun hne => decide_eq_false fun e => hne (by rw [e]))
        generalize P.getD j default = p at g0 g1 g2 g3 g4 g5 Hsucc Hno
        generalize Q.getD j default = p' at k0 k1 k2 k3 k4 k5 Hsucc Hno
        obtain ⟨x_id, x_item, x_fr, x_un, x_qty, x_arr⟩ := p
        obtain ⟨y_id, y_item, y_fr, y_un, y_qty, y_arr⟩ := p'
        simp only at g0 g1 g2 g3 g4 g5 k0 k1 k2 k3 k4 k5
        have heq0 := eqLot x_id x_item x_fr x_un x_qty x_arr y_id y_item y_fr y_un y_qty y_arr
        cases he : decide ((⟨x_id, x_item, x_fr, x_un, x_qty, x_arr⟩ : LotV) = ⟨y_id, y_item, y_fr, y_un, y_qty, y_arr⟩) with
        | true =>
          have Hs := Lib.hid (Hsucc.out (of_decide_eq_true he))
          have heq : ∀ w, (Op.equalIn 10000 46 (.agg #[.int .i64 x_id, encStr x_item, .int .i64 x_fr, .int .i64 x_un, .int .i64 x_qty, .bool x_arr]) (.agg #[.int .i64 y_id, encStr y_item, .int .i64 y_fr, .int .i64 y_un, .int .i64 y_qty, .bool y_arr])).run Tryz.prog w = .ok true w := fun w => by rw [heq0, he]
          clear he Hno heq0
          go_wp2_with (fail)
          go_quiet (fail)
          go_wp2_with (fail)
          go_roundw
          case rel => exact ⟨j + 1, by omega, by go_num, Hs, _, rfl⟩
          case measure => simp [intOf]; omega
        | false =>
          have Hn := Lib.hid (Hno.out (of_decide_eq_false he))
          have heq : ∀ w, (Op.equalIn 10000 46 (.agg #[.int .i64 x_id, encStr x_item, .int .i64 x_fr, .int .i64 x_un, .int .i64 x_qty, .bool x_arr]) (.agg #[.int .i64 y_id, encStr y_item, .int .i64 y_fr, .int .i64 y_un, .int .i64 y_qty, .bool y_arr])).run Tryz.prog w = .ok false w := fun w => by rw [heq0, he]
          clear he Hsucc heq0
          go_wp2_with (fail)
          go_quiet (fail)
          go_wp2_with (fail)
          go_ret
          rw [Hn.out]
          exact ⟨rfl, _, World.drewN_drewN _ _ _⟩
      · have hge : n ≤ j := by omega
        go_wp2_with (fail)
        go_ret
        have : P = Q := by
          have := ht.out
          rwa [List.take_of_length_le (by rw [← Hln.out]; exact hge), List.take_of_length_le (by rw [← Hln2.out]; exact hge)] at this
        rw [decide_eq_true this]
        exact ⟨rfl, _, rfl⟩
  · have hne : decide (P = Q) = false := decide_eq_false fun e => hnm (by rw [Hln.out, Hln2.out, e])
    rw [hne]
    go_enter Tryz.func31, Tryz.ntmps31
    go_wp2_with (fail)
    go_ret
    exact ⟨rfl, 0, rfl⟩
end Go.Proofs.YtbedbhlebfnohaaGreat
namespace Go.Proofs.YtbedbhlebfnohaaGreat
open Go.RowKit

def hasW (fr un day : Int) : Bool := decide (0 ≤ fr) && decide (fr ≤ un) && decide (un ≤ 4001) && decide (fr ≤ day) && decide (day < un)
def lotOk (l : LotV) : Bool := decide (1 ≤ l.id) && okCode l.item && decide (0 ≤ l.fr) && decide (l.fr < l.un) && decide (l.un ≤ 4001) && decide (1 ≤ l.qty) && decide (l.qty ≤ 1073741824)
def wantOk (w : WantV) : Bool := okCode w.item && decide (0 ≤ w.day) && decide (w.day ≤ 4000) && decide (1 ≤ w.qty) && decide (w.qty ≤ 1125899906842624)
def idsOk (L : List LotV) : Bool := decide ((L.map (·.id)).Nodup)
def mayB (L : List LotV) (W : List WantV) : Bool := decide (L.length ≤ 300) && decide (W.length ≤ 20000) && L.all lotOk && idsOk L && W.all wantOk
def leL (a b : LotV) : Bool := decide (a.un < b.un) || (decide (a.un = b.un) && decide (a.id ≤ b.id))
theorem leL_trans (a b c : LotV) (h : leL a b = true) (h2 : leL b c = true) : leL a c = true := by
  unfold leL at *
  simp only [Bool.or_eq_true, Bool.and_eq_true, decide_eq_true_eq] at *
  omega
theorem leL_total (a b : LotV) : (leL a b || leL b a) = true := by
  unfold leL
  simp only [Bool.or_eq_true, Bool.and_eq_true, decide_eq_true_eq]
  omega
def srt (L : List LotV) : List LotV := L.mergeSort leL
theorem srt_sorted (L : List LotV) : (srt L).Pairwise fun a b => leL a b = true := List.pairwise_mergeSort leL_trans leL_total L
theorem srt_perm (L : List LotV) : (srt L).Perm L := List.mergeSort_perm L leL
theorem srt_only {L S : List LotV} (hi : (L.map (·.id)).Nodup) (hp : S.Perm L) (hs : S.Pairwise fun a b => leL a b = true) : S = srt L := by
  refine List.Perm.eq_of_pairwise (le := fun a b => leL a b = true) (fun a b ha hb h1 h2 => ?_) hs (srt_sorted L) (hp.trans (srt_perm L).symm)
  have hid : a.id = b.id := by
    unfold leL at h1 h2
    simp only [Bool.or_eq_true, Bool.and_eq_true, decide_eq_true_eq] at h1 h2
    omega
  have ha' : a ∈ L := hp.mem_iff.1 ha
  have hb' : b ∈ L := (srt_perm L).mem_iff.1 hb
  obtain ⟨i, hi1, rfl⟩ := List.getElem_of_mem ha'
  obtain ⟨j, hj1, rfl⟩ := List.getElem_of_mem hb'
  have := (List.getElem?_inj (i := i) (j := j) (by simpa using hi1) hi).1 (by simp [hi1, hj1, hid])
  subst this
  rfl

def upd (f : Int → Int) (i v : Int) : Int → Int := fun j => if j = i then v else f j
theorem upd_same (f : Int → Int) (i v : Int) : upd f i v i = v := by unfold upd; rw [if_pos rfl]
theorem upd_other (f : Int → Int) {i j : Int} (v : Int) (h : j ≠ i) : upd f i v j = f j := by unfold upd; rw [if_neg h]
def pass (day : Int) (at_ : Int) : List LotV → (Int → Int) → Int → List UseV × (Int → Int) × Int
  | [], f, need => ([], f, need)
  | l :: C, f, need =>
    if min need (f l.id) = 0 ∨ hasW l.fr l.un day = false then pass day at_ C f need
    else (⟨at_, l.id, min need (f l.id)⟩ :: (pass day at_ C (upd f l.id (f l.id - min need (f l.id))) (need - min need (f l.id))).1, (pass day at_ C (upd f l.id (f l.id - min need (f l.id))) (need - min need (f l.id))).2)
theorem pass_cons (day at_ : Int) (l : LotV) (C : List LotV) (f : Int → Int) (need : Int) : pass day at_ (l :: C) f need = if min need (f l.id) = 0 ∨ hasW l.fr l.un day = false then pass day at_ C f need
    else (⟨at_, l.id, min need (f l.id)⟩ :: (pass day at_ C (upd f l.id (f l.id - min need (f l.id))) (need - min need (f l.id))).1, (pass day at_ C (upd f l.id (f l.id - min need (f l.id))) (need - min need (f l.id))).2) := rfl
theorem pass_skip {day at_ : Int} {A B : List LotV} {f : Int → Int} {need : Int} (hn : 0 ≤ need) (h : ∀ a ∈ A, f a.id = 0 ∨ hasW a.fr a.un day = false) : pass day at_ (A ++ B) f need = pass day at_ B f need := by
  induction A with
  | nil => rfl
  | cons a A ih =>
    rw [List.cons_append, pass_cons, if_pos ?_]
    · exact ih fun x hx => h x (List.mem_cons_of_mem _ hx)
    · rcases h a List.mem_cons_self with h | h
      · exact .inl (by rw [h]; omega)
      · exact .inr h
theorem pass_step {day at_ : Int} {A B : List LotV} {k : LotV} {f : Int → Int} {need : Int} (hn : 0 < need) (h : ∀ a ∈ A, f a.id = 0 ∨ hasW a.fr a.un day = false) (hk : 0 < f k.id) (hh : hasW k.fr k.un day = true) :
    pass day at_ (A ++ k :: B) f need = (⟨at_, k.id, min need (f k.id)⟩ :: (pass day at_ (A ++ k :: B) (upd f k.id (f k.id - min need (f k.id))) (need - min need (f k.id))).1, (pass day at_ (A ++ k :: B) (upd f k.id (f k.id - min need (f k.id))) (need - min need (f k.id))).2) := by
  have hA : ∀ a ∈ A, upd f k.id (f k.id - min need (f k.id)) a.id = 0 ∨ hasW a.fr a.un day = false := fun a ha => by
    rcases h a ha with h1 | h1
    · exact .inl (by rw [upd_other _ _ (fun e => by rw [e] at h1; omega)]; exact h1)
    · exact .inr h1
  rw [pass_skip (by omega) h, pass_skip (by omega) hA]
  have e1 : pass day at_ (k :: B) (upd f k.id (f k.id - min need (f k.id))) (need - min need (f k.id)) = pass day at_ B (upd f k.id (f k.id - min need (f k.id))) (need - min need (f k.id)) := by
    rw [pass_cons, if_pos (.inl (by rw [upd_same]; omega))]
  rw [e1, pass_cons, if_neg (fun e => by
    rcases e with e | e
    · omega
    · rw [hh] at e; cases e)]
theorem pass_left (day at_ : Int) : ∀ (A : List LotV) (f : Int → Int) (need : Int), 0 ≤ need → (∀ a ∈ A, 0 ≤ f a.id) → (∀ j, 0 ≤ f j → 0 ≤ (pass day at_ A f need).2.1 j) ∧ 0 ≤ (pass day at_ A f need).2.2 ∧ (pass day at_ A f need).2.2 ≤ need
  | [], f, need, hn, _ => ⟨fun j h => h, hn, Int.le_refl _⟩
  | l :: C, f, need, hn, h => by
    have hl := h l List.mem_cons_self
    rw [pass_cons]
    split
    · exact pass_left day at_ C f need hn fun x hx => h x (List.mem_cons_of_mem _ hx)
    · have hu : ∀ j, 0 ≤ f j → 0 ≤ upd f l.id (f l.id - min need (f l.id)) j := fun j hj => by
        unfold upd
        split
        · omega
        · exact hj
      obtain ⟨h1, h2, h3⟩ := pass_left day at_ C (upd f l.id (f l.id - min need (f l.id))) (need - min need (f l.id)) (by omega) fun x hx => hu _ (h x (List.mem_cons_of_mem _ hx))
      exact ⟨fun j hj => h1 j (hu j hj), h2, Int.le_trans h3 (by omega)⟩

def leD (W : List WantV) (a b : Nat) : Bool := decide ((W.getD a default).day < (W.getD b default).day) || (decide ((W.getD a default).day = (W.getD b default).day) && decide (a ≤ b))
theorem leD_trans (W : List WantV) (a b c : Nat) (h : leD W a b = true) (h2 : leD W b c = true) : leD W a c = true := by
  unfold leD at *
  simp only [Bool.or_eq_true, Bool.and_eq_true, decide_eq_true_eq] at *
  omega
theorem leD_total (W : List WantV) (a b : Nat) : (leD W a b || leD W b a) = true := by
  unfold leD
  simp only [Bool.or_eq_true, Bool.and_eq_true, decide_eq_true_eq]
  omega
theorem leD_anti {W : List WantV} {a b : Nat} (h : leD W a b = true) (h2 : leD W b a = true) : a = b := by
  unfold leD at *
  simp only [Bool.or_eq_true, Bool.and_eq_true, decide_eq_true_eq] at *
  omega
def dayO (W : List WantV) : List Nat := (List.range W.length).mergeSort (leD W)
theorem dayO_sorted (W : List WantV) : (dayO W).Pairwise fun a b => leD W a b = true := List.pairwise_mergeSort (leD_trans W) (leD_total W) _
theorem dayO_perm (W : List WantV) : (dayO W).Perm (List.range W.length) := List.mergeSort_perm _ _
theorem dayO_len (W : List WantV) : (dayO W).length = W.length := by rw [(dayO_perm W).length_eq, List.length_range]
theorem dayO_mem {W : List WantV} {i : Nat} : i ∈ dayO W ↔ i < W.length := by rw [(dayO_perm W).mem_iff, List.mem_range]
theorem dayO_only {W : List WantV} {S : List Nat} (hp : S.Perm (List.range W.length)) (hs : S.Pairwise fun a b => leD W a b = true) : S = dayO W :=
  List.Perm.eq_of_pairwise (le := fun a b => leD W a b = true) (fun _ _ _ _ h1 h2 => leD_anti h1 h2) hs (dayO_sorted W) (hp.trans (dayO_perm W).symm)
def fillF (S : List LotV) (W : List WantV) : List Nat → (Int → Int) → List UseV → Option (List UseV × (Int → Int))
  | [], f, out => some (out, f)
  | i :: os, f, out =>
    if 0 < (pass (W.getD i default).day i (S.filter fun l => decide (l.item = (W.getD i default).item)) f (W.getD i default).qty).2.2 then none
    else fillF S W os (pass (W.getD i default).day i (S.filter fun l => decide (l.item = (W.getD i default).item)) f (W.getD i default).qty).2.1 (out ++ (pass (W.getD i default).day i (S.filter fun l => decide (l.item = (W.getD i default).item)) f (W.getD i default).qty).1)
def left0 (L : List LotV) : Int → Int := fun i => ((L.find? fun l => decide (l.id = i)).map (·.qty)).getD 0
def fillX (L : List LotV) (W : List WantV) : Option (List UseV × (Int → Int)) := if mayB L W = true then fillF (srt L) W (dayO W) (left0 L) [] else none
end Go.Proofs.YtbedbhlebfnohaaGreat
namespace Go.Proofs.YtbedbhlebfnohaaGreat
open Go.RowKit

def cmpI (x y : Int) : Int := if x < y then -1 else if y < x then 1 else 0
theorem compare_any (x y : Int) (w : World) : Calls Tryz.prog 188 #[.int .i64 x, .int .i64 y] w fun e w' => e = .returned (.int .i64 (cmpI x y)) ∧ w' = w := by
  have HN := Lib.hid (fun z : Int => Tryz.cmp_isNaN_int2 z w)
  by_cases h1 : x < y
  · have E := Lib.hid (show cmpI x y = -1 from if_pos h1)
    go_enter Tryz.func188, Tryz.ntmps188
    go_wp2_with (first | (go_at_call 199; refine (HN.out _).mono ?_; rintro e w9 ⟨rfl, rfl⟩))
    go_ret
    exact ⟨by rw [E.out]; rfl, rfl⟩
  · by_cases h2 : y < x
    · have E := Lib.hid (show cmpI x y = 1 by unfold cmpI; rw [if_neg h1, if_pos h2])
      go_enter Tryz.func188, Tryz.ntmps188
      go_wp2_with (first | (go_at_call 199; refine (HN.out _).mono ?_; rintro e w9 ⟨rfl, rfl⟩))
      go_ret
      exact ⟨by rw [E.out]; rfl, rfl⟩
    · have E := Lib.hid (show cmpI x y = 0 by unfold cmpI; rw [if_neg h1, if_neg h2])
      go_enter Tryz.func188, Tryz.ntmps188
      go_wp2_with (first | (go_at_call 199; refine (HN.out _).mono ?_; rintro e w9 ⟨rfl, rfl⟩))
      go_ret
      exact ⟨by rw [E.out]; rfl, rfl⟩
def orI (x y : Int) : Int := if x ≠ 0 then x else y
theorem or_any (g : Nat) (x y : Int) (w : World) (h0 : w.cell? ⟨g, 0, none⟩ = some (.int .i64 x)) (h1 : w.cell? ⟨g, 1, none⟩ = some (.int .i64 y)) :
    Calls Tryz.prog 187 #[.slice (some ⟨g, 0, none⟩) 2 2] w fun e w' => e = .returned (.int .i64 (orI x y)) ∧ w' = w := by
  by_cases hx : x = 0
  · subst hx
    have E := Lib.hid (show orI 0 y = y by unfold orI; rw [if_neg (by simp)])
    go_enter Tryz.func187, Tryz.ntmps187
    go_wp2_with (fail)
    go_loopw [8] (fun i wr => ∃ j : Nat, j ≤ 2 ∧ i = .int .i64 j ∧ Hid (j = 2 → y = 0) ∧ w = wr) (fun i _ => 2 - (intOf i).toNat)
    case atStart => exact ⟨0, by omega, rfl, Lib.hid (fun h => by omega), rfl⟩
    case round =>
      obtain ⟨j, hj, rfl, hy, rfl⟩ := hrel
      by_cases j0 : j = 0
      · subst j0
        go_wp2_with (fail)
        go_roundw
        case rel => exact ⟨1, by omega, by go_num, Lib.hid (fun h => by omega), by first | rfl | trivial⟩
        case measure => simp [intOf]
      · by_cases j1 : j = 1
        · subst j1
          by_cases hy0 : y = 0
          · have HY := Lib.hid hy0
            go_wp2_with (fail)
            go_roundw
            case rel => exact ⟨2, by omega, by go_num, Lib.hid (fun _ => HY.out), by first | rfl | trivial⟩
            case measure => simp [intOf]
          · go_wp2_with (fail)
            go_ret
            exact ⟨by rw [E.out]; rfl, rfl⟩
        · have j2 : j = 2 := by omega
          subst j2
          have HY := Lib.hid (hy.out rfl)
          go_wp2_with (fail)
          go_ret
          exact ⟨by rw [E.out, HY.out]; rfl, rfl⟩
  · have E := Lib.hid (show orI x y = x by unfold orI; rw [if_pos (by simpa using hx)])
    go_enter Tryz.func187, Tryz.ntmps187
    go_wp2_with (fail)
    go_loopw [8] (fun i wr => i = .int .i64 0 ∧ w = wr) (fun i _ => 2 - (intOf i).toNat)
    case atStart => exact ⟨rfl, rfl⟩
    case round =>
      obtain ⟨rfl, rfl⟩ := hrel
      go_wp2_with (fail)
      go_ret
      exact ⟨by rw [E.out]; rfl, rfl⟩
def cmpL (a b : LotV) : Int := orI (cmpI a.un b.un) (cmpI a.id b.id)
def LotV.val (x : LotV) : Value := .agg #[.int .i64 x.id, encStr x.item, .int .i64 x.fr, .int .i64 x.un, .int .i64 x.qty, .bool x.arr]
set_option maxHeartbeats 2000000 in
theorem lotCompare_any (a b : LotV) (w : World) : Calls Tryz.prog 160 #[a.val, b.val] w fun e w' => e = .returned (.int .i64 (cmpL a b)) ∧ ∃ q os', w' = Go.Sort.grow (w.drewN q) os' := by
  have HC := Lib.hid (fun (x y : Int) (W : World) => compare_any x y W)
  have HO := Lib.hid or_any
  obtain ⟨i1, n1, f1, u1, q1, r1⟩ := a
  obtain ⟨i2, n2, f2, u2, q2, r2⟩ := b
  unfold cmpL LotV.val encStr
  simp only
  go_enter Tryz.func160, Tryz.ntmps160
  go_wp2_with (fail)
  obtain ⟨W2, hW2⟩ : ∃ W, W = (w.alloc (.cells #[.int .i64 i1, .string ⟨n1.toArray⟩, .int .i64 f1, .int .i64 u1, .int .i64 q1, .bool r1] 46)).alloc (.cells #[.int .i64 i2, .string ⟨n2.toArray⟩, .int .i64 f2, .int .i64 u2, .int .i64 q2, .bool r2] 46) := ⟨_, rfl⟩
  rw [← hW2]
  have a0 : W2.cell? ⟨w.heap.size, 0, none⟩ = some (.int .i64 i1) := by rw [hW2]; simp
  have a3 : W2.cell? ⟨w.heap.size, 3, none⟩ = some (.int .i64 u1) := by rw [hW2]; simp
  have b0 : W2.cell? ⟨w.heap.size + 1, 0, none⟩ = some (.int .i64 i2) := by rw [hW2]; simp
  have b3 : W2.cell? ⟨w.heap.size + 1, 3, none⟩ = some (.int .i64 u2) := by rw [hW2]; simp
  have HW2 := Lib.hid hW2
  clear hW2
  go_region_held3 (fun w' => (w'.cell? ⟨w.heap.size, 0, none⟩ = some (.int .i64 i1) ∧ w'.cell? ⟨w.heap.size, 3, none⟩ = some (.int .i64 u1)) ∧ (w'.cell? ⟨w.heap.size + 1, 0, none⟩ = some (.int .i64 i2) ∧ w'.cell? ⟨w.heap.size + 1, 3, none⟩ = some (.int .i64 u2))) (first | go_keep | exact ⟨⟨by assumption, by assumption⟩, ⟨by assumption, by assumption⟩⟩) (first | (go_at_call 188; refine (HC.out _ _ _).mono ?_; rintro e wA ⟨rfl, rfl⟩) | (go_at_call 187; refine (HO.out _ (cmpI u1 u2) (cmpI i1 i2) _ (by simp) (by simp)).mono ?_; rintro e wB ⟨rfl, rfl⟩))
  go_wp2_with (fail)
  go_ret
  refine ⟨rfl, 1, #[.cells #[.int .i64 i1, .string ⟨n1.toArray⟩, .int .i64 f1, .int .i64 u1, .int .i64 q1, .bool r1] 46] ++ #[.cells #[.int .i64 i2, .string ⟨n2.toArray⟩, .int .i64 f2, .int .i64 u2, .int .i64 q2, .bool r2] 46] ++ #[.cells #[.int .i64 (cmpI u1 u2), .int .i64 (cmpI i1 i2)] 3], ?_⟩
  rw [HW2.out, Go.Sort.alloc_eq_grow, Go.Sort.alloc_eq_grow, Go.Sort.alloc_eq_grow, Go.Sort.grow_grow, Go.Sort.grow_grow]
  rfl
theorem cmpL_lt {a b : LotV} : cmpL a b < 0 ↔ leL b a = false := by
  unfold cmpL orI cmpI leL
  simp only [Bool.or_eq_false_iff, Bool.and_eq_false_iff, decide_eq_false_iff_not]
  repeat' split
  all_goals omega
theorem ltL_iff {a b : LotV} : ltOf cmpL a b = !leL b a := by
  unfold ltOf
  cases h : leL b a with
  | false => exact decide_eq_true (cmpL_lt.2 h)
  | true => exact decide_eq_false (fun e => by rw [cmpL_lt.1 e] at h; cases h)
theorem ltL_true {a b : LotV} : ltOf cmpL a b = true ↔ a.un < b.un ∨ (a.un = b.un ∧ a.id < b.id) := by
  rw [ltL_iff]
  unfold leL
  simp only [Bool.not_eq_true', Bool.or_eq_false_iff, Bool.and_eq_false_iff, decide_eq_false_iff_not]
  omega
theorem ltL_false {a b : LotV} : ltOf cmpL a b = false ↔ ¬ (a.un < b.un ∨ (a.un = b.un ∧ a.id < b.id)) := by
  rw [← ltL_true]
  cases ltOf cmpL a b <;> simp
theorem swoL : Go.Sort.SWO (ltOf cmpL) where
  irrefl x := by rw [ltL_false]; omega
  trans x y z h1 h2 := by rw [ltL_true] at *; omega
  ntrans x y z h1 h2 := by rw [ltL_false] at *; omega
end Go.Proofs.YtbedbhlebfnohaaGreat
namespace Go.Proofs.YtbedbhlebfnohaaGreat
open Go.RowKit Go.Sort Go.Lib Tx
structure OnlyB (g : Nat) (w w' : World) : Prop where
  os : w'.os = w.os
  tape : w'.tape = w.tape
  output : w'.output = w.output
  size : w.heap.size ≤ w'.heap.size
  block : ∀ b, b ≠ g → b < w.heap.size → w'.heap[b]? = w.heap[b]?
theorem below_only {B g : Nat} {w w' w2 : World} (h : Below B w w') (ho : OnlyB g w' w2) (hB : B ≤ w.heap.size) (hg : B ≤ g) : Below B w w2 :=
  ⟨ho.os.trans h.os, ho.tape.trans h.tape, ho.output.trans h.output, Nat.le_trans h.size ho.size, fun k hk => by
    rw [ho.block k (by omega) (by have := h.size; omega), h.block k hk]⟩
section
variable {α : Type} [Inhabited α] {E : El α}
theorem own_holds {base g n c : Nat} {w : World} {X : List α} (h : E.Own base w (.slice (some ⟨g, 0, none⟩) n c) X) : HoldsK E.enc E.k w g 0 X.toArray := by
  have hn := h.1
  obtain ⟨hx, -⟩ := h.cell
  subst hx
  intro t ht
  rw [size_flatK] at ht
  have ht' : t < X.length * E.k := by simpa using ht
  have hk := E.kpos
  have hi : t / E.k < X.length := Nat.div_lt_of_lt_mul (by rw [Nat.mul_comm]; exact ht')
  have hm : t % E.k < E.k := Nat.mod_lt _ hk
  have e1 : t / E.k * E.k + t % E.k = t := Nat.div_add_mod' t E.k
  rw [get_flatK _ _ _ _ ht, Nat.zero_add]
  refine ⟨?_, World.ownsRow.frozenAt h t⟩
  rw [World.ownsRow.cellAt h t ht']
  have hat := E.cells_at X (t / E.k) (t % E.k) hi hm
  rw [e1] at hat
  rw [hat]
  have hl := E.len (X.getD (t / E.k) default)
  have e2 : X.toArray[t / E.k]! = X.getD (t / E.k) default := by
    simp [List.getD_eq_getElem?_getD, hi]
  rw [e2, List.getElem?_eq_getElem (by omega), getElem!_pos _ _ (by omega)]
  rfl
theorem flat_cellsQ (d : Array α) : (flatK E.enc E.k d).toList = E.cells d.toList := by
  apply List.ext_getElem?
  intro t
  have hk := E.kpos
  by_cases ht : t < d.size * E.k
  · have hi : t / E.k < d.toList.length := by rw [Array.length_toList]; exact Nat.div_lt_of_lt_mul (by rw [Nat.mul_comm]; exact ht)
    have hm : t % E.k < E.k := Nat.mod_lt _ hk
    have hat := E.cells_at d.toList (t / E.k) (t % E.k) hi hm
    rw [Nat.div_add_mod' t E.k] at hat
    rw [hat, Array.getElem?_toList, Array.getElem?_eq_getElem (by rw [size_flatK]; exact ht)]
    have hg := get_flatK E.enc E.k d t ht
    rw [getElem!_pos _ t (by rw [size_flatK]; exact ht)] at hg
    have hl := E.len (d.toList.getD (t / E.k) default)
    have e2 : d[t / E.k]! = d.toList.getD (t / E.k) default := by
      rw [Array.length_toList] at hi
      simp [List.getD_eq_getElem?_getD, hi]
    rw [hg, e2, List.getElem?_eq_getElem (by omega), getElem!_pos _ _ (by omega)]
  · rw [Array.getElem?_toList, Array.getElem?_eq_none (by rw [size_flatK]; omega), List.getElem?_eq_none (by rw [E.cells_len, Array.length_toList]; omega)]
theorem take_putCells {F cur : Array Value} (h : F.size ≤ cur.size) : (putCells id 0 F cur).toList.take F.size = F.toList := by
  apply List.ext_getElem?
  intro j
  by_cases hj : j < F.size
  · rw [List.getElem?_take, if_pos hj, Array.getElem?_toList, Array.getElem?_toList]
    simp only [putCells, Array.getElem?_mapIdx, Array.getElem?_eq_getElem (show j < cur.size by omega), Option.map_some, Array.getElem?_eq_getElem hj]
    rw [if_pos (by omega)]
    simp [getElem!_pos, hj]
  · rw [List.getElem?_eq_none (by simp; omega), List.getElem?_eq_none (by simp; omega)]
theorem grow_old (w : World) (os : Array Obj) {b : Nat} (h : b < w.heap.size) : (grow w os).heap[b]? = w.heap[b]? := by
  unfold grow
  simp only
  rw [Array.getElem?_append_left h]
theorem own_sorted {base g n c : Nat} {w w' : World} {X : List α} {d' : Array α} (h : E.Own base w (.slice (some ⟨g, 0, none⟩) n c) X) (hs : SWK E.enc E.k w g 0 d' w') (hd : d'.size = X.length) : E.Own base w' (.slice (some ⟨g, 0, none⟩) n c) d'.toList ∧ OnlyB g w w' := by
  obtain ⟨m, os, rfl⟩ := hs
  obtain ⟨hx, ⟨h2, -⟩ | ⟨g', cap, cur, hv, hg, hh, hle, hmx, hsz, htk⟩⟩ := id h
  · cases h2
  · obtain ⟨hn, -⟩ := h.cell
    subst hn
    injection hv with e1 e2 e3
    injection e1 with e1
    injection e1 with e1
    subst e1; subst e3
    have hlt : g < w.heap.size := (Array.getElem?_eq_some_iff.1 hh).1
    have hp : (putRowK E.enc E.k (Go.Sort.ahead w m) g 0 d').heap[g]? = some (.cells (putCells id 0 (flatK E.enc E.k d') cur) E.e) := by
      simp [putRowK, putRow, mapBlock, Go.Sort.ahead, Array.getElem?_modify, hh, onCells]
    have hsp : (putRowK E.enc E.k (Go.Sort.ahead w m) g 0 d').heap.size = w.heap.size := by simp [putRowK, putRow, mapBlock, Go.Sort.ahead]
    refine ⟨⟨by rw [E.cells_len], .inr ⟨g, c, putCells id 0 (flatK E.enc E.k d') cur, by rw [show d'.toList.length = X.length by rw [Array.length_toList, hd]], hg, ?_, by rw [Array.length_toList, hd]; exact hle, hmx, by simpa [putCells] using hsz, ?_⟩⟩, ⟨rfl, rfl, rfl, ?_, fun b hb hbl => ?_⟩⟩
    · unfold sortWorldK
      rw [grow_old _ _ (by rw [hsp]; exact hlt)]
      exact hp
    · have hF : (flatK E.enc E.k d').size = d'.toList.length * E.k := by rw [size_flatK, Array.length_toList]
      rw [← hF, take_putCells (by rw [size_flatK, hd, hsz]; exact Nat.mul_le_mul_right _ hle), flat_cellsQ]
    · unfold sortWorldK
      rw [size_grow, hsp]
      omega
    · unfold sortWorldK
      rw [grow_old _ _ (by rw [hsp]; exact hbl)]
      simp [putRowK, putRow, mapBlock, Go.Sort.ahead, Array.getElem?_modify, Ne.symm hb]
theorem own_sorted1 {enc : α → Value} {base g n c e : Nat} {w w' : World} {X : List α} {d' : Array α} (h : w.ownsRow base e 1 (.slice (some ⟨g, 0, none⟩) n c) n (X.map enc)) (hs : SW enc w g 0 d' w') (hd : d'.size = n) : w'.ownsRow base e 1 (.slice (some ⟨g, 0, none⟩) n c) n (d'.toList.map enc) ∧ OnlyB g w w' := by
  obtain ⟨m, os, rfl⟩ := hs
  have h1 := ownsRow_putRow (q := m) h (ys := d'.toList) (by rw [Array.length_toList, hd]) (Nat.le_refl n)
  rw [List.take_of_length_le (by rw [Array.length_toList, hd]; exact Nat.le_refl _)] at h1
  have hlt : g < w.heap.size := (Tx.rows_ge h g rfl).2
  have hsp : (putRow enc (Go.Sort.ahead w m) g 0 d').heap.size = w.heap.size := by simp [putRow, mapBlock, Go.Sort.ahead]
  refine ⟨Tx.rows_keep h1 (fun b hb => ?_), ⟨rfl, rfl, rfl, ?_, fun b hb hbl => ?_⟩⟩
  · cases hb
    unfold sortWorld
    rw [grow_old _ _ (by rw [hsp]; exact hlt)]
  · unfold sortWorld
    rw [size_grow, hsp]
    omega
  · unfold sortWorld
    rw [grow_old _ _ (by rw [hsp]; exact hbl)]
    simp [putRow, mapBlock, Go.Sort.ahead, Array.getElem?_modify, Ne.symm hb]
end
end Go.Proofs.YtbedbhlebfnohaaGreat
