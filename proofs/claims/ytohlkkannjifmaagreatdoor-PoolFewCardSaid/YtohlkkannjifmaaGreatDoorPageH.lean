/- Laws on a page that is turned: copy into it, clear, a byte that is set. The walk of page.Turn. -/
import Derived.Test.YtohlkkannjifmaaGreatDoorPageF
import Derived.StillTailTactics
import Derived.Laws.CopyOwn
namespace Go.Proofs.YtohlkkannjifmaaGreatDoor
open Go.RowKit Go.Shelf
def Mod (g : Nat) (w w' : World) : Prop := w.grownBy w' (some g)
theorem Mod.refl (g : Nat) (w : World) : Mod g w w := ⟨rfl, rfl, rfl, Nat.le_refl _, fun _ _ _ => rfl⟩
theorem Mod.trans {g : Nat} {a b c : World} (h : Mod g a b) (k : Mod g b c) : Mod g a c :=
  ⟨k.os.trans h.os, k.tape.trans h.tape, k.output.trans h.output, Nat.le_trans h.size k.size, fun i hi hne => (k.block i (Nat.lt_of_lt_of_le hi h.size) hne).trans (h.block i hi hne)⟩
theorem Mod.of_below {g : Nat} {a b : World} (h : Below a.heap.size a b) : Mod g a b := ⟨h.os, h.tape, h.output, h.size, fun i hi _ => h.block i hi⟩
theorem Mod.drew {g : Nat} {a b : World} (h : Mod g a b) : Mod g a b.drew := ⟨h.os, h.tape, h.output, h.size, h.block⟩
theorem Mod.block' {g : Nat} {a b : World} (h : Mod g a b) {k : Nat} (hk : k < a.heap.size) (hne : k ≠ g) : b.heap[k]? = a.heap[k]? := h.block k hk (fun e => by cases e; exact hne rfl)
theorem Mod.cell {g : Nat} {a b : World} (h : Mod g a b) {k o : Nat} (hk : k < a.heap.size) (hne : k ≠ g) : b.cell? ⟨k, o, none⟩ = a.cell? ⟨k, o, none⟩ := World.cell?_of_block (w := a) (h.block' hk hne)
structure RBn (g B : Nat) (w : World) (a : Option Addr) (n c : Nat) (l : List UInt8) : Prop where
  rb : RB B w a n c l
  ne : 0 < c → ∀ b o s, a = some ⟨b, o, s⟩ → b ≠ g
theorem RBn.mod {g B : Nat} {w w' : World} {a : Option Addr} {n c : Nat} {l : List UInt8} (h : RBn g B w a n c l) (hm : Mod g w w') (hB : B ≤ w.heap.size) : RBn g B w' a n c l :=
  ⟨⟨h.rb.len, h.rb.le, h.rb.mx, h.rb.lm, fun hc => by
    obtain ⟨b, o, rfl, hb, hcell⟩ := h.rb.at_ hc
    exact ⟨b, o, rfl, hb, fun i hi => (hm.cell (by omega) (h.ne hc b o none rfl)).trans (hcell i hi)⟩⟩, h.ne⟩
theorem PG.set {W : World} {g c : Nat} {L : List UInt8} {X : List Value} (h : PG W g c L X) (i : Nat) (x : UInt8) (hi : i < 512) : PG (W.setCell ⟨g, i, none⟩ (.int .u8 (x.toNat : Int))) g c (L.set i x) X := by
  have hlen := h.len
  refine ⟨?_, by rw [List.length_set]; exact hlen, h.cap, h.mx⟩
  have hb := h.blk
  obtain ⟨hlt, he⟩ := Array.getElem?_eq_some_iff.1 hb
  show (W.heap.modify g _)[g]? = _
  rw [Array.getElem?_modify, if_pos rfl, hb]
  simp only [Option.map_some, Option.isSome_none, Bool.false_eq_true, if_false]
  congr 2
  apply Array.ext'
  simp only [Array.toList_setIfInBounds]
  rw [List.set_append_left _ _ (by simp; omega), List.map_set]
  rfl
theorem Mod.set (g : Nat) {a : World} {b : World} (h : Mod g a b) (i : Nat) (v : Value) : Mod g a (b.setCell ⟨g, i, none⟩ v) :=
  h.trans ⟨rfl, rfl, rfl, by simp [World.setCell], fun k hk hne => Below.heap_setCell b ⟨g, i, none⟩ v k (fun e => hne (by rw [e]))⟩
theorem PG.cell {W : World} {g c : Nat} {L : List UInt8} {X : List Value} (h : PG W g c L X) (i : Nat) (hi : i < 512) : W.cell? ⟨g, i, none⟩ = some (.int .u8 (bt L i)) := by
  obtain ⟨b, o, he, -, hc⟩ := h.rb.at_ (by rw [h.cap]; omega)
  cases he
  have := hc i hi
  rwa [Nat.zero_add] at this
theorem PG.frozen {W : World} {g c : Nat} {L : List UInt8} {X : List Value} (h : PG W g c L X) (i : Nat) : W.frozen? ⟨g, i, none⟩ = false := by
  simp [World.frozen?, h.blk]
theorem PG.drew {W : World} {g c : Nat} {L : List UInt8} {X : List Value} (h : PG W g c L X) : PG W.drew g c L X := ⟨h.blk, h.len, h.cap, h.mx⟩
theorem splice_len {α : Type} (L : List α) (off : Nat) (cs : List α) (h : off + cs.length ≤ L.length) : (splice L off cs).length = L.length := length_splice L off cs h
theorem PG.splice {W : World} {g c : Nat} {L : List UInt8} {X : List Value} (h : PG W g c L X) (off : Nat) (k : List UInt8) (hk : off + k.length ≤ 512) :
    PG (W.setRow g ((L.map bv ++ X).toArray.toList.take off ++ k.map bv ++ (L.map bv ++ X).toArray.toList.drop (off + (k.map bv).length)).toArray) g c (Go.splice L off k) X := by
  have hlen := h.len
  refine ⟨?_, by rw [splice_len _ _ _ (by omega)]; exact hlen, h.cap, h.mx⟩
  rw [setRow_heap W g _ _ _ _ h.blk]
  congr 3
  simp only [List.length_map, Go.splice, List.map_append, List.map_take, List.map_drop]
  rw [List.take_append_of_le_length (by simp; omega), List.drop_append_of_le_length (by simp; omega)]
  simp [List.append_assoc]
theorem Mod.setRow (g : Nat) {a b : World} (h : Mod g a b) (cs : Array Value) : Mod g a (b.setRow g cs) :=
  h.trans ⟨rfl, rfl, rfl, by simp [World.setRow], fun k hk hne => setRow_other b g k cs (fun e => hne (by rw [e]))⟩
def Src (w : World) (sa : Option Addr) (k : List UInt8) : Prop := 0 < k.length → ∃ ad, sa = some ad ∧ ∀ j v, (k.map bv)[j]? = some v → w.cell? (ad.add j) = some v
theorem RB.src {B : Nat} {w : World} {a : Option Addr} {n c : Nat} {l : List UInt8} (h : RB B w a n c l) : Src w a l := fun h0 => by
  have hl := h.len; have hle := h.le
  obtain ⟨b, o, rfl, -, -⟩ := h.at_ (by omega)
  exact ⟨_, rfl, h.cells⟩
theorem wpList_copy_pg {w : World} {ops : Array Oper} {rest : List Oper} {o : Oper} {a : Act} {Q : Exit → Act → World → Prop} (hgd : o.guard = none) (d s : Operand)
    (ho : o.op = .call { callee := .builtin .copy, args := #[d, s], argTypes := #[27, 27] })
    (g c : Nat) (L : List UInt8) (X : List Value) (hpg : PG w g c L X) (da sa : Option Addr) (dl dc sl sc off : Nat) (k : List UInt8) (hd : a.eval d = .slice da dl dc) (hs : a.eval s = .slice sa sl sc)
    (hk : k.length = min sl dl) (hsrc : Src w sa k) (hda : 0 < k.length → da = some ⟨g, off, none⟩) (hfit : off + k.length ≤ 512)
    (h : ∀ w', PG w' g c (Go.splice L off k) X → Mod g w w' → w'.heap.size = w.heap.size → wpList Tryz.prog ops Q rest (a.put o.dst (goInt k.length)) w') : wpList Tryz.prog ops Q (o :: rest) a w := by
  have hsz : (Tryz.prog.info? 5).map (·.size) = some 1 := by
    obtain ⟨i0, hi, hz0, hz1, hz2⟩ := info_parts Tryz.infoU8
    rw [hi]; simp [hz1]
  by_cases h0 : k.length = 0
  · obtain rfl : k = [] := List.eq_nil_of_length_eq_zero h0
    refine wpList_copy_nothing hgd d s 27 27 ho 5 Tryz.underlying27 hsz da sa dl dc sl sc hd hs (by simpa using hk.symm) ?_
    have e : Go.splice L off [] = L := by simp [Go.splice]
    have := h w (by rw [e]; exact hpg) (Mod.refl _ _) rfl
    simpa using this
  · obtain ⟨ad, rfl, hcells⟩ := hsrc (by omega)
    obtain rfl := hda (by omega)
    refine wpList_copy_own hgd d s 27 27 ho 5 Tryz.underlying27 hsz g off dl dc ad sl sc hd hs _ _ hpg.blk (k.map bv) (by simpa using hk) hcells (by simp [hpg.len]; omega)
      (fun u hu => by obtain ⟨y, _, rfl⟩ := List.mem_map.1 hu; rfl) ?_
    have := h _ (hpg.splice off k hfit) ((Mod.refl g w).setRow g _) (by simp [World.setRow])
    simpa using this
theorem wpList_clear_pg {w : World} {ops : Array Oper} {rest : List Oper} {o : Oper} {a : Act} {Q : Exit → Act → World → Prop} (hgd : o.guard = none) (d : Operand)
    (ho : o.op = .call { callee := .builtin .clear, args := #[d], argTypes := #[27] })
    (g c : Nat) (L : List UInt8) (X : List Value) (hpg : PG w g c L X) (dl dc off : Nat) (hd : a.eval d = .slice (some ⟨g, off, none⟩) dl dc) (h0 : 0 < dl) (hfit : off + dl ≤ 512)
    (h : ∀ w', PG w' g c (Go.splice L off (List.replicate dl 0)) X → Mod g w w' → w'.heap.size = w.heap.size → wpList Tryz.prog ops Q rest (a.put o.dst (.tuple #[])) w') : wpList Tryz.prog ops Q (o :: rest) a w := by
  obtain ⟨i0, hi, hz0, hz1, hz2⟩ := info_parts Tryz.infoU8
  refine wpList_plain hgd fun K hK => ?_
  have hzc : (Builtin.zeroCells #[Value.int .u8 0] dl).toList = (List.replicate dl (0 : UInt8)).map bv := by
    apply List.ext_getElem
    · simp [Builtin.zeroCells]
    · intro i h1 h2
      simp [Builtin.zeroCells, bv, Nat.mod_one]
  have hst := run_storeCells_at Tryz.prog g off 5 ((List.replicate dl (0 : UInt8)).map bv) 0 _ w hpg.blk (by simp [hpg.len]; omega) (fun u hu => by obtain ⟨y, _, rfl⟩ := List.mem_map.1 hu; rfl)
  have hrun : (Builtin.clear_ #[27] o.type #[.slice (some ⟨g, off, none⟩) dl dc]).run Tryz.prog w = .ok (.tuple #[]) (w.setRow g ((L.map bv ++ X).toArray.toList.take off ++ (List.replicate dl 0).map bv ++ (L.map bv ++ X).toArray.toList.drop (off + ((List.replicate dl (0 : UInt8)).map bv).length)).toArray) := by
    obtain ⟨m, rfl⟩ : ∃ m, dl = m + 1 := ⟨dl - 1, by omega⟩
    simp only [Nat.add_zero] at hst
    simp [Builtin.clear_, run_underlying Tryz.underlying27, zeroValue, typeInfo, hi, hz0, Value.cells]
    rw [hzc, hst]
    simp
  unfold Oper.wp execOp
  simp only [ho, resolve, invoke, builtin, Sem.run_bind, Sem.run_pure, Result.andThen_ok, List.map_toArray, List.map_cons, List.map_nil, hd, hrun]
  exact hK _ _ (h _ (hpg.splice off (List.replicate dl 0) (by simp; omega)) ((Mod.refl g w).setRow g _) (by simp [World.setRow]))
theorem u8_inc (l : List UInt8) (i : Nat) : IntKind.u8.wrap (bt l i + 1) = ((l.getD i 0 + 1).toNat : Int) := by
  unfold bt
  rw [IntKind.wrap_u8, UInt8.toNat_add]
  simp
theorem u8_dec (l : List UInt8) (i : Nat) : IntKind.u8.wrap (bt l i - 1) = ((l.getD i 0 + (0 - 1)).toNat : Int) := by
  unfold bt
  rw [IntKind.wrap_u8, UInt8.toNat_add]
  have h1 : ((0 - 1 : UInt8)).toNat = 255 := by decide
  rw [h1]
  have := (l.getD i 0).toNat_lt
  omega
end Go.Proofs.YtohlkkannjifmaaGreatDoor
namespace Go.Proofs.YtohlkkannjifmaaGreatDoor
open Go.RowKit Go.Shelf
def byteOf (n : Nat) : UInt8 := UInt8.ofNat n
def moved (p : List UInt8) (i e last size : Nat) : List UInt8 := splice p (i + size) ((p.drop e).take (last - e))
def wiped (p : List UInt8) (i e last size : Nat) : List UInt8 :=
  if last - (e - i) + size < last then splice (moved p i e last size) (last - (e - i) + size) (List.replicate (last - (last - (e - i) + size)) 0) else moved p i e last size
def laid (p : List UInt8) (i : Nat) (k n : List UInt8) : List UInt8 := splice (splice ((p.set i (byteOf k.length)).set (i + 1) (byteOf n.length)) (i + 2) k) (i + 2 + k.length) n
def counted (p : List UInt8) (d : UInt8) : List UInt8 := p.set 10 (p.getD 10 0 + d)
def turnBytes (p : List UInt8) (i e last : Nat) (k n : List UInt8) (is : Bool) : List UInt8 :=
  let size := if n = [] then 0 else 2 + k.length + n.length
  let p2 := wiped p i e last size
  let p3 := if n = [] then p2 else counted (laid p2 i k n) 1
  if is then counted p3 (0 - 1) else p3
def turnL (p k o n : List UInt8) : Nat × List UInt8 :=
  if behindL p = 0 then (4, p) else
  if turnedB k.length o.length n.length = false then (2, p) else
  match findL p k with
  | (i, e, is) =>
    if (is != decide (0 < o.length)) = true ∨ (is = true ∧ eqB (valOf p i e) o = false) then (6, p) else
    if 512 < behindL p - (e - i) + (if n = [] then 0 else 2 + k.length + n.length) then (5, p) else
    (0, turnBytes p i e (behindL p) k n is)
def TurnPost (g c : Nat) (w : World) (r : Nat × List UInt8) (X : List Value) (e : Ending) (w' : World) : Prop :=
  e = .returned (.int .i64 r.1) ∧ PG w' g c r.2 X ∧ Mod g w w'
set_option maxHeartbeats 1000000 in
theorem Turn_shape (g c : Nat) (L : List UInt8) (X : List Value) (B : Nat) (ka oa na : Option Addr) (kn kc on oc nn nc : Nat) (K O N : List UInt8) (w : World) (hp : PG w g c L X)
    (_hk : RBn g B w ka kn kc K) (_ho : RBn g B w oa on oc O) (_hn : RBn g B w na nn nc N) (_hB : B ≤ w.heap.size) (h0 : behindL L = 0) :
    Calls Tryz.prog 21 #[.slice (some ⟨g, 0, none⟩) 512 c, .agg #[.slice ka kn kc, .slice oa on oc, .slice na nn nc]] w (TurnPost g c w (turnL L K O N) X) := by
  have hfin : turnL L K O N = (4, L) := by unfold turnL; rw [if_pos h0]
  have Hfin := Lib.hid hfin
  have HB : Hid (∀ w' : World, Below w.heap.size w w' → Calls Tryz.prog 65 #[.slice (some ⟨g, 0, none⟩) 512 c] w' fun e w'' => e = .returned (.int .i64 0) ∧ Below w'.heap.size w' w'') := by
    intro w' hb
    have := behind_any w'.heap.size _ _ _ _ w' (hp.below hb hp.lt).rb (Nat.le_refl _)
    rw [h0] at this
    exact this
  have hb0 : Below w.heap.size w (w.alloc (.cells #[.slice ka kn kc, .slice oa on oc, .slice na nn nc] 29)) := (Below.refl _ w).alloc (Nat.le_refl _) _
  have Hb0 := Lib.hid hb0
  clear hfin h0 hb0
  go_enter Tryz.func21, Tryz.ntmps21
  go_wp2_with (go_at_call 65; refine (HB.out _ Hb0.out).mono ?_; rintro e w' ⟨rfl, hb⟩)
  go_ret
  have hb2 := Hb0.out.trans (hb.mono Hb0.out.size)
  exact ⟨by rw [Hfin.out]; rfl, by rw [Hfin.out]; exact hp.below hb2 hp.lt, Mod.of_below hb2⟩
def T3 (W : World) (z : Nat) (v0 v1 v2 : Value) : Prop := W.heap[z]? = some (.cells #[v0, v1, v2] 29 (0, 0))
theorem T3.below {B : Nat} {W W' : World} {z : Nat} {v0 v1 v2 : Value} (h : T3 W z v0 v1 v2) (hb : Below B W W') (hz : z < B) : T3 W' z v0 v1 v2 := (hb.block z hz).trans h
theorem T3.cells {W : World} {z : Nat} {v0 v1 v2 : Value} (h : T3 W z v0 v1 v2) : W.cell? ⟨z, 0, none⟩ = some v0 ∧ W.cell? ⟨z, 1, none⟩ = some v1 ∧ W.cell? ⟨z, 2, none⟩ = some v2 := by
  unfold T3 at h; simp [World.cell?, h]
theorem T3.drew {W : World} {z : Nat} {v0 v1 v2 : Value} (h : T3 W z v0 v1 v2) : T3 W.drew z v0 v1 v2 := h
theorem T3.lt {W : World} {z : Nat} {v0 v1 v2 : Value} (h : T3 W z v0 v1 v2) : z < W.heap.size := (Array.getElem?_eq_some_iff.1 h).1
theorem T3.mod {g : Nat} {W W' : World} {z : Nat} {v0 v1 v2 : Value} (h : T3 W z v0 v1 v2) (hm : Mod g W W') (hne : z ≠ g) : T3 W' z v0 v1 v2 := (hm.block' h.lt hne).trans h
set_option maxHeartbeats 1000000 in
theorem Turn_arg (g c : Nat) (L : List UInt8) (X : List Value) (B : Nat) (ka oa na : Option Addr) (kn kc on oc nn nc : Nat) (K O N : List UInt8) (w : World) (hp : PG w g c L X)
    (hk : RBn g B w ka kn kc K) (ho : RBn g B w oa on oc O) (hn : RBn g B w na nn nc N) (_hB : B ≤ w.heap.size) (h0 : behindL L ≠ 0) (ht : turnedB K.length O.length N.length = false) :
    Calls Tryz.prog 21 #[.slice (some ⟨g, 0, none⟩) 512 c, .agg #[.slice ka kn kc, .slice oa on oc, .slice na nn nc]] w (TurnPost g c w (turnL L K O N) X) := by
  have hfin : turnL L K O N = (2, L) := by unfold turnL; rw [if_neg h0, if_pos ht]
  have Hfin := Lib.hid hfin
  obtain ⟨last, hlast⟩ : ∃ last, last = behindL L := ⟨_, rfl⟩
  have HB : Hid (∀ w' : World, Below w.heap.size w w' → Calls Tryz.prog 65 #[.slice (some ⟨g, 0, none⟩) 512 c] w' fun e w'' => e = .returned (.int .i64 last) ∧ Below w'.heap.size w' w'') := by
    intro w' hb
    rw [hlast]
    exact behind_any w'.heap.size _ _ _ _ w' (hp.below hb hp.lt).rb (Nat.le_refl _)
  have HT : Hid (∀ w' : World, Calls Tryz.prog 66 #[.agg #[.slice ka kn kc, .slice oa on oc, .slice na nn nc]] w' fun e w'' => e = .returned (.bool false) ∧ Below w'.heap.size w' w'') := by
    intro w'
    have := turned_any ka oa na kn kc on oc nn nc w' hk.rb.lm ho.rb.lm hn.rb.lm
    rw [hk.rb.len, ho.rb.len, hn.rb.len, ht] at this
    rw [hk.rb.len, ho.rb.len, hn.rb.len]
    exact this
  have hl0 : last ≠ 0 := by rw [hlast]; exact h0
  have hld : ((last : Int) == 0) = false := by simp; omega
  have hb0 : Below w.heap.size w (w.alloc (.cells #[.slice ka kn kc, .slice oa on oc, .slice na nn nc] 29)) := (Below.refl _ w).alloc (Nat.le_refl _) _
  have ht0 : T3 (w.alloc (.cells #[.slice ka kn kc, .slice oa on oc, .slice na nn nc] 29)) w.heap.size (.slice ka kn kc) (.slice oa on oc) (.slice na nn nc) := heap_alloc_new w _
  have Hb0 := Lib.hid hb0
  have Ht0 := Lib.hid ht0
  clear hfin h0 hb0 ht0 hlast ht hl0
  go_enter Tryz.func21, Tryz.ntmps21
  go_wp2_with (first | (go_at_call 65; refine (HB.out _ Hb0.out).mono ?_; rintro e w1 ⟨rfl, hb1⟩; obtain ⟨c0, c1, c2⟩ := (Ht0.out.below hb1 (by simp)).cells) | (go_at_call 66; refine (HT.out _).mono ?_; rintro e w2 ⟨rfl, hb2⟩))
  go_ret
  have hb3 := (Hb0.out.trans (hb1.mono Hb0.out.size)).trans (hb2.mono (Hb0.out.trans (hb1.mono Hb0.out.size)).size)
  exact ⟨by rw [Hfin.out]; rfl, by rw [Hfin.out]; exact hp.below hb3 hp.lt, Mod.of_below hb3⟩
theorem find_bd (p k : List UInt8) : ∀ (c q f la f' : Nat), walkB p (q, f) (scan p c q) = some (la, f') → q ≤ p.length → 11 ≤ q → ∀ (i e : Nat) (t : Bool), findB p k q (scan p c q) = (i, e, t) →
    q ≤ i ∧ i ≤ e ∧ e ≤ la ∧ la ≤ p.length ∧ (t = true → 1 ≤ bt p i ∧ i + 2 + (bt p i).toNat < e) ∧ (t = false → i = e)
  | 0, q, f, la, f', h, hq, _, i, e, t, hf => by
    simp only [scan, walkB, findB] at h hf
    cases h; cases hf
    exact ⟨Nat.le_refl _, Nat.le_refl _, Nat.le_refl _, hq, (fun h => by cases h), fun _ => rfl⟩
  | c + 1, q, f, la, f', h, hq, h11, i, e, t, hf => by
    simp only [scan, walkB, findB] at h hf
    split at h
    case isFalse => cases h
    rename_i hok
    unfold okRow at hok
    simp only [Bool.and_eq_true, decide_eq_true_eq] at hok
    obtain ⟨⟨⟨⟨⟨h1, h2⟩, -⟩, h4⟩, -⟩, -⟩ := hok
    have hgt : ¬ p.length < endOf p q := by omega
    rw [if_neg hgt] at h hf
    have hge := endOf_ge p q hq
    have hin : q + 2 ≤ p.length := by
      by_cases hh : q + 2 ≤ p.length
      · exact hh
      · rw [endOf_out hh] at h1; omega
    have hend := endOf_in hin
    have hla : endOf p q ≤ la ∧ la ≤ p.length := by
      obtain ⟨i', e', t', hf'⟩ : ∃ i' e' t', findB p k (endOf p q) (scan p c (endOf p q)) = (i', e', t') := ⟨_, _, _, rfl⟩
      obtain ⟨a1, a2, a3, a4, -⟩ := find_bd p k c (endOf p q) q la f' h h1 (by omega) i' e' t' hf'
      exact ⟨by omega, a4⟩
    split at hf
    · cases hf
      exact ⟨Nat.le_refl _, by omega, hla.1, hla.2, fun _ => ⟨h2, by omega⟩, fun h => by cases h⟩
    · split at hf
      · cases hf
        exact ⟨Nat.le_refl _, Nat.le_refl _, by omega, hla.2, (fun h => by cases h), fun _ => rfl⟩
      · obtain ⟨a1, a2, a3, a4, a5, a6⟩ := find_bd p k c (endOf p q) q la f' h h1 (by omega) i e t hf
        exact ⟨by omega, a2, a3, a4, a5, a6⟩
theorem findL_bd {p k : List UInt8} (h0 : behindL p ≠ 0) {i e : Nat} {t : Bool} (hf : findL p k = (i, e, t)) :
    11 ≤ i ∧ i ≤ e ∧ e ≤ behindL p ∧ behindL p ≤ 512 ∧ (t = true → 1 ≤ bt p i ∧ i + 2 + (bt p i).toNat < e) ∧ (t = false → i = e) := by
  have hlen := right_len (Nat.pos_of_ne_zero h0)
  unfold behindL at h0 ⊢
  split at h0
  · exact absurd rfl h0
  · rename_i hh
    rw [if_neg hh]
    split at h0
    · exact absurd rfl h0
    · rename_i s hs
      split at h0
      · exact absurd rfl h0
      · rename_i ht
        rw [if_neg ht]
        have := find_bd p k _ 11 0 s.1 s.2 hs (by omega) (Nat.le_refl _) i e t hf
        rw [hlen] at this
        exact this
end Go.Proofs.YtohlkkannjifmaaGreatDoor
