/- Memory predicates and small lemmas that the walks share: what it is for a slice of bytes to read as a list, and what a call keeps of memory. Laws on slices of bytes: converted to a string, compared by bytealg.Compare. The walks of page.key, page.value, bytes.Compare, bytes.Equal. -/
import Derived.Test.YtohlkkannjifmaaGreatDoorProg
import GoSem.PinnedTables
import GoSem.Claim
import GoSem.ClaimJoined
import GoSem.ClaimMapViews
import Derived.JoinedTies
import Derived.KernelRfl
import Derived.WalkKit
import Derived.WalkSpells
import Derived.WalkLawsBesides
import Derived.Deep.QuietTactic
import Derived.BigQuiet
import Derived.Handy
import Derived.Deep.Light
import Derived.Lib.Hide
import Derived.Lib.Bytealg
import Derived.Lib.Bytes
namespace Go.Proofs.YtohlkkannjifmaaGreatDoor
open Go.RowKit
def bt (l : List UInt8) (i : Nat) : Int := ((l.getD i 0).toNat : Int)
theorem bt_bd (l : List UInt8) (i : Nat) : 0 ≤ bt l i ∧ bt l i < 256 := by
  unfold bt; have := (l.getD i 0).toNat_lt; omega
theorem bt_inj {l k : List UInt8} {i j : Nat} (h : bt l i = bt k j) : l.getD i 0 = k.getD j 0 := by
  unfold bt at h; exact UInt8.toNat_inj.1 (by omega)
structure RB (B : Nat) (w : World) (a : Option Addr) (n c : Nat) (l : List UInt8) : Prop where
  len : n = l.length
  le : n ≤ c
  mx : c ≤ 9223372036854775807
  lm : n ≤ 140737488355328
  at_ : 0 < c → ∃ b o, a = some ⟨b, o, none⟩ ∧ b < B ∧ ∀ i, i < n → w.cell? ⟨b, o + i, none⟩ = some (.int .u8 (bt l i))
theorem RB.below {B : Nat} {w w' : World} {a : Option Addr} {n c : Nat} {l : List UInt8} (h : RB B w a n c l) (hb : Below B w w') : RB B w' a n c l :=
  ⟨h.len, h.le, h.mx, h.lm, fun hc => by
    obtain ⟨b, o, rfl, hB, hcell⟩ := h.at_ hc
    exact ⟨b, o, rfl, hB, fun i hi => (hb.cell (p := ⟨b, o + i, none⟩) hB).trans (hcell i hi)⟩⟩
theorem RB.mono {B B' : Nat} {w : World} {a : Option Addr} {n c : Nat} {l : List UInt8} (h : RB B w a n c l) (hb : B ≤ B') : RB B' w a n c l :=
  ⟨h.len, h.le, h.mx, h.lm, fun hc => by
    obtain ⟨b, o, rfl, hB, hcell⟩ := h.at_ hc
    exact ⟨b, o, rfl, by omega, hcell⟩⟩
theorem RB.drewN {B : Nat} {w : World} {a : Option Addr} {n c : Nat} {l : List UInt8} (h : RB B w a n c l) (q : Nat) : RB B (w.drewN q) a n c l :=
  ⟨h.len, h.le, h.mx, h.lm, fun hc => by
    obtain ⟨b, o, rfl, hB, hcell⟩ := h.at_ hc
    exact ⟨b, o, rfl, hB, fun i hi => by rw [← hcell i hi]; simp [go_sem]⟩⟩
theorem quiet_same {P : Program} {f : FuncId} {args : Array Value} {w : World} {n : Nat} {v : Value}
    (h : Calls P f args (w.drewN n) fun e w' => e = .returned v ∧ w.drewN n = w') : Calls P f args (w.drewN n) fun e w'' => e = .returned v ∧ ∃ m, w'' = w.drewN m :=
  h.mono fun _ _ ⟨he, hm⟩ => ⟨he, n, hm.symm⟩
theorem bt_sub {l : List UInt8} {i m j : Nat} (h : j < m) : bt ((l.drop i).take m) j = bt l (i + j) := by
  unfold bt; simp [h]
def RetB (B : Nat) (w : World) (l : List UInt8) (e : Ending) : Prop := ∃ a n c, e = .returned (.slice a n c) ∧ RB B w a n c l
theorem RB.sub {B : Nat} {w : World} {b o n c : Nat} {l : List UInt8} (h : RB B w (some ⟨b, o, none⟩) n c l) (i m : Nat) (hm : i + m ≤ n) :
    RB B w (some ⟨b, o + i, none⟩) m (c - i) ((l.drop i).take m) := by
  have hl := h.len; have hle := h.le; have hmx := h.mx; have hlm := h.lm
  refine ⟨by simp; omega, by omega, by omega, by omega, fun hc => ?_⟩
  obtain ⟨b', o', he, hB, hcell⟩ := h.at_ (by omega)
  cases he
  refine ⟨b, o + i, rfl, hB, fun j hj => ?_⟩
  rw [bt_sub hj, ← hcell (i + j) (by omega), Nat.add_assoc]
theorem RB.take {B : Nat} {w : World} {a : Option Addr} {n c : Nat} {l : List UInt8} (h : RB B w a n c l) (m : Nat) (hm : m ≤ n) : RB B w a m c (l.take m) := by
  have hl := h.len; have hle := h.le; have hmx := h.mx; have hlm := h.lm
  refine ⟨by simp; omega, by omega, by omega, by omega, fun hc => ?_⟩
  obtain ⟨b', o', he, hB, hcell⟩ := h.at_ (by omega)
  refine ⟨b', o', he, hB, fun j hj => ?_⟩
  have := bt_sub (l := l) (i := 0) (m := m) hj
  simp only [List.drop_zero, Nat.zero_add] at this
  rw [this]; exact hcell j (by omega)
theorem RB.emp {B : Nat} {w : World} (a : Option Addr) : RB B w a 0 0 [] := ⟨rfl, Nat.le_refl _, by omega, by omega, fun h => absurd h (by omega)⟩
def eqB (l k : List UInt8) : Bool := decide (l = k)
theorem eqB_self (l : List UInt8) : eqB l l = true := by simp [eqB]
theorem eqB_ne {l k : List UInt8} (h : l ≠ k) : eqB l k = false := by simp [eqB, h]
end Go.Proofs.YtohlkkannjifmaaGreatDoor
namespace Go.Proofs.YtohlkkannjifmaaGreatDoor
open Go.RowKit
def bv (x : UInt8) : Value := .int .u8 (x.toNat : Int)
theorem bv_getD (l : List UInt8) (i : Nat) (h : i < l.length) : (l.map bv)[i]? = some (.int .u8 (bt l i)) := by
  simp [bv, bt, List.getElem?_eq_getElem h]
theorem RB.cells {B : Nat} {w : World} {b o n c : Nat} {l : List UInt8} (h : RB B w (some ⟨b, o, none⟩) n c l) :
    ∀ j v, (l.map bv)[j]? = some v → w.cell? ((⟨b, o, none⟩ : Addr).add j) = some v := by
  intro j v hj
  have hjl : j < l.length := by
    rcases Nat.lt_or_ge j l.length with h | h
    · exact h
    · simp [List.getElem?_eq_none (show (l.map bv).length ≤ j by simpa using h)] at hj
  rw [bv_getD l j hjl] at hj
  cases hj
  have hl := h.len; have hle := h.le
  obtain ⟨b', o', he, -, hc⟩ := h.at_ (by omega)
  cases he
  have hplain : (⟨b, o, none⟩ : Addr).add j = ⟨b, o + j, none⟩ := by unfold Addr.add; split <;> simp_all
  rw [hplain]; exact hc j (by omega)
theorem ofNums (l : List UInt8) : strOfNums (l.map fun x => (x.toNat : Int)) = ⟨l.toArray⟩ := by
  unfold strOfNums
  congr 1
  simp only [List.map_map]
  congr 1
  refine (List.map_congr_left fun x _ => ?_).trans (List.map_id l)
  simp
theorem run_conv {P : Program} {B : Nat} {w : World} {a : Option Addr} {n c : Nat} {l : List UInt8} (h : RB B w a n c l) (src e dst : TypeId)
    (hs : P.underlying src = some (.slice e)) (he : P.underlying e = some (.int .u8)) (hd : P.underlying dst = some .string) :
    (convert src dst (.slice a n c)).run P w = .ok (.string ⟨l.toArray⟩) w := by
  have hl := h.len
  by_cases h0 : n = 0
  · obtain rfl : l = [] := List.eq_nil_of_length_eq_zero (by omega)
    cases a with
    | none => rw [run_convert_bytes_nil w src e hs he n c dst hd]; rfl
    | some a =>
      subst h0
      have hl : (loadCells a 0).run P w = .ok (([] : List Int).map (Value.int .u8)).toArray w := by
        simpa using run_loadCells_list (P := P) w a [] (by simp)
      rw [run_convert_bytes_string w src dst e _ 0 c hs he hd, run_bytesToString w _ 0 c [] hl]
      rfl
  · have hle := h.le
    obtain ⟨b, o, rfl, hB, hc⟩ := h.at_ (by omega)
    rw [run_convert_bytes_arg w src e hs he b o n c (l.map fun x => (x.toNat : Int)) (by simp [hl]) (fun i hi => ?_) dst hd, ofNums]
    rw [hc i hi]
    have hi' : i < l.length := by omega
    simp [bt, List.getD, List.getElem?_eq_getElem hi']
theorem run_loadBytes {P : Program} (w : World) (b : Nat) : ∀ (l : List UInt8) (o : Nat) (acc : ByteArray), (∀ i, i < l.length → w.cell? ⟨b, o + i, none⟩ = some (.int .u8 (bt l i))) →
    (Extern.Bytes.loadBytes ⟨b, o, none⟩ l.length acc).run P w = .ok ⟨acc.data ++ l.toArray⟩ w
  | [], o, acc, _ => by simp [Extern.Bytes.loadBytes, Sem.run_pure]
  | x :: l, o, acc, h => by
    have h0 := h 0 (by simp)
    have hx : bt (x :: l) 0 = (x.toNat : Int) := rfl
    rw [hx] at h0
    have ih := run_loadBytes (P := P) w b l (o + 1) (acc.push (UInt8.ofNat (x.toNat : Int).toNat)) (fun i hi => by
      have := h (i + 1) (by simp; omega)
      rw [show o + 1 + i = o + (i + 1) by omega, this]; rfl)
    have hadd : (⟨b, o, none⟩ : Addr).add 1 = ⟨b, o + 1, none⟩ := rfl
    simp only [Nat.add_zero] at h0
    have hload : (load ⟨b, o, none⟩ : Sem Value).run P w = .ok (.int .u8 (x.toNat : Int)) w := by simp [load, Sem.run, h0]
    simp only [List.length_cons, Extern.Bytes.loadBytes, Sem.run_bind, hload, Result.andThen, hadd]
    refine Eq.trans ih ?_
    congr 1
    simp
theorem run_bytesOf {P : Program} {B : Nat} {w : World} {a : Option Addr} {n c : Nat} {l : List UInt8} (h : RB B w a n c l) :
    (Extern.Bytes.bytesOf (.slice a n c)).run P w = .ok ⟨l.toArray⟩ w := by
  have hl := h.len
  by_cases h0 : n = 0
  · obtain rfl : l = [] := List.eq_nil_of_length_eq_zero (by omega)
    subst h0
    cases a with
    | none => rfl
    | some a => rfl
  · have hle := h.le
    obtain ⟨b, o, rfl, hB, hc⟩ := h.at_ (by omega)
    subst hl
    have := run_loadBytes (P := P) w b l o .empty hc
    simpa [Extern.Bytes.bytesOf] using this
theorem run_compare {P : Program} {B C : Nat} {w : World} {a b : Option Addr} {n c m d : Nat} {l k : List UInt8} (hl : RB B w a n c l) (hk : RB C w b m d k) :
    (Extern.BytealgCompare.compare #[.slice a n c, .slice b m d]).run P w = .ok (.int .i64 (Lib.compareBytes l k)) w := by
  change Sem.run P (do pure (goInt (Extern.BytealgCompare.cmp (← Extern.Bytes.bytesOf (.slice a n c)) (← Extern.Bytes.bytesOf (.slice b m d))))) w = _
  simp only [Sem.run_bind, run_bytesOf hl, run_bytesOf hk, Sem.run_pure, Result.andThen]
  rw [Lib.cmp_eq]
  rfl
end Go.Proofs.YtohlkkannjifmaaGreatDoor
namespace Go.Proofs.YtohlkkannjifmaaGreatDoor
open Go.RowKit
set_option maxHeartbeats 4000000 in
set_option maxRecDepth 100000 in
theorem key_any (B : Nat) (a : Option Addr) (n c : Nat) (l : List UInt8) (i k : Nat) (w : World) (hp : RB B w a n c l) (hk : bt l i = k) (hi : i + 2 + k ≤ n) :
    Calls Tryz.prog 84 #[.slice a n c, .int .i64 i] w fun e w' => RetB B w ((l.drop (i + 2)).take k) e ∧ w = w' := by
  have hle := hp.le; have hmx := hp.mx; have hlm := hp.lm
  obtain ⟨b, o, rfl, hB, hcell⟩ := hp.at_ (by omega)
  have g := hcell i (by omega)
  have hb := bt_bd l i
  rw [hk] at g hb
  clear hcell hk
  have hs := hp.sub (i + 2) k hi
  go_enter Tryz.func84, Tryz.ntmps84
  go_wp2
  · go_ret
    obtain rfl : k = 0 := by omega
    exact ⟨⟨_, _, _, rfl, by simpa using RB.emp _⟩, rfl⟩
  · go_ret
    exact ⟨⟨_, _, _, rfl, hs⟩, rfl⟩
set_option maxHeartbeats 4000000 in
set_option maxRecDepth 100000 in
/-- .. of a key that has bytes: just which slice. -/
theorem key_pos (B : Nat) (b o n c : Nat) (l : List UInt8) (i k : Nat) (w : World) (hp : RB B w (some ⟨b, o, none⟩) n c l) (hk : bt l i = k) (hi : i + 2 + k ≤ n) (h1 : 1 ≤ k) :
    Calls Tryz.prog 84 #[.slice (some ⟨b, o, none⟩) n c, .int .i64 i] w fun e w' => e = .returned (.slice (some ⟨b, o + (i + 2), none⟩) k (c - (i + 2))) ∧ w = w' := by
  have hle := hp.le; have hmx := hp.mx; have hlm := hp.lm
  obtain ⟨b', o', he, hB, hcell⟩ := hp.at_ (by omega)
  cases he
  have g := hcell i (by omega)
  have hb := bt_bd l i
  rw [hk] at g hb
  clear hcell hk
  have hne : ¬ c = i + 2 := by omega
  go_enter Tryz.func84, Tryz.ntmps84
  go_wp2
  go_ret
  refine ⟨?_, rfl⟩
  show Ending.returned (.slice _ (i + 2 + k - (i + 2)) _) = _
  rw [Nat.add_sub_cancel_left]
set_option maxHeartbeats 4000000 in
set_option maxRecDepth 100000 in
theorem value_any (B : Nat) (a : Option Addr) (n c : Nat) (l : List UInt8) (i k j : Nat) (w : World) (hp : RB B w a n c l) (hk : bt l i = k) (hi : i + 2 + k ≤ j) (hj : j ≤ n) :
    Calls Tryz.prog 69 #[.slice a n c, .int .i64 i, .int .i64 j] w fun e w' => RetB B w ((l.drop (i + 2 + k)).take (j - (i + 2 + k))) e ∧ w = w' := by
  have hle := hp.le; have hmx := hp.mx; have hlm := hp.lm
  obtain ⟨b, o, rfl, hB, hcell⟩ := hp.at_ (by omega)
  have g := hcell i (by omega)
  have hb := bt_bd l i
  rw [hk] at g hb
  clear hcell hk
  have hs := hp.sub (i + 2 + k) (j - (i + 2 + k)) (by omega)
  go_enter Tryz.func69, Tryz.ntmps69
  go_wp2
  · go_ret
    obtain rfl : j = i + 2 + k := by omega
    exact ⟨⟨_, _, _, rfl, by simpa using RB.emp _⟩, rfl⟩
  · go_ret
    exact ⟨⟨_, _, _, rfl, hs⟩, rfl⟩
set_option maxHeartbeats 4000000 in
set_option maxRecDepth 100000 in
/-- .. of a value that has bytes: just which slice. -/
theorem value_pos (B : Nat) (b o n c : Nat) (l : List UInt8) (i k j : Nat) (w : World) (hp : RB B w (some ⟨b, o, none⟩) n c l) (hk : bt l i = k) (hi : i + 2 + k < j) (hj : j ≤ n) :
    Calls Tryz.prog 69 #[.slice (some ⟨b, o, none⟩) n c, .int .i64 i, .int .i64 j] w fun e w' => e = .returned (.slice (some ⟨b, o + (i + 2 + k), none⟩) (j - (i + 2 + k)) (c - (i + 2 + k))) ∧ w = w' := by
  have hle := hp.le; have hmx := hp.mx; have hlm := hp.lm
  obtain ⟨b', o', he, hB, hcell⟩ := hp.at_ (by omega)
  cases he
  have g := hcell i (by omega)
  have hb := bt_bd l i
  rw [hk] at g hb
  clear hcell hk
  have hne : ¬ c = i + 2 + k := by omega
  go_enter Tryz.func69, Tryz.ntmps69
  go_wp2
  go_ret
  exact ⟨rfl, rfl⟩
theorem beq_toList (l k : List UInt8) : ((ByteArray.mk l.toArray).toList == (ByteArray.mk k.toArray).toList) = eqB l k := by
  simp only [ByteArray.toList_mk]
  by_cases h : l = k
  · subst h; simp [eqB_self]
  · rw [eqB_ne h]; simpa using h
set_option maxHeartbeats 4000000 in
set_option maxRecDepth 100000 in
theorem Equal_any (B C : Nat) (a b : Option Addr) (n c m d : Nat) (l k : List UInt8) (w : World) (hl : RB B w a n c l) (hk : RB C w b m d k) :
    Calls Tryz.prog 68 #[.slice a n c, .slice b m d] w fun e w' => e = .returned (.bool (eqB l k)) ∧ w = w' := by
  have k1 := run_conv (P := Tryz.prog) hl 27 5 9 Tryz.underlying27 Tryz.underlying5 Tryz.underlying9
  have k2 := run_conv (P := Tryz.prog) hk 27 5 9 Tryz.underlying27 Tryz.underlying5 Tryz.underlying9
  have k3 := beq_toList l k
  obtain ⟨sl, hsl⟩ : ∃ s, s = ByteArray.mk l.toArray := ⟨_, rfl⟩
  obtain ⟨sk, hsk⟩ : ∃ s, s = ByteArray.mk k.toArray := ⟨_, rfl⟩
  rw [← hsl] at k1 k3
  rw [← hsk] at k2 k3
  clear hsl hsk
  go_enter Tryz.func68, Tryz.ntmps68
  go_wp2
  go_ret
  exact ⟨rfl, rfl⟩
set_option maxHeartbeats 4000000 in
set_option maxRecDepth 100000 in
theorem Compare_any (B C : Nat) (a b : Option Addr) (n c m d : Nat) (l k : List UInt8) (w : World) (hl : RB B w a n c l) (hk : RB C w b m d k) :
    Calls Tryz.prog 119 #[.slice a n c, .slice b m d] w fun e w' => e = .returned (.int .i64 (Lib.compareBytes l k)) ∧ w = w' := by
  go_enter Tryz.func119, Tryz.ntmps119
  go_wp2
  rw [run_callFunc_extern Tryz.func170 (by kernel_rfl) (by kernel_rfl) (by kernel_rfl) (e := Extern.BytealgCompare.compare) (by kernel_rfl), run_compare hl hk]
  simp only [Result.andThen]
  rw [Oper.upon_value]
  go_wp2
  go_ret
  exact ⟨rfl, rfl⟩
end Go.Proofs.YtohlkkannjifmaaGreatDoor
