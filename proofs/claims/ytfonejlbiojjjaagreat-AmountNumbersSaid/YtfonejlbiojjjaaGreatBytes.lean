/- Laws on slices of bytes: converted to a string, compared by bytealg.Compare. -/
import Derived.Test.YtfonejlbiojjjaaGreatBase
import Derived.Lib.Bytealg
import Derived.Lib.Bytes
namespace Go.Proofs.YtfonejlbiojjjaaGreat
open Go.RowKit

/-- A byte as a cell's value. -/
def bv (x : UInt8) : Value := .int .u8 (x.toNat : Int)
theorem bv_getD (l : List UInt8) (i : Nat) (h : i < l.length) : (l.map bv)[i]? = some (.int .u8 (bt l i)) := by
  simp [bv, bt, List.getElem?_eq_getElem h]

theorem RB.cells {B : Nat} {w : World} {b o n c : Nat} {l : List UInt8} (h : RB B w (some ⟨b, o, none⟩) n c l) :
    ∀ j v, (l.map bv)[j]? = some v → w.cell? ((⟨b, o, none⟩ : Addr).add j) = some v := by
  intro j v hj
  have hjl : j < l.length := by
    rcases Nat.lt_or_ge j l.length with h | h
    · exact h
    · simp [List.getElem?_eq_none (show (l.map bv).length ≤ j by simpa using h)] at hj
  rw [bv_getD l j hjl] at hj
  cases hj
  have hl := h.len; have hle := h.le
  obtain ⟨b', o', he, -, hc⟩ := h.at_ (by omega)
  cases he
  have hplain : (⟨b, o, none⟩ : Addr).add j = ⟨b, o + j, none⟩ := by unfold Addr.add; split <;> simp_all
  rw [hplain]; exact hc j (by omega)

theorem ofNums (l : List UInt8) : strOfNums (l.map fun x => (x.toNat : Int)) = ⟨l.toArray⟩ := by
  unfold strOfNums
  congr 1
  simp only [List.map_map]
  congr 1
  refine (List.map_congr_left fun x _ => ?_).trans (List.map_id l)
  simp

theorem run_conv {P : Program} {B : Nat} {w : World} {a : Option Addr} {n c : Nat} {l : List UInt8} (h : RB B w a n c l) (src e dst : TypeId)
    (hs : P.underlying src = some (.slice e)) (he : P.underlying e = some (.int .u8)) (hd : P.underlying dst = some .string) :
    (convert src dst (.slice a n c)).run P w = .ok (.string ⟨l.toArray⟩) w := by
  have hl := h.len
  by_cases h0 : n = 0
  · obtain rfl : l = [] := List.eq_nil_of_length_eq_zero (by omega)
    cases a with
    | none => rw [run_convert_bytes_nil w src e hs he n c dst hd]; rfl
    | some a =>
      subst h0
      have hl : (loadCells a 0).run P w = .ok (([] : List Int).map (Value.int .u8)).toArray w := by
        simpa using run_loadCells_list (P := P) w a [] (by simp)
      rw [run_convert_bytes_string w src dst e _ 0 c hs he hd, run_bytesToString w _ 0 c [] hl]
      rfl
  · have hle := h.le
    obtain ⟨b, o, rfl, hB, hc⟩ := h.at_ (by omega)
    rw [run_convert_bytes_arg w src e hs he b o n c (l.map fun x => (x.toNat : Int)) (by simp [hl]) (fun i hi => ?_) dst hd, ofNums]
    rw [hc i hi]
    have hi' : i < l.length := by omega
    simp [bt, List.getD, List.getElem?_eq_getElem hi']

theorem run_loadBytes {P : Program} (w : World) (b : Nat) : ∀ (l : List UInt8) (o : Nat) (acc : ByteArray), (∀ i, i < l.length → w.cell? ⟨b, o + i, none⟩ = some (.int .u8 (bt l i))) →
    (Extern.Bytes.loadBytes ⟨b, o, none⟩ l.length acc).run P w = .ok ⟨acc.data ++ l.toArray⟩ w
  | [], o, acc, _ => by simp [Extern.Bytes.loadBytes, Sem.run_pure]
  | x :: l, o, acc, h => by
    have h0 := h 0 (by simp)
    have hx : bt (x :: l) 0 = (x.toNat : Int) := rfl
    rw [hx] at h0
    have ih := run_loadBytes (P := P) w b l (o + 1) (acc.push (UInt8.ofNat (x.toNat : Int).toNat)) (fun i hi => by
      have := h (i + 1) (by simp; omega)
      rw [show o + 1 + i = o + (i + 1) by omega, this]; rfl)
    have hadd : (⟨b, o, none⟩ : Addr).add 1 = ⟨b, o + 1, none⟩ := rfl
    simp only [Nat.add_zero] at h0
    have hload : (load ⟨b, o, none⟩ : Sem Value).run P w = .ok (.int .u8 (x.toNat : Int)) w := by simp [load, Sem.run, h0]
    simp only [List.length_cons, Extern.Bytes.loadBytes, Sem.run_bind, hload, Result.andThen, hadd]
    refine Eq.trans ih ?_
    congr 1
    simp

theorem run_bytesOf {P : Program} {B : Nat} {w : World} {a : Option Addr} {n c : Nat} {l : List UInt8} (h : RB B w a n c l) :
    (Extern.Bytes.bytesOf (.slice a n c)).run P w = .ok ⟨l.toArray⟩ w := by
  have hl := h.len
  by_cases h0 : n = 0
  · obtain rfl : l = [] := List.eq_nil_of_length_eq_zero (by omega)
    subst h0
    cases a with
    | none => rfl
    | some a => rfl
  · have hle := h.le
    obtain ⟨b, o, rfl, hB, hc⟩ := h.at_ (by omega)
    subst hl
    have := run_loadBytes (P := P) w b l o .empty hc
    simpa [Extern.Bytes.bytesOf] using this

theorem run_compare {P : Program} {B C : Nat} {w : World} {a b : Option Addr} {n c m d : Nat} {l k : List UInt8} (hl : RB B w a n c l) (hk : RB C w b m d k) :
    (Extern.BytealgCompare.compare #[.slice a n c, .slice b m d]).run P w = .ok (.int .i64 (Lib.compareBytes l k)) w := by
  change Sem.run P (do pure (goInt (Extern.BytealgCompare.cmp (← Extern.Bytes.bytesOf (.slice a n c)) (← Extern.Bytes.bytesOf (.slice b m d))))) w = _
  simp only [Sem.run_bind, run_bytesOf hl, run_bytesOf hk, Sem.run_pure, Result.andThen]
  rw [Lib.cmp_eq]
  rfl
end Go.Proofs.YtfonejlbiojjjaaGreat
