/- Small lemmas on items and lists in memory. -/
import Derived.Test.YthlmnoggeggpkaaGreatKEndP
import Derived.Test.YthlmnoggeggpkaaGreatKAwake
import Derived.Test.YthlmnoggeggpkaaGreatTxA
namespace Go.Proofs.YthlmnoggeggpkaaGreat
open Go.RowKit

/-- The law's own item, in block g. -/
structure XC (W : World) (g : Nat) (x : It) : Prop where
  at_ : W.heap[g]? = some (.cells #[encStr x.code, .int .i64 x.life, .slice x.pa x.ps.length x.pc, .slice x.oa x.os.length x.oc] 43)
theorem XC.lt {W : World} {g : Nat} {x : It} (h : XC W g x) : g < W.heap.size := (Array.getElem?_eq_some_iff.1 h.at_).1
theorem XC.below {W W' : World} {g : Nat} {x : It} {b : Nat} (h : XC W g x) (hb : Below b W W') (hg : g < b) : XC W' g x := ⟨(hb.block g hg).trans h.at_⟩
theorem XC.cells {W : World} {g : Nat} {x : It} (h : XC W g x) : W.cell? ⟨g, 0, none⟩ = some (encStr x.code) ∧ W.cell? ⟨g, 1, none⟩ = some (.int .i64 x.life) ∧ W.cell? ⟨g, 2, none⟩ = some (.slice x.pa x.ps.length x.pc) := by
  refine ⟨?_, ?_, ?_⟩ <;> (unfold World.cell?; rw [h.at_]; rfl)
theorem parts_ok {X : List It} {c : List UInt8} {q : Int} {S : List Pt} (h0 : chkE X = 0) (hc : c ∈ codes X) (h1 : 1 ≤ q) (h2 : q ≤ mostA) (hS : endL X c q = some S) : partsE X c q = 0 := by
  unfold partsE
  have h3 : okA q = true := by unfold mostA at h2; exact okA_iff.2 (by omega)
  rw [if_neg (by simp [h0]), if_neg (by simp [h1, h3]), if_neg (by simp [hc]), hS]
theorem fine_ps {X : List It} {S : List Pt} (hok : ∀ x ∈ X, x.code.length ≤ 9223372036854775807) (h : PS X S) : Fine S := fun p hp => by
  refine ⟨?_, ?_⟩
  · obtain ⟨y, hy, hye⟩ := List.mem_map.1 (h.sub p hp)
    rw [← hye]; exact hok y hy
  · have := okA_iff.1 (h.up.2 p hp)
    omega
/-- Own texts read. -/
theorem OT.all {base : Nat} {w : World} {v : Value} {L : List (List UInt8)} (h : w.ownsRow base 9 1 v L.length (L.map encStr)) (hf : ∀ t ∈ L, t.length ≤ 9223372036854775807) : ∃ a c, v = .slice a L.length c ∧ RT w.heap.size w a L.length c L := by
  obtain ⟨a, c, rfl, hle, hmx, ha⟩ := Tx.rows_form h
  obtain ⟨h1, ⟨h2, h3⟩ | ⟨g, cap, cur, hv, -⟩⟩ := id h
  · injection h2 with e1 e2 e3
    refine ⟨a, c, rfl, ⟨rfl, hle, hmx, hf, fun hc => by omega⟩⟩
  · injection hv with e1 e2 e3
    subst e1
    have := (OT.rt (show OT base w (.slice (some ⟨g, 0, none⟩) L.length c) L from h) hf L.length (Nat.le_refl _)).1
    rw [List.take_of_length_le (Nat.le_refl _)] at this
    exact ⟨_, c, rfl, this⟩
theorem rt_at {B : Nat} {w : World} {a : Option Addr} {n c : Nat} {T : List (List UInt8)} (h : RT B w a n c T) {i : Nat} (hi : i < n) : ∃ b o, a = some ⟨b, o, none⟩ ∧ w.cell? ⟨b, o + i, none⟩ = some (.string ⟨(T.getD i []).toArray⟩) ∧ T.getD i [] ∈ T := by
  obtain ⟨b, o, e, -, hc⟩ := h.at_ (by have := h.le; omega)
  refine ⟨b, o, e, hc i hi, ?_⟩
  have hl := h.len
  rw [List.getD_eq_getElem?_getD, List.getElem?_eq_getElem (by omega)]
  exact List.getElem_mem _
theorem code_le {X : List It} (h : ∀ x ∈ X, x.code.length ≤ 9223372036854775807) {c : List UInt8} (hc : c ∈ codes X) : c.length ≤ 9223372036854775807 := by
  obtain ⟨x, hx, rfl⟩ := List.mem_map.1 hc
  exact h x hx
end Go.Proofs.YthlmnoggeggpkaaGreat
