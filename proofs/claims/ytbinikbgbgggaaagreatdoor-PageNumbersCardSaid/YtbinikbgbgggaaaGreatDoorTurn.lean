/- page.Turn, whole: joined of its walks. -/
import Derived.Test.YtbinikbgbgggaaaGreatDoorPageI
import Derived.Test.YtbinikbgbgggaaaGreatDoorPageJ
import Derived.Test.YtbinikbgbgggaaaGreatDoorPageM
import Derived.Test.YtbinikbgbgggaaaGreatDoorPure
namespace Go.Proofs.YtbinikbgbgggaaaGreatDoor
open Go.RowKit Go.Shelf

theorem Turn_any (g c : Nat) (L : List UInt8) (X : List Value) (B : Nat) (ka oa na : Option Addr) (kn kc on oc nn nc : Nat) (K O N : List UInt8) (w : World) (hp : PG w g c L X)
    (hk : RBn g B w ka kn kc K) (ho : RBn g B w oa on oc O) (hn : RBn g B w na nn nc N) (hB : B ≤ w.heap.size) :
    Calls Tryz.prog 14 #[.slice (some ⟨g, 0, none⟩) 512 c, .agg #[.slice ka kn kc, .slice oa on oc, .slice na nn nc]] w (TurnPost g c w (turnL L K O N) X) := by
  by_cases h0 : behindL L = 0
  · exact Turn_shape g c L X B ka oa na kn kc on oc nn nc K O N w hp hk ho hn hB h0
  by_cases ht : turnedB K.length O.length N.length = false
  · exact Turn_arg g c L X B ka oa na kn kc on oc nn nc K O N w hp hk ho hn hB h0 ht
  have ht : turnedB K.length O.length N.length = true := by simpa using ht
  obtain ⟨i, e, t, hf⟩ : ∃ i e t, findL L K = (i, e, t) := ⟨_, _, _, rfl⟩
  cases t with
  | true =>
    by_cases hO : O = []
    · exact Turn_none1 g c L X B ka oa na kn kc on oc nn nc K O N w hp hk ho hn hB h0 ht i e hf hO
    by_cases hE : eqB (valOf L i e) O = false
    · exact Turn_none3 g c L X B ka oa na kn kc on oc nn nc K O N w hp hk ho hn hB h0 ht i e hf hO hE
    have hE : eqB (valOf L i e) O = true := by simpa using hE
    by_cases hN : N = []
    · exact Turn_ok10 g c L X B ka oa na kn kc on oc nn nc K O N w hp hk ho hn hB h0 ht i e hf hO hE hN
    by_cases h5 : 512 < behindL L - (e - i) + (2 + K.length + N.length)
    · exact Turn_full1 g c L X B ka oa na kn kc on oc nn nc K O N w hp hk ho hn hB h0 ht i e hf hO hE hN h5
    by_cases hcl : 2 + K.length + N.length < e - i
    · exact Turn_ok11c g c L X B ka oa na kn kc on oc nn nc K O N w hp hk ho hn hB h0 ht i e hf hO hE hN (by omega) hcl
    · exact Turn_ok11s g c L X B ka oa na kn kc on oc nn nc K O N w hp hk ho hn hB h0 ht i e hf hO hE hN (by omega) (by omega)
  | false =>
    by_cases hO : O = []
    · have hN : N ≠ [] := by
        have := (turned_iff K O N).1 ht
        rintro rfl; subst hO; simp at this
      by_cases h5 : 512 < behindL L - (e - i) + (2 + K.length + N.length)
      · exact Turn_full2 g c L X B ka oa na kn kc on oc nn nc K O N w hp hk ho hn hB h0 ht i e hf hO hN h5
      · exact Turn_ok01 g c L X B ka oa na kn kc on oc nn nc K O N w hp hk ho hn hB h0 ht i e hf hO hN (by omega)
    · exact Turn_none2 g c L X B ka oa na kn kc on oc nn nc K O N w hp hk ho hn hB h0 ht i e hf hO
end Go.Proofs.YtbinikbgbgggaaaGreatDoor
