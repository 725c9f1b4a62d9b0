/- What is told of items hangs on what they say, not on where they lie: plain Lean. -/
import Derived.Test.YthlmnoggeggpkaaKParts
import Derived.Test.YthlmnoggeggpkaaKLentI
namespace Go.Proofs.Ythlmnoggeggpkaa
open Go.RowKit

/-- What an item says. -/
def strip (x : It) : It := ⟨x.code, x.life, none, 0, x.ps, none, 0, x.os⟩
theorem getD_strip (X : List It) (i : Nat) : (X.map strip).getD i default = strip (X.getD i default) := by
  rw [List.getD_eq_getElem?_getD, List.getD_eq_getElem?_getD, List.getElem?_map]
  cases X[i]? <;> rfl
theorem cd_strip (X : List It) (i : Nat) : cd (X.map strip) i = cd X i := by unfold cd; rw [getD_strip]; rfl
theorem codes_strip (X : List It) : codes (X.map strip) = codes X := by
  unfold codes
  rw [List.map_map]; rfl
theorem itF_strip (X : List It) (c : List UInt8) : itF (X.map strip) c = (itF X c).map strip := by
  unfold itF
  rw [List.find?_map]
  rfl
theorem partsX_strip (X : List It) (c : List UInt8) : partsX (X.map strip) c = partsX X c := by
  unfold partsX
  rw [itF_strip]
  cases itF X c <;> rfl
theorem kidsX_strip (X : List It) : kidsX (X.map strip) = kidsX X := by
  funext c
  rw [kids_parts, kids_parts, partsX_strip]
theorem tellX_strip (X : List It) (c : List UInt8) : tellX (X.map strip) c = tellX X c := by
  unfold tellX
  rw [kidsX_strip, List.length_map]
theorem okIt_strip (X : List It) (i : Nat) : okIt (X.map strip) i = okIt X i := by
  unfold okIt
  rw [cd_strip, cd_strip, getD_strip]
  rfl
theorem chkE_strip (X : List It) : chkE (X.map strip) = chkE X := by
  have h1 : allOk (X.map strip) = allOk X := by unfold allOk; simp only [okIt_strip, List.length_map]
  have h2 : found (X.map strip) = found X := by
    unfold found
    simp only [getD_strip, List.length_map, codes_strip]
    rfl
  have h3 : roundX (X.map strip) = roundX X := by unfold roundX; simp only [tellX_strip, cd_strip, List.length_map]
  have h4 : tooDeep (X.map strip) = tooDeep X := by unfold tooDeep; simp only [tellX_strip, cd_strip, List.length_map]
  unfold chkE
  rw [h1, h2, h3, h4, List.length_map]
theorem deepX_strip (X : List It) (c : List UInt8) : deepX (X.map strip) c = deepX X c := by
  unfold deepX
  rw [chkE_strip, codes_strip, tellX_strip]
theorem putL_strip (X : List It) : ∀ (k : Nat) (S : List Pt) (c : List UInt8) (q : Int), putL (X.map strip) k S c q = putL X k S c q
  | 0, _, _, _ => rfl
  | k + 1, S, c, q => by
    have h : putL (X.map strip) k = putL X k := by funext S c q; exact putL_strip X k S c q
    unfold putL
    rw [partsX_strip, h]
theorem endL_strip (X : List It) (c : List UInt8) (q : Int) : endL (X.map strip) c q = endL X c q := putL_strip X 8 [] c q
/-- Like lists. -/
theorem strip_like {X Y : List It} (hl : Y.length = X.length) (h : ∀ i, i < X.length → LikeI (Y.getD i default) (X.getD i default)) : Y.map strip = X.map strip := by
  apply List.ext_getElem (by rw [List.length_map, List.length_map, hl])
  intro i h1 h2
  rw [List.length_map] at h1 h2
  have := h i h2
  rw [List.getD_eq_getElem?_getD, List.getElem?_eq_getElem h1, List.getD_eq_getElem?_getD, List.getElem?_eq_getElem h2] at this
  obtain ⟨e1, e2, e3, e4⟩ := this
  simp only [Option.getD_some] at e1 e2 e3 e4
  rw [List.getElem_map, List.getElem_map]
  unfold strip
  rw [e1, e2, e3, e4]
theorem chkE_like {X Y : List It} (hl : Y.length = X.length) (h : ∀ i, i < X.length → LikeI (Y.getD i default) (X.getD i default)) : chkE Y = chkE X := by
  rw [← chkE_strip Y, strip_like hl h, chkE_strip]
end Go.Proofs.Ythlmnoggeggpkaa
