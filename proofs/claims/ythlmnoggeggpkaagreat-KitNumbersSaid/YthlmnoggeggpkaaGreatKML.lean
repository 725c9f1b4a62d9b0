/- Rows of items, each a kit of the one ahead; kits of many parts: plain Lean. Lists of items in memory of one's own, without open texts. -/
import Derived.Test.YthlmnoggeggpkaaGreatKGreat
import Derived.Test.YthlmnoggeggpkaaGreatKKeptIs
namespace Go.Proofs.YthlmnoggeggpkaaGreat
open Go.RowKit

def chC (i : Nat) : List UInt8 := if i = 0 then [65] else [65, UInt8.ofNat (65 + i / 26), UInt8.ofNat (65 + i % 26)]
def chI (q : Int) (i : Nat) : It := ⟨chC i, if i = 0 then 1 else 0, none, 0, if i = 0 then [] else [(chC (i - 1), q)], none, 0, []⟩
def chL (n : Nat) (q : Int) : List It := (List.range n).map (chI q)
theorem chL_len (n : Nat) (q : Int) : (chL n q).length = n := by simp [chL]
theorem chL_at {n : Nat} {q : Int} {i : Nat} (h : i < n) : (chL n q).getD i default = chI q i := by
  simp [chL, List.getD_eq_getElem?_getD, h]
theorem chL_succ (n : Nat) (q : Int) : chL (n + 1) q = chL n q ++ [chI q n] := by
  simp [chL, List.range_succ]
theorem ch_ok0 : ((List.range 60).all fun i => okCode (chC i) && (decide (i = 0) || Op.bytesLess (chC (i - 1)) (chC i)) && okShape (chI 2 i).life (chI 2 i).ps) = true := by kernel_rfl
theorem ch_ok {i : Nat} (h : i < 60) : (okCode (chC i) && (decide (i = 0) || Op.bytesLess (chC (i - 1)) (chC i)) && okShape (chI 2 i).life (chI 2 i).ps) = true :=
  List.all_eq_true.1 ch_ok0 i (List.mem_range.2 h)
theorem ch_part {q : Int} {i : Nat} (h : i ≠ 0) : (chI q i).ps = [(chC (i - 1), q)] := by unfold chI; simp only; rw [if_neg h]
theorem ch_none {q : Int} : (chI q 0).ps = [] := rfl
theorem cd_in {X : List It} {i : Nat} (h : i < X.length) : cd X i ∈ codes X := by
  unfold cd codes
  rw [List.getD_eq_getElem?_getD, List.getElem?_eq_getElem h]
  exact List.mem_map_of_mem (List.getElem_mem h)
theorem ch_chk (n : Nat) (h : n ≤ 61) : chkE (chL n 2) = if n ≤ 8 then 0 else 3 := by
  by_cases h6 : 60 < n
  · rw [chk_long (by rw [chL_len]; exact h6), if_neg (by omega)]
  · have hl := chL_len n 2
    have hcd : ∀ i, i < n → cd (chL n 2) i = chC i := fun i hi => by unfold cd; rw [chL_at hi]; rfl
    have hok : ∀ i, i < (chL n 2).length → okIt (chL n 2) i = true := fun i hi => by
      rw [hl] at hi
      have h := ch_ok (show i < 60 by omega)
      unfold okIt
      rw [hcd i hi, hcd (i - 1) (by omega), chL_at hi]
      exact h
    have hin : ∀ i, i < n → chC i ∈ codes (chL n 2) := fun i hi => by
      rw [← hcd i hi]; exact cd_in (by rw [hl]; exact hi)
    have hf : ∀ i, i < (chL n 2).length → ∀ k, k < ((chL n 2).getD i default).ps.length → (((chL n 2).getD i default).ps.getD k default).1 ∈ codes (chL n 2) := fun i hi k hk => by
      rw [hl] at hi
      rw [chL_at hi] at hk ⊢
      by_cases h0 : i = 0
      · subst h0; exact absurd hk (Nat.not_lt_zero _)
      · rw [ch_part h0] at hk ⊢
        obtain rfl : k = 0 := by simpa using hk
        exact hin _ (by omega)
    have hkd : ∀ i, i < n → kidsX (chL n 2) (chC i) = if i = 0 then [] else [chC (i - 1)] := fun i hi => by
      rw [← hcd i hi, kids_cd (codes_nodup hok) (by rw [hl]; exact hi), chL_at hi]
      by_cases h0 : i = 0
      · subst h0; rfl
      · rw [ch_part h0, if_neg h0]; rfl
    have hh : ∀ f i, i < f → i < n → hgt (kidsX (chL n 2)) f (chC i) = some (i + 1) := by
      intro f
      induction f with
      | zero => intro i hi; omega
      | succ f ih =>
        intro i hi hn
        rw [hgt_succ, hkd i hn]
        by_cases h0 : i = 0
        · subst h0; rfl
        · rw [if_neg h0, List.foldl_cons, List.foldl_nil]
          unfold stepH
          rw [ih (i - 1) (by omega) (by omega)]
          simp only [Option.some.injEq]
          omega
    have ht : ∀ i, i < (chL n 2).length → tellX (chL n 2) (cd (chL n 2) i) = i + 1 := fun i hi => by
      rw [hl] at hi
      unfold tellX
      rw [hcd i hi, hl, hh n i hi hi]; rfl
    by_cases h8 : n ≤ 8
    · rw [if_pos h8]
      exact chk_fine (by omega) (allOk_of hok) (found_of hf) (fun i hi => by rw [ht i hi]; omega) (fun i hi => by rw [ht i hi]; omega)
    · rw [if_neg h8]
      exact chk_deep (by omega) (allOk_of hok) (found_of hf) (fun i hi => by rw [ht i hi]; omega) (i := 8) (by omega) (by rw [ht 8 (by omega)]; omega)
/-- So many items and a kit of one of each. -/
def stI (i : Nat) : It := ⟨[65, UInt8.ofNat (65 + i)], 1, none, 0, [], none, 0, []⟩
def stP (n : Nat) : List Pt := (List.range n).map fun i => ([65, UInt8.ofNat (65 + i)], 1)
def stL (n : Nat) : List It := (List.range n).map stI
def stK (n : Nat) : It := ⟨[90], 0, none, 0, stP n, none, 0, []⟩
theorem st_chk (n : Nat) (h : 7 ≤ n) (h2 : n ≤ 10) : decide (chkE (stL n ++ [stK n]) = 0) = decide (n ≤ 8) := by
  rcases (show n = 7 ∨ n = 8 ∨ n = 9 ∨ n = 10 by omega) with rfl | rfl | rfl | rfl <;> kernel_rfl
/-- The lists that are not right, but for the third. -/
def bA (c : List UInt8) (l : Int) (P : List Pt) : It := ⟨c, l, none, 0, P, none, 0, []⟩
def badL : List (List It) := [
  [], [bA [65] 0 []], [bA [65] 2000 []], [bA [65] 2001 []], [bA [65] (-1) []], [bA [97] 1 []], [bA [66] 1 [], bA [65] 1 []], [bA [65] 1 [], bA [65] 1 []],
  [bA [65] 1 [([65], 1)]], [bA [65] 0 [([65], 1)]], [bA [65] 0 [([90], 1)]], [bA [65] 1 [], bA [75] 0 [([65], 0)]], [bA [65] 1 [], bA [75] 0 [([65], 1073741825)]],
  [bA [65] 1 [], bA [75] 0 [([65], 1), ([65], 1)]], [bA [65] 1 [], bA [75] 0 (List.replicate 9 ([], 0))],
  [bA [65] 0 [([90], 1)], bA [66] 0 [([66], 1)]], [bA [75] 0 [([76], 1)], bA [76] 0 [([75], 1)]],
  [bA [65] 0 [([66], 1)], bA [66] 0 [([67], 1)], bA [67] 0 [([66], 1)]], List.replicate 61 (bA [] 0 [])]
theorem bad9 : chkE (badL.getD 9 []) = 152 := by kernel_rfl
theorem bad10 : chkE (badL.getD 10 []) = 150 := by kernel_rfl
theorem bad15 : chkE (badL.getD 15 []) = 150 := by kernel_rfl
theorem bad18 : chkE (badL.getD 18 []) = 3 := by kernel_rfl
end Go.Proofs.YthlmnoggeggpkaaGreat
namespace Go.Proofs.YthlmnoggeggpkaaGreat
open Go.RowKit Tx

/-- An item with parts of one's own and no texts. -/
structure MI (base : Nat) (w : World) (y : It) : Prop where
  oa : y.oa = none
  oc : y.oc = 0
  os : y.os = []
  op : OP base w y.pv y.ps
theorem MI.below {base : Nat} {w w' : World} {y : It} (h : MI base w y) (hb : Below w.heap.size w w') : MI base w' y := ⟨h.oa, h.oc, h.os, h.op.below hb⟩
theorem MI.mono {base base' : Nat} {w : World} {y : It} (h : MI base w y) (hb : base' ≤ base) : MI base' w y := ⟨h.oa, h.oc, h.os, h.op.mono hb⟩
theorem MI.grown {base base' : Nat} {w w' : World} {y : It} {v : Value} {Y : List It} (h : MI base w y) (ho : OIt base' w v Y) (hg : w.grownBy w' v.ownBlock) : MI base w' y :=
  ⟨h.oa, h.oc, h.os, rows_grown (by decide) h.op ho hg⟩
/-- The slice value v leads to the items Y, all in memory of one's own from block base on; they say X. -/
structure MY (base : Nat) (w : World) (v : Value) (X Y : List It) : Prop where
  say : Y.map strip = X
  own : OIt base w v Y
  at_ : ∀ y ∈ Y, MI base w y
theorem MY.nil (base : Nat) (w : World) : MY base w (.slice none 0 0) [] [] := ⟨rfl, OIt.nil _ _, fun y hy => by cases hy⟩
theorem MY.below {base : Nat} {w w' : World} {v : Value} {X Y : List It} (h : MY base w v X Y) (hb : Below w.heap.size w w') : MY base w' v X Y := ⟨h.say, h.own.below hb, fun y hy => (h.at_ y hy).below hb⟩
theorem MY.mono {base base' : Nat} {w : World} {v : Value} {X Y : List It} (h : MY base w v X Y) (hb : base' ≤ base) : MY base' w v X Y := ⟨h.say, h.own.mono hb, fun y hy => (h.at_ y hy).mono hb⟩
theorem MY.len {base : Nat} {w : World} {v : Value} {X Y : List It} (h : MY base w v X Y) : Y.length = X.length := by rw [← h.say, List.length_map]
theorem MY.push {base : Nat} {w w' : World} {v v' : Value} {X Y : List It} {y : It} (h : MY base w v X Y) (hy : MI base w y) (ho : OIt base w' v' (Y ++ [y])) (hg : w.grownBy w' v.ownBlock) : MY base w' v' (X ++ [strip y]) (Y ++ [y]) := by
  refine ⟨by rw [List.map_append, h.say]; rfl, ho, fun z hz => ?_⟩
  rcases List.mem_append.1 hz with hz | hz
  · exact (h.at_ z hz).grown h.own hg
  · rw [List.mem_singleton] at hz
    subst hz
    exact hy.grown h.own hg
theorem rt_none' (B : Nat) (w : World) : RT B w none 0 0 [] := ⟨rfl, Nat.le_refl _, Nat.zero_le _, fun p hp => (by cases hp), fun h => absurd h (Nat.lt_irrefl _)⟩
/-- What the items say is small. -/
def SmI (x : It) : Prop := x.code.length ≤ 1000 ∧ (-9223372036854775808 ≤ x.life ∧ x.life ≤ 9223372036854775807) ∧ x.ps.length ≤ 1000 ∧ ∀ p ∈ x.ps, p.1.length ≤ 1000 ∧ -9223372036854775808 ≤ p.2 ∧ p.2 ≤ 9223372036854775807
theorem MI.ok {base : Nat} {w : World} {y : It} (h : MI base w y) (hs : SmI (strip y)) : ItOk w.heap.size w y := by
  obtain ⟨h1, h2, h3, h4⟩ := hs
  have hrp : RP w.heap.size w y.pa y.ps.length y.pc y.ps := OP.rp2 h.op fun p hp => by
    obtain ⟨g1, g2, g3⟩ := h4 p hp
    exact ⟨by omega, g2, g3⟩
  refine ⟨?_, h2.1, h2.2, hrp, ?_⟩
  · have : y.code.length ≤ 1000 := h1
    omega
  · rw [h.oa, h.oc, h.os]
    exact rt_none' _ _
theorem MY.ri {base n : Nat} {w : World} {v : Value} {X Y : List It} (h : MY base w v X Y) (hn : n = X.length) (hs : ∀ x ∈ X, SmI x) : LowI Y ∧ chkE Y = chkE X ∧ ∃ a c, v = .slice a n c ∧ RI w.heap.size w a n c Y := by
  have hl := h.len
  have hsy : ∀ y ∈ Y, SmI (strip y) := fun y hy => hs _ (by rw [← h.say]; exact List.mem_map_of_mem hy)
  refine ⟨fun i hi => ?_, by rw [← h.say, chkE_strip], ?_⟩
  · have hm : Y.getD i default ∈ Y := by
      rw [List.getD_eq_getElem?_getD, List.getElem?_eq_getElem hi]; exact List.getElem_mem _
    obtain ⟨h1, -, h3, h4⟩ := hsy _ hm
    have e1 : (Y.getD i default).code.length ≤ 1000 := h1
    have e3 : (Y.getD i default).ps.length ≤ 1000 := h3
    refine ⟨by omega, by omega, ?_, fun p hp => ?_⟩
    · rw [(h.at_ _ hm).os]; exact Nat.zero_le _
    · have := (h4 p hp).1
      omega
  · obtain ⟨a, c, rfl, hle, hmx, ha⟩ := rows_form h.own
    refine ⟨a, c, by rw [hl, hn], ⟨by rw [hl, hn], by rw [hn, ← hl]; exact hle, hmx, fun y hy => (h.at_ y hy).ok (hsy y hy), fun hc => ?_⟩⟩
    by_cases h0 : 0 < Y.length
    · obtain ⟨g, rfl⟩ := ha h0
      obtain ⟨-, -, -, hg, hcell⟩ := h.own.cells
      refine ⟨g, 0, rfl, hg, fun i hi => ?_⟩
      rw [Nat.zero_add]
      exact hcell i (by omega)
    · obtain ⟨-, ⟨h2, h3⟩ | ⟨g, cap, cur, hv, hg, hh, -⟩⟩ := h.own
      · injection h2 with e1 e2 e3
        omega
      · injection hv with e1 e2 e3
        subst e1
        exact ⟨g, 0, rfl, (Array.getElem?_eq_some_iff.1 hh).1, fun i hi => by omega⟩
/-- Parts laid as a literal. -/
theorem OP.lit {base : Nat} (w : World) (P : List Pt) (cs : Array Value) (hcs : cs = (cellsP P).toArray) (hb : base ≤ w.heap.size) (hP : P.length ≤ 1000) : OP base (w.alloc (.cells cs 45)) (.slice (some ⟨w.heap.size, 0, none⟩) P.length P.length) P := by
  have := World.ownsRow_lit (e := 45) (size := 2) w cs P.length hb (by unfold maxLen; omega) (by rw [hcs]; simp [cellsP_len])
  unfold OP
  rw [hcs] at this ⊢
  simpa using this
theorem OIt.lit {base : Nat} (w : World) (Y : List It) (cs : Array Value) (hcs : cs = (cellsI Y).toArray) (hb : base ≤ w.heap.size) (hY : Y.length ≤ 1000) : OIt base (w.alloc (.cells cs 43)) (.slice (some ⟨w.heap.size, 0, none⟩) Y.length Y.length) Y := by
  have := World.ownsRow_lit (e := 43) (size := 4) w cs Y.length hb (by unfold maxLen; omega) (by rw [hcs]; simp [cellsI_len])
  unfold OIt
  rw [hcs] at this ⊢
  simpa using this
end Go.Proofs.YthlmnoggeggpkaaGreat
