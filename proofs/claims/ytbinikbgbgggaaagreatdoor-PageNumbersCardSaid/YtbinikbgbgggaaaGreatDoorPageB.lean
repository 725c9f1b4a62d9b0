/- The walks of page.key, page.value, bytes.Compare, bytes.Equal. The walks of bytes.Trim at a cutset of one nought. -/
import Derived.Test.YtbinikbgbgggaaaGreatDoorBytes
namespace Go.Proofs.YtbinikbgbgggaaaGreatDoor
open Go.RowKit

set_option maxHeartbeats 4000000 in
set_option maxRecDepth 100000 in
theorem key_any (B : Nat) (a : Option Addr) (n c : Nat) (l : List UInt8) (i k : Nat) (w : World) (hp : RB B w a n c l) (hk : bt l i = k) (hi : i + 2 + k ≤ n) :
    Calls Tryz.prog 37 #[.slice a n c, .int .i64 i] w fun e w' => RetB B w ((l.drop (i + 2)).take k) e ∧ w = w' := by
  have hle := hp.le; have hmx := hp.mx; have hlm := hp.lm
  obtain ⟨b, o, rfl, hB, hcell⟩ := hp.at_ (by omega)
  have g := hcell i (by omega)
  have hb := bt_bd l i
  rw [hk] at g hb
  clear hcell hk
  have hs := hp.sub (i + 2) k hi
  go_enter Tryz.func37, Tryz.ntmps37
  go_wp2
  · go_ret
    obtain rfl : k = 0 := by omega
    exact ⟨⟨_, _, _, rfl, by simpa using RB.emp _⟩, rfl⟩
  · go_ret
    exact ⟨⟨_, _, _, rfl, hs⟩, rfl⟩

set_option maxHeartbeats 4000000 in
set_option maxRecDepth 100000 in
/-- .. of a key that has bytes: just which slice. -/
theorem key_pos (B : Nat) (b o n c : Nat) (l : List UInt8) (i k : Nat) (w : World) (hp : RB B w (some ⟨b, o, none⟩) n c l) (hk : bt l i = k) (hi : i + 2 + k ≤ n) (h1 : 1 ≤ k) :
    Calls Tryz.prog 37 #[.slice (some ⟨b, o, none⟩) n c, .int .i64 i] w fun e w' => e = .returned (.slice (some ⟨b, o + (i + 2), none⟩) k (c - (i + 2))) ∧ w = w' := by
  have hle := hp.le; have hmx := hp.mx; have hlm := hp.lm
  obtain ⟨b', o', he, hB, hcell⟩ := hp.at_ (by omega)
  cases he
  have g := hcell i (by omega)
  have hb := bt_bd l i
  rw [hk] at g hb
  clear hcell hk
  have hne : ¬ c = i + 2 := by omega
  go_enter Tryz.func37, Tryz.ntmps37
  go_wp2
  go_ret
  refine ⟨?_, rfl⟩
  show Ending.returned (.slice _ (i + 2 + k - (i + 2)) _) = _
  rw [Nat.add_sub_cancel_left]

set_option maxHeartbeats 4000000 in
set_option maxRecDepth 100000 in
theorem value_any (B : Nat) (a : Option Addr) (n c : Nat) (l : List UInt8) (i k j : Nat) (w : World) (hp : RB B w a n c l) (hk : bt l i = k) (hi : i + 2 + k ≤ j) (hj : j ≤ n) :
    Calls Tryz.prog 35 #[.slice a n c, .int .i64 i, .int .i64 j] w fun e w' => RetB B w ((l.drop (i + 2 + k)).take (j - (i + 2 + k))) e ∧ w = w' := by
  have hle := hp.le; have hmx := hp.mx; have hlm := hp.lm
  obtain ⟨b, o, rfl, hB, hcell⟩ := hp.at_ (by omega)
  have g := hcell i (by omega)
  have hb := bt_bd l i
  rw [hk] at g hb
  clear hcell hk
  have hs := hp.sub (i + 2 + k) (j - (i + 2 + k)) (by omega)
  go_enter Tryz.func35, Tryz.ntmps35
  go_wp2
  · go_ret
    obtain rfl : j = i + 2 + k := by omega
    exact ⟨⟨_, _, _, rfl, by simpa using RB.emp _⟩, rfl⟩
  · go_ret
    exact ⟨⟨_, _, _, rfl, hs⟩, rfl⟩

set_option maxHeartbeats 4000000 in
set_option maxRecDepth 100000 in
/-- .. of a value that has bytes: just which slice. -/
theorem value_pos (B : Nat) (b o n c : Nat) (l : List UInt8) (i k j : Nat) (w : World) (hp : RB B w (some ⟨b, o, none⟩) n c l) (hk : bt l i = k) (hi : i + 2 + k < j) (hj : j ≤ n) :
    Calls Tryz.prog 35 #[.slice (some ⟨b, o, none⟩) n c, .int .i64 i, .int .i64 j] w fun e w' => e = .returned (.slice (some ⟨b, o + (i + 2 + k), none⟩) (j - (i + 2 + k)) (c - (i + 2 + k))) ∧ w = w' := by
  have hle := hp.le; have hmx := hp.mx; have hlm := hp.lm
  obtain ⟨b', o', he, hB, hcell⟩ := hp.at_ (by omega)
  cases he
  have g := hcell i (by omega)
  have hb := bt_bd l i
  rw [hk] at g hb
  clear hcell hk
  have hne : ¬ c = i + 2 + k := by omega
  go_enter Tryz.func35, Tryz.ntmps35
  go_wp2
  go_ret
  exact ⟨rfl, rfl⟩

theorem beq_toList (l k : List UInt8) : ((ByteArray.mk l.toArray).toList == (ByteArray.mk k.toArray).toList) = eqB l k := by
  simp only [ByteArray.toList_mk]
  by_cases h : l = k
  · subst h; simp [eqB_self]
  · rw [eqB_ne h]; simpa using h

set_option maxHeartbeats 4000000 in
set_option maxRecDepth 100000 in
theorem Equal_any (B C : Nat) (a b : Option Addr) (n c m d : Nat) (l k : List UInt8) (w : World) (hl : RB B w a n c l) (hk : RB C w b m d k) :
    Calls Tryz.prog 43 #[.slice a n c, .slice b m d] w fun e w' => e = .returned (.bool (eqB l k)) ∧ w = w' := by
  have k1 := run_conv (P := Tryz.prog) hl 22 5 9 Tryz.underlying22 Tryz.underlying5 Tryz.underlying9
  have k2 := run_conv (P := Tryz.prog) hk 22 5 9 Tryz.underlying22 Tryz.underlying5 Tryz.underlying9
  have k3 := beq_toList l k
  obtain ⟨sl, hsl⟩ : ∃ s, s = ByteArray.mk l.toArray := ⟨_, rfl⟩
  obtain ⟨sk, hsk⟩ : ∃ s, s = ByteArray.mk k.toArray := ⟨_, rfl⟩
  rw [← hsl] at k1 k3
  rw [← hsk] at k2 k3
  clear hsl hsk
  go_enter Tryz.func43, Tryz.ntmps43
  go_wp2
  go_ret
  exact ⟨rfl, rfl⟩

set_option maxHeartbeats 4000000 in
set_option maxRecDepth 100000 in
theorem Compare_any (B C : Nat) (a b : Option Addr) (n c m d : Nat) (l k : List UInt8) (w : World) (hl : RB B w a n c l) (hk : RB C w b m d k) :
    Calls Tryz.prog 51 #[.slice a n c, .slice b m d] w fun e w' => e = .returned (.int .i64 (Lib.compareBytes l k)) ∧ w = w' := by
  go_enter Tryz.func51, Tryz.ntmps51
  go_wp2
  rw [run_callFunc_extern Tryz.func86 (by kernel_rfl) (by kernel_rfl) (by kernel_rfl) (e := Extern.BytealgCompare.compare) (by kernel_rfl), run_compare hl hk]
  simp only [Result.andThen]
  rw [Oper.upon_value]
  go_wp2
  go_ret
  exact ⟨rfl, rfl⟩
end Go.Proofs.YtbinikbgbgggaaaGreatDoor
namespace Go.Proofs.YtbinikbgbgggaaaGreatDoor
open Go.RowKit

/-- What bytes.Trim takes away in front, and behind. -/
def tl (x : UInt8) : List UInt8 → List UInt8
  | [] => []
  | y :: l => if y = x then tl x l else y :: l
def tr (x : UInt8) (l : List UInt8) : List UInt8 := (tl x l.reverse).reverse

theorem tl_len (x : UInt8) (l : List UInt8) : (tl x l).length ≤ l.length := by
  induction l with
  | nil => simp [tl]
  | cons y l ih => unfold tl; split <;> simp <;> omega
theorem tl_drop (x : UInt8) (l : List UInt8) (j : Nat) (hj : j < l.length) (h : bt l j = x.toNat) : tl x (l.drop j) = tl x (l.drop (j + 1)) := by
  rw [List.drop_eq_getElem_cons hj]
  have : l[j] = x := by
    unfold bt at h
    rw [List.getD_eq_getElem?_getD, List.getElem?_eq_getElem hj, Option.getD_some] at h
    exact UInt8.toNat_inj.1 (by omega)
  conv => lhs; unfold tl
  rw [if_pos this]
theorem tl_stop (x : UInt8) (l : List UInt8) (j : Nat) (hj : j < l.length) (h : bt l j ≠ x.toNat) : tl x (l.drop j) = l.drop j := by
  rw [List.drop_eq_getElem_cons hj]
  have : l[j] ≠ x := by
    unfold bt at h
    rw [List.getD_eq_getElem?_getD, List.getElem?_eq_getElem hj, Option.getD_some] at h
    intro e; exact h (by rw [e])
  conv => lhs; unfold tl
  rw [if_neg this]
theorem tr_take (x : UInt8) (l : List UInt8) (j : Nat) (hj : j < l.length) (h : bt l j = x.toNat) : tr x (l.take (j + 1)) = tr x (l.take j) := by
  have : l[j] = x := by
    unfold bt at h
    rw [List.getD_eq_getElem?_getD, List.getElem?_eq_getElem hj, Option.getD_some] at h
    exact UInt8.toNat_inj.1 (by omega)
  unfold tr
  rw [List.take_succ_eq_append_getElem hj, List.reverse_append]
  simp [tl, this]
theorem tr_stop (x : UInt8) (l : List UInt8) (j : Nat) (hj : j < l.length) (h : bt l j ≠ x.toNat) : tr x (l.take (j + 1)) = l.take (j + 1) := by
  have : l[j] ≠ x := by
    unfold bt at h
    rw [List.getD_eq_getElem?_getD, List.getElem?_eq_getElem hj, Option.getD_some] at h
    intro e; exact h (by rw [e])
  unfold tr
  rw [List.take_succ_eq_append_getElem hj, List.reverse_append]
  simp [tl, this]

/-- The length in a slot that holds a slice. -/
def lenOf : Value → Nat | .slice _ m _ => m | _ => 0

set_option maxHeartbeats 1000000 in
theorem trimRight_any (B : Nat) (a : Option Addr) (n c : Nat) (l : List UInt8) (x : UInt8) (w : World) (hl : RB B w a n c l) :
    Calls Tryz.prog 115 #[.slice a n c, .int .u8 x.toNat] w fun e w' => e = .returned (.slice a (tr x l).length c) ∧ w = w' := by
  have hle := hl.le; have hmx := hl.mx; have hlm := hl.lm; have hln := hl.len
  have Hln := Lib.hid hln; clear hln
  obtain ⟨X, hX⟩ : ∃ X : Nat, X = x.toNat := ⟨_, rfl⟩
  have HX := Lib.hid hX
  rw [← hX]
  clear hX
  go_enter Tryz.func115, Tryz.ntmps115
  go_wp2
  go_loop [0] (fun s => ∃ (m : Nat), s = .slice a m c ∧ m ≤ n ∧ Hid (tr x l = tr x (l.take m))) (fun s => lenOf s)
  case atStart => exact ⟨n, rfl, Nat.le_refl _, by show _ = _; rw [Hln.out, List.take_length]⟩
  case round =>
    obtain ⟨m, rfl, hj, ht⟩ := hrel
    by_cases hm : 0 < m
    · obtain ⟨b, o, rfl, hB, hc⟩ := hl.at_ (by omega)
      obtain ⟨m, rfl⟩ : ∃ m', m = m' + 1 := ⟨m - 1, by omega⟩
      have g := hc m (by omega)
      clear hc
      have hs := hl.take (m + 1) (by omega)
      go_wp2
      · go_round
        case rel =>
          have e : bt l m = X := by simpa using ‹(bt l m == (X : Int)) = true›
          exact ⟨m, rfl, by omega, by show _ = _; rw [ht.out, tr_take x l m (by rw [← Hln.out]; omega) (by rw [e, HX.out])]⟩
        case measure => simp [lenOf]
      · go_ret
        have e : bt l m ≠ X := by simpa using ‹(bt l m == (X : Int)) = false›
        refine ⟨?_, rfl⟩
        have hlen := hs.len
        rw [ht.out, tr_stop x l m (by rw [← Hln.out]; omega) (by rw [← HX.out]; exact e), ← hlen]
        rfl
    · obtain rfl : m = 0 := by omega
      have hs := hl.take 0 (by omega)
      go_wp2
      go_ret
      exact ⟨by rw [ht.out]; rfl, rfl⟩

theorem tr_take_eq (x : UInt8) (l : List UInt8) : tr x l = l.take (tr x l).length := by
  unfold tr
  obtain ⟨r, hr⟩ : ∃ r, r = l.reverse := ⟨_, rfl⟩
  have : l = r.reverse := by simp [hr]
  subst this
  simp only [List.reverse_reverse, List.length_reverse]
  clear hr
  induction r with
  | nil => simp [tl]
  | cons y r ih =>
    unfold tl
    split
    · rw [List.reverse_cons, List.take_append_of_le_length (by have := tl_len x r; simpa using this)]
      exact ih
    · rw [List.take_of_length_le (by simp)]

/-- What bytes.trimLeftByte hands back. -/
def tlV (a : Option Addr) (n c k : Nat) : Value :=
  match a with
  | some ⟨b, o, _⟩ => if k = 0 then .slice none 0 0 else .slice (some ⟨b, o + (n - k), none⟩) k (c - (n - k))
  | none => .slice none 0 0
theorem tlV_zero (a : Option Addr) (n c : Nat) : tlV a n c 0 = .slice none 0 0 := by unfold tlV; split <;> rfl
theorem tlV_len (a : Option Addr) (n c k : Nat) (h : 0 < k → a ≠ none) : ∃ a' c', tlV a n c k = .slice a' k c' := by
  unfold tlV; split
  · split
    · exact ⟨none, 0, by rw [‹k = 0›]⟩
    · exact ⟨_, _, rfl⟩
  · have : k = 0 := by
      rcases Nat.eq_zero_or_pos k with h0 | h0
      · exact h0
      · exact absurd rfl (h h0)
    exact ⟨none, 0, by rw [this]⟩

set_option maxHeartbeats 1000000 in
theorem trimLeft_any (B : Nat) (a : Option Addr) (n c : Nat) (l : List UInt8) (x : UInt8) (w : World) (hl : RB B w a n c l) :
    Calls Tryz.prog 114 #[.slice a n c, .int .u8 x.toNat] w fun e w' => e = .returned (tlV a n c (tl x l).length) ∧ w = w' := by
  have hle := hl.le; have hmx := hl.mx; have hlm := hl.lm; have hln := hl.len
  have Hln := Lib.hid hln; clear hln
  obtain ⟨X, hX⟩ : ∃ X : Nat, X = x.toNat := ⟨_, rfl⟩
  have HX := Lib.hid hX
  rw [← hX]
  clear hX
  go_enter Tryz.func114, Tryz.ntmps114
  go_wp2
  go_loop [0] (fun s => ∃ (j m c' : Nat) (a' : Option Addr), s = .slice a' m c' ∧ Hid (j + m = n) ∧ Hid (tl x l = tl x (l.drop j)) ∧ Hid (0 < m → c' = c - j ∧ ∃ b o, a = some ⟨b, o, none⟩ ∧ a' = some ⟨b, o + j, none⟩)) (fun s => lenOf s)
  case atStart =>
    refine ⟨0, n, c, a, rfl, Nat.zero_add _, rfl, fun hn => ⟨rfl, ?_⟩⟩
    obtain ⟨b, o, h, -⟩ := hl.at_ (by omega)
    exact ⟨b, o, h, h⟩
  case round =>
    obtain ⟨j, m, c', a', rfl, hj, ht, hr⟩ := hrel
    by_cases hm : 0 < m
    · obtain ⟨hc', b, o, rfl, ha'⟩ := hr.out hm
      have hjm := hj.out
      obtain ⟨b', o', he, hB, hc⟩ := hl.at_ (by omega)
      cases he
      have g := hc j (by omega)
      clear hc
      subst hc' ha'
      have hjn : j + m ≤ c := by omega
      clear hjm
      go_wp2
      · have e : bt l j = X := by simpa using ‹(bt l j == (X : Int)) = true›
        go_round
        case rel =>
          have hlen := Hln.out
          have hjm := hj.out
          refine ⟨j + 1, m - 1, c - j - 1, _, rfl, by show _ = _; omega, by show _ = _; rw [ht.out, tl_drop x l j (by omega) (by rw [e, HX.out])], ?_⟩
          intro hm1
          refine ⟨by omega, b, o, rfl, ?_⟩
          rw [if_neg (by omega)]; rfl
        case measure => simp [lenOf]; omega
      · go_ret
        have e : bt l j ≠ X := by simpa using ‹(bt l j == (X : Int)) = false›
        have hlen := Hln.out
        have hjm := hj.out
        refine ⟨?_, rfl⟩
        rw [ht.out, tl_stop x l j (by omega) (by rw [← HX.out]; exact e), List.length_drop]
        simp only [tlV]
        rw [if_neg (by omega), show n - (l.length - j) = j by omega, show l.length - j = m by omega]
        rfl
    · obtain rfl : m = 0 := by omega
      have hlen := Hln.out
      have hjm := hj.out
      have : l.drop j = [] := List.eq_nil_of_length_eq_zero (by rw [List.length_drop]; omega)
      have Hd := Lib.hid this
      clear this hlen hjm
      go_wp2
      go_ret
      refine ⟨?_, rfl⟩
      rw [ht.out, Hd.out]
      exact congrArg Ending.returned (tlV_zero a n c).symm

/-- 'len(bytes.Trim(p, "\x00")) > 0': something that is no nought. -/
def trimLen (l : List UInt8) : Nat := (tl 0 (tr 0 l)).length
set_option maxHeartbeats 1000000 in
set_option maxRecDepth 100000 in
theorem Trim_any (B : Nat) (a : Option Addr) (n c : Nat) (l : List UInt8) (w : World) (hl : RB B w a n c l) :
    Calls Tryz.prog 77 #[.slice a n c, .string ⟨#[0]⟩] w fun e w' => (∃ a' c', e = .returned (.slice a' (trimLen l) c')) ∧ ∃ q, w' = w.drewN q := by
  have hle := hl.le; have hmx := hl.mx; have hlm := hl.lm; have hln := hl.len
  by_cases h0 : n = 0
  · subst h0
    obtain rfl : l = [] := List.eq_nil_of_length_eq_zero hln.symm
    clear hln
    go_enter Tryz.func77, Tryz.ntmps77
    go_wp2
    go_ret
    exact ⟨⟨none, 0, rfl⟩, 0, rfl⟩
  · have hn0 : ((n : Int) == 0) = false := by simp; omega
    have htr : RB B w a (tr 0 l).length c (tr 0 l) := by
      have h := tr_take_eq 0 l
      have hle : (tr 0 l).length ≤ n := by have := tl_len 0 l.reverse; unfold tr; simp at this ⊢; omega
      rw [h]; have := hl.take (tr 0 l).length hle
      rwa [← h] at this ⊢
    obtain ⟨b, o, hab, -⟩ := hl.at_ (by omega)
    have hfin := tlV_len a (tr 0 l).length c (trimLen l) (fun _ h => by rw [hab] at h; cases h)
    have Hfin := Lib.hid hfin
    clear hfin hab
    have Hln := Lib.hid hln; clear hln
    go_enter Tryz.func77, Tryz.ntmps77
    go_wp2_with fail
    go_quiet ((first | (go_at_call 115; exact quiet_same (trimRight_any B a n c l 0 _ (hl.drewN _))) | (go_at_call 114; exact quiet_same (trimLeft_any B a _ c _ 0 _ (htr.drewN _)))))
    go_wp2
    go_ret
    obtain ⟨a', c', h⟩ := Hfin.out
    exact ⟨⟨a', c', by rw [← h]; rfl⟩, _, rfl⟩
end Go.Proofs.YtbinikbgbgggaaaGreatDoor
