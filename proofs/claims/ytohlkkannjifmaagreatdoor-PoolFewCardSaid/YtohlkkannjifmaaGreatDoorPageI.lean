/- The walk of page.Turn: each way through it. (Printed by wip/gen/turn.py.) -/
import Derived.Test.YtohlkkannjifmaaGreatDoorPageH
namespace Go.Proofs.YtohlkkannjifmaaGreatDoor
open Go.RowKit Go.Shelf
set_option maxHeartbeats 2000000 in
set_option maxRecDepth 100000 in
theorem Turn_none1 (g c : Nat) (L : List UInt8) (X : List Value) (B : Nat) (ka oa na : Option Addr) (kn kc on oc nn nc : Nat) (K O N : List UInt8) (w : World) (hp : PG w g c L X)
    (hk : RBn g B w ka kn kc K) (ho : RBn g B w oa on oc O) (hn : RBn g B w na nn nc N) (hB : B ≤ w.heap.size) (h0 : behindL L ≠ 0) (ht : turnedB K.length O.length N.length = true) (i e : Nat) (hf : findL L K = (i, e, true)) (hO : O = []) :
    Calls Tryz.prog 21 #[.slice (some ⟨g, 0, none⟩) 512 c, .agg #[.slice ka kn kc, .slice oa on oc, .slice na nn nc]] w (TurnPost g c w (turnL L K O N) X) := by
  have hgw := hp.lt
  have hcap := hp.cap
  have hfin := (show turnL L K O N = (6, L) from by unfold turnL; rw [if_neg h0, if_neg (by rw [ht]; simp), hf]; dsimp only; rw [if_pos (.inl (by rw [hO]; rfl))])
  have Hfin := Lib.hid hfin
  obtain ⟨d11, die, del, dl5, dt, df⟩ := findL_bd h0 hf
  obtain ⟨last, hlast⟩ : ∃ last, last = behindL L := ⟨_, rfl⟩
  have HB : Hid (∀ w' : World, Below w.heap.size w w' → Calls Tryz.prog 65 #[.slice (some ⟨g, 0, none⟩) 512 c] w' fun e w'' => e = .returned (.int .i64 last) ∧ Below w'.heap.size w' w'') := by
    intro w' hb
    rw [hlast]
    exact behind_any w'.heap.size _ _ _ _ w' (hp.below hb hp.lt).rb (Nat.le_refl _)
  have HT : Hid (∀ w' : World, Calls Tryz.prog 66 #[.agg #[.slice ka kn kc, .slice oa on oc, .slice na nn nc]] w' fun e w'' => e = .returned (.bool true) ∧ Below w'.heap.size w' w'') := by
    intro w'
    have := turned_any ka oa na kn kc on oc nn nc w' hk.rb.lm ho.rb.lm hn.rb.lm
    rw [hk.rb.len, ho.rb.len, hn.rb.len, ht] at this
    rw [hk.rb.len, ho.rb.len, hn.rb.len]
    exact this
  have HF : Hid (∀ w' : World, Below w.heap.size w w' → Calls Tryz.prog 67 #[.slice (some ⟨g, 0, none⟩) 512 c, .slice ka kn kc] w' fun e' w'' =>
      e' = .returned (.tuple #[.int .i64 i, .int .i64 e, .bool true]) ∧ Below w'.heap.size w' w'') := by
    intro w' hb
    have := find_any w'.heap.size B _ _ _ L ka kn kc K w' (hp.below hb hp.lt).rb (hk.rb.below (hb.mono hB)) (Nat.le_refl _) (Nat.le_trans hB hb.size) (Nat.pos_of_ne_zero h0)
    rw [hf] at this
    exact this
  obtain ⟨dk1, dk2⟩ := dt rfl
  obtain ⟨bk, hbk⟩ : ∃ bk : Nat, bk = (bt L i).toNat := ⟨_, rfl⟩
  rw [← hbk] at dk2
  obtain ⟨eq, heq⟩ : ∃ eq, eq = eqB (valOf L i e) O := ⟨_, rfl⟩
  have HV : Hid (∀ w' : World, Below w.heap.size w w' → ∀ q, Calls Tryz.prog 69 #[.slice (some ⟨g, 0, none⟩) 512 c, .int .i64 i, .int .i64 e] (w'.drewN q) fun e' w'' => e' = .returned (.slice (some ⟨g, i + 2 + bk, none⟩) (e - (i + 2 + bk)) (c - (i + 2 + bk))) ∧ w'.drewN q = w'') := by
    intro w' hb q
    have := value_pos w'.heap.size g 0 512 c L i bk e (w'.drewN q) ((hp.below hb hp.lt).rb.drewN q) (by rw [hbk]; omega) dk2 (by omega)
    rwa [Nat.zero_add] at this
  have HE : Hid (∀ w' : World, Below w.heap.size w w' → ∀ q, Calls Tryz.prog 68 #[.slice (some ⟨g, i + 2 + bk, none⟩) (e - (i + 2 + bk)) (c - (i + 2 + bk)), .slice oa on oc] (w'.drewN q) fun e' w'' => e' = .returned (.bool eq) ∧ w'.drewN q = w'') := by
    intro w' hb q
    have h1 := (hp.below hb hp.lt).rb.sub (i + 2 + bk) (e - (i + 2 + bk)) (by omega)
    rw [Nat.zero_add] at h1
    have := Equal_any w'.heap.size B _ _ _ _ _ _ _ O (w'.drewN q) (h1.drewN q) ((ho.rb.below (hb.mono hB)).drewN q)
    rw [heq]
    unfold valOf
    rw [← hbk]
    exact this
  have hl0 : last ≠ 0 := by rw [hlast]; exact h0
  have hld : ((last : Int) == 0) = false := by simp; omega
  rw [← hlast] at del dl5
  have hb0 : Below w.heap.size w (w.alloc (.cells #[.slice ka kn kc, .slice oa on oc, .slice na nn nc] 29)) := (Below.refl _ w).alloc (Nat.le_refl _) _
  have ht0 : T3 (w.alloc (.cells #[.slice ka kn kc, .slice oa on oc, .slice na nn nc] 29)) w.heap.size (.slice ka kn kc) (.slice oa on oc) (.slice na nn nc) := heap_alloc_new w _
  have Hb0 := Lib.hid hb0
  have Ht0 := Lib.hid ht0
  have hklen := hk.rb.len
  have holen := ho.rb.len
  have hnlen := hn.rb.len
  have hklm := hk.rb.lm
  have hnlm := hn.rb.lm
  obtain rfl : on = 0 := by rw [holen, hO]; rfl
  clear hfin h0 hb0 ht0 hlast ht hl0 hf heq hklen holen hnlen dt df hcap hbk hO
  go_enter Tryz.func21, Tryz.ntmps21
  go_wp2_with (first | (go_at_call 65; refine (HB.out _ Hb0.out).mono ?_; rintro e w1 ⟨rfl, hb1⟩; have ht1 := Lib.hid (Ht0.out.below hb1 (by simp)); obtain ⟨c10, c11, c12⟩ := ht1.out.cells; have hs1 := Hb0.out.size; have Hb1 := Lib.hid (Hb0.out.trans (hb1.mono hs1))) | (go_at_call 66; refine (HT.out _).mono ?_; rintro e w2 ⟨rfl, hb2⟩; have ht2 := Lib.hid (ht1.out.below hb2 ht1.out.lt); obtain ⟨c20, c21, c22⟩ := ht2.out.cells; have Hb2 := Lib.hid (Hb1.out.trans (hb2.mono Hb1.out.size))) | (go_at_call 67; refine (HF.out _ Hb2.out).mono ?_; rintro e w3 ⟨rfl, hb3⟩; have ht3 := Lib.hid (ht2.out.below hb3 ht2.out.lt); obtain ⟨c30, c31, c32⟩ := ht3.out.cells; have Hb3 := Lib.hid (Hb2.out.trans (hb3.mono Hb2.out.size))))
  go_quiet ((first | (go_at_call 69; with_reducible exact quiet_same (HV.out _ Hb3.out _)) | (go_at_call 68; with_reducible exact quiet_same (HE.out _ Hb3.out _))))
  go_wp2
  go_ret
  have hb4 := below_dn Hb3.out nq
  exact ⟨by rw [Hfin.out]; rfl, by rw [Hfin.out]; exact hp.below hb4 hp.lt, Mod.of_below hb4⟩
set_option maxHeartbeats 2000000 in
set_option maxRecDepth 100000 in
theorem Turn_none2 (g c : Nat) (L : List UInt8) (X : List Value) (B : Nat) (ka oa na : Option Addr) (kn kc on oc nn nc : Nat) (K O N : List UInt8) (w : World) (hp : PG w g c L X)
    (hk : RBn g B w ka kn kc K) (ho : RBn g B w oa on oc O) (hn : RBn g B w na nn nc N) (hB : B ≤ w.heap.size) (h0 : behindL L ≠ 0) (ht : turnedB K.length O.length N.length = true) (i e : Nat) (hf : findL L K = (i, e, false)) (hO : O ≠ []) :
    Calls Tryz.prog 21 #[.slice (some ⟨g, 0, none⟩) 512 c, .agg #[.slice ka kn kc, .slice oa on oc, .slice na nn nc]] w (TurnPost g c w (turnL L K O N) X) := by
  have hgw := hp.lt
  have hcap := hp.cap
  have hfin := (show turnL L K O N = (6, L) from by unfold turnL; rw [if_neg h0, if_neg (by rw [ht]; simp), hf]; dsimp only; rw [if_pos (.inl (by have := List.length_pos_iff.2 hO; simp [this]))])
  have Hfin := Lib.hid hfin
  obtain ⟨d11, die, del, dl5, dt, df⟩ := findL_bd h0 hf
  obtain ⟨last, hlast⟩ : ∃ last, last = behindL L := ⟨_, rfl⟩
  have HB : Hid (∀ w' : World, Below w.heap.size w w' → Calls Tryz.prog 65 #[.slice (some ⟨g, 0, none⟩) 512 c] w' fun e w'' => e = .returned (.int .i64 last) ∧ Below w'.heap.size w' w'') := by
    intro w' hb
    rw [hlast]
    exact behind_any w'.heap.size _ _ _ _ w' (hp.below hb hp.lt).rb (Nat.le_refl _)
  have HT : Hid (∀ w' : World, Calls Tryz.prog 66 #[.agg #[.slice ka kn kc, .slice oa on oc, .slice na nn nc]] w' fun e w'' => e = .returned (.bool true) ∧ Below w'.heap.size w' w'') := by
    intro w'
    have := turned_any ka oa na kn kc on oc nn nc w' hk.rb.lm ho.rb.lm hn.rb.lm
    rw [hk.rb.len, ho.rb.len, hn.rb.len, ht] at this
    rw [hk.rb.len, ho.rb.len, hn.rb.len]
    exact this
  have HF : Hid (∀ w' : World, Below w.heap.size w w' → Calls Tryz.prog 67 #[.slice (some ⟨g, 0, none⟩) 512 c, .slice ka kn kc] w' fun e' w'' =>
      e' = .returned (.tuple #[.int .i64 i, .int .i64 e, .bool false]) ∧ Below w'.heap.size w' w'') := by
    intro w' hb
    have := find_any w'.heap.size B _ _ _ L ka kn kc K w' (hp.below hb hp.lt).rb (hk.rb.below (hb.mono hB)) (Nat.le_refl _) (Nat.le_trans hB hb.size) (Nat.pos_of_ne_zero h0)
    rw [hf] at this
    exact this
  have hl0 : last ≠ 0 := by rw [hlast]; exact h0
  have hld : ((last : Int) == 0) = false := by simp; omega
  rw [← hlast] at del dl5
  have hb0 : Below w.heap.size w (w.alloc (.cells #[.slice ka kn kc, .slice oa on oc, .slice na nn nc] 29)) := (Below.refl _ w).alloc (Nat.le_refl _) _
  have ht0 : T3 (w.alloc (.cells #[.slice ka kn kc, .slice oa on oc, .slice na nn nc] 29)) w.heap.size (.slice ka kn kc) (.slice oa on oc) (.slice na nn nc) := heap_alloc_new w _
  have Hb0 := Lib.hid hb0
  have Ht0 := Lib.hid ht0
  have hklen := hk.rb.len
  have holen := ho.rb.len
  have hnlen := hn.rb.len
  have hklm := hk.rb.lm
  have hnlm := hn.rb.lm
  have hon : 0 < on := by rw [holen]; exact List.length_pos_iff.2 hO
  clear hfin h0 hb0 ht0 hlast ht hl0 hf hklen holen hnlen dt df hcap hO
  go_enter Tryz.func21, Tryz.ntmps21
  go_wp2_with (first | (go_at_call 65; refine (HB.out _ Hb0.out).mono ?_; rintro e w1 ⟨rfl, hb1⟩; have ht1 := Lib.hid (Ht0.out.below hb1 (by simp)); obtain ⟨c10, c11, c12⟩ := ht1.out.cells; have hs1 := Hb0.out.size; have Hb1 := Lib.hid (Hb0.out.trans (hb1.mono hs1))) | (go_at_call 66; refine (HT.out _).mono ?_; rintro e w2 ⟨rfl, hb2⟩; have ht2 := Lib.hid (ht1.out.below hb2 ht1.out.lt); obtain ⟨c20, c21, c22⟩ := ht2.out.cells; have Hb2 := Lib.hid (Hb1.out.trans (hb2.mono Hb1.out.size))) | (go_at_call 67; refine (HF.out _ Hb2.out).mono ?_; rintro e w3 ⟨rfl, hb3⟩; have ht3 := Lib.hid (ht2.out.below hb3 ht2.out.lt); obtain ⟨c30, c31, c32⟩ := ht3.out.cells; have Hb3 := Lib.hid (Hb2.out.trans (hb3.mono Hb2.out.size))))
  go_quiet (fail)
  go_wp2
  go_ret
  have hb4 := below_dn Hb3.out nq
  exact ⟨by rw [Hfin.out]; rfl, by rw [Hfin.out]; exact hp.below hb4 hp.lt, Mod.of_below hb4⟩
set_option maxHeartbeats 2000000 in
set_option maxRecDepth 100000 in
theorem Turn_none3 (g c : Nat) (L : List UInt8) (X : List Value) (B : Nat) (ka oa na : Option Addr) (kn kc on oc nn nc : Nat) (K O N : List UInt8) (w : World) (hp : PG w g c L X)
    (hk : RBn g B w ka kn kc K) (ho : RBn g B w oa on oc O) (hn : RBn g B w na nn nc N) (hB : B ≤ w.heap.size) (h0 : behindL L ≠ 0) (ht : turnedB K.length O.length N.length = true) (i e : Nat) (hf : findL L K = (i, e, true)) (hO : O ≠ []) (hE : eqB (valOf L i e) O = false) :
    Calls Tryz.prog 21 #[.slice (some ⟨g, 0, none⟩) 512 c, .agg #[.slice ka kn kc, .slice oa on oc, .slice na nn nc]] w (TurnPost g c w (turnL L K O N) X) := by
  have hgw := hp.lt
  have hcap := hp.cap
  have hfin := (show turnL L K O N = (6, L) from by unfold turnL; rw [if_neg h0, if_neg (by rw [ht]; simp), hf]; dsimp only; rw [if_pos (.inr ⟨rfl, hE⟩)])
  have Hfin := Lib.hid hfin
  obtain ⟨d11, die, del, dl5, dt, df⟩ := findL_bd h0 hf
  obtain ⟨last, hlast⟩ : ∃ last, last = behindL L := ⟨_, rfl⟩
  have HB : Hid (∀ w' : World, Below w.heap.size w w' → Calls Tryz.prog 65 #[.slice (some ⟨g, 0, none⟩) 512 c] w' fun e w'' => e = .returned (.int .i64 last) ∧ Below w'.heap.size w' w'') := by
    intro w' hb
    rw [hlast]
    exact behind_any w'.heap.size _ _ _ _ w' (hp.below hb hp.lt).rb (Nat.le_refl _)
  have HT : Hid (∀ w' : World, Calls Tryz.prog 66 #[.agg #[.slice ka kn kc, .slice oa on oc, .slice na nn nc]] w' fun e w'' => e = .returned (.bool true) ∧ Below w'.heap.size w' w'') := by
    intro w'
    have := turned_any ka oa na kn kc on oc nn nc w' hk.rb.lm ho.rb.lm hn.rb.lm
    rw [hk.rb.len, ho.rb.len, hn.rb.len, ht] at this
    rw [hk.rb.len, ho.rb.len, hn.rb.len]
    exact this
  have HF : Hid (∀ w' : World, Below w.heap.size w w' → Calls Tryz.prog 67 #[.slice (some ⟨g, 0, none⟩) 512 c, .slice ka kn kc] w' fun e' w'' =>
      e' = .returned (.tuple #[.int .i64 i, .int .i64 e, .bool true]) ∧ Below w'.heap.size w' w'') := by
    intro w' hb
    have := find_any w'.heap.size B _ _ _ L ka kn kc K w' (hp.below hb hp.lt).rb (hk.rb.below (hb.mono hB)) (Nat.le_refl _) (Nat.le_trans hB hb.size) (Nat.pos_of_ne_zero h0)
    rw [hf] at this
    exact this
  obtain ⟨dk1, dk2⟩ := dt rfl
  obtain ⟨bk, hbk⟩ : ∃ bk : Nat, bk = (bt L i).toNat := ⟨_, rfl⟩
  rw [← hbk] at dk2
  obtain ⟨eq, heq⟩ : ∃ eq, eq = eqB (valOf L i e) O := ⟨_, rfl⟩
  have HV : Hid (∀ w' : World, Below w.heap.size w w' → ∀ q, Calls Tryz.prog 69 #[.slice (some ⟨g, 0, none⟩) 512 c, .int .i64 i, .int .i64 e] (w'.drewN q) fun e' w'' => e' = .returned (.slice (some ⟨g, i + 2 + bk, none⟩) (e - (i + 2 + bk)) (c - (i + 2 + bk))) ∧ w'.drewN q = w'') := by
    intro w' hb q
    have := value_pos w'.heap.size g 0 512 c L i bk e (w'.drewN q) ((hp.below hb hp.lt).rb.drewN q) (by rw [hbk]; omega) dk2 (by omega)
    rwa [Nat.zero_add] at this
  have HE : Hid (∀ w' : World, Below w.heap.size w w' → ∀ q, Calls Tryz.prog 68 #[.slice (some ⟨g, i + 2 + bk, none⟩) (e - (i + 2 + bk)) (c - (i + 2 + bk)), .slice oa on oc] (w'.drewN q) fun e' w'' => e' = .returned (.bool eq) ∧ w'.drewN q = w'') := by
    intro w' hb q
    have h1 := (hp.below hb hp.lt).rb.sub (i + 2 + bk) (e - (i + 2 + bk)) (by omega)
    rw [Nat.zero_add] at h1
    have := Equal_any w'.heap.size B _ _ _ _ _ _ _ O (w'.drewN q) (h1.drewN q) ((ho.rb.below (hb.mono hB)).drewN q)
    rw [heq]
    unfold valOf
    rw [← hbk]
    exact this
  have hl0 : last ≠ 0 := by rw [hlast]; exact h0
  have hld : ((last : Int) == 0) = false := by simp; omega
  rw [← hlast] at del dl5
  have hb0 : Below w.heap.size w (w.alloc (.cells #[.slice ka kn kc, .slice oa on oc, .slice na nn nc] 29)) := (Below.refl _ w).alloc (Nat.le_refl _) _
  have ht0 : T3 (w.alloc (.cells #[.slice ka kn kc, .slice oa on oc, .slice na nn nc] 29)) w.heap.size (.slice ka kn kc) (.slice oa on oc) (.slice na nn nc) := heap_alloc_new w _
  have Hb0 := Lib.hid hb0
  have Ht0 := Lib.hid ht0
  have hklen := hk.rb.len
  have holen := ho.rb.len
  have hnlen := hn.rb.len
  have hklm := hk.rb.lm
  have hnlm := hn.rb.lm
  have hon : 0 < on := by rw [holen]; exact List.length_pos_iff.2 hO
  obtain rfl : eq = false := by rw [heq]; exact hE
  clear hfin h0 hb0 ht0 hlast ht hl0 hf heq hklen holen hnlen dt df hcap hbk hO hE
  go_enter Tryz.func21, Tryz.ntmps21
  go_wp2_with (first | (go_at_call 65; refine (HB.out _ Hb0.out).mono ?_; rintro e w1 ⟨rfl, hb1⟩; have ht1 := Lib.hid (Ht0.out.below hb1 (by simp)); obtain ⟨c10, c11, c12⟩ := ht1.out.cells; have hs1 := Hb0.out.size; have Hb1 := Lib.hid (Hb0.out.trans (hb1.mono hs1))) | (go_at_call 66; refine (HT.out _).mono ?_; rintro e w2 ⟨rfl, hb2⟩; have ht2 := Lib.hid (ht1.out.below hb2 ht1.out.lt); obtain ⟨c20, c21, c22⟩ := ht2.out.cells; have Hb2 := Lib.hid (Hb1.out.trans (hb2.mono Hb1.out.size))) | (go_at_call 67; refine (HF.out _ Hb2.out).mono ?_; rintro e w3 ⟨rfl, hb3⟩; have ht3 := Lib.hid (ht2.out.below hb3 ht2.out.lt); obtain ⟨c30, c31, c32⟩ := ht3.out.cells; have Hb3 := Lib.hid (Hb2.out.trans (hb3.mono Hb2.out.size))))
  go_quiet ((first | (go_at_call 69; with_reducible exact quiet_same (HV.out _ Hb3.out _)) | (go_at_call 68; with_reducible exact quiet_same (HE.out _ Hb3.out _))))
  go_wp2
  go_ret
  have hb4 := below_dn Hb3.out nq
  exact ⟨by rw [Hfin.out]; rfl, by rw [Hfin.out]; exact hp.below hb4 hp.lt, Mod.of_below hb4⟩
set_option maxHeartbeats 2000000 in
set_option maxRecDepth 100000 in
theorem Turn_full1 (g c : Nat) (L : List UInt8) (X : List Value) (B : Nat) (ka oa na : Option Addr) (kn kc on oc nn nc : Nat) (K O N : List UInt8) (w : World) (hp : PG w g c L X)
    (hk : RBn g B w ka kn kc K) (ho : RBn g B w oa on oc O) (hn : RBn g B w na nn nc N) (hB : B ≤ w.heap.size) (h0 : behindL L ≠ 0) (ht : turnedB K.length O.length N.length = true) (i e : Nat) (hf : findL L K = (i, e, true)) (hO : O ≠ []) (hE : eqB (valOf L i e) O = true) (hN : N ≠ []) (h5 : 512 < behindL L - (e - i) + (2 + K.length + N.length)) :
    Calls Tryz.prog 21 #[.slice (some ⟨g, 0, none⟩) 512 c, .agg #[.slice ka kn kc, .slice oa on oc, .slice na nn nc]] w (TurnPost g c w (turnL L K O N) X) := by
  have hgw := hp.lt
  have hcap := hp.cap
  have hfin := (show turnL L K O N = (5, L) from by unfold turnL; rw [if_neg h0, if_neg (by rw [ht]; simp), hf]; dsimp only; rw [if_neg (by have := List.length_pos_iff.2 hO; rw [hE]; simp [this])]; rw [if_neg hN, if_pos h5])
  have Hfin := Lib.hid hfin
  obtain ⟨d11, die, del, dl5, dt, df⟩ := findL_bd h0 hf
  obtain ⟨last, hlast⟩ : ∃ last, last = behindL L := ⟨_, rfl⟩
  have HB : Hid (∀ w' : World, Below w.heap.size w w' → Calls Tryz.prog 65 #[.slice (some ⟨g, 0, none⟩) 512 c] w' fun e w'' => e = .returned (.int .i64 last) ∧ Below w'.heap.size w' w'') := by
    intro w' hb
    rw [hlast]
    exact behind_any w'.heap.size _ _ _ _ w' (hp.below hb hp.lt).rb (Nat.le_refl _)
  have HT : Hid (∀ w' : World, Calls Tryz.prog 66 #[.agg #[.slice ka kn kc, .slice oa on oc, .slice na nn nc]] w' fun e w'' => e = .returned (.bool true) ∧ Below w'.heap.size w' w'') := by
    intro w'
    have := turned_any ka oa na kn kc on oc nn nc w' hk.rb.lm ho.rb.lm hn.rb.lm
    rw [hk.rb.len, ho.rb.len, hn.rb.len, ht] at this
    rw [hk.rb.len, ho.rb.len, hn.rb.len]
    exact this
  have HF : Hid (∀ w' : World, Below w.heap.size w w' → Calls Tryz.prog 67 #[.slice (some ⟨g, 0, none⟩) 512 c, .slice ka kn kc] w' fun e' w'' =>
      e' = .returned (.tuple #[.int .i64 i, .int .i64 e, .bool true]) ∧ Below w'.heap.size w' w'') := by
    intro w' hb
    have := find_any w'.heap.size B _ _ _ L ka kn kc K w' (hp.below hb hp.lt).rb (hk.rb.below (hb.mono hB)) (Nat.le_refl _) (Nat.le_trans hB hb.size) (Nat.pos_of_ne_zero h0)
    rw [hf] at this
    exact this
  obtain ⟨dk1, dk2⟩ := dt rfl
  obtain ⟨bk, hbk⟩ : ∃ bk : Nat, bk = (bt L i).toNat := ⟨_, rfl⟩
  rw [← hbk] at dk2
  obtain ⟨eq, heq⟩ : ∃ eq, eq = eqB (valOf L i e) O := ⟨_, rfl⟩
  have HV : Hid (∀ w' : World, Below w.heap.size w w' → ∀ q, Calls Tryz.prog 69 #[.slice (some ⟨g, 0, none⟩) 512 c, .int .i64 i, .int .i64 e] (w'.drewN q) fun e' w'' => e' = .returned (.slice (some ⟨g, i + 2 + bk, none⟩) (e - (i + 2 + bk)) (c - (i + 2 + bk))) ∧ w'.drewN q = w'') := by
    intro w' hb q
    have := value_pos w'.heap.size g 0 512 c L i bk e (w'.drewN q) ((hp.below hb hp.lt).rb.drewN q) (by rw [hbk]; omega) dk2 (by omega)
    rwa [Nat.zero_add] at this
  have HE : Hid (∀ w' : World, Below w.heap.size w w' → ∀ q, Calls Tryz.prog 68 #[.slice (some ⟨g, i + 2 + bk, none⟩) (e - (i + 2 + bk)) (c - (i + 2 + bk)), .slice oa on oc] (w'.drewN q) fun e' w'' => e' = .returned (.bool eq) ∧ w'.drewN q = w'') := by
    intro w' hb q
    have h1 := (hp.below hb hp.lt).rb.sub (i + 2 + bk) (e - (i + 2 + bk)) (by omega)
    rw [Nat.zero_add] at h1
    have := Equal_any w'.heap.size B _ _ _ _ _ _ _ O (w'.drewN q) (h1.drewN q) ((ho.rb.below (hb.mono hB)).drewN q)
    rw [heq]
    unfold valOf
    rw [← hbk]
    exact this
  have hl0 : last ≠ 0 := by rw [hlast]; exact h0
  have hld : ((last : Int) == 0) = false := by simp; omega
  rw [← hlast] at del dl5
  have hb0 : Below w.heap.size w (w.alloc (.cells #[.slice ka kn kc, .slice oa on oc, .slice na nn nc] 29)) := (Below.refl _ w).alloc (Nat.le_refl _) _
  have ht0 : T3 (w.alloc (.cells #[.slice ka kn kc, .slice oa on oc, .slice na nn nc] 29)) w.heap.size (.slice ka kn kc) (.slice oa on oc) (.slice na nn nc) := heap_alloc_new w _
  have Hb0 := Lib.hid hb0
  have Ht0 := Lib.hid ht0
  have hklen := hk.rb.len
  have holen := ho.rb.len
  have hnlen := hn.rb.len
  have hklm := hk.rb.lm
  have hnlm := hn.rb.lm
  have hon : 0 < on := by rw [holen]; exact List.length_pos_iff.2 hO
  obtain rfl : eq = true := by rw [heq]; exact hE
  have hnn : 0 < nn := by rw [hnlen]; exact List.length_pos_iff.2 hN
  rw [← hlast, ← hklen, ← hnlen] at h5
  have h5' : (512 : Int) < (last : Int) - ((e : Int) - (i : Int)) + (2 + (kn : Int) + (nn : Int)) := by omega
  clear hfin h0 hb0 ht0 hlast ht hl0 hf hklen holen hnlen df hcap hO hN h5 heq hbk hE
  go_enter Tryz.func21, Tryz.ntmps21
  go_wp2_with (first | (go_at_call 65; refine (HB.out _ Hb0.out).mono ?_; rintro e w1 ⟨rfl, hb1⟩; have ht1 := Lib.hid (Ht0.out.below hb1 (by simp)); obtain ⟨c10, c11, c12⟩ := ht1.out.cells; have hs1 := Hb0.out.size; have Hb1 := Lib.hid (Hb0.out.trans (hb1.mono hs1))) | (go_at_call 66; refine (HT.out _).mono ?_; rintro e w2 ⟨rfl, hb2⟩; have ht2 := Lib.hid (ht1.out.below hb2 ht1.out.lt); obtain ⟨c20, c21, c22⟩ := ht2.out.cells; have Hb2 := Lib.hid (Hb1.out.trans (hb2.mono Hb1.out.size))) | (go_at_call 67; refine (HF.out _ Hb2.out).mono ?_; rintro e w3 ⟨rfl, hb3⟩; have ht3 := Lib.hid (ht2.out.below hb3 ht2.out.lt); obtain ⟨c30, c31, c32⟩ := ht3.out.cells; have Hb3 := Lib.hid (Hb2.out.trans (hb3.mono Hb2.out.size))))
  go_quiet ((first | (go_at_call 69; with_reducible exact quiet_same (HV.out _ Hb3.out _)) | (go_at_call 68; with_reducible exact quiet_same (HE.out _ Hb3.out _))))
  go_wp2
  go_ret
  have hb4 := below_dn Hb3.out nq
  exact ⟨by rw [Hfin.out]; rfl, by rw [Hfin.out]; exact hp.below hb4 hp.lt, Mod.of_below hb4⟩
set_option maxHeartbeats 2000000 in
set_option maxRecDepth 100000 in
theorem Turn_full2 (g c : Nat) (L : List UInt8) (X : List Value) (B : Nat) (ka oa na : Option Addr) (kn kc on oc nn nc : Nat) (K O N : List UInt8) (w : World) (hp : PG w g c L X)
    (hk : RBn g B w ka kn kc K) (ho : RBn g B w oa on oc O) (hn : RBn g B w na nn nc N) (hB : B ≤ w.heap.size) (h0 : behindL L ≠ 0) (ht : turnedB K.length O.length N.length = true) (i e : Nat) (hf : findL L K = (i, e, false)) (hO : O = []) (hN : N ≠ []) (h5 : 512 < behindL L - (e - i) + (2 + K.length + N.length)) :
    Calls Tryz.prog 21 #[.slice (some ⟨g, 0, none⟩) 512 c, .agg #[.slice ka kn kc, .slice oa on oc, .slice na nn nc]] w (TurnPost g c w (turnL L K O N) X) := by
  have hgw := hp.lt
  have hcap := hp.cap
  have hfin := (show turnL L K O N = (5, L) from by unfold turnL; rw [if_neg h0, if_neg (by rw [ht]; simp), hf]; dsimp only; rw [if_neg (by rw [hO]; simp)]; rw [if_neg hN, if_pos h5])
  have Hfin := Lib.hid hfin
  obtain ⟨d11, die, del, dl5, dt, df⟩ := findL_bd h0 hf
  obtain ⟨last, hlast⟩ : ∃ last, last = behindL L := ⟨_, rfl⟩
  have HB : Hid (∀ w' : World, Below w.heap.size w w' → Calls Tryz.prog 65 #[.slice (some ⟨g, 0, none⟩) 512 c] w' fun e w'' => e = .returned (.int .i64 last) ∧ Below w'.heap.size w' w'') := by
    intro w' hb
    rw [hlast]
    exact behind_any w'.heap.size _ _ _ _ w' (hp.below hb hp.lt).rb (Nat.le_refl _)
  have HT : Hid (∀ w' : World, Calls Tryz.prog 66 #[.agg #[.slice ka kn kc, .slice oa on oc, .slice na nn nc]] w' fun e w'' => e = .returned (.bool true) ∧ Below w'.heap.size w' w'') := by
    intro w'
    have := turned_any ka oa na kn kc on oc nn nc w' hk.rb.lm ho.rb.lm hn.rb.lm
    rw [hk.rb.len, ho.rb.len, hn.rb.len, ht] at this
    rw [hk.rb.len, ho.rb.len, hn.rb.len]
    exact this
  have HF : Hid (∀ w' : World, Below w.heap.size w w' → Calls Tryz.prog 67 #[.slice (some ⟨g, 0, none⟩) 512 c, .slice ka kn kc] w' fun e' w'' =>
      e' = .returned (.tuple #[.int .i64 i, .int .i64 e, .bool false]) ∧ Below w'.heap.size w' w'') := by
    intro w' hb
    have := find_any w'.heap.size B _ _ _ L ka kn kc K w' (hp.below hb hp.lt).rb (hk.rb.below (hb.mono hB)) (Nat.le_refl _) (Nat.le_trans hB hb.size) (Nat.pos_of_ne_zero h0)
    rw [hf] at this
    exact this
  have hl0 : last ≠ 0 := by rw [hlast]; exact h0
  have hld : ((last : Int) == 0) = false := by simp; omega
  rw [← hlast] at del dl5
  have hb0 : Below w.heap.size w (w.alloc (.cells #[.slice ka kn kc, .slice oa on oc, .slice na nn nc] 29)) := (Below.refl _ w).alloc (Nat.le_refl _) _
  have ht0 : T3 (w.alloc (.cells #[.slice ka kn kc, .slice oa on oc, .slice na nn nc] 29)) w.heap.size (.slice ka kn kc) (.slice oa on oc) (.slice na nn nc) := heap_alloc_new w _
  have Hb0 := Lib.hid hb0
  have Ht0 := Lib.hid ht0
  have hklen := hk.rb.len
  have holen := ho.rb.len
  have hnlen := hn.rb.len
  have hklm := hk.rb.lm
  have hnlm := hn.rb.lm
  obtain rfl : on = 0 := by rw [holen, hO]; rfl
  have hnn : 0 < nn := by rw [hnlen]; exact List.length_pos_iff.2 hN
  rw [← hlast, ← hklen, ← hnlen] at h5
  have h5' : (512 : Int) < (last : Int) - ((e : Int) - (i : Int)) + (2 + (kn : Int) + (nn : Int)) := by omega
  clear hfin h0 hb0 ht0 hlast ht hl0 hf hklen holen hnlen df hcap hO hN h5
  go_enter Tryz.func21, Tryz.ntmps21
  go_wp2_with (first | (go_at_call 65; refine (HB.out _ Hb0.out).mono ?_; rintro e w1 ⟨rfl, hb1⟩; have ht1 := Lib.hid (Ht0.out.below hb1 (by simp)); obtain ⟨c10, c11, c12⟩ := ht1.out.cells; have hs1 := Hb0.out.size; have Hb1 := Lib.hid (Hb0.out.trans (hb1.mono hs1))) | (go_at_call 66; refine (HT.out _).mono ?_; rintro e w2 ⟨rfl, hb2⟩; have ht2 := Lib.hid (ht1.out.below hb2 ht1.out.lt); obtain ⟨c20, c21, c22⟩ := ht2.out.cells; have Hb2 := Lib.hid (Hb1.out.trans (hb2.mono Hb1.out.size))) | (go_at_call 67; refine (HF.out _ Hb2.out).mono ?_; rintro e w3 ⟨rfl, hb3⟩; have ht3 := Lib.hid (ht2.out.below hb3 ht2.out.lt); obtain ⟨c30, c31, c32⟩ := ht3.out.cells; have Hb3 := Lib.hid (Hb2.out.trans (hb3.mono Hb2.out.size))))
  go_quiet (fail)
  go_wp2
  go_ret
  have hb4 := below_dn Hb3.out nq
  exact ⟨by rw [Hfin.out]; rfl, by rw [Hfin.out]; exact hp.below hb4 hp.lt, Mod.of_below hb4⟩
end Go.Proofs.YtohlkkannjifmaaGreatDoor
