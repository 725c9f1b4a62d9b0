/- window.Right, window.Has, lot.Right, and what flow.together asks of a want: walks. (Printed by gen/bools.py.) -/
import Derived.Test.YtbedbhlebfnohaaGreatQBridge
import Derived.Test.YtbedbhlebfnohaaGreatQPick
import Derived.Test.YtbedbhlebfnohaaGreatJSame
namespace Go.Proofs.YtbedbhlebfnohaaGreat
open Go.RowKit

def winB (fr un : Int) : Bool := decide (0 ≤ fr) && decide (fr ≤ un) && decide (un ≤ 4001)
theorem winB_yes {fr un : Int} (h0 : 0 ≤ fr) (h1 : fr ≤ un) (h2 : un ≤ 4001) : winB fr un = true := by unfold winB; simp [h0, h1, h2]
theorem winB_no {fr un : Int} (h : ¬ (0 ≤ fr ∧ fr ≤ un ∧ un ≤ 4001)) : winB fr un = false := by
  unfold winB
  simp only [Bool.and_eq_false_iff, decide_eq_false_iff_not]
  omega
theorem winB_iff {fr un : Int} : winB fr un = true ↔ 0 ≤ fr ∧ fr ≤ un ∧ un ≤ 4001 := by
  unfold winB
  simp only [Bool.and_eq_true, decide_eq_true_eq, and_assoc]
theorem winRight_any (fr un : Int) (w : World) : Calls Tryz.prog 163 #[.agg #[.int .i64 fr, .int .i64 un]] w fun e w' => e = .returned (.bool (winB fr un)) ∧ Below w.heap.size w w' := by
  have HB := Lib.hid (fun c : Array Value => (Below.refl w.heap.size w).alloc (Nat.le_refl _) (.cells c 44))
  by_cases h0 : 0 ≤ fr
  · by_cases h1 : fr ≤ un
    · by_cases h2 : un ≤ 4001
      · have E := Lib.hid (winB_yes h0 h1 h2)
        go_enter Tryz.func163, Tryz.ntmps163
        go_wp2_with (fail)
        go_ret
        exact ⟨by rw [E.out]; rfl, HB.out _⟩
      · have E := Lib.hid (winB_no (fr := fr) (un := un) (fun h => h2 h.2.2))
        go_enter Tryz.func163, Tryz.ntmps163
        go_wp2_with (fail)
        go_ret
        exact ⟨by rw [E.out]; rfl, HB.out _⟩
    · have E := Lib.hid (winB_no (fr := fr) (un := un) (fun h => h1 h.2.1))
      go_enter Tryz.func163, Tryz.ntmps163
      go_wp2_with (fail)
      go_ret
      exact ⟨by rw [E.out]; rfl, HB.out _⟩
  · have E := Lib.hid (winB_no (fr := fr) (un := un) (fun h => h0 h.1))
    go_enter Tryz.func163, Tryz.ntmps163
    go_wp2_with (fail)
    go_ret
    exact ⟨by rw [E.out]; rfl, HB.out _⟩
theorem hasW_eq (fr un day : Int) : hasW fr un day = (winB fr un && (decide (fr ≤ day) && decide (day < un))) := by
  unfold hasW winB
  simp only [Bool.and_assoc]
set_option maxHeartbeats 1000000 in
theorem winHas_any (fr un day : Int) (w : World) : Calls Tryz.prog 106 #[.agg #[.int .i64 fr, .int .i64 un], .int .i64 day] w fun e w' => e = .returned (.bool (hasW fr un day)) ∧ Below w.heap.size w w' := by
  generalize hr : hasW fr un day = r
  have HQ := Lib.hid hr
  clear hr
  have HR := Lib.hid (fun W => winRight_any fr un W)
  have HB := Lib.hid ((Below.refl w.heap.size w).alloc (Nat.le_refl _) (.cells #[.int .i64 fr, .int .i64 un] 44))
  have HC : Hid ((w.alloc (.cells #[.int .i64 fr, .int .i64 un] 44)).cell? ⟨w.heap.size, 0, none⟩ = some (.int .i64 fr) ∧ (w.alloc (.cells #[.int .i64 fr, .int .i64 un] 44)).cell? ⟨w.heap.size, 1, none⟩ = some (.int .i64 un)) := Lib.hid ⟨by simp, by simp⟩
  cases hb : winB fr un with
  | true =>
    rw [hb] at HR
    by_cases h1 : fr ≤ day
    · by_cases h2 : day < un
      · have E := Lib.hid (show hasW fr un day = true by rw [hasW_eq, hb]; simp [h1, h2])
        clear hb
        go_enter Tryz.func106, Tryz.ntmps106
        go_wp2_with (go_at_call 163; refine (HR.out _).mono ?_; rintro e w9 ⟨rfl, hb⟩; have c0 := (hb.cell (p := ⟨w.heap.size, 0, none⟩) (by simp)).trans (HC.out.1); have c1 := (hb.cell (p := ⟨w.heap.size, 1, none⟩) (by simp)).trans (HC.out.2); have B9 := Lib.hid (HB.out.trans (hb.mono (by simp))))
        go_ret
        exact ⟨by rw [← HQ.out, E.out]; first | rfl | simp [*], B9.out⟩
      · have E := Lib.hid (show hasW fr un day = false by rw [hasW_eq, hb]; simp [h2])
        clear hb
        go_enter Tryz.func106, Tryz.ntmps106
        go_wp2_with (go_at_call 163; refine (HR.out _).mono ?_; rintro e w9 ⟨rfl, hb⟩; have c0 := (hb.cell (p := ⟨w.heap.size, 0, none⟩) (by simp)).trans (HC.out.1); have c1 := (hb.cell (p := ⟨w.heap.size, 1, none⟩) (by simp)).trans (HC.out.2); have B9 := Lib.hid (HB.out.trans (hb.mono (by simp))))
        go_ret
        exact ⟨by rw [← HQ.out, E.out]; first | rfl | simp [*], B9.out⟩
    · have E := Lib.hid (show hasW fr un day = false by rw [hasW_eq, hb]; simp [h1])
      clear hb
      go_enter Tryz.func106, Tryz.ntmps106
      go_wp2_with (go_at_call 163; refine (HR.out _).mono ?_; rintro e w9 ⟨rfl, hb⟩; have c0 := (hb.cell (p := ⟨w.heap.size, 0, none⟩) (by simp)).trans (HC.out.1); have c1 := (hb.cell (p := ⟨w.heap.size, 1, none⟩) (by simp)).trans (HC.out.2); have B9 := Lib.hid (HB.out.trans (hb.mono (by simp))))
      go_ret
      exact ⟨by rw [← HQ.out, E.out]; first | rfl | simp [*], B9.out⟩
  | false =>
    rw [hb] at HR
    have E := Lib.hid (show hasW fr un day = false by rw [hasW_eq, hb]; simp)
    clear hb
    go_enter Tryz.func106, Tryz.ntmps106
    go_wp2_with (go_at_call 163; refine (HR.out _).mono ?_; rintro e w9 ⟨rfl, hb⟩; have c0 := (hb.cell (p := ⟨w.heap.size, 0, none⟩) (by simp)).trans (HC.out.1); have c1 := (hb.cell (p := ⟨w.heap.size, 1, none⟩) (by simp)).trans (HC.out.2); have B9 := Lib.hid (HB.out.trans (hb.mono (by simp))))
    go_ret
    exact ⟨by rw [← HQ.out, E.out]; first | rfl | simp [*], B9.out⟩
theorem lotOk_yes {id : Int} {item : List UInt8} {fr un qty : Int} {arr : Bool} (h0 : 0 < id) (hk : okCode item = true) (hw : winB fr un = true) (h1 : fr < un) (h2 : 0 < qty) (h3 : qty ≤ 1073741824) : lotOk ⟨id, item, fr, un, qty, arr⟩ = true := by
  have := winB_iff.1 hw
  exact lotOk_iff.2 ⟨by show 1 ≤ id; omega, hk, this.1, h1, this.2.2, by show 1 ≤ qty; omega, h3⟩
theorem lotOk_no {id : Int} {item : List UInt8} {fr un qty : Int} {arr : Bool} (h : ¬ (0 < id ∧ okCode item = true ∧ winB fr un = true ∧ fr < un ∧ 0 < qty ∧ qty ≤ 1073741824)) : lotOk ⟨id, item, fr, un, qty, arr⟩ = false := by
  cases hl : lotOk ⟨id, item, fr, un, qty, arr⟩ with
  | false => rfl
  | true =>
    obtain ⟨k1, k2, k3, k4, k5, k6, k7⟩ := lotOk_iff.1 hl
    simp only at k1 k2 k3 k4 k5 k6 k7
    exact absurd ⟨by omega, k2, winB_iff.2 ⟨k3, by omega, k5⟩, k4, by omega, k7⟩ h
set_option maxHeartbeats 2000000 in
theorem lotRight_any (x : LotV) (hx : x.item.length ≤ 9223372036854775807) (w : World) : Calls Tryz.prog 156 #[x.val] w fun e w' => e = .returned (.bool (lotOk x)) ∧ Below w.heap.size w w' := by
  generalize hr : lotOk x = r
  have HQ := Lib.hid hr
  clear hr
  obtain ⟨id, item, fr, un, qty, arr⟩ := x
  have HK := Lib.hid (fun W => cRight_any item hx W)
  have HR := Lib.hid (fun W => winRight_any fr un W)
  clear hx
  unfold LotV.val encStr
  simp only
  have HB := Lib.hid ((Below.refl w.heap.size w).alloc (Nat.le_refl _) (.cells #[.int .i64 id, .string ⟨item.toArray⟩, .int .i64 fr, .int .i64 un, .int .i64 qty, .bool arr] 46))
  have HX : Hid (∀ W, Below (w.alloc (.cells #[.int .i64 id, .string ⟨item.toArray⟩, .int .i64 fr, .int .i64 un, .int .i64 qty, .bool arr] 46)).heap.size (w.alloc (.cells #[.int .i64 id, .string ⟨item.toArray⟩, .int .i64 fr, .int .i64 un, .int .i64 qty, .bool arr] 46)) W → W.cell? ⟨w.heap.size, 0, none⟩ = some (.int .i64 id) ∧ W.cell? ⟨w.heap.size, 1, none⟩ = some (.string ⟨item.toArray⟩) ∧ W.cell? ⟨w.heap.size, 2, none⟩ = some (.int .i64 fr) ∧ W.cell? ⟨w.heap.size, 3, none⟩ = some (.int .i64 un) ∧ W.cell? ⟨w.heap.size, 4, none⟩ = some (.int .i64 qty)) := Lib.hid fun W h => ⟨(h.cell (p := ⟨w.heap.size, 0, none⟩) (by simp)).trans (by simp), (h.cell (p := ⟨w.heap.size, 1, none⟩) (by simp)).trans (by simp), (h.cell (p := ⟨w.heap.size, 2, none⟩) (by simp)).trans (by simp), (h.cell (p := ⟨w.heap.size, 3, none⟩) (by simp)).trans (by simp), (h.cell (p := ⟨w.heap.size, 4, none⟩) (by simp)).trans (by simp)⟩
  by_cases h0 : 0 < id
  · cases hk : okCode item with
    | true =>
      rw [hk] at HK
      cases hw : winB fr un with
      | true =>
        rw [hw] at HR
        by_cases h1 : fr < un
        · by_cases h2 : 0 < qty
          · by_cases h3 : qty ≤ 1073741824
            · have E := Lib.hid (lotOk_yes (arr := arr) h0 hk hw h1 h2 h3)
              clear hk hw
              go_enter Tryz.func156, Tryz.ntmps156
              go_wp2_with (first | (go_at_call 93; refine (HK.out _).mono ?_; rintro e w8 ⟨rfl, hb8⟩; obtain ⟨g1, g2, g3, g4, g5⟩ := HX.out w8 hb8; have B8 := Lib.hid (HB.out.trans (hb8.mono (by simp))); have HX8 := Lib.hid (fun W (h : Below w8.heap.size w8 W) => HX.out W (hb8.trans (h.mono hb8.size)))) | (go_at_call 163; refine (HR.out _).mono ?_; rintro e w9 ⟨rfl, hb9⟩; obtain ⟨k1, k2, k3, k4, k5⟩ := HX8.out w9 hb9; have B9 := Lib.hid (B8.out.trans (hb9.mono B8.out.size))))
              go_ret
              exact ⟨by rw [← HQ.out, E.out]; first | rfl | simp [*], B9.out⟩
            · have E := Lib.hid (lotOk_no (id := id) (item := item) (fr := fr) (un := un) (qty := qty) (arr := arr) (fun h => h3 h.2.2.2.2.2))
              clear hk hw
              go_enter Tryz.func156, Tryz.ntmps156
              go_wp2_with (first | (go_at_call 93; refine (HK.out _).mono ?_; rintro e w8 ⟨rfl, hb8⟩; obtain ⟨g1, g2, g3, g4, g5⟩ := HX.out w8 hb8; have B8 := Lib.hid (HB.out.trans (hb8.mono (by simp))); have HX8 := Lib.hid (fun W (h : Below w8.heap.size w8 W) => HX.out W (hb8.trans (h.mono hb8.size)))) | (go_at_call 163; refine (HR.out _).mono ?_; rintro e w9 ⟨rfl, hb9⟩; obtain ⟨k1, k2, k3, k4, k5⟩ := HX8.out w9 hb9; have B9 := Lib.hid (B8.out.trans (hb9.mono B8.out.size))))
              go_ret
              exact ⟨by rw [← HQ.out, E.out]; first | rfl | simp [*], B9.out⟩
          · have E := Lib.hid (lotOk_no (id := id) (item := item) (fr := fr) (un := un) (qty := qty) (arr := arr) (fun h => h2 h.2.2.2.2.1))
            clear hk hw
            go_enter Tryz.func156, Tryz.ntmps156
            go_wp2_with (first | (go_at_call 93; refine (HK.out _).mono ?_; rintro e w8 ⟨rfl, hb8⟩; obtain ⟨g1, g2, g3, g4, g5⟩ := HX.out w8 hb8; have B8 := Lib.hid (HB.out.trans (hb8.mono (by simp))); have HX8 := Lib.hid (fun W (h : Below w8.heap.size w8 W) => HX.out W (hb8.trans (h.mono hb8.size)))) | (go_at_call 163; refine (HR.out _).mono ?_; rintro e w9 ⟨rfl, hb9⟩; obtain ⟨k1, k2, k3, k4, k5⟩ := HX8.out w9 hb9; have B9 := Lib.hid (B8.out.trans (hb9.mono B8.out.size))))
            go_ret
            exact ⟨by rw [← HQ.out, E.out]; first | rfl | simp [*], B9.out⟩
        · have E := Lib.hid (lotOk_no (id := id) (item := item) (fr := fr) (un := un) (qty := qty) (arr := arr) (fun h => h1 h.2.2.2.1))
          clear hk hw
          go_enter Tryz.func156, Tryz.ntmps156
          go_wp2_with (first | (go_at_call 93; refine (HK.out _).mono ?_; rintro e w8 ⟨rfl, hb8⟩; obtain ⟨g1, g2, g3, g4, g5⟩ := HX.out w8 hb8; have B8 := Lib.hid (HB.out.trans (hb8.mono (by simp))); have HX8 := Lib.hid (fun W (h : Below w8.heap.size w8 W) => HX.out W (hb8.trans (h.mono hb8.size)))) | (go_at_call 163; refine (HR.out _).mono ?_; rintro e w9 ⟨rfl, hb9⟩; obtain ⟨k1, k2, k3, k4, k5⟩ := HX8.out w9 hb9; have B9 := Lib.hid (B8.out.trans (hb9.mono B8.out.size))))
          go_ret
          exact ⟨by rw [← HQ.out, E.out]; first | rfl | simp [*], B9.out⟩
      | false =>
        rw [hw] at HR
        have E := Lib.hid (lotOk_no (id := id) (item := item) (fr := fr) (un := un) (qty := qty) (arr := arr) (fun h => by rw [hw] at h; cases h.2.2.1))
        clear hk hw
        go_enter Tryz.func156, Tryz.ntmps156
        go_wp2_with (first | (go_at_call 93; refine (HK.out _).mono ?_; rintro e w8 ⟨rfl, hb8⟩; obtain ⟨g1, g2, g3, g4, g5⟩ := HX.out w8 hb8; have B8 := Lib.hid (HB.out.trans (hb8.mono (by simp))); have HX8 := Lib.hid (fun W (h : Below w8.heap.size w8 W) => HX.out W (hb8.trans (h.mono hb8.size)))) | (go_at_call 163; refine (HR.out _).mono ?_; rintro e w9 ⟨rfl, hb9⟩; obtain ⟨k1, k2, k3, k4, k5⟩ := HX8.out w9 hb9; have B9 := Lib.hid (B8.out.trans (hb9.mono B8.out.size))))
        go_ret
        exact ⟨by rw [← HQ.out, E.out]; first | rfl | simp [*], B9.out⟩
    | false =>
      rw [hk] at HK
      have E := Lib.hid (lotOk_no (id := id) (item := item) (fr := fr) (un := un) (qty := qty) (arr := arr) (fun h => by rw [hk] at h; cases h.2.1))
      clear hk
      go_enter Tryz.func156, Tryz.ntmps156
      go_wp2_with (first | (go_at_call 93; refine (HK.out _).mono ?_; rintro e w8 ⟨rfl, hb8⟩; obtain ⟨g1, g2, g3, g4, g5⟩ := HX.out w8 hb8; have B8 := Lib.hid (HB.out.trans (hb8.mono (by simp))); have HX8 := Lib.hid (fun W (h : Below w8.heap.size w8 W) => HX.out W (hb8.trans (h.mono hb8.size)))) | (go_at_call 163; refine (HR.out _).mono ?_; rintro e w9 ⟨rfl, hb9⟩; obtain ⟨k1, k2, k3, k4, k5⟩ := HX8.out w9 hb9; have B9 := Lib.hid (B8.out.trans (hb9.mono B8.out.size))))
      go_ret
      exact ⟨by rw [← HQ.out, E.out]; first | rfl | simp [*], B8.out⟩
  · have E := Lib.hid (lotOk_no (id := id) (item := item) (fr := fr) (un := un) (qty := qty) (arr := arr) (fun h => h0 h.1))
    go_enter Tryz.func156, Tryz.ntmps156
    go_wp2_with (first | (go_at_call 93; refine (HK.out _).mono ?_; rintro e w8 ⟨rfl, hb8⟩; obtain ⟨g1, g2, g3, g4, g5⟩ := HX.out w8 hb8; have B8 := Lib.hid (HB.out.trans (hb8.mono (by simp))); have HX8 := Lib.hid (fun W (h : Below w8.heap.size w8 W) => HX.out W (hb8.trans (h.mono hb8.size)))) | (go_at_call 163; refine (HR.out _).mono ?_; rintro e w9 ⟨rfl, hb9⟩; obtain ⟨k1, k2, k3, k4, k5⟩ := HX8.out w9 hb9; have B9 := Lib.hid (B8.out.trans (hb9.mono B8.out.size))))
    go_ret
    exact ⟨by rw [← HQ.out, E.out]; first | rfl | simp [*], HB.out⟩
def WantV.val (x : WantV) : Value := .agg #[encStr x.item, .int .i64 x.day, .int .i64 x.qty]
theorem wantOk_yes {item : List UInt8} {day qty : Int} (hk : okCode item = true) (h0 : ¬ day < 0) (h1 : ¬ 4000 < day) (h2 : ¬ qty < 1) (h3 : okA qty = true) : wantOk ⟨item, day, qty⟩ = true := by
  have := okA_iff.1 h3
  exact wantOk_iff.2 ⟨hk, by show 0 ≤ day; omega, by show day ≤ 4000; omega, by show 1 ≤ qty; omega, this.2⟩
theorem wantOk_no {item : List UInt8} {day qty : Int} (h : ¬ (okCode item = true ∧ ¬ day < 0 ∧ ¬ 4000 < day ∧ ¬ qty < 1 ∧ okA qty = true)) : wantOk ⟨item, day, qty⟩ = false := by
  cases hl : wantOk ⟨item, day, qty⟩ with
  | false => rfl
  | true =>
    obtain ⟨k1, k2, k3, k4, k5⟩ := wantOk_iff.1 hl
    simp only at k1 k2 k3 k4 k5
    exact absurd ⟨k1, by omega, by omega, by omega, okA_iff.2 ⟨by omega, k5⟩⟩ h
set_option maxHeartbeats 2000000 in
theorem wantBad_any (x : WantV) (hx : x.item.length ≤ 9223372036854775807) (w : World) : Calls Tryz.prog 158 #[x.val] w fun e w' => e = .returned (.bool (!wantOk x)) ∧ Below w.heap.size w w' := by
  generalize hr : (!wantOk x) = r
  have HQ := Lib.hid hr
  clear hr
  obtain ⟨item, day, qty⟩ := x
  have HK := Lib.hid (fun W => cRight_any item hx W)
  have HR := Lib.hid (fun W => Right_any qty W)
  clear hx
  unfold WantV.val encStr
  simp only
  have HB := Lib.hid ((Below.refl w.heap.size w).alloc (Nat.le_refl _) (.cells #[.string ⟨item.toArray⟩, .int .i64 day, .int .i64 qty] 62))
  have HX : Hid (∀ W, Below (w.alloc (.cells #[.string ⟨item.toArray⟩, .int .i64 day, .int .i64 qty] 62)).heap.size (w.alloc (.cells #[.string ⟨item.toArray⟩, .int .i64 day, .int .i64 qty] 62)) W → W.cell? ⟨w.heap.size, 1, none⟩ = some (.int .i64 day) ∧ W.cell? ⟨w.heap.size, 2, none⟩ = some (.int .i64 qty)) := Lib.hid fun W h => ⟨(h.cell (p := ⟨w.heap.size, 1, none⟩) (by simp)).trans (by simp), (h.cell (p := ⟨w.heap.size, 2, none⟩) (by simp)).trans (by simp)⟩
  cases hk : okCode item with
  | true =>
    rw [hk] at HK
    by_cases h0 : day < 0
    · have E := Lib.hid (show (!wantOk ⟨item, day, qty⟩) = true by rw [wantOk_no (fun h => h.2.1 h0)]; rfl)
      clear hk
      go_enter Tryz.func158, Tryz.ntmps158
      go_wp2_with (first | (go_at_call 93; refine (HK.out _).mono ?_; rintro e w8 ⟨rfl, hb8⟩; obtain ⟨g1, g2⟩ := HX.out w8 hb8; have B8 := Lib.hid (HB.out.trans (hb8.mono (by simp)))) | (go_at_call 49; refine (HR.out _).mono ?_; rintro e w9 ⟨rfl, rfl⟩))
      go_ret
      exact ⟨by rw [← HQ.out, E.out]; first | rfl | simp [*], B8.out⟩
    · by_cases h1 : 4000 < day
      · have E := Lib.hid (show (!wantOk ⟨item, day, qty⟩) = true by rw [wantOk_no (fun h => h.2.2.1 h1)]; rfl)
        clear hk
        go_enter Tryz.func158, Tryz.ntmps158
        go_wp2_with (first | (go_at_call 93; refine (HK.out _).mono ?_; rintro e w8 ⟨rfl, hb8⟩; obtain ⟨g1, g2⟩ := HX.out w8 hb8; have B8 := Lib.hid (HB.out.trans (hb8.mono (by simp)))) | (go_at_call 49; refine (HR.out _).mono ?_; rintro e w9 ⟨rfl, rfl⟩))
        go_ret
        exact ⟨by rw [← HQ.out, E.out]; first | rfl | simp [*], B8.out⟩
      · by_cases h2 : qty < 1
        · have E := Lib.hid (show (!wantOk ⟨item, day, qty⟩) = true by rw [wantOk_no (fun h => h.2.2.2.1 h2)]; rfl)
          clear hk
          go_enter Tryz.func158, Tryz.ntmps158
          go_wp2_with (first | (go_at_call 93; refine (HK.out _).mono ?_; rintro e w8 ⟨rfl, hb8⟩; obtain ⟨g1, g2⟩ := HX.out w8 hb8; have B8 := Lib.hid (HB.out.trans (hb8.mono (by simp)))) | (go_at_call 49; refine (HR.out _).mono ?_; rintro e w9 ⟨rfl, rfl⟩))
          go_ret
          exact ⟨by rw [← HQ.out, E.out]; first | rfl | simp [*], B8.out⟩
        · cases h3 : okA qty with
          | true =>
            rw [h3] at HR
            have E := Lib.hid (show (!wantOk ⟨item, day, qty⟩) = false by rw [wantOk_yes hk h0 h1 h2 h3]; rfl)
            clear hk h3
            go_enter Tryz.func158, Tryz.ntmps158
            go_wp2_with (first | (go_at_call 93; refine (HK.out _).mono ?_; rintro e w8 ⟨rfl, hb8⟩; obtain ⟨g1, g2⟩ := HX.out w8 hb8; have B8 := Lib.hid (HB.out.trans (hb8.mono (by simp)))) | (go_at_call 49; refine (HR.out _).mono ?_; rintro e w9 ⟨rfl, rfl⟩))
            go_ret
            exact ⟨by rw [← HQ.out, E.out]; first | rfl | simp [*], B8.out⟩
          | false =>
            rw [h3] at HR
            have E := Lib.hid (show (!wantOk ⟨item, day, qty⟩) = true by rw [wantOk_no (fun h => by rw [h3] at h; cases h.2.2.2.2)]; rfl)
            clear hk h3
            go_enter Tryz.func158, Tryz.ntmps158
            go_wp2_with (first | (go_at_call 93; refine (HK.out _).mono ?_; rintro e w8 ⟨rfl, hb8⟩; obtain ⟨g1, g2⟩ := HX.out w8 hb8; have B8 := Lib.hid (HB.out.trans (hb8.mono (by simp)))) | (go_at_call 49; refine (HR.out _).mono ?_; rintro e w9 ⟨rfl, rfl⟩))
            go_ret
            exact ⟨by rw [← HQ.out, E.out]; first | rfl | simp [*], B8.out⟩
  | false =>
    rw [hk] at HK
    have E := Lib.hid (show (!wantOk ⟨item, day, qty⟩) = true by rw [wantOk_no (fun h => by rw [hk] at h; cases h.1)]; rfl)
    clear hk
    go_enter Tryz.func158, Tryz.ntmps158
    go_wp2_with (first | (go_at_call 93; refine (HK.out _).mono ?_; rintro e w8 ⟨rfl, hb8⟩; obtain ⟨g1, g2⟩ := HX.out w8 hb8; have B8 := Lib.hid (HB.out.trans (hb8.mono (by simp)))) | (go_at_call 49; refine (HR.out _).mono ?_; rintro e w9 ⟨rfl, rfl⟩))
    go_ret
    exact ⟨by rw [← HQ.out, E.out]; first | rfl | simp [*], B8.out⟩
end Go.Proofs.YtbedbhlebfnohaaGreat
