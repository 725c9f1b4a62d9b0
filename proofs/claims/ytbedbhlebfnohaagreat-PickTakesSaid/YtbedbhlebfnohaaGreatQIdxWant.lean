/- window.Right, window.Has, lot.Right, and what flow.together asks of a want: walks. (Printed by gen/bools.py.) Maps keyed by numbers, as functions. The first place of which a test holds: plain Lean. slices.IndexFunc, slices.ContainsFunc at api.Want: walks. (Printed by gen/idx.py.) -/
import Derived.Test.YtbedbhlebfnohaaGreatQWant
import Derived.Test.YtbedbhlebfnohaaGreatQPick
import Derived.Test.YtbedbhlebfnohaaGreatJSame
import Derived.Test.YtbedbhlebfnohaaGreatKRight
import Derived.Shelf.SlLaysF0
namespace Go.Proofs.YtbedbhlebfnohaaGreat
open Go.RowKit

def winB (fr un : Int) : Bool := decide (0 ≤ fr) && decide (fr ≤ un) && decide (un ≤ 4001)
theorem winB_yes {fr un : Int} (h0 : 0 ≤ fr) (h1 : fr ≤ un) (h2 : un ≤ 4001) : winB fr un = true := by unfold winB; simp [h0, h1, h2]
theorem winB_no {fr un : Int} (h : ¬ (0 ≤ fr ∧ fr ≤ un ∧ un ≤ 4001)) : winB fr un = false := by
  unfold winB
  simp only [Bool.and_eq_false_iff, decide_eq_false_iff_not]
  omega
theorem winB_iff {fr un : Int} : winB fr un = true ↔ 0 ≤ fr ∧ fr ≤ un ∧ un ≤ 4001 := by
  unfold winB
  simp only [Bool.and_eq_true, decide_eq_true_eq, and_assoc]
theorem winRight_any (fr un : Int) (w : World) : Calls Tryz.prog 163 #[.agg #[.int .i64 fr, .int .i64 un]] w fun e w' => e = .returned (.bool (winB fr un)) ∧ Below w.heap.size w w' := by
  have HB := Lib.hid (fun c : Array Value => (Below.refl w.heap.size w).alloc (Nat.le_refl _) (.cells c 44))
  by_cases h0 : 0 ≤ fr
  · by_cases h1 : fr ≤ un
    · by_cases h2 : un ≤ 4001
      · have E := Lib.hid (winB_yes h0 h1 h2)
        go_enter Tryz.func163, Tryz.ntmps163
        go_wp2_with (fail)
        go_ret
        exact ⟨by rw [E.out]; rfl, HB.out _⟩
      · have E := Lib.hid (winB_no (fr := fr) (un := un) (fun h => h2 h.2.2))
        go_enter Tryz.func163, Tryz.ntmps163
        go_wp2_with (fail)
        go_ret
        exact ⟨by rw [E.out]; rfl, HB.out _⟩
    · have E := Lib.hid (winB_no (fr := fr) (un := un) (fun h => h1 h.2.1))
      go_enter Tryz.func163, Tryz.ntmps163
      go_wp2_with (fail)
      go_ret
      exact ⟨by rw [E.out]; rfl, HB.out _⟩
  · have E := Lib.hid (winB_no (fr := fr) (un := un) (fun h => h0 h.1))
    go_enter Tryz.func163, Tryz.ntmps163
    go_wp2_with (fail)
    go_ret
    exact ⟨by rw [E.out]; rfl, HB.out _⟩
theorem hasW_eq (fr un day : Int) : hasW fr un day = (winB fr un && (decide (fr ≤ day) && decide (day < un))) := by
  unfold hasW winB
  simp only [Bool.and_assoc]
set_option maxHeartbeats 1000000 in
theorem winHas_any (fr un day : Int) (w : World) : Calls Tryz.prog 106 #[.agg #[.int .i64 fr, .int .i64 un], .int .i64 day] w fun e w' => e = .returned (.bool (hasW fr un day)) ∧ Below w.heap.size w w' := by
  generalize hr : hasW fr un day = r
  have HQ := Lib.hid hr
  clear hr
  have HR := Lib.hid (fun W => winRight_any fr un W)
  have HB := Lib.hid ((Below.refl w.heap.size w).alloc (Nat.le_refl _) (.cells #[.int .i64 fr, .int .i64 un] 44))
  have HC : Hid ((w.alloc (.cells #[.int .i64 fr, .int .i64 un] 44)).cell? ⟨w.heap.size, 0, none⟩ = some (.int .i64 fr) ∧ (w.alloc (.cells #[.int .i64 fr, .int .i64 un] 44)).cell? ⟨w.heap.size, 1, none⟩ = some (.int .i64 un)) := Lib.hid ⟨by simp, by simp⟩
  cases hb : winB fr un with
  | true =>
    rw [hb] at HR
    by_cases h1 : fr ≤ day
    · by_cases h2 : day < un
      · have E := Lib.hid (show hasW fr un day = true by rw [hasW_eq, hb]; simp [h1, h2])
        clear hb
        go_enter Tryz.func106, Tryz.ntmps106
        go_wp2_with (go_at_call 163; refine (HR.out _).mono ?_; rintro e w9 ⟨rfl, hb⟩; have c0 := (hb.cell (p := ⟨w.heap.size, 0, none⟩) (by simp)).trans (HC.out.1); have c1 := (hb.cell (p := ⟨w.heap.size, 1, none⟩) (by simp)).trans (HC.out.2); have B9 := Lib.hid (HB.out.trans (hb.mono (by simp))))
        go_ret
        exact ⟨by rw [← HQ.out, E.out]; first | rfl | simp [*], B9.out⟩
      · have E := Lib.hid (show hasW fr un day = false by rw [hasW_eq, hb]; simp [h2])
        clear hb
        go_enter Tryz.func106, Tryz.ntmps106
        go_wp2_with (go_at_call 163; refine (HR.out _).mono ?_; rintro e w9 ⟨rfl, hb⟩; have c0 := (hb.cell (p := ⟨w.heap.size, 0, none⟩) (by simp)).trans (HC.out.1); have c1 := (hb.cell (p := ⟨w.heap.size, 1, none⟩) (by simp)).trans (HC.out.2); have B9 := Lib.hid (HB.out.trans (hb.mono (by simp))))
        go_ret
        exact ⟨by rw [← HQ.out, E.out]; first | rfl | simp [*], B9.out⟩
    · have E := Lib.hid (show hasW fr un day = false by rw [hasW_eq, hb]; simp [h1])
      clear hb
      go_enter Tryz.func106, Tryz.ntmps106
      go_wp2_with (go_at_call 163; refine (HR.out _).mono ?_; rintro e w9 ⟨rfl, hb⟩; have c0 := (hb.cell (p := ⟨w.heap.size, 0, none⟩) (by simp)).trans (HC.out.1); have c1 := (hb.cell (p := ⟨w.heap.size, 1, none⟩) (by simp)).trans (HC.out.2); have B9 := Lib.hid (HB.out.trans (hb.mono (by simp))))
      go_ret
      exact ⟨by rw [← HQ.out, E.out]; first | rfl | simp [*], B9.out⟩
  | false =>
    rw [hb] at HR
    have E := Lib.hid (show hasW fr un day = false by rw [hasW_eq, hb]; simp)
    clear hb
    go_enter Tryz.func106, Tryz.ntmps106
    go_wp2_with (go_at_call 163; refine (HR.out _).mono ?_; rintro e w9 ⟨rfl, hb⟩; have c0 := (hb.cell (p := ⟨w.heap.size, 0, none⟩) (by simp)).trans (HC.out.1); have c1 := (hb.cell (p := ⟨w.heap.size, 1, none⟩) (by simp)).trans (HC.out.2); have B9 := Lib.hid (HB.out.trans (hb.mono (by simp))))
    go_ret
    exact ⟨by rw [← HQ.out, E.out]; first | rfl | simp [*], B9.out⟩
theorem lotOk_yes {id : Int} {item : List UInt8} {fr un qty : Int} {arr : Bool} (h0 : 0 < id) (hk : okCode item = true) (hw : winB fr un = true) (h1 : fr < un) (h2 : 0 < qty) (h3 : qty ≤ 1073741824) : lotOk ⟨id, item, fr, un, qty, arr⟩ = true := by
  have := winB_iff.1 hw
  exact lotOk_iff.2 ⟨by show 1 ≤ id; omega, hk, this.1, h1, this.2.2, by show 1 ≤ qty; omega, h3⟩
theorem lotOk_no {id : Int} {item : List UInt8} {fr un qty : Int} {arr : Bool} (h : ¬ (0 < id ∧ okCode item = true ∧ winB fr un = true ∧ fr < un ∧ 0 < qty ∧ qty ≤ 1073741824)) : lotOk ⟨id, item, fr, un, qty, arr⟩ = false := by
  cases hl : lotOk ⟨id, item, fr, un, qty, arr⟩ with
  | false => rfl
  | true =>
    obtain ⟨k1, k2, k3, k4, k5, k6, k7⟩ := lotOk_iff.1 hl
    simp only at k1 k2 k3 k4 k5 k6 k7
    exact absurd ⟨by omega, k2, winB_iff.2 ⟨k3, by omega, k5⟩, k4, by omega, k7⟩ h
set_option maxHeartbeats 2000000 in
theorem lotRight_any (x : LotV) (hx : x.item.length ≤ 9223372036854775807) (w : World) : Calls Tryz.prog 156 #[x.val] w fun e w' => e = .returned (.bool (lotOk x)) ∧ Below w.heap.size w w' := by
  generalize hr : lotOk x = r
  have HQ := Lib.hid hr
  clear hr
  obtain ⟨id, item, fr, un, qty, arr⟩ := x
  have HK := Lib.hid (fun W => cRight_any item hx W)
  have HR := Lib.hid (fun W => winRight_any fr un W)
  clear hx
  unfold LotV.val encStr
  simp only
  have HB := Lib.hid ((Below.refl w.heap.size w).alloc (Nat.le_refl _) (.cells #[.int .i64 id, .string ⟨item.toArray⟩, .int .i64 fr, .int .i64 un, .int .i64 qty, .bool arr] 46))
  have HX : Hid (∀ W, Below (w.alloc (.cells #[.int .i64 id, .string ⟨item.toArray⟩, .int .i64 fr, .int .i64 un, .int .i64 qty, .bool arr] 46)).heap.size (w.alloc (.cells #[.int .i64 id, .string ⟨item.toArray⟩, .int .i64 fr, .int .i64 un, .int .i64 qty, .bool arr] 46)) W → W.cell? ⟨w.heap.size, 0, none⟩ = some (.int .i64 id) ∧ W.cell? ⟨w.heap.size, 1, none⟩ = some (.string ⟨item.toArray⟩) ∧ W.cell? ⟨w.heap.size, 2, none⟩ = some (.int .i64 fr) ∧ W.cell? ⟨w.heap.size, 3, none⟩ = some (.int .i64 un) ∧ W.cell? ⟨w.heap.size, 4, none⟩ = some (.int .i64 qty)) := Lib.hid fun W h => ⟨(h.cell (p := ⟨w.heap.size, 0, none⟩) (by simp)).trans (by simp), (h.cell (p := ⟨w.heap.size, 1, none⟩) (by simp)).trans (by simp), (h.cell (p := ⟨w.heap.size, 2, none⟩) (by simp)).trans (by simp), (h.cell (p := ⟨w.heap.size, 3, none⟩) (by simp)).trans (by simp), (h.cell (p := ⟨w.heap.size, 4, none⟩) (by simp)).trans (by simp)⟩
  by_cases h0 : 0 < id
  · cases hk : okCode item with
    | true =>
      rw [hk] at HK
      cases hw : winB fr un with
      | true =>
        rw [hw] at HR
        by_cases h1 : fr < un
        · by_cases h2 : 0 < qty
          · by_cases h3 : qty ≤ 1073741824
            · have E := Lib.hid (lotOk_yes (arr := arr) h0 hk hw h1 h2 h3)
              clear hk hw
              go_enter Tryz.func156, Tryz.ntmps156
              go_wp2_with (first | (go_at_call 93; refine (HK.out _).mono ?_; rintro e w8 ⟨rfl, hb8⟩; obtain ⟨g1, g2, g3, g4, g5⟩ := HX.out w8 hb8; have B8 := Lib.hid (HB.out.trans (hb8.mono (by simp))); have HX8 := Lib.hid (fun W (h : Below w8.heap.size w8 W) => HX.out W (hb8.trans (h.mono hb8.size)))) | (go_at_call 163; refine (HR.out _).mono ?_; rintro e w9 ⟨rfl, hb9⟩; obtain ⟨k1, k2, k3, k4, k5⟩ := HX8.out w9 hb9; have B9 := Lib.hid (B8.out.trans (hb9.mono B8.out.size))))
              go_ret
              exact ⟨by rw [← HQ.out, E.out]; first | rfl | simp [*], B9.out⟩
            · have E := Lib.hid (lotOk_no (id := id) (item := item) (fr := fr) (un := un) (qty := qty) (arr := arr) (fun h => h3 h.2.2.2.2.2))
              clear hk hw
              go_enter Tryz.func156, Tryz.ntmps156
              go_wp2_with (first | (go_at_call 93; refine (HK.out _).mono ?_; rintro e w8 ⟨rfl, hb8⟩; obtain ⟨g1, g2, g3, g4, g5⟩ := HX.out w8 hb8; have B8 := Lib.hid (HB.out.trans (hb8.mono (by simp))); have HX8 := Lib.hid (fun W (h : Below w8.heap.size w8 W) => HX.out W (hb8.trans (h.mono hb8.size)))) | (go_at_call 163; refine (HR.out _).mono ?_; rintro e w9 ⟨rfl, hb9⟩; obtain ⟨k1, k2, k3, k4, k5⟩ := HX8.out w9 hb9; have B9 := Lib.hid (B8.out.trans (hb9.mono B8.out.size))))
              go_ret
              exact ⟨by rw [← HQ.out, E.out]; first | rfl | simp [*], B9.out⟩
          · have E := Lib.hid (lotOk_no (id := id) (item := item) (fr := fr) (un := un) (qty := qty) (arr := arr) (fun h => h2 h.2.2.2.2.1))
            clear hk hw
            go_enter Tryz.func156, Tryz.ntmps156
            go_wp2_with (first | (go_at_call 93; refine (HK.out _).mono ?_; rintro e w8 ⟨rfl, hb8⟩; obtain ⟨g1, g2, g3, g4, g5⟩ := HX.out w8 hb8; have B8 := Lib.hid (HB.out.trans (hb8.mono (by simp))); have HX8 := Lib.hid (fun W (h : Below w8.heap.size w8 W) => HX.out W (hb8.trans (h.mono hb8.size)))) | (go_at_call 163; refine (HR.out _).mono ?_; rintro e w9 ⟨rfl, hb9⟩; obtain ⟨k1, k2, k3, k4, k5⟩ := HX8.out w9 hb9; have B9 := Lib.hid (B8.out.trans (hb9.mono B8.out.size))))
            go_ret
            exact ⟨by rw [← HQ.out, E.out]; first | rfl | simp [*], B9.out⟩
        · have E := Lib.hid (lotOk_no (id := id) (item := item) (fr := fr) (un := un) (qty := qty) (arr := arr) (fun h => h1 h.2.2.2.1))
          clear hk hw
          go_enter Tryz.func156, Tryz.ntmps156
          go_wp2_with (first | (go_at_call 93; refine (HK.out _).mono ?_; rintro e w8 ⟨rfl, hb8⟩; obtain ⟨g1, g2, g3, g4, g5⟩ := HX.out w8 hb8; have B8 := Lib.hid (HB.out.trans (hb8.mono (by simp))); have HX8 := Lib.hid (fun W (h : Below w8.heap.size w8 W) => HX.out W (hb8.trans (h.mono hb8.size)))) | (go_at_call 163; refine (HR.out _).mono ?_; rintro e w9 ⟨rfl, hb9⟩; obtain ⟨k1, k2, k3, k4, k5⟩ := HX8.out w9 hb9; have B9 := Lib.hid (B8.out.trans (hb9.mono B8.out.size))))
          go_ret
          exact ⟨by rw [← HQ.out, E.out]; first | rfl | simp [*], B9.out⟩
      | false =>
        rw [hw] at HR
        have E := Lib.hid (lotOk_no (id := id) (item := item) (fr := fr) (un := un) (qty := qty) (arr := arr) (fun h => by rw [hw] at h; cases h.2.2.1))
        clear hk hw
        go_enter Tryz.func156, Tryz.ntmps156
        go_wp2_with (first | (go_at_call 93; refine (HK.out _).mono ?_; rintro e w8 ⟨rfl, hb8⟩; obtain ⟨g1, g2, g3, g4, g5⟩ := HX.out w8 hb8; have B8 := Lib.hid (HB.out.trans (hb8.mono (by simp))); have HX8 := Lib.hid (fun W (h : Below w8.heap.size w8 W) => HX.out W (hb8.trans (h.mono hb8.size)))) | (go_at_call 163; refine (HR.out _).mono ?_; rintro e w9 ⟨rfl, hb9⟩; obtain ⟨k1, k2, k3, k4, k5⟩ := HX8.out w9 hb9; have B9 := Lib.hid (B8.out.trans (hb9.mono B8.out.size))))
        go_ret
        exact ⟨by rw [← HQ.out, E.out]; first | rfl | simp [*], B9.out⟩
    | false =>
      rw [hk] at HK
      have E := Lib.hid (lotOk_no (id := id) (item := item) (fr := fr) (un := un) (qty := qty) (arr := arr) (fun h => by rw [hk] at h; cases h.2.1))
      clear hk
      go_enter Tryz.func156, Tryz.ntmps156
      go_wp2_with (first | (go_at_call 93; refine (HK.out _).mono ?_; rintro e w8 ⟨rfl, hb8⟩; obtain ⟨g1, g2, g3, g4, g5⟩ := HX.out w8 hb8; have B8 := Lib.hid (HB.out.trans (hb8.mono (by simp))); have HX8 := Lib.hid (fun W (h : Below w8.heap.size w8 W) => HX.out W (hb8.trans (h.mono hb8.size)))) | (go_at_call 163; refine (HR.out _).mono ?_; rintro e w9 ⟨rfl, hb9⟩; obtain ⟨k1, k2, k3, k4, k5⟩ := HX8.out w9 hb9; have B9 := Lib.hid (B8.out.trans (hb9.mono B8.out.size))))
      go_ret
      exact ⟨by rw [← HQ.out, E.out]; first | rfl | simp [*], B8.out⟩
  · have E := Lib.hid (lotOk_no (id := id) (item := item) (fr := fr) (un := un) (qty := qty) (arr := arr) (fun h => h0 h.1))
    go_enter Tryz.func156, Tryz.ntmps156
    go_wp2_with (first | (go_at_call 93; refine (HK.out _).mono ?_; rintro e w8 ⟨rfl, hb8⟩; obtain ⟨g1, g2, g3, g4, g5⟩ := HX.out w8 hb8; have B8 := Lib.hid (HB.out.trans (hb8.mono (by simp))); have HX8 := Lib.hid (fun W (h : Below w8.heap.size w8 W) => HX.out W (hb8.trans (h.mono hb8.size)))) | (go_at_call 163; refine (HR.out _).mono ?_; rintro e w9 ⟨rfl, hb9⟩; obtain ⟨k1, k2, k3, k4, k5⟩ := HX8.out w9 hb9; have B9 := Lib.hid (B8.out.trans (hb9.mono B8.out.size))))
    go_ret
    exact ⟨by rw [← HQ.out, E.out]; first | rfl | simp [*], HB.out⟩
def WantV.val (x : WantV) : Value := .agg #[encStr x.item, .int .i64 x.day, .int .i64 x.qty]
theorem wantOk_yes {item : List UInt8} {day qty : Int} (hk : okCode item = true) (h0 : ¬ day < 0) (h1 : ¬ 4000 < day) (h2 : ¬ qty < 1) (h3 : okA qty = true) : wantOk ⟨item, day, qty⟩ = true := by
  have := okA_iff.1 h3
  exact wantOk_iff.2 ⟨hk, by show 0 ≤ day; omega, by show day ≤ 4000; omega, by show 1 ≤ qty; omega, this.2⟩
theorem wantOk_no {item : List UInt8} {day qty : Int} (h : ¬ (okCode item = true ∧ ¬ day < 0 ∧ ¬ 4000 < day ∧ ¬ qty < 1 ∧ okA qty = true)) : wantOk ⟨item, day, qty⟩ = false := by
  cases hl : wantOk ⟨item, day, qty⟩ with
  | false => rfl
  | true =>
    obtain ⟨k1, k2, k3, k4, k5⟩ := wantOk_iff.1 hl
    simp only at k1 k2 k3 k4 k5
    exact absurd ⟨k1, by omega, by omega, by omega, okA_iff.2 ⟨by omega, k5⟩⟩ h
set_option maxHeartbeats 2000000 in
theorem wantBad_any (x : WantV) (hx : x.item.length ≤ 9223372036854775807) (w : World) : Calls Tryz.prog 158 #[x.val] w fun e w' => e = .returned (.bool (!wantOk x)) ∧ Below w.heap.size w w' := by
  generalize hr : (!wantOk x) = r
  have HQ := Lib.hid hr
  clear hr
  obtain ⟨item, day, qty⟩ := x
  have HK := Lib.hid (fun W => cRight_any item hx W)
  have HR := Lib.hid (fun W => Right_any qty W)
  clear hx
  unfold WantV.val encStr
  simp only
  have HB := Lib.hid ((Below.refl w.heap.size w).alloc (Nat.le_refl _) (.cells #[.string ⟨item.toArray⟩, .int .i64 day, .int .i64 qty] 62))
  have HX : Hid (∀ W, Below (w.alloc (.cells #[.string ⟨item.toArray⟩, .int .i64 day, .int .i64 qty] 62)).heap.size (w.alloc (.cells #[.string ⟨item.toArray⟩, .int .i64 day, .int .i64 qty] 62)) W → W.cell? ⟨w.heap.size, 1, none⟩ = some (.int .i64 day) ∧ W.cell? ⟨w.heap.size, 2, none⟩ = some (.int .i64 qty)) := Lib.hid fun W h => ⟨(h.cell (p := ⟨w.heap.size, 1, none⟩) (by simp)).trans (by simp), (h.cell (p := ⟨w.heap.size, 2, none⟩) (by simp)).trans (by simp)⟩
  cases hk : okCode item with
  | true =>
    rw [hk] at HK
    by_cases h0 : day < 0
    · have E := Lib.hid (show (!wantOk ⟨item, day, qty⟩) = true by rw [wantOk_no (fun h => h.2.1 h0)]; rfl)
      clear hk
      go_enter Tryz.func158, Tryz.ntmps158
      go_wp2_with (first | (go_at_call 93; refine (HK.out _).mono ?_; rintro e w8 ⟨rfl, hb8⟩; obtain ⟨g1, g2⟩ := HX.out w8 hb8; have B8 := Lib.hid (HB.out.trans (hb8.mono (by simp)))) | (go_at_call 49; refine (HR.out _).mono ?_; rintro e w9 ⟨rfl, rfl⟩))
      go_ret
      exact ⟨by rw [← HQ.out, E.out]; first | rfl | simp [*], B8.out⟩
    · by_cases h1 : 4000 < day
      · have E := Lib.hid (show (!wantOk ⟨item, day, qty⟩) = true by rw [wantOk_no (fun h => h.2.2.1 h1)]; rfl)
        clear hk
        go_enter Tryz.func158, Tryz.ntmps158
        go_wp2_with (first | (go_at_call 93; refine (HK.out _).mono ?_; rintro e w8 ⟨rfl, hb8⟩; obtain ⟨g1, g2⟩ := HX.out w8 hb8; have B8 := Lib.hid (HB.out.trans (hb8.mono (by simp)))) | (go_at_call 49; refine (HR.out _).mono ?_; rintro e w9 ⟨rfl, rfl⟩))
        go_ret
        exact ⟨by rw [← HQ.out, E.out]; first | rfl | simp [*], B8.out⟩
      · by_cases h2 : qty < 1
        · have E := Lib.hid (show (!wantOk ⟨item, day, qty⟩) = true by rw [wantOk_no (fun h => h.2.2.2.1 h2)]; rfl)
          clear hk
          go_enter Tryz.func158, Tryz.ntmps158
          go_wp2_with (first | (go_at_call 93; refine (HK.out _).mono ?_; rintro e w8 ⟨rfl, hb8⟩; obtain ⟨g1, g2⟩ := HX.out w8 hb8; have B8 := Lib.hid (HB.out.trans (hb8.mono (by simp)))) | (go_at_call 49; refine (HR.out _).mono ?_; rintro e w9 ⟨rfl, rfl⟩))
          go_ret
          exact ⟨by rw [← HQ.out, E.out]; first | rfl | simp [*], B8.out⟩
        · cases h3 : okA qty with
          | true =>
            rw [h3] at HR
            have E := Lib.hid (show (!wantOk ⟨item, day, qty⟩) = false by rw [wantOk_yes hk h0 h1 h2 h3]; rfl)
            clear hk h3
            go_enter Tryz.func158, Tryz.ntmps158
            go_wp2_with (first | (go_at_call 93; refine (HK.out _).mono ?_; rintro e w8 ⟨rfl, hb8⟩; obtain ⟨g1, g2⟩ := HX.out w8 hb8; have B8 := Lib.hid (HB.out.trans (hb8.mono (by simp)))) | (go_at_call 49; refine (HR.out _).mono ?_; rintro e w9 ⟨rfl, rfl⟩))
            go_ret
            exact ⟨by rw [← HQ.out, E.out]; first | rfl | simp [*], B8.out⟩
          | false =>
            rw [h3] at HR
            have E := Lib.hid (show (!wantOk ⟨item, day, qty⟩) = true by rw [wantOk_no (fun h => by rw [h3] at h; cases h.2.2.2.2)]; rfl)
            clear hk h3
            go_enter Tryz.func158, Tryz.ntmps158
            go_wp2_with (first | (go_at_call 93; refine (HK.out _).mono ?_; rintro e w8 ⟨rfl, hb8⟩; obtain ⟨g1, g2⟩ := HX.out w8 hb8; have B8 := Lib.hid (HB.out.trans (hb8.mono (by simp)))) | (go_at_call 49; refine (HR.out _).mono ?_; rintro e w9 ⟨rfl, rfl⟩))
            go_ret
            exact ⟨by rw [← HQ.out, E.out]; first | rfl | simp [*], B8.out⟩
  | false =>
    rw [hk] at HK
    have E := Lib.hid (show (!wantOk ⟨item, day, qty⟩) = true by rw [wantOk_no (fun h => by rw [hk] at h; cases h.1)]; rfl)
    clear hk
    go_enter Tryz.func158, Tryz.ntmps158
    go_wp2_with (first | (go_at_call 93; refine (HK.out _).mono ?_; rintro e w8 ⟨rfl, hb8⟩; obtain ⟨g1, g2⟩ := HX.out w8 hb8; have B8 := Lib.hid (HB.out.trans (hb8.mono (by simp)))) | (go_at_call 49; refine (HR.out _).mono ?_; rintro e w9 ⟨rfl, rfl⟩))
    go_ret
    exact ⟨by rw [← HQ.out, E.out]; first | rfl | simp [*], B8.out⟩
end Go.Proofs.YtbedbhlebfnohaaGreat
namespace Go.Proofs.YtbedbhlebfnohaaGreat
open Go.RowKit Go.Maps

def updV (f : Int → Value) (i : Int) (v : Value) : Int → Value := fun j => if j = i then v else f j
theorem updV_same (f : Int → Value) (i : Int) (v : Value) : updV f i v i = v := by unfold updV; rw [if_pos rfl]
theorem updV_other (f : Int → Value) {i j : Int} (v : Value) (h : j ≠ i) : updV f i v j = f j := by unfold updV; rw [if_neg h]
/-- Block b is a map keyed by numbers, of at most n entries: at each number it gives f (z: what it gives where there is nothing). -/
def MI (w : World) (b n : Nat) (z : Value) (f : Int → Value) : Prop := ∃ D, w.ownsMap Tryz.prog 3 RVal b n D ∧ ∀ s, D.atKey (.int .i64 s) (.held z) = .held (f s)
theorem ikey : Keyed Tryz.prog 3 := int_keyed Tryz.underlying3
theorem ikey_of (s : Int) (h1 : -9223372036854775808 ≤ s) (h2 : s ≤ 9223372036854775807) : keyOf Tryz.prog 3 (.int .i64 s) = some (.int .i64 s) :=
  keyOf_int_mk Tryz.underlying3 (by
    have e1 : IntKind.i64.min = -9223372036854775808 := by decide
    have e2 : IntKind.i64.max = 9223372036854775807 := by decide
    simp only [Lit.wf, Bool.and_eq_true, decide_eq_true_eq, e1, e2]
    exact ⟨h1, h2⟩)
theorem MI.made (w : World) (z : Value) : MI (w.alloc (.map #[] 0)) w.heap.size 0 z (fun _ => z) := ⟨_, World.ownsMap_made _ _ _ _, fun _ => rfl⟩
section
variable {w w' : World} {b n : Nat} {z : Value} {f : Int → Value}
theorem MI.lt (h : MI w b n z f) : b < w.heap.size := by
  obtain ⟨D, h1, -⟩ := h
  exact h1.lt
theorem MI.kept (h : MI w b n z f) {row : Option Nat} (hg : w.grownBy w' row) (hne : some b ≠ row) : MI w' b n z f := by
  obtain ⟨D, h1, h2⟩ := h
  exact ⟨D, h1.kept hg hne, h2⟩
theorem MI.block (h : MI w b n z f) (hb : w'.heap[b]? = w.heap[b]?) : MI w' b n z f := by
  obtain ⟨D, ⟨es, clock, h1, h2⟩, h3⟩ := h
  exact ⟨D, ⟨es, clock, hb.trans h1, h2⟩, h3⟩
theorem MI.below (h : MI w b n z f) {B : Nat} (hb : Below B w w') (hB : b < B) : MI w' b n z f := h.block (hb.block b hB)
theorem MI.mono (h : MI w b n z f) {n' : Nat} (hn : n ≤ n') : MI w b n' z f := by
  obtain ⟨D, h1, h2⟩ := h
  exact ⟨D, h1.mono hn, h2⟩
theorem MI.look (h : MI w b n z f) {t e : TypeId} (ht : Tryz.prog.underlying t = some (.map 3 e)) (hz : (zeroValue e).run Tryz.prog w = .ok z w) (s : Int) (h1 : -9223372036854775808 ≤ s) (h2 : s ≤ 9223372036854775807) :
    (Instr.lookup t (.map (some b)) (.int .i64 s) false).run Tryz.prog w = .ok (f s) w := by
  obtain ⟨D, h3, h4⟩ := h
  obtain ⟨v, ps, hrun, hv⟩ := h3.lookup ikey ht hz (zd := .held z) (zp := []) rfl (ikey_of s h1 h2)
  rw [h4 s] at hv
  cases hv
  exact hrun
theorem MI.put (h : MI w b n z f) {t e : TypeId} (ht : Tryz.prog.underlying t = some (.map 3 e)) (hn : n < 9223372036854775807) (s : Int) (h1 : -9223372036854775808 ≤ s) (h2 : s ≤ 9223372036854775807) (v : Value) :
    ∃ w', (Instr.mapUpdate t (.map (some b)) (.int .i64 s) v).run Tryz.prog w = .ok () w' ∧ MI w' b (n + 1) z (updV f s v) ∧ w.grownBy w' (some b) := by
  obtain ⟨D, h3, h4⟩ := h
  obtain ⟨w', hrun, r1, r2⟩ := h3.update ikey ht (by simpa [maxLen] using hn) (ikey_of s h1 h2) (val := v) (d := .held v) (ps := []) rfl
  refine ⟨w', hrun, ⟨_, r1, fun x => ?_⟩, r2⟩
  by_cases e : x = s
  · subst e
    rw [atKey_put_same h3.isMap (show WideAt.IsKeyLit (.int .i64 x) by trivial), updV_same]
  · rw [atKey_put_other (fun e2 => e (by cases e2; rfl)), h4, updV_other _ _ e]
end
theorem wpList_put_mi {w : World} {ops : Array Oper} {rest : List Oper} {o : Oper} {a : Act} {Q : Exit → Act → World → Prop} (hgd : o.guard = none) (m x v : Operand) (t : TypeId) (ho : o.op = .mapUpdate t m x v) {e : TypeId}
    (ht : Tryz.prog.underlying t = some (.map 3 e)) {b n : Nat} {z : Value} {f : Int → Value} (h : MI w b n z f) (hn : n < 9223372036854775807) (s : Int) (val : Value) (hm : a.eval m = .map (some b)) (hx : a.eval x = .int .i64 s) (hv : a.eval v = val) (h1 : -9223372036854775808 ≤ s) (h2 : s ≤ 9223372036854775807)
    (hK : ∀ w', MI w' b (n + 1) z (updV f s val) → w.grownBy w' (some b) → wpList Tryz.prog ops Q rest (a.put o.dst undef) w') : wpList Tryz.prog ops Q (o :: rest) a w := by
  refine wpList_plain hgd fun K' hK' => ?_
  obtain ⟨w', hrun, r1, r2⟩ := h.put ht hn s h1 h2 val
  unfold Oper.wp
  simp [execOp, ho, hm, hx, hv, hrun, Result.andThen]
  exact hK' _ _ (hK w' r1 r2)
end Go.Proofs.YtbedbhlebfnohaaGreat
namespace Go.Proofs.YtbedbhlebfnohaaGreat
variable {α : Type}
/-- The first place of which p holds, or -1. -/
def idxI (p : α → Bool) (X : List α) : Int := match X.findIdx? p with
  | some i => (i : Nat)
  | none => -1
theorem idx_more [Inhabited α] {p : α → Bool} {X : List α} {j : Nat} (h : ∀ k, k < j → p (X.getD k default) = false) (hj : p (X.getD j default) = false) : ∀ k, k < j + 1 → p (X.getD k default) = false := fun k hk => by
  rcases Nat.lt_or_ge k j with h1 | h1
  · exact h k h1
  · rw [show k = j by omega]; exact hj
theorem idxI_some [Inhabited α] {p : α → Bool} {X : List α} {j : Nat} (hj : j < X.length) (h : ∀ k, k < j → p (X.getD k default) = false) (hp : p (X.getD j default) = true) : idxI p X = (j : Nat) := by
  unfold idxI
  have : X.findIdx? p = some j := by
    rw [List.findIdx?_eq_some_iff_getElem]
    refine ⟨hj, ?_, fun k hk => ?_⟩
    · rwa [List.getD_eq_getElem?_getD, List.getElem?_eq_getElem hj] at hp
    · have := h k hk
      rw [List.getD_eq_getElem?_getD, List.getElem?_eq_getElem (by omega)] at this
      simpa using this
  rw [this]
theorem idxI_none [Inhabited α] {p : α → Bool} {X : List α} (h : ∀ k, k < X.length → p (X.getD k default) = false) : idxI p X = -1 := by
  unfold idxI
  have : X.findIdx? p = none := by
    rw [List.findIdx?_eq_none_iff]
    intro x hx
    obtain ⟨i, hi, rfl⟩ := List.getElem_of_mem hx
    have := h i hi
    rwa [List.getD_eq_getElem?_getD, List.getElem?_eq_getElem hi] at this
  rw [this]
theorem idxI_ge {p : α → Bool} {X : List α} : 0 ≤ idxI p X ↔ X.any p = true := by
  unfold idxI
  cases h : X.findIdx? p with
  | none =>
    simp only [List.findIdx?_eq_none_iff] at h
    constructor
    · intro h2; exact absurd h2 (by decide)
    · intro h2
      obtain ⟨x, hx, hp⟩ := List.any_eq_true.1 h2
      rw [h x hx] at hp
      cases hp
  | some i =>
    rw [List.findIdx?_eq_some_iff_getElem] at h
    obtain ⟨hi, hp, -⟩ := h
    constructor
    · intro _; exact List.any_eq_true.2 ⟨_, List.getElem_mem hi, hp⟩
    · intro _; show (0 : Int) ≤ (i : Nat); omega
end Go.Proofs.YtbedbhlebfnohaaGreat
namespace Go.Proofs.YtbedbhlebfnohaaGreat
open Go.RowKit Go.Shelf

/-- What is leaned on of the program. -/
structure IxWant (P : Program) : Prop where
  fI : P.funcs[185]? = some Tryz.f185
  fC : P.funcs[157]? = some Tryz.f157
  t3 : P.underlying 3 = some (TypeDesc.int IntKind.i64)
  a3 : ∀ w, (isAgg 3).run P w = .ok false w
  z3 : ∀ w, (Go.sizeOf 3).run P w = .ok 1 w
  v3 : ∀ w, (zeroValue 3).run P w = .ok (Value.int IntKind.i64 0) w
  t4 : P.underlying 4 = some (TypeDesc.bool)
  a4 : ∀ w, (isAgg 4).run P w = .ok false w
  z4 : ∀ w, (Go.sizeOf 4).run P w = .ok 1 w
  v4 : ∀ w, (zeroValue 4).run P w = .ok (Value.bool false) w
  t22 : P.underlying 58 = some (TypeDesc.slice 62)
  a22 : ∀ w, (isAgg 58).run P w = .ok false w
  z22 : ∀ w, (Go.sizeOf 58).run P w = .ok 1 w
  v22 : ∀ w, (zeroValue 58).run P w = .ok (Value.slice none 0 0) w
  a25 : ∀ w, (isAgg 178).run P w = .ok false w
  z25 : ∀ w, (Go.sizeOf 178).run P w = .ok 1 w
  v25 : ∀ w, (zeroValue 178).run P w = .ok (Value.nilFunc) w
  aE : ∀ w, (isAgg 62).run P w = .ok true w
  zE : ∀ w, (Go.sizeOf 62).run P w = .ok 3 w
theorem ixWant_laid : IxWant Tryz.prog where
  fI := Tryz.func185
  fC := Tryz.func157
  t3 := Tryz.underlying3
  a3 := Tryz.isAgg3
  z3 := Tryz.sizeOf3
  v3 := Tryz.zeroValue3
  t4 := Tryz.underlying4
  a4 := Tryz.isAgg4
  z4 := Tryz.sizeOf4
  v4 := Tryz.zeroValue4
  t22 := Tryz.underlying58
  a22 := Tryz.isAgg58
  z22 := Tryz.sizeOf58
  v22 := Tryz.zeroValue58
  a25 := Tryz.isAgg178
  z25 := Tryz.sizeOf178
  v25 := Tryz.zeroValue178
  aE := Tryz.isAgg62
  zE := Tryz.sizeOf62
section
variable {P : Program}
set_option maxHeartbeats 1000000 in
theorem indexWant_any (L : IxWant P) (p : WantV → Bool) (fn : Nat) (cb : Array Value) (eg : ∀ args w, (callFunc fn args).run P w = .ok (.enter fn args) w) (B : Nat) (a : Option Addr) (n c : Nat) (X : List WantV) (w : World) (h : wantE.In B w a n c X) (hB : B ≤ w.heap.size)
    (hp : ∀ (W : World) (x : WantV), Below w.heap.size w W → wantE.ok x → Calls P fn (#[.agg #[encStr x.item, .int .i64 x.day, .int .i64 x.qty]] ++ cb) W fun e w' => e = .returned (.bool (p x)) ∧ Below W.heap.size W w') :
    Calls P 185 #[.slice a n c, .func (.func fn) #[] cb] w fun e w' => e = .returned (.int .i64 (idxI p X)) ∧ Below w.heap.size w w' := by
  generalize hr : idxI p X = r
  have HQ := Lib.hid hr
  clear hr
  have hle := h.le; have hmx := h.mx
  have Hln := Lib.hid h.len
  have H := Lib.hid h
  have HP := Lib.hid hp
  clear h hp
  have t3 := L.t3; have a3 := L.a3; have z3 := L.z3; have v3 := L.v3; have t4 := L.t4; have a4 := L.a4; have z4 := L.z4; have v4 := L.v4; have t22 := L.t22; have a22 := L.a22; have z22 := L.z22; have v22 := L.v22; have a25 := L.a25; have z25 := L.z25; have v25 := L.v25; have aE := L.aE; have zE := L.zE
  have u3 := run_underlying L.t3; have u4 := run_underlying L.t4; have u22 := run_underlying L.t22
  have FG := L.fI
  go_enter FG, Tryz.ntmps185
  go_wp2_with (fail)
  go_loopw [8] (fun i wr => ∃ j : Nat, j ≤ n ∧ i = .int .i64 j ∧ Hid (∀ k, k < j → p (X.getD k default) = false) ∧ Hid (Below w.heap.size w wr)) (fun i _ => n - (intOf i).toNat)
  case atStart => exact ⟨0, Nat.zero_le _, rfl, Lib.hid (fun k hk => absurd hk (Nat.not_lt_zero _)), Lib.hid (Below.refl _ _)⟩
  case round =>
    obtain ⟨j, hj, rfl, hno, Hb⟩ := hrel
    by_cases hlt : j < n
    · obtain ⟨b, o, rfl, -, hc⟩ := wantE_at (H.out.below (Hb.out.mono hB)) (by omega)
      obtain ⟨g0, g1, g2⟩ := hc j hlt
      have hok := H.out.ok_at hlt
      clear hc
      have HC := Lib.hid (HP.out wr (X.getD j default) Hb.out hok)
      clear hok
      cases hpx : p (X.getD j default) with
      | true =>
        have hX := Lib.hid (idxI_some (by rw [← Hln.out]; exact hlt) hno.out hpx)
        rw [hpx] at HC
        clear hpx
        generalize X.getD j default = x at g0 g1 g2 HC
        obtain ⟨x_item, x_day, x_qty⟩ := x
        simp only at g0 g1 g2 HC
        go_wp2_with (go_at_fn fn; refine HC.out.mono ?_; rintro e w9 ⟨rfl, hb9⟩)
        go_ret
        exact ⟨by rw [← HQ.out, hX.out]; rfl, Hb.out.trans (hb9.mono Hb.out.size)⟩
      | false =>
        have hX := Lib.hid (hpx)
        rw [hpx] at HC
        clear hpx
        have Hno := Lib.hid (idx_more hno.out hX.out)
        clear hX
        generalize X.getD j default = x at g0 g1 g2 HC
        obtain ⟨x_item, x_day, x_qty⟩ := x
        simp only at g0 g1 g2 HC
        go_wp2_with (go_at_fn fn; refine HC.out.mono ?_; rintro e w9 ⟨rfl, hb9⟩; have B9 := Lib.hid (Hb.out.trans (hb9.mono Hb.out.size)); clear hb9)
        go_roundw
        case rel => exact ⟨j + 1, by omega, by go_num, Hno, B9⟩
        case measure => simp [intOf]; omega
    · have hge : j = n := by omega
      have hnn := Lib.hid (idxI_none (by rw [← Hln.out, ← hge]; exact hno.out))
      go_wp2_with (fail)
      go_ret
      exact ⟨by rw [← HQ.out, hnn.out]; rfl, Hb.out⟩
theorem containsWant_any (L : IxWant P) (p : WantV → Bool) (fn : Nat) (cb : Array Value) (eg : ∀ args w, (callFunc fn args).run P w = .ok (.enter fn args) w) (B : Nat) (a : Option Addr) (n c : Nat) (X : List WantV) (w : World) (h : wantE.In B w a n c X) (hB : B ≤ w.heap.size)
    (hp : ∀ (W : World) (x : WantV), Below w.heap.size w W → wantE.ok x → Calls P fn (#[.agg #[encStr x.item, .int .i64 x.day, .int .i64 x.qty]] ++ cb) W fun e w' => e = .returned (.bool (p x)) ∧ Below W.heap.size W w') :
    Calls P 157 #[.slice a n c, .func (.func fn) #[] cb] w fun e w' => e = .returned (.bool (X.any p)) ∧ Below w.heap.size w w' := by
  have HI := Lib.hid (indexWant_any L p fn cb eg B a n c X w h hB hp)
  generalize hr : X.any p = r
  have HQ := Lib.hid hr
  clear hr
  clear h hB hp eg
  have t3 := L.t3; have a3 := L.a3; have z3 := L.z3; have v3 := L.v3; have t4 := L.t4; have a4 := L.a4; have z4 := L.z4; have v4 := L.v4; have t22 := L.t22; have a22 := L.a22; have z22 := L.z22; have v22 := L.v22; have a25 := L.a25; have z25 := L.z25; have v25 := L.v25; have aE := L.aE; have zE := L.zE
  have u3 := run_underlying L.t3; have u4 := run_underlying L.t4; have u22 := run_underlying L.t22
  have eI : ∀ args w, (callFunc 185 args).run P w = .ok (.enter 185 args) w := enters_of L.fI (by kernel_rfl) rfl
  have FG := L.fC
  cases r with
  | true =>
    have hz := (idxI_ge (p := p) (X := X)).2 HQ.out
    generalize idxI p X = z at HI hz
    go_enter FG, Tryz.ntmps157
    go_wp2_with (go_at_call 185; refine HI.out.mono ?_; rintro e w9 ⟨rfl, hb9⟩)
    go_ret
    exact ⟨by first | rfl | simp [*], hb9⟩
  | false =>
    have hz : ¬ 0 ≤ idxI p X := fun e => by have := (idxI_ge (p := p) (X := X)).1 e; rw [HQ.out] at this; cases this
    generalize idxI p X = z at HI hz
    go_enter FG, Tryz.ntmps157
    go_wp2_with (go_at_call 185; refine HI.out.mono ?_; rintro e w9 ⟨rfl, hb9⟩)
    go_ret
    exact ⟨by first | rfl | simp [*], hb9⟩
end
end Go.Proofs.YtbedbhlebfnohaaGreat
