/- What is in so many of an item in the end, by the program. What is told of items hangs on what they say, not on where they lie: plain Lean. The walk of storemanlaw07.great. -/
import Derived.Test.YthlmnoggeggpkaaGreatKPut
import Derived.Test.YthlmnoggeggpkaaGreatKLentI
import Derived.Test.YthlmnoggeggpkaaGreatKKeptIs
namespace Go.Proofs.YthlmnoggeggpkaaGreat
open Go.RowKit

/-- What is in so many of an item in the end. -/
def endL (X : List It) (c : List UInt8) (q : Int) : Option (List Pt) := putL X 8 [] c q
/-- The error that is told. -/
def partsE (X : List It) (c : List UInt8) (q : Int) : Int := if chkE X ≠ 0 then chkE X else if ¬ (1 ≤ q ∧ okA q = true) then 2 else if c ∉ codes X then 150 else match endL X c q with | none => 3 | some _ => 0
theorem Sound.hgt8 {X : List It} (h : Sound X) {c : List UInt8} (hc : c ∈ codes X) : hgt (kidsX X) 8 c = some (tellX X c) := by
  have h1 := h.rnd c hc
  have h2 := h.dp c hc
  unfold tellX at h1 h2 ⊢
  cases hh : hgt (kidsX X) X.length c with
  | none => rw [hh] at h1; exact absurd rfl h1
  | some d =>
    rw [hh] at h2
    exact hgt_mono h2 (hgt_fuel _ _ _ hh)
def putF (g : Nat) : Value := .func (.func 28) #[] #[.pointer (some ⟨g, 0, none⟩), .pointer (some ⟨g + 1, 0, none⟩), .pointer (some ⟨g + 1 + 1, 0, none⟩)]
def putW (w : World) (ma : Nat) (tf : TypeId) : World := ((w.alloc (.cells #[.map (some ma)] 54)).alloc (.cells #[.slice none 0 0] 26)).alloc (.cells #[putF w.heap.size] tf)
theorem put_start (tf : TypeId) {B ma n : Nat} {X : List It} {w : World} (hall : MF w ma n zItem (bookF X)) (hok : ∀ x ∈ X, ItOk B w x) (hB : B ≤ w.heap.size) :
    LP (putW w ma tf) w.heap.size (w.heap.size + 1) w.heap.size (w.heap.size + 1 + 1) ma n (putF w.heap.size) X none 0 [] ∧ Below w.heap.size w (putW w ma tf) ∧ (putW w ma tf).heap.size = w.heap.size + 3 := by
  obtain ⟨g, hg⟩ : ∃ g, g = w.heap.size := ⟨_, rfl⟩
  have hma := hall.lt
  unfold putW
  rw [← hg]
  obtain ⟨W1, h1⟩ : ∃ W, W = w.alloc (.cells #[.map (some ma)] 54) := ⟨_, rfl⟩
  have s1 : W1.heap.size = g + 1 := by rw [h1, World.size_alloc, hg]
  have a1 : W1.heap[g]? = some (.cells #[.map (some ma)] 54) := by rw [h1, hg]; exact heap_alloc_new _ _
  have b1 : Below g w W1 := by rw [h1, hg]; exact (Below.refl _ w).alloc (Nat.le_refl _) _
  rw [← h1]
  obtain ⟨W2, h2⟩ : ∃ W, W = W1.alloc (.cells #[.slice none 0 0] 26) := ⟨_, rfl⟩
  have s2 : W2.heap.size = g + 1 + 1 := by rw [h2, World.size_alloc, s1]
  have a2 : W2.heap[g + 1]? = some (.cells #[.slice none 0 0] 26) := by rw [h2, ← s1]; exact heap_alloc_new _ _
  have k2 : ∀ k, k < g + 1 → W2.heap[k]? = W1.heap[k]? := fun k hk => by rw [h2]; exact al_old _ _ (by rw [s1]; exact hk)
  have b2 : Below g w W2 := b1.trans (by rw [h2]; exact (Below.refl _ _).alloc (by rw [s1]; omega) _)
  rw [← h2]
  obtain ⟨W4, h4⟩ : ∃ W, W = W2.alloc (.cells #[putF g] tf) := ⟨_, rfl⟩
  have s4 : W4.heap.size = g + 3 := by rw [h4, World.size_alloc, s2]
  have a4 : W4.heap[g + 1 + 1]? = some (.cells #[putF g] tf) := by rw [h4, ← s2]; exact heap_alloc_new _ _
  have k4 : ∀ k, k < g + 1 + 1 → W4.heap[k]? = W2.heap[k]? := fun k hk => by rw [h4]; exact al_old _ _ (by rw [s2]; exact hk)
  have b4 : Below g w W4 := b2.trans (by rw [h4]; exact (Below.refl _ _).alloc (by rw [s2]; omega) _)
  rw [← h4]
  have b4' : Below w.heap.size w W4 := hg ▸ b4
  have f4 : W4.heap[g + 1]? = some (.cells #[.slice none 0 0] 26) := (k4 _ (by omega)).trans a2
  refine ⟨⟨one_at f4, by unfold World.frozen?; rw [f4]; simp, OP.nil _ _, one_at ((k4 _ (by omega)).trans ((k2 _ (by omega)).trans a1)), one_at a4, hall.below b4' hma, fun x hx => ((hok x hx).below (b4'.mono hB)).mono (by rw [hg]; exact hB), by omega, by omega, by omega, by omega, by omega, by omega, by omega⟩, b4, s4⟩

set_option maxHeartbeats 4000000 in
set_option maxRecDepth 100000 in
theorem Parts_any (B : Nat) (a : Option Addr) (n cp : Nat) (X : List It) (c : List UInt8) (q : Int) (w : World) (hr : RI B w a n cp X) (hB : B ≤ w.heap.size) (hc : c.length ≤ 9223372036854775807) (hq1 : -9223372036854775808 ≤ q) (hq2 : q ≤ 9223372036854775807) :
    Calls Tryz.prog 8 #[.slice a n cp, .string ⟨c.toArray⟩, .int .i64 q] w fun e w' => Below w.heap.size w w' ∧ ∃ v, e = .returned (.tuple #[v, .int .i64 (partsE X c q)]) ∧ (partsE X c q ≠ 0 → v = .slice none 0 0) ∧ (partsE X c q = 0 → ∃ a c' S, v = .slice a S.length c' ∧ endL X c q = some S ∧ PS X S ∧ OP w.heap.size w' v S) := by
  have HC := Lib.hid (check_any B a n cp X w hr hB)
  have HCL := Lib.hid hc
  have HR := Lib.hid (hr.mono hB)
  have hsf : ∀ (a : Addr) (f : Fn) (x y : Array Value) (W : World), (store a (.func f x y)).run Tryz.prog W = stored Tryz.prog W a (.func f x y) .plain := fun a f x y W => run_store Tryz.prog W a _ _ rfl
  have hfc := field_code
  clear hr hc
  go_enter Tryz.func8, Tryz.ntmps8
  go_wp2_with (fail)
  go_at_call 26
  refine HC.out.mono ?_
  rintro e w1 ⟨hb, am, dm, rfl, hnil, hok⟩
  have HB := Lib.hid hb
  clear hb
  by_cases h0 : chkE X = 0
  · obtain ⟨ma, mo, N, o, rfl, rfl, hma, -, -, -, -, -⟩ := hok h0
    have HS := Lib.hid (sound_of h0)
    have HMA := Lib.hid hma
    have H0 := Lib.hid h0
    have HB1 : Hid (Below w.heap.size w (w1.alloc (.cells #[.map (some ma)] 54))) := Lib.hid (HB.out.alloc HB.out.size _)
    rw [h0]
    clear h0 hok hma hnil
    by_cases hq : 1 ≤ q
    · have t1 : decide (q < 1) = false := by simp; omega
      by_cases hk : okA q = true
      · have hRight : ∀ w, Calls Tryz.prog 27 #[.int .i64 q] w fun e w' => e = .returned (.bool true) ∧ w = w' := fun w => by
          have := Right_any q w
          rw [hk] at this
          exact this
        have HQ := Lib.hid (And.intro hq hk)
        clear hq hk
        by_cases hcc : c ∈ codes X
        · have HCC := Lib.hid hcc
          have HE : Hid (partsE X c q = match endL X c q with | none => 3 | some _ => 0) := Lib.hid (by
            unfold partsE
            rw [if_neg (fun h => h H0.out), if_neg (fun h => h HQ.out), if_neg (fun h => h HCC.out)])
          obtain ⟨x, hx, hxm, hxc⟩ := itF_some hcc
          have hne := HS.out.ne x hxm
          have hlk := fun (W : World) (h : Below w1.heap.size w1 W) => (HMA.out.below h HMA.out.lt).look Tryz.underlying54 (zeroItem _) c HCL.out
          rw [book_at HS.out.nd hx] at hlk
          unfold It.val at hlk
          rw [hxc] at hlk
          have hlk1 := hlk (w1.alloc (.cells #[.map (some ma)] 54)) ((Below.refl _ w1).alloc (Nat.le_refl _) _)
          unfold encStr at hlk1
          rw [hxc] at hne
          obtain ⟨c1, c2, hcu⟩ : ∃ u v, c = u :: v := by
            cases c with
            | nil => exact absurd rfl hne
            | cons u v => exact ⟨u, v, rfl⟩
          clear hcc hx hxm hxc hlk hne
          subst hcu
          obtain ⟨hL0, hb0, hs0⟩ := put_start 59 HMA.out (HR.out.below HB.out).ok HB.out.size
          obtain ⟨W4, hW4⟩ : ∃ W, W = putW w1 ma 59 := ⟨_, rfl⟩
          have hW4' := hW4
          unfold putW putF at hW4'
          rw [← hW4] at hL0 hb0 hs0
          have HL0 := Lib.hid hL0
          have HB0 := Lib.hid hb0
          have HS0 := Lib.hid hs0
          have HW4 := Lib.hid hW4'
          clear hL0 hb0 hs0 hW4 hW4'
          go_wp2_with (fail)
          go_at_call 27
          refine (hRight _).mono ?_
          rintro e w9 ⟨rfl, rfl⟩
          go_upto_region 11 with (fail)
          rw [← HW4.out]
          obtain ⟨g, hg⟩ : ∃ g, g = w1.heap.size := ⟨_, rfl⟩
          rw [← hg] at HL0 HB0 HS0 ⊢
          have HG := Lib.hid hg
          clear hg HW4 hlk1
          have cl := HL0.out.cl
          unfold putF at cl
          have hcall := Lib.hid (put_any g (g + 1) g (g + 1 + 1) ma n (putF g) X rfl HS.out 8 [] none 0 (c1 :: c2) q W4 HL0.out (ps_of HS.out ⟨List.Pairwise.nil, fun p hp => by cases hp⟩ (fun p hp => by cases hp)) HCC.out ⟨_, HS.out.hgt8 HCC.out⟩ hq1 hq2)
          go_wp2_with (fail)
          go_at_call 28
          refine hcall.out.mono ?_
          rintro e w5 ⟨hgr, hpost⟩
          have hb5 : Below w.heap.size w w5 := HB.out.trans ((HG.out ▸ (HB0.out.grown hgr (by have := HS0.out; omega) (fun k e => by have := Option.some.inj e; omega)) : Below w1.heap.size w1 w5).mono HB.out.size)
          have HB5 := Lib.hid hb5
          have HEP : Hid (endL X (c1 :: c2) q = putL X 8 [] (c1 :: c2) q) := Lib.hid rfl
          cases hU : putL X 8 [] (c1 :: c2) q with
          | none =>
            rw [hU] at hpost HEP
            rw [HEP.out] at HE
            obtain rfl := hpost
            clear hU hgr hcall cl hb5
            go_wp2_with (fail)
            go_ret2
            rw [HE.out]
            exact ⟨HB5.out, _, rfl, fun _ => rfl, fun h => absurd h (by decide)⟩
          | some S =>
            rw [hU] at hpost HEP
            rw [HEP.out] at HE
            obtain ⟨rfl, hP3, a3, c3, hL3⟩ := hpost
            have ce3 := hL3.ce
            have HP3 := Lib.hid hP3
            have HO3 := Lib.hid (hL3.op.mono (show w.heap.size ≤ g + 1 + 1 by have := HB.out.size; have := HG.out; omega))
            clear hU hgr hcall cl hb5 hP3 hL3
            go_wp2_with (fail)
            go_ret2
            rw [HE.out]
            exact ⟨HB5.out, _, rfl, fun h => absurd rfl h, fun _ => ⟨a3, c3, S, rfl, HEP.out, HP3.out, HO3.out⟩⟩
        · have hbz : bookF X c = zItem := book_other hcc _
          have hlk := fun (W : World) (h : Below w1.heap.size w1 W) => (HMA.out.below h HMA.out.lt).look Tryz.underlying54 (zeroItem _) c HCL.out
          rw [hbz] at hlk
          unfold zItem at hlk
          have hlk1 := hlk (w1.alloc (.cells #[.map (some ma)] 54)) ((Below.refl _ w1).alloc (Nat.le_refl _) _)
          have HE : Hid (partsE X c q = 150) := Lib.hid (by
            unfold partsE
            rw [if_neg (fun h => h H0.out), if_neg (fun h => h HQ.out), if_pos hcc])
          clear hbz hlk hcc
          cases c with
          | nil =>
            go_wp2_with (fail)
            go_at_call 27
            refine (hRight _).mono ?_
            rintro e w9 ⟨rfl, rfl⟩
            go_wp2_with (fail)
            go_ret2
            rw [HE.out]
            exact ⟨HB1.out, _, rfl, fun _ => rfl, fun h => absurd h (by decide)⟩
          | cons c1 c2 =>
            go_wp2_with (fail)
            go_at_call 27
            refine (hRight _).mono ?_
            rintro e w9 ⟨rfl, rfl⟩
            go_wp2_with (fail)
            go_ret2
            rw [HE.out]
            exact ⟨HB1.out, _, rfl, fun _ => rfl, fun h => absurd h (by decide)⟩
      · have hkf : okA q = false := by cases h : okA q with | true => exact absurd h hk | false => rfl
        have hRight : ∀ w, Calls Tryz.prog 27 #[.int .i64 q] w fun e w' => e = .returned (.bool false) ∧ w = w' := fun w => by
          have := Right_any q w
          rw [hkf] at this
          exact this
        have HE : Hid (partsE X c q = 2) := Lib.hid (by
          unfold partsE
          rw [if_neg (fun h => h H0.out), if_pos (fun h => hk h.2)])
        clear hq hk hkf
        go_wp2_with (fail)
        go_at_call 27
        refine (hRight _).mono ?_
        rintro e w9 ⟨rfl, rfl⟩
        go_wp2_with (fail)
        go_ret2
        rw [HE.out]
        exact ⟨HB1.out, _, rfl, fun _ => rfl, fun h => absurd h (by decide)⟩
    · have t1 : decide (q < 1) = true := by simp; omega
      have HE : Hid (partsE X c q = 2) := Lib.hid (by
        unfold partsE
        rw [if_neg (fun h => h H0.out), if_pos (fun h => hq h.1)])
      clear hq
      go_wp2_with (fail)
      go_ret2
      rw [HE.out]
      exact ⟨HB1.out, _, rfl, fun _ => rfl, fun h => absurd h (by decide)⟩
  · obtain ⟨rfl, rfl⟩ := hnil h0
    have HE : Hid (partsE X c q = chkE X) := Lib.hid (by
      unfold partsE
      rw [if_pos h0])
    obtain ⟨r, hr⟩ : ∃ r, r = chkE X := ⟨_, rfl⟩
    have H0 := Lib.hid h0
    rw [← hr] at h0 H0 HE ⊢
    have e1 : (r != 0) = true := by simpa using h0
    have e2 : (r == 0) = false := by simpa using h0
    have HB1 : Hid (Below w.heap.size w (w1.alloc (.cells #[.map none] 54))) := Lib.hid (HB.out.alloc HB.out.size _)
    clear h0 hr hok
    go_wp2_with (fail)
    go_ret2
    rw [HE.out]
    exact ⟨HB1.out, _, rfl, fun _ => rfl, fun h => absurd h H0.out⟩
end Go.Proofs.YthlmnoggeggpkaaGreat
namespace Go.Proofs.YthlmnoggeggpkaaGreat
open Go.RowKit

/-- What an item says. -/
def strip (x : It) : It := ⟨x.code, x.life, none, 0, x.ps, none, 0, x.os⟩
theorem getD_strip (X : List It) (i : Nat) : (X.map strip).getD i default = strip (X.getD i default) := by
  rw [List.getD_eq_getElem?_getD, List.getD_eq_getElem?_getD, List.getElem?_map]
  cases X[i]? <;> rfl
theorem cd_strip (X : List It) (i : Nat) : cd (X.map strip) i = cd X i := by unfold cd; rw [getD_strip]; rfl
theorem codes_strip (X : List It) : codes (X.map strip) = codes X := by
  unfold codes
  rw [List.map_map]; rfl
theorem itF_strip (X : List It) (c : List UInt8) : itF (X.map strip) c = (itF X c).map strip := by
  unfold itF
  rw [List.find?_map]
  rfl
theorem partsX_strip (X : List It) (c : List UInt8) : partsX (X.map strip) c = partsX X c := by
  unfold partsX
  rw [itF_strip]
  cases itF X c <;> rfl
theorem kidsX_strip (X : List It) : kidsX (X.map strip) = kidsX X := by
  funext c
  rw [kids_parts, kids_parts, partsX_strip]
theorem tellX_strip (X : List It) (c : List UInt8) : tellX (X.map strip) c = tellX X c := by
  unfold tellX
  rw [kidsX_strip, List.length_map]
theorem okIt_strip (X : List It) (i : Nat) : okIt (X.map strip) i = okIt X i := by
  unfold okIt
  rw [cd_strip, cd_strip, getD_strip]
  rfl
theorem chkE_strip (X : List It) : chkE (X.map strip) = chkE X := by
  have h1 : allOk (X.map strip) = allOk X := by unfold allOk; simp only [okIt_strip, List.length_map]
  have h2 : found (X.map strip) = found X := by
    unfold found
    simp only [getD_strip, List.length_map, codes_strip]
    rfl
  have h3 : roundX (X.map strip) = roundX X := by unfold roundX; simp only [tellX_strip, cd_strip, List.length_map]
  have h4 : tooDeep (X.map strip) = tooDeep X := by unfold tooDeep; simp only [tellX_strip, cd_strip, List.length_map]
  unfold chkE
  rw [h1, h2, h3, h4, List.length_map]
theorem deepX_strip (X : List It) (c : List UInt8) : deepX (X.map strip) c = deepX X c := by
  unfold deepX
  rw [chkE_strip, codes_strip, tellX_strip]
theorem putL_strip (X : List It) : ∀ (k : Nat) (S : List Pt) (c : List UInt8) (q : Int), putL (X.map strip) k S c q = putL X k S c q
  | 0, _, _, _ => rfl
  | k + 1, S, c, q => by
    have h : putL (X.map strip) k = putL X k := by funext S c q; exact putL_strip X k S c q
    unfold putL
    rw [partsX_strip, h]
theorem endL_strip (X : List It) (c : List UInt8) (q : Int) : endL (X.map strip) c q = endL X c q := putL_strip X 8 [] c q
/-- Like lists. -/
theorem strip_like {X Y : List It} (hl : Y.length = X.length) (h : ∀ i, i < X.length → LikeI (Y.getD i default) (X.getD i default)) : Y.map strip = X.map strip := by
  apply List.ext_getElem (by rw [List.length_map, List.length_map, hl])
  intro i h1 h2
  rw [List.length_map] at h1 h2
  have := h i h2
  rw [List.getD_eq_getElem?_getD, List.getElem?_eq_getElem h1, List.getD_eq_getElem?_getD, List.getElem?_eq_getElem h2] at this
  obtain ⟨e1, e2, e3, e4⟩ := this
  simp only [Option.getD_some] at e1 e2 e3 e4
  rw [List.getElem_map, List.getElem_map]
  unfold strip
  rw [e1, e2, e3, e4]
theorem chkE_like {X Y : List It} (hl : Y.length = X.length) (h : ∀ i, i < X.length → LikeI (Y.getD i default) (X.getD i default)) : chkE Y = chkE X := by
  rw [← chkE_strip Y, strip_like hl h, chkE_strip]
end Go.Proofs.YthlmnoggeggpkaaGreat
namespace Go.Proofs.YthlmnoggeggpkaaGreat
open Go.RowKit

/-- No list, and no text in it, is longer than a machine holds. -/
def LowI (X : List It) : Prop := ∀ i, i < X.length → (X.getD i default).code.length ≤ 140737488355328 ∧ (X.getD i default).ps.length ≤ 140737488355328 ∧ (X.getD i default).os.length ≤ 140737488355328 ∧ ∀ p ∈ (X.getD i default).ps, p.1.length ≤ 140737488355328
/-- The items so far are counted. -/
def CountI (X : List It) (i N : Nat) : Prop := ∀ k, k < i → (X.getD k default).ps.length ≤ N ∧ (X.getD k default).os.length ≤ N
theorem CountI.mono {X : List It} {i N M : Nat} (h : CountI X i N) (hm : N ≤ M) : CountI X i M := fun k hk => ⟨Nat.le_trans (h k hk).1 hm, Nat.le_trans (h k hk).2 hm⟩
theorem CountI.step {X : List It} {i N M : Nat} (h : CountI X i N) (hm : N + (X.getD i default).ps.length + (X.getD i default).os.length ≤ M) : CountI X (i + 1) M := fun k hk => by
  rcases Nat.lt_or_ge k i with h1 | h1
  · exact (h.mono (by omega)) k h1
  · obtain rfl : k = i := by omega
    omega

set_option maxHeartbeats 4000000 in
set_option maxRecDepth 100000 in
theorem great_any (B : Nat) (a : Option Addr) (n c : Nat) (X : List It) (w : World) (hr : RI B w a n c X) (hlow : LowI X) :
    Calls Tryz.prog 5 #[.slice a n c] w fun e w' => (∃ gr, e = .returned (.bool gr) ∧ (gr = false → n ≤ 70 ∧ CountI X n 4000)) ∧ ∃ q, w' = w.drewN q := by
  have hle := hr.le
  have hmx := hr.mx
  have HR := Lib.hid hr
  have Hln := Lib.hid hr.len
  have HL := Lib.hid hlow
  clear hr hlow
  go_enter Tryz.func5, Tryz.ntmps5
  go_wp2_with (fail)
  go_loopw [3, 4] (fun s t wr => ∃ (N i : Nat), s = .int .i64 N ∧ t = .int .i64 i ∧ i ≤ n ∧ N ≤ 1000000000000000 ∧ Hid (CountI X i N) ∧ ∃ q, wr = w.drewN q) (fun _ t _ => n - (intOf t).toNat)
  case atStart => exact ⟨0, 0, rfl, rfl, by omega, by omega, Lib.hid (fun k hk => absurd hk (Nat.not_lt_zero _)), 0, rfl⟩
  case round =>
    obtain ⟨N, i, rfl, rfl, hi, hN, ht, q, rfl⟩ := hrel
    by_cases hin : i < n
    · by_cases h3 : N ≤ 4000
      · obtain ⟨b, o, rfl, hbB, hc⟩ := HR.out.at_ (by omega)
        obtain ⟨g1, g2, g3, g4⟩ := hc i hin
        obtain ⟨l1, l2, l3, l4⟩ := HL.out i (by have := Hln.out; omega)
        have hst := fun M => ht.out.step (M := M)
        have hxm : X.getD i default ∈ X := by
          rw [List.getD_eq_getElem?_getD, List.getElem?_eq_getElem (by rw [← Hln.out]; exact hin)]; exact List.getElem_mem _
        have hxo := (HR.out.ok _ hxm).rp
        clear hc hxm
        generalize X.getD i default = x at g1 g2 g3 g4 l1 l2 l3 l4 hst hxo
        have HP := Lib.hid hxo
        have Hl4 := Lib.hid l4
        have HST := Lib.hid hst
        have hpmx := hxo.mx
        have hple := hxo.le
        unfold encStr at g1
        obtain ⟨np, hnp⟩ : ∃ k, k = x.ps.length := ⟨_, rfl⟩
        obtain ⟨no, hno⟩ : ∃ k, k = x.os.length := ⟨_, rfl⟩
        have HNP := Lib.hid hnp
        rw [← hnp] at g3 l2 HST hple HP
        rw [← hno] at g4 l3 HST
        have hq : Int.tdiv (x.code.length : Int) 20 = ((x.code.length / 20 : Nat) : Int) := by
          rw [Int.tdiv_eq_ediv_of_nonneg (by omega)]; omega
        have hqn : x.code.length / 20 ≤ 7036874417767 := by omega
        have hwq := wrap_in (x := ((x.code.length / 20 : Nat) : Int)) (by omega) (by omega)
        generalize x.code.length / 20 = d at hq hqn hwq
        have hw1 := wrap_in (x := (N : Int) + 1) (by omega) (by omega)
        have hw2 := wrap_in (x := (N : Int) + 1 + (d : Int)) (by omega) (by omega)
        have hw3 := wrap_in (x := (N : Int) + 1 + (d : Int) + (np : Int)) (by omega) (by omega)
        have hw4 := wrap_in (x := (N : Int) + 1 + (d : Int) + (np : Int) + (no : Int)) (by omega) (by omega)
        clear hxo l4 hst hnp hno
        go_wp2_with (fail)
        go_quiet (fail)
        go_wp2_with (fail)
        go_loopw [3, 5] (fun s t wr => ∃ (M k : Nat), s = .int .i64 M ∧ t = .int .i64 k ∧ k ≤ np ∧ M ≤ 1000000000000000 ∧ N + np + no ≤ M ∧ ∃ q, wr = w.drewN q) (fun _ t _ => np - (intOf t).toNat)
        case atStart => exact ⟨N + 1 + d + np + no, 0, by simp, rfl, by omega, by omega, by omega, _, World.drewN_drewN _ _ _⟩
        case round =>
          obtain ⟨M, k, rfl, rfl, hk, hM, hMN, q2, rfl⟩ := hrel
          by_cases hkn : k < np
          · by_cases h4 : M ≤ 4000
            · obtain ⟨b2, o2, hpa, -, hc2⟩ := HP.out.at_ (by omega)
              rw [hpa] at g3 ⊢
              obtain ⟨k1, -⟩ := hc2 k hkn
              have hx := Hl4.out (x.ps.getD k default) (by rw [List.getD_eq_getElem?_getD, List.getElem?_eq_getElem (by have := HNP.out; omega)]; exact List.getElem_mem (by have := HNP.out; omega))
              clear hc2
              generalize (x.ps.getD k default).1 = t at k1 hx
              unfold encStr at k1
              have hq5 : Int.tdiv (t.length : Int) 20 = ((t.length / 20 : Nat) : Int) := by
                rw [Int.tdiv_eq_ediv_of_nonneg (by omega)]; omega
              have hqn5 : t.length / 20 ≤ 7036874417767 := by omega
              have hwq5 := wrap_in (x := ((t.length / 20 : Nat) : Int)) (by omega) (by omega)
              generalize t.length / 20 = d2 at hq5 hqn5 hwq5
              have hw5 := wrap_in (x := (M : Int) + (d2 : Int)) (by omega) (by omega)
              go_wp2_with (fail)
              go_roundw
              case rel => exact ⟨M + d2, k + 1, by simp, by simp, by omega, by omega, by omega, _, rfl⟩
              case measure => simp [intOf]; omega
            · have H5 := Lib.hid (HST.out M (by omega))
              go_wp2_with (fail)
              go_roundw
              case rel => exact ⟨M, i + 1, rfl, by simp, by omega, hM, H5, _, rfl⟩
              case measure => simp [intOf]; omega
          · have H5 := Lib.hid (HST.out M (by omega))
            go_wp2_with (fail)
            go_roundw
            case rel => exact ⟨M, i + 1, rfl, by simp, by omega, hM, H5, _, rfl⟩
            case measure => simp [intOf]; omega
      · go_wp2_with (fail)
        go_ret
        exact ⟨⟨true, rfl, fun h => by cases h⟩, _, rfl⟩
    · by_cases h3 : N ≤ 4000
      · by_cases h4 : 70 < n
        · go_wp2_with (fail)
          go_ret
          exact ⟨⟨true, by show Ending.returned (.bool (decide ((4000 : Int) < (N : Int)) || decide ((70 : Int) < (n : Int)))) = _; rw [decide_eq_true (p := (70 : Int) < (n : Int)) (by omega), Bool.or_true], fun h => by cases h⟩, _, rfl⟩
        · have H6 := Lib.hid (show CountI X n 4000 from (show i = n by omega) ▸ ht.out.mono h3)
          go_wp2_with (fail)
          go_ret
          exact ⟨⟨false, by show Ending.returned (.bool (decide ((4000 : Int) < (N : Int)) || decide ((70 : Int) < (n : Int)))) = _; rw [decide_eq_false (p := (70 : Int) < (n : Int)) (by omega), decide_eq_false (p := (4000 : Int) < (N : Int)) (by omega), Bool.or_false], fun _ => ⟨by omega, H6.out⟩⟩, _, rfl⟩
      · go_wp2_with (fail)
        go_ret
        first | exact ⟨⟨true, rfl, fun h => by cases h⟩, _, rfl⟩ | exact ⟨Or.inr rfl, _, rfl⟩
end Go.Proofs.YthlmnoggeggpkaaGreat
