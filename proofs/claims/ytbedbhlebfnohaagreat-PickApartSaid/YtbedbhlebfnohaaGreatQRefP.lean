/- What is in so many of an item in the end, by the program. What pick answers: plain Lean; the line that the document finds. pick.Pick: the end of its walk. (Printed by gen/pk.py.) pick.Pick: what is taken of each lot, as a map. (Printed by gen/pk.py.) The document's filling, step by step: plain Lean, and what lies in memory. -/
import Derived.Test.YtbedbhlebfnohaaGreatKPut
import Derived.Test.YtbedbhlebfnohaaGreatQDel
import Derived.Test.YtbedbhlebfnohaaGreatSteps
import Derived.Test.YtbedbhlebfnohaaGreatQTurn
import Derived.Test.YtbedbhlebfnohaaGreatQTog
import Derived.Test.YtbedbhlebfnohaaGreatQWin
import Derived.Test.YtbedbhlebfnohaaGreatKDepths
import Derived.Test.YtbedbhlebfnohaaGreatQFillQ
namespace Go.Proofs.YtbedbhlebfnohaaGreat
open Go.RowKit

def endL (X : List It) (c : List UInt8) (q : Int) : Option (List Pt) := putL X 8 [] c q
def partsE (X : List It) (c : List UInt8) (q : Int) : Int := if chkE X ≠ 0 then chkE X else if ¬ (1 ≤ q ∧ okA q = true) then 2 else if c ∉ codes X then 150 else match endL X c q with | none => 3 | some _ => 0
theorem Sound.hgt8 {X : List It} (h : Sound X) {c : List UInt8} (hc : c ∈ codes X) : hgt (kidsX X) 8 c = some (tellX X c) := by
  have h1 := h.rnd c hc
  have h2 := h.dp c hc
  unfold tellX at h1 h2 ⊢
  cases hh : hgt (kidsX X) X.length c with
  | none => rw [hh] at h1; exact absurd rfl h1
  | some d =>
    rw [hh] at h2
    exact hgt_mono h2 (hgt_fuel _ _ _ hh)
def putF (g : Nat) : Value := .func (.func 50) #[] #[.pointer (some ⟨g, 0, none⟩), .pointer (some ⟨g + 1, 0, none⟩), .pointer (some ⟨g + 1 + 1, 0, none⟩)]
def putW (w : World) (ma : Nat) (tf : TypeId) : World := ((w.alloc (.cells #[.map (some ma)] 110)).alloc (.cells #[.slice none 0 0] 55)).alloc (.cells #[putF w.heap.size] tf)
theorem put_start (tf : TypeId) {B ma n : Nat} {X : List It} {w : World} (hall : MF w ma n zItem (bookF X)) (hok : ∀ x ∈ X, ItOk B w x) (hB : B ≤ w.heap.size) :
    LP (putW w ma tf) w.heap.size (w.heap.size + 1) w.heap.size (w.heap.size + 1 + 1) ma n (putF w.heap.size) X none 0 [] ∧ Below w.heap.size w (putW w ma tf) ∧ (putW w ma tf).heap.size = w.heap.size + 3 := by
  obtain ⟨g, hg⟩ : ∃ g, g = w.heap.size := ⟨_, rfl⟩
  have hma := hall.lt
  unfold putW
  rw [← hg]
  obtain ⟨W1, h1⟩ : ∃ W, W = w.alloc (.cells #[.map (some ma)] 110) := ⟨_, rfl⟩
  have s1 : W1.heap.size = g + 1 := by rw [h1, World.size_alloc, hg]
  have a1 : W1.heap[g]? = some (.cells #[.map (some ma)] 110) := by rw [h1, hg]; exact heap_alloc_new _ _
  have b1 : Below g w W1 := by rw [h1, hg]; exact (Below.refl _ w).alloc (Nat.le_refl _) _
  rw [← h1]
  obtain ⟨W2, h2⟩ : ∃ W, W = W1.alloc (.cells #[.slice none 0 0] 55) := ⟨_, rfl⟩
  have s2 : W2.heap.size = g + 1 + 1 := by rw [h2, World.size_alloc, s1]
  have a2 : W2.heap[g + 1]? = some (.cells #[.slice none 0 0] 55) := by rw [h2, ← s1]; exact heap_alloc_new _ _
  have k2 : ∀ k, k < g + 1 → W2.heap[k]? = W1.heap[k]? := fun k hk => by rw [h2]; exact al_old _ _ (by rw [s1]; exact hk)
  have b2 : Below g w W2 := b1.trans (by rw [h2]; exact (Below.refl _ _).alloc (by rw [s1]; omega) _)
  rw [← h2]
  obtain ⟨W4, h4⟩ : ∃ W, W = W2.alloc (.cells #[putF g] tf) := ⟨_, rfl⟩
  have s4 : W4.heap.size = g + 3 := by rw [h4, World.size_alloc, s2]
  have a4 : W4.heap[g + 1 + 1]? = some (.cells #[putF g] tf) := by rw [h4, ← s2]; exact heap_alloc_new _ _
  have k4 : ∀ k, k < g + 1 + 1 → W4.heap[k]? = W2.heap[k]? := fun k hk => by rw [h4]; exact al_old _ _ (by rw [s2]; exact hk)
  have b4 : Below g w W4 := b2.trans (by rw [h4]; exact (Below.refl _ _).alloc (by rw [s2]; omega) _)
  rw [← h4]
  have b4' : Below w.heap.size w W4 := hg ▸ b4
  have f4 : W4.heap[g + 1]? = some (.cells #[.slice none 0 0] 55) := (k4 _ (by omega)).trans a2
  refine ⟨⟨one_at f4, by unfold World.frozen?; rw [f4]; simp, OP.nil _ _, one_at ((k4 _ (by omega)).trans ((k2 _ (by omega)).trans a1)), one_at a4, hall.below b4' hma, fun x hx => ((hok x hx).below (b4'.mono hB)).mono (by rw [hg]; exact hB), by omega, by omega, by omega, by omega, by omega, by omega, by omega⟩, b4, s4⟩

set_option maxHeartbeats 4000000 in
set_option maxRecDepth 100000 in
theorem Parts_any (B : Nat) (a : Option Addr) (n cp : Nat) (X : List It) (c : List UInt8) (q : Int) (w : World) (hr : RI B w a n cp X) (hB : B ≤ w.heap.size) (hc : c.length ≤ 9223372036854775807) (hq1 : -9223372036854775808 ≤ q) (hq2 : q ≤ 9223372036854775807) :
    Calls Tryz.prog 20 #[.slice a n cp, .string ⟨c.toArray⟩, .int .i64 q] w fun e w' => Below w.heap.size w w' ∧ ∃ v, e = .returned (.tuple #[v, .int .i64 (partsE X c q)]) ∧ (partsE X c q ≠ 0 → v = .slice none 0 0) ∧ (partsE X c q = 0 → ∃ a c' S, v = .slice a S.length c' ∧ endL X c q = some S ∧ PS X S ∧ OP w.heap.size w' v S) := by
  have HC := Lib.hid (check_any B a n cp X w hr hB)
  have HCL := Lib.hid hc
  have HR := Lib.hid (hr.mono hB)
  have hsf : ∀ (a : Addr) (f : Fn) (x y : Array Value) (W : World), (store a (.func f x y)).run Tryz.prog W = stored Tryz.prog W a (.func f x y) .plain := fun a f x y W => run_store Tryz.prog W a _ _ rfl
  have hfc := field_code
  clear hr hc
  go_enter Tryz.func20, Tryz.ntmps20
  go_wp2_with (fail)
  go_at_call 48
  refine HC.out.mono ?_
  rintro e w1 ⟨hb, am, dm, rfl, hnil, hok⟩
  have HB := Lib.hid hb
  clear hb
  by_cases h0 : chkE X = 0
  · obtain ⟨ma, mo, N, o, rfl, rfl, hma, -, -, -, -, -⟩ := hok h0
    have HS := Lib.hid (sound_of h0)
    have HMA := Lib.hid hma
    have H0 := Lib.hid h0
    have HB1 : Hid (Below w.heap.size w (w1.alloc (.cells #[.map (some ma)] 110))) := Lib.hid (HB.out.alloc HB.out.size _)
    rw [h0]
    clear h0 hok hma hnil
    by_cases hq : 1 ≤ q
    · have t1 : decide (q < 1) = false := by simp; omega
      by_cases hk : okA q = true
      · have hRight : ∀ w, Calls Tryz.prog 49 #[.int .i64 q] w fun e w' => e = .returned (.bool true) ∧ w = w' := fun w => by
          have := Right_any q w
          rw [hk] at this
          exact this
        have HQ := Lib.hid (And.intro hq hk)
        clear hq hk
        by_cases hcc : c ∈ codes X
        · have HCC := Lib.hid hcc
          have HE : Hid (partsE X c q = match endL X c q with | none => 3 | some _ => 0) := Lib.hid (by
            unfold partsE
            rw [if_neg (fun h => h H0.out), if_neg (fun h => h HQ.out), if_neg (fun h => h HCC.out)])
          obtain ⟨x, hx, hxm, hxc⟩ := itF_some hcc
          have hne := HS.out.ne x hxm
          have hlk := fun (W : World) (h : Below w1.heap.size w1 W) => (HMA.out.below h HMA.out.lt).look Tryz.underlying110 (zeroItem _) c HCL.out
          rw [book_at HS.out.nd hx] at hlk
          unfold It.val at hlk
          rw [hxc] at hlk
          have hlk1 := hlk (w1.alloc (.cells #[.map (some ma)] 110)) ((Below.refl _ w1).alloc (Nat.le_refl _) _)
          unfold encStr at hlk1
          rw [hxc] at hne
          obtain ⟨c1, c2, hcu⟩ : ∃ u v, c = u :: v := by
            cases c with
            | nil => exact absurd rfl hne
            | cons u v => exact ⟨u, v, rfl⟩
          clear hcc hx hxm hxc hlk hne
          subst hcu
          obtain ⟨hL0, hb0, hs0⟩ := put_start 115 HMA.out (HR.out.below HB.out).ok HB.out.size
          obtain ⟨W4, hW4⟩ : ∃ W, W = putW w1 ma 115 := ⟨_, rfl⟩
          have hW4' := hW4
          unfold putW putF at hW4'
          rw [← hW4] at hL0 hb0 hs0
          have HL0 := Lib.hid hL0
          have HB0 := Lib.hid hb0
          have HS0 := Lib.hid hs0
          have HW4 := Lib.hid hW4'
          clear hL0 hb0 hs0 hW4 hW4'
          go_wp2_with (fail)
          go_at_call 49
          refine (hRight _).mono ?_
          rintro e w9 ⟨rfl, rfl⟩
          go_upto_region 11 with (fail)
          rw [← HW4.out]
          obtain ⟨g, hg⟩ : ∃ g, g = w1.heap.size := ⟨_, rfl⟩
          rw [← hg] at HL0 HB0 HS0 ⊢
          have HG := Lib.hid hg
          clear hg HW4 hlk1
          have cl := HL0.out.cl
          unfold putF at cl
          have hcall := Lib.hid (put_any g (g + 1) g (g + 1 + 1) ma n (putF g) X rfl HS.out 8 [] none 0 (c1 :: c2) q W4 HL0.out (ps_of HS.out ⟨List.Pairwise.nil, fun p hp => by cases hp⟩ (fun p hp => by cases hp)) HCC.out ⟨_, HS.out.hgt8 HCC.out⟩ hq1 hq2)
          go_wp2_with (fail)
          go_at_call 50
          refine hcall.out.mono ?_
          rintro e w5 ⟨hgr, hpost⟩
          have hb5 : Below w.heap.size w w5 := HB.out.trans ((HG.out ▸ (HB0.out.grown hgr (by have := HS0.out; omega) (fun k e => by have := Option.some.inj e; omega)) : Below w1.heap.size w1 w5).mono HB.out.size)
          have HB5 := Lib.hid hb5
          have HEP : Hid (endL X (c1 :: c2) q = putL X 8 [] (c1 :: c2) q) := Lib.hid rfl
          cases hU : putL X 8 [] (c1 :: c2) q with
          | none =>
            rw [hU] at hpost HEP
            rw [HEP.out] at HE
            obtain rfl := hpost
            clear hU hgr hcall cl hb5
            go_wp2_with (fail)
            go_ret2
            rw [HE.out]
            exact ⟨HB5.out, _, rfl, fun _ => rfl, fun h => absurd h (by decide)⟩
          | some S =>
            rw [hU] at hpost HEP
            rw [HEP.out] at HE
            obtain ⟨rfl, hP3, a3, c3, hL3⟩ := hpost
            have ce3 := hL3.ce
            have HP3 := Lib.hid hP3
            have HO3 := Lib.hid (hL3.op.mono (show w.heap.size ≤ g + 1 + 1 by have := HB.out.size; have := HG.out; omega))
            clear hU hgr hcall cl hb5 hP3 hL3
            go_wp2_with (fail)
            go_ret2
            rw [HE.out]
            exact ⟨HB5.out, _, rfl, fun h => absurd rfl h, fun _ => ⟨a3, c3, S, rfl, HEP.out, HP3.out, HO3.out⟩⟩
        · have hbz : bookF X c = zItem := book_other hcc _
          have hlk := fun (W : World) (h : Below w1.heap.size w1 W) => (HMA.out.below h HMA.out.lt).look Tryz.underlying110 (zeroItem _) c HCL.out
          rw [hbz] at hlk
          unfold zItem at hlk
          have hlk1 := hlk (w1.alloc (.cells #[.map (some ma)] 110)) ((Below.refl _ w1).alloc (Nat.le_refl _) _)
          have HE : Hid (partsE X c q = 150) := Lib.hid (by
            unfold partsE
            rw [if_neg (fun h => h H0.out), if_neg (fun h => h HQ.out), if_pos hcc])
          clear hbz hlk hcc
          cases c with
          | nil =>
            go_wp2_with (fail)
            go_at_call 49
            refine (hRight _).mono ?_
            rintro e w9 ⟨rfl, rfl⟩
            go_wp2_with (fail)
            go_ret2
            rw [HE.out]
            exact ⟨HB1.out, _, rfl, fun _ => rfl, fun h => absurd h (by decide)⟩
          | cons c1 c2 =>
            go_wp2_with (fail)
            go_at_call 49
            refine (hRight _).mono ?_
            rintro e w9 ⟨rfl, rfl⟩
            go_wp2_with (fail)
            go_ret2
            rw [HE.out]
            exact ⟨HB1.out, _, rfl, fun _ => rfl, fun h => absurd h (by decide)⟩
      · have hkf : okA q = false := by cases h : okA q with | true => exact absurd h hk | false => rfl
        have hRight : ∀ w, Calls Tryz.prog 49 #[.int .i64 q] w fun e w' => e = .returned (.bool false) ∧ w = w' := fun w => by
          have := Right_any q w
          rw [hkf] at this
          exact this
        have HE : Hid (partsE X c q = 2) := Lib.hid (by
          unfold partsE
          rw [if_neg (fun h => h H0.out), if_pos (fun h => hk h.2)])
        clear hq hk hkf
        go_wp2_with (fail)
        go_at_call 49
        refine (hRight _).mono ?_
        rintro e w9 ⟨rfl, rfl⟩
        go_wp2_with (fail)
        go_ret2
        rw [HE.out]
        exact ⟨HB1.out, _, rfl, fun _ => rfl, fun h => absurd h (by decide)⟩
    · have t1 : decide (q < 1) = true := by simp; omega
      have HE : Hid (partsE X c q = 2) := Lib.hid (by
        unfold partsE
        rw [if_neg (fun h => h H0.out), if_pos (fun h => hq h.1)])
      clear hq
      go_wp2_with (fail)
      go_ret2
      rw [HE.out]
      exact ⟨HB1.out, _, rfl, fun _ => rfl, fun h => absurd h (by decide)⟩
  · obtain ⟨rfl, rfl⟩ := hnil h0
    have HE : Hid (partsE X c q = chkE X) := Lib.hid (by
      unfold partsE
      rw [if_pos h0])
    obtain ⟨r, hr⟩ : ∃ r, r = chkE X := ⟨_, rfl⟩
    have H0 := Lib.hid h0
    rw [← hr] at h0 H0 HE ⊢
    have e1 : (r != 0) = true := by simpa using h0
    have e2 : (r == 0) = false := by simpa using h0
    have HB1 : Hid (Below w.heap.size w (w1.alloc (.cells #[.map none] 110))) := Lib.hid (HB.out.alloc HB.out.size _)
    clear h0 hr hok
    go_wp2_with (fail)
    go_ret2
    rw [HE.out]
    exact ⟨HB1.out, _, rfl, fun _ => rfl, fun h => absurd h H0.out⟩
end Go.Proofs.YtbedbhlebfnohaaGreat
namespace Go.Proofs.YtbedbhlebfnohaaGreat
open Go.RowKit

def wantsX (now : Int) (S : List Pt) : List WantV := S.map fun p => ⟨p.1, now, p.2⟩
def pickX (now : Int) (X : List It) (L : List LotV) (N : List LineV) (id : Int) : Except Int (List LotV × List LineV × List UseV) :=
  if (lineX N id).2 = false then .error 157
  else if (N.getD (lineX N id).1.toNat default).day ≠ now then .error 158
  else if partsE X (N.getD (lineX N id).1.toNat default).code (N.getD (lineX N id).1.toNat default).qty ≠ 0 then .error 159
  else match fillX (hereL L) (wantsX now ((endL X (N.getD (lineX N id).1.toNat default).code (N.getD (lineX N id).1.toNat default).qty).getD [])) with
    | none => .error 159
    | some (U, _) => .ok (leftL (usum U) L, N.set (lineX N id).1.toNat { N.getD (lineX N id).1.toNat default with st := 2 }, U)
end Go.Proofs.YtbedbhlebfnohaaGreat
namespace Go.Proofs.YtbedbhlebfnohaaGreat
open Go.RowKit Go.Sort Go.Lib Go.Shelf

theorem results_cell_tmp2 {P : Program} {fn : Func} {p u v : Tmp} {ty : TypeId} (h : fn.results = #[.cell p ty, .tmp u, .tmp v]) (tmps : Array Value) (w : World) (g : Nat) (t : TypeId) (cs : Array Value) (fr : Nat × Nat) (d : TypeDesc) (hp : tmps.getD p undef = .pointer (some ⟨g, 0, none⟩)) (hg : w.heap[g]? = some (.cells cs t fr))
    (hu : P.underlying ty = some d) (hd : (match d with | .struct _ | .array _ _ => true | _ => false) = true) (hi : (P.info? ty).map (·.size) = some cs.size) : (results fn tmps).run P w = .ok (.tuple #[.agg cs, tmps.getD u undef, tmps.getD v undef]) w := by
  have hp' : tmps[p]?.getD undef = .pointer (some ⟨g, 0, none⟩) := by simpa using hp
  simp [results, h, hp', asAddr, run_loadVar_row w g t ty cs fr d hg hu hd hi]
theorem StOwn.keep {B : Nat} {w w' : World} {v1 v2 v3 : Value} {X Y : List It} {L : List LotV} {N : List LineV} (h : StOwn B w v1 v2 v3 X Y L N) (hk : ∀ b, B ≤ b → w'.heap[b]? = w.heap[b]?) : StOwn B w' v1 v2 v3 X Y L N :=
  ⟨h.items.keep fun b hb _ => hk b hb, h.lots.keep fun b e => hk b (h.lots.ge b e).1, h.lines.keep fun b e => hk b (h.lines.ge b e).1⟩
theorem StOwn.mono {B B' : Nat} {w : World} {v1 v2 v3 : Value} {X Y : List It} {L : List LotV} {N : List LineV} (h : StOwn B w v1 v2 v3 X Y L N) (hb : B' ≤ B) : StOwn B' w v1 v2 v3 X Y L N := ⟨h.items.mono hb, h.lots.mono hb, h.lines.mono hb⟩
set_option maxHeartbeats 8000000 in
set_option maxRecDepth 100000 in
theorem pk_end (B p q r m mb cnt i : Nat) (now nl nx : Int) (a1 : Option Addr) (n1 c1 : Nat) (X : List It) (a2 : Option Addr) (n2 c2 : Nat) (L : List LotV) (a3 : Option Addr) (n3 c3 : Nat) (N : List LineV) (tk : Int → Int) (vu : Value) (W : World) (R : Ending → World → Prop) (h : StIn B W a1 n1 c1 X a2 n2 c2 L a3 n3 c3 N) (hB : B ≤ W.heap.size)
    (hp : W.heap[p]? = some (stObj now nl nx (.slice a1 n1 c1) (.slice a2 n2 c2) (.slice a3 n3 c3))) (hq : W.heap[q]? = some (stObj 0 0 0 (.slice none 0 0) (.slice none 0 0) (.slice none 0 0))) (hm16 : W.cell? ⟨m, 0, none⟩ = some (.map (some mb))) (hml : m < W.heap.size) (hr : W.cell? ⟨r, 0, none⟩ = some (.int .i64 i)) (hrl : r < W.heap.size) (hi : i < N.length) (hM : MI W mb cnt (.int .i64 0) (leftV tk))
    (hov : ∀ x ∈ L, x.arr = true → -9223372036854775808 ≤ x.qty - tk x.id ∧ x.qty - tk x.id ≤ 9223372036854775807)
    (hR : ∀ a1 c1 Y a2 c2 a3 c3 wT, Below W.heap.size W wT → StOwn W.heap.size wT (.slice a1 X.length c1) (.slice a2 (leftL tk L).length c2) (.slice a3 (N.set i { N.getD i default with st := 2 }).length c3) X Y (leftL tk L) (N.set i { N.getD i default with st := 2 }) →
      R (.returned (.tuple #[.agg #[.int .i64 now, .int .i64 nl, .int .i64 nx, .slice a1 X.length c1, .slice a2 (leftL tk L).length c2, .slice a3 (N.set i { N.getD i default with st := 2 }).length c3], vu, .int .i64 0])) (put6 wT q now nl nx (.slice a1 X.length c1) (.slice a2 (leftL tk L).length c2) (.slice a3 (N.set i { N.getD i default with st := 2 }).length c3))) (s0 s1 s3 s5 s6 s8 s9 s10 s11 s12 s13 s14 s17 s18 s19 s20 s21 s22 s23 s24 s25 s26 s27 s28 s29 s30 s31 s32 s33 s34 s35 s36 s37 s38 s39 s40 s41 s42 s43 s44 s45 s46 s47 s48 s49 s50 s51 s52 s53 s54 s55 s56 s57 s58 s59 s60 s61 s62 s63 s64 s65 s66 s67 s68 s69 s70 s71 s72 s73 s74 s75 s76 s77 s78 s79 s80 s81 s82 s83 s84 s85 s86 s87 s88 s89 s90 s91 s92 s93 s94 s95 s96 s97 s98 s99 s100 s101 s102 s103 s104 s105 s106 s107 s108 s109 s110 s111 : Value) :
    Code.wp Tryz.prog (dropQ 12 (Tryz.f8.body.getD .skip)) (bodyPost Tryz.prog Tryz.f8 R) ⟨List.toArray (s0 :: s1 :: (.pointer (some ⟨p, 0, none⟩)) :: s3 :: (.pointer (some ⟨q, 0, none⟩)) :: s5 :: s6 :: (.pointer (some ⟨r, 0, none⟩)) :: s8 :: s9 :: s10 :: s11 :: s12 :: s13 :: s14 :: vu :: (.pointer (some ⟨m, 0, none⟩)) :: s17 :: s18 :: s19 :: s20 :: s21 :: s22 :: s23 :: s24 :: s25 :: s26 :: s27 :: s28 :: s29 :: s30 :: s31 :: s32 :: s33 :: s34 :: s35 :: s36 :: s37 :: s38 :: s39 :: s40 :: s41 :: s42 :: s43 :: s44 :: s45 :: s46 :: s47 :: s48 :: s49 :: s50 :: s51 :: s52 :: s53 :: s54 :: s55 :: s56 :: s57 :: s58 :: s59 :: s60 :: s61 :: s62 :: s63 :: s64 :: s65 :: s66 :: s67 :: s68 :: s69 :: s70 :: s71 :: s72 :: s73 :: s74 :: s75 :: s76 :: s77 :: s78 :: s79 :: s80 :: s81 :: s82 :: s83 :: s84 :: s85 :: s86 :: s87 :: s88 :: s89 :: s90 :: s91 :: s92 :: s93 :: s94 :: s95 :: s96 :: s97 :: s98 :: s99 :: s100 :: s101 :: s102 :: s103 :: s104 :: s105 :: s106 :: s107 :: s108 :: s109 :: s110 :: s111 :: []), []⟩ W := by
  have hql : q < W.heap.size := (Array.getElem?_eq_some_iff.1 hq).1
  have HB1 := Lib.hid (fun c => below_alloc W c)
  have HT := Lib.hid (turned_any B now nl nx a1 n1 c1 X a2 n2 c2 L a3 n3 c3 N (W.alloc (.cells #[pkF2 m, pkF3 r] 70)) (h.below ((HB1.out _).mono hB)) (Nat.le_trans hB (HB1.out _).size) W.heap.size m r mb cnt i tk (by simp) (by simp) (by rw [World.size_alloc]; omega) (((HB1.out _).cell (p := ⟨m, 0, none⟩) hml).trans hm16) (by rw [World.size_alloc]; omega) (((HB1.out _).cell (p := ⟨r, 0, none⟩) hrl).trans hr) (by rw [World.size_alloc]; omega) hi (hM.below (HB1.out _) hM.lt) hov)
  obtain ⟨L2, hL2⟩ : ∃ z, z = leftL tk L := ⟨_, rfl⟩
  obtain ⟨N2, hN2⟩ : ∃ z, z = N.set i { N.getD i default with st := 2 } := ⟨_, rfl⟩
  rw [← hL2, ← hN2] at HT hR
  have HR := Lib.hid hR
  have HQ := Lib.hid (fun (V : World) (hb : Below W.heap.size W V) => (hb.block q hql).trans hq)
  obtain ⟨y0, y1, y2, y3, y4, y5⟩ := stObj_cells hp
  unfold pkF2 pkF3 at HT
  clear hL2 hN2 h hp hq hm16 hr hi hM hov hR
  conv => arg 2; whnf
  go_wp2_with (go_at_call 25; refine HT.out.mono ?_; rintro e wT ⟨hb, b1, d1, Y, b2, d2, b3, d3, rfl, hso⟩; have hbW := (HB1.out _).trans (hb.mono (HB1.out _).size); have HS := Lib.hid (StOwn.mono hso (HB1.out _).size); have HBT := Lib.hid hbW; have hqT := HQ.out wT hbW; obtain ⟨f0, f1, f2, f3, f4, f5⟩ := st_frozen6 hqT; obtain ⟨z0, z1, z2, z3, z4, z5⟩ := stObj_cells hqT; have hput := st_put hqT now nl nx (.slice b1 X.length d1) (.slice b2 L2.length d2) (.slice b3 N2.length d3); have HPUT := Lib.hid hput; clear hb hso hbW hqT hput)
  have hput := HPUT.out
  obtain ⟨W9, hW9⟩ : ∃ V, V = put6 wT q now nl nx (.slice b1 X.length d1) (.slice b2 L2.length d2) (.slice b3 N2.length d3) := ⟨_, rfl⟩
  have HW9 := Lib.hid hW9
  unfold put6 at hW9
  rw [← hW9] at hput ⊢
  clear hW9
  refine bodyPost_ret (results_cell_tmp2 (P := Tryz.prog) (fn := Tryz.f8) (p := 4) (u := 5) (v := 6) (ty := 26) rfl _ W9 q 26 _ (0, 0) _ rfl hput Tryz.underlying26 rfl (by kernel_rfl)) rfl ?_
  rw [HW9.out]
  exact HR.out _ _ Y _ _ _ _ wT HBT.out HS.out
end Go.Proofs.YtbedbhlebfnohaaGreat
namespace Go.Proofs.YtbedbhlebfnohaaGreat
open Go.RowKit Go.Sort Go.Lib Go.Shelf

theorem leftV_nil : leftV (usum []) = fun _ => .int .i64 0 := rfl
theorem leftV_succ {U : List UseV} {j : Nat} (hj : j < U.length) : leftV (usum (U.take (j + 1))) = updV (leftV (usum (U.take j))) (U.getD j default).lot (.int .i64 (usum (U.take j) (U.getD j default).lot + (U.getD j default).qty)) := by
  funext k
  unfold leftV updV
  rw [usum_succ hj]
  by_cases e : k = (U.getD j default).lot
  · rw [if_pos e, if_pos e.symm, e]
  · rw [if_neg e, if_neg (Ne.symm e), Int.add_zero]
set_option maxHeartbeats 8000000 in
set_option maxRecDepth 100000 in
theorem pk_map (B p q r i : Nat) (now nl nx : Int) (a1 : Option Addr) (n1 c1 : Nat) (X : List It) (a2 : Option Addr) (n2 c2 : Nat) (L : List LotV) (a3 : Option Addr) (n3 c3 : Nat) (N : List LineV) (ua : Option Addr) (un uc : Nat) (U : List UseV) (W : World) (R : Ending → World → Prop) (h : StIn B W a1 n1 c1 X a2 n2 c2 L a3 n3 c3 N) (hB : B ≤ W.heap.size)
    (hp : W.heap[p]? = some (stObj now nl nx (.slice a1 n1 c1) (.slice a2 n2 c2) (.slice a3 n3 c3))) (hq : W.heap[q]? = some (stObj 0 0 0 (.slice none 0 0) (.slice none 0 0) (.slice none 0 0))) (hr : W.cell? ⟨r, 0, none⟩ = some (.int .i64 i)) (hrl : r < W.heap.size) (hi : i < N.length)
    (hU : useE.In W.heap.size W ua un uc U) (_hul : un ≤ 100000000) (hov : ∀ x ∈ L, x.arr = true → -9223372036854775808 ≤ x.qty - usum U x.id ∧ x.qty - usum U x.id ≤ 9223372036854775807)
    (hus : ∀ j, j < U.length → -4611686018427387904 ≤ usum (U.take j) (U.getD j default).lot ∧ usum (U.take j) (U.getD j default).lot ≤ 4611686018427387903 ∧ 0 ≤ (U.getD j default).qty ∧ (U.getD j default).qty ≤ 4611686018427387903)
    (hR : ∀ a1 c1 Y a2 c2 a3 c3 wT, Below W.heap.size W wT → StOwn W.heap.size wT (.slice a1 X.length c1) (.slice a2 (leftL (usum U) L).length c2) (.slice a3 (N.set i { N.getD i default with st := 2 }).length c3) X Y (leftL (usum U) L) (N.set i { N.getD i default with st := 2 }) →
      R (.returned (.tuple #[.agg #[.int .i64 now, .int .i64 nl, .int .i64 nx, .slice a1 X.length c1, .slice a2 (leftL (usum U) L).length c2, .slice a3 (N.set i { N.getD i default with st := 2 }).length c3], .slice ua un uc, .int .i64 0])) (put6 wT q now nl nx (.slice a1 X.length c1) (.slice a2 (leftL (usum U) L).length c2) (.slice a3 (N.set i { N.getD i default with st := 2 }).length c3))) (s0 s1 s3 s5 s6 s8 s9 s10 s11 s12 s13 s14 s16 s17 s18 s19 s20 s21 s22 s23 s24 s25 s26 s27 s28 s29 s30 s31 s32 s33 s34 s35 s36 s37 s38 s39 s40 s41 s42 s43 s44 s45 s46 s47 s48 s49 s50 s51 s52 s53 s54 s55 s56 s57 s58 s59 s60 s61 s62 s63 s64 s65 s66 s67 s68 s69 s70 s71 s72 s73 s74 s75 s76 s77 s78 s79 s80 s81 s82 s83 s84 s85 s86 s87 s88 s89 s90 s91 s92 s93 s94 s95 s96 s97 s98 s99 s100 s101 s102 s103 s104 s105 s106 s107 s108 s109 s110 s111 : Value) :
    Code.wp Tryz.prog (dropQ 10 (Tryz.f8.body.getD .skip)) (bodyPost Tryz.prog Tryz.f8 R) ⟨List.toArray (s0 :: s1 :: (.pointer (some ⟨p, 0, none⟩)) :: s3 :: (.pointer (some ⟨q, 0, none⟩)) :: s5 :: s6 :: (.pointer (some ⟨r, 0, none⟩)) :: s8 :: s9 :: s10 :: s11 :: s12 :: s13 :: s14 :: (.slice ua un uc) :: s16 :: s17 :: s18 :: s19 :: s20 :: s21 :: s22 :: s23 :: s24 :: s25 :: s26 :: s27 :: s28 :: s29 :: s30 :: s31 :: s32 :: s33 :: s34 :: s35 :: s36 :: s37 :: s38 :: s39 :: s40 :: s41 :: s42 :: s43 :: s44 :: s45 :: s46 :: s47 :: s48 :: s49 :: s50 :: s51 :: s52 :: s53 :: s54 :: s55 :: s56 :: s57 :: s58 :: s59 :: s60 :: s61 :: s62 :: s63 :: s64 :: s65 :: s66 :: s67 :: s68 :: s69 :: s70 :: s71 :: s72 :: s73 :: s74 :: s75 :: s76 :: s77 :: s78 :: s79 :: s80 :: s81 :: s82 :: s83 :: s84 :: s85 :: s86 :: s87 :: s88 :: s89 :: s90 :: s91 :: s92 :: s93 :: s94 :: s95 :: s96 :: s97 :: s98 :: s99 :: s100 :: s101 :: s102 :: s103 :: s104 :: s105 :: s106 :: s107 :: s108 :: s109 :: s110 :: s111 :: []), []⟩ W := by
  have hmk := @run_makeMap Tryz.prog
  obtain ⟨W2, hW2⟩ : ∃ V, V = (W.alloc (.map #[] 0)).alloc (.cells #[.map (some W.heap.size)] 67) := ⟨_, rfl⟩
  have bW2 : Hid (Below W.heap.size W W2) := Lib.hid (by rw [hW2]; exact ((Below.refl _ W).alloc (Nat.le_refl _) _).alloc (by rw [World.size_alloc]; omega) _)
  have hs2 : W2.heap.size = W.heap.size + 2 := by rw [hW2, World.size_alloc, World.size_alloc]
  have hM2 : Hid (MI W2 W.heap.size 0 (.int .i64 0) (leftV (usum (U.take 0)))) := Lib.hid (by
    rw [List.take_zero, leftV_nil, hW2]
    exact (MI.made W (.int .i64 0)).below (below_alloc _ _) (by rw [World.size_alloc]; omega))
  have hc2 : Hid (W2.cell? ⟨W.heap.size + 1, 0, none⟩ = some (.map (some W.heap.size))) := Lib.hid (by rw [hW2, ← World.size_alloc W (.map #[] 0)]; simp)
  have hpl : p < W.heap.size := (Array.getElem?_eq_some_iff.1 hp).1
  have hql : q < W.heap.size := (Array.getElem?_eq_some_iff.1 hq).1
  have HEND := Lib.hid (fun (V : World) (hbV : Below W.heap.size W V) (hsz : W.heap.size + 1 < V.heap.size) (hcl : V.cell? ⟨W.heap.size + 1, 0, none⟩ = some (.map (some W.heap.size))) (cnt : Nat) (hM : MI V W.heap.size cnt (.int .i64 0) (leftV (usum U))) => pk_end B p q r (W.heap.size + 1) W.heap.size cnt i now nl nx a1 n1 c1 X a2 n2 c2 L a3 n3 c3 N (usum U) (.slice ua un uc) V R (h.below (hbV.mono hB)) (Nat.le_trans hB hbV.size) ((hbV.block p hpl).trans hp) ((hbV.block q hql).trans hq) hcl hsz ((hbV.cell (p := ⟨r, 0, none⟩) hrl).trans hr) (Nat.lt_of_lt_of_le hrl hbV.size) hi hM hov (fun b1 d1 Y b2 d2 b3 d3 wT hbT hso => hR b1 d1 Y b2 d2 b3 d3 wT (hbV.trans (hbT.mono hbV.size)) (hso.mono hbV.size)))
  have HUS := Lib.hid hus
  have HU := Lib.hid hU
  have Hln := Lib.hid hU.len
  have hle := hU.le; have hmx := hU.mx
  have HW2 := Lib.hid hW2
  clear hW2 h hp hq hr hi hov hus hR hU
  conv => arg 2; whnf
  go_upto_region 20 with (fail)
  rw [← HW2.out]
  clear hmk
  go_wp2_with (fail)
  go_loopw [94] (fun s94 wr => ∃ (j cnt : Nat), s94 = .int .i64 j ∧ j ≤ un ∧ cnt ≤ j ∧ Hid (MI wr W.heap.size cnt (.int .i64 0) (leftV (usum (U.take j)))) ∧ Hid (Below W.heap.size W wr) ∧ Hid (W.heap.size + 1 < wr.heap.size ∧ wr.cell? ⟨W.heap.size + 1, 0, none⟩ = some (.map (some W.heap.size)))) (fun s94 _ => un - (intOf s94).toNat)
  case atStart => exact ⟨0, 0, rfl, Nat.zero_le _, Nat.le_refl _, hM2, bW2, Lib.hid ⟨by omega, hc2.out⟩⟩
  case round =>
    clear hM2 bW2 hc2
    obtain ⟨j, cnt, rfl, hj, hcnt, HM, Hb, Hc⟩ := hrel
    by_cases hlt : j < un
    · obtain ⟨b, o, rfl, hbB, hc⟩ := useE_at (HU.out.below Hb.out) (by omega)
      obtain ⟨g0, g1, g2⟩ := hc j hlt
      have hok := Lib.hid (HU.out.ok_at hlt)
      have Hus := Lib.hid (HUS.out j (by rw [← Hln.out]; exact hlt))
      have Hsucc := Lib.hid (leftV_succ (U := U) (j := j) (by rw [← Hln.out]; exact hlt))
      clear hc
      generalize U.getD j default = u at g0 g1 g2 hok Hus Hsucc
      obtain ⟨uw, ul, uq⟩ := u
      simp only at g0 g1 g2 Hus Hsucc
      obtain ⟨q1, q2, q3, q4⟩ := Hus.out
      generalize hsu : usum (U.take j) ul = su at q1 q2 Hsucc
      have HSU := Lib.hid hsu
      obtain ⟨W3, hW3⟩ : ∃ V, V = wr.alloc (.cells #[.int .i64 uw, .int .i64 ul, .int .i64 uq] 42) := ⟨_, rfl⟩
      have bW3 : Hid (Below wr.heap.size wr W3) := Lib.hid (by rw [hW3]; exact below_alloc _ _)
      have y1 : W3.cell? ⟨wr.heap.size, 1, none⟩ = some (.int .i64 ul) := by rw [hW3]; simp
      have y2 : W3.cell? ⟨wr.heap.size, 2, none⟩ = some (.int .i64 uq) := by rw [hW3]; simp
      have c1 : W3.cell? ⟨W.heap.size + 1, 0, none⟩ = some (.map (some W.heap.size)) := (bW3.out.cell (p := ⟨W.heap.size + 1, 0, none⟩) Hc.out.1).trans Hc.out.2
      have M3 : Hid (MI W3 W.heap.size cnt (.int .i64 0) (leftV (usum (U.take j)))) := Lib.hid (HM.out.below bW3.out HM.out.lt)
      have hid1 : -9223372036854775808 ≤ ul ∧ ul ≤ 9223372036854775807 := hok.out.2.1
      have HID := Lib.hid hid1
      have lk := M3.out.look Tryz.underlying67 (zeroI64 _) ul hid1.1 hid1.2
      have ek : leftV (usum (U.take j)) ul = .int .i64 (usum (U.take j) ul) := rfl
      rw [ek, hsu] at lk
      have HB3 := Lib.hid (Hb.out.trans (bW3.out.mono Hb.out.size))
      have HC3 : Hid (W.heap.size + 1 < W3.heap.size) := Lib.hid (Nat.lt_of_lt_of_le Hc.out.1 bW3.out.size)
      have HW3 := Lib.hid hW3
      clear hW3 ek hsu hid1
      go_upto_region 23 with (fail)
      rw [← HW3.out]
      go_wp2_with (at_mapUpdate; refine wpList_put_mi rfl _ _ _ 67 rfl Tryz.underlying67 M3.out (by omega) ul (.int .i64 (su + uq)) rfl rfl rfl HID.out.1 HID.out.2 ?_; intro w10 hM10 hg10; have M10 : Hid (MI w10 W.heap.size (cnt + 1) (.int .i64 0) (leftV (usum (U.take (j + 1))))) := Lib.hid (by rw [Hsucc.out]; exact hM10); have B10 := Lib.hid (HB3.out.grown hg10 HB3.out.size (fun k e => by have := Option.some.inj e; omega)); have C10 : Hid (W.heap.size + 1 < w10.heap.size ∧ w10.cell? ⟨W.heap.size + 1, 0, none⟩ = some (.map (some W.heap.size))) := Lib.hid ⟨Nat.lt_of_lt_of_le HC3.out hg10.size, (World.cell?_of_block (hg10.block (W.heap.size + 1) HC3.out (fun e => by have := Option.some.inj e; omega))).trans c1⟩; clear hM10 hg10)
      go_roundw
      case rel => exact ⟨j + 1, cnt + 1, by go_num, by omega, by omega, M10, B10, C10⟩
      case measure => simp [intOf]; omega
    · obtain rfl : un = j := by omega
      have HMU := Lib.hid (show MI wr W.heap.size cnt (.int .i64 0) (leftV (usum U)) by have := HM.out; rwa [List.take_of_length_le (Nat.le_of_eq Hln.out.symm)] at this)
      go_upto_region 21 with (fail)
      iterate 14 go_step
      exact HEND.out wr Hb.out Hc.out.1 Hc.out.2 cnt HMU.out _ _ _ _ _ _ _ _ _ _ _ _ _ _ _ _ _ _ _ _ _ _ _ _ _ _ _ _ _ _ _ _ _ _ _ _ _ _ _ _ _ _ _ _ _ _ _ _ _ _ _ _ _ _ _ _ _ _ _ _ _ _ _ _ _ _ _ _ _ _ _ _ _ _ _ _ _ _ _ _ _ _ _ _ _ _ _ _ _ _ _ _ _ _ _ _ _ _ _ _ _ _ _ _ _ _ _
end Go.Proofs.YtbedbhlebfnohaaGreat
namespace Go.Proofs.YtbedbhlebfnohaaGreat
open Go.RowKit

section
variable {L : List LotV} {item : List UInt8} {day : Int} {f : Int → Int} {i k : Nat} {x : Int}
end
theorem pass_len (day at_ : Int) : ∀ (A : List LotV) (f : Int → Int) (need : Int), (pass day at_ A f need).1.length ≤ A.length
  | [], f, need => Nat.le_refl _
  | l :: C, f, need => by
    rw [pass_cons]
    split
    · have := pass_len day at_ C f need
      simp only [List.length_cons]; omega
    · have := pass_len day at_ C (upd f l.id (f l.id - min need (f l.id))) (need - min need (f l.id))
      simp only [List.length_cons]; omega
section
variable {L : List LotV} {item : List UInt8} {day at_ : Int} {OUT : List UseV} {R : (Int → Int) × Int} {f : Int → Int} {U : List UseV} {need : Int}
end
section
variable {L : List LotV} {W : List WantV} {j : Nat} {f : Int → Int} {U : List UseV}
end
section
variable {w : World} {gl gd n n2 : Nat} {L : List LotV} {W : List WantV} {j : Nat} {f : Int → Int} {U : List UseV} {v : Value} {wr wk : World}
end
end Go.Proofs.YtbedbhlebfnohaaGreat
