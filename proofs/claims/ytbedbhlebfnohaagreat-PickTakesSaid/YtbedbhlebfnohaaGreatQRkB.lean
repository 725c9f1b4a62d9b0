/- The document's Pick: the lots that are left. (Printed by gen/rpk.py.) -/
import Derived.Test.YtbedbhlebfnohaaGreatQRkA
namespace Go.Proofs.YtbedbhlebfnohaaGreat
open Go.RowKit Go.Sort Go.Lib Go.Shelf

/-- The rounds over the lots. -/
structure LRk (W : World) (o : Nat) (now nl nx : Int) (v1 v3 : Value) (L : List LotV) (U : List UseV) (j : Nat) (v : Value) (wr : World) : Prop where
  obj : wr.heap[o]? = some (stObj now nl nx v1 v v3)
  own : lotE.Own (o + 1) wr v (leftL (usum U) (L.take j))
  below : Below W.heap.size W wr
  lt : o < wr.heap.size
  lo : W.heap.size ≤ o
theorem LRk.blw {W : World} {o : Nat} {now nl nx : Int} {v1 v3 : Value} {L : List LotV} {U : List UseV} {j : Nat} {v : Value} {wr wk : World} (h : LRk W o now nl nx v1 v3 L U j v wr) (hb : Below wr.heap.size wr wk) : LRk W o now nl nx v1 v3 L U j v wk := ⟨(hb.block o h.lt).trans h.obj, h.own.below hb, h.below.trans (hb.mono h.below.size), Nat.lt_of_lt_of_le h.lt hb.size, h.lo⟩
/-- The rounds over the uses, at one lot. -/
structure XRk (wr : World) (x : Nat) (id : Int) (item : List UInt8) (fr ut qk : Int) (wk : World) : Prop where
  obj : wk.heap[x]? = some (lotObj id item fr ut qk true)
  below : Below wr.heap.size wr wk
  lo : wr.heap.size ≤ x
theorem XRk.drew {wr : World} {x : Nat} {id : Int} {item : List UInt8} {fr ut qk : Int} {wk : World} (h : XRk wr x id item fr ut qk wk) (n : Nat) : XRk wr x id item fr ut qk (wk.drewN n) := ⟨h.obj, h.below.trans (drewN_below _ _ _), h.lo⟩
theorem XRk.set {wr : World} {x : Nat} {id : Int} {item : List UInt8} {fr ut qk : Int} {wk : World} (h : XRk wr x id item fr ut qk wk) (q' : Int) : XRk wr x id item fr ut q' (wk.setCell ⟨x, 4, none⟩ (.int .i64 q')) := ⟨lot_set h.obj q', below_set h.below _ _ _ h.lo, h.lo⟩
set_option maxHeartbeats 8000000 in
set_option maxRecDepth 100000 in
theorem rk_left (B p q i : Nat) (now nl nx : Int) (a1 : Option Addr) (n1 c1 : Nat) (a2 : Option Addr) (n2 c2 : Nat) (L : List LotV) (a3 : Option Addr) (n3 c3 : Nat) (N : List LineV) (ua : Option Addr) (un uc : Nat) (U : List UseV) (W : World) (R : Ending → World → Prop)
    (hp : W.heap[p]? = some (stObj now nl nx (.slice a1 n1 c1) (.slice a2 n2 c2) (.slice a3 n3 c3))) (hq : W.heap[q]? = some (stObj 0 0 0 (.slice none 0 0) (.slice none 0 0) (.slice none 0 0))) (hL : lotE.In B W a2 n2 c2 L) (hN : lineE.In B W a3 n3 c3 N) (hU : useE.In W.heap.size W ua un uc U) (hB : B ≤ W.heap.size) (hi : i < N.length) (hn2 : n2 ≤ 100000000) (hn3 : n3 ≤ 100000000)
    (hbd : ∀ x ∈ L, x.arr = true → ∀ k, k ≤ U.length → -9223372036854775808 ≤ x.qty - usum (U.take k) x.id ∧ x.qty - usum (U.take k) x.id ≤ 9223372036854775807)
    (hR : ∀ va vc g c' w', (∀ B0 w0, Below B0 w0 W → B0 ≤ q → Below B0 w0 w') → (∀ b, b < W.heap.size → b ≠ q → w'.heap[b]? = W.heap[b]?) → lotE.Own W.heap.size w' (.slice va (leftL (usum U) L).length vc) (leftL (usum U) L) → lineE.Own W.heap.size w' (.slice (some ⟨g, 0, none⟩) N.length c') (N.set i { N.getD i default with st := 2 }) →
      R (.returned (.tuple #[.agg #[.int .i64 now, .int .i64 nl, .int .i64 nx, .slice a1 n1 c1, .slice va (leftL (usum U) L).length vc, .slice (some ⟨g, 0, none⟩) N.length c'], .slice ua un uc, .int .i64 0])) w') (s0 s1 s3 s5 s6 s8 s9 s10 s11 s12 s13 s14 s15 s16 s18 s19 s20 s21 s22 s23 s24 s25 s26 s27 s28 s29 s30 s31 s32 s33 s34 s35 s36 s37 s38 s39 s40 s41 s42 s43 s44 s45 s46 s47 s48 s49 s50 s51 s52 s53 s54 s55 s56 s57 s58 s59 s60 s61 s62 s63 s64 s65 s66 s67 s68 s69 s70 s71 s72 s73 s74 s75 s76 s77 s78 s79 s80 s81 s82 s83 s84 s85 s86 s87 s88 s89 s90 s91 s92 s93 s94 s95 s96 s97 s98 s99 s100 s101 s102 s103 s104 s105 s106 s107 s108 s109 s110 s111 s112 s113 s114 s115 s116 s117 s118 s119 s120 s121 s122 s123 s124 s125 s126 s127 s128 s129 s130 s131 s132 s133 s134 s135 s136 s137 s138 s139 s140 s141 s142 s143 s144 s145 s146 s147 s148 s149 s150 s151 s152 s153 s154 s155 s156 s157 s158 s159 s160 s161 s162 s163 s164 s165 s166 s167 s168 s169 s170 s171 s172 s173 s174 s175 s176 s177 s178 s179 s180 s181 s182 s183 s184 s185 s186 s187 s188 s189 s190 s191 s192 s193 s194 s195 s196 s197 s198 s199 : Value) :
    Code.wp Tryz.prog (dropQ 15 (Tryz.f9.body.getD .skip)) (bodyPost Tryz.prog Tryz.f9 R) ⟨List.toArray (s0 :: s1 :: (.pointer (some ⟨p, 0, none⟩)) :: s3 :: (.pointer (some ⟨q, 0, none⟩)) :: s5 :: s6 :: (.int .i64 i) :: s8 :: s9 :: s10 :: s11 :: s12 :: s13 :: s14 :: s15 :: s16 :: (.slice ua un uc) :: s18 :: s19 :: s20 :: s21 :: s22 :: s23 :: s24 :: s25 :: s26 :: s27 :: s28 :: s29 :: s30 :: s31 :: s32 :: s33 :: s34 :: s35 :: s36 :: s37 :: s38 :: s39 :: s40 :: s41 :: s42 :: s43 :: s44 :: s45 :: s46 :: s47 :: s48 :: s49 :: s50 :: s51 :: s52 :: s53 :: s54 :: s55 :: s56 :: s57 :: s58 :: s59 :: s60 :: s61 :: s62 :: s63 :: s64 :: s65 :: s66 :: s67 :: s68 :: s69 :: s70 :: s71 :: s72 :: s73 :: s74 :: s75 :: s76 :: s77 :: s78 :: s79 :: s80 :: s81 :: s82 :: s83 :: s84 :: s85 :: s86 :: s87 :: s88 :: s89 :: s90 :: s91 :: s92 :: s93 :: s94 :: s95 :: s96 :: s97 :: s98 :: s99 :: s100 :: s101 :: s102 :: s103 :: s104 :: s105 :: s106 :: s107 :: s108 :: s109 :: s110 :: s111 :: s112 :: s113 :: s114 :: s115 :: s116 :: s117 :: s118 :: s119 :: s120 :: s121 :: s122 :: s123 :: s124 :: s125 :: s126 :: s127 :: s128 :: s129 :: s130 :: s131 :: s132 :: s133 :: s134 :: s135 :: s136 :: s137 :: s138 :: s139 :: s140 :: s141 :: s142 :: s143 :: s144 :: s145 :: s146 :: s147 :: s148 :: s149 :: s150 :: s151 :: s152 :: s153 :: s154 :: s155 :: s156 :: s157 :: s158 :: s159 :: s160 :: s161 :: s162 :: s163 :: s164 :: s165 :: s166 :: s167 :: s168 :: s169 :: s170 :: s171 :: s172 :: s173 :: s174 :: s175 :: s176 :: s177 :: s178 :: s179 :: s180 :: s181 :: s182 :: s183 :: s184 :: s185 :: s186 :: s187 :: s188 :: s189 :: s190 :: s191 :: s192 :: s193 :: s194 :: s195 :: s196 :: s197 :: s198 :: s199 :: []), []⟩ W := by
  have hpl : p < W.heap.size := (Array.getElem?_eq_some_iff.1 hp).1
  have hql : q < W.heap.size := (Array.getElem?_eq_some_iff.1 hq).1
  obtain ⟨o, ho⟩ : ∃ o, o = W.heap.size := ⟨_, rfl⟩
  obtain ⟨W2, hW2⟩ : ∃ V, V = W.alloc (.cells #[.int .i64 now, .int .i64 nl, .int .i64 nx, .slice a1 n1 c1, .slice none 0 0, .slice a3 n3 c3] 26) := ⟨_, rfl⟩
  have ho1 : W2.heap[o]? = some (stObj now nl nx (.slice a1 n1 c1) (.slice none 0 0) (.slice a3 n3 c3)) := by rw [hW2, ho]; exact heap_alloc_new _ _
  have bW1 : Below W.heap.size W W2 := by rw [hW2]; exact below_alloc _ _
  have hs1 : W2.heap.size = W.heap.size + 1 := by rw [hW2, World.size_alloc]
  have HL0 : Hid (LRk W o now nl nx (.slice a1 n1 c1) (.slice a3 n3 c3) L U 0 (.slice none 0 0) W2) := Lib.hid ⟨ho1, El.Own.nil _ _ _, bW1, by omega, by omega⟩
  have HPC := Lib.hid (fun (V : World) (hb : Below W.heap.size W V) => (stObj_cells ((hb.block p hpl).trans hp)).2.2.2.2.1)
  have HEND := Lib.hid (fun (va : Option Addr) (vc : Nat) (V : World) (h : LRk W o now nl nx (.slice a1 n1 c1) (.slice a3 n3 c3) L U L.length (.slice va (leftL (usum U) L).length vc) V) => rk_end B p q o i now nl nx a1 n1 c1 va (leftL (usum U) L).length vc (.slice a2 n2 c2) a3 n3 c3 N (.slice ua un uc) V R h.obj ((h.below.block p hpl).trans hp) ((h.below.block q hql).trans hq) (by omega) (hN.below (h.below.mono hB)) (Nat.le_trans hB h.below.size) hi hn3 (fun g c' w' h1 h2 h3 => hR va vc g c' w' (fun B0 w0 hb hq0 => h2 B0 w0 (hb.trans (h.below.mono (by omega))) (by omega) hq0) (fun b hb hbq => (h1 b (Nat.lt_of_lt_of_le hb h.below.size) (by omega) hbq).trans (h.below.block b hb)) (by
    have ho9 := h.own
    rw [List.take_length] at ho9
    exact (ho9.keep fun b e => h1 b (ho9.ge b e).2 (by have := (ho9.ge b e).1; omega) (by have := (ho9.ge b e).1; omega)).mono (by omega)) (h3.mono h.below.size)))
  have y0 := (stObj_cells hp).1
  have y1 := (stObj_cells hp).2.1
  have y2 := (stObj_cells hp).2.2.1
  have y3 := (stObj_cells hp).2.2.2.1
  have y4 := (stObj_cells hp).2.2.2.2.1
  have y5 := (stObj_cells hp).2.2.2.2.2
  have HLn := Lib.hid hL.len
  have HUn := Lib.hid hU.len
  have hle2 := hL.le; have hmx2 := hL.mx; have hleu := hU.le; have hmxu := hU.mx
  have HL := Lib.hid hL
  have HU := Lib.hid hU
  have HBD := Lib.hid hbd
  have HW2 := Lib.hid hW2
  have HO := Lib.hid ho
  clear hp hq hL hN hU hbd hR hi ho1 bW1
  conv => arg 2; whnf
  clear hW2
  go_upto_region 33 with (fail)
  rw [← HW2.out, ← ho]
  clear ho y0 y1 y2 y3 y4 y5
  go_wp2_with (fail)
  go_loopw [20] (fun s20 wr => ∃ (j : Nat) (va : Option Addr) (vn vc : Nat), s20 = .int .i64 j ∧ j ≤ n2 ∧ Hid (LRk W o now nl nx (.slice a1 n1 c1) (.slice a3 n3 c3) L U j (.slice va vn vc) wr)) (fun s20 _ => n2 - (intOf s20).toNat)
  case atStart => exact ⟨0, none, 0, 0, rfl, Nat.zero_le _, HL0⟩
  case round =>
    clear HL0
    obtain ⟨j, va, vn, vc, rfl, hj, HR⟩ := hrel
    obtain ⟨wo, hwo⟩ : ∃ V, V = wr := ⟨_, rfl⟩
    rw [← hwo] at HR ⊢
    clear hwo
    have pc := HPC.out _ HR.out.below
    by_cases hlt : j < n2
    · obtain ⟨b, o2, rfl, hbB, hc⟩ := lotE_at (HL.out.below (HR.out.below.mono hB)) (by omega)
      obtain ⟨g0, g1, g2, g3, g4, g5⟩ := hc j hlt
      have HC5 : Hid (∀ V, Below W.heap.size W V → V.cell? ⟨b, o2 + j * 6 + 5, none⟩ = some (.bool (L.getD j default).arr)) := Lib.hid fun V hb => by
        obtain ⟨b', o', e', -, hc'⟩ := lotE_at (HL.out.below (hb.mono hB)) (by omega)
        cases e'
        exact (hc' j hlt).2.2.2.2.2
      have hok := Lib.hid (HL.out.ok_at hlt)
      have hjL := Lib.hid (show j < L.length by rw [← HLn.out]; exact hlt)
      have Hbd := Lib.hid (HBD.out (L.getD j default) (by rw [List.getD_eq_getElem?_getD, List.getElem?_eq_getElem hjL.out]; exact List.getElem_mem _))
      have Hsucc := Lib.hid (leftL_succ (usum U) (X := L) (j := j) hjL.out)
      have hNN := Lib.hid (show vn = (leftL (usum U) (L.take j)).length ∧ vn ≤ 100000000 from by
        have h1 : vn = (leftL (usum U) (L.take j)).length := by obtain ⟨a9, c9, e9, -⟩ := HR.out.own.form; injection e9
        have h2 := leftL_len (usum U) (L.take j)
        rw [List.length_take] at h2
        exact ⟨h1, by omega⟩)
      clear hc
      generalize L.getD j default = x at g0 g1 g2 g3 g4 g5 hok Hbd Hsucc HC5
      obtain ⟨id, item, fr, ut, qty, arr⟩ := x
      simp only at g0 g1 g2 g3 g4 g5
      simp only [encStr] at g1
      obtain ⟨W3, hW3⟩ : ∃ V, V = wo.alloc (.cells #[.int .i64 id, .string ⟨item.toArray⟩, .int .i64 fr, .int .i64 ut, .int .i64 qty, .bool arr] 46) := ⟨_, rfl⟩
      obtain ⟨xb, hxb⟩ : ∃ z, z = wo.heap.size := ⟨_, rfl⟩
      have hx3 : W3.heap[xb]? = some (lotObj id item fr ut qty arr) := by rw [hW3, hxb]; exact heap_alloc_new _ _
      have B3 : Hid (Below wo.heap.size wo W3) := Lib.hid (by rw [hW3]; exact below_alloc _ _)
      have HW3 := Lib.hid hW3
      have HXB := Lib.hid hxb
      have HX3 := Lib.hid hx3
      clear hW3 hx3
      cases arr with
      | false =>
        have HS : Hid (leftL (usum U) (L.take (j + 1)) = leftL (usum U) (L.take j) ++ [⟨id, item, fr, ut, qty, false⟩]) := Lib.hid (by rw [Hsucc.out]; simp [lessL])
        go_upto_region 37 with (fail)
        rw [← HW3.out, ← hxb]
        clear hxb g0 g1 g2 g3 g4 g5
        obtain ⟨x0, x1, x2, x3, x4, x5⟩ := lotObj_cells HX3.out
        go_wp2_with (fail)
        go_loopw [22] (fun s22 wk => s22 = .int .i64 0 ∧ W3 = wk) (fun _ _ => 0)
        case atStart => exact ⟨rfl, rfl⟩
        case round =>
          obtain ⟨rfl, rfl⟩ := hrel
          have HX := Lib.hid (HR.out.blw B3.out)
          have pc3 := HPC.out _ HX.out.below
          have g5 := HC5.out _ HX.out.below
          obtain ⟨wx, hwx⟩ : ∃ V, V = W3 := ⟨_, rfl⟩
          rw [← hwx] at HX x0 x1 x2 x3 x4 x5 pc3 g5 ⊢
          have e4 := (stObj_cells HX.out.obj).2.2.2.2.1
          clear hwx
          by_cases hu0 : 0 < un
          · by_cases hq0 : 0 < qty
            · skip
              have hOA : Hid (lotE.Own (o + 1) (wx.alloc (.cells #[.int .i64 id, .string ⟨item.toArray⟩, .int .i64 fr, .int .i64 ut, .int .i64 qty, .bool false] 46)) (.slice va vn vc) (leftL (usum U) (L.take j))) := Lib.hid (HX.out.own.below (below_alloc _ _))
              have hsA : Hid (o < wx.heap.size) := Lib.hid HX.out.lt
              have e4 := (stObj_cells HX.out.obj).2.2.2.2.1
              have HG : Hid (∀ w9 : World, (wx.alloc (.cells #[.int .i64 id, .string ⟨item.toArray⟩, .int .i64 fr, .int .i64 ut, .int .i64 qty, .bool false] 46)).grownBy w9 (Value.slice va vn vc).ownBlock → w9.heap[o]? = some (stObj now nl nx (.slice a1 n1 c1) (.slice va vn vc) (.slice a3 n3 c3)) ∧ Below W.heap.size W w9 ∧ o < w9.heap.size) := Lib.hid fun w9 hg => ⟨(hg.block o (by rw [World.size_alloc]; have := hsA.out; omega) (fun e => by have := (hOA.out.ge o e.symm).1; omega)).trans (((below_alloc _ _).block o hsA.out).trans HX.out.obj), (HX.out.below.trans ((below_alloc _ _).mono HX.out.below.size)).grown hg (HX.out.below.trans ((below_alloc _ _).mono HX.out.below.size)).size (fun k e => by have := (hOA.out.ge k e).1; have := HX.out.lo; omega), by have := hg.size; rw [World.size_alloc] at this; have := hsA.out; omega⟩
              go_wp2_with (at_builtin; refine El.wpList_append1 lotE rfl _ _ rfl (o + 1) (.slice va vn vc) (leftL (usum U) (L.take j)) ⟨id, item, fr, ut, qty, false⟩ (vn + 1) (by rw [← hNN.out.1]) rfl hOA.out _ 1 rfl (lotE_lit _ ⟨id, item, fr, ut, qty, false⟩ _) (by rw [World.size_alloc]; have := hsA.out; omega) (by have := hNN.out; omega) ?_; intro g9 c9 w9 hown9 hg9 hgg9; obtain ⟨k9, b9, s9⟩ := HG.out w9 hg9; have d4 := (stObj_cells k9).2.2.2.2.1; have fz4 := st_frozen k9 4; have K9 := Lib.hid k9; have B9 := Lib.hid b9; have S9 := Lib.hid s9; have O9 := Lib.hid hown9; clear hown9 hg9 hgg9 k9 b9 s9)
              have R9 : Hid (LRk W o now nl nx (.slice a1 n1 c1) (.slice a3 n3 c3) L U (j + 1) (.slice (some ⟨g9, 0, none⟩) (vn + 1) c9) (w9.setCell ⟨o, 4, none⟩ (.slice (some ⟨g9, 0, none⟩) (vn + 1) c9))) := Lib.hid ⟨st_put4 K9.out _, by rw [HS.out]; exact O9.out.keep fun b e => setCell_block _ _ _ _ (by have := (O9.out.ge b e).1; omega), below_set B9.out _ _ _ HX.out.lo, by rw [size_setCell]; exact S9.out, HX.out.lo⟩
              go_roundw
              case rel => exact ⟨j + 1, some ⟨g9, 0, none⟩, vn + 1, c9, by go_num, by omega, R9⟩
              case measure => simp [intOf]; omega
            · skip
              have hOA : Hid (lotE.Own (o + 1) (wx.alloc (.cells #[.int .i64 id, .string ⟨item.toArray⟩, .int .i64 fr, .int .i64 ut, .int .i64 qty, .bool false] 46)) (.slice va vn vc) (leftL (usum U) (L.take j))) := Lib.hid (HX.out.own.below (below_alloc _ _))
              have hsA : Hid (o < wx.heap.size) := Lib.hid HX.out.lt
              have e4 := (stObj_cells HX.out.obj).2.2.2.2.1
              have HG : Hid (∀ w9 : World, (wx.alloc (.cells #[.int .i64 id, .string ⟨item.toArray⟩, .int .i64 fr, .int .i64 ut, .int .i64 qty, .bool false] 46)).grownBy w9 (Value.slice va vn vc).ownBlock → w9.heap[o]? = some (stObj now nl nx (.slice a1 n1 c1) (.slice va vn vc) (.slice a3 n3 c3)) ∧ Below W.heap.size W w9 ∧ o < w9.heap.size) := Lib.hid fun w9 hg => ⟨(hg.block o (by rw [World.size_alloc]; have := hsA.out; omega) (fun e => by have := (hOA.out.ge o e.symm).1; omega)).trans (((below_alloc _ _).block o hsA.out).trans HX.out.obj), (HX.out.below.trans ((below_alloc _ _).mono HX.out.below.size)).grown hg (HX.out.below.trans ((below_alloc _ _).mono HX.out.below.size)).size (fun k e => by have := (hOA.out.ge k e).1; have := HX.out.lo; omega), by have := hg.size; rw [World.size_alloc] at this; have := hsA.out; omega⟩
              go_wp2_with (at_builtin; refine El.wpList_append1 lotE rfl _ _ rfl (o + 1) (.slice va vn vc) (leftL (usum U) (L.take j)) ⟨id, item, fr, ut, qty, false⟩ (vn + 1) (by rw [← hNN.out.1]) rfl hOA.out _ 1 rfl (lotE_lit _ ⟨id, item, fr, ut, qty, false⟩ _) (by rw [World.size_alloc]; have := hsA.out; omega) (by have := hNN.out; omega) ?_; intro g9 c9 w9 hown9 hg9 hgg9; obtain ⟨k9, b9, s9⟩ := HG.out w9 hg9; have d4 := (stObj_cells k9).2.2.2.2.1; have fz4 := st_frozen k9 4; have K9 := Lib.hid k9; have B9 := Lib.hid b9; have S9 := Lib.hid s9; have O9 := Lib.hid hown9; clear hown9 hg9 hgg9 k9 b9 s9)
              have R9 : Hid (LRk W o now nl nx (.slice a1 n1 c1) (.slice a3 n3 c3) L U (j + 1) (.slice (some ⟨g9, 0, none⟩) (vn + 1) c9) (w9.setCell ⟨o, 4, none⟩ (.slice (some ⟨g9, 0, none⟩) (vn + 1) c9))) := Lib.hid ⟨st_put4 K9.out _, by rw [HS.out]; exact O9.out.keep fun b e => setCell_block _ _ _ _ (by have := (O9.out.ge b e).1; omega), below_set B9.out _ _ _ HX.out.lo, by rw [size_setCell]; exact S9.out, HX.out.lo⟩
              go_roundw
              case rel => exact ⟨j + 1, some ⟨g9, 0, none⟩, vn + 1, c9, by go_num, by omega, R9⟩
              case measure => simp [intOf]; omega
          · by_cases hq0 : 0 < qty
            · skip
              have hOA : Hid (lotE.Own (o + 1) (wx.alloc (.cells #[.int .i64 id, .string ⟨item.toArray⟩, .int .i64 fr, .int .i64 ut, .int .i64 qty, .bool false] 46)) (.slice va vn vc) (leftL (usum U) (L.take j))) := Lib.hid (HX.out.own.below (below_alloc _ _))
              have hsA : Hid (o < wx.heap.size) := Lib.hid HX.out.lt
              have e4 := (stObj_cells HX.out.obj).2.2.2.2.1
              have HG : Hid (∀ w9 : World, (wx.alloc (.cells #[.int .i64 id, .string ⟨item.toArray⟩, .int .i64 fr, .int .i64 ut, .int .i64 qty, .bool false] 46)).grownBy w9 (Value.slice va vn vc).ownBlock → w9.heap[o]? = some (stObj now nl nx (.slice a1 n1 c1) (.slice va vn vc) (.slice a3 n3 c3)) ∧ Below W.heap.size W w9 ∧ o < w9.heap.size) := Lib.hid fun w9 hg => ⟨(hg.block o (by rw [World.size_alloc]; have := hsA.out; omega) (fun e => by have := (hOA.out.ge o e.symm).1; omega)).trans (((below_alloc _ _).block o hsA.out).trans HX.out.obj), (HX.out.below.trans ((below_alloc _ _).mono HX.out.below.size)).grown hg (HX.out.below.trans ((below_alloc _ _).mono HX.out.below.size)).size (fun k e => by have := (hOA.out.ge k e).1; have := HX.out.lo; omega), by have := hg.size; rw [World.size_alloc] at this; have := hsA.out; omega⟩
              go_wp2_with (at_builtin; refine El.wpList_append1 lotE rfl _ _ rfl (o + 1) (.slice va vn vc) (leftL (usum U) (L.take j)) ⟨id, item, fr, ut, qty, false⟩ (vn + 1) (by rw [← hNN.out.1]) rfl hOA.out _ 1 rfl (lotE_lit _ ⟨id, item, fr, ut, qty, false⟩ _) (by rw [World.size_alloc]; have := hsA.out; omega) (by have := hNN.out; omega) ?_; intro g9 c9 w9 hown9 hg9 hgg9; obtain ⟨k9, b9, s9⟩ := HG.out w9 hg9; have d4 := (stObj_cells k9).2.2.2.2.1; have fz4 := st_frozen k9 4; have K9 := Lib.hid k9; have B9 := Lib.hid b9; have S9 := Lib.hid s9; have O9 := Lib.hid hown9; clear hown9 hg9 hgg9 k9 b9 s9)
              have R9 : Hid (LRk W o now nl nx (.slice a1 n1 c1) (.slice a3 n3 c3) L U (j + 1) (.slice (some ⟨g9, 0, none⟩) (vn + 1) c9) (w9.setCell ⟨o, 4, none⟩ (.slice (some ⟨g9, 0, none⟩) (vn + 1) c9))) := Lib.hid ⟨st_put4 K9.out _, by rw [HS.out]; exact O9.out.keep fun b e => setCell_block _ _ _ _ (by have := (O9.out.ge b e).1; omega), below_set B9.out _ _ _ HX.out.lo, by rw [size_setCell]; exact S9.out, HX.out.lo⟩
              go_roundw
              case rel => exact ⟨j + 1, some ⟨g9, 0, none⟩, vn + 1, c9, by go_num, by omega, R9⟩
              case measure => simp [intOf]; omega
            · skip
              have hOA : Hid (lotE.Own (o + 1) (wx.alloc (.cells #[.int .i64 id, .string ⟨item.toArray⟩, .int .i64 fr, .int .i64 ut, .int .i64 qty, .bool false] 46)) (.slice va vn vc) (leftL (usum U) (L.take j))) := Lib.hid (HX.out.own.below (below_alloc _ _))
              have hsA : Hid (o < wx.heap.size) := Lib.hid HX.out.lt
              have e4 := (stObj_cells HX.out.obj).2.2.2.2.1
              have HG : Hid (∀ w9 : World, (wx.alloc (.cells #[.int .i64 id, .string ⟨item.toArray⟩, .int .i64 fr, .int .i64 ut, .int .i64 qty, .bool false] 46)).grownBy w9 (Value.slice va vn vc).ownBlock → w9.heap[o]? = some (stObj now nl nx (.slice a1 n1 c1) (.slice va vn vc) (.slice a3 n3 c3)) ∧ Below W.heap.size W w9 ∧ o < w9.heap.size) := Lib.hid fun w9 hg => ⟨(hg.block o (by rw [World.size_alloc]; have := hsA.out; omega) (fun e => by have := (hOA.out.ge o e.symm).1; omega)).trans (((below_alloc _ _).block o hsA.out).trans HX.out.obj), (HX.out.below.trans ((below_alloc _ _).mono HX.out.below.size)).grown hg (HX.out.below.trans ((below_alloc _ _).mono HX.out.below.size)).size (fun k e => by have := (hOA.out.ge k e).1; have := HX.out.lo; omega), by have := hg.size; rw [World.size_alloc] at this; have := hsA.out; omega⟩
              go_wp2_with (at_builtin; refine El.wpList_append1 lotE rfl _ _ rfl (o + 1) (.slice va vn vc) (leftL (usum U) (L.take j)) ⟨id, item, fr, ut, qty, false⟩ (vn + 1) (by rw [← hNN.out.1]) rfl hOA.out _ 1 rfl (lotE_lit _ ⟨id, item, fr, ut, qty, false⟩ _) (by rw [World.size_alloc]; have := hsA.out; omega) (by have := hNN.out; omega) ?_; intro g9 c9 w9 hown9 hg9 hgg9; obtain ⟨k9, b9, s9⟩ := HG.out w9 hg9; have d4 := (stObj_cells k9).2.2.2.2.1; have fz4 := st_frozen k9 4; have K9 := Lib.hid k9; have B9 := Lib.hid b9; have S9 := Lib.hid s9; have O9 := Lib.hid hown9; clear hown9 hg9 hgg9 k9 b9 s9)
              have R9 : Hid (LRk W o now nl nx (.slice a1 n1 c1) (.slice a3 n3 c3) L U (j + 1) (.slice (some ⟨g9, 0, none⟩) (vn + 1) c9) (w9.setCell ⟨o, 4, none⟩ (.slice (some ⟨g9, 0, none⟩) (vn + 1) c9))) := Lib.hid ⟨st_put4 K9.out _, by rw [HS.out]; exact O9.out.keep fun b e => setCell_block _ _ _ _ (by have := (O9.out.ge b e).1; omega), below_set B9.out _ _ _ HX.out.lo, by rw [size_setCell]; exact S9.out, HX.out.lo⟩
              go_roundw
              case rel => exact ⟨j + 1, some ⟨g9, 0, none⟩, vn + 1, c9, by go_num, by omega, R9⟩
              case measure => simp [intOf]; omega
      | true =>
        have mixed : Tryz.prog.follows Departure.mixedOrders = true := by kernel_rfl
        have late : Tryz.prog.follows Departure.lateStores = true := by kernel_rfl
        have unsure : Tryz.prog.follows Departure.lateStoresUnsure = true := by kernel_rfl
        have hxw : W.heap.size ≤ xb := by rw [hxb]; exact HR.out.below.size
        go_upto_region 37 with (fail)
        rw [← HW3.out, ← hxb]
        have X0 : Hid (XRk wo xb id item fr ut (qty - usum (U.take 0) id) W3) := Lib.hid (by
          have e0 : qty - usum (U.take 0) id = qty := by simp [usum]
          rw [e0]
          exact ⟨HX3.out, B3.out, by omega⟩)
        clear hxb g0 g1 g2 g3 g4 g5 pc
        go_wp2_with (fail)
        go_loopw [22] (fun s22 wk => ∃ k : Nat, s22 = .int .i64 k ∧ k ≤ un ∧ Hid (XRk wo xb id item fr ut (qty - usum (U.take k) id) wk)) (fun s22 _ => un - (intOf s22).toNat)
        case atStart => exact ⟨0, rfl, Nat.zero_le _, X0⟩
        case round =>
          clear X0
          obtain ⟨k, rfl, hk, HXk⟩ := hrel
          obtain ⟨wx, hwx⟩ : ∃ V, V = wr := ⟨_, rfl⟩
          rw [← hwx] at HXk ⊢
          clear hwx
          have bdk := Hbd.out (by trivial) k (by rw [← HUn.out]; exact hk)
          try simp only at bdk
          have HWX := Lib.hid (HR.out.below.trans (HXk.out.below.mono HR.out.below.size))
          obtain ⟨x0, x1, x2, x3, x4, x5⟩ := lotObj_cells HXk.out.obj
          by_cases hlk : k < un
          · obtain ⟨b5, o5, rfl, hb5, hc5⟩ := useE_at (HU.out.below HWX.out) (by omega)
            obtain ⟨-, u1, u2⟩ := hc5 k hlk
            have hkU := Lib.hid (show k < U.length by rw [← HUn.out]; exact hlk)
            have hsu := Lib.hid (usum_succ hkU.out id)
            have bdk1 := Hbd.out (by trivial) (k + 1) hkU.out
            try simp only at bdk1
            have hoku := Lib.hid (HU.out.ok_at hlk)
            clear hc5
            generalize U.getD k default = u at u1 u2 hsu hoku
            obtain ⟨uw, ul, uq⟩ := u
            simp only at u1 u2
            generalize usum (U.take k) id = sk at x0 x1 x2 x3 x4 x5 HXk hsu bdk
            have HSU := Lib.hid (show usum (U.take (k + 1)) id = sk + if ul = id then uq else 0 from hsu.out)
            by_cases hul : ul = id
            · have e1 : Hid (usum (U.take (k + 1)) id = sk + uq) := Lib.hid (by rw [HSU.out, if_pos hul])
              rw [e1.out] at bdk1
              subst hul
              have HX1 : Hid (XRk wo xb ul item fr ut (qty - usum (U.take (k + 1)) ul) ((wx.setCell ⟨xb, 4, none⟩ (.int .i64 (qty - sk - uq))))) := Lib.hid (by rw [e1.out, show qty - (sk + uq) = qty - sk - uq by omega]; exact HXk.out.set _)
              have f4 := lot_frozen HXk.out.obj 4
              have hwr : IntKind.i64.wrap (qty - sk - uq) = qty - sk - uq := wrap_in (by omega) (by omega)
              go_wp2_with (fail)
              go_quiet (fail)
              go_wp2_with (fail)
              have y4 : ((wx.drewN nq).drew).cell? ⟨xb, 4, none⟩ = some (.int .i64 (qty - sk)) := x4
              have y2 : ((wx.drewN nq).drew).cell? ⟨b5, o5 + k * 3 + 2, none⟩ = some (.int .i64 uq) := u2
              have yf : ((wx.drewN nq).drew).frozen? ⟨xb, 4, none⟩ = false := f4
              go_big_region_o
              go_wp2_with (fail)
              go_roundw
              case rel => exact ⟨k + 1, by go_num, by omega, Lib.hid ⟨HX1.out.obj, HX1.out.below.trans ⟨rfl, rfl, rfl, Nat.le_refl _, fun _ _ => rfl⟩, HX1.out.lo⟩⟩
              case measure => simp [intOf]; omega
            · have HX1 : Hid (XRk wo xb id item fr ut (qty - usum (U.take (k + 1)) id) wx) := Lib.hid (by rw [HSU.out, if_neg hul, Int.add_zero]; exact HXk.out)
              go_wp2_with (fail)
              go_quiet (fail)
              go_wp2_with (fail)
              go_roundw
              case rel => exact ⟨k + 1, by go_num, by omega, Lib.hid (HX1.out.drew _)⟩
              case measure => simp [intOf]; omega
          · have hkn : un = k := by omega
            have HX := Lib.hid (HR.out.blw HXk.out.below)
            have pc3 := HPC.out _ HX.out.below
            have g5 := HC5.out _ HX.out.below
            have e4 := (stObj_cells HX.out.obj).2.2.2.2.1
            have HT : Hid (lessL (usum U) ⟨id, item, fr, ut, qty, true⟩ = ⟨id, item, fr, ut, qty - usum (U.take k) id, true⟩) := Lib.hid (by
              have : U.take k = U := List.take_of_length_le (by rw [← HUn.out]; omega)
              rw [this]
              rfl)
            generalize qty - usum (U.take k) id = qk at x0 x1 x2 x3 x4 x5 HXk bdk HT
            subst hkn
            by_cases hq0 : 0 < qk
            · have HS : Hid (leftL (usum U) (L.take (j + 1)) = leftL (usum U) (L.take j) ++ [⟨id, item, fr, ut, qk, true⟩]) := Lib.hid (by rw [Hsucc.out, HT.out, if_pos (by simp only [decide_eq_true hq0, Bool.true_or])])
              have hOA : Hid (lotE.Own (o + 1) (wx.alloc (.cells #[.int .i64 id, .string ⟨item.toArray⟩, .int .i64 fr, .int .i64 ut, .int .i64 qk, .bool true] 46)) (.slice va vn vc) (leftL (usum U) (L.take j))) := Lib.hid (HX.out.own.below (below_alloc _ _))
              have hsA : Hid (o < wx.heap.size) := Lib.hid HX.out.lt
              have e4 := (stObj_cells HX.out.obj).2.2.2.2.1
              have HG : Hid (∀ w9 : World, (wx.alloc (.cells #[.int .i64 id, .string ⟨item.toArray⟩, .int .i64 fr, .int .i64 ut, .int .i64 qk, .bool true] 46)).grownBy w9 (Value.slice va vn vc).ownBlock → w9.heap[o]? = some (stObj now nl nx (.slice a1 n1 c1) (.slice va vn vc) (.slice a3 n3 c3)) ∧ Below W.heap.size W w9 ∧ o < w9.heap.size) := Lib.hid fun w9 hg => ⟨(hg.block o (by rw [World.size_alloc]; have := hsA.out; omega) (fun e => by have := (hOA.out.ge o e.symm).1; omega)).trans (((below_alloc _ _).block o hsA.out).trans HX.out.obj), (HX.out.below.trans ((below_alloc _ _).mono HX.out.below.size)).grown hg (HX.out.below.trans ((below_alloc _ _).mono HX.out.below.size)).size (fun k e => by have := (hOA.out.ge k e).1; have := HX.out.lo; omega), by have := hg.size; rw [World.size_alloc] at this; have := hsA.out; omega⟩
              go_wp2_with (at_builtin; refine El.wpList_append1 lotE rfl _ _ rfl (o + 1) (.slice va vn vc) (leftL (usum U) (L.take j)) ⟨id, item, fr, ut, qk, true⟩ (vn + 1) (by rw [← hNN.out.1]) rfl hOA.out _ 1 rfl (lotE_lit _ ⟨id, item, fr, ut, qk, true⟩ _) (by rw [World.size_alloc]; have := hsA.out; omega) (by have := hNN.out; omega) ?_; intro g9 c9 w9 hown9 hg9 hgg9; obtain ⟨k9, b9, s9⟩ := HG.out w9 hg9; have d4 := (stObj_cells k9).2.2.2.2.1; have fz4 := st_frozen k9 4; have K9 := Lib.hid k9; have B9 := Lib.hid b9; have S9 := Lib.hid s9; have O9 := Lib.hid hown9; clear hown9 hg9 hgg9 k9 b9 s9)
              have R9 : Hid (LRk W o now nl nx (.slice a1 n1 c1) (.slice a3 n3 c3) L U (j + 1) (.slice (some ⟨g9, 0, none⟩) (vn + 1) c9) (w9.setCell ⟨o, 4, none⟩ (.slice (some ⟨g9, 0, none⟩) (vn + 1) c9))) := Lib.hid ⟨st_put4 K9.out _, by rw [HS.out]; exact O9.out.keep fun b e => setCell_block _ _ _ _ (by have := (O9.out.ge b e).1; omega), below_set B9.out _ _ _ HX.out.lo, by rw [size_setCell]; exact S9.out, HX.out.lo⟩
              go_roundw
              case rel => exact ⟨j + 1, some ⟨g9, 0, none⟩, vn + 1, c9, by go_num, by omega, R9⟩
              case measure => simp [intOf]; omega
            · have HS : Hid (leftL (usum U) (L.take (j + 1)) = leftL (usum U) (L.take j)) := Lib.hid (by rw [Hsucc.out, HT.out, if_neg (by simp only [decide_eq_false hq0]; decide), List.append_nil])
              have R9 : Hid (LRk W o now nl nx (.slice a1 n1 c1) (.slice a3 n3 c3) L U (j + 1) (.slice va vn vc) wx) := Lib.hid ⟨HX.out.obj, by rw [HS.out]; exact HX.out.own, HX.out.below, HX.out.lt, HX.out.lo⟩
              go_wp2_with (fail)
              go_roundw
              case rel => exact ⟨j + 1, va, vn, vc, by go_num, by omega, R9⟩
              case measure => simp [intOf]; omega
    · have hjn : n2 = j := by omega
      have hv : vn = (leftL (usum U) L).length := by
        obtain ⟨a9, c9, e9, -⟩ := HR.out.own.form
        injection e9 with e1 e2 e3
        rw [e2, List.take_of_length_le (by rw [← HLn.out]; omega)]
      subst hv
      have HE := Lib.hid (HEND.out va vc wo (by have h := HR.out; rw [← hjn, HLn.out] at h; exact h))
      clear HEND
      go_upto_region 34 with (fail)
      iterate 25 go_step
      exact HE.out _ _ _ _ _ _ _ _ _ _ _ _ _ _ _ _ _ _ _ _ _ _ _ _ _ _ _ _ _ _ _ _ _ _ _ _ _ _ _ _ _ _ _ _ _ _ _ _ _ _ _ _ _ _ _ _ _ _ _ _ _ _ _ _ _ _ _ _ _ _ _ _ _ _ _ _ _ _ _ _ _ _ _ _ _ _ _ _ _ _ _ _ _ _ _ _ _ _ _ _ _ _ _ _ _ _ _ _ _ _ _ _ _ _ _ _ _ _ _ _ _ _ _ _ _ _ _ _ _ _ _ _ _ _ _ _ _ _ _ _ _ _ _ _ _ _ _ _ _ _ _ _ _ _ _ _ _ _ _ _ _ _ _ _ _ _ _ _ _ _ _ _ _ _ _ _ _ _ _ _ _ _ _ _ _ _ _ _ _ _ _ _ _ _ _
end Go.Proofs.YtbedbhlebfnohaaGreat
