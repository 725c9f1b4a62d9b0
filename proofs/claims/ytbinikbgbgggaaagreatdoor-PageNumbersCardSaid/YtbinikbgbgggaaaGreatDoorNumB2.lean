/- storemanlaw21.PageNumbers: its walk, the middle. -/
import Derived.Test.YtbinikbgbgggaaaGreatDoorNumB1
namespace Go.Proofs.YtbinikbgbgggaaaGreatDoor
open Go.RowKit Go.Shelf

section
set_option maxHeartbeats 16000000 in
set_option maxRecDepth 1000000 in
theorem numbers_mid {L0 zk zg zk2 t54 t55 t179 x41 x181 n1 n2 n3 n4 n5 n6 : List UInt8} {b512 b513 b180 b40 b41 b181 : Array Value} (w w8 : World) (hnear : ∀ W : World, Calls Tryz.prog 22 #[] W fun e W' => e = .returned (.bool true) ∧ Below W.heap.size W W') (hF : NF L0 zk zg zk2 t54 t55 t179 x41 x181 n1 n2 n3 n4 n5 n6 b512 b513 b180 b40 b41 b181) (g gb y2 : Nat) (a2 : Option Addr) (c2 : Nat) (S8 : Hid (NS w w8 g (gb + 1) gb (gb + 1 + 1) y2 a2 c2 zk zg zk2 n4)) (sl0 sl6 sl7 sl8 sl9 sl10 sl11 sl12 sl13 sl14 sl15 sl16 sl17 sl18 sl19 sl20 sl21 sl22 sl23 sl24 sl25 sl26 sl27 sl28 sl29 sl30 sl31 sl32 sl33 sl34 sl35 sl36 sl37 sl38 sl39 sl40 sl41 sl42 sl43 sl44 sl45 sl46 sl47 sl48 sl49 sl50 sl51 sl52 sl53 sl54 sl55 sl56 sl57 sl58 sl59 sl60 sl61 sl62 sl63 sl64 sl65 sl66 sl67 sl68 sl69 sl70 sl71 sl72 sl73 sl74 sl75 sl76 sl77 sl78 sl79 sl80 sl81 sl82 sl83 sl84 sl85 sl86 sl87 sl88 sl89 sl90 sl91 sl92 sl93 sl94 sl95 sl96 sl97 sl98 sl99 sl100 sl101 sl102 sl103 sl104 sl105 sl106 sl107 sl108 sl109 sl110 sl111 sl112 sl113 sl114 sl115 sl116 sl117 sl118 sl119 sl120 sl121 sl122 sl123 sl124 sl125 sl126 sl127 sl128 sl129 sl130 sl131 sl132 sl133 sl134 sl135 sl136 sl137 sl138 sl139 sl140 sl141 sl142 sl143 sl144 sl145 sl146 sl147 sl148 sl149 sl150 sl151 sl152 sl153 sl154 sl155 sl156 sl157 sl158 sl159 sl160 sl161 sl162 sl163 sl164 sl165 sl166 sl167 sl168 sl169 sl170 sl171 sl172 sl173 sl174 sl175 sl176 sl177 sl178 sl179 sl180 sl181 sl182 sl183 sl184 sl185 sl186 sl187 sl188 sl189 sl190 sl191 sl192 sl193 sl194 sl195 sl196 sl197 sl198 sl199 sl200 sl201 sl202 sl203 sl204 sl205 sl206 sl207 sl208 sl209 sl210 sl211 sl212 sl213 sl214 sl215 sl216 sl217 sl218 sl219 sl220 sl221 sl222 sl223 sl224 sl225 sl226 sl227 sl228 sl229 sl230 sl231 sl232 sl233 sl234 sl235 sl236 sl237 sl238 sl239 sl240 sl241 sl242 sl243 sl244 sl245 sl246 sl247 sl248 sl249 sl250 sl251 sl252 sl253 sl254 sl255 sl256 sl257 sl258 sl259 sl260 : Value) :
    Code.wp Tryz.prog (dropC 7 (Tryz.f4.body.getD .skip)) (bodyPost Tryz.prog Tryz.f4 fun e w' => e = .returned (.bool true) ∧ Below w.heap.size w w') ⟨List.toArray (sl0 :: .slice (some ⟨g, 0, none⟩) 512 512 :: .slice (some ⟨gb, 0, none⟩) 180 180 :: .slice (some ⟨gb + 1, 0, none⟩) 40 40 :: .pointer (some ⟨gb + 1 + 1, 0, none⟩) :: .pointer (some ⟨y2, 0, none⟩) :: sl6 :: sl7 :: sl8 :: sl9 :: sl10 :: sl11 :: sl12 :: sl13 :: sl14 :: sl15 :: sl16 :: sl17 :: sl18 :: sl19 :: sl20 :: sl21 :: sl22 :: sl23 :: sl24 :: sl25 :: sl26 :: sl27 :: sl28 :: sl29 :: sl30 :: sl31 :: sl32 :: sl33 :: sl34 :: sl35 :: sl36 :: sl37 :: sl38 :: sl39 :: sl40 :: sl41 :: sl42 :: sl43 :: sl44 :: sl45 :: sl46 :: sl47 :: sl48 :: sl49 :: sl50 :: sl51 :: sl52 :: sl53 :: sl54 :: sl55 :: sl56 :: sl57 :: sl58 :: sl59 :: sl60 :: sl61 :: sl62 :: sl63 :: sl64 :: sl65 :: sl66 :: sl67 :: sl68 :: sl69 :: sl70 :: sl71 :: sl72 :: sl73 :: sl74 :: sl75 :: sl76 :: sl77 :: sl78 :: sl79 :: sl80 :: sl81 :: sl82 :: sl83 :: sl84 :: sl85 :: sl86 :: sl87 :: sl88 :: sl89 :: sl90 :: sl91 :: sl92 :: sl93 :: sl94 :: sl95 :: sl96 :: sl97 :: sl98 :: sl99 :: sl100 :: sl101 :: sl102 :: sl103 :: sl104 :: sl105 :: sl106 :: sl107 :: sl108 :: sl109 :: sl110 :: sl111 :: sl112 :: sl113 :: sl114 :: sl115 :: sl116 :: sl117 :: sl118 :: sl119 :: sl120 :: sl121 :: sl122 :: sl123 :: sl124 :: sl125 :: sl126 :: sl127 :: sl128 :: sl129 :: sl130 :: sl131 :: sl132 :: sl133 :: sl134 :: sl135 :: sl136 :: sl137 :: sl138 :: sl139 :: sl140 :: sl141 :: sl142 :: sl143 :: sl144 :: sl145 :: sl146 :: sl147 :: sl148 :: sl149 :: sl150 :: sl151 :: sl152 :: sl153 :: sl154 :: sl155 :: sl156 :: sl157 :: sl158 :: sl159 :: sl160 :: sl161 :: sl162 :: sl163 :: sl164 :: sl165 :: sl166 :: sl167 :: sl168 :: sl169 :: sl170 :: sl171 :: sl172 :: sl173 :: sl174 :: sl175 :: sl176 :: sl177 :: sl178 :: sl179 :: sl180 :: sl181 :: sl182 :: sl183 :: sl184 :: sl185 :: sl186 :: sl187 :: sl188 :: sl189 :: sl190 :: sl191 :: sl192 :: sl193 :: sl194 :: sl195 :: sl196 :: sl197 :: sl198 :: sl199 :: sl200 :: sl201 :: sl202 :: sl203 :: sl204 :: sl205 :: sl206 :: sl207 :: sl208 :: sl209 :: sl210 :: sl211 :: sl212 :: sl213 :: sl214 :: sl215 :: sl216 :: sl217 :: sl218 :: sl219 :: sl220 :: sl221 :: sl222 :: sl223 :: sl224 :: sl225 :: sl226 :: sl227 :: sl228 :: sl229 :: sl230 :: sl231 :: sl232 :: sl233 :: sl234 :: sl235 :: sl236 :: sl237 :: sl238 :: sl239 :: sl240 :: sl241 :: sl242 :: sl243 :: sl244 :: sl245 :: sl246 :: sl247 :: sl248 :: sl249 :: sl250 :: sl251 :: sl252 :: sl253 :: sl254 :: sl255 :: sl256 :: sl257 :: sl258 :: sl259 :: sl260 :: []), []⟩ w8 := by
  have HNR := Lib.hid hnear
  have HFR := Lib.hid hF
  have HN := Lib.hid hnear
  clear hnear
  have F := Lib.hid hF
  have m180 := hF.m180
  have m40 := hF.m40
  have m41 := hF.m41
  have m181 := hF.m181
  have m512 := hF.m512
  have m513 := hF.m513
  have hlk := hF.lk
  clear hF
  have l107 : ([107] : List UInt8).length = 1 := rfl
  have l120 : ([120] : List UInt8).length = 1 := rfl
  have l122 : ([122] : List UInt8).length = 1 := rfl
  have lnil : ([] : List UInt8).length = 0 := rfl
  have z0 : 0 ≤ 140737488355328 := by decide
  have z1 : 1 ≤ 140737488355328 := by decide
  have z54 : 54 ≤ 140737488355328 := by decide
  have z55 : 55 ≤ 140737488355328 := by decide
  conv => arg 2; whnf
  go_upto_region 8 with (fail)
  go_cut [139] (fun s139 wx => s139 = .bool false ∧ Hid (NS w wx g (gb + 1) gb (gb + 1 + 1) y2 a2 c2 zk zg zk2 n4))
  case first =>
--(
    go_wp2_with (fail)
    go_at_call 14
    refine ((S8.out.alloc _).turn _ _ _ _ _ _ _ _ _ _ _ _ F.out.q9 (S8.out.new (F.out.r41 _)) (RBn.emp' _ _ _) (S8.out.alloc _).bb).mono ?_
    rintro e v9 ⟨rfl, hS⟩
    have S9 := Lib.hid hS
    clear hS S8
    go_wp2_with (fail)
    go_at_call 14
    refine ((S9.out.alloc _).turn _ _ _ _ _ _ _ _ _ _ _ _ F.out.q10 (S9.out.alloc _).kb (RBn.emp' _ _ _) (S9.out.new (F.out.r181 _))).mono ?_
    rintro e v10 ⟨rfl, hS⟩
    have S10 := Lib.hid hS
    clear hS S9
    go_wp2_with (fail)
    go_at_call 14
    refine ((S10.out.alloc _).turn _ _ _ _ _ _ _ _ _ _ _ _ F.out.q11 (S10.out.alloc _).kb (S10.out.new (F.out.r181 _)) (RBn.emp' _ _ _)).mono ?_
    rintro e v11 ⟨rfl, hS⟩
    have S11 := Lib.hid hS
    clear hS S10
    go_wp2_with (fail)
    go_at_call 14
    refine (S11.out.turn _ _ _ _ _ _ _ _ _ _ _ _ F.out.q12 (RBn.emp' _ _ _) (RBn.emp' _ _ _) S11.out.bb).mono ?_
    rintro e v12 ⟨rfl, hS⟩
    have S12 := Lib.hid hS
    clear hS S11
    go_wp2_with (fail)
    go_at_call 14
    refine (S12.out.turn _ _ _ _ _ _ _ _ _ _ _ _ F.out.q13 S12.out.kb (S12.out.big 179 (by decide) F.out.e179) (RBn.emp' _ _ _)).mono ?_
    rintro e v13 ⟨rfl, hS⟩
    have S13 := Lib.hid hS
    clear hS S12
    go_wp2_with (fail)
    go_at_call 14
    refine (S13.out.turn _ _ _ _ _ _ _ _ _ _ _ _ F.out.q14 S13.out.kb (RBn.emp' _ _ _) S13.out.bb).mono ?_
    rintro e v14 ⟨rfl, hS⟩
    have S14 := Lib.hid hS
    clear hS S13
    go_wp2_with (fail)
    go_at_call 16
    refine (S14.out.textsM [122] [120] [] 1 1 0 l122 l120 lnil z1 z1 z0).mono ?_
    rintro e v15 ⟨⟨k0, k1, o0, o1, n0, n1', rfl, r0, r1, r2⟩, hS⟩
    have S15 := Lib.hid hS
    have R0 := Lib.hid r0
    have R1 := Lib.hid r1
    have R2 := Lib.hid r2
    clear hS S14 r0 r1 r2
    go_wp2_with (fail)
    go_at_call 14
    refine (S15.out.turn _ _ _ _ _ _ _ _ _ _ _ _ F.out.q15 R0.out R1.out R2.out).mono ?_
    rintro e v16 ⟨rfl, hS⟩
    have S16 := Lib.hid hS
    clear hS S15 R0 R1 R2
    obtain ⟨x0, x1, x2⟩ := S16.out.o1.cells
    have HT := Lib.hid (Turn_no 0 none 0 0 [] (some ⟨gb + 1, 0, none⟩) none (some ⟨gb, 0, none⟩) 40 40 0 0 180 180 v16 (RB.emp _) (Nat.zero_le _) p12)
    go_wp2_with (fail)
    go_at_call 14
    refine HT.out.mono ?_
    rintro e v17 ⟨rfl, hb⟩
    have S17 := Lib.hid (S16.out.below hb)
    clear hb S16 x0 x1 x2 HT
    go_wp2_with (fail)
    go_meet
    case rel => exact ⟨rfl, S17⟩
--)
  case rest =>
  obtain ⟨rfl, S17⟩ := hcut
  clear S8
  go_upto_region 10 with (fail)
  go_cut [177] (fun s177 wx => s177 = .bool false ∧ Hid (Below w.heap.size w wx))
  case first =>
--(
    go_wp2_with (fail)
    go_at_call 17
    refine (S17.out.setLsn (9223372036854775807) (by decide) F.out.p1 F.out.p1').mono ?_
    rintro e v18 ⟨rfl, hS⟩
    have S18 := Lib.hid hS
    clear hS S17
    go_wp2_with (fail)
    go_at_call 17
    refine (S18.out.setLsn (-1) (by decide) F.out.p2 F.out.p3).mono ?_
    rintro e v19 ⟨rfl, hS⟩
    have S19 := Lib.hid hS
    clear hS S18
    go_wp2_with (fail)
    go_at_call 18
    refine (S19.out.lsn F.out.p4).mono ?_
    rintro e v20 ⟨rfl, hS⟩
    have S20 := Lib.hid hS
    clear hS S19
    go_wp2_with (fail)
    go_at_call 19
    refine (S20.out.setNext (8191) F.out.p5 F.out.p5').mono ?_
    rintro e v21 ⟨rfl, hS⟩
    have S21 := Lib.hid hS
    clear hS S20
    go_wp2_with (fail)
    go_at_call 19
    refine (S21.out.setNext (8192) F.out.p6 F.out.p7).mono ?_
    rintro e v22 ⟨rfl, hS⟩
    have S22 := Lib.hid hS
    clear hS S21
    go_wp2_with (fail)
    go_at_call 19
    refine (S22.out.setNext (-1) F.out.p8 F.out.p9).mono ?_
    rintro e v23 ⟨rfl, hS⟩
    have S23 := Lib.hid hS
    clear hS S22
    go_wp2_with (fail)
    go_at_call 20
    refine (S23.out.next F.out.p10).mono ?_
    rintro e v24 ⟨rfl, hS⟩
    have S24 := Lib.hid hS
    clear hS S23
    have HT := Lib.hid (SetLsn_no v24.heap.size (some ⟨g, 0, none⟩) 511 512 (n6.take 511) 1 v24 (S24.out.pg.rb.take 511 (by decide)) (Nat.le_refl _) F.out.p11)
    go_wp2_with (fail)
    go_at_call 17
    refine HT.out.mono ?_
    rintro e v25 ⟨rfl, hb⟩
    have S25 := Lib.hid (S24.out.below hb)
    clear hb S24 HT
    have HT := Lib.hid (SetNext_no 0 none 0 0 [] 1 v25 (RB.emp _) (Nat.zero_le _) p12)
    go_wp2_with (fail)
    go_at_call 19
    refine HT.out.mono ?_
    rintro e v26 ⟨rfl, hb⟩
    have B26 := Lib.hid (S25.out.bl.trans (hb.mono S25.out.bl.size))
    clear hb S25 HT
    go_wp2_with (fail)
    go_meet
    case rel => exact ⟨rfl, B26⟩
--)
  case rest =>
  obtain ⟨rfl, B26⟩ := hcut
  go_step
  go_step
  go_step
  go_step
  go_step
  exact numbers_tail w _ HNR.out HFR.out B26 _ _ _ _ _ _ _ _ _ _ _ _ _ _ _ _ _ _ _ _ _ _ _ _ _ _ _ _ _ _ _ _ _ _ _ _ _ _ _ _ _ _ _ _ _ _ _ _ _ _ _ _ _ _ _ _ _ _ _ _ _ _ _ _ _ _ _ _ _ _ _ _ _ _ _ _ _ _ _ _ _ _ _ _ _ _ _ _ _ _ _ _ _ _ _ _ _ _ _ _ _ _ _ _ _ _ _ _ _ _ _ _ _ _ _ _ _ _ _ _ _ _ _ _ _ _ _ _ _ _ _ _ _ _ _ _ _ _ _ _ _ _ _ _ _ _ _ _ _ _ _ _ _ _ _ _ _ _ _ _ _ _ _ _ _ _ _ _ _ _ _ _ _ _ _ _ _ _ _ _ _ _ _ _ _ _ _ _ _ _ _ _ _ _ _ _ _ _ _ _ _ _ _ _ _ _ _ _ _ _ _ _ _ _ _ _ _ _ _ _ _ _ _ _ _ _ _ _ _ _ _ _ _ _ _ _ _ _ _ _ _ _ _ _ _ _ _ _ _ _ _ _ _ _ _ _ _ _ _ _ _
end
end Go.Proofs.YtbinikbgbgggaaaGreatDoor
