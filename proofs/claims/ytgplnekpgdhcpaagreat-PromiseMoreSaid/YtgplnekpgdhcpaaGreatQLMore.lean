/- PromiseMore: its walk. (Printed by gen/lmore.py.) -/
import Derived.Test.YtgplnekpgdhcpaaGreatQLMoreT
import Derived.Test.YtgplnekpgdhcpaaGreatQStM
import Derived.Test.YtgplnekpgdhcpaaGreatQPromO
import Derived.Test.YtgplnekpgdhcpaaGreatQLineK
import Derived.Test.YtgplnekpgdhcpaaGreatQTwSt
import Derived.Test.YtgplnekpgdhcpaaGreatQFillQ
import Derived.Deep.DeepCutAuto
import Derived.Test.YtgplnekpgdhcpaaGreatKChkOne
namespace Go.Proofs.YtgplnekpgdhcpaaGreat
open Go.RowKit Go.Sort Go.Lib Go.Shelf
theorem lotObj_src {W:World} {p:Nat} {id:Int} {item:List UInt8} {fr un qty:Int} {arr:Bool} (h:W.heap[p]? = some (lotObj id item fr un qty arr)):∀ j u,(lotE.cells [(⟨id,item,fr,un,qty,arr⟩:LotV)])[j]? = some u->W.cell? ((⟨p,0,none⟩:Addr).add j)=some u:=fun j u hj=>by
 have e:lotE.cells [(⟨id,item,fr,un,qty,arr⟩:LotV)]=[.int .i64 id,encStr item,.int .i64 fr,.int .i64 un,.int .i64 qty,.bool arr]:=rfl
 rw[e] at hj
 obtain⟨c0,c1,c2,c3,c4,c5⟩:=lotObj_cells h
 have ea:(⟨p,0,none⟩:Addr).add j=⟨p,j,none⟩:=by
  simp[Addr.add]
  exact fun h=>h.symm
 rw[ea]
 match j,hj with
 | 0,hj=>exact c0.trans hj
 | 1,hj=>exact c1.trans hj
 | 2,hj=>exact c2.trans hj
 | 3,hj=>exact c3.trans hj
 | 4,hj=>exact c4.trans hj
 | 5,hj=>exact c5.trans hj
theorem ent_cloneLt:Enters Tryz.prog 25:=enters_of Tryz.func25 (by kernel_rfl) rfl
theorem st_put4M {W:World} {q:Nat} {now nl nx:Int} {u1 u2 u3:Value} (hq:W.heap[q]? = some (stObj now nl nx u1 u2 u3)) (v:Value):(W.setCell ⟨q,4,none⟩ v).heap[q]? = some (stObj now nl nx u1 v u3):=by
 unfold stObj at *
 simp[setCell_eq,mapBlock,Array.getElem?_modify,hq,onCells]
set_option maxHeartbeats 16000000 in
set_option maxRecDepth 100000 in
theorem PromiseMore_any (B:Nat) (now nl nx:Int) (a1:Option Addr) (n1 c1:Nat) (X:List It) (a2:Option Addr) (n2 c2:Nat) (L:List LotV) (a3:Option Addr) (n3 c3:Nat) (N:List LineV) (y:LotV) (w:World) (hX:RI B w a1 n1 c1 X) (hL:lotE.In B w a2 n2 c2 L) (hN:lineE.In B w a3 n3 c3 N) (hsz:∀ x∈X,x.ps.length * 24<=140737488355328/\x.os.length * 16<=140737488355328) (hB:B<=w.heap.size) (hy:okLot y) :
  Calls Tryz.prog 6 #[.agg #[.int .i64 now,.int .i64 nl,.int .i64 nx,.slice a1 n1 c1,.slice a2 n2 c2,.slice a3 n3 c3],y.val] w fun e w'=>e = .returned (.bool true)/\Below w.heap.size w w':=by
 have HY:=Lib.hid hy
 obtain⟨id,item,fr,un,qty,arr⟩:=y
 obtain⟨W0,hW0⟩:∃ V,V=(w.alloc (stObj now nl nx (.slice a1 n1 c1) (.slice a2 n2 c2) (.slice a3 n3 c3))).alloc (lotObj id item fr un qty arr):=⟨_,rfl⟩
 have s1:=World.size_alloc w (stObj now nl nx (.slice a1 n1 c1) (.slice a2 n2 c2) (.slice a3 n3 c3))
 have hbb:=below_allocL w (stObj now nl nx (.slice a1 n1 c1) (.slice a2 n2 c2) (.slice a3 n3 c3))
 have hbc:=below_allocL (w.alloc (stObj now nl nx (.slice a1 n1 c1) (.slice a2 n2 c2) (.slice a3 n3 c3))) (lotObj id item fr un qty arr)
 have hB0:Below w.heap.size w W0:=by rw[hW0];exact hbb.trans (hbc.mono hbb.size)
 have hp0:W0.heap[w.heap.size]? = some (stObj now nl nx (.slice a1 n1 c1) (.slice a2 n2 c2) (.slice a3 n3 c3)):=by rw[hW0,hbc.block _ (by omega)];exact heap_alloc_new _ _
 have hq0:W0.heap[w.heap.size+1]? = some (lotObj id item fr un qty arr):=by rw[hW0,<- s1];exact heap_alloc_new _ _
 have hs0:w.heap.size+1 < W0.heap.size:=(Array.getElem?_eq_some_iff.1 hq0).1
 have HC:=Lib.hid (fun (V:World) (hb:Below W0.heap.size W0 V)=>(And.intro (stObj_cells ((hb.block w.heap.size (by omega)).trans hp0)) (lotObj_cells ((hb.block (w.heap.size+1) hs0).trans hq0))))
 have HPQ:=Lib.hid (fun (V:World) (hb:Below W0.heap.size W0 V)=>(And.intro ((hb.block w.heap.size (by omega)).trans hp0) ((hb.block (w.heap.size+1) hs0).trans hq0)))
 have HA:=Lib.hid (awake_any W0)
 have hs1:w.heap.size<=W0.heap.size:=by omega
 have HRg:=Lib.hid (fun (V:World) (hb:Below W0.heap.size W0 V)=>lRight_any B now nl nx a1 n1 c1 X a2 n2 c2 L a3 n3 c3 N V (hX.below ((hB0.trans (hb.mono hs1)).mono hB)) (hL.below ((hB0.trans (hb.mono hs1)).mono hB)) (hN.below ((hB0.trans (hb.mono hs1)).mono hB)) hsz (Nat.le_trans hB (hB0.trans (hb.mono hs1)).size))
 have HIN:=Lib.hid (fun (V:World) (hb:Below W0.heap.size W0 V)=>(show RI V.heap.size V a1 n1 c1 X/\lotE.In V.heap.size V a2 n2 c2 L/\lineE.In V.heap.size V a3 n3 c3 N from
  have hz:=Nat.le_trans hB (hB0.trans (hb.mono hs1)).size
  ⟨(hX.below ((hB0.trans (hb.mono hs1)).mono hB)).mono hz,(hL.below ((hB0.trans (hb.mono hs1)).mono hB)).mono hz,(hN.below ((hB0.trans (hb.mono hs1)).mono hB)).mono hz⟩))
 have HLL:=Lib.hid hL.len
 have HLF:=Lib.hid hL.fine
 have HB0:=Lib.hid hB0
 have HW0:Hid ((w.alloc (stObj now nl nx (.slice a1 n1 c1) (.slice a2 n2 c2) (.slice a3 n3 c3))).alloc (lotObj id item fr un qty arr)=W0):=Lib.hid hW0.symm
 have HSZ:=Lib.hid hsz
 have hle2:=hL.le
 have hmx2:=hL.mx
 obtain⟨⟨y0,y1,y2,y3,y4,y5⟩,⟨l0,l1,l2,l3,l4,l5⟩⟩:=HC.out W0 (Below.refl _ _)
 have HS1:=Lib.hid hs1
 have HS0:=Lib.hid hs0
 unfold lotObj stObj at HW0
 unfold LotV.val encStr
 simp only
 clear hX hL hN hsz hB0 hp0 hq0 hW0 hs0 s1 hbb hbc hy hB
 by_cases h12:12<=n2
 ·have e12:decide ((12:Int)<=(n2:Int))=true:=by simp;omega
  go_enter Tryz.func6,Tryz.ntmps6
  go_upto_region 1 with (fail)
  have HW:=HW0.out
  simp only[List.toArray] at HW
  rw[HW]
  clear HW
  go_wp2_with (first | (go_at_call 8;refine HA.out.mono ?_;rintro e w1 ⟨rfl,hb1⟩;obtain⟨⟨x0,x1,x2,x3,x4,x5⟩,-⟩:=HC.out w1 hb1;have B1:=Lib.hid hb1;clear hb1) | (go_at_call 20;refine (HRg.out _ B1.out).mono ?_;rintro e w2 ⟨⟨bb,rfl,hbb⟩,hb2⟩;have B2:=Lib.hid (B1.out.trans (hb2.mono B1.out.size));have RB:=Lib.hid hbb;obtain⟨⟨z0,z1,z2,z3,z4,z5⟩,⟨k0,k1,k2,k3,k4,k5⟩⟩:=HC.out w2 B2.out;clear hbb hb2;cases bb))
  all_goals go_ret
  all_goals exact⟨rfl,HB0.out.trans (B2.out.mono hs1)⟩
 have e12:decide ((12:Int)<=(n2:Int))=false:=by simp;omega
 go_enter Tryz.func6,Tryz.ntmps6
 go_upto_region 1 with (fail)
 have HW:=HW0.out
 simp only[List.toArray] at HW
 rw[HW]
 clear HW
 go_upto_region 5 with (first | (go_at_call 8;refine HA.out.mono ?_;rintro e w1 ⟨rfl,hb1⟩;obtain⟨⟨x0,x1,x2,x3,x4,x5⟩,-⟩:=HC.out w1 hb1;have B1:=Lib.hid hb1;clear hb1) | (go_at_call 20;refine (HRg.out _ B1.out).mono ?_;rintro e w2 ⟨⟨bb,rfl,hbb⟩,hb2⟩;have B2:=Lib.hid (B1.out.trans (hb2.mono B1.out.size));have RB:=Lib.hid hbb;obtain⟨⟨z0,z1,z2,z3,z4,z5⟩,⟨k0,k1,k2,k3,k4,k5⟩⟩:=HC.out w2 B2.out;clear hbb hb2;cases bb))
 ·go_wp2_with (fail)
  go_ret
  exact⟨rfl,HB0.out.trans (B2.out.mono hs1)⟩
 have RG:=Lib.hid (RB.out (by first | rfl | trivial))
 obtain⟨W3,hW3⟩:∃ V,V=w2.alloc (.cells #[.int .i64 now,.int .i64 nl,.int .i64 nx,.slice a1 n1 c1,.slice a2 n2 c2,.slice a3 n3 c3] 26):=⟨_,rfl⟩
 have bW3:Below w2.heap.size w2 W3:=by rw[hW3];exact below_allocL _ _
 have q3:W3.heap[w2.heap.size]? = some (stObj now nl nx (.slice a1 n1 c1) (.slice a2 n2 c2) (.slice a3 n3 c3)):=by rw[hW3];exact heap_alloc_new _ _
 have B3:=Lib.hid (B2.out.trans (bW3.mono B2.out.size))
 have HW3:=Lib.hid hW3
 have hl3:w2.heap.size < W3.heap.size:=(Array.getElem?_eq_some_iff.1 q3).1
 obtain⟨tb,htb⟩:∃ t,t=w2.heap.size:=⟨_,rfl⟩
 have HTB:=Lib.hid htb
 have hge:Hid (W0.heap.size<=tb):=Lib.hid (by rw[htb];exact B2.out.size)
 rw[<- htb] at q3 hl3
 have HT:=Lib.hid (fun (V:World) (hb:Below W3.heap.size W3 V)=>(hb.block tb hl3).trans q3)
 have hHT:=stObj_cells (HT.out W3 (Below.refl _ _))
 have HL3:=Lib.hid hl3
 go_upto_region 6 with (fail)
 rw[<- HW3.out,<- HTB.out]
 clear hW3 bW3 q3 htb hl3 x0 x1 x2 x3 x4 x5 z0 z1 z2 z3 z4 z5 k0 k1 k2 k3 k4 k5 y0 y1 y2 y3 y4 y5 l0 l1 l2 l3 l4 l5 hHT
 have bd:=Lib.hid (below_drewP (Below.refl W3.heap.size W3))
 obtain⟨⟨-,-,-,-,s4,-⟩,⟨p0,p1,p2,p3,p4,p5⟩⟩:=HC.out _ (B3.out.trans (bd.out.mono B3.out.size))
 have hbA:Below W3.heap.size W3 (W3.alloc (.cells #[.int .i64 id,.string ⟨item.toArray⟩,.int .i64 fr,.int .i64 un,.int .i64 qty,.bool arr] 50)):=below_allocL _ _
 obtain⟨⟨-,-,-,-,r4,-⟩,⟨o0,o1,o2,o3,o4,o5⟩⟩:=HC.out _ (B3.out.trans (hbA.mono B3.out.size))
 have HCL:Hid (∀ (V:World),Below W3.heap.size W3 V->Calls Tryz.prog 25 #[.slice a2 n2 c2] V fun e w'=>(∃ a' c',e = .returned (.slice a' n2 c')/\lotE.Own W3.heap.size w' (.slice a' n2 c') L)/\Below V.heap.size V w'/\Below W3.heap.size W3 w'):=Lib.hid (fun V hb=>(CopyLots_any V.heap.size a2 n2 c2 L V (HIN.out V (B3.out.trans (hb.mono B3.out.size))).2.1 (by omega)).mono (fun e w' hh=>by
  obtain⟨⟨a8,c8,e8,ho⟩,hb8⟩:=hh
  exact⟨⟨a8,c8,e8,ho.mono hb.size⟩,hb8,hb.trans (hb8.mono hb.size)⟩))
 have HKQ:=Lib.hid (fun (V:World) (hb:Below (W3.drew.alloc (.cells #[.int .i64 id,.string ⟨item.toArray⟩,.int .i64 fr,.int .i64 un,.int .i64 qty,.bool arr] 50)).heap.size (W3.drew.alloc (.cells #[.int .i64 id,.string ⟨item.toArray⟩,.int .i64 fr,.int .i64 un,.int .i64 qty,.bool arr] 50)) V)=>(show V.heap[W3.heap.size]? = some (lotObj id item fr un qty arr) from (hb.block _ (by rw[World.size_alloc];exact Nat.lt_succ_self _)).trans (heap_alloc_new W3.drew _)))
 go_region_law (first | (refine step_call (f:=25) (args:=#[.slice a2 n2 c2]) rfl (run_fn1 rfl rfl ent_cloneLt _ rfl) ?_;refine (HCL.out _ (by first | exact bd.out | exact bd.out.trans ((below_allocL _ _).mono bd.out.size))).mono ?_;rintro e wC ⟨⟨a5,c5,rfl,hoC⟩,hbC,hbD⟩;have BC:=Lib.hid hbD;have OC:=Lib.hid hoC;(first | (have kq:=Lib.hid (HKQ.out wC hbC)) | skip);obtain⟨⟨-,-,-,-,t4,-⟩,⟨t0,t1,t2,t3,t5,t6⟩⟩:=HC.out wC (B3.out.trans (BC.out.mono B3.out.size));clear hoC hbC hbD;refine⟨_,rfl,?_⟩) | (refine step_appendN lotE rfl _ _ rfl W3.heap.size a5 n2 c5 L [(⟨id,item,fr,un,qty,arr⟩:LotV)] 1 rfl HLL.out rfl OC.out (some ⟨W3.heap.size,0,none⟩) 1 rfl (fun _=>⟨_,rfl,lotObj_src kq.out⟩) BC.out.size (by omega) ?_;intro a9 c9 w9 ho9 hg9;have B9:=Lib.hid (BC.out.grown hg9 BC.out.size (fun r e=>(OC.out.ge r e).1));have O9:=Lib.hid ho9;have P9:=HT.out _ B9.out;have f4:=st_frozen P9 4;obtain⟨v0,v1,v2,v3,v4,v5⟩:=stObj_cells P9;clear P9 ho9 hg9) | (refine step_appendN lotE rfl _ _ rfl W3.heap.size a5 n2 c5 L [(⟨id,item,fr,un,qty,arr⟩:LotV)] 1 rfl HLL.out rfl (OC.out.below (below_allocL _ _)) (some ⟨wC.heap.size,0,none⟩) 1 rfl (fun _=>⟨_,rfl,lotObj_src (heap_alloc_new _ _)⟩) (Nat.le_trans BC.out.size (below_allocL _ _).size) (by omega) ?_;intro a9 c9 w9 ho9 hg9;have B9:=Lib.hid ((BC.out.trans ((below_allocL _ _).mono BC.out.size)).grown hg9 (Nat.le_trans BC.out.size (below_allocL _ _).size) (fun r e=>(OC.out.ge r e).1));have O9:=Lib.hid ho9;have P9:=HT.out _ B9.out;have f4:=st_frozen P9 4;obtain⟨v0,v1,v2,v3,v4,v5⟩:=stObj_cells P9;clear P9 ho9 hg9))
 all_goals iterate 2 go_step
 all_goals (
  obtain⟨V,hV⟩:∃ V,V=w9.setCell ⟨tb,4,none⟩ (.slice a9 (n2+1) c9):=⟨_,rfl⟩
  have bV:Below W0.heap.size W0 V:=by rw[hV];exact below_set (B3.out.trans (B9.out.mono B3.out.size)) _ _ _ hge.out
  have oV:lotE.Own W3.heap.size V (.slice a9 (n2+1) c9) (L ++ [(⟨id,item,fr,un,qty,arr⟩:LotV)]):=by rw[hV];exact O9.out.keep (fun b e=>setCell_block _ _ _ _ (by have:=(O9.out.ge b e).1;have:=HL3.out;omega))
  have hV1:V.heap[w.heap.size]? = some (stObj now nl nx (.slice a1 n1 c1) (.slice a2 n2 c2) (.slice a3 n3 c3)):=(HPQ.out V bV).1
  have hV2:V.heap[tb]? = some (stObj now nl nx (.slice a1 n1 c1) (.slice a9 (n2+1) c9) (.slice a3 n3 c3)):=by rw[hV];exact st_put4M (HT.out _ B9.out) _
  have hin:lotE.In V.heap.size V a9 (n2+1) c9 (L ++ [(⟨id,item,fr,un,qty,arr⟩:LotV)]):=by
   obtain⟨a7,c7,e7,h7⟩:=oV.in_ (fun x hx=>by rcases List.mem_append.1 hx with hx | hx;exact HLF.out x hx;rw[List.mem_singleton.1 hx];exact HY.out)
   rw[List.length_append,List.length_singleton,<- HLL.out] at e7 h7
   obtain⟨e1,-,e3⟩:=Value.slice.inj e7
   subst e1
   subst e3
   exact h7
  rw[<- hV]
  have hii:=HIN.out V bV
  exact lmore_tail w.heap.size tb now nl nx a1 n1 c1 X a2 n2 c2 L a9 (n2+1) c9 _ a3 n3 c3 N V (fun e w'=>e = .returned (.bool true)/\Below w.heap.size w w') hii.1 hii.2.1 hin hii.2.2 HSZ.out hV1 hV2 RG.out (fun w' hb=>⟨rfl,HB0.out.trans ((bV.trans (hb.mono bV.size)).mono hs1)⟩) _ _ _ _ _ _ _ _ _ _ _ _ _ _ _ _ _ _ _ _ _ _ _ _ _ _ _ _ _ _ _ _ _ _ _ _ _ _ _ _ _ _ _ _ _ _ _ _ _ _ _ _ _ _ _ _ _ _ _ _ _ _ _ _ _ _ _ _ _ _ _ _ _ _ _ _ _ _ _ _ _ _ _ _ _ _ _ _ _ _ _ _ _ _ _ _ _ _ _ _ _ _ _ _ _ _ _ _ _ _ _ _)
end Go.Proofs.YtgplnekpgdhcpaaGreat
