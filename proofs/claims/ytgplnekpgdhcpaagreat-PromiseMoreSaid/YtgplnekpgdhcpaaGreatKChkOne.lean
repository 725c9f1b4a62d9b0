/- storemanlaw10.tiny, small, awake: walks. flow.Check of lots alone: its walk. storeman/kit.Check, kit.Deep: their walks. -/
import Derived.Test.YtgplnekpgdhcpaaGreatQLineK
import Derived.Test.YtgplnekpgdhcpaaGreatQTwSt
import Derived.Test.YtgplnekpgdhcpaaGreatKRight
import Derived.Test.YtgplnekpgdhcpaaGreatQWantsN
import Derived.Test.YtgplnekpgdhcpaaGreatQFillQ
import Derived.Test.YtgplnekpgdhcpaaGreatKMap
import Derived.Test.YtgplnekpgdhcpaaGreatKDepths
import Derived.Test.YtgplnekpgdhcpaaGreatQMeet
import Derived.Test.YtgplnekpgdhcpaaGreatTxA
import Derived.Test.YtgplnekpgdhcpaaGreatQEnds
import Derived.Test.YtgplnekpgdhcpaaGreatJPureB
import Derived.Laws.OwnMore
import Derived.Laws.StructEq
import Derived.Deep.DeepCutAuto
import Derived.Test.YtgplnekpgdhcpaaGreatQFill
import Derived.Lib.SliceRun
import Derived.Test.YtgplnekpgdhcpaaGreatKCheck
namespace Go.Proofs.YtgplnekpgdhcpaaGreat
open Go.RowKit Go.Sort Go.Lib Go.Shelf
def tX:List It:=[⟨[65],6,none,0,[],none,0,[]⟩]
def tL:List LotV:=[⟨1,[65],3,9,5,true⟩]
def tN1:LineV:=⟨1,[65],4,0,5,1,-1,[]⟩
def tN2:LineV:=⟨2,[65],2,0,1,1,-1,[]⟩
def tN2':LineV:=⟨2,[65],2,0,1,1,3,[65]⟩
def tN:List LineV:=[tN1,tN2]
theorem t_srt:srt tL=tL:=(srt_only (S:=tL) (by decide) (List.Perm.refl _) (List.pairwise_singleton _ _)).symm
theorem t_open:openX tN=[tN2,tN1]:=(openX_only (S:=[tN2,tN1]) (by decide) (by
 have e:tN.filter (fun l=>decide (l.st=1))=tN:=by decide
 rw[e]
 exact List.Perm.swap _ _ _) (by
 refine List.pairwise_cons.2 ⟨fun a ha=>?_,List.pairwise_singleton _ _⟩
 rw[List.mem_singleton.1 ha]
 decide)).symm
theorem t_parts2:partsO tX [65] 2=some [([65],2)]:=by
 have h0:partsE tX [65] 2=0:=by kernel_rfl
 have h1:endL tX [65] 2=some [([65],2)]:=by kernel_rfl
 unfold partsO
 rw[h0,if_pos rfl,h1]
theorem t_parts4:partsO tX [65] 4=some [([65],4)]:=by
 have h0:partsE tX [65] 4=0:=by kernel_rfl
 have h1:endL tX [65] 4=some [([65],4)]:=by kernel_rfl
 unfold partsO
 rw[h0,if_pos rfl,h1]
theorem t_row:rowX tX [65]=[[65]]:=by kernel_rfl
theorem t_left:left0 tL 1=5:=by decide
theorem t_had (q:Int) (hq:1<=q/\q<=5):hadB tL [] [([65],q)] 3=true:=by
 unfold hadB moreW
 rw[List.nil_append,List.map_cons,List.map_nil,fillX_iff]
 refine⟨mayB_parts.2 ⟨by decide,(show (1:Nat)<=20000 by decide),?_⟩,?_⟩
 ·simp only[List.all_cons,List.all_nil,Bool.and_true]
  unfold wantOk
  simp only[Bool.and_eq_true,decide_eq_true_eq]
  exact⟨⟨⟨⟨by decide,by decide⟩,by decide⟩,by omega⟩,by omega⟩
 ·rw[t_srt]
  refine⟨fun _=>q,⟨fun l hl=>?_,by simp[totF,tL]⟩,trivial⟩
  rw[List.mem_singleton.1 hl]
  exact⟨(show 0<=q by omega),by show q<=left0 tL 1;rw[t_left];omega,fun _=>(show (decide (([65]:List UInt8)=[65]) && hasW 3 9 3)=true by decide)⟩
theorem t_no (d:Int):hadB tL [⟨[65],3,2⟩] [([65],4)] d=false:=by
 cases h:hadB tL [⟨[65],3,2⟩] [([65],4)] d with
 | false=>rfl
 | true =>
  unfold hadB moreW at h
  rw[fillX_iff] at h
  obtain⟨-,h2⟩:=h
  rw[t_srt] at h2
  obtain⟨a,⟨-,a2⟩,b,⟨b1,b2⟩,-⟩:=h2
  have k1:=(b1 _ List.mem_cons_self).2.1
  simp only[totF,tL,List.map_cons,List.map_nil,List.sum_cons,List.sum_nil] at a2 b2 k1
  have k2:b 1<=left0 tL 1 - a 1:=k1
  rw[t_left] at k2
  omega
theorem t_day (q:Int) (hq:1<=q/\q<=5):dayX tL [] [([65],q)] (max 0 3) (min (3+400) 4000)=some 3:=dayX_iff.2 ⟨by decide,by decide,t_had q hq,fun y h1 h2=>by omega⟩
theorem t_dayno:dayX tL [⟨[65],3,2⟩] [([65],4)] (max 0 3) (min (3+400) 4000)=none:=by
 cases h:dayX tL [⟨[65],3,2⟩] [([65],4)] (max 0 3) (min (3+400) 4000) with
 | none=>rfl
 | some x =>
  have:=(dayX_iff.1 h).2.2.1
  rw[t_no] at this
  cases this
theorem t_prom2:promL (partsO tX) (rowX tX) tL 3 [] tN2=tN2':=by
 unfold promL
 rw[show rowX tX tN2.item=[[65]] from t_row,promC,show partsO tX [65] tN2.qty=some [([65],2)] from t_parts2]
 simp only
 rw[show dayX tL [] [([65],2)] (max tN2.asked 3) (min (3+400) 4000)=some 3 from t_day 2 (by decide)]
 rfl
theorem t_prom1:promL (partsO tX) (rowX tX) tL 3 [⟨[65],3,2⟩] tN1=tN1:=by
 unfold promL
 rw[show rowX tX tN1.item=[[65]] from t_row,promC,show partsO tX [65] tN1.qty=some [([65],4)] from t_parts4]
 simp only
 rw[show dayX tL [⟨[65],3,2⟩] [([65],4)] (max tN1.asked 3) (min (3+400) 4000)=none from t_dayno]
 rfl
theorem t_prom1':promL (partsO tX) (rowX tX) tL 3 [] tN1=⟨1,[65],4,0,5,1,3,[65]⟩:=by
 unfold promL
 rw[show rowX tX tN1.item=[[65]] from t_row,promC,show partsO tX [65] tN1.qty=some [([65],4)] from t_parts4]
 simp only
 rw[show dayX tL [] [([65],4)] (max tN1.asked 3) (min (3+400) 4000)=some 3 from t_day 4 (by decide)]
 rfl
theorem t_wants2:wantsL (partsO tX) tN2'=[⟨[65],3,2⟩]:=by
 unfold wantsL
 rw[if_pos (by decide),show partsO tX tN2'.code tN2'.qty=some [([65],2)] from t_parts2]
 rfl
theorem t_all:allX (partsO tX) (rowX tX) lineOk tL 3 tN=[tN1,tN2']:=by
 unfold allX
 rw[if_pos ⟨by decide,by decide,by decide⟩,t_open,allF,allF,allF,t_prom2,t_wants2,List.nil_append,t_prom1]
 decide
theorem t_one:oneX (partsO tX) (rowX tX) lineOk tL 3 tN tN1=⟨1,[65],4,0,5,1,3,[65]⟩:=by
 unfold oneX
 have e:wantsN (partsO tX) (tN.filter fun x=>decide (x.id≠tN1.id))=[]:=by
  have e1:tN.filter (fun x=>decide (x.id≠tN1.id))=[tN2]:=by decide
  rw[e1]
  unfold wantsN
  rw[List.flatMap_cons,List.flatMap_nil,List.append_nil]
  exact wants_shut (by decide)
 rw[if_pos ⟨by decide,by decide,by decide⟩,e,t_prom1']
theorem t_wantsN:(wantsN (partsO tX) [tN1,tN2']).length=1:=by
 unfold wantsN
 rw[List.flatMap_cons,List.flatMap_cons,List.flatMap_nil,wants_shut (l:=tN1) (by decide),t_wants2]
 rfl
theorem tX_ri {W:World} {g:Nat} (hg:W.heap[g]? = some (.cells #[.string ⟨#[65]⟩,.int .i64 6,.slice none 0 0,.slice none 0 0] 87 (0,0))):RI W.heap.size W (some ⟨g,0,none⟩) 1 1 tX:=by
 refine⟨rfl,Nat.le_refl _,by decide,fun x hx=>?_,fun _=>⟨g,0,rfl,(Array.getElem?_eq_some_iff.1 hg).1,fun i hi=>?_⟩⟩
 ·unfold tX at hx
  rw[List.mem_singleton.1 hx]
  exact⟨by decide,by decide,by decide,⟨rfl,Nat.le_refl _,by decide,(fun p hp=>by cases hp),fun h=>absurd h (Nat.lt_irrefl _)⟩,⟨rfl,Nat.le_refl _,by decide,(fun p hp=>by cases hp),fun h=>absurd h (Nat.lt_irrefl _)⟩⟩
 ·obtain rfl:i=0:=by omega
  unfold World.cell?
  rw[hg]
  exact⟨rfl,rfl,rfl,rfl⟩
theorem alloc4 (w:World) (A C D E:Obj):((((w.alloc A).alloc C).alloc D).alloc E).heap[w.heap.size]? = some A/\((((w.alloc A).alloc C).alloc D).alloc E).heap[w.heap.size+1]? = some C/\((((w.alloc A).alloc C).alloc D).alloc E).heap[w.heap.size+1+1]? = some D/\((((w.alloc A).alloc C).alloc D).alloc E).heap[w.heap.size+1+1+1]? = some E/\Below w.heap.size w ((((w.alloc A).alloc C).alloc D).alloc E):=by
 obtain⟨h1,h2,h3,h4,h5⟩:=alloc3 w A C D
 have b:=below_allocL (((w.alloc A).alloc C).alloc D) E
 refine⟨(b.block _ (by omega)).trans h1,(b.block _ (by omega)).trans h2,(b.block _ (by omega)).trans h3,?_,h4.trans (b.mono (by omega))⟩
 rw[show w.heap.size+1+1+1=(((w.alloc A).alloc C).alloc D).heap.size by omega]
 exact heap_alloc_new _ _
theorem tL_in {W:World} {g:Nat} (hg:W.heap[g]? = some (.cells #[.int .i64 1,.string ⟨#[65]⟩,.int .i64 3,.int .i64 9,.int .i64 5,.bool true] 50 (0,0))):lotE.In W.heap.size W (some ⟨g,0,none⟩) 1 1 tL:=by
 refine⟨rfl,Nat.le_refl _,by decide,fun x hx=>?_,fun _=>⟨g,0,rfl,(Array.getElem?_eq_some_iff.1 hg).1,fun i hi j hj=>?_⟩⟩
 ·unfold tL at hx
  rw[List.mem_singleton.1 hx];show okLot _;unfold okLot;decide
 ·have hj':j < 6:=hj
  obtain rfl:i=0:=by omega
  have h2:j=0∨j=1∨j=2∨j=3∨j=4∨j=5:=by omega
  unfold World.cell?
  rw[hg]
  rcases h2 with rfl | rfl | rfl | rfl | rfl | rfl <;> rfl
theorem tN1_ok:okLine tN1:=by unfold okLine;decide
theorem tN_in {W:World} {g:Nat} (hg:W.heap[g]? = some (.cells #[.int .i64 1,.string ⟨#[65]⟩,.int .i64 4,.int .i64 0,.int .i64 5,.int .u8 1,.int .i64 (-1),.string ⟨#[]⟩,.int .i64 2,.string ⟨#[65]⟩,.int .i64 2,.int .i64 0,.int .i64 1,.int .u8 1,.int .i64 (-1),.string ⟨#[]⟩] 29 (0,0))):lineE.In W.heap.size W (some ⟨g,0,none⟩) 2 2 tN:=by
 refine⟨rfl,Nat.le_refl _,by decide,fun x hx=>?_,fun _=>⟨g,0,rfl,(Array.getElem?_eq_some_iff.1 hg).1,fun i hi j hj=>?_⟩⟩
 ·unfold tN at hx
  rcases List.mem_cons.1 hx with rfl | hx
  ·exact tN1_ok
  ·rw[List.mem_singleton.1 hx];show okLine _;unfold okLine;decide
 ·have hj':j < 8:=hj
  have h1:i=0∨i=1:=by omega
  have h2:j=0∨j=1∨j=2∨j=3∨j=4∨j=5∨j=6∨j=7:=by omega
  unfold World.cell?
  rw[hg]
  rcases h1 with rfl | rfl <;> rcases h2 with rfl | rfl | rfl | rfl | rfl | rfl | rfl | rfl <;> rfl
set_option maxRecDepth 100000 in
theorem tiny_any (w:World):Calls Tryz.prog 30 #[] w fun e w'=>Below w.heap.size w w'/\∃ g1 g2 g3,e = .returned (.agg #[.int .i64 3,.int .i64 2,.int .i64 3,.slice (some ⟨g1,0,none⟩) 1 1,.slice (some ⟨g2,0,none⟩) 1 1,.slice (some ⟨g3,0,none⟩) 2 2])/\StIn w'.heap.size w' (some ⟨g1,0,none⟩) 1 1 tX (some ⟨g2,0,none⟩) 1 1 tL (some ⟨g3,0,none⟩) 2 2 tN:=by
 go_enter Tryz.func30,Tryz.ntmps30
 go_wp2_with (fail)
 obtain⟨k0,k1,k2,k3,kb⟩:=alloc4 w (.cells #[.int .i64 3,.int .i64 2,.int .i64 3,.slice (some ⟨w.heap.size+1,0,none⟩) 1 1,.slice (some ⟨w.heap.size+1+1,0,none⟩) 1 1,.slice (some ⟨w.heap.size+1+1+1,0,none⟩) 2 2] 26) (.cells #[.string ⟨#[65]⟩,.int .i64 6,.slice none 0 0,.slice none 0 0] 87) (.cells #[.int .i64 1,.string ⟨#[65]⟩,.int .i64 3,.int .i64 9,.int .i64 5,.bool true] 50) (.cells #[.int .i64 1,.string ⟨#[65]⟩,.int .i64 4,.int .i64 0,.int .i64 5,.int .u8 1,.int .i64 (-1),.string ⟨#[]⟩,.int .i64 2,.string ⟨#[65]⟩,.int .i64 2,.int .i64 0,.int .i64 1,.int .u8 1,.int .i64 (-1),.string ⟨#[]⟩] 29)
 refine bodyPost_ret (results_cell_row (P:=Tryz.prog) (fn:=Tryz.f30) (p:=0) (ty:=26) rfl _ _ w.heap.size 26 _ (0,0) _ rfl k0 Tryz.underlying26 rfl (by kernel_rfl)) rfl ?_
 exact⟨kb,_,_,_,rfl,tX_ri k1,tL_in k2,tN_in k3,by decide,by decide,by decide,fun x hx=>by unfold tX at hx;rw[List.mem_singleton.1 hx];exact⟨by decide,by decide⟩⟩
def smallB (n1 n2 n3:Nat):Bool:=decide (n2<=12) && decide (n3<=12) && decide (n1<=12)
theorem small_any (now nl nx:Int) (a1 a2 a3:Option Addr) (n1 c1 n2 c2 n3 c3:Nat) (w:World) (_h1:n1<=c1/\c1<=9223372036854775807) (_h2:n2<=c2/\c2<=9223372036854775807) (_h3:n3<=c3/\c3<=9223372036854775807):Calls Tryz.prog 9 #[.agg #[.int .i64 now,.int .i64 nl,.int .i64 nx,.slice a1 n1 c1,.slice a2 n2 c2,.slice a3 n3 c3]] w fun e w'=>e = .returned (.bool (smallB n1 n2 n3))/\Below w.heap.size w w':=by
 generalize hr:smallB n1 n2 n3=r
 have HQ:=Lib.hid hr
 clear hr
 have HB:=Lib.hid ((Below.refl w.heap.size w).alloc (Nat.le_refl _) (.cells #[.int .i64 now,.int .i64 nl,.int .i64 nx,.slice a1 n1 c1,.slice a2 n2 c2,.slice a3 n3 c3] 26))
 by_cases k2:n2<=12
 ·by_cases k3:n3<=12
  ·by_cases k1:n1<=12
   ·have E:=Lib.hid (show smallB n1 n2 n3=true by unfold smallB;simp[k1,k2,k3])
    go_enter Tryz.func9,Tryz.ntmps9
    go_wp2_with (fail)
    go_ret
    exact⟨by rw[<- HQ.out,E.out];first | rfl | (simp;omega),HB.out⟩
   ·have E:=Lib.hid (show smallB n1 n2 n3=false by unfold smallB;simp[k1])
    go_enter Tryz.func9,Tryz.ntmps9
    go_wp2_with (fail)
    go_ret
    exact⟨by rw[<- HQ.out,E.out];first | rfl | (simp;omega),HB.out⟩
  ·have E:=Lib.hid (show smallB n1 n2 n3=false by unfold smallB;simp[k3])
   go_enter Tryz.func9,Tryz.ntmps9
   go_wp2_with (fail)
   go_ret
   exact⟨by rw[<- HQ.out,E.out];first | rfl | (simp;omega),HB.out⟩
 ·have E:=Lib.hid (show smallB n1 n2 n3=false by unfold smallB;simp[k2])
  go_enter Tryz.func9,Tryz.ntmps9
  go_wp2_with (fail)
  go_ret
  exact⟨by rw[<- HQ.out,E.out];first | rfl | (simp;omega),HB.out⟩
theorem field_lines (a1 a2 a3:Option Addr) (n1 c1 n2 c2 n3 c3:Nat) (now nl nx:Int) (w:World):(Instr.field 26 (.agg #[.int .i64 now,.int .i64 nl,.int .i64 nx,.slice a1 n1 c1,.slice a2 n2 c2,.slice a3 n3 c3]) 5).run Tryz.prog w = .ok (.slice a3 n3 c3) w:=by kernel_rfl
theorem field_items (a1 a2 a3:Option Addr) (n1 c1 n2 c2 n3 c3:Nat) (now nl nx:Int) (w:World):(Instr.field 26 (.agg #[.int .i64 now,.int .i64 nl,.int .i64 nx,.slice a1 n1 c1,.slice a2 n2 c2,.slice a3 n3 c3]) 3).run Tryz.prog w = .ok (.slice a1 n1 c1) w:=by kernel_rfl
set_option maxHeartbeats 4000000 in
set_option maxRecDepth 100000 in
theorem awake_any (w:World):Calls Tryz.prog 8 #[] w fun e w'=>e = .returned (.bool true)/\Below w.heap.size w w':=by
 have HT:=Lib.hid (fun V:World=>tiny_any V)
 have HA:=Lib.hid (fun (V:World) (g1 g2 g3:Nat) (h:StIn V.heap.size V (some ⟨g1,0,none⟩) 1 1 tX (some ⟨g2,0,none⟩) 1 1 tL (some ⟨g3,0,none⟩) 2 2 tN)=>by
  have:=all_any V.heap.size 3 2 3 _ _ _ _ _ _ _ _ _ _ _ _ V h (Nat.le_refl _) (by decide) (by decide) (by decide)
  rw[t_all] at this
  unfold AlP at this
  exact this)
 have HO:=Lib.hid (fun (V:World) (B g1 g2 g3:Nat) (h:StIn B V (some ⟨g1,0,none⟩) 1 1 tX (some ⟨g2,0,none⟩) 1 1 tL (some ⟨g3,0,none⟩) 2 2 tN) (hB:B<=V.heap.size)=>by
  have:=one_any B 3 2 3 _ _ _ _ _ _ _ _ _ _ _ _ tN1 V h hB tN1_ok (by decide) (by decide) (by decide)
  rw[t_one] at this
  unfold LineV.val encStr tN1 at this
  exact this)
 go_enter Tryz.func8,Tryz.ntmps8
 go_upto_region 2 with (first | (go_at_call 30;refine (HT.out _).mono ?_;rintro e w1 ⟨hb1,g1,g2,g3,rfl,hs⟩;have HA1:=Lib.hid (HA.out w1 g1 g2 g3 hs);have B1:=Lib.hid hb1;clear hb1 hs) | (go_at_call 18;refine HA1.out.mono ?_;rintro e w2 ⟨⟨oa,oc,rfl,ho⟩,hb2⟩;have B2:=Lib.hid (B1.out.trans (hb2.mono B1.out.size));have OO:=Lib.hid ho;clear ho hb2))
 obtain⟨a8,c8,e8,hoc,hocx,hg8⟩:=OO.out.form
 obtain⟨og,hg8⟩:=hg8 (by decide)
 injection e8 with e8 e9 e10
 have e11:=e8.trans hg8
 subst e11
 subst e10
 have hoc2:2<=oc:=hoc
 rw[show [tN1,tN2'].length=2 from rfl] at OO
 clear e8 e9 hg8 hoc
 have HT0:=Lib.hid (fun V:World=>tiny_any V)
 have hfl:=field_lines
 have hfi:=field_items
 go_upto_region 3 with (first | (go_at_call 30;refine (HT2.out _).mono ?_;rintro e w4 ⟨hb4,i1,i2,i3,rfl,hs4⟩;have B4:=Lib.hid (B3.out.trans (hb4.mono B3.out.size));obtain⟨bb,bo,be,-,hcs⟩:=lineE_at hs4.lines (by decide);injection be with be;injection be with be1 be2;subst be1;subst be2;obtain⟨k0,k1,k2,k3,k4,k5,k6,k7⟩:=hcs 0 (by decide);simp only[Nat.zero_mul,Nat.add_zero,Nat.zero_add] at k0 k1 k2 k3 k4 k5 k6 k7;have k0':w4.cell? ⟨i3,0,none⟩=some (.int .i64 1):=k0;have k1':w4.cell? ⟨i3,1,none⟩=some (.string ⟨#[65]⟩):=k1;have k2':w4.cell? ⟨i3,2,none⟩=some (.int .i64 4):=k2;have k3':w4.cell? ⟨i3,3,none⟩=some (.int .i64 0):=k3;have k4':w4.cell? ⟨i3,4,none⟩=some (.int .i64 5):=k4;have k5':w4.cell? ⟨i3,5,none⟩=some (.int .u8 1):=k5;have k6':w4.cell? ⟨i3,6,none⟩=some (.int .i64 (-1)):=k6;have k7':w4.cell? ⟨i3,7,none⟩=some (.string ⟨#[]⟩):=k7;clear k0 k1 k2 k3 k4 k5 k6 k7 hcs;have B234:=Lib.hid (B23.out.trans (hb4.mono B23.out.size));have HO4:=Lib.hid (HO.out w4 w3.heap.size h1 h2 h3 (HS3.out.below hb4) hb4.size);clear hb4 hs4) | (go_at_call 30;refine (HT.out _).mono ?_;rintro e w3 ⟨hb3,h1,h2,h3,rfl,hs3⟩;have HS3:=Lib.hid hs3;have B3:=Lib.hid (B2.out.trans (hb3.mono B2.out.size));have B23:=Lib.hid hb3;have O3:=Lib.hid (OO.out.below hb3);have HT2:=HT0;clear hb3 hs3) | (go_at_call 11;refine HO4.out.mono ?_;rintro e w5 ⟨rfl,hb5⟩;have W25:=Lib.hid (B234.out.trans (hb5.mono B234.out.size));have B5:=Lib.hid (B4.out.trans (hb5.mono B4.out.size));clear hb5))
 have HB54:=Lib.hid (B5.out.trans ((below_allocL w5 (.cells #[.int .i64 1,.string ⟨#[65]⟩,.int .i64 4,.int .i64 0,.int .i64 5,.int .u8 1,.int .i64 3,.string ⟨#[65]⟩] 29)).mono B5.out.size))
 have O5:=Lib.hid ((OO.out.below W25.out).below (below_allocL w5 (.cells #[.int .i64 1,.string ⟨#[65]⟩,.int .i64 4,.int .i64 0,.int .i64 5,.int .u8 1,.int .i64 3,.string ⟨#[65]⟩] 29)))
 have xL:(w5.alloc (.cells #[.int .i64 1,.string ⟨#[65]⟩,.int .i64 4,.int .i64 0,.int .i64 5,.int .u8 1,.int .i64 3,.string ⟨#[65]⟩] 29)).cell? ⟨w5.heap.size,6,none⟩=some (.int .i64 3):=by unfold World.cell?;rw[heap_alloc_new];rfl
 generalize w5.alloc (.cells #[.int .i64 1,.string ⟨#[65]⟩,.int .i64 4,.int .i64 0,.int .i64 5,.int .u8 1,.int .i64 3,.string ⟨#[65]⟩] 29)=W5 at HB54 O5 xL ⊢
 have hcl:=(O5.out.cell).2.2.2.2.2
 have c6:W5.cell? ⟨og,6,none⟩=some (.int .i64 (-1)):=hcl 0 (by decide) 6 (by decide)
 have c14:W5.cell? ⟨og,14,none⟩=some (.int .i64 3):=hcl 1 (by decide) 6 (by decide)
 have c15:W5.cell? ⟨og,15,none⟩=some (.string ⟨#[65]⟩):=hcl 1 (by decide) 7 (by decide)
 have HWs:=Lib.hid (fun (V:World) (b:Below W5.heap.size W5 V) (j1 j2 j3:Nat) (h:StIn V.heap.size V (some ⟨j1,0,none⟩) 1 1 tX (some ⟨j2,0,none⟩) 1 1 tL (some ⟨j3,0,none⟩) 2 2 tN)=>by
  obtain⟨a7,c7,e7,h7⟩:=(O5.out.below b).in_ (fun x hx=>by
   rcases List.mem_cons.1 hx with rfl | hx
   ·exact tN1_ok
   ·rw[List.mem_singleton.1 hx];show okLine _;unfold okLine tN2';decide)
  obtain⟨e8,-,e10⟩:=Value.slice.inj e7
  subst e8;subst e10
  have:=(Wants_any V.heap.size (some ⟨j1,0,none⟩) 1 1 tX (some ⟨og,0,none⟩) 2 oc [tN1,tN2'] V h.items h7 (Nat.le_refl _) (by decide) (by decide)).mono (fun _ _ h=>h.1)
  unfold WnP at this
  rw[t_wantsN] at this
  exact this)
 clear hcl HA HO HO4 HS3 O3 OO
 go_wp2_with (first | (go_at_call 30;refine (HT.out _).mono ?_;rintro e w6 ⟨hb6,j1,j2,j3,rfl,hs6⟩;have B6:=Lib.hid hb6;have HW6:=Lib.hid (HWs.out w6 hb6 j1 j2 j3 hs6);clear hb6 hs6) | (go_at_call 14;refine HW6.out.mono ?_;rintro e w7 ⟨⟨va,vc,rfl,-⟩,hb7⟩;have B7:=Lib.hid (HB54.out.trans ((B6.out.trans (hb7.mono B6.out.size)).mono HB54.out.size));clear hb7))
 go_ret
 exact⟨rfl,B7.out⟩
end Go.Proofs.YtgplnekpgdhcpaaGreat
namespace Go.Proofs.YtgplnekpgdhcpaaGreat
open Go.RowKit Go.Shelf
theorem wantMore_any (x:WantV) (w:World):Calls Tryz.prog 84 #[x.val] w fun e w'=>e = .returned (.bool (decide (0 < x.qty)))/\Below w.heap.size w w':=by
 obtain⟨item,day,qty⟩:=x
 unfold WantV.val encStr
 simp only
 have HB:=Lib.hid ((Below.refl w.heap.size w).alloc (Nat.le_refl _) (.cells #[.string ⟨item.toArray⟩,.int .i64 day,.int .i64 qty] 71))
 obtain⟨r,hr⟩:∃ r,r=decide (0 < qty):=⟨_,rfl⟩
 have HR:=Lib.hid hr
 cases r with
 | true =>
  have h1:decide (0 < qty)=true:=hr.symm
  clear hr
  go_enter Tryz.func84,Tryz.ntmps84
  go_wp2_with (fail)
  go_ret
  exact⟨by rw[<- HR.out];rfl,HB.out⟩
 | false =>
  have h1:decide (0 < qty)=false:=hr.symm
  clear hr
  go_enter Tryz.func84,Tryz.ntmps84
  go_wp2_with (fail)
  go_ret
  exact⟨by rw[<- HR.out];rfl,HB.out⟩
theorem cloneWantNil (w:World):Calls Tryz.prog 81 #[.slice none 0 0] w fun e w'=>e = .returned (.slice none 0 0)/\w'=w:=by
 have hq:=fun (w:World) (a:Option Addr) (n c n' c':Nat)=>Lib.run_eql_slice_nil (P:=Tryz.prog) w 35 71 a n c n' c' Tryz.underlying35
 go_enter Tryz.func81,Tryz.ntmps81
 go_wp2
 go_ret
 exact⟨rfl,rfl⟩
set_option maxHeartbeats 4000000 in
theorem flowCheck_any (B:Nat) (a:Option Addr) (n c:Nat) (L:List LotV) (w:World) (hl:lotE.In B w a n c L) (hB:B<=w.heap.size) :
  Calls Tryz.prog 49 #[.slice a n c,.slice none 0 0,.slice none 0 0] w fun e w'=>e = .returned (.bool (mayB L []))/\Below w.heap.size w w':=by
 have hle:=hl.le;have hmx:=hl.mx
 have Hln:=Lib.hid hl.len
 have HL:=Lib.hid hl
 have HT:=Lib.hid (together_any B a none n c 0 0 L [] w hl (El.In.nil _ _) hB)
 have hmk:=@run_makeMap Tryz.prog
 clear hl
 generalize mayB L []=r at HT ⊢
 cases r with
 | false =>
  go_enter Tryz.func49,Tryz.ntmps49
  go_wp2_with (go_at_call 80;refine HT.out.mono ?_;rintro e w1 ⟨rfl,hb1⟩)
  go_ret
  exact⟨rfl,hb1⟩
 | true =>
  go_enter Tryz.func49,Tryz.ntmps49
  go_wp2_with (go_at_call 80;refine HT.out.mono ?_;rintro e w1 ⟨rfl,hb1⟩;have B1:=Lib.hid hb1;clear hb1)
  have hM0:=Lib.hid (MI.made w1 (.agg #[.int .i64 0,.string ⟨#[]⟩,.int .i64 0,.int .i64 0,.int .i64 0,.bool false]))
  have hB0:Hid (Below w.heap.size w (w1.alloc (.map #[] 0))):=Lib.hid (B1.out.alloc B1.out.size _)
  obtain⟨mb,hmb⟩:∃ m,m=w1.heap.size:=⟨_,rfl⟩
  rw[<- hmb] at hM0 ⊢
  have hmw:Hid (w.heap.size<=mb):=Lib.hid (by rw[hmb];exact B1.out.size)
  clear hmb
  go_loopw [23] (fun s23 wr=>∃ j:Nat,s23 = .int .i64 j/\j<=n/\Hid (∃ f,MI wr mb j (.agg #[.int .i64 0,.string ⟨#[]⟩,.int .i64 0,.int .i64 0,.int .i64 0,.bool false]) f)/\Hid (Below w.heap.size w wr)) (fun s23 _=>n - (intOf s23).toNat)
  case atStart=>exact⟨0,rfl,Nat.zero_le _,Lib.hid ⟨_,hM0.out⟩,hB0⟩
  case round =>
   obtain⟨j,rfl,hj,HM,Hb⟩:=hrel
   clear hM0 hB0
   by_cases hlt:j < n
   ·obtain⟨b,o,rfl,hbB,hc⟩:=lotE_at (HL.out.below (Hb.out.mono hB)) (by omega)
    obtain⟨g0,g1,g2,g3,g4,g5⟩:=hc j hlt
    have hok:=HL.out.ok_at hlt
    clear hc
    generalize L.getD j default=x at g0 g1 g2 g3 g4 g5 hok
    obtain⟨hok1,-,-,-,-⟩:=hok
    obtain⟨id,item,fr,un,qty,arr⟩:=x
    simp only at g0 g1 g2 g3 g4 g5 hok1
    unfold encStr at g1
    obtain⟨f,hf⟩:=HM.out
    obtain⟨W1,hW1⟩:∃ V,V=wr.alloc (.cells #[.int .i64 id,.string ⟨item.toArray⟩,.int .i64 fr,.int .i64 un,.int .i64 qty,.bool arr] 50):=⟨_,rfl⟩
    have bW1:Below wr.heap.size wr W1:=by rw[hW1];exact (Below.refl _ wr).alloc (Nat.le_refl _) _
    have y0:W1.cell? ⟨wr.heap.size,0,none⟩=some (.int .i64 id):=by rw[hW1];simp
    have y1:W1.cell? ⟨wr.heap.size,1,none⟩=some (.string ⟨item.toArray⟩):=by rw[hW1];simp
    have y2:W1.cell? ⟨wr.heap.size,2,none⟩=some (.int .i64 fr):=by rw[hW1];simp
    have y3:W1.cell? ⟨wr.heap.size,3,none⟩=some (.int .i64 un):=by rw[hW1];simp
    have y4:W1.cell? ⟨wr.heap.size,4,none⟩=some (.int .i64 qty):=by rw[hW1];simp
    have y5:W1.cell? ⟨wr.heap.size,5,none⟩=some (.bool arr):=by rw[hW1];simp
    have M1:=Lib.hid (hf.below bW1 hf.lt)
    have HB1:=Lib.hid (Hb.out.trans (bW1.mono Hb.out.size))
    have HID:=Lib.hid hok1
    have HW1:=Lib.hid hW1
    clear hf bW1 hW1 hok1
    go_upto_region 7 with (fail)
    rw[<- HW1.out]
    go_wp2_with (at_mapUpdate;refine wpList_put_mi rfl _ _ _ 103 rfl Tryz.underlying103 M1.out (by omega) id _ rfl rfl rfl HID.out.1 HID.out.2 ?_;intro w10 hM10 hg10;have M10:=Lib.hid hM10;have B10:=Lib.hid (HB1.out.grown hg10 HB1.out.size (fun k e=>by have:=Option.some.inj e;have:=hmw.out;omega));clear hM10 hg10)
    go_roundw
    case rel=>exact⟨j+1,by go_num,by omega,Lib.hid ⟨_,M10.out⟩,B10⟩
    case measure=>simp[intOf];omega
   ·have HC:=Lib.hid (containsWant_any ixWant_laid (fun x=>decide (0 < x.qty)) 84 #[] (enters_of Tryz.func84 (by kernel_rfl) rfl) wr.heap.size none 0 0 [] wr (El.In.nil _ _) (Nat.le_refl _) (fun V x _ _=>by
     have:=wantMore_any x V
     simpa [WantV.val] using this))
    have Hb2:=Lib.hid Hb.out
    go_wp2_with (go_at_call 81;refine (cloneWantNil _).mono ?_;rintro e w8 ⟨rfl,rfl⟩)
    go_loopw [36] (fun s36 wq=>s36 = .int .i64 0/\wq=w8) (fun _ _=>0)
    case atStart=>exact⟨rfl,rfl⟩
    case round =>
     obtain⟨rfl,rfl⟩:=hrel
     go_wp2_with (go_at_call 83;refine HC.out.mono ?_;rintro e w9 ⟨rfl,hb9⟩)
     go_ret
     exact⟨rfl,Hb2.out.trans (hb9.mono Hb2.out.size)⟩
end Go.Proofs.YtgplnekpgdhcpaaGreat
namespace Go.Proofs.YtgplnekpgdhcpaaGreat
open Go.RowKit
set_option maxRecDepth 100000 in
theorem Check_any (B:Nat) (a:Option Addr) (n cp:Nat) (X:List It) (w:World) (hr:RI B w a n cp X) (hB:B<=w.heap.size) :
  Calls Tryz.prog 50 #[.slice a n cp] w fun e w'=>e = .returned (.int .i64 (chkE X))/\Below w.heap.size w w':=by
 have HC:=Lib.hid (check_any B a n cp X w hr hB)
 clear hr
 go_enter Tryz.func50,Tryz.ntmps50
 go_wp2_with (fail)
 go_at_call 85
 refine HC.out.mono ?_
 rintro e w' ⟨hb,am,dm,rfl,-⟩
 have HB:=Lib.hid hb
 clear hb
 go_wp2_with (fail)
 go_ret
 exact⟨rfl,HB.out⟩
end Go.Proofs.YtgplnekpgdhcpaaGreat
