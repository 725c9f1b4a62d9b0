/-  -/
import Derived.Test.YtgplnekpgdhcpaaGreatKField
import Derived.Test.YtgplnekpgdhcpaaGreatQBridge
namespace Go.Proofs.YtgplnekpgdhcpaaGreat
section
open Go.RowKit
structure LikeI (x y:It):Prop where
 code:x.code=y.code
 life:x.life=y.life
 ps:x.ps=y.ps
 os:x.os=y.os
set_option maxHeartbeats 2000000 in
set_option maxRecDepth 100000 in
theorem SameItem_like (B:Nat) (x y:It) (w:World) (hx:ItOk B w x) (hy:ItOk B w y) (hB:B<=w.heap.size) (hxy:LikeI x y) :
  Calls Tryz.prog 78 #[x.val,y.val] w fun e w'=>e=.returned (.bool true)/\Below w.heap.size w w':=by
 obtain⟨code,life,pa,pc,ps,oa,oc,os⟩:=x;obtain⟨code',life',pa',pc',ps',oa',oc',os'⟩:=y;obtain⟨rfl,rfl,rfl,rfl⟩:=hxy;obtain⟨np,hnp⟩:∃ k,k=ps.length:=⟨_,rfl⟩
 obtain⟨no,hno⟩:∃ k,k=os.length:=⟨_,rfl⟩
 have hp1:=hx.rp.mono hB;have hp2:=hy.rp.mono hB;have ht1:=hx.rt.mono hB;have ht2:=hy.rt.mono hB;simp only at hp1 hp2 ht1 ht2;unfold It.val encStr;simp only;rw[<- hnp] at hp1 hp2 ⊢;rw[<- hno] at ht1 ht2 ⊢;have HP:Hid (∀ W,Below w.heap.size w W->Calls Tryz.prog 109 #[.slice pa np pc,.slice pa' np pc'] W fun e w'=>e=.returned (.bool true)/\∃ q,w'=W.drewN q):=Lib.hid fun W h=>(SameParts_any _ _ _ _ _ _ _ _ _ W (hp1.below h) (hp2.below h)).mono (by
  rintro e w' ⟨rfl,q,rfl⟩;exact⟨by simp,q,rfl⟩)
 have HT:Hid (∀ W,Below w.heap.size w W->Calls Tryz.prog 110 #[.slice oa no oc,.slice oa' no oc'] W fun e w'=>e=.returned (.bool true)/\∃ q,w'=W.drewN q):=Lib.hid fun W h=>(SameTexts_any _ _ _ _ _ _ _ _ _ W (ht1.below h) (ht2.below h)).mono (by
  rintro e w' ⟨rfl,q,rfl⟩;exact⟨by simp,q,rfl⟩)
 have HB2:Hid (∀ c d:Array Value,Below w.heap.size w ((w.alloc (.cells c 87)).alloc (.cells d 87))):=Lib.hid fun c d=>((Below.refl _ w).alloc (Nat.le_refl _) _).alloc (by rw[World.size_alloc];omega) _
 clear hx hy hp1 hp2 ht1 ht2 hnp hno;go_enter Tryz.func78,Tryz.ntmps78;go_wp2_with (fail);go_at_call 109;refine (HP.out _ (HB2.out _ _)).mono ?_;rintro e W3 ⟨rfl,q,rfl⟩;go_wp2_with (fail);go_at_call 110;refine (HT.out _ (below_dn (HB2.out _ _) q)).mono ?_;rintro e W3 ⟨rfl,q2,rfl⟩;go_wp2_with (fail);go_ret;exact⟨rfl,below_dn (HB2.out _ _) _⟩
theorem sc_at {W:World} {g:Nat} {c:Array Value} {t:TypeId} {fr:Nat×Nat} (i:Nat) (v:Value) (h:W.heap[g]? = some (.cells c t fr)):(W.setCell ⟨g,i,none⟩ v).heap[g]? = some (.cells (c.setIfInBounds i v) t fr):=by
 unfold World.setCell;simp only[Array.getElem?_modify,if_true,h,Option.map_some];rfl
structure LI (base:Nat) (w:World) (x y:It):Prop where
 like:LikeI y x
 op:∃ g,y.pa=some ⟨g,0,none⟩/\x.ps.length+12<=y.pc/\y.pc<=9223372036854775807/\OP base w (.slice (some ⟨g,0,none⟩) (x.ps.length+12) y.pc) (x.ps++lentP)
 ot:∃ g,y.oa=some ⟨g,0,none⟩/\x.os.length+12<=y.oc/\y.oc<=9223372036854775807/\OT base w (.slice (some ⟨g,0,none⟩) (x.os.length+12) y.oc) (x.os++lentX)
theorem LI.keep {base:Nat} {w w':World} {x y:It} (h:LI base w x y) (hb:Below w.heap.size w w'):LI base w' x y:=by
 obtain⟨g,e1,e2,e3,e4⟩:=h.op;obtain⟨k,f1,f2,f3,f4⟩:=h.ot;exact⟨h.like,⟨g,e1,e2,e3,e4.below hb⟩,⟨k,f1,f2,f3,f4.below hb⟩⟩
set_option maxHeartbeats 2000000 in
set_option maxRecDepth 100000 in
theorem LentItem_any (N:Nat) (x:It) (w:World) (hx:ItOk N w x) (hN:N<=w.heap.size) (h1:x.ps.length*24<=140737488355328) (h2:x.os.length*16<=140737488355328) :
  Calls Tryz.prog 63 #[x.val] w fun e w'=>Below w.heap.size w w'/\∃ y,e=.returned y.val/\LI w.heap.size w' x y:=by
 obtain⟨code,life,pa,pc,ps,oa,oc,os⟩:=x;have hp1:=hx.rp.mono hN;have ht1:=hx.rt.mono hN;simp only at hp1 ht1 h1 h2;obtain⟨np,hnp⟩:∃ k,k=ps.length:=⟨_,rfl⟩
 obtain⟨no,hno⟩:∃ k,k=os.length:=⟨_,rfl⟩
 have HNP:=Lib.hid hnp;have HNO:=Lib.hid hno;rw[<- hnp] at hp1 h1;rw[<- hno] at ht1 h2;have HP:Hid (∀ W,Below w.heap.size w W->Calls Tryz.prog 94 #[.slice pa np pc] W fun e w'=>(∃ g c',e=.returned (.slice (some ⟨g,0,none⟩) np c')/\(np+12<=c'/\c'<=9223372036854775807)/\OP W.heap.size w' (.slice (some ⟨g,0,none⟩) (np+12) c') (ps++lentP))/\Below W.heap.size W w'):=Lib.hid fun W h=>LentParts_any w.heap.size pa np pc ps W (hp1.below h) h.size h1
 have HT:Hid (∀ W,Below w.heap.size w W->Calls Tryz.prog 95 #[.slice oa no oc] W fun e w'=>(∃ g c',e=.returned (.slice (some ⟨g,0,none⟩) no c')/\(no+12<=c'/\c'<=9223372036854775807)/\OT W.heap.size w' (.slice (some ⟨g,0,none⟩) (no+12) c') (os++lentX))/\Below W.heap.size W w'):=Lib.hid fun W h=>LentTexts_any w.heap.size oa no oc os W (ht1.below h) h.size h2
 unfold It.val encStr;simp only;rw[<- hnp,<- hno];clear hx hp1 ht1 hnp hno;go_enter Tryz.func63,Tryz.ntmps63;go_wp2_with (fail);obtain⟨W2,hW2⟩:∃ W,W=(w.alloc (.cells #[.string ⟨code.toArray⟩,.int .i64 life,.slice pa np pc,.slice oa no oc] 87)).alloc (.cells #[.string ⟨#[]⟩,.int .i64 0,.slice none 0 0,.slice none 0 0] 87):=⟨_,rfl⟩
 rw[<- hW2];have hs2:W2.heap.size=w.heap.size+2:=by rw[hW2,World.size_alloc,World.size_alloc]
 have ha2:W2.heap[w.heap.size]? = some (.cells #[.string ⟨code.toArray⟩,.int .i64 life,.slice pa np pc,.slice oa no oc] 87):=by
  rw[hW2];exact (((Below.refl _ (w.alloc (.cells #[.string ⟨code.toArray⟩,.int .i64 life,.slice pa np pc,.slice oa no oc] 87))).alloc (Nat.le_refl _) _).block w.heap.size (by rw[World.size_alloc];omega)).trans (heap_alloc_new _ _)
 have hz2:W2.heap[w.heap.size+1]? = some (.cells #[.string ⟨#[]⟩,.int .i64 0,.slice none 0 0,.slice none 0 0] 87):=by
  rw[hW2];have:=heap_alloc_new (w.alloc (.cells #[.string ⟨code.toArray⟩,.int .i64 life,.slice pa np pc,.slice oa no oc] 87)) (.cells #[.string ⟨#[]⟩,.int .i64 0,.slice none 0 0,.slice none 0 0] 87);rw[World.size_alloc] at this;exact this
 have hb2:Below w.heap.size w W2:=by rw[hW2];exact ((Below.refl _ w).alloc (Nat.le_refl _) _).alloc (by rw[World.size_alloc];omega) _
 clear hW2;go_at_call 94;refine (HP.out _ hb2).mono ?_;rintro e W3 ⟨⟨g,c',rfl,hc',hop⟩,hb3⟩;have ha3:=(hb3.block w.heap.size (by omega)).trans ha2;have i0:W3.cell? ⟨w.heap.size,0,none⟩=some (.string ⟨code.toArray⟩):=by unfold World.cell?;rw[ha3];rfl
 have i1:W3.cell? ⟨w.heap.size,1,none⟩=some (.int .i64 life):=by unfold World.cell?;rw[ha3];rfl
 have i2:W3.cell? ⟨w.heap.size,2,none⟩=some (.slice pa np pc):=by unfold World.cell?;rw[ha3];rfl
 have i3:W3.cell? ⟨w.heap.size,3,none⟩=some (.slice oa no oc):=by unfold World.cell?;rw[ha3];rfl
 have fz:W3.frozen? ⟨w.heap.size,2,none⟩=false:=by unfold World.frozen?;rw[ha3];simp
 have HOP:=Lib.hid hop;have HB3:=Lib.hid hb3;have HB2:=Lib.hid hb2;clear hop hb3 hb2 ha2;go_wp2_with (fail);obtain⟨W4,hW4⟩:∃ W,W=W3.setCell ⟨w.heap.size,2,none⟩ (.slice (some ⟨g,0,none⟩) np c'):=⟨_,rfl⟩
 rw[<- hW4];have ha4:W4.heap[w.heap.size]? = some (.cells #[.string ⟨code.toArray⟩,.int .i64 life,.slice (some ⟨g,0,none⟩) np c',.slice oa no oc] 87):=by
  rw[hW4];unfold World.setCell;simp only[Array.getElem?_modify,if_true,ha3,Option.map_some];rfl
 have hs4:W4.heap.size=W3.heap.size:=by rw[hW4];simp[World.setCell]
 have hk4:∀ k,k≠w.heap.size->W4.heap[k]? = W3.heap[k]?:=fun k hk=>by rw[hW4];exact Below.heap_setCell W3 ⟨w.heap.size,2,none⟩ _ k hk
 have hb4:Below w.heap.size w W4:=by rw[hW4];exact (HB2.out.trans (HB3.out.mono (by omega))).setCell (p:=⟨w.heap.size,2,none⟩) (Nat.le_refl _) _
 have hz4:=(hk4 (w.heap.size+1) (by omega)).trans ((HB3.out.block (w.heap.size+1) (by omega)).trans hz2);have hop4:OP W2.heap.size W4 (.slice (some ⟨g,0,none⟩) (np+12) c') (ps++lentP):=HOP.out.keep fun b e=>hk4 b (by have:=(HOP.out.ge b e).1;omega)
 have hs34:W2.heap.size<=W4.heap.size:=by rw[hs4];exact HB3.out.size
 have HOP4:=Lib.hid hop4;have HB4:=Lib.hid hb4;clear hW4 ha3 i0 i1 i2 i3 fz hk4 hop4 hb4;go_at_call 95;refine (HT.out _ HB4.out).mono ?_;rintro e W5 ⟨⟨k,d',rfl,hd',hot⟩,hb5⟩;have ha5:=(hb5.block w.heap.size (by omega)).trans ha4;have j0:W5.cell? ⟨w.heap.size,0,none⟩=some (.string ⟨code.toArray⟩):=by unfold World.cell?;rw[ha5];rfl
 have j1:W5.cell? ⟨w.heap.size,1,none⟩=some (.int .i64 life):=by unfold World.cell?;rw[ha5];rfl
 have j2:W5.cell? ⟨w.heap.size,2,none⟩=some (.slice (some ⟨g,0,none⟩) np c'):=by unfold World.cell?;rw[ha5];rfl
 have j3:W5.cell? ⟨w.heap.size,3,none⟩=some (.slice oa no oc):=by unfold World.cell?;rw[ha5];rfl
 have hz5:=(hb5.block (w.heap.size+1) (by omega)).trans hz4;have l0:W5.cell? ⟨w.heap.size+1,0,none⟩=some (.string ⟨#[]⟩):=by unfold World.cell?;rw[hz5];rfl
 have m0:W5.frozen? ⟨w.heap.size+1,0,none⟩=false:=by unfold World.frozen?;rw[hz5];simp
 have l1:W5.cell? ⟨w.heap.size+1,1,none⟩=some (.int .i64 0):=by unfold World.cell?;rw[hz5];rfl
 have m1:W5.frozen? ⟨w.heap.size+1,1,none⟩=false:=by unfold World.frozen?;rw[hz5];simp
 have l2:W5.cell? ⟨w.heap.size+1,2,none⟩=some (.slice none 0 0):=by unfold World.cell?;rw[hz5];rfl
 have m2:W5.frozen? ⟨w.heap.size+1,2,none⟩=false:=by unfold World.frozen?;rw[hz5];simp
 have l3:W5.cell? ⟨w.heap.size+1,3,none⟩=some (.slice none 0 0):=by unfold World.cell?;rw[hz5];rfl
 have m3:W5.frozen? ⟨w.heap.size+1,3,none⟩=false:=by unfold World.frozen?;rw[hz5];simp
 have fz5:W5.frozen? ⟨w.heap.size,3,none⟩=false:=by unfold World.frozen?;rw[ha5];simp
 have hop5:=HOP4.out.below (hb5.mono (Nat.le_refl _));have HOP5:=Lib.hid hop5;have HOT5:=Lib.hid hot;have HB5:=Lib.hid (HB4.out.trans (hb5.mono (by omega)));have HZ5:=Lib.hid hz5;clear hot hb5 hop5 ha4 ha5 hz5 hz4 hz2;go_wp2_with (fail);have hfin:∀ (a b c d e:Value) (k:Nat),w.heap.size+2<=k->(((((W5.setCell ⟨w.heap.size,3,none⟩ a).setCell ⟨w.heap.size+1,0,none⟩ b).setCell ⟨w.heap.size+1,1,none⟩ c).setCell ⟨w.heap.size+1,2,none⟩ d).setCell ⟨w.heap.size+1,3,none⟩ e).heap[k]? = W5.heap[k]?:=by
  intro a b c d e k hk;have q1:k≠w.heap.size:=by omega
  have q2:k≠w.heap.size+1:=by omega
  exact (Below.heap_setCell _ ⟨w.heap.size+1,3,none⟩ _ k q2).trans ((Below.heap_setCell _ ⟨w.heap.size+1,2,none⟩ _ k q2).trans ((Below.heap_setCell _ ⟨w.heap.size+1,1,none⟩ _ k q2).trans ((Below.heap_setCell _ ⟨w.heap.size+1,0,none⟩ _ k q2).trans (Below.heap_setCell _ ⟨w.heap.size,3,none⟩ _ k q1))))
 have hblk:=sc_at 3 (.slice (some ⟨k,0,none⟩) no d') (sc_at 2 (.slice (some ⟨g,0,none⟩) np c') (sc_at 1 (.int .i64 life) (sc_at 0 (.string ⟨code.toArray⟩) ((Below.heap_setCell W5 ⟨w.heap.size,3,none⟩ (.slice (some ⟨k,0,none⟩) no d') (w.heap.size+1) (by show _≠w.heap.size;omega)).trans HZ5.out))));have hbel:=((((HB5.out.setCell (p:=⟨w.heap.size,3,none⟩) (Nat.le_refl _) (.slice (some ⟨k,0,none⟩) no d')).setCell (p:=⟨w.heap.size+1,0,none⟩) (Nat.le_succ _) (.string ⟨code.toArray⟩)).setCell (p:=⟨w.heap.size+1,1,none⟩) (Nat.le_succ _) (.int .i64 life)).setCell (p:=⟨w.heap.size+1,2,none⟩) (Nat.le_succ _) (.slice (some ⟨g,0,none⟩) np c')).setCell (p:=⟨w.heap.size+1,3,none⟩) (Nat.le_succ _) (.slice (some ⟨k,0,none⟩) no d');have hfin2:=hfin (.slice (some ⟨k,0,none⟩) no d') (.string ⟨code.toArray⟩) (.int .i64 life) (.slice (some ⟨g,0,none⟩) np c') (.slice (some ⟨k,0,none⟩) no d');obtain⟨W6,hW6⟩:∃ W,W=(((((W5.setCell ⟨w.heap.size,3,none⟩ (.slice (some ⟨k,0,none⟩) no d')).setCell ⟨w.heap.size+1,0,none⟩ (.string ⟨code.toArray⟩)).setCell ⟨w.heap.size+1,1,none⟩ (.int .i64 life)).setCell ⟨w.heap.size+1,2,none⟩ (.slice (some ⟨g,0,none⟩) np c')).setCell ⟨w.heap.size+1,3,none⟩ (.slice (some ⟨k,0,none⟩) no d')):=⟨_,rfl⟩
 rw[<- hW6] at hblk hbel hfin2 ⊢;have r0:W6.cell? ⟨w.heap.size+1,0,none⟩=some (.string ⟨code.toArray⟩):=by unfold World.cell?;rw[hblk];rfl
 have r1:W6.cell? ⟨w.heap.size+1,1,none⟩=some (.int .i64 life):=by unfold World.cell?;rw[hblk];rfl
 have r2:W6.cell? ⟨w.heap.size+1,2,none⟩=some (.slice (some ⟨g,0,none⟩) np c'):=by unfold World.cell?;rw[hblk];rfl
 have r3:W6.cell? ⟨w.heap.size+1,3,none⟩=some (.slice (some ⟨k,0,none⟩) no d'):=by unfold World.cell?;rw[hblk];rfl
 clear hW6 hfin hblk;refine bodyPost_ret (by simp[results,Tryz.results63,go_sem,r0,r1,r2,r3];try rfl) rfl ?_;refine⟨hbel,⟨code,life,some ⟨g,0,none⟩,c',ps,some ⟨k,0,none⟩,d',os⟩,by rw[HNP.out,HNO.out],⟨rfl,rfl,rfl,rfl⟩,⟨g,rfl,?_,hc'.2,?_⟩,⟨k,rfl,?_,hd'.2,?_⟩⟩
 ·show ps.length+12<=c';rw[<- HNP.out];exact hc'.1
 ·show OP w.heap.size _ (.slice (some ⟨g,0,none⟩) (ps.length+12) c') (ps++lentP);rw[<- HNP.out];exact (HOP5.out.keep fun b e=>hfin2 b (by have:=(HOP5.out.ge b e).1;omega)).mono (by omega)
 ·show os.length+12<=d';rw[<- HNO.out];exact hd'.1
 ·show OT w.heap.size _ (.slice (some ⟨k,0,none⟩) (os.length+12) d') (os++lentX);rw[<- HNO.out];exact (HOT5.out.keep fun b e=>hfin2 b (by have:=(HOT5.out.ge b e).1;omega)).mono (by omega)
end
section
open Go.RowKit
theorem RP.take {B:Nat} {w:World} {a:Option Addr} {n c:Nat} {P:List Pt} (h:RP B w a n c P) {k:Nat} (hk:k<=n):RP B w a k c (P.take k):=by
 refine⟨by rw[List.length_take,<- h.len];omega,Nat.le_trans hk h.le,h.mx,fun p hp=>h.fine p (List.mem_of_mem_take hp),fun hc=>?_⟩;obtain⟨b,o,e,hB,hcell⟩:=h.at_ hc;refine⟨b,o,e,hB,fun i hi=>?_⟩;have:=hcell i (by omega);have e2:(P.take k).getD i default=P.getD i default:=by
  rw[List.getD_eq_getElem?_getD,List.getElem?_take,if_pos hi,List.getD_eq_getElem?_getD]
 rw[e2];exact this
theorem OP.rp2 {base:Nat} {w:World} {a:Option Addr} {n c:Nat} {P:List Pt} (h:OP base w (.slice a n c) P) (hf:Fine P):RP w.heap.size w a n c P:=by
 obtain⟨a',c',e,r⟩:=h.rp hf;injection e with e1 e2 e3
 rw[e1,e2,e3];exact r
theorem lentX_fine:∀ t∈lentX,t.length<=9223372036854775807:=by
 intro t ht;unfold lentX at ht;obtain⟨i,-,rfl⟩:=List.mem_map.1 ht;simp[mkTx]
theorem lentP_fine:Fine lentP:=by
 intro p hp;unfold lentP at hp;obtain⟨i,hi,rfl⟩:=List.mem_map.1 hp;have h1:=List.mem_range.1 hi;have:=markN_bd 1 i (by omega) (by omega);unfold mkPt;exact⟨Nat.zero_le _,by simp only;omega⟩
theorem LI.ok {base N:Nat} {w w0:World} {x y:It} (h:LI base w x y) (hx:ItOk N w0 x):ItOk w.heap.size w y:=by
 obtain⟨⟨e1,e2,e3,e4⟩,⟨g,g1,g2,g3,g4⟩,⟨k,k1,k2,k3,k4⟩⟩:=h;have hp:Fine (x.ps++lentP):=fun p hp=>by
  rcases List.mem_append.1 hp with h|h
  ·exact hx.rp.fine p h
  ·exact lentP_fine p h
 have ht:∀ t∈x.os++lentX,t.length<=9223372036854775807:=fun t h=>by
  rcases List.mem_append.1 h with h|h
  ·exact hx.rt.fine t h
  ·exact lentX_fine t h
 refine⟨by rw[e1];exact hx.code,by rw[e2];exact hx.lo,by rw[e2];exact hx.hi,?_,?_⟩
 ·have:=(g4.rp2 hp).take (show x.ps.length<=x.ps.length+12 by omega);rw[List.take_left' rfl] at this;rw[e3,g1];exact this
 ·have:=(k4.rt ht x.os.length (by omega)).1;rw[List.take_left' rfl] at this;rw[e4,k1];exact this
set_option maxHeartbeats 2000000 in
set_option maxRecDepth 100000 in
theorem KeptItem_any (base N:Nat) (x y:It) (w:World) (hx:ItOk N w x) (hy:LI base w x y) (hN:N<=w.heap.size) :
  Calls Tryz.prog 77 #[y.val,x.val] w fun e w'=>e=.returned (.bool true)/\Below w.heap.size w w':=by
 have hyo:=hy.ok hx;have hS:=SameItem_like w.heap.size y x;obtain⟨hlike,⟨g,g1,g2,g3,g4⟩,⟨k,k1,k2,k3,k4⟩⟩:=hy;obtain⟨e1,e2,e3,e4⟩:=hlike;have hp:Fine (x.ps++lentP):=fun p hp=>by
  rcases List.mem_append.1 hp with h|h
  ·exact hx.rp.fine p h
  ·exact lentP_fine p h
 have ht:∀ t∈x.os++lentX,t.length<=9223372036854775807:=fun t h=>by
  rcases List.mem_append.1 h with h|h
  ·exact hx.rt.fine t h
  ·exact lentX_fine t h
 have hrp:=g4.rp2 hp;have hrt:=(k4.rt ht (x.os.length+12) (Nat.le_refl _)).1;rw[List.take_of_length_le (by rw[List.length_append,lentX_len];omega)] at hrt;have hxp:=hx.rp.mono hN;have hxt:=hx.rt.mono hN;have hxo:=hx.mono hN;obtain⟨code,life,pa,pc,ps,oa,oc,os⟩:=x;obtain⟨code',life',pa',pc',ps',oa',oc',os'⟩:=y;simp only at e1 e2 e3 e4 g1 g2 g3 k1 k2 k3 hrp hrt hxp hxt;subst e1 e2 e3 e4 g1 k1;have HS:Hid (∀ W,Below w.heap.size w W->Calls Tryz.prog 78 #[.agg #[.string ⟨code'.toArray⟩,.int .i64 life',.slice (some ⟨g,0,none⟩) ps'.length pc',.slice (some ⟨k,0,none⟩) os'.length oc'],.agg #[.string ⟨code'.toArray⟩,.int .i64 life',.slice pa ps'.length pc,.slice oa os'.length oc]] W fun e w'=>e=.returned (.bool true)/\Below W.heap.size W w'):=Lib.hid fun W h=>hS W (hyo.below h) (hxo.below h) h.size ⟨rfl,rfl,rfl,rfl⟩
 have HP:Hid (∀ W,Below w.heap.size w W->Calls Tryz.prog 107 #[.slice (some ⟨g,0,none⟩) ps'.length pc',.slice pa ps'.length pc] W fun e w'=>e=.returned (.bool true)/\Below W.heap.size W w'):=Lib.hid fun W h=>KeptParts_any w.heap.size w.heap.size g pc' pa ps'.length pc ps' W (hrp.below h) (hxp.below h) h.size h.size
 have HT:Hid (∀ W,Below w.heap.size w W->Calls Tryz.prog 108 #[.slice (some ⟨k,0,none⟩) os'.length oc',.slice oa os'.length oc] W fun e w'=>e=.returned (.bool true)/\Below W.heap.size W w'):=Lib.hid fun W h=>KeptTexts_any w.heap.size w.heap.size k oc' oa os'.length oc os' W (hrt.below h) (hxt.below h) h.size h.size
 unfold It.val encStr;simp only;generalize ps'.length=np at HS HP HT ⊢;generalize os'.length=no at HS HP HT ⊢;clear hx hyo hS g2 g3 g4 k2 k3 k4 hp ht hrp hrt hxp hxt hxo;go_enter Tryz.func77,Tryz.ntmps77;go_wp2_with (fail);obtain⟨W2,hW2⟩:∃ W,W=(w.alloc (.cells #[.string ⟨code'.toArray⟩,.int .i64 life',.slice (some ⟨g,0,none⟩) np pc',.slice (some ⟨k,0,none⟩) no oc'] 87)).alloc (.cells #[.string ⟨code'.toArray⟩,.int .i64 life',.slice pa np pc,.slice oa no oc] 87):=⟨_,rfl⟩
 rw[<- hW2];have hs2:W2.heap.size=w.heap.size+2:=by rw[hW2,World.size_alloc,World.size_alloc]
 have ka:W2.heap[w.heap.size]? = some (.cells #[.string ⟨code'.toArray⟩,.int .i64 life',.slice (some ⟨g,0,none⟩) np pc',.slice (some ⟨k,0,none⟩) no oc'] 87):=by
  rw[hW2];exact (((Below.refl _ (w.alloc (.cells #[.string ⟨code'.toArray⟩,.int .i64 life',.slice (some ⟨g,0,none⟩) np pc',.slice (some ⟨k,0,none⟩) no oc'] 87))).alloc (Nat.le_refl _) _).block w.heap.size (by rw[World.size_alloc];omega)).trans (heap_alloc_new _ _)
 have kb:W2.heap[w.heap.size+1]? = some (.cells #[.string ⟨code'.toArray⟩,.int .i64 life',.slice pa np pc,.slice oa no oc] 87):=by
  rw[hW2];have:=heap_alloc_new (w.alloc (.cells #[.string ⟨code'.toArray⟩,.int .i64 life',.slice (some ⟨g,0,none⟩) np pc',.slice (some ⟨k,0,none⟩) no oc'] 87)) (.cells #[.string ⟨code'.toArray⟩,.int .i64 life',.slice pa np pc,.slice oa no oc] 87);rw[World.size_alloc] at this;exact this
 have hb2:Below w.heap.size w W2:=by rw[hW2];exact ((Below.refl _ w).alloc (Nat.le_refl _) _).alloc (by rw[World.size_alloc];omega) _
 clear hW2;go_at_call 78;refine (HS.out _ hb2).mono ?_;rintro e W3 ⟨rfl,hb3⟩;have la:=(hb3.block w.heap.size (by omega)).trans ka;have lb:=(hb3.block (w.heap.size+1) (by omega)).trans kb;have hb3':Below w.heap.size w W3:=hb2.trans (hb3.mono (by omega));have pa2:W3.cell? ⟨w.heap.size,2,none⟩=some (.slice (some ⟨g,0,none⟩) np pc'):=by unfold World.cell?;rw[la];rfl
 have pa3:W3.cell? ⟨w.heap.size,3,none⟩=some (.slice (some ⟨k,0,none⟩) no oc'):=by unfold World.cell?;rw[la];rfl
 have pb2:W3.cell? ⟨w.heap.size+1,2,none⟩=some (.slice pa np pc):=by unfold World.cell?;rw[lb];rfl
 have pb3:W3.cell? ⟨w.heap.size+1,3,none⟩=some (.slice oa no oc):=by unfold World.cell?;rw[lb];rfl
 have hz3:=hb3.size;clear hb3 hb2 ka kb;have HB3:=Lib.hid hb3';have LA:=Lib.hid la;have LB:=Lib.hid lb;clear hb3' la lb;go_wp2_with (fail);go_at_call 107;refine (HP.out _ HB3.out).mono ?_;rintro e W4 ⟨rfl,hb4⟩;have ma:=(hb4.block w.heap.size (by omega)).trans LA.out;have mb:=(hb4.block (w.heap.size+1) (by omega)).trans LB.out;have hb4':Below w.heap.size w W4:=HB3.out.trans (hb4.mono (by omega));have qa2:W4.cell? ⟨w.heap.size,2,none⟩=some (.slice (some ⟨g,0,none⟩) np pc'):=by unfold World.cell?;rw[ma];rfl
 have qa3:W4.cell? ⟨w.heap.size,3,none⟩=some (.slice (some ⟨k,0,none⟩) no oc'):=by unfold World.cell?;rw[ma];rfl
 have qb2:W4.cell? ⟨w.heap.size+1,2,none⟩=some (.slice pa np pc):=by unfold World.cell?;rw[mb];rfl
 have qb3:W4.cell? ⟨w.heap.size+1,3,none⟩=some (.slice oa no oc):=by unfold World.cell?;rw[mb];rfl
 clear hb4 pa2 pa3 pb2 pb3;have HB4:=Lib.hid hb4';clear hb4' ma mb;go_wp2_with (fail);go_at_call 108;refine (HT.out _ HB4.out).mono ?_;rintro e W5 ⟨rfl,hb5⟩;have HB5:=Lib.hid (HB4.out.trans (hb5.mono HB4.out.size));clear hb5;go_wp2_with (fail);go_ret;exact⟨rfl,HB5.out⟩
end
end Go.Proofs.YtgplnekpgdhcpaaGreat
