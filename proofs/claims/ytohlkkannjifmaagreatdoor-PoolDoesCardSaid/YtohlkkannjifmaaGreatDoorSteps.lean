import Derived.Test.YtohlkkannjifmaaGreatDoorOPoolD
import Derived.Test.YtohlkkannjifmaaGreatDoorOPoolE
import Derived.Test.YtohlkkannjifmaaGreatDoorOPoolF
import Derived.Laws.IdiomStrings
import Derived.Test.YtohlkkannjifmaaGreatDoorPageC
import Derived.Deep.RegionHeld3
import Derived.Deep.AppendLies
namespace Go.Proofs.YtohlkkannjifmaaGreatDoor
section
open Go.RowKit Go.Shelf
theorem do_any (U V:Nat->Prop) (d ds do_ l p KK:Nat) (D:DK) (L:LK) (P:PK) (sv:Value) (m hand:Nat) (Q:Nat->Nat) (B:Nat->Value) (Us:Nat->Bool) (N:Nat) (r:RecV) (ka oa na da pa:Option Addr) (kc oc nc dc pc:Nat) (w:World) (h:RG w U V d ds do_ l p KK D L P sv m hand Q B Us) (hK:KK<=700000000)
  (hE:DoE N w U V d ds do_ r ka oa na kc oc nc) :
  Calls Tryz.prog 12 #[.pointer (some ⟨p,0,none⟩),recV r ka oa na da pa kc oc nc dc pc] w (DoG U V d ds do_ l p KK P r L D m w):=by
 obtain⟨ls,wk,pv,nx,kd,pg,K,O,N',DD,MM⟩:=r;by_cases h6:kd=6
 ·exact do_k6 U V d ds do_ l p KK D L P sv m hand Q B Us N ls wk pv nx kd pg ka oa na da pa kc oc nc dc pc K O N' DD MM w h hK hE h6
 by_cases h1:kd=1∨kd=2
 ·exact do_k12 U V d ds do_ l p KK D L P sv m hand Q B Us N ls wk pv nx kd pg ka oa na da pa kc oc nc dc pc K O N' DD MM w h hK hE h1
 exact do_other U V d ds do_ l p KK D L P sv m hand Q B Us N ls wk pv nx kd pg ka oa na da pa kc oc nc dc pc K O N' DD MM w h hK hE h6 (fun e=>h1 (.inl e)) (fun e=>h1 (.inr e))
end
section
set_option maxHeartbeats 4000000
set_option maxRecDepth 100000
open Go.RowKit Go.Shelf
def PK.fresh (fr:Nat) (first pages:Int):PK:=⟨[],fr,first,pages⟩
theorem PF.fresh (w:World) (d l:Nat) (fr:Nat) (first pages:Int) (h1:4<=fr) (h2:fr<=32) (h3:0<=first) (h4:1<=pages) (h5:first+pages<=8192) :
  PF ((w.alloc (.map #[] 0)).alloc (poolObj (.slice none 0 0) w.heap.size (PK.fresh fr first pages) 0 d l)) (fun g=>w.heap.size<=g/\g<w.heap.size+2) (w.heap.size+1) d l 0 (PK.fresh fr first pages) (.slice none 0 0) w.heap.size 0 (fun _=>0) (fun _=>.slice none 0 0) (fun _=>false):=by
 have hs:(w.alloc (.map #[] 0)).heap.size=w.heap.size+1:=by simp
 have hmade:=MH.made w (.pointer none);refine⟨?_,⟨rfl,.inl ⟨rfl,rfl⟩⟩,⟨0,_,_,Nat.le_refl _,hmade.block (alloc_old (by rw[hs];omega)),fun i hi=>absurd hi (by simp[PK.fresh]),fun x hx=>by cases hx⟩,fun i hi=>absurd hi (by simp[PK.fresh]),fun i j hi=>absurd hi (by simp[PK.fresh]),⟨by omega,by omega⟩,fun b e=>(by cases e),⟨by omega,by omega⟩,fun i hi=>absurd hi (by simp[PK.fresh]),fun i hi=>absurd hi (by simp[PK.fresh]),fun g hg=>?_,Nat.le_refl _,⟨h1,h2,h3,by show (0:Int)<=pages;omega,h5,by simp[PK.fresh],by simp[PK.fresh],by simp[PK.fresh],by simp[PK.fresh]⟩⟩
 ·have:=heap_alloc_last (w.alloc (.map #[] 0)) (poolObj (.slice none 0 0) w.heap.size (PK.fresh fr first pages) 0 d l);rw[hs] at this;exact this
 ·have h9:=hg.2;simp;omega
theorem newpool_any (U:Nat->Prop) (d ds do_ l K:Nat) (D:DK) (L:LK) (fr:Nat) (first pages:Int) (w:World) (hl:LogR w U l d K L) (hd:DiskR w d ds do_ K D) (hu:∀ g,DB d ds do_ g->¬ U g) (h1:4<=fr) (h2:fr<=32) (h3:0<=first) (h4:1<=pages) (h5:first+pages<=D.n) (he:1<=L.end_) :
  Calls Tryz.prog 24 #[.pointer (some ⟨d,0,none⟩),.pointer (some ⟨l,0,none⟩),.int .i64 first,.int .i64 pages,.int .i64 fr] w fun e w'=>e=.returned (.pointer (some ⟨w.heap.size+1,0,none⟩)) /\
   RG w' U (fun g=>w.heap.size<=g/\g<w.heap.size+2) d ds do_ l (w.heap.size+1) K D L (PK.fresh fr first pages) (.slice none 0 0) w.heap.size 0 (fun _=>0) (fun _=>.slice none 0 0) (fun _=>false)/\Below w.heap.size w w'/\w'.heap.size=w.heap.size+2:=by
 have hn2:=hd.ok.n2;have HSe:Hid (Calls Tryz.prog 70 #[.pointer (some ⟨d,0,none⟩)] w fun e w'=>e=.returned (.int .i64 D.n)/\w'=w):=φ (sectors_any d ds do_ K D w hd);have HEn:Hid (∀ W,W.heap=w.heap->Calls Tryz.prog 47 #[.pointer (some ⟨l,0,none⟩)] W fun e w'=>e=.returned (.int .i64 L.end_)/\w'=W.drew):=φ fun W hW=>end_any W U l d K L (hl.keep (fun i _=>by rw[hW]) (by rw[hW];exact Nat.le_refl _))
 have e0:(D.n == 0)=false:=by simp;omega
 have e1:(L.end_ == 0)=false:=by simp;omega
 have e2:decide (first<0)=false:=decide_eq_false (by omega);have e3:decide (pages<1)=false:=decide_eq_false (by omega);have e4:decide (first > D.n)=false:=decide_eq_false (by omega);obtain⟨rest,hrest⟩:∃ rest,rest=D.n-first:=⟨_,rfl⟩
 have e5:IntKind.i64.wrap (D.n-first)=rest:=by rw[hrest];exact IntWalk.i64_in _ (by omega)
 have e6:decide (pages > rest)=false:=decide_eq_false (by omega);have e7:decide ((fr:Int)<4)=false:=decide_eq_false (by omega);have e8:decide ((fr:Int) > 32)=false:=decide_eq_false (by omega);have hmk:=@run_makeMap Tryz.prog;have HF:Hid (∀ W:World,W.heap=w.heap->PF ((W.alloc (.map #[] 0)).alloc (poolObj (.slice none 0 0) w.heap.size (PK.fresh fr first pages) 0 d l)) (fun g=>w.heap.size<=g/\g<w.heap.size+2) (w.heap.size+1) d l 0 (PK.fresh fr first pages) (.slice none 0 0) w.heap.size 0 (fun _=>0) (fun _=>.slice none 0 0) (fun _=>false)):=φ fun W hW=>by
  have:=PF.fresh W d l fr first pages h1 h2 h3 h4 (by omega)
  rw[hW] at this;exact this
 have HL:=φ hl;have HD:=φ hd;have HU:=φ hu;clear hl hd hu hn2 h1 h2 h3 h4 h5 he hrest;generalize D.n=dn at HSe e0 e4 e5;generalize L.end_=le at HEn e1;go_enter Tryz.func24,Tryz.ntmps24;go_wp2_with (first|(go_at_call 70;refine HSe.out.mono ?_;rintro e w1 ⟨rfl,hw1⟩;subst hw1)|(go_at_call 47;refine (HEn.out _ rfl).mono ?_;rintro e w1 ⟨rfl,hw1⟩;subst hw1));go_ret;have hB:∀ o:Obj,Below w1.heap.size w1 ((w1.drew.alloc (.map #[] 0)).alloc o):=fun o=>(((Below.refl _ w1).drew).alloc (Nat.le_refl _) _).alloc (by simp) o
 have hpf:=HF.out w1.drew rfl;refine⟨rfl,⟨HL.out.keep (fun i hi=>(hB _).block i (HL.out.lt i hi)) (hB _).size,HD.out.keep fun i hi=>(hB _).block i (HD.out.lt hi),?_,HU.out,fun g hg hv=>?_,fun g hg hv=>?_⟩,hB _,by simp⟩
 ·exact hpf.mono (Nat.zero_le _)
 ·have h8:=HD.out.lt hg;have h9:=hv.1;omega
 ·have h8:=HL.out.lt g hg;have h9:=hv.1;omega
theorem frames_any (w:World) (p d:Nat) (a:Option Addr) (n c:Nat) (p0:w.cell? ⟨p,0,none⟩=some (.slice a n c)) (p4:w.cell? ⟨p,4,none⟩=some (.pointer (some ⟨d,0,none⟩))) :
  Calls Tryz.prog 15 #[.pointer (some ⟨p,0,none⟩)] w fun e w'=>e=.returned (.int .i64 n)/\w'=w:=by
 have HTh:=φ (pthere_any p d w p4);go_enter Tryz.func15,Tryz.ntmps15;go_wp2_with (go_at_call 46;refine HTh.out.mono ?_;rintro e w1 ⟨rfl,hw1⟩;subst hw1);go_ret;exact⟨rfl,rfl⟩
theorem RG.frames {w:World} {U V:Nat->Prop} {d ds do_ l p K:Nat} {D:DK} {L:LK} {P:PK} {sv:Value} {m hand:Nat} {Q:Nat->Nat} {B:Nat->Value} {Us:Nat->Bool} (h:RG w U V d ds do_ l p K D L P sv m hand Q B Us) :
  Calls Tryz.prog 15 #[.pointer (some ⟨p,0,none⟩)] w fun e w'=>e=.returned (.int .i64 P.frames.length)/\w'=w:=by
 obtain⟨a,cap,he,-⟩:=h.pf.get;have hb:=h.pf.blk;rw[he] at hb;exact frames_any w p d a _ cap (cell_of_row _ _ 0 _ _ _ hb) (cell_of_row _ _ 4 _ _ _ hb)
end
section
set_option maxHeartbeats 8000000
set_option maxRecDepth 100000
open Go.RowKit Go.Shelf
theorem pages_any (w:World) (p d:Nat) (c:Int) (p7:w.cell? ⟨p,7,none⟩=some (.int .i64 c)) (p4:w.cell? ⟨p,4,none⟩=some (.pointer (some ⟨d,0,none⟩))) :
  Calls Tryz.prog 28 #[.pointer (some ⟨p,0,none⟩)] w fun e w'=>e=.returned (.int .i64 c)/\w'=w:=by
 have HTh:=φ (pthere_any p d w p4);go_enter Tryz.func28,Tryz.ntmps28;go_wp2_with (go_at_call 46;refine HTh.out.mono ?_;rintro e w1 ⟨rfl,hw1⟩;subst hw1);go_ret;exact⟨rfl,rfl⟩
theorem lthere_nil (w:World):Calls Tryz.prog 41 #[.pointer none] w fun e w'=>e=.returned (.bool false)/\w'=w:=by
 go_enter Tryz.func41,Tryz.ntmps41;go_wp2_with (fail);go_ret;exact⟨rfl,rfl⟩
theorem end_nil (w:World):Calls Tryz.prog 47 #[.pointer none] w fun e w'=>e=.returned (.int .i64 0)/\Below w.heap.size w w':=by
 have HTh:=φ (lthere_nil w);go_enter Tryz.func47,Tryz.ntmps47;go_wp2_with (go_at_call 41;refine HTh.out.mono ?_;rintro e w1 ⟨rfl,hw1⟩;subst hw1);go_ret;exact⟨rfl,Below.refl _ _⟩
theorem newpool_bad (dv lv:Option Addr) (dn le first pages frames:Int) (w:World) (hSe:Calls Tryz.prog 70 #[.pointer dv] w fun e w'=>e=.returned (.int .i64 dn)/\w'=w)
  (hEn:Calls Tryz.prog 47 #[.pointer lv] w fun e w'=>e=.returned (.int .i64 le)/\Below w.heap.size w w') (hdn:0<=dn/\dn<=8192) (hp:pages<=9223372036854775807)
  (h:dn=0∨le=0∨first<0∨pages<1∨dn<first∨dn-first<pages∨frames<4∨32<frames) :
  Calls Tryz.prog 24 #[.pointer dv,.pointer lv,.int .i64 first,.int .i64 pages,.int .i64 frames] w fun e w'=>e=.returned (.pointer none)/\Below w.heap.size w w':=by
 have HSe:=φ hSe;have HEn:=φ hEn;have H:=φ h;have HDn:=φ hdn;clear hSe hEn h hdn;by_cases g0:dn=0
 ·have e0:(dn == 0)=true:=by simpa using g0
  clear g0;have HW:Hid (Below w.heap.size w w):=φ (Below.refl _ _);go_enter Tryz.func24,Tryz.ntmps24;go_wp2_with (first|(go_at_call 70;refine HSe.out.mono ?_;rintro e w1 ⟨rfl,hw1⟩;subst hw1)|(go_at_call 47;refine HEn.out.mono ?_;rintro e w1 ⟨rfl,hw1⟩;have HW:=φ hw1;clear hw1));go_ret;exact⟨rfl,HW.out⟩
 have e0:(dn == 0)=false:=by simpa using g0
 have G0:=φ g0;clear g0;by_cases g1:le=0
 ·have e1:(le == 0)=true:=by simpa using g1
  clear g1;go_enter Tryz.func24,Tryz.ntmps24;go_wp2_with (first|(go_at_call 70;refine HSe.out.mono ?_;rintro e w1 ⟨rfl,hw1⟩;subst hw1)|(go_at_call 47;refine HEn.out.mono ?_;rintro e w1 ⟨rfl,hw1⟩;have HW:=φ hw1;clear hw1));go_ret;exact⟨rfl,HW.out⟩
 have e1:(le == 0)=false:=by simpa using g1
 have G1:=φ g1;clear g1;by_cases g2:first<0
 ·have e2:decide (first<0)=true:=by exact decide_eq_true g2
  clear g2;go_enter Tryz.func24,Tryz.ntmps24;go_wp2_with (first|(go_at_call 70;refine HSe.out.mono ?_;rintro e w1 ⟨rfl,hw1⟩;subst hw1)|(go_at_call 47;refine HEn.out.mono ?_;rintro e w1 ⟨rfl,hw1⟩;have HW:=φ hw1;clear hw1));go_ret;exact⟨rfl,HW.out⟩
 have e2:decide (first<0)=false:=by exact decide_eq_false g2
 have G2:=φ g2;clear g2;by_cases g3:pages<1
 ·have e3:decide (pages<1)=true:=by exact decide_eq_true g3
  clear g3;go_enter Tryz.func24,Tryz.ntmps24;go_wp2_with (first|(go_at_call 70;refine HSe.out.mono ?_;rintro e w1 ⟨rfl,hw1⟩;subst hw1)|(go_at_call 47;refine HEn.out.mono ?_;rintro e w1 ⟨rfl,hw1⟩;have HW:=φ hw1;clear hw1));go_ret;exact⟨rfl,HW.out⟩
 have e3:decide (pages<1)=false:=by exact decide_eq_false g3
 have G3:=φ g3;clear g3;by_cases g4:dn<first
 ·have e4:decide (first > dn)=true:=by exact decide_eq_true g4
  clear g4;go_enter Tryz.func24,Tryz.ntmps24;go_wp2_with (first|(go_at_call 70;refine HSe.out.mono ?_;rintro e w1 ⟨rfl,hw1⟩;subst hw1)|(go_at_call 47;refine HEn.out.mono ?_;rintro e w1 ⟨rfl,hw1⟩;have HW:=φ hw1;clear hw1));go_ret;exact⟨rfl,HW.out⟩
 have e4:decide (first > dn)=false:=by exact decide_eq_false g4
 have G4:=φ g4;clear g4;obtain⟨rest,hrest⟩:∃ rest,rest=dn-first:=⟨_,rfl⟩
 have esub:IntKind.i64.wrap (dn-first)=rest:=by rw[hrest];exact IntWalk.i64_in _ (by have:=HDn.out;have:=G2.out;have:=G4.out;omega)
 have HRest:=φ hrest;clear hrest;by_cases g5:rest<pages
 ·have e5:decide (pages > rest)=true:=by exact decide_eq_true g5
  clear g5;go_enter Tryz.func24,Tryz.ntmps24;go_wp2_with (first|(go_at_call 70;refine HSe.out.mono ?_;rintro e w1 ⟨rfl,hw1⟩;subst hw1)|(go_at_call 47;refine HEn.out.mono ?_;rintro e w1 ⟨rfl,hw1⟩;have HW:=φ hw1;clear hw1));go_ret;exact⟨rfl,HW.out⟩
 have e5:decide (pages > rest)=false:=by exact decide_eq_false g5
 have G5:=φ g5;clear g5;by_cases g6:frames<4
 ·have e6:decide (frames<4)=true:=by exact decide_eq_true g6
  clear g6;go_enter Tryz.func24,Tryz.ntmps24;go_wp2_with (first|(go_at_call 70;refine HSe.out.mono ?_;rintro e w1 ⟨rfl,hw1⟩;subst hw1)|(go_at_call 47;refine HEn.out.mono ?_;rintro e w1 ⟨rfl,hw1⟩;have HW:=φ hw1;clear hw1));go_ret;exact⟨rfl,HW.out⟩
 have e6:decide (frames<4)=false:=by exact decide_eq_false g6
 have G6:=φ g6;clear g6;by_cases g7:32<frames
 ·have e7:decide (frames > 32)=true:=by exact decide_eq_true g7
  clear g7;go_enter Tryz.func24,Tryz.ntmps24;go_wp2_with (first|(go_at_call 70;refine HSe.out.mono ?_;rintro e w1 ⟨rfl,hw1⟩;subst hw1)|(go_at_call 47;refine HEn.out.mono ?_;rintro e w1 ⟨rfl,hw1⟩;have HW:=φ hw1;clear hw1));go_ret;exact⟨rfl,HW.out⟩
 have e7:decide (frames > 32)=false:=by exact decide_eq_false g7
 have G7:=φ g7;clear g7;exact absurd H.out (by
  have a0:=G0.out;have a1:=G1.out;have a2:=G2.out;have a3:=G3.out;have a4:=G4.out;have a5:=G5.out;have a6:=G6.out;have a7:=G7.out;have a8:=HRest.out;omega)
end
section
set_option maxHeartbeats 4000000
set_option maxRecDepth 100000
open Go.RowKit Go.Shelf
def rigObj (d l p:Nat):Obj:=.cells #[.pointer (some ⟨d,0,none⟩),.pointer (some ⟨l,0,none⟩),.pointer (some ⟨p,0,none⟩)] 44 (0,0)
def BegG (fr:Nat) (pages:Int) (w:World) (e:Ending) (w':World):Prop :=
 ∃ g U V d ds do_ l p sv m hand Q B Us,e=.returned (.pointer (some ⟨g,0,none⟩))/\w'.heap[g]? = some (rigObj d l p)/\RG w' U V d ds do_ l p 0 (DK.fresh (40+pages)) (LK.fresh 40) (PK.fresh fr 40 pages) sv m hand Q B Us/\Below w.heap.size w w' /\
  (∀ i,AllB U V d ds do_ i->w.heap.size<=i)/\w.heap.size<=g/\¬ AllB U V d ds do_ g
theorem begin_any (fr:Nat) (pages:Int) (w:World) (h1:4<=fr) (h2:fr<=32) (h3:1<=pages) (h4:pages<=8152) :
  Calls Tryz.prog 8 #[.int .i64 pages,.int .i64 fr] w (BegG fr pages w):=by
 obtain⟨n,hn⟩:∃ n,n=40+pages:=⟨_,rfl⟩
 have e0:IntKind.i64.wrap (40+pages)=n:=by rw[hn];exact IntWalk.i64_in _ (by omega)
 have HDk:=φ (newDisk_any n w (by omega) (by omega));have HN:Hid (40<=n/\40+pages<=n):=φ ⟨by omega,by omega⟩;have HF:Hid (4<=fr/\fr<=32/\1<=pages):=φ ⟨h1,h2,h3⟩;have HNe:=φ hn;clear h1 h2 h3 h4 hn;go_enter Tryz.func8,Tryz.ntmps8;go_wp2_with (first
  | (go_at_call 35;refine HDk.out.mono ?_;rintro e w1 ⟨rfl,hd,hb,hs⟩;have D1:=φ hd;have B1:=φ hb;have S1:=φ hs;have HO:=φ (open_fresh (w.heap.size+2) w.heap.size (w.heap.size+1) 0 (DK.fresh n) 40 w1 hd (by have h9:=HN.out;unfold DK.may DK.fresh;simp;omega) rfl (by omega) HN.out.1);clear hd hb hs)
  | (go_at_call 23;refine HO.out.mono ?_;rintro e w2 ⟨l,U,rfl,hl,hb,hU⟩;have L2:=φ hl;have B2:=φ hb;have U2:=φ hU;have D2:=φ (D1.out.keep (w':=w2) fun i hi=>hb.block i (D1.out.lt hi));have HU:Hid (∀ g,DB (w.heap.size+2) w.heap.size (w.heap.size+1) g->¬ U g):=φ (fun g hg hu=>by have h8:=hU g hu;have h9:=D1.out.lt hg;omega);have HP:=φ (newpool_any U _ _ _ l 0 (DK.fresh n) (LK.fresh 40) fr 40 pages w2 hl D2.out HU.out HF.out.1 HF.out.2.1 (by omega) HF.out.2.2 HN.out.2 (by decide));clear hl hb hU)
  | (go_at_call 24;refine HP.out.mono ?_;rintro e w3 ⟨rfl,hr,hb,hs⟩;have R3:=φ hr;have B3:=φ hb;have S3:=φ hs;clear hr hb hs))
 go_ret;have hx:Below w3.heap.size w3 (w3.alloc (rigObj (w.heap.size+2) l (w2.heap.size+1))):=(Below.refl _ w3).alloc (Nat.le_refl _) _;have s1:=B1.out.size;have s2:=B2.out.size;have s3:=B3.out.size;have hb13:Below w.heap.size w w3:=(B1.out.trans (B2.out.mono s1)).trans (B3.out.mono (Nat.le_trans s1 s2));have hR:=R3.out.keep hx (Nat.le_refl 0);have e9:(40+pages:Int)=n:=HNe.out.symm;refine⟨w3.heap.size,U,_,w.heap.size+2,w.heap.size,w.heap.size+1,l,w2.heap.size+1,_,_,_,_,_,_,rfl,heap_alloc_last w3 _,by rw[e9];exact hR,hb13.trans (hx.mono hb13.size),fun i hi=>?_,hb13.size,fun hA=>?_⟩
 ·rcases hi with hi|hi|hi
  ·exact Nat.le_trans s1 (U2.out i hi)
  ·exact Nat.le_trans (Nat.le_trans s1 s2) hi.1
  ·rcases hi with rfl|rfl|rfl<;>omega
 ·have:=R3.out.lt hA;omega
end
section
set_option maxHeartbeats 4000000
set_option maxRecDepth 100000
open Go.RowKit Go.Shelf
theorem bytesRow_get (s:ByteArray) (c i:Nat) (hi:i<s.size):(bytesRow s c)[i]? = some (.int .u8 (bt s.data.toList i)):=by
 have hi':i<s.data.size:=hi;unfold bytesRow;rw[Array.getElem?_append_left (by simpa using hi')];simp only[Array.getElem?_map,Array.getElem?_eq_getElem hi',Option.map_some];unfold bt;simp[List.getD_eq_getElem?_getD,Array.getElem?_eq_getElem hi']
theorem wpList_str_bytes {w:World} {ops:Array Oper} {rest:List Oper} {o:Oper} {a:Act} {Q:Exit->Act->World->Prop} (hgd:o.guard=none) (x:Operand)
  (ho:o.op=.convert 9 27 x) (s:ByteArray) (hx:a.eval x=.string s) (hlm:s.size<=140737488355328)
  (h:∀ c w',Below w.heap.size w w'->RB w'.heap.size w' (some ⟨w.heap.size,0,none⟩) s.size c s.data.toList->w'.heap.size=w.heap.size+1->wpList Tryz.prog ops Q rest (a.put o.dst (.slice (some ⟨w.heap.size,0,none⟩) s.size c)) w'):wpList Tryz.prog ops Q (o::rest) a w:=by
 refine wpList_plain hgd fun K hK=>?_
 have hrun:=run_bytes_of_string (P:=Tryz.prog) w 9 27 5 s Tryz.underlying9 Tryz.underlying27 Tryz.underlying5;unfold Oper.wp execOp;simp only[ho,hx];rw[Sem.run_bind,hrun];simp only[Result.andThen_ok,Sem.run_pure];refine hK _ _ (h _ _ ?_ ?_ ?_)
 ·exact ((Below.refl _ w).drew).alloc (Nat.le_refl _) _
 ·have hc:=grownCap_ge w s.size 0 5;have hm:=grownCap_le_maxLen w s.size 0 5 (by unfold maxLen;omega);refine⟨Array.length_toList.symm,hc,by simpa [maxLen] using hm,hlm,fun _=>⟨_,_,rfl,by simp,fun i hi=>?_⟩⟩;have hh:=heap_alloc_new w.drew (.cells (bytesRow s (grownCap w s.size 0 5)) 5 ((bytesRow s (grownCap w s.size 0 5)).size,(bytesRow s (grownCap w s.size 0 5)).size+1));have hd:w.drew.heap.size=w.heap.size:=rfl;rw[hd] at hh;simp only[World.cell?,hh,Nat.zero_add,Option.isSome_none,Bool.false_eq_true,if_false];exact bytesRow_get s _ i hi
 ·simp
def rowR (i:Int) (k v:List UInt8):RecV:=⟨0,1,0,0,1,i,k,[],v,[],[]⟩
theorem lrow_any (i:Int) (k v:ByteArray) (w:World) (hk:k.size<=1000) (hv:v.size<=1000) :
  Calls Tryz.prog 36 #[.int .i64 i,.string k,.string v] w fun e w'=>Below w.heap.size w w'/\∃ b0 b1 c0 c1,e=.returned (recV (rowR i k.data.toList v.data.toList) (some ⟨b0,0,none⟩) none (some ⟨b1,0,none⟩) none none c0 0 c1 0 0)/\w.heap.size<=b0/\w.heap.size<=b1 /\
   RB w'.heap.size w' (some ⟨b0,0,none⟩) k.size c0 k.data.toList/\RB w'.heap.size w' (some ⟨b1,0,none⟩) v.size c1 v.data.toList:=by
 have h0:k.size<=140737488355328:=by omega
 have h1:v.size<=140737488355328:=by omega
 go_enter Tryz.func36,Tryz.ntmps36;go_wp2_with (with_reducible refine wpList_str_bytes rfl _ rfl k rfl h0 ?_);intro c0 w1 hb1 hr1 hs1;have Hb1:=φ hb1;have Hr1:=φ hr1;have Hs1:=φ hs1;clear hb1 hr1 hs1;go_wp2_with (with_reducible refine wpList_str_bytes rfl _ rfl v rfl h1 ?_);intro c1 w2 hb2 hr2 hs2;have Hb2:=φ hb2;have Hr2:=φ hr2;have Hs2:=φ hs2;clear hb2 hr2 hs2;have zb:w2.heap[w.heap.size]? = some (.cells #[.int .i64 0,.int .i64 0,.int .i64 0,.int .i64 0,.int .u8 0,.int .i64 0,.slice none 0 0,.slice none 0 0,.slice none 0 0,.slice none 0 0,.slice none 0 0] 33 (0,0)):=(Hb2.out.block _ (by have:=Hs1.out;omega)).trans ((Hb1.out.block _ (by simp)).trans (heap_alloc_last w (.cells #[.int .i64 0,.int .i64 0,.int .i64 0,.int .i64 0,.int .u8 0,.int .i64 0,.slice none 0 0,.slice none 0 0,.slice none 0 0,.slice none 0 0,.slice none 0 0] 33)));have z0:w2.cell? ⟨w.heap.size,0,none⟩=some (.int .i64 0):=cell_of_row _ _ 0 _ _ _ zb;have f0:w2.frozen? ⟨w.heap.size,0,none⟩=false:=by simp[World.frozen?,zb]
 have z1:w2.cell? ⟨w.heap.size,1,none⟩=some (.int .i64 0):=cell_of_row _ _ 1 _ _ _ zb;have f1:w2.frozen? ⟨w.heap.size,1,none⟩=false:=by simp[World.frozen?,zb]
 have z2:w2.cell? ⟨w.heap.size,2,none⟩=some (.int .i64 0):=cell_of_row _ _ 2 _ _ _ zb;have f2:w2.frozen? ⟨w.heap.size,2,none⟩=false:=by simp[World.frozen?,zb]
 have z3:w2.cell? ⟨w.heap.size,3,none⟩=some (.int .i64 0):=cell_of_row _ _ 3 _ _ _ zb;have f3:w2.frozen? ⟨w.heap.size,3,none⟩=false:=by simp[World.frozen?,zb]
 have z4:w2.cell? ⟨w.heap.size,4,none⟩=some (.int .u8 0):=cell_of_row _ _ 4 _ _ _ zb;have f4:w2.frozen? ⟨w.heap.size,4,none⟩=false:=by simp[World.frozen?,zb]
 have z5:w2.cell? ⟨w.heap.size,5,none⟩=some (.int .i64 0):=cell_of_row _ _ 5 _ _ _ zb;have f5:w2.frozen? ⟨w.heap.size,5,none⟩=false:=by simp[World.frozen?,zb]
 have z6:w2.cell? ⟨w.heap.size,6,none⟩=some (.slice none 0 0):=cell_of_row _ _ 6 _ _ _ zb;have f6:w2.frozen? ⟨w.heap.size,6,none⟩=false:=by simp[World.frozen?,zb]
 have z7:w2.cell? ⟨w.heap.size,7,none⟩=some (.slice none 0 0):=cell_of_row _ _ 7 _ _ _ zb;have f7:w2.frozen? ⟨w.heap.size,7,none⟩=false:=by simp[World.frozen?,zb]
 have z8:w2.cell? ⟨w.heap.size,8,none⟩=some (.slice none 0 0):=cell_of_row _ _ 8 _ _ _ zb;have f8:w2.frozen? ⟨w.heap.size,8,none⟩=false:=by simp[World.frozen?,zb]
 have z9:w2.cell? ⟨w.heap.size,9,none⟩=some (.slice none 0 0):=cell_of_row _ _ 9 _ _ _ zb;have f9:w2.frozen? ⟨w.heap.size,9,none⟩=false:=by simp[World.frozen?,zb]
 have z10:w2.cell? ⟨w.heap.size,10,none⟩=some (.slice none 0 0):=cell_of_row _ _ 10 _ _ _ zb;have f10:w2.frozen? ⟨w.heap.size,10,none⟩=false:=by simp[World.frozen?,zb]
 have Zb:=φ zb;clear zb;go_wp2_with (fail);refine bodyPost_ret (v:=.agg #[.int .i64 0,.int .i64 1,.int .i64 0,.int .i64 0,.int .u8 1,.int .i64 i,.slice (some ⟨w.heap.size+1,0,none⟩) k.size c0,.slice none 0 0,.slice (some ⟨w1.heap.size,0,none⟩) v.size c1,.slice none 0 0,.slice none 0 0]) (by simp[results,Tryz.f36,go_sem,z0,z1,z2,z3,z4,z5,z6,z7,z8,z9,z10]) rfl ?_;generalize hW:World.setCell _ _ _=W;have hT:Trn (fun g=>g=w.heap.size) w2 W:=by
  rw[<- hW]
  repeat refine Trn.set ?_ _ _ _ (.inl rfl)
  exact Trn.refl _ _
 clear hW;have s1:=Hs1.out;have s2:=Hs2.out;have b2:Below w.heap.size w w2:=(((Below.refl _ w).alloc (Nat.le_refl _) _).trans (Hb1.out.mono (by simp))).trans (Hb2.out.mono (by omega));have b3:Below w.heap.size w2 W:=hT.out (fun g hg=>by rw[hg];exact Nat.le_refl _) (by omega);have s3:=hT.size;refine⟨b2.trans b3,w.heap.size+1,w1.heap.size,c0,c1,rfl,by omega,by omega,?_,?_⟩
 ·exact RB.mono (RB.of_block (Hr1.out.below Hb2.out) fun b o s e _ hb=>hT.block b (by omega) (fun e2=>by cases e;have:w.heap.size+1=w.heap.size:=e2;omega)) (by omega)
 ·exact RB.mono (RB.of_block Hr2.out fun b o s e _ hb=>hT.block b hb (fun e2=>by cases e;have:w1.heap.size=w.heap.size:=e2;omega)) s3
end
section
open Go.RowKit Go.Shelf
variable {i:Int}
theorem grow_last (L:LK) (b:List UInt8):(L.grow b).last={ L.last with body:=L.last.body++b }:=by
 unfold LK.grow;show (_++[_]).getLastD sh0=_;simp
theorem grow_end (L:LK) (b:List UInt8):(L.grow b).end_=L.end_+b.length:=by
 unfold LK.end_;rw[grow_last];unfold ShV.at_;simp only[List.length_append];omega
theorem awr_right (h0:0<=i) (h1:i<9):rightB (rowR i awK awV)=true/\(putB (rowR i awK awV)).length<=40:=by
 rcases (by omega:i=0∨i=1∨i=2∨i=3∨i=4∨i=5∨i=6∨i=7∨i=8) with rfl|rfl|rfl|rfl|rfl|rfl|rfl|rfl|rfl<;>decide +kernel
theorem aw_append {L:LK} (h0:0<=i) (h1:i<9) (hr:L.last.body.length<=400):L.append (rowR i awK awV)=(L.end_,0,L.grow (putB (rowR i awK awV)))/\(L.grow (putB (rowR i awK awV))).last.body.length<=L.last.body.length+40/\L.end_<(L.grow (putB (rowR i awK awV))).end_:=by
 obtain⟨hR,hL⟩:=awr_right h0 h1;have hp:=putB_pos (rowR i awK awV);refine⟨?_,?_,?_⟩
 ·unfold LK.append;rw[if_neg (by rw[hR];simp;omega),if_pos (by omega)]
 ·rw[grow_last];simp only[List.length_append];omega
 ·rw[grow_end];omega
theorem aw_fit (i:Int) (h1:i<9):(rowR i awK awV).Fit:=⟨by simp[rowR],by simp[rowR],by simp[rowR],by show i<=_;omega,by simp[rowR],by simp[rowR]⟩
end
section
set_option maxRecDepth 100000
open Go.RowKit Go.Shelf
variable {D:DK} {i n:Int} {L:LK} {P:PK}
theorem Well.log {L':LK} (h:Well D L P) (hok:∃ k,L'.Ok k) (hf:L'.first=L.first) (hc:L'.count=L.count):Well D L' P :=
 ⟨h.up,hok,by rw[hf,hc];exact h.fc,h.dn,h.pc,h.dis,h.rng,h.cl,h.sz⟩
def rowN (i n:Int):RecV:={ rowR i awK awV with lsn:=n }
theorem aw_do (h0:0<=i) (h1:i<P.count) (hn:1<=n) (hn2:n<L.end_) {x:Bool×Int×PK×LK×DK} (hx:DoP P (rowN i n) L D x):DoneP P i n (actTurn awK [] awV) L D x:=by
 have hk:(rowN i n).kind=1:=rfl;have hl:(rowN i n).lsn=n:=rfl;have hp:(rowN i n).page=i:=rfl;have ha:¬ argBad (rowN i n) L:=by
  rintro (h|h|h)
  ·exact h.2.1 hk
  ·rw[hl] at h;omega
  ·rw[hl] at h;omega
 have hb:¬ pageBad (rowN i n) P.count:=by
  rintro (h|h)
  ·rw[hp] at h;exact h ⟨h0,h1⟩
  ·have:=h.1;rw[hk] at this;omega
 cases hx with
 | arg h=>exact absurd h ha
 | none h h2=>exact absurd h2 hb
 | one x h2 h3 h4 h5=>exact h5
 | bad x h2 h3 h4=>rw[hk] at h4;omega
 | two x y h2 h3 h4=>rw[hk] at h4;omega
theorem aw_twice {q:List UInt8} (hp:PageOf q [(awK,awV)]):turnL (mkP q [(awK,awV)]) awK [] awV=(6,mkP q [(awK,awV)]):=by
 have h1:¬ turnedB awK.length ([]:List UInt8).length awV.length=false:=by decide
 have h2:got [(awK,awV)] awK≠(if ([]:List UInt8)=[] then none else some []):=by decide
 rw[turnL_mk hp,if_neg h1,if_pos h2]
theorem aw_len (h0:0<=n) (h1:n<=9223372036854775807):(setLsnL awP0 n).length=512:=by
 obtain⟨h,e,hp,-⟩:=aw_page h0 h1;rw[e];exact mkP_len hp
theorem aw_first (h:Well D L P) (h0:0<=i) (h1:i<P.count) (hn:1<=n) (hn2:n<L.end_) (hm:n<=9223372036854775807) (hb:Cont P D i (List.replicate 512 0)) {x:Bool×Int×PK×LK×DK} (hx:DoP P (rowN i n) L D x) :
  x.1=true/\x.2.1=0/\Well x.2.2.2.2 x.2.2.2.1 x.2.2.1/\CoreEq x.2.2.2.1 L/\x.2.2.1.first=P.first/\x.2.2.1.count=P.count/\x.2.2.1.most=P.most/\P.frames.length<=x.2.2.1.frames.length /\
  (∀ m c,0<=m->m≠i->Cont P D m c->Cont x.2.2.1 x.2.2.2.2 m c)/\Cont x.2.2.1 x.2.2.2.2 i (setLsnL awP0 n) /\
  ((∀ f∈P.frames,f.page≠i)->P.frames.length<P.most->x.2.2.1.frames.length=P.frames.length+1)/\(∀ f∈x.2.2.1.frames,f.page=i∨∃ g∈P.frames,g.page=f.page):=by
 obtain⟨g1,g2,g3,g4,g5,g6,g7,g8,g9,g10,g11,g12⟩:=done_well h h0 h1 hb (fun _=>by rw[aw_turn];exact aw_len (by omega) hm) (aw_do h0 h1 hn hn2 hx);rw[aw_lsn0,aw_turn] at g7 g8;have e1:x.1=true:=by rw[g7,decide_eq_true (show ((0:Nat):Int)<n by omega)];rfl
 rw[e1,if_pos rfl,aw_turn] at g10;exact⟨e1,by rw[g8,if_pos (show ((0:Nat):Int)<n by omega)],g1,g2,g3,g4,g5,g6,g9,g10,g11,g12⟩
theorem aw_second (h:Well D L P) (h0:0<=i) (h1:i<P.count) (hn:1<=n) (hn2:n<L.end_) (hm:n<=9223372036854775807) (hb:Cont P D i (setLsnL awP0 n)) {x:Bool×Int×PK×LK×DK} (hx:DoP P (rowN i n) L D x) :
  x.1=false/\x.2.1=0/\Well x.2.2.2.2 x.2.2.2.1 x.2.2.1/\CoreEq x.2.2.2.1 L/\x.2.2.1.first=P.first/\x.2.2.1.count=P.count/\x.2.2.1.most=P.most/\P.frames.length<=x.2.2.1.frames.length /\
  (∀ m c,0<=m->m≠i->Cont P D m c->Cont x.2.2.1 x.2.2.2.2 m c)/\Cont x.2.2.1 x.2.2.2.2 i (setLsnL awP0 n)/\(∀ f∈x.2.2.1.frames,f.page=i∨∃ g∈P.frames,g.page=f.page):=by
 obtain⟨q,e0,hp,hl⟩:=aw_page (n:=n) (by omega) hm;have hlt:¬ ((lsnL (setLsnL awP0 n):Nat):Int)<n:=by rw[hl];omega
 have hd:=aw_do h0 h1 hn hn2 hx;have ha:(actTurn awK [] awV (setLsnL awP0 n)).1=0->(setLsnL (actTurn awK [] awV (setLsnL awP0 n)).2 n).length=512:=by
  intro hz;have e6:=aw_twice hp;rw[e0] at hz;rw[show (actTurn awK [] awV (mkP q [(awK,awV)])).1=((turnL (mkP q [(awK,awV)]) awK [] awV).1:Int) from rfl,e6] at hz;exact absurd hz (by show ¬ ((6:Nat):Int)=0;omega)
 obtain⟨g1,g2,g3,g4,g5,g6,g7,g8,g9,g10,g11,g12⟩:=done_well h h0 h1 hb ha hd;have e1:x.1=false:=by rw[g7,decide_eq_false hlt];rfl
 rw[e1] at g10;exact⟨e1,by rw[g8,if_neg hlt],g1,g2,g3,g4,g5,g6,g9,g10,g12⟩
end
section
open Go.RowKit Go.Shelf
section
variable {P:Program} {ops:Array Oper} {Q:Exit->Act->World->Prop} {md:Region.Mode} {S:World->Prop} {fuel:Nat} {listed:Array Bool} {a:Act} {w:World} {i:Nat} {o:Oper} {rs:List Nat}
theorem step_val {w':World} {v:Value} (ho:ops[i]? = some o) (hgd:o.guard=none) (hrun:(execOp a.eval o).run P w=.ok (.value v) w') (hS:S w')
  (h:wpAnyH P md ops Q S fuel (listed.setIfInBounds i true) (a.put o.dst v) w') (hs:AllReadyH P md ops Q S fuel listed a w rs):AllReadyH P md ops Q S fuel listed a w (i::rs) :=
 AllReadyH.cons ho (fun K hK=>by
  have hw:Region.wanted o (yielded ops a.tmps)=true:=by simp[Region.wanted,hgd]
  rw[if_pos hw];unfold Oper.wp;rw[hrun];exact hK.out _ _ hS (fun _=>h)) hs
theorem step_fn {f:FuncId} {args:Array Value} (ho:ops[i]? = some o) (hgd:o.guard=none) (hrun:(execOp a.eval o).run P w=.ok (.enter f args) w)
  (h:Calls P f args w fun e w'=>∃ v,e=.returned v/\S w'/\wpAnyH P md ops Q S fuel (listed.setIfInBounds i true) (a.put o.dst v) w') (hs:AllReadyH P md ops Q S fuel listed a w rs):AllReadyH P md ops Q S fuel listed a w (i::rs) :=
 AllReadyH.cons ho (fun K hK=>by
  have hw:Region.wanted o (yielded ops a.tmps)=true:=by simp[Region.wanted,hgd]
  rw[if_pos hw];unfold Oper.wp;rw[hrun];refine Calls.mono h ?_;rintro e w' ⟨v,rfl,hS,h'⟩;exact hK.out _ _ hS (fun _=>h')) hs
theorem step_skip {w':World} (ho:ops[i]? = some o) (hgd:o.guard=none) (hrun:(execOp a.eval o).run P w=.ok .skip w') (hS:S w')
  (h:wpAnyH P md ops Q S fuel (listed.setIfInBounds i true) (a.put o.dst undef) w') (hs:AllReadyH P md ops Q S fuel listed a w rs):AllReadyH P md ops Q S fuel listed a w (i::rs) :=
 AllReadyH.cons ho (fun K hK=>by
  have hw:Region.wanted o (yielded ops a.tmps)=true:=by simp[Region.wanted,hgd]
  rw[if_pos hw];unfold Oper.wp;rw[hrun];exact hK.out _ _ hS (fun _=>h)) hs
theorem step_law (ho:ops[i]? = some o) (hgd:o.guard=none)
  (h:∀ K:Act->World->Prop,(∀ a w,S w->wpAnyH P md ops Q S fuel (listed.setIfInBounds i true) a w->K a w)->Oper.wp P o a w K Q) (hs:AllReadyH P md ops Q S fuel listed a w rs):AllReadyH P md ops Q S fuel listed a w (i::rs) :=
 AllReadyH.cons ho (fun K hK=>by
  have hw:Region.wanted o (yielded ops a.tmps)=true:=by simp[Region.wanted,hgd]
  rw[if_pos hw];exact h K (fun a w hS hh=>hK.out a w hS (fun _=>hh))) hs
theorem run_fn {ev:Operand->Value} {f:FuncId} {x:Operand} {args:Array Operand} {T:Array TypeId} (ho:o.op=.call { callee:=.value x,args:=args,argTypes:=T }) (hx:ev x=.func (.func f) #[] #[]) (he:Enters P f) (w:World) {vs:Array Value} (hv:args.map ev=vs) :
  (execOp ev o).run P w=.ok (.enter f vs) w:=by
 subst hv;simp[execOp,ho,resolve,Deferred.ofValue,hx,invoke,he _ w]
theorem run_fn1 {ev:Operand->Value} {f:FuncId} {x x0:Operand} {T:Array TypeId} {v0:Value} (ho:o.op=.call { callee:=.value x,args:=#[x0],argTypes:=T }) (hx:ev x=.func (.func f) #[] #[]) (he:Enters P f) (w:World) (h0:ev x0=v0) :
  (execOp ev o).run P w=.ok (.enter f #[v0]) w:=run_fn ho hx he w (by simp[h0])
theorem run_fn2 {ev:Operand->Value} {f:FuncId} {x x0 x1:Operand} {T:Array TypeId} {v0 v1:Value} (ho:o.op=.call { callee:=.value x,args:=#[x0,x1],argTypes:=T }) (hx:ev x=.func (.func f) #[] #[]) (he:Enters P f) (w:World) (h0:ev x0=v0) (h1:ev x1=v1) :
  (execOp ev o).run P w=.ok (.enter f #[v0,v1]) w:=run_fn ho hx he w (by simp[h0,h1])
theorem run_fn3 {ev:Operand->Value} {f:FuncId} {x x0 x1 x2:Operand} {T:Array TypeId} {v0 v1 v2:Value} (ho:o.op=.call { callee:=.value x,args:=#[x0,x1,x2],argTypes:=T }) (hx:ev x=.func (.func f) #[] #[]) (he:Enters P f) (w:World) (h0:ev x0=v0) (h1:ev x1=v1) (h2:ev x2=v2) :
  (execOp ev o).run P w=.ok (.enter f #[v0,v1,v2]) w:=run_fn ho hx he w (by simp[h0,h1,h2])
theorem run_load1 {ev:Operand->Value} {t e:TypeId} {x:Operand} {y j:Nat} {v:Value} (ho:o.op=.load t x) (hx:ev x=.pointer (some ⟨y,j,none⟩)) (ht:P.underlying t=some (.slice e)) (hc:w.cell? ⟨y,j,none⟩=some v) :
  (execOp ev o).run P w=.ok (.value v) w:=by
 have h1:=run_isAgg_plain ht rfl w;simp[execOp,ho,hx,Instr.loadAt,go_sem,h1,hc]
end
theorem run_store_rows {ev:Operand->Value} {o:Oper} {x u:Operand} {y j:Nat} {sa:Option Addr} {n c:Nat} {v0:Value} {w:World} (ho:o.op=.store 94 x u) (hx:ev x=.pointer (some ⟨y,j,none⟩)) (hu:ev u=.slice sa n c) (hc:w.cell? ⟨y,j,none⟩=some v0) (hf:w.frozen? ⟨y,j,none⟩=false) :
  (execOp ev o).run Tryz.prog w=.ok .skip (w.setCell ⟨y,j,none⟩ (.slice sa n c)):=by
 simp[execOp,ho,hx,hu,go_sem,hc,hf]
theorem run_build_row {ev:Operand->Value} {o:Oper} {x0 x1:Operand} {ka va:Option Addr} {kn kc vn vc:Nat} (ho:o.op=.build 185 #[(0,x0),(1,x1)]) (h0:ev x0=.slice ka kn kc) (h1:ev x1=.slice va vn vc) (w:World) :
  (execOp ev o).run Tryz.prog w=.ok (.value (.agg #[.slice ka kn kc,.slice va vn vc])) w:=by
 simp[execOp,ho,h0,h1,go_sem]
theorem run_buildSlice_row {ev:Operand->Value} {o:Oper} {x:Operand} {k v:Value} (ho:o.op=.buildSlice 94 1 #[(0,x)]) (hx:ev x=.agg #[k,v]) (w:World) :
  (execOp ev o).run Tryz.prog w=.ok (.value (.slice (some ⟨w.heap.size,0,none⟩) 1 1)) (w.alloc (.cells #[k,v] 185)):=by
 simp[execOp,ho,hx,go_sem]
end
end Go.Proofs.YtohlkkannjifmaaGreatDoor
