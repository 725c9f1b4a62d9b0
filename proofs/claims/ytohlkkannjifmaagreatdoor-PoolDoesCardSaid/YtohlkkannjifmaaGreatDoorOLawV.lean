import Derived.Test.YtohlkkannjifmaaGreatDoorSteps
import Derived.Test.YtohlkkannjifmaaGreatDoorRowsW
namespace Go.Proofs.YtohlkkannjifmaaGreatDoor
section
open Go.RowKit Go.Shelf
variable {n:Int}
theorem rows_mk {h:List UInt8} {R:List Rw} (H:PageOf h R):rowsL (mkP h R)=R:=by
 have hb:=behind_mk H;obtain⟨a,ha,-,hs⟩:=mkP_split H;have:=scan_rows R (mkP h R) a _ hs H.ok;unfold rowsL;rw[if_neg (by omega),mkP_cnt H];rw[ha] at this;exact this
theorem aw_rows (h0:0<=n) (h1:n<=9223372036854775807):(rowsL (setLsnL awP0 n)).length=1:=by
 obtain⟨h,e,hp,-⟩:=aw_page h0 h1;rw[e,rows_mk hp];rfl
theorem got_cont {D:DK} {L:LK} {P:PK} (h:Well D L P) (h0:0<=n) (h1:n<P.count) {x:Int×Nat×PK×LK×DK} (hx:FrameP P n L D x) {b:List UInt8} (hb:Cont P D n b):x.1=0/\(x.2.1<x.2.2.1.frames.length->(x.2.2.1.frames.getD x.2.1 fr0).b=b):=by
 have hg:=frame_well h h0 h1 hx;refine⟨hg.ok,fun hl=>?_⟩;obtain⟨f,hf,hp⟩:=hg.fr;rw[List.getD_eq_getElem?_getD,hf];exact (hg.kept.well.cont_at hf).1 (by rw[hp];exact hg.kept.cont n b h0 hb)
end
section
set_option maxHeartbeats 4000000
set_option maxRecDepth 100000
open Go.RowKit Go.Shelf
inductive CleanP (P:PK) (n:Int) (L:LK) (D:DK):Int×PK×LK×DK->Prop
 | away:(∀ f∈P.frames,f.page≠n)->CleanP P n L D (0,P,L,D)
 | clean (i:Nat):i<P.frames.length->(P.frames.getD i fr0).page=n->(P.frames.getD i fr0).dirty=false->CleanP P n L D (0,P,L,D)
 | write (i:Nat):i<P.frames.length->(P.frames.getD i fr0).page=n->(P.frames.getD i fr0).dirty=true->CleanP P n L D (P.write i (P.frames.getD i fr0) L D)
def CleanG (U V:Nat->Prop) (d ds do_ l p K:Nat) (P:PK) (n:Int) (L:LK) (D:DK) (sv:Value) (m hand:Nat) (Q:Nat->Nat) (B:Nat->Value) (Us:Nat->Bool) (w:World) (e:Ending) (w':World):Prop :=
 ∃ x,CleanP P n L D x/\e=.returned (.int .i64 x.1)/\RG w' U V d ds do_ l p (K+8193) x.2.2.2 x.2.2.1 x.2.1 sv m hand Q B Us/\Trn (AllB U V d ds do_) w w'
theorem clean_any (U V:Nat->Prop) (d ds do_ l p K:Nat) (D:DK) (L:LK) (P:PK) (sv:Value) (m hand:Nat) (Q:Nat->Nat) (B:Nat->Value) (Us:Nat->Bool) (n:Int) (w:World) (h:RG w U V d ds do_ l p K D L P sv m hand Q B Us) (hn:0<=n/\n<P.count) (hK:K<=800000000) :
  Calls Tryz.prog 19 #[.pointer (some ⟨p,0,none⟩),.int .i64 n] w (CleanG U V d ds do_ l p K P n L D sv m hand Q B Us w):=by
 have hok:=h.pf.ok;have p1:w.cell? ⟨p,1,none⟩=some (.map (some m)):=cell_of_row _ _ 1 _ _ _ h.pf.blk;have HTh:Hid (Calls Tryz.prog 46 #[.pointer (some ⟨p,0,none⟩)] w fun e w'=>e=.returned (.bool true)/\w'=w):=φ (pthere_any p d w (cell_of_row _ _ 4 _ _ _ h.pf.blk));have HHs:Hid (Calls Tryz.prog 48 #[.pointer (some ⟨p,0,none⟩),.int .i64 n] w fun e w'=>e=.returned (.bool true)/\w'=w):=φ ((phas_any p n P.count w (cell_of_row _ _ 7 _ _ _ h.pf.blk)).mono fun e w' hh=>⟨by rw[hh.1,decide_eq_true hn.1,decide_eq_true hn.2];rfl,hh.2⟩);rcases h.look n (by omega) (by have:=hok.fc;have:=hok.f1;omega) with ⟨i,hi,hpg,hlo⟩|⟨hnew,hlo⟩
 ·have q3:w.cell? ⟨Q i,3,none⟩=some (.bool (P.frames.getD i fr0).dirty):=cell_of_row _ _ 3 _ _ _ (h.pf.fr i hi).blk
  cases hd:(P.frames.getD i fr0).dirty with
  | false =>
   rw[hd] at q3;have HX:Hid (CleanP P n L D (0,P,L,D)):=φ (.clean i hi hpg hd);have H:=φ h;clear h hok hn hi hpg hd;generalize Q i=qi at hlo q3;go_enter Tryz.func19,Tryz.ntmps19;go_wp2_with (first|(go_at_call 46;refine HTh.out.mono ?_;rintro e w1 ⟨rfl,hw1⟩;subst hw1)|(go_at_call 48;refine HHs.out.mono ?_;rintro e w1 ⟨rfl,hw1⟩;subst hw1));go_ret;exact⟨_,HX.out,rfl,(H.out.keepN rfl).mono (by omega),by first|exact Trn.refl _ _|exact (Trn.refl _ _).drew⟩
  | true =>
   rw[hd] at q3;have HX:Hid (CleanP P n L D (P.write i (P.frames.getD i fr0) L D)):=φ (.write i hi hpg hd);have HW:Hid (∀ W,W.heap=w.heap->Calls Tryz.prog 58 #[.pointer (some ⟨p,0,none⟩),.pointer (some ⟨Q i,0,none⟩)] W (PwP U V d ds do_ l p K sv m hand Q B Us (P.write i (P.frames.getD i fr0) L D) W)):=φ fun W hW=>pwrite_any U V d ds do_ l p K D L P sv m hand Q B Us i W (h.keepN hW) hi (by omega)
   clear h hok hn hi hpg hd;go_enter Tryz.func19,Tryz.ntmps19;go_wp2_with (first|(go_at_call 46;refine HTh.out.mono ?_;rintro e w1 ⟨rfl,hw1⟩;subst hw1)|(go_at_call 48;refine HHs.out.mono ?_;rintro e w1 ⟨rfl,hw1⟩;subst hw1)|(go_at_call 58;refine (HW.out _ rfl).mono ?_;rintro e w2 ⟨rfl,hr,ht⟩;have R2:=φ hr;have T2:=φ ht;clear hr ht));go_ret;exact⟨_,HX.out,rfl,R2.out,T2.out⟩
 ·have HX:Hid (CleanP P n L D (0,P,L,D)):=φ (.away hnew);have H:=φ h;clear h hok hn hnew;go_enter Tryz.func19,Tryz.ntmps19;go_wp2_with (first|(go_at_call 46;refine HTh.out.mono ?_;rintro e w1 ⟨rfl,hw1⟩;subst hw1)|(go_at_call 48;refine HHs.out.mono ?_;rintro e w1 ⟨rfl,hw1⟩;subst hw1));go_ret;exact⟨_,HX.out,rfl,(H.out.keepN rfl).mono (by omega),by first|exact Trn.refl _ _|exact (Trn.refl _ _).drew⟩
end
section
open Go.RowKit Go.Shelf
variable {D D':DK} {n x:Int} {c:Int->List UInt8} {L L':LK} {b:List UInt8} {P P':PK}
def PgOk (b:List UInt8):Prop:=∃ h R,b=mkP h R/\PageOf h R
theorem PgOk.len (h:PgOk b):b.length=512:=by
 obtain⟨q,R,rfl,hp⟩:=h;exact mkP_len hp
theorem PgOk.zero:PgOk (List.replicate 512 0):=⟨_,_,new_mk,new_page⟩
theorem PgOk.turn (h:PgOk b) (k o n:List UInt8):PgOk (turnL b k o n).2:=by
 obtain⟨q,R,rfl,hp⟩:=h;by_cases h0:(turnL (mkP q R) k o n).1=0
 ·obtain⟨e1,e2,-⟩:=turn_ok hp (List.Perm.refl R) k o n h0;exact⟨_,_,e1,e2⟩
 ·exact⟨_,_,turn_no hp k o n h0,hp⟩
theorem PgOk.setLsn (h:PgOk b) (hx:x<=9223372036854775807):PgOk (setLsnL b x):=by
 obtain⟨q,R,rfl,hp⟩:=h;by_cases h0:x<0
 ·rw[setLsn_no _ h0];exact⟨_,_,rfl,hp⟩
 ·obtain⟨e1,e2,-⟩:=setLsn_mk hp (by omega) hx;exact⟨_,_,e1,e2⟩
theorem PgOk.setNext (h:PgOk b) (x:Int):PgOk (setNextL b x):=by
 obtain⟨q,R,rfl,hp⟩:=h;by_cases h0:0<=x/\x<8192
 ·obtain⟨e1,e2,-⟩:=setNext_mk hp h0.1 h0.2;exact⟨_,_,e1,e2⟩
 ·rw[setNext_no _ h0];exact⟨_,_,rfl,hp⟩
theorem PgOk.lsn (h:PgOk b) (h0:0<=x) (hx:x<=9223372036854775807):lsnL (setLsnL b x)=x.toNat:=by
 obtain⟨q,R,rfl,hp⟩:=h;obtain⟨e1,e2,e3,-⟩:=setLsn_mk hp h0 hx;rw[e1,lsn_mk e2,e3]
def doneF (b:List UInt8) (lsn:Int) (act:List UInt8->Int×List UInt8):Bool×Int×List UInt8 :=
 (decide ((lsnL b:Int)<lsn) && decide ((act b).1=0),if (lsnL b:Int)<lsn then (act b).1 else 0,if (decide ((lsnL b:Int)<lsn) && decide ((act b).1=0))=true then setLsnL (act b).2 lsn else b)
def updI (c:Int->List UInt8) (n:Int) (b:List UInt8):Int->List UInt8:=fun m=>if m=n then b else c m
theorem updI_at (c:Int->List UInt8) (n:Int) (b:List UInt8):updI c n b n=b:=if_pos rfl
theorem updI_ne {m:Int} (h:m≠n) (b:List UInt8):updI c n b m=c m:=if_neg h
def Pages (P:PK) (D:DK) (c:Int->List UInt8):Prop:=∀ n,0<=n->n<P.count->Cont P D n (c n)/\PgOk (c n)
theorem Pages.kept (h:Pages P D c) (k:Kept D L P D' L' P'):Pages P' D' c:=fun n h0 h1 =>
 have h2:=h n h0 (by rw[<- k.count];exact h1)
 ⟨k.cont n _ h0 h2.1,h2.2⟩
def ActOk (act:List UInt8->Int×List UInt8):Prop:=∀ b,PgOk b->PgOk (act b).2
theorem actTurn_ok (k o n:List UInt8):ActOk (actTurn k o n):=fun _b h=>h.turn k o n
theorem actNext_ok (x:Int):ActOk (actNext x):=fun _b h=>h.setNext x
theorem actNew_ok:ActOk actNew:=fun _ _=>PgOk.zero
theorem doneF_ok {act:List UInt8->Int×List UInt8} (ha:ActOk act) (hb:PgOk b) {lsn:Int} (hl:lsn<=9223372036854775807):PgOk (doneF b lsn act).2.2:=by
 unfold doneF;dsimp only;split
 ·exact (ha b hb).setLsn hl
 ·exact hb
structure Stay (L:LK) (P:PK) (L':LK) (P':PK):Prop where
 core:CoreEq L' L
 first:P'.first=P.first
 count:P'.count=P.count
 most:P'.most=P.most
 le:P.frames.length<=P'.frames.length
theorem Stay.refl (L:LK) (P:PK):Stay L P L P:=⟨CoreEq.refl L,rfl,rfl,rfl,Nat.le_refl _⟩
theorem Stay.trans {L1 L2:LK} {P1 P2:PK} (h:Stay L P L1 P1) (k:Stay L1 P1 L2 P2):Stay L P L2 P2 :=
 ⟨k.core.trans h.core,k.first.trans h.first,k.count.trans h.count,k.most.trans h.most,Nat.le_trans h.le k.le⟩
theorem Kept.stay (h:Kept D L P D' L' P'):Stay L P L' P':=⟨h.core,h.first,h.count,h.most,h.le⟩
theorem done_pages (h:Well D L P) (hc:Pages P D c) {lsn:Int} (h0:0<=n) (h1:n<P.count) (hl:lsn<=9223372036854775807) {act:List UInt8->Int×List UInt8} (ha:ActOk act)
  {x:Bool×Int×PK×LK×DK} (hx:DoneP P n lsn act L D x) :
  Well x.2.2.2.2 x.2.2.2.1 x.2.2.1/\Pages x.2.2.1 x.2.2.2.2 (updI c n (doneF (c n) lsn act).2.2)/\Stay L P x.2.2.2.1 x.2.2.1/\x.1=(doneF (c n) lsn act).1/\x.2.1=(doneF (c n) lsn act).2.1:=by
 have hb:=hc n h0 h1;obtain⟨g1,g2,g3,g4,g5,g6,g7,g8,g9,g10,g11,g12⟩:=done_well h h0 h1 hb.1 (fun _=>((ha _ hb.2).setLsn hl).len) hx;refine⟨g1,fun m k0 k1=>?_,⟨g2,g3,g4,g5,g6⟩,g7,g8⟩;by_cases hm:m=n
 ·subst hm;rw[updI_at];refine⟨?_,doneF_ok ha hb.2 hl⟩;rw[g7] at g10;exact g10
 ·rw[updI_ne hm];rw[g4] at k1;exact⟨g9 m _ k0 hm (hc m k0 k1).1,(hc m k0 k1).2⟩
instance (r:RecV) (L:LK):Decidable (argBad r L):=by unfold argBad;infer_instance
instance (r:RecV) (c:Int):Decidable (pageBad r c):=by unfold pageBad;infer_instance
def doLink (r:RecV) (c:Int->List UInt8):Int->List UInt8:=updI c r.page (doneF (c r.page) r.lsn (actNext r.next)).2.2
def doF (r:RecV) (L:LK) (cnt:Int) (c:Int->List UInt8):Bool×Int×(Int->List UInt8) :=
 if argBad r L then (false,2,c) else if pageBad r cnt then (false,6,c) else if r.kind=6 then
  ((doneF (c r.page) r.lsn (actNext r.next)).1 || (doneF (doLink r c r.next) r.lsn actNew).1,0,updI (doLink r c) r.next (doneF (doLink r c r.next) r.lsn actNew).2.2)
 else ((doneF (c r.page) r.lsn (actTurn r.key r.old r.new)).1,(doneF (c r.page) r.lsn (actTurn r.key r.old r.new)).2.1,updI c r.page (doneF (c r.page) r.lsn (actTurn r.key r.old r.new)).2.2)
theorem doneF_zero {act:List UInt8->Int×List UInt8} (ha:∀ b,(act b).1=0) (b:List UInt8) (lsn:Int):(doneF b lsn act).2.1=0:=by
 unfold doneF;dsimp only;split
 ·exact ha b
 ·rfl
theorem do_pages {r:RecV} (h:Well D L P) (hc:Pages P D c) (hl:r.lsn<=9223372036854775807) {x:Bool×Int×PK×LK×DK} (hx:DoP P r L D x) :
  Well x.2.2.2.2 x.2.2.2.1 x.2.2.1/\Pages x.2.2.1 x.2.2.2.2 (doF r L P.count c).2.2/\Stay L P x.2.2.2.1 x.2.2.1/\x.1=(doF r L P.count c).1/\x.2.1=(doF r L P.count c).2.1:=by
 unfold doF
 cases hx with
 | arg ha=>rw[if_pos ha];exact⟨h,hc,Stay.refl L P,rfl,rfl⟩
 | none ha hp=>rw[if_neg ha,if_pos hp];exact⟨h,hc,Stay.refl L P,rfl,rfl⟩
 | one x ha hp h6 hd =>
  rw[if_neg ha,if_neg hp,if_neg h6];have hp0:0<=r.page/\r.page<P.count:=by unfold pageBad at hp;omega
  exact done_pages h hc hp0.1 hp0.2 hl (actTurn_ok _ _ _) hd
 | bad x ha hp h6 hd he =>
  have hp0:0<=r.page/\r.page<P.count:=by unfold pageBad at hp;omega
  obtain⟨-,-,-,-,e⟩:=done_pages h hc hp0.1 hp0.2 hl (actNext_ok _) hd;rw[doneF_zero (fun _=>rfl)] at e;exact absurd e he
 | two x y ha hp h6 hd he hd2 =>
  rw[if_neg ha,if_neg hp,if_pos h6];have hp0:(0<=r.page/\r.page<P.count)/\0<=r.next/\r.next<P.count:=by unfold pageBad at hp;omega
  obtain⟨a1,a2,a3,a4,a5⟩:=done_pages h hc hp0.1.1 hp0.1.2 hl (actNext_ok _) hd;obtain⟨b1,b2,b3,b4,b5⟩:=done_pages (c:=doLink r c) a1 a2 hp0.2.1 (by rw[a3.count];exact hp0.2.2) hl actNew_ok hd2;rw[doneF_zero (fun _=>rfl)] at b5;refine⟨b1,b2,a3.trans b3,?_,b5⟩;rw[a4,b4,b5];simp
theorem append_first (L:LK) (r:RecV):(L.append r).2.2.first=L.first/\(L.append r).2.2.count=L.count:=by
 unfold LK.append;split
 ·exact⟨rfl,rfl⟩
 ·split
  ·exact⟨rfl,rfl⟩
  ·split<;>exact⟨rfl,rfl⟩
end
section
open Go.RowKit Go.Shelf
variable {D:DK} {c:Int->List UInt8} {L:LK} {K K' d l p:Nat} {S:Nat->Prop} {P:PK} {w w':World}
structure Rig (S:Nat->Prop) (w:World) (d l p K:Nat) (D:DK) (L:LK) (P:PK) (c:Int->List UInt8):Prop where
 rg:∃ U V ds do_ sv m hand Q B Us,RG w U V d ds do_ l p K D L P sv m hand Q B Us/\∀ g,AllB U V d ds do_ g->S g
 lt:∀ g,S g->g<w.heap.size
 well:Well D L P
 pg:Pages P D c
structure Mv (S S':Nat->Prop) (w w':World):Prop where
 trn:Trn S w w'
 sub:∀ g,S' g->S g∨w.heap.size<=g
theorem Mv.below {S':Nat->Prop} (h:Mv S S' w w') {B:Nat} (hS:∀ g,S g->B<=g) (hB:B<=w.heap.size):Below B w w'/\∀ g,S' g->B<=g :=
 ⟨h.trn.out hS hB,fun g hg=>by
  rcases h.sub g hg with h1|h1
  ·exact hS g h1
  ·exact Nat.le_trans hB h1⟩
theorem Rig.keep (h:Rig S w d l p K D L P c) (hb:∀ g,S g->w'.heap[g]? = w.heap[g]?) (hs:w.heap.size<=w'.heap.size) (hK:K<=K'):Rig S w' d l p K' D L P c:=by
 obtain⟨U,V,ds,do_,sv,m,hand,Q,B,Us,hr,hA⟩:=h.rg;exact⟨⟨U,V,ds,do_,sv,m,hand,Q,B,Us,⟨(hr.log.keep (fun i hi=>hb i (hA i (.inl hi))) hs).mono hK,(hr.dk.keep fun i hi=>hb i (hA i (.inr (.inr hi)))).mono hK,(hr.pf.keep (fun i hi=>hb i (hA i (.inr (.inl hi)))) hs).mono hK,hr.du,hr.dv,hr.uv⟩,hA⟩,fun g hg=>Nat.lt_of_lt_of_le (h.lt g hg) hs,h.well,h.pg⟩
theorem Rig.below (h:Rig S w d l p K D L P c) (hb:Below w.heap.size w w'):Rig S w' d l p K D L P c :=
 h.keep (fun g hg=>hb.block g (h.lt g hg)) hb.size (Nat.le_refl _)
theorem Rig.mono (h:Rig S w d l p K D L P c) (hK:K<=K'):Rig S w d l p K' D L P c:=h.keep (fun _ _=>rfl) (Nat.le_refl _) hK
theorem Rig.read (h:Rig S w d l p K D L P c) {n:Int} (hn:0<=n/\n<P.count) (hK:K<=800000000) :
  Calls Tryz.prog 13 #[.pointer (some ⟨p,0,none⟩),.int .i64 n] w fun e w'=>∃ D' L' P' S' v j,e=.returned (.tuple #[v,.int .i64 0])/\OB w.heap.size w' v (c n)/\(∀ g,v.ownBlock=some g->¬ S' g) /\
   Rig S' w' d l p (K+10000) D' L' P' c/\Kept D L P D' L' P'/\FrameP P n L D (0,j,P',L',D')/\Mv S S' w w':=by
 obtain⟨U,V,ds,do_,sv,m,hand,Q,B,Us,hr,hA⟩:=h.rg;refine (read_any U V d ds do_ l p K D L P sv m hand Q B Us n w hr hn hK).mono ?_;rintro e w' ⟨x,V',sv',hand',Q',B',Us',hx,hr',ht,hV,hq⟩;have hc:=h.pg n hn.1 hn.2;obtain⟨g1,g2⟩:=got_cont h.well hn.1 hn.2 hx hc.1;have hk:=(frame_well h.well hn.1 hn.2 hx).kept;obtain⟨x1,x2,P',L',D'⟩:=x;dsimp only at *;subst g1;rcases hq with ⟨h1,-⟩|⟨-,hlt,v,rfl,hob,hv⟩
 ·exact absurd rfl h1
 have hT:Trn S w w':=ht.mono fun g hg=>.inl (hA g hg)
 have hsub:∀ g,AllB U V' d ds do_ g->S g∨w.heap.size<=g:=fun g hg=>by
  rcases hg with h1|h1|h1
  ·exact .inl (hA g (.inl h1))
  ·rcases hV g h1 with h2|h2
   ·exact .inl (hA g (.inr (.inl h2)))
   ·exact .inr h2
  ·exact .inl (hA g (.inr (.inr h1)))
 refine⟨D',L',P',AllB U V' d ds do_,v,x2,rfl,?_,hv,⟨⟨U,V',ds,do_,sv',m,hand',Q',B',Us',hr',fun _ hg=>hg⟩,fun g hg=>hr'.lt hg,hk.well,h.pg.kept hk⟩,hk,hx,hT,hsub⟩;rw[g2 hlt] at hob;exact hob
theorem Rig.do_ (h:Rig S w d l p K D L P c) (N:Nat) (r:RecV) (ka oa na da pa:Option Addr) (kc oc nc dc pc:Nat) (hk:RB N w ka r.key.length kc r.key) (ho:RB N w oa r.old.length oc r.old) (hn:RB N w na r.new.length nc r.new)
  (hN:N<=w.heap.size) (hout:∀ a b o s,(a=ka∨a=oa∨a=na)->a=some (⟨b,o,s⟩:Addr)->¬ S b) (hl:r.lsn<=9223372036854775807) (hK:K<=700000000) :
  Calls Tryz.prog 12 #[.pointer (some ⟨p,0,none⟩),recV r ka oa na da pa kc oc nc dc pc] w fun e w'=>∃ D' L' P' S',e=.returned (.tuple #[.bool (doF r L P.count c).1,.int .i64 (doF r L P.count c).2.1]) /\
   Rig S' w' d l p (K+20000) D' L' P' (doF r L P.count c).2.2/\Stay L P L' P'/\DoP P r L D ((doF r L P.count c).1,(doF r L P.count c).2.1,P',L',D')/\Mv S S' w w':=by
 obtain⟨U,V,ds,do_,sv,m,hand,Q,B,Us,hr,hA⟩:=h.rg;refine (do_any U V d ds do_ l p K D L P sv m hand Q B Us N r ka oa na da pa kc oc nc dc pc w hr hK ⟨hk,ho,hn,hN,fun a b o s ha e hb=>hout a b o s ha e (hA b hb),hl⟩).mono ?_;rintro e w' ⟨x,V',sv',hand',Q',B',Us',hx,hr',ht,hV,rfl⟩;obtain⟨k1,k2,k3,k4,k5⟩:=do_pages h.well h.pg hl hx;obtain⟨x1,x2,P',L',D'⟩:=x;dsimp only at *;subst k4;subst k5;have hT:Trn S w w':=ht.mono fun g hg=>.inl (hA g hg)
 have hsub:∀ g,AllB U V' d ds do_ g->S g∨w.heap.size<=g:=fun g hg=>by
  rcases hg with h1|h1|h1
  ·exact .inl (hA g (.inl h1))
  ·rcases hV g h1 with h2|h2
   ·exact .inl (hA g (.inr (.inl h2)))
   ·exact .inr h2
  ·exact .inl (hA g (.inr (.inr h1)))
 exact⟨D',L',P',AllB U V' d ds do_,rfl,⟨⟨U,V',ds,do_,sv',m,hand',Q',B',Us',hr',fun _ hg=>hg⟩,fun g hg=>hr'.lt hg,k1,k2⟩,k3,hx,hT,hsub⟩
theorem Rig.append (h:Rig S w d l p K D L P c) (N:Nat) (r:RecV) (ka oa na da pa:Option Addr) (kc oc nc dc pc:Nat) (hP:PtE N w ka oa na da pa kc oc nc dc pc r.key r.old r.new r.dirty r.opn) (hf:r.Fit) (hK:K<=1000000000) :
  Calls Tryz.prog 11 #[.pointer (some ⟨l,0,none⟩),recV r ka oa na da pa kc oc nc dc pc] w fun e w'=>∃ S',e=.returned (.tuple #[.int .i64 (L.append r).1,.int .i64 (L.append r).2.1])/\Rig S' w' d l p (K+1) D (L.append r).2.2 P c/\Mv S S' w w':=by
 obtain⟨U,V,ds,do_,sv,m,hand,Q,B,Us,hr,hA⟩:=h.rg;refine (append_any U l d K L N r ka oa na da pa kc oc nc dc pc w hr.log hP hf hK).mono ?_;rintro e w' ⟨rfl,U',hl',ht,hU⟩;have hsub:∀ g,AllB U' V d ds do_ g->S g∨w.heap.size<=g:=fun g hg=>by
  rcases hg with h1|h1|h1
  ·rcases hU g h1 with h2|h2
   ·exact .inl (hA g (.inl h2))
   ·exact .inr h2
  ·exact .inl (hA g (.inr (.inl h1)))
  ·exact .inl (hA g (.inr (.inr h1)))
 have hr':RG w' U' V d ds do_ l p (K+1) D (L.append r).2.2 P sv m hand Q B Us:=by
  refine⟨hl',(hr.dk.keep fun i hi=>ht.block i (hr.dk.lt hi) (hr.du i hi)).mono (Nat.le_succ _),(hr.pf.keep (fun i hi=>ht.block i (hr.pf.lt i hi) (fun hu=>hr.uv i hu hi)) ht.size).mono (Nat.le_succ _),fun g hg hu=>?_,hr.dv,fun g hu hv=>?_⟩
  ·rcases hU g hu with h2|h2
   ·exact hr.du g hg h2
   ·exact absurd (hr.dk.lt hg) (by omega)
  ·rcases hU g hu with h2|h2
   ·exact hr.uv g h2 hv
   ·exact absurd (hr.pf.lt g hv) (by omega)
 obtain⟨f1,f2⟩:=append_first L r;exact⟨AllB U' V d ds do_,rfl,⟨⟨U',V,ds,do_,sv,m,hand,Q,B,Us,hr',fun _ hg=>hg⟩,fun g hg=>hr'.lt hg,h.well.log ⟨_,hl'.ok⟩ f1 f2,h.pg⟩,ht.mono fun g hg=>.inl (hA g (.inl hg)),hsub⟩
theorem Rig.safe (h:Rig S w d l p K D L P c) (hK:K<=1000000000) :
  Calls Tryz.prog 59 #[.pointer (some ⟨l,0,none⟩)] w fun e w'=>e=.returned (.int .i64 L.safe)/\∃ q,w'=w.drewN q:=by
 obtain⟨U,V,ds,do_,sv,m,hand,Q,B,Us,hr,hA⟩:=h.rg;exact safe_any w U l d K L hr.log hK
theorem Rig.end_ (h:Rig S w d l p K D L P c) :
  Calls Tryz.prog 47 #[.pointer (some ⟨l,0,none⟩)] w fun e w'=>e=.returned (.int .i64 L.end_)/\w'=w.drew:=by
 obtain⟨U,V,ds,do_,sv,m,hand,Q,B,Us,hr,hA⟩:=h.rg;exact end_any w U l d K L hr.log
theorem Rig.frames (h:Rig S w d l p K D L P c) :
  Calls Tryz.prog 15 #[.pointer (some ⟨p,0,none⟩)] w fun e w'=>e=.returned (.int .i64 P.frames.length)/\w'=w:=by
 obtain⟨U,V,ds,do_,sv,m,hand,Q,B,Us,hr,hA⟩:=h.rg;exact hr.frames
theorem Rig.force (h:Rig S w d l p K D L P c) (hK:K<=900000000) :
  Calls Tryz.prog 20 #[.pointer (some ⟨l,0,none⟩)] w fun e w'=>∃ D' L',e=.returned (.int .i64 0)/\Rig S w' d l p (K+8192) D' L' P c/\Kept D L P D' L' P/\L'.safe=L'.end_/\(∀ n,0<=n->D'.latest (P.first+n)=D.latest (P.first+n))/\Trn S w w':=by
 obtain⟨U,V,ds,do_,sv,m,hand,Q,B,Us,hr,hA⟩:=h.rg;refine (force_any U l K L d ds do_ K D w hr.log hr.dk hr.du hK (by omega)).mono ?_;rintro e w' ⟨rfl,hl,hd,ht⟩;have hw:=h.well;obtain⟨k,hk⟩:=hw.lo;have hfd:=hw.fc;have hpc:=hw.pc;have hdn:=hw.dn;obtain⟨L',D',e1,e2,e3,e4,e5,e6,e7⟩:=force_up hk hw.up (by omega);have e8:=force_ok hk hw.up (by omega);rw[e1] at hl hd e8 ⊢;have hlat:∀ n,0<=n->D'.latest (P.first+n)=D.latest (P.first+n):=fun n hn=>e6 _ (by omega)
 have hwell:Well D' L' P:=⟨e4,⟨k,e8⟩,by rw[e2.first,e2.count];exact hw.fc,by rw[e5];exact hw.dn,hw.pc,hw.dis,hw.rng,fun f hf hd=>by rw[hlat _ (hw.rng f hf).1];exact hw.cl f hf hd,hw.sz⟩
 have hkept:Kept D L P D' L' P:=⟨hwell,e2,fun m b hm hb=>by
  rcases hb with hb|⟨hb1,hb2⟩
  ·exact .inl hb
  ·exact .inr ⟨hb1,by rw[hlat m hm];exact hb2⟩,rfl,rfl,rfl,Nat.le_refl _⟩
 have hT:Trn S w w':=ht.mono fun g hg=>.inl (by rcases hg with h1|h1;exact hA g (.inl h1);exact hA g (.inr (.inr h1)))
 have hr':=hr.turn (K':=K+8192) (hl.mono (by omega)) hd ht (by omega);exact⟨D',L',rfl,⟨⟨U,V,ds,do_,sv,m,hand,Q,B,Us,hr',hA⟩,fun g hg=>Nat.lt_of_lt_of_le (h.lt g hg) hT.size,hwell,h.pg.kept hkept⟩,hkept,e7,hlat,hT⟩
def zC:Int->List UInt8:=fun _=>List.replicate 512 0
def BegR (fr:Nat) (pages:Int) (w:World) (e:Ending) (w':World):Prop :=
 ∃ g S d l p,e=.returned (.pointer (some ⟨g,0,none⟩))/\w'.heap[g]? = some (rigObj d l p)/\Rig S w' d l p 0 (DK.fresh (40+pages)) (LK.fresh 40) (PK.fresh fr 40 pages) zC/\Below w.heap.size w w' /\
  (∀ i,S i->w.heap.size<=i)/\w.heap.size<=g/\¬ S g
theorem zC_page (fr:Nat) (pages:Int):Pages (PK.fresh fr 40 pages) (DK.fresh (40+pages)) zC:=fun n _ _=>⟨.inr ⟨fun f hf=>(by cases hf),rfl⟩,PgOk.zero⟩
theorem fresh_well (fr:Nat) (pages:Int) (h3:1<=pages) (h4:pages<=8152):Well (DK.fresh (40+pages)) (LK.fresh 40) (PK.fresh fr 40 pages) :=
 ⟨⟨rfl,rfl,DK.Ok.fresh (by omega) (by omega)⟩,⟨0,LK.Ok.fresh (by omega) (by omega)⟩,by show (0:Int)+40<=40;omega,by show (40:Int)+pages<=40+pages;omega,by show (0:Int)<=pages;omega,List.Pairwise.nil,fun f hf=>(by cases hf),fun f hf=>(by cases hf),Nat.zero_le _⟩
theorem begin_rig (fr:Nat) (pages:Int) (w:World) (h1:4<=fr) (h2:fr<=32) (h3:1<=pages) (h4:pages<=8152) :
  Calls Tryz.prog 8 #[.int .i64 pages,.int .i64 fr] w (BegR fr pages w):=by
 refine (begin_any fr pages w h1 h2 h3 h4).mono ?_;rintro e w' ⟨g,U,V,d,ds,do_,l,p,sv,m,hand,Q,B,Us,rfl,hg,hr,hb,hA,hge,hng⟩;exact⟨g,AllB U V d ds do_,d,l,p,rfl,hg,⟨⟨U,V,ds,do_,sv,m,hand,Q,B,Us,hr,fun _ h=>h⟩,fun g hg=>hr.lt hg,fresh_well fr pages h3 h4,zC_page fr pages⟩,hb,hA,hge,hng⟩
end
section
set_option maxRecDepth 100000
open Go.RowKit Go.Shelf
variable {D:DK} {cnt n:Int} {c:Int->List UInt8} {L:LK} {d g i k l p rm:Nat} {S:Nat->Prop} {P:PK} {W W' w0:World}
theorem updI_same (c:Int->List UInt8) (n:Int):updI c n (c n)=c:=by
 funext m;unfold updI;split
 ·next e=>rw[e]
 ·rfl
theorem aw_args {i:Int} (h0:0<=i) (h1:i<cnt) (hn:1<=n) (hn2:n<L.end_):¬ argBad (rowN i n) L/\¬ pageBad (rowN i n) cnt:=by
 have hk:(rowN i n).kind=1:=rfl;have hl:(rowN i n).lsn=n:=rfl;have hp:(rowN i n).page=i:=rfl;constructor
 ·rintro (h|h|h)
  ·exact h.2.1 hk
  ·rw[hl] at h;omega
  ·rw[hl] at h;omega
 ·rintro (h|h)
  ·rw[hp] at h;exact h ⟨h0,h1⟩
  ·have:=h.1;rw[hk] at this;omega
theorem aw_doF1 {i:Int} (h0:0<=i) (h1:i<cnt) (hn:1<=n) (hn2:n<L.end_) (hc:c i=List.replicate 512 0):doF (rowN i n) L cnt c=(true,0,updI c i (setLsnL awP0 n)):=by
 obtain⟨ha,hb⟩:=aw_args h0 h1 hn hn2;have hk:¬ (rowN i n).kind=6:=by show ¬ (1:Nat)=6;omega
 unfold doF;rw[if_neg ha,if_neg hb,if_neg hk];have e:doneF (c i) n (actTurn awK [] awV)=(true,0,setLsnL awP0 n):=by
  rw[hc];unfold doneF;rw[aw_lsn0,aw_turn,decide_eq_true (show ((0:Nat):Int)<n by omega),if_pos (show ((0:Nat):Int)<n by omega)];rfl
 show ((doneF (c i) n (actTurn awK [] awV)).1,(doneF (c i) n (actTurn awK [] awV)).2.1,updI c i (doneF (c i) n (actTurn awK [] awV)).2.2)=_;rw[e]
theorem aw_doF2 {i:Int} (h0:0<=i) (h1:i<cnt) (hn:1<=n) (hn2:n<L.end_) (hm:n<=9223372036854775807) (hc:c i=setLsnL awP0 n):doF (rowN i n) L cnt c=(false,0,c):=by
 obtain⟨ha,hb⟩:=aw_args h0 h1 hn hn2;have hk:¬ (rowN i n).kind=6:=by show ¬ (1:Nat)=6;omega
 unfold doF;rw[if_neg ha,if_neg hb,if_neg hk];obtain⟨q,-,-,hl⟩:=aw_page (n:=n) (by omega) hm;have hlt:¬ ((lsnL (c i):Nat):Int)<n:=by rw[hc,hl];omega
 have e:doneF (c i) n (actTurn awK [] awV)=(false,0,c i):=by
  unfold doneF;rw[decide_eq_false hlt,if_neg hlt];rfl
 show ((doneF (c i) n (actTurn awK [] awV)).1,(doneF (c i) n (actTurn awK [] awV)).2.1,updI c i (doneF (c i) n (actTurn awK [] awV)).2.2)=_;rw[e];show (false,0,updI c i (c i))=_;rw[updI_same]
theorem PI.nil (B:Nat) (w:World):PI B w none 0 0 []:=⟨rfl,Nat.le_refl _,by omega,by omega,fun h=>absurd h (by omega)⟩
structure AwR (w0:World) (g d l p i rm k:Nat) (W:World) (S:Nat->Prop) (D:DK) (L:LK) (P:PK) (c:Int->List UInt8):Prop where
 rig:Rig S W d l p k D L P c
 blk:W.heap[g]? = some (rigObj d l p)
 bel:Below w0.heap.size w0 W
 ge:∀ j,S j->w0.heap.size<=j
 gg:w0.heap.size<=g
 gs:¬ S g
 first:P.first=40
 count:P.count=9
 most:P.most=4
 room:L.last.body.length<=rm
 en:1<=L.end_
 todo:∀ j:Int,(i:Int)<=j->j<9->c j=List.replicate 512 0
 did:∀ j:Int,0<=j->j<(i:Int)->∃ n:Int,0<=n/\n<=9223372036854775807/\c j=setLsnL awP0 n
 fr:i<=P.frames.length∨4<=P.frames.length
 pg:∀ f∈P.frames,f.page<(i:Int)
theorem AwR.cells (h:AwR w0 g d l p i rm k W S D L P c) :
  W.cell? ⟨g,1,none⟩=some (.pointer (some ⟨l,0,none⟩))/\W.cell? ⟨g,2,none⟩=some (.pointer (some ⟨p,0,none⟩)) :=
 ⟨cell_of_row _ _ 1 _ _ _ h.blk,cell_of_row _ _ 2 _ _ _ h.blk⟩
theorem AwR.below (h:AwR w0 g d l p i rm k W S D L P c) (hb:Below W.heap.size W W'):AwR w0 g d l p i rm k W' S D L P c :=
 ⟨h.rig.below hb,(hb.block g (ξ h.blk)).trans h.blk,h.bel.trans (hb.mono h.bel.size),h.ge,h.gg,h.gs,h.first,h.count,h.most,h.room,h.en,h.todo,h.did,h.fr,h.pg⟩
theorem AwR.turn {i' rm' k':Nat} {S':Nat->Prop} {D':DK} {L':LK} {P':PK} {c':Int->List UInt8} (h:AwR w0 g d l p i rm k W S D L P c) (hr:Rig S' W' d l p k' D' L' P' c') (hm:Mv S S' W W')
  (hs:P'.first=P.first/\P'.count=P.count/\P'.most=P.most) (hroom:L'.last.body.length<=rm') (hen:1<=L'.end_) (htodo:∀ j:Int,(i':Int)<=j->j<9->c' j=List.replicate 512 0)
  (hdid:∀ j:Int,0<=j->j<(i':Int)->∃ n:Int,0<=n/\n<=9223372036854775807/\c' j=setLsnL awP0 n) (hfr:i'<=P'.frames.length∨4<=P'.frames.length) (hpg:∀ f∈P'.frames,f.page<(i':Int)):AwR w0 g d l p i' rm' k' W' S' D' L' P' c':=by
 obtain⟨b1,b2⟩:=hm.below h.ge h.bel.size;refine⟨hr,(hm.trn.block g (ξ h.blk) h.gs).trans h.blk,h.bel.trans b1,b2,h.gg,fun hs'=>?_,hs.1.trans h.first,hs.2.1.trans h.count,hs.2.2.trans h.most,hroom,hen,htodo,hdid,hfr,hpg⟩;rcases hm.sub g hs' with h1|h1
 ·exact h.gs h1
 ·exact absurd (ξ h.blk) (by omega)
theorem AwR.app (h:AwR w0 g d l p i rm k W S D L P c) (hi:i<9) (hrm:rm<=400) (hk:k<=1000000) (b0 b1 c0 c1:Nat)
  (r0:RB W.heap.size W (some ⟨b0,0,none⟩) 1 c0 awK) (r1:RB W.heap.size W (some ⟨b1,0,none⟩) 1 c1 awV) :
  Calls Tryz.prog 11 #[.pointer (some ⟨l,0,none⟩),recV (rowR (i:Int) awK awV) (some ⟨b0,0,none⟩) none (some ⟨b1,0,none⟩) none none c0 0 c1 0 0] W fun e W'=>∃ S' L',e=.returned (.tuple #[.int .i64 L.end_,.int .i64 0])/\AwR w0 g d l p i (rm+40) (k+1) W' S' D L' P c/\L.end_<L'.end_/\Mv S S' W W':=by
 obtain⟨e1,e2,e3⟩:=aw_append (i:=(i:Int)) (L:=L) (by omega) (by omega) (Nat.le_trans h.room hrm);refine (h.rig.append W.heap.size (rowR (i:Int) awK awV) (some ⟨b0,0,none⟩) none (some ⟨b1,0,none⟩) none none c0 0 c1 0 0 ⟨r0,RB.emp _,r1,PI.nil _ _,PI.nil _ _,Nat.le_refl _,by simp[rowR],by simp[rowR],by simp[rowR,awK],by simp[rowR],by simp[rowR,awV]⟩ (aw_fit _ (by omega)) (by omega)).mono ?_;rintro e W' ⟨S',rfl,hr,hm⟩;rw[e1] at hr ⊢;refine⟨S',_,rfl,?_,e3,hm⟩;have hen:=h.en;exact h.turn hr hm ⟨rfl,rfl,rfl⟩ (Nat.le_trans e2 (Nat.add_le_add_right h.room 40)) (by show 1<=(L.grow (putB (rowR (i:Int) awK awV))).end_;omega) h.todo h.did h.fr h.pg
theorem LK.end_max (h:∃ k,L.Ok k):L.end_<=9223372036854775807:=by
 obtain⟨k,hk⟩:=h;have h1:=hk.end_bd;unfold LK.end_ ShV.at_;omega
theorem AwR.doA (h:AwR w0 g d l p i rm k W S D L P c) (hi:i<9) (hk:k<=1000000) (n:Int) (hn:1<=n) (hn2:n<L.end_) (b0 b1 c0 c1:Nat)
  (r0:RB W.heap.size W (some ⟨b0,0,none⟩) 1 c0 awK) (r1:RB W.heap.size W (some ⟨b1,0,none⟩) 1 c1 awV) (s0:¬ S b0) (s1:¬ S b1) :
  Calls Tryz.prog 12 #[.pointer (some ⟨p,0,none⟩),recV (rowN (i:Int) n) (some ⟨b0,0,none⟩) none (some ⟨b1,0,none⟩) none none c0 0 c1 0 0] W fun e W'=>∃ S' D' L' P' c',e=.returned (.tuple #[.bool true,.int .i64 0])/\AwR w0 g d l p (i+1) rm (k+20000) W' S' D' L' P' c'/\L'.end_=L.end_/\c' (i:Int)=setLsnL awP0 n/\Mv S S' W W':=by
 have hmx:=LK.end_max h.rig.well.lo;have hc0:c (i:Int)=List.replicate 512 0:=h.todo _ (Int.le_refl _) (by omega);have e1:=aw_doF1 (i:=(i:Int)) (n:=n) (L:=L) (cnt:=P.count) (c:=c) (by omega) (by rw[h.count];omega) hn hn2 hc0;refine (h.rig.do_ W.heap.size (rowN (i:Int) n) (some ⟨b0,0,none⟩) none (some ⟨b1,0,none⟩) none none c0 0 c1 0 0 r0 (RB.emp _) r1 (Nat.le_refl _) ?_ (by show n<=_;omega) (by omega)).mono ?_
 ·rintro a b o s (rfl|rfl|rfl) e
  ·cases e;exact s0
  ·cases e
  ·cases e;exact s1
 rintro e W' ⟨D',L',P',S',rfl,hr,hst,hx,hm⟩;rw[e1] at hr hx ⊢;obtain⟨-,-,-,-,-,-,-,-,-,-,q1,q2⟩:=aw_first h.rig.well (by omega) (by rw[h.count];omega) hn hn2 (by omega) (by have:=(h.rig.pg (i:Int) (by omega) (by rw[h.count];omega)).1;rwa [hc0] at this) hx;have hlast:=hst.core.last;have hend:=hst.core.end_;have hen:=h.en;refine⟨S',D',L',P',updI c (i:Int) (setLsnL awP0 n),rfl,?_,hend,updI_at _ _ _,hm⟩;refine h.turn hr hm ⟨hst.first,hst.count,hst.most⟩ (by rw[hlast.2];exact h.room) (by rw[hend];exact hen) (fun j j0 j1=>?_) (fun j j0 j1=>?_) ?_ (fun f hf=>?_)
 ·show updI c (i:Int) _ j=_;rw[updI_ne (by omega)];exact h.todo j (by omega) j1
 ·show ∃ n,_/\_/\updI c (i:Int) _ j=_;by_cases hj:j=(i:Int)
  ·rw[hj];exact⟨n,by omega,by omega,updI_at _ _ _⟩
  ·rw[updI_ne hj];exact h.did j j0 (by omega)
 ·by_cases h4:P.frames.length<P.most
  ·have e:=q1 (fun f hf=>by have:=h.pg f hf;omega) h4;have e':P'.frames.length=P.frames.length+1:=e;rcases h.fr with h5|h5<;>omega
  ·have:=hst.le;have:=h.most;omega
 ·rcases q2 f hf with e|⟨f',hf',e⟩
  ·rw[e];omega
  ·have:=h.pg f' hf';omega
theorem AwR.doB (h:AwR w0 g d l p (i+1) rm k W S D L P c) (hi:i<9) (hk:k<=1000000) (n:Int) (hn:1<=n) (hn2:n<L.end_) (hc:c (i:Int)=setLsnL awP0 n) (b0 b1 c0 c1:Nat)
  (r0:RB W.heap.size W (some ⟨b0,0,none⟩) 1 c0 awK) (r1:RB W.heap.size W (some ⟨b1,0,none⟩) 1 c1 awV) (s0:¬ S b0) (s1:¬ S b1) :
  Calls Tryz.prog 12 #[.pointer (some ⟨p,0,none⟩),recV (rowN (i:Int) n) (some ⟨b0,0,none⟩) none (some ⟨b1,0,none⟩) none none c0 0 c1 0 0] W fun e W'=>∃ S' D' L' P',e=.returned (.tuple #[.bool false,.int .i64 0])/\AwR w0 g d l p (i+1) rm (k+20000) W' S' D' L' P' c/\Mv S S' W W':=by
 have hmx:=LK.end_max h.rig.well.lo;have e1:=aw_doF2 (i:=(i:Int)) (n:=n) (L:=L) (cnt:=P.count) (c:=c) (by omega) (by rw[h.count];omega) hn hn2 (by omega) hc;refine (h.rig.do_ W.heap.size (rowN (i:Int) n) (some ⟨b0,0,none⟩) none (some ⟨b1,0,none⟩) none none c0 0 c1 0 0 r0 (RB.emp _) r1 (Nat.le_refl _) ?_ (by show n<=_;omega) (by omega)).mono ?_
 ·rintro a b o s (rfl|rfl|rfl) e
  ·cases e;exact s0
  ·cases e
  ·cases e;exact s1
 rintro e W' ⟨D',L',P',S',rfl,hr,hst,hx,hm⟩;rw[e1] at hr hx ⊢;obtain⟨-,-,-,-,-,-,-,-,-,-,q2⟩:=aw_second h.rig.well (by omega) (by rw[h.count];omega) hn hn2 (by omega) (by have:=(h.rig.pg (i:Int) (by omega) (by rw[h.count];omega)).1;rwa [hc] at this) hx;have hlast:=hst.core.last;have hend:=hst.core.end_;have hen:=h.en;have hle:=hst.le;refine⟨S',D',L',P',rfl,h.turn hr hm ⟨hst.first,hst.count,hst.most⟩ (by rw[hlast.2];exact h.room) (by rw[hend];exact hen) h.todo h.did ?_ (fun f hf=>?_),hm⟩
 ·rcases h.fr with h5|h5<;>omega
 ·rcases q2 f hf with e|⟨f',hf',e⟩
  ·rw[e];omega
  ·have:=h.pg f' hf';omega
theorem AwR.read {w0:World} {g d l p rm k:Nat} {W:World} {S:Nat->Prop} {D:DK} {L:LK} {P:PK} {c:Int->List UInt8} (h:AwR w0 g d l p 9 rm k W S D L P c) (j:Nat) (hj:j<9) (hk:k<=1000000) :
  Calls Tryz.prog 13 #[.pointer (some ⟨p,0,none⟩),.int .i64 (j:Int)] W fun e W'=>∃ S' D' L' P' v a cc n,e=.returned (.tuple #[v,.int .i64 0])/\v=.slice a 512 cc/\RB W'.heap.size W' a 512 cc (setLsnL awP0 n)/\0<=n/\n<=9223372036854775807/\AwR w0 g d l p 9 rm (k+10000) W' S' D' L' P' c:=by
 obtain⟨n,n0,n1,hn⟩:=h.did (j:Int) (by omega) (by omega);refine (h.rig.read (n:=(j:Int)) ⟨by omega,by rw[h.count];omega⟩ (by omega)).mono ?_;rintro e W' ⟨D',L',P',S',v,jj,rfl,hob,hv,hr,hkk,hf,hm⟩;have hst:=hkk.stay;have hlast:=hst.core.last;have hend:=hst.core.end_;have hen:=h.en;have hle:=hst.le;rw[hn] at hob;have hlen:=aw_len n0 n1;obtain⟨a,cc,e,hrb⟩:=hob.rb (by omega);rw[hlen] at e hrb;refine⟨S',D',L',P',v,a,cc,n,rfl,e,hrb,n0,n1,h.turn hr hm ⟨hst.first,hst.count,hst.most⟩ (by rw[hlast.2];exact h.room) (by rw[hend];exact hen) h.todo h.did ?_ (fun f hf'=>?_)⟩
 ·rcases h.fr with h5|h5<;>omega
 ·rcases (frame_well h.rig.well (by omega) (by rw[h.count];omega) hf).sub f hf' with e|⟨f',hf'',e⟩
  ·rw[e];omega
  ·have:=h.pg f' hf'';omega
theorem AwR.frames (h:AwR w0 g d l p 9 rm k W S D L P c) :
  Calls Tryz.prog 15 #[.pointer (some ⟨p,0,none⟩)] W fun e w'=>e=.returned (.int .i64 4)/\w'=W:=by
 refine h.rig.frames.mono ?_;rintro e w' ⟨rfl,rfl⟩;have h1:=h.rig.well.sz;have h2:=h.most;have h3:P.frames.length=4:=by rcases h.fr with h5|h5<;>omega
 rw[h3];exact⟨rfl,rfl⟩
theorem AwR.start {w':World} (hg:w'.heap[g]? = some (rigObj d l p)) (hr:Rig S w' d l p 0 (DK.fresh (40+9)) (LK.fresh 40) (PK.fresh 4 40 9) zC) (hb:Below w0.heap.size w0 w') (hA:∀ i,S i->w0.heap.size<=i) (hge:w0.heap.size<=g) (hng:¬ S g) :
  AwR w0 g d l p 0 0 0 w' S (DK.fresh (40+9)) (LK.fresh 40) (PK.fresh 4 40 9) zC :=
 ⟨hr,hg,hb,hA,hge,hng,rfl,rfl,rfl,Nat.le_refl _,by decide,fun _ _ _=>rfl,fun j h0 h1=>by omega,.inl (Nat.zero_le _),fun f hf=>(by cases hf)⟩
end
end Go.Proofs.YtohlkkannjifmaaGreatDoor
