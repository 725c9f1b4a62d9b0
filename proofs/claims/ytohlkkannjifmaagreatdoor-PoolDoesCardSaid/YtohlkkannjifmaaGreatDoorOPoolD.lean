import Derived.Test.YtohlkkannjifmaaGreatDoorOPool5
import Derived.Test.YtohlkkannjifmaaGreatDoorPure3
namespace Go.Proofs.YtohlkkannjifmaaGreatDoor
section
set_option maxHeartbeats 8000000
set_option maxRecDepth 100000
open Go.RowKit Go.Shelf
variable {D:DK} {L:LK} {l:List UInt8} {K base d do_ ds g m p:Nat} {U V:Nat->Prop} {P:PK} {v:Value} {W w:World}
theorem OB.pg (h:OB base W v l) (hl:l.length=512):∃ gb c X,v=.slice (some ⟨gb,0,none⟩) 512 c/\base<=gb/\PG W gb c l X:=by
 obtain⟨e,⟨-,h0⟩|⟨g,cap,cur,hv,hg,hh,hle,hcap,hsz,ht⟩⟩:=h
 ·omega
 ·have hcat:l.map bv++cur.toList.drop 512=cur.toList:=by
   rw[<- ht,hl];exact List.take_append_drop _ _
  refine⟨g,cap,cur.toList.drop 512,by rw[hv,hl],hg,⟨?_,hl,?_,by simpa [maxLen] using hcap⟩⟩
  ·rw[hh,hcat]
  ·have h1:cur.toList.length=cap:=by simpa using hsz
   have h2:(l.map bv++cur.toList.drop 512).length=cur.toList.length:=by rw[hcat]
   rw[List.length_append,List.length_map,hl] at h2;omega
theorem PG.ob {c:Nat} {L:List UInt8} {X:List Value} (h:PG W g c L X) (hb:base<=g):OB base W (.slice (some ⟨g,0,none⟩) 512 c) L:=by
 have hl:=h.len;refine⟨by rw[List.length_map,Nat.mul_one],.inr ⟨g,c,_,by rw[hl],hb,h.blk,by rw[hl,h.cap];omega,by simpa [maxLen] using h.mx,?_,?_⟩⟩
 ·simp[hl,h.cap]
 ·simp[hl]
theorem sclone_any (N:Nat) (a:Addr) (n c:Nat) (L:List UInt8) (w:World) (hr:RB N w (some a) n c L) (hN:N<=w.heap.size) :
  Calls Tryz.prog 55 #[.slice (some a) n c] w fun e w'=>(∃ v,e=.returned v/\OB w.heap.size w' v L)/\Below w.heap.size w w':=by
 have hle:=hr.le;have hmx:=hr.mx;have hlm:=hr.lm;have hln:=hr.len;have hq:=Lib.run_eql_slice_nil (P:=Tryz.prog) w 27 5 (some a) n c 0 0 Tryz.underlying27;have Hln:=φ hln;clear hln;go_enter Tryz.func55,Tryz.ntmps55;have hown0:OB w.heap.size (w.alloc (.cells #[] 5)) (.slice (some ⟨w.heap.size,0,none⟩) 0 0) []:=World.ownsRow_made w #[] 0 (Nat.le_refl _) (by simp) rfl;have hb1:Below w.heap.size w (w.alloc (.cells #[] 5)):=(Below.refl _ w).alloc (Nat.le_refl _) _;have hr1:=hr.below (hb1.mono hN);have Hown:=φ hown0;have Hb1:=φ hb1;have Hr1:=φ hr1;clear hown0 hb1 hr1;go_wp2_with (at_builtin;refine wpList_append_bytes rfl _ _ rfl w.heap.size N _ [] rfl Hown.out _ _ _ L rfl Hr1.out (by simp[<- Hln.out];exact hlm) (by simp) ?_;intro v' w' hown' hg _);go_ret;refine⟨⟨_,rfl,by simpa using hown'⟩,Hb1.out.grown hg (by simp) (fun k e=>?_)⟩
 cases e
 exact Nat.le_refl _
theorem own_ge {e:TypeId} {n:Nat} {xs:List Value} (h:w.ownsRow base e n v m xs) (hg:v.ownBlock=some g):base<=g:=by
 obtain⟨-,⟨rfl,h0⟩|⟨g',cap,cur,rfl,h1,-⟩⟩:=h
 ·cases hg
 ·cases hg;exact h1
theorem OB.own_ge (h:OB base w v l) (hg:v.ownBlock=some g):base<=g:=Go.Proofs.YtohlkkannjifmaaGreatDoor.own_ge h hg
theorem pthere_any (p l:Nat) (w:World) (p4:w.cell? ⟨p,4,none⟩=some (.pointer (some ⟨l,0,none⟩))):Calls Tryz.prog 46 #[.pointer (some ⟨p,0,none⟩)] w fun e w'=>e=.returned (.bool true)/\w'=w:=by
 go_enter Tryz.func46,Tryz.ntmps46;go_wp2_with (fail);go_ret;exact⟨rfl,rfl⟩
theorem phas_any (p:Nat) (n c:Int) (w:World) (p7:w.cell? ⟨p,7,none⟩=some (.int .i64 c)):Calls Tryz.prog 48 #[.pointer (some ⟨p,0,none⟩),.int .i64 n] w fun e w'=>e=.returned (.bool (decide (0<=n) && decide (n<c)))/\w'=w:=by
 by_cases h0:0<=n
 ·have e1:decide (n ≥ 0)=true:=decide_eq_true h0;rw[decide_eq_true h0,Bool.true_and];clear h0;go_enter Tryz.func48,Tryz.ntmps48;go_wp2_with (fail);go_ret;exact⟨rfl,rfl⟩
 ·have e1:decide (n ≥ 0)=false:=decide_eq_false h0;rw[decide_eq_false h0,Bool.false_and];clear h0;go_enter Tryz.func48,Tryz.ntmps48;go_wp2_with (fail);go_ret;exact⟨rfl,rfl⟩
def ReadG (U V:Nat->Prop) (d ds do_ l p K:Nat) (P:PK) (n:Int) (L:LK) (D:DK) (m:Nat) (w:World) (e:Ending) (w':World):Prop :=
 ∃ x V' sv hand Q B Us,FrameP P n L D x/\RG w' U V' d ds do_ l p (K+10000) x.2.2.2.2 x.2.2.2.1 x.2.2.1 sv m hand Q B Us/\Trn (AllB U V d ds do_) w w'/\(∀ g,V' g->V g∨w.heap.size<=g) /\
  ((x.1≠0/\e=.returned (.tuple #[.slice none 0 0,.int .i64 x.1]))∨(x.1=0/\x.2.1<x.2.2.1.frames.length/\∃ v,e=.returned (.tuple #[v,.int .i64 0])/\OB w.heap.size w' v (x.2.2.1.frames.getD x.2.1 fr0).b/\∀ g,v.ownBlock=some g->¬ AllB U V' d ds do_ g))
theorem RG.lt {l:Nat} {sv:Value} {hand:Nat} {Q:Nat->Nat} {B:Nat->Value} {Us:Nat->Bool} (h:RG w U V d ds do_ l p K D L P sv m hand Q B Us) (hg:AllB U V d ds do_ g):g<w.heap.size:=by
 rcases hg with h1|h1|h1
 ·exact h.log.lt g h1
 ·exact h.pf.lt g h1
 ·exact h.dk.lt h1
theorem FrG.one {l:Nat} {n:Int} {e:Ending} {w':World} (h:FrG U V d ds do_ l p K P n L D m w e w') :
  ∃ pv e1 j P1 L1 D1 V' sv hand Q B Us,e=.returned (.tuple #[.pointer pv,.int .i64 e1])/\FrameP P n L D (e1,j,P1,L1,D1)/\RG w' U V' d ds do_ l p (K+10000) D1 L1 P1 sv m hand Q B Us/\Trn (AllB U V d ds do_) w w'/\(∀ g,V' g->V g∨w.heap.size<=g) /\
   (e1=0->j<P1.frames.length/\pv=some ⟨Q j,0,none⟩):=by
 obtain⟨⟨e1,j,P1,L1,D1⟩,V',sv,hand,Q,B,Us,h1,h2,h3,h4,h5⟩:=h;rcases h5 with ⟨h6,rfl⟩|⟨h6,h7,rfl⟩
 ·exact⟨none,e1,j,P1,L1,D1,V',sv,hand,Q,B,Us,rfl,h1,h2,h3,h4,fun h=>absurd h h6⟩
 ·have h6':e1=0:=h6;subst h6';exact⟨_,0,j,P1,L1,D1,V',sv,hand,Q,B,Us,rfl,h1,h2,h3,h4,fun _=>⟨h7,rfl⟩⟩
theorem read_any (U V:Nat->Prop) (d ds do_ l p K:Nat) (D:DK) (L:LK) (P:PK) (sv:Value) (m hand:Nat) (Q:Nat->Nat) (B:Nat->Value) (Us:Nat->Bool) (n:Int) (w:World) (h:RG w U V d ds do_ l p K D L P sv m hand Q B Us) (hn:0<=n/\n<P.count) (hK:K<=800000000) :
  Calls Tryz.prog 13 #[.pointer (some ⟨p,0,none⟩),.int .i64 n] w (ReadG U V d ds do_ l p K P n L D m w):=by
 have HTh:Hid (Calls Tryz.prog 46 #[.pointer (some ⟨p,0,none⟩)] w fun e w'=>e=.returned (.bool true)/\w'=w):=φ (pthere_any p d w (cell_of_row _ _ 4 _ _ _ h.pf.blk));have HHs:Hid (Calls Tryz.prog 48 #[.pointer (some ⟨p,0,none⟩),.int .i64 n] w fun e w'=>e=.returned (.bool true)/\w'=w):=φ ((phas_any p n P.count w (cell_of_row _ _ 7 _ _ _ h.pf.blk)).mono fun e w' hh=>⟨by rw[hh.1,decide_eq_true hn.1,decide_eq_true hn.2];rfl,hh.2⟩);have HFr:Hid (Calls Tryz.prog 54 #[.pointer (some ⟨p,0,none⟩),.int .i64 n] w (FrG U V d ds do_ l p K P n L D m w)):=φ (frame_any U V d ds do_ l p K D L P sv m hand Q B Us n w h hn hK);clear h hn;go_enter Tryz.func13,Tryz.ntmps13;go_upto_region 6 with (first|(go_at_call 46;refine HTh.out.mono ?_;rintro e w1 ⟨rfl,hw1⟩;subst hw1)|(go_at_call 48;refine HHs.out.mono ?_;rintro e w1 ⟨rfl,hw1⟩;subst hw1)|(go_at_call 54;refine HFr.out.mono ?_;rintro e w1 hfr;obtain⟨pv,e1,j,P1,L1,D1,V',sv',hand',Q',B',Us',rfl,hf2,hf3,hf4,hf5,hf6⟩:=hfr.one;have F2:=φ hf2;have R1:=φ hf3;have T1:=φ hf4;have V1:=φ hf5;have C1:=φ hf6;clear hf2 hf3 hf4 hf5 hf6 hfr));by_cases h0:e1=0
 ·subst h0;obtain⟨hj,rfl⟩:=C1.out rfl;have HJ:=φ hj;have hf:=R1.out.pf.fr j hj;obtain⟨gb,c,X,hv,hge,hpg⟩:=hf.b.pg hf.len;have q1:w1.cell? ⟨Q' j,1,none⟩=some (.slice (some ⟨gb,0,none⟩) 512 c):=by rw[<- hv];exact cell_of_row _ _ 1 _ _ _ hf.blk
  have HCl:=φ (sclone_any _ _ _ _ _ _ hpg.rb (Nat.le_refl _));clear hf hj hv hge hpg;go_wp2_with (go_at_call 55;refine HCl.out.mono ?_;rintro e w2 ⟨⟨v,rfl,ho⟩,hb⟩;have O2:=φ ho;have B2:=φ hb;clear ho hb);go_ret2;refine⟨(0,j,P1,L1,D1),V',sv',hand',Q',B',Us',F2.out,R1.out.keep B2.out (Nat.le_refl _),T1.out.below B2.out T1.out.size,V1.out,.inr ⟨rfl,HJ.out,v,rfl,O2.out.mono T1.out.size,fun g hg ha=>?_⟩⟩;have:=R1.out.lt ha;have:=O2.out.own_ge hg;omega
 ·have E1:=φ h0;have ee:(e1 == 0)=false:=by simpa using h0
  clear h0;go_wp2_with (fail);go_ret2;exact⟨(e1,j,P1,L1,D1),V',sv',hand',Q',B',Us',F2.out,R1.out,T1.out,V1.out,.inl ⟨E1.out,rfl⟩⟩
end
section
open Go.RowKit Go.Shelf
theorem RG.did {w w5 w6:World} {U V:Nat->Prop} {d ds do_ l p K:Nat} {D:DK} {L:LK} {P:PK} {sv:Value} {m hand:Nat} {Q:Nat->Nat} {B:Nat->Value} {Us:Nat->Bool} (h:RG w U V d ds do_ l p K D L P sv m hand Q B Us) {j:Nat} (hj:j<P.frames.length) (hb:Below w.heap.size w w5)
  {gb c:Nat} {b2:List UInt8} {X:List Value} (hpg:PG w5 gb c b2 X) (hge:w.heap.size<=gb) (f':FrV) (hpage:f'.page=(P.frames.getD j fr0).page) (hl:0<=f'.first/\f'.first<=9223372036854775807) (hfb:f'.b=b2)
  (hq:w6.heap[Q j]? = some (frObj f' (.slice (some ⟨gb,0,none⟩) 512 c) (Us j))) (ht:Trn (fun g=>g=Q j) w5 w6) :
  RG w6 U (newV V w.heap.size w6) d ds do_ l p K D L (P.setFr j f') sv m hand Q (upd B j (.slice (some ⟨gb,0,none⟩) 512 c)) (upd Us j (Us j))/\Trn V w w6:=by
 have hT:Trn V w w6:=((Trn.refl V w).below hb (Nat.le_refl _)).then (ht.mono fun g hg=>.inl (by subst hg;exact h.pf.vq j hj));have hlt:gb<w5.heap.size:=hpg.lt;have hne:gb≠Q j:=fun e=>by have:=h.pf.lt _ (h.pf.vq j hj);omega
 have hs6:=ht.size;refine⟨h.pool (h.pf.setFr (w':=w6) (V':=newV V w.heap.size w6) (v':=.slice (some ⟨gb,0,none⟩) 512 c) (u':=Us j) hj hpage hl hq ?_ ?_ (fun g hg hgq=>?_) hT.size (fun g hg=>.inl hg) (fun b e=>?_) (fun g hg=>?_)) hT (fun g hg=>?_) (Nat.le_refl _),hT⟩
 ·rw[hfb];exact ωK (hpg.ob (Nat.zero_le _)) fun g e=>by
   cases e
   exact ht.block gb hlt (fun e=>hne e)
 ·rw[hfb];exact hpg.len
 ·have hg1:=h.pf.lt g hg;exact (ht.block g (Nat.lt_of_lt_of_le hg1 hb.size) (fun e=>hgq e)).trans (hb.block g hg1)
 ·cases e
  exact .inr ⟨hge,Nat.lt_of_lt_of_le hlt hs6⟩
 ·rcases hg with hg|hg
  ·exact Nat.lt_of_lt_of_le (h.pf.lt g hg) hT.size
  ·exact hg.2
 ·rcases hg with hg|hg
  ·exact .inl hg
  ·exact .inr hg.1
def DoneG (U V:Nat->Prop) (d ds do_ l p K:Nat) (P:PK) (n lsn:Int) (act:List UInt8->Int×List UInt8) (L:LK) (D:DK) (m:Nat) (w:World) (e:Ending) (w':World):Prop :=
 ∃ x V' sv hand Q B Us,DoneP P n lsn act L D x/\RG w' U V' d ds do_ l p (K+10000) x.2.2.2.2 x.2.2.2.1 x.2.2.1 sv m hand Q B Us/\Trn (AllB U V d ds do_) w w'/\(∀ g,V' g->V g∨w.heap.size<=g) /\
  e=.returned (.tuple #[.bool x.1,.int .i64 x.2.1])
def ActC (k:Nat) (fr:Array Value) (act:List UInt8->Int×List UInt8) (M:Nat) (S:World->Prop):Prop :=
 ∀ W B gb c X b,S W->M<=B->PG W gb c b X->B<=gb->B<=W.heap.size->Calls Tryz.prog k (#[.slice (some ⟨gb,0,none⟩) 512 c]++fr) W fun e w'=>∃ g' c' X',e=.returned (.tuple #[.slice (some ⟨g',0,none⟩) 512 c',.int .i64 (act b).1])/\((act b).1=0->PG w' g' c' (act b).2 X')/\B<=g'/\Below B W w'
end
section
set_option maxHeartbeats 2000000
open Go.RowKit Go.Shelf
variable {B g:Nat} {w:World}
theorem RBn.of_rb {a:Option Addr} {n c:Nat} {l:List UInt8} (h:RB B w a n c l) (hB:B<=g):RBn g B w a n c l :=
 ⟨h,fun hc b o s e=>by
  obtain⟨b',o',e',hb,-⟩:=h.at_ hc;rw[e] at e';cases e';omega⟩
def recObj (r:RecV) (ka oa na da pa:Option Addr) (kc oc nc dc pc:Nat):Obj :=
 .cells #[.int .i64 r.lsn,.int .i64 r.work,.int .i64 r.prev,.int .i64 r.next,.int .u8 r.kind,.int .i64 r.page,.slice ka r.key.length kc,.slice oa r.old.length oc,.slice na r.new.length nc,.slice da r.dirty.length dc,.slice pa r.opn.length pc] 33 (0,0)
def actTurn (K O N:List UInt8) (b:List UInt8):Int×List UInt8:=((turnL b K O N).1,(turnL b K O N).2)
def actNext (x:Int) (b:List UInt8):Int×List UInt8:=(0,setNextL b x)
def actNew (_:List UInt8):Int×List UInt8:=(0,List.replicate 512 0)
theorem mod_below {w':World} (h:Mod g w w') (hg:B<=g) (hB:B<=w.heap.size):Below B w w':=(Below.refl B w).grown h hB (fun k e=>by cases e;exact hg)
theorem act3 (M:Nat) (S:World->Prop):ActC 53 #[] actNew M S:=fun W B gb c X b hS hM hp hg hB=>by
 have HN:=φ (New_any W);have HB:=φ hB;clear hS hM hp hg hB;show Calls _ _ #[.slice (some ⟨gb,0,none⟩) 512 c] _ _;go_enter Tryz.func53,Tryz.ntmps53;go_wp2_with (go_at_call 25;refine HN.out.mono ?_;rintro e w1 ⟨rfl,hp1,hb1⟩;have P1:=φ hp1;have B1:=φ hb1;clear hp1 hb1);go_ret2;exact⟨_,_,[],rfl,fun _=>P1.out,HB.out,B1.out.mono HB.out⟩
theorem act2 (M fb:Nat) (r:RecV) (ka oa na da pa:Option Addr) (kc oc nc dc pc:Nat) (S:World->Prop) (hS:∀ W,S W->W.heap[fb]? = some (recObj r ka oa na da pa kc oc nc dc pc)):ActC 51 #[.pointer (some ⟨fb,0,none⟩)] (actNext r.next) M S:=fun W B gb c X b hSW hM hp hg hB=>by
 have HN:=φ (SetNext_any gb c b X r.next W hp);have c3:W.cell? ⟨fb,3,none⟩=some (.int .i64 r.next):=cell_of_row _ _ 3 _ _ _ (hS W hSW);have HB:=φ hB;have HG:=φ hg;clear hS hM hp hg hB hSW;show Calls _ _ #[.slice (some ⟨gb,0,none⟩) 512 c,.pointer (some ⟨fb,0,none⟩)] _ _;go_enter Tryz.func51,Tryz.ntmps51;go_wp2_with (go_at_call 52;refine HN.out.mono ?_;rintro e w1 ⟨rfl,hp1,hm1⟩;have P1:=φ hp1;have M1:=φ hm1;clear hp1 hm1);go_ret2;exact⟨gb,c,X,rfl,fun _=>P1.out,HG.out,mod_below M1.out HG.out HB.out⟩
theorem act1 (M fb:Nat) (r:RecV) (ka oa na da pa:Option Addr) (kc oc nc dc pc:Nat) (S:World->Prop) (hS:∀ W,S W->W.heap[fb]? = some (recObj r ka oa na da pa kc oc nc dc pc)/\RB M W ka r.key.length kc r.key/\RB M W oa r.old.length oc r.old/\RB M W na r.new.length nc r.new) :
  ActC 50 #[.pointer (some ⟨fb,0,none⟩)] (actTurn r.key r.old r.new) M S:=fun W B gb c X b hSW hM hp hg hB=>by
 obtain⟨h1,h2,h3,h4⟩:=hS W hSW;have HN:=φ (Turn_any gb c b X B ka oa na _ kc _ oc _ nc r.key r.old r.new W hp (.of_rb (h2.mono hM) hg) (.of_rb (h3.mono hM) hg) (.of_rb (h4.mono hM) hg) hB);have c6:W.cell? ⟨fb,6,none⟩=some (.slice ka r.key.length kc):=cell_of_row _ _ 6 _ _ _ h1;have c7:W.cell? ⟨fb,7,none⟩=some (.slice oa r.old.length oc):=cell_of_row _ _ 7 _ _ _ h1;have c8:W.cell? ⟨fb,8,none⟩=some (.slice na r.new.length nc):=cell_of_row _ _ 8 _ _ _ h1;have HB:=φ hB;have HG:=φ hg;unfold actTurn;generalize turnL b r.key r.old r.new=t at *;clear hS hM hp hg hB hSW h1 h2 h3 h4;show Calls _ _ #[.slice (some ⟨gb,0,none⟩) 512 c,.pointer (some ⟨fb,0,none⟩)] _ _;go_enter Tryz.func50,Tryz.ntmps50;go_wp2_with (go_at_call 21;refine HN.out.mono ?_;rintro e w1 ⟨rfl,hp1,hm1⟩;have P1:=φ hp1;have M1:=φ hm1;clear hp1 hm1);go_ret2;exact⟨gb,c,X,rfl,fun _=>P1.out,HG.out,mod_below M1.out HG.out HB.out⟩
end
section
open Go.RowKit Go.Shelf
def awK:List UInt8:=[107]
def awV:List UInt8:=[118]
def awP0:List UInt8:=mkP (List.replicate 10 0) [(awK,awV)]
theorem aw_of0:PageOf (List.replicate 10 0) []:=⟨by decide,by decide,by decide,by decide,by simp,by simp[Up]⟩
theorem aw_of1:PageOf (List.replicate 10 0) [(awK,awV)]:=⟨by decide,by decide,by decide,by decide,by simp[okR,awK,awV],by simp[Up]⟩
theorem aw_turn:actTurn awK [] awV (List.replicate 512 0)=(0,awP0):=by
 unfold actTurn;rw[new_mk,turnL_mk aw_of0];rfl
theorem aw_lsn0:lsnL (List.replicate 512 0)=0:=by
 rw[new_mk,lsn_mk aw_of0];rfl
theorem aw_page {n:Int} (h0:0<=n) (h1:n<=9223372036854775807):∃ h,setLsnL awP0 n=mkP h [(awK,awV)]/\PageOf h [(awK,awV)]/\lsnL (setLsnL awP0 n)=n.toNat:=by
 obtain⟨e1,e2,e3,-⟩:=setLsn_mk aw_of1 h0 h1;refine⟨_,e1,e2,?_⟩;rw[show setLsnL awP0 n=_ from e1,lsn_mk e2,e3]
end
section
set_option maxHeartbeats 8000000
set_option maxRecDepth 100000
open Go.RowKit Go.Shelf
theorem done1_any (U V:Nat->Prop) (d ds do_ l p K:Nat) (D:DK) (L:LK) (P:PK) (sv:Value) (m hand:Nat) (Q:Nat->Nat) (B:Nat->Value) (Us:Nat->Bool) (n lsn:Int) (fb:Nat) (act:List UInt8->Int×List UInt8) (w:World) (h:RG w U V d ds do_ l p K D L P sv m hand Q B Us) (hn:0<=n/\n<P.count) (hK:K<=800000000)
  (hlsn:0<=lsn/\lsn<=9223372036854775807) (hact:ActC 50 #[.pointer (some ⟨fb,0,none⟩)] act w.heap.size fun W=>Trn (AllB U V d ds do_) w W) :
  Calls Tryz.prog 49 #[.pointer (some ⟨p,0,none⟩),.int .i64 n,.int .i64 lsn,.func (.func 50) #[] #[.pointer (some ⟨fb,0,none⟩)]] w (DoneG U V d ds do_ l p K P n lsn act L D m w):=by
 have HFr:Hid (Calls Tryz.prog 54 #[.pointer (some ⟨p,0,none⟩),.int .i64 n] w (FrG U V d ds do_ l p K P n L D m w)):=φ (frame_any U V d ds do_ l p K D L P sv m hand Q B Us n w h hn hK);have HA:=φ hact;have HL:=φ hlsn;clear h hn hact hlsn;go_enter Tryz.func49,Tryz.ntmps49;go_upto_region 2 with (first|(go_at_call 54;refine HFr.out.mono ?_;rintro e w1 hfr;obtain⟨pv,e1,j,P1,L1,D1,V',sv',hand',Q',B',Us',rfl,hf2,hf3,hf4,hf5,hf6⟩:=hfr.one;have F2:=φ hf2;have R1:=φ hf3;have T1:=φ hf4;have V1:=φ hf5;have C1:=φ hf6;clear hf2 hf3 hf4 hf5 hf6 hfr));by_cases h0:e1=0
 ·subst h0;obtain⟨hj,rfl⟩:=C1.out rfl;have HJ:=φ hj;have hf:=R1.out.pf.fr j hj;obtain⟨gb,c,X,hv,hge,hpg⟩:=hf.b.pg hf.len;have q1:w1.cell? ⟨Q' j,1,none⟩=some (.slice (some ⟨gb,0,none⟩) 512 c):=by rw[<- hv];exact cell_of_row _ _ 1 _ _ _ hf.blk
  have HAt:Hid (P1.frames[j]? = some (P1.frames.getD j fr0)):=φ (by rw[List.getD_eq_getElem?_getD,List.getElem?_eq_getElem hj];rfl);have HPG:=φ hpg;have HQl:Hid (Q' j<w1.heap.size):=φ (R1.out.pf.lt _ (R1.out.pf.vq j hj));have HBl0:=φ hf.blk;have HLs:=φ (Lsn_any _ _ _ _ _ w1 hpg.rb (Nat.le_refl _));have HPf:Hid (0<=(P1.frames.getD j fr0).first/\(P1.frames.getD j fr0).first<=9223372036854775807):=φ (R1.out.pf.ok.lsn _ (getD_mem P1.frames fr0 j hj));clear hf hj hv hge hpg;obtain⟨f,hfe⟩:∃ f,f=P1.frames.getD j fr0:=⟨_,rfl⟩
  have HFe:=φ hfe;rw[<- hfe] at HAt HPG HLs HPf;clear hfe;by_cases hle:lsn<=(lsnL f.b:Int)
  ·have e2:decide ((lsnL f.b:Int) ≥ lsn)=true:=decide_eq_true hle;have HLe:=φ hle;clear hle;generalize (lsnL f.b:Int)=ln at HLs e2;go_wp2_with (go_at_call 32;refine HLs.out.mono ?_;rintro e w2 ⟨rfl,hb⟩;have B2:=φ hb;clear hb);go_ret2;exact⟨(false,0,P1,L1,D1),V',sv',hand',Q',B',Us',.was j _ f F2.out HAt.out HLe.out,R1.out.keep B2.out (Nat.le_refl _),T1.out.below B2.out T1.out.size,V1.out,rfl⟩
  ·have e2:decide ((lsnL f.b:Int) ≥ lsn)=false:=decide_eq_false hle;have HLe:Hid ((lsnL f.b:Int)<lsn):=φ (by omega);clear hle;generalize (lsnL f.b:Int)=ln at HLs e2;go_upto_region 4 with (go_at_call 32;refine HLs.out.mono ?_;rintro e w2 ⟨rfl,hb⟩;have B2:=φ hb;have p2:=HPG.out.below hb HPG.out.lt;have P2:=φ p2;have q2:w2.cell? ⟨Q' j,1,none⟩=some (.slice (some ⟨gb,0,none⟩) 512 c):=(hb.cell (p:=⟨Q' j,1,none⟩) HQl.out).trans q1;clear hb p2);have HCl:=φ (sclone_any _ _ _ _ _ w2 P2.out.rb (Nat.le_refl _));have T2:Hid (Trn (AllB U V d ds do_) w w2):=φ (T1.out.below B2.out T1.out.size);clear q1;obtain⟨e3,b3,hact⟩:∃ e3 b3,act f.b=(e3,b3):=⟨_,_,rfl⟩
   have HE:=φ hact;have HA2:Hid (∀ W g c X,Below w2.heap.size w2 W->PG W g c f.b X->w2.heap.size<=g->Calls Tryz.prog 50 (#[.slice (some ⟨g,0,none⟩) 512 c]++#[.pointer (some ⟨fb,0,none⟩)]) W fun e w'=>∃ g' c' X',e=.returned (.tuple #[.slice (some ⟨g',0,none⟩) 512 c',.int .i64 e3])/\(e3=0->PG w' g' c' b3 X')/\w2.heap.size<=g'/\Below w2.heap.size W w'):=φ fun W g c X h1 h2 h3=>by
    have:=HA.out W w2.heap.size g c X f.b (T2.out.below h1 T2.out.size) T2.out.size h2 h3 h1.size;rw[hact] at this;exact this
   clear hact;by_cases h3:e3=0
   ·subst h3;go_upto_region 8 with (first|(go_at_call 55;refine HCl.out.mono ?_;rintro e w3 ⟨⟨v3,rfl,ho⟩,hb⟩;have B3:=φ hb;obtain⟨g3,c3,X3,rfl,hge3,hpg3⟩:=ho.pg HPG.out.len;have HD:=φ (HA2.out w3 g3 c3 X3 hb hpg3 hge3);clear ho hb hge3 hpg3)|(go_at_call 50;refine HD.out.mono ?_;rintro e w4 ⟨g4,c4,X4,rfl,hp4,hge4,hb4⟩;have B4:=φ (B3.out.trans hb4);have G4:=φ hge4;have S4:=φ (SetLsn_any g4 c4 b3 X4 lsn w4 (hp4 (by simp)) HL.out.2);clear hp4 hge4 hb4)|(go_at_call 27;refine S4.out.mono ?_;rintro e w5 ⟨rfl,hp5,hm5⟩;have P5:=φ hp5;have hb5:=B4.out.grown hm5 B4.out.size (fun k e=>by cases e;exact G4.out);have B5:=φ hb5;clear hp5 hm5 hb5));have b15:Hid (Below w1.heap.size w1 w5):=φ (B2.out.trans (B5.out.mono B2.out.size));have hb5:w5.heap[Q' j]? = some (frObj f (B' j) (Us' j)):=(by rw[HFe.out];exact (b15.out.block _ HQl.out).trans HBl0.out);have HB5:=φ hb5;have q3:w5.cell? ⟨Q' j,3,none⟩=some (.bool f.dirty):=cell_of_row _ _ 3 _ _ _ hb5;have f1:w5.frozen? ⟨Q' j,1,none⟩=false:=(by simp[World.frozen?,hb5,frObj]);have f3:w5.frozen? ⟨Q' j,3,none⟩=false:=(by simp[World.frozen?,hb5,frObj]);have f4:w5.frozen? ⟨Q' j,4,none⟩=false:=(by simp[World.frozen?,hb5,frObj]);have q5:w5.cell? ⟨Q' j,1,none⟩=some (B' j):=cell_of_row _ _ 1 _ _ _ hb5;have q4:w5.cell? ⟨Q' j,4,none⟩=some (.int .i64 f.first):=cell_of_row _ _ 4 _ _ _ hb5;clear hb5 q2;have HDd:Hid (∀ f',f'={ f with b:=setLsnL b3 lsn,dirty:=true,first:=if f.dirty then f.first else lsn }->DoneP P n lsn act L D (true,0,P1.setFr j f',L1,D1)):=φ fun f' hf'=>by
     have:=DoneP.did (lsn:=lsn) (act:=act) j _ f F2.out HAt.out HLe.out (by rw[HE.out]);rw[HE.out] at this;rw[hf'];exact this
    cases hd:f.dirty with
    | true =>
     rw[hd] at q3;have HDy:=φ hd;clear hd;go_wp2_with (fail);go_ret2;obtain⟨hr,ht⟩:=R1.out.did HJ.out b15.out P5.out (Nat.le_trans B2.out.size G4.out) { f with b:=setLsnL b3 lsn,dirty:=true } (by rw[HFe.out]) HPf.out rfl (w6:=w5.setCell ⟨Q' j,1,none⟩ (.slice (some ⟨g4,0,none⟩) 512 c4)) (by rw[<- HDy.out];exact set_at HB5.out 1 _) ((Trn.refl (fun g=>g=Q' j) w5).set _ _ _ (.inl rfl));exact⟨(true,0,P1.setFr j _,L1,D1),_,sv',hand',Q',_,_,HDd.out _ (by simp[HDy.out]),hr,T1.out.trans ht fun g hg=>by (rcases V1.out g hg with h|h;exact .inl (.inr (.inl h));exact .inr h),fun g hg=>by
      rcases hg with hg|hg
      ·exact V1.out g hg
      ·exact .inr (Nat.le_trans T1.out.size hg.1),rfl⟩
    | false =>
     rw[hd] at q3;have HDy:=φ hd;clear hd;go_wp2_with (fail);go_ret2;obtain⟨hr,ht⟩:=R1.out.did HJ.out b15.out P5.out (Nat.le_trans B2.out.size G4.out) { f with b:=setLsnL b3 lsn,dirty:=true,first:=lsn } (by rw[HFe.out]) HL.out rfl (w6:=((w5.setCell ⟨Q' j,1,none⟩ (.slice (some ⟨g4,0,none⟩) 512 c4)).setCell ⟨Q' j,3,none⟩ (.bool true)).setCell ⟨Q' j,4,none⟩ (.int .i64 lsn)) (set_at (set_at (set_at HB5.out 1 _) 3 _) 4 _) ((((Trn.refl (fun g=>g=Q' j) w5).set _ _ _ (.inl rfl)).set _ _ _ (.inl rfl)).set _ _ _ (.inl rfl));exact⟨(true,0,P1.setFr j _,L1,D1),_,sv',hand',Q',_,_,HDd.out _ (by simp[HDy.out]),hr,T1.out.trans ht fun g hg=>by (rcases V1.out g hg with h|h;exact .inl (.inr (.inl h));exact .inr h),fun g hg=>by
      rcases hg with hg|hg
      ·exact V1.out g hg
      ·exact .inr (Nat.le_trans T1.out.size hg.1),rfl⟩
   ·have H3:=φ h3;have ee3:(e3 == 0)=false:=(by simpa using h3);clear h3;go_wp2_with (first|(go_at_call 55;refine HCl.out.mono ?_;rintro e w3 ⟨⟨v3,rfl,ho⟩,hb⟩;have B3:=φ hb;obtain⟨g3,c3,X3,rfl,hge3,hpg3⟩:=ho.pg HPG.out.len;have HD:=φ (HA2.out w3 g3 c3 X3 hb hpg3 hge3);clear ho hb hge3 hpg3)|(go_at_call 50;refine HD.out.mono ?_;rintro e w4 ⟨g4,c4,X4,rfl,-,-,hb4⟩;have B4:=φ (B3.out.trans hb4);clear hb4));go_ret2;have b14:Below w1.heap.size w1 w4:=B2.out.trans (B4.out.mono B2.out.size);exact⟨(false,e3,P1,L1,D1),V',sv',hand',Q',B',Us',by
     have:=DoneP.not (lsn:=lsn) (act:=act) j _ f F2.out HAt.out HLe.out (by rw[HE.out];exact H3.out);rw[HE.out] at this;exact this,R1.out.keep b14 (Nat.le_refl _),T1.out.below b14 T1.out.size,V1.out,rfl⟩
 ·have E1:=φ h0;have ee:(e1 == 0)=false:=by simpa using h0
  clear h0;go_wp2_with (fail);go_ret2;exact⟨(false,e1,P1,L1,D1),V',sv',hand',Q',B',Us',.bad e1 j _ F2.out E1.out,R1.out,T1.out,V1.out,rfl⟩
end
section
set_option maxHeartbeats 8000000
set_option maxRecDepth 100000
open Go.RowKit Go.Shelf
theorem done2_any (U V:Nat->Prop) (d ds do_ l p K:Nat) (D:DK) (L:LK) (P:PK) (sv:Value) (m hand:Nat) (Q:Nat->Nat) (B:Nat->Value) (Us:Nat->Bool) (n lsn:Int) (fb:Nat) (act:List UInt8->Int×List UInt8) (w:World) (h:RG w U V d ds do_ l p K D L P sv m hand Q B Us) (hn:0<=n/\n<P.count) (hK:K<=800000000)
  (hlsn:0<=lsn/\lsn<=9223372036854775807) (hact:ActC 51 #[.pointer (some ⟨fb,0,none⟩)] act w.heap.size fun W=>Trn (AllB U V d ds do_) w W) :
  Calls Tryz.prog 49 #[.pointer (some ⟨p,0,none⟩),.int .i64 n,.int .i64 lsn,.func (.func 51) #[] #[.pointer (some ⟨fb,0,none⟩)]] w (DoneG U V d ds do_ l p K P n lsn act L D m w):=by
 have HFr:Hid (Calls Tryz.prog 54 #[.pointer (some ⟨p,0,none⟩),.int .i64 n] w (FrG U V d ds do_ l p K P n L D m w)):=φ (frame_any U V d ds do_ l p K D L P sv m hand Q B Us n w h hn hK);have HA:=φ hact;have HL:=φ hlsn;clear h hn hact hlsn;go_enter Tryz.func49,Tryz.ntmps49;go_upto_region 2 with (first|(go_at_call 54;refine HFr.out.mono ?_;rintro e w1 hfr;obtain⟨pv,e1,j,P1,L1,D1,V',sv',hand',Q',B',Us',rfl,hf2,hf3,hf4,hf5,hf6⟩:=hfr.one;have F2:=φ hf2;have R1:=φ hf3;have T1:=φ hf4;have V1:=φ hf5;have C1:=φ hf6;clear hf2 hf3 hf4 hf5 hf6 hfr));by_cases h0:e1=0
 ·subst h0;obtain⟨hj,rfl⟩:=C1.out rfl;have HJ:=φ hj;have hf:=R1.out.pf.fr j hj;obtain⟨gb,c,X,hv,hge,hpg⟩:=hf.b.pg hf.len;have q1:w1.cell? ⟨Q' j,1,none⟩=some (.slice (some ⟨gb,0,none⟩) 512 c):=by rw[<- hv];exact cell_of_row _ _ 1 _ _ _ hf.blk
  have HAt:Hid (P1.frames[j]? = some (P1.frames.getD j fr0)):=φ (by rw[List.getD_eq_getElem?_getD,List.getElem?_eq_getElem hj];rfl);have HPG:=φ hpg;have HQl:Hid (Q' j<w1.heap.size):=φ (R1.out.pf.lt _ (R1.out.pf.vq j hj));have HBl0:=φ hf.blk;have HLs:=φ (Lsn_any _ _ _ _ _ w1 hpg.rb (Nat.le_refl _));have HPf:Hid (0<=(P1.frames.getD j fr0).first/\(P1.frames.getD j fr0).first<=9223372036854775807):=φ (R1.out.pf.ok.lsn _ (getD_mem P1.frames fr0 j hj));clear hf hj hv hge hpg;obtain⟨f,hfe⟩:∃ f,f=P1.frames.getD j fr0:=⟨_,rfl⟩
  have HFe:=φ hfe;rw[<- hfe] at HAt HPG HLs HPf;clear hfe;by_cases hle:lsn<=(lsnL f.b:Int)
  ·have e2:decide ((lsnL f.b:Int) ≥ lsn)=true:=decide_eq_true hle;have HLe:=φ hle;clear hle;generalize (lsnL f.b:Int)=ln at HLs e2;go_wp2_with (go_at_call 32;refine HLs.out.mono ?_;rintro e w2 ⟨rfl,hb⟩;have B2:=φ hb;clear hb);go_ret2;exact⟨(false,0,P1,L1,D1),V',sv',hand',Q',B',Us',.was j _ f F2.out HAt.out HLe.out,R1.out.keep B2.out (Nat.le_refl _),T1.out.below B2.out T1.out.size,V1.out,rfl⟩
  ·have e2:decide ((lsnL f.b:Int) ≥ lsn)=false:=decide_eq_false hle;have HLe:Hid ((lsnL f.b:Int)<lsn):=φ (by omega);clear hle;generalize (lsnL f.b:Int)=ln at HLs e2;go_upto_region 4 with (go_at_call 32;refine HLs.out.mono ?_;rintro e w2 ⟨rfl,hb⟩;have B2:=φ hb;have p2:=HPG.out.below hb HPG.out.lt;have P2:=φ p2;have q2:w2.cell? ⟨Q' j,1,none⟩=some (.slice (some ⟨gb,0,none⟩) 512 c):=(hb.cell (p:=⟨Q' j,1,none⟩) HQl.out).trans q1;clear hb p2);have HCl:=φ (sclone_any _ _ _ _ _ w2 P2.out.rb (Nat.le_refl _));have T2:Hid (Trn (AllB U V d ds do_) w w2):=φ (T1.out.below B2.out T1.out.size);clear q1;obtain⟨e3,b3,hact⟩:∃ e3 b3,act f.b=(e3,b3):=⟨_,_,rfl⟩
   have HE:=φ hact;have HA2:Hid (∀ W g c X,Below w2.heap.size w2 W->PG W g c f.b X->w2.heap.size<=g->Calls Tryz.prog 51 (#[.slice (some ⟨g,0,none⟩) 512 c]++#[.pointer (some ⟨fb,0,none⟩)]) W fun e w'=>∃ g' c' X',e=.returned (.tuple #[.slice (some ⟨g',0,none⟩) 512 c',.int .i64 e3])/\(e3=0->PG w' g' c' b3 X')/\w2.heap.size<=g'/\Below w2.heap.size W w'):=φ fun W g c X h1 h2 h3=>by
    have:=HA.out W w2.heap.size g c X f.b (T2.out.below h1 T2.out.size) T2.out.size h2 h3 h1.size;rw[hact] at this;exact this
   clear hact;by_cases h3:e3=0
   ·subst h3;go_upto_region 8 with (first|(go_at_call 55;refine HCl.out.mono ?_;rintro e w3 ⟨⟨v3,rfl,ho⟩,hb⟩;have B3:=φ hb;obtain⟨g3,c3,X3,rfl,hge3,hpg3⟩:=ho.pg HPG.out.len;have HD:=φ (HA2.out w3 g3 c3 X3 hb hpg3 hge3);clear ho hb hge3 hpg3)|(go_at_call 51;refine HD.out.mono ?_;rintro e w4 ⟨g4,c4,X4,rfl,hp4,hge4,hb4⟩;have B4:=φ (B3.out.trans hb4);have G4:=φ hge4;have S4:=φ (SetLsn_any g4 c4 b3 X4 lsn w4 (hp4 (by simp)) HL.out.2);clear hp4 hge4 hb4)|(go_at_call 27;refine S4.out.mono ?_;rintro e w5 ⟨rfl,hp5,hm5⟩;have P5:=φ hp5;have hb5:=B4.out.grown hm5 B4.out.size (fun k e=>by cases e;exact G4.out);have B5:=φ hb5;clear hp5 hm5 hb5));have b15:Hid (Below w1.heap.size w1 w5):=φ (B2.out.trans (B5.out.mono B2.out.size));have hb5:w5.heap[Q' j]? = some (frObj f (B' j) (Us' j)):=(by rw[HFe.out];exact (b15.out.block _ HQl.out).trans HBl0.out);have HB5:=φ hb5;have q3:w5.cell? ⟨Q' j,3,none⟩=some (.bool f.dirty):=cell_of_row _ _ 3 _ _ _ hb5;have f1:w5.frozen? ⟨Q' j,1,none⟩=false:=(by simp[World.frozen?,hb5,frObj]);have f3:w5.frozen? ⟨Q' j,3,none⟩=false:=(by simp[World.frozen?,hb5,frObj]);have f4:w5.frozen? ⟨Q' j,4,none⟩=false:=(by simp[World.frozen?,hb5,frObj]);have q5:w5.cell? ⟨Q' j,1,none⟩=some (B' j):=cell_of_row _ _ 1 _ _ _ hb5;have q4:w5.cell? ⟨Q' j,4,none⟩=some (.int .i64 f.first):=cell_of_row _ _ 4 _ _ _ hb5;clear hb5 q2;have HDd:Hid (∀ f',f'={ f with b:=setLsnL b3 lsn,dirty:=true,first:=if f.dirty then f.first else lsn }->DoneP P n lsn act L D (true,0,P1.setFr j f',L1,D1)):=φ fun f' hf'=>by
     have:=DoneP.did (lsn:=lsn) (act:=act) j _ f F2.out HAt.out HLe.out (by rw[HE.out]);rw[HE.out] at this;rw[hf'];exact this
    cases hd:f.dirty with
    | true =>
     rw[hd] at q3;have HDy:=φ hd;clear hd;go_wp2_with (fail);go_ret2;obtain⟨hr,ht⟩:=R1.out.did HJ.out b15.out P5.out (Nat.le_trans B2.out.size G4.out) { f with b:=setLsnL b3 lsn,dirty:=true } (by rw[HFe.out]) HPf.out rfl (w6:=w5.setCell ⟨Q' j,1,none⟩ (.slice (some ⟨g4,0,none⟩) 512 c4)) (by rw[<- HDy.out];exact set_at HB5.out 1 _) ((Trn.refl (fun g=>g=Q' j) w5).set _ _ _ (.inl rfl));exact⟨(true,0,P1.setFr j _,L1,D1),_,sv',hand',Q',_,_,HDd.out _ (by simp[HDy.out]),hr,T1.out.trans ht fun g hg=>by (rcases V1.out g hg with h|h;exact .inl (.inr (.inl h));exact .inr h),fun g hg=>by
      rcases hg with hg|hg
      ·exact V1.out g hg
      ·exact .inr (Nat.le_trans T1.out.size hg.1),rfl⟩
    | false =>
     rw[hd] at q3;have HDy:=φ hd;clear hd;go_wp2_with (fail);go_ret2;obtain⟨hr,ht⟩:=R1.out.did HJ.out b15.out P5.out (Nat.le_trans B2.out.size G4.out) { f with b:=setLsnL b3 lsn,dirty:=true,first:=lsn } (by rw[HFe.out]) HL.out rfl (w6:=((w5.setCell ⟨Q' j,1,none⟩ (.slice (some ⟨g4,0,none⟩) 512 c4)).setCell ⟨Q' j,3,none⟩ (.bool true)).setCell ⟨Q' j,4,none⟩ (.int .i64 lsn)) (set_at (set_at (set_at HB5.out 1 _) 3 _) 4 _) ((((Trn.refl (fun g=>g=Q' j) w5).set _ _ _ (.inl rfl)).set _ _ _ (.inl rfl)).set _ _ _ (.inl rfl));exact⟨(true,0,P1.setFr j _,L1,D1),_,sv',hand',Q',_,_,HDd.out _ (by simp[HDy.out]),hr,T1.out.trans ht fun g hg=>by (rcases V1.out g hg with h|h;exact .inl (.inr (.inl h));exact .inr h),fun g hg=>by
      rcases hg with hg|hg
      ·exact V1.out g hg
      ·exact .inr (Nat.le_trans T1.out.size hg.1),rfl⟩
   ·have H3:=φ h3;have ee3:(e3 == 0)=false:=(by simpa using h3);clear h3;go_wp2_with (first|(go_at_call 55;refine HCl.out.mono ?_;rintro e w3 ⟨⟨v3,rfl,ho⟩,hb⟩;have B3:=φ hb;obtain⟨g3,c3,X3,rfl,hge3,hpg3⟩:=ho.pg HPG.out.len;have HD:=φ (HA2.out w3 g3 c3 X3 hb hpg3 hge3);clear ho hb hge3 hpg3)|(go_at_call 51;refine HD.out.mono ?_;rintro e w4 ⟨g4,c4,X4,rfl,-,-,hb4⟩;have B4:=φ (B3.out.trans hb4);clear hb4));go_ret2;have b14:Below w1.heap.size w1 w4:=B2.out.trans (B4.out.mono B2.out.size);exact⟨(false,e3,P1,L1,D1),V',sv',hand',Q',B',Us',by
     have:=DoneP.not (lsn:=lsn) (act:=act) j _ f F2.out HAt.out HLe.out (by rw[HE.out];exact H3.out);rw[HE.out] at this;exact this,R1.out.keep b14 (Nat.le_refl _),T1.out.below b14 T1.out.size,V1.out,rfl⟩
 ·have E1:=φ h0;have ee:(e1 == 0)=false:=by simpa using h0
  clear h0;go_wp2_with (fail);go_ret2;exact⟨(false,e1,P1,L1,D1),V',sv',hand',Q',B',Us',.bad e1 j _ F2.out E1.out,R1.out,T1.out,V1.out,rfl⟩
end
section
set_option maxHeartbeats 8000000
set_option maxRecDepth 100000
open Go.RowKit Go.Shelf
theorem done3_any (U V:Nat->Prop) (d ds do_ l p K:Nat) (D:DK) (L:LK) (P:PK) (sv:Value) (m hand:Nat) (Q:Nat->Nat) (B:Nat->Value) (Us:Nat->Bool) (n lsn:Int) (act:List UInt8->Int×List UInt8) (w:World) (h:RG w U V d ds do_ l p K D L P sv m hand Q B Us) (hn:0<=n/\n<P.count) (hK:K<=800000000)
  (hlsn:0<=lsn/\lsn<=9223372036854775807) (hact:ActC 53 #[] act w.heap.size fun W=>Trn (AllB U V d ds do_) w W) :
  Calls Tryz.prog 49 #[.pointer (some ⟨p,0,none⟩),.int .i64 n,.int .i64 lsn,.func (.func 53) #[] #[]] w (DoneG U V d ds do_ l p K P n lsn act L D m w):=by
 have HFr:Hid (Calls Tryz.prog 54 #[.pointer (some ⟨p,0,none⟩),.int .i64 n] w (FrG U V d ds do_ l p K P n L D m w)):=φ (frame_any U V d ds do_ l p K D L P sv m hand Q B Us n w h hn hK);have HA:=φ hact;have HL:=φ hlsn;clear h hn hact hlsn;go_enter Tryz.func49,Tryz.ntmps49;go_upto_region 2 with (first|(go_at_call 54;refine HFr.out.mono ?_;rintro e w1 hfr;obtain⟨pv,e1,j,P1,L1,D1,V',sv',hand',Q',B',Us',rfl,hf2,hf3,hf4,hf5,hf6⟩:=hfr.one;have F2:=φ hf2;have R1:=φ hf3;have T1:=φ hf4;have V1:=φ hf5;have C1:=φ hf6;clear hf2 hf3 hf4 hf5 hf6 hfr));by_cases h0:e1=0
 ·subst h0;obtain⟨hj,rfl⟩:=C1.out rfl;have HJ:=φ hj;have hf:=R1.out.pf.fr j hj;obtain⟨gb,c,X,hv,hge,hpg⟩:=hf.b.pg hf.len;have q1:w1.cell? ⟨Q' j,1,none⟩=some (.slice (some ⟨gb,0,none⟩) 512 c):=by rw[<- hv];exact cell_of_row _ _ 1 _ _ _ hf.blk
  have HAt:Hid (P1.frames[j]? = some (P1.frames.getD j fr0)):=φ (by rw[List.getD_eq_getElem?_getD,List.getElem?_eq_getElem hj];rfl);have HPG:=φ hpg;have HQl:Hid (Q' j<w1.heap.size):=φ (R1.out.pf.lt _ (R1.out.pf.vq j hj));have HBl0:=φ hf.blk;have HLs:=φ (Lsn_any _ _ _ _ _ w1 hpg.rb (Nat.le_refl _));have HPf:Hid (0<=(P1.frames.getD j fr0).first/\(P1.frames.getD j fr0).first<=9223372036854775807):=φ (R1.out.pf.ok.lsn _ (getD_mem P1.frames fr0 j hj));clear hf hj hv hge hpg;obtain⟨f,hfe⟩:∃ f,f=P1.frames.getD j fr0:=⟨_,rfl⟩
  have HFe:=φ hfe;rw[<- hfe] at HAt HPG HLs HPf;clear hfe;by_cases hle:lsn<=(lsnL f.b:Int)
  ·have e2:decide ((lsnL f.b:Int) ≥ lsn)=true:=decide_eq_true hle;have HLe:=φ hle;clear hle;generalize (lsnL f.b:Int)=ln at HLs e2;go_wp2_with (go_at_call 32;refine HLs.out.mono ?_;rintro e w2 ⟨rfl,hb⟩;have B2:=φ hb;clear hb);go_ret2;exact⟨(false,0,P1,L1,D1),V',sv',hand',Q',B',Us',.was j _ f F2.out HAt.out HLe.out,R1.out.keep B2.out (Nat.le_refl _),T1.out.below B2.out T1.out.size,V1.out,rfl⟩
  ·have e2:decide ((lsnL f.b:Int) ≥ lsn)=false:=decide_eq_false hle;have HLe:Hid ((lsnL f.b:Int)<lsn):=φ (by omega);clear hle;generalize (lsnL f.b:Int)=ln at HLs e2;go_upto_region 4 with (go_at_call 32;refine HLs.out.mono ?_;rintro e w2 ⟨rfl,hb⟩;have B2:=φ hb;have p2:=HPG.out.below hb HPG.out.lt;have P2:=φ p2;have q2:w2.cell? ⟨Q' j,1,none⟩=some (.slice (some ⟨gb,0,none⟩) 512 c):=(hb.cell (p:=⟨Q' j,1,none⟩) HQl.out).trans q1;clear hb p2);have HCl:=φ (sclone_any _ _ _ _ _ w2 P2.out.rb (Nat.le_refl _));have T2:Hid (Trn (AllB U V d ds do_) w w2):=φ (T1.out.below B2.out T1.out.size);clear q1;obtain⟨e3,b3,hact⟩:∃ e3 b3,act f.b=(e3,b3):=⟨_,_,rfl⟩
   have HE:=φ hact;have HA2:Hid (∀ W g c X,Below w2.heap.size w2 W->PG W g c f.b X->w2.heap.size<=g->Calls Tryz.prog 53 (#[.slice (some ⟨g,0,none⟩) 512 c]++#[]) W fun e w'=>∃ g' c' X',e=.returned (.tuple #[.slice (some ⟨g',0,none⟩) 512 c',.int .i64 e3])/\(e3=0->PG w' g' c' b3 X')/\w2.heap.size<=g'/\Below w2.heap.size W w'):=φ fun W g c X h1 h2 h3=>by
    have:=HA.out W w2.heap.size g c X f.b (T2.out.below h1 T2.out.size) T2.out.size h2 h3 h1.size;rw[hact] at this;exact this
   clear hact;by_cases h3:e3=0
   ·subst h3;go_upto_region 8 with (first|(go_at_call 55;refine HCl.out.mono ?_;rintro e w3 ⟨⟨v3,rfl,ho⟩,hb⟩;have B3:=φ hb;obtain⟨g3,c3,X3,rfl,hge3,hpg3⟩:=ho.pg HPG.out.len;have HD:=φ (HA2.out w3 g3 c3 X3 hb hpg3 hge3);clear ho hb hge3 hpg3)|(go_at_call 53;refine HD.out.mono ?_;rintro e w4 ⟨g4,c4,X4,rfl,hp4,hge4,hb4⟩;have B4:=φ (B3.out.trans hb4);have G4:=φ hge4;have S4:=φ (SetLsn_any g4 c4 b3 X4 lsn w4 (hp4 (by simp)) HL.out.2);clear hp4 hge4 hb4)|(go_at_call 27;refine S4.out.mono ?_;rintro e w5 ⟨rfl,hp5,hm5⟩;have P5:=φ hp5;have hb5:=B4.out.grown hm5 B4.out.size (fun k e=>by cases e;exact G4.out);have B5:=φ hb5;clear hp5 hm5 hb5));have b15:Hid (Below w1.heap.size w1 w5):=φ (B2.out.trans (B5.out.mono B2.out.size));have hb5:w5.heap[Q' j]? = some (frObj f (B' j) (Us' j)):=(by rw[HFe.out];exact (b15.out.block _ HQl.out).trans HBl0.out);have HB5:=φ hb5;have q3:w5.cell? ⟨Q' j,3,none⟩=some (.bool f.dirty):=cell_of_row _ _ 3 _ _ _ hb5;have f1:w5.frozen? ⟨Q' j,1,none⟩=false:=(by simp[World.frozen?,hb5,frObj]);have f3:w5.frozen? ⟨Q' j,3,none⟩=false:=(by simp[World.frozen?,hb5,frObj]);have f4:w5.frozen? ⟨Q' j,4,none⟩=false:=(by simp[World.frozen?,hb5,frObj]);have q5:w5.cell? ⟨Q' j,1,none⟩=some (B' j):=cell_of_row _ _ 1 _ _ _ hb5;have q4:w5.cell? ⟨Q' j,4,none⟩=some (.int .i64 f.first):=cell_of_row _ _ 4 _ _ _ hb5;clear hb5 q2;have HDd:Hid (∀ f',f'={ f with b:=setLsnL b3 lsn,dirty:=true,first:=if f.dirty then f.first else lsn }->DoneP P n lsn act L D (true,0,P1.setFr j f',L1,D1)):=φ fun f' hf'=>by
     have:=DoneP.did (lsn:=lsn) (act:=act) j _ f F2.out HAt.out HLe.out (by rw[HE.out]);rw[HE.out] at this;rw[hf'];exact this
    cases hd:f.dirty with
    | true =>
     rw[hd] at q3;have HDy:=φ hd;clear hd;go_wp2_with (fail);go_ret2;obtain⟨hr,ht⟩:=R1.out.did HJ.out b15.out P5.out (Nat.le_trans B2.out.size G4.out) { f with b:=setLsnL b3 lsn,dirty:=true } (by rw[HFe.out]) HPf.out rfl (w6:=w5.setCell ⟨Q' j,1,none⟩ (.slice (some ⟨g4,0,none⟩) 512 c4)) (by rw[<- HDy.out];exact set_at HB5.out 1 _) ((Trn.refl (fun g=>g=Q' j) w5).set _ _ _ (.inl rfl));exact⟨(true,0,P1.setFr j _,L1,D1),_,sv',hand',Q',_,_,HDd.out _ (by simp[HDy.out]),hr,T1.out.trans ht fun g hg=>by (rcases V1.out g hg with h|h;exact .inl (.inr (.inl h));exact .inr h),fun g hg=>by
      rcases hg with hg|hg
      ·exact V1.out g hg
      ·exact .inr (Nat.le_trans T1.out.size hg.1),rfl⟩
    | false =>
     rw[hd] at q3;have HDy:=φ hd;clear hd;go_wp2_with (fail);go_ret2;obtain⟨hr,ht⟩:=R1.out.did HJ.out b15.out P5.out (Nat.le_trans B2.out.size G4.out) { f with b:=setLsnL b3 lsn,dirty:=true,first:=lsn } (by rw[HFe.out]) HL.out rfl (w6:=((w5.setCell ⟨Q' j,1,none⟩ (.slice (some ⟨g4,0,none⟩) 512 c4)).setCell ⟨Q' j,3,none⟩ (.bool true)).setCell ⟨Q' j,4,none⟩ (.int .i64 lsn)) (set_at (set_at (set_at HB5.out 1 _) 3 _) 4 _) ((((Trn.refl (fun g=>g=Q' j) w5).set _ _ _ (.inl rfl)).set _ _ _ (.inl rfl)).set _ _ _ (.inl rfl));exact⟨(true,0,P1.setFr j _,L1,D1),_,sv',hand',Q',_,_,HDd.out _ (by simp[HDy.out]),hr,T1.out.trans ht fun g hg=>by (rcases V1.out g hg with h|h;exact .inl (.inr (.inl h));exact .inr h),fun g hg=>by
      rcases hg with hg|hg
      ·exact V1.out g hg
      ·exact .inr (Nat.le_trans T1.out.size hg.1),rfl⟩
   ·have H3:=φ h3;have ee3:(e3 == 0)=false:=(by simpa using h3);clear h3;go_wp2_with (first|(go_at_call 55;refine HCl.out.mono ?_;rintro e w3 ⟨⟨v3,rfl,ho⟩,hb⟩;have B3:=φ hb;obtain⟨g3,c3,X3,rfl,hge3,hpg3⟩:=ho.pg HPG.out.len;have HD:=φ (HA2.out w3 g3 c3 X3 hb hpg3 hge3);clear ho hb hge3 hpg3)|(go_at_call 53;refine HD.out.mono ?_;rintro e w4 ⟨g4,c4,X4,rfl,-,-,hb4⟩;have B4:=φ (B3.out.trans hb4);clear hb4));go_ret2;have b14:Below w1.heap.size w1 w4:=B2.out.trans (B4.out.mono B2.out.size);exact⟨(false,e3,P1,L1,D1),V',sv',hand',Q',B',Us',by
     have:=DoneP.not (lsn:=lsn) (act:=act) j _ f F2.out HAt.out HLe.out (by rw[HE.out];exact H3.out);rw[HE.out] at this;exact this,R1.out.keep b14 (Nat.le_refl _),T1.out.below b14 T1.out.size,V1.out,rfl⟩
 ·have E1:=φ h0;have ee:(e1 == 0)=false:=by simpa using h0
  clear h0;go_wp2_with (fail);go_ret2;exact⟨(false,e1,P1,L1,D1),V',sv',hand',Q',B',Us',.bad e1 j _ F2.out E1.out,R1.out,T1.out,V1.out,rfl⟩
end
section
open Go.RowKit Go.Shelf
variable {D:DK} {L:LK} {K d do_ ds l m p:Nat} {U V:Nat->Prop} {P:PK} {r:RecV} {W w w':World}
def argBad (r:RecV) (L:LK):Prop:=(r.kind≠6/\r.kind≠1/\r.kind≠2)∨r.lsn<1∨L.end_<=r.lsn
def pageBad (r:RecV) (c:Int):Prop:=¬ (0<=r.page/\r.page<c)∨(r.kind=6/\¬ (0<=r.next/\r.next<c))
inductive DoP (P:PK) (r:RecV) (L:LK) (D:DK):Bool×Int×PK×LK×DK->Prop
 | arg:argBad r L->DoP P r L D (false,2,P,L,D)
 | none:¬ argBad r L->pageBad r P.count->DoP P r L D (false,6,P,L,D)
 | one (x:Bool×Int×PK×LK×DK):¬ argBad r L->¬ pageBad r P.count->r.kind≠6->DoneP P r.page r.lsn (actTurn r.key r.old r.new) L D x->DoP P r L D x
 | bad (x:Bool×Int×PK×LK×DK):¬ argBad r L->¬ pageBad r P.count->r.kind=6->DoneP P r.page r.lsn (actNext r.next) L D x->x.2.1≠0->DoP P r L D (false,x.2.1,x.2.2)
 | two (x y:Bool×Int×PK×LK×DK):¬ argBad r L->¬ pageBad r P.count->r.kind=6->DoneP P r.page r.lsn (actNext r.next) L D x->x.2.1=0->DoneP x.2.2.1 r.next r.lsn actNew x.2.2.2.1 x.2.2.2.2 y->DoP P r L D ((x.1 || y.1) && decide (y.2.1=0),y.2.1,y.2.2)
def DoG (U V:Nat->Prop) (d ds do_ l p K:Nat) (P:PK) (r:RecV) (L:LK) (D:DK) (m:Nat) (w:World) (e:Ending) (w':World):Prop :=
 ∃ x V' sv hand Q B Us,DoP P r L D x/\RG w' U V' d ds do_ l p (K+20000) x.2.2.2.2 x.2.2.2.1 x.2.2.1 sv m hand Q B Us/\Trn (AllB U V d ds do_) w w'/\(∀ g,V' g->V g∨w.heap.size<=g) /\
  e=.returned (.tuple #[.bool x.1,.int .i64 x.2.1])
structure DoE (N:Nat) (w:World) (U V:Nat->Prop) (d ds do_:Nat) (r:RecV) (ka oa na:Option Addr) (kc oc nc:Nat):Prop where
 k:RB N w ka r.key.length kc r.key
 o:RB N w oa r.old.length oc r.old
 n:RB N w na r.new.length nc r.new
 lt:N<=w.heap.size
 out:∀ a b o s,(a=ka∨a=oa∨a=na)->a=some (⟨b,o,s⟩:Addr)->¬ AllB U V d ds do_ b
 ls:r.lsn<=9223372036854775807
structure BoxE (w W:World) (U V:Nat->Prop) (d ds do_:Nat) (r:RecV) (ka oa na da pa:Option Addr) (kc oc nc dc pc:Nat):Prop where
 blk:W.heap[w.heap.size]? = some (recObj r ka oa na da pa kc oc nc dc pc)
 below:Below w.heap.size w W
theorem BoxE.act {ka oa na da pa:Option Addr} {kc oc nc dc pc N:Nat} (h:BoxE w W U V d ds do_ r ka oa na da pa kc oc nc dc pc) (hE:DoE N w U V d ds do_ r ka oa na kc oc nc) (hlt:∀ g,AllB U V d ds do_ g->g<w.heap.size) :
  ∀ W',Trn (AllB U V d ds do_) W W'->W'.heap[w.heap.size]? = some (recObj r ka oa na da pa kc oc nc dc pc)/\RB W.heap.size W' ka r.key.length kc r.key/\RB W.heap.size W' oa r.old.length oc r.old/\RB W.heap.size W' na r.new.length nc r.new:=fun W' hT=>by
 have hs:N<=W.heap.size:=Nat.le_trans hE.lt h.below.size;have hb:∀ a n c l,(a=ka∨a=oa∨a=na)->RB N w a n c l->RB W.heap.size W' a n c l:=fun a n c l ha hr=>RB.mono (RB.of_block hr fun b o s e _ hbN=>(hT.block b (Nat.lt_of_lt_of_le hbN hs) (fun hA=>hE.out a b o s ha e hA)).trans (h.below.block b (Nat.lt_of_lt_of_le hbN hE.lt))) hs
 exact⟨(hT.block _ (Array.getElem?_eq_some_iff.1 h.blk).1 (fun hA=>by have:=hlt _ hA;omega)).trans h.blk,hb _ _ _ _ (.inl rfl) hE.k,hb _ _ _ _ (.inr (.inl rfl)) hE.o,hb _ _ _ _ (.inr (.inr rfl)) hE.n⟩
theorem DoneG.do1 {e:Ending} (h:DoneG U V d ds do_ l p K P r.page r.lsn (actTurn r.key r.old r.new) L D m W e w') (hb:Below w.heap.size w W) (h1:¬ argBad r L) (h2:¬ pageBad r P.count) (h6:r.kind≠6):DoG U V d ds do_ l p K P r L D m w e w':=by
 obtain⟨x,V',sv,hand,Q,B,Us,g1,g2,g3,g4,g5⟩:=h;exact⟨x,V',sv,hand,Q,B,Us,.one x h1 h2 h6 g1,g2.mono (by omega),((Trn.refl _ w).below hb (Nat.le_refl _)).then g3,fun g hg=>by (rcases g4 g hg with h|h;exact .inl h;exact .inr (Nat.le_trans hb.size h)),g5⟩
theorem DoG.stay {sv:Value} {hand:Nat} {Q:Nat->Nat} {B:Nat->Value} {Us:Nat->Bool} (h:RG w U V d ds do_ l p K D L P sv m hand Q B Us) (hb:Below w.heap.size w w') {x:Int} (hx:DoP P r L D (false,x,P,L,D)) :
  DoG U V d ds do_ l p K P r L D m w (.returned (.tuple #[.bool false,.int .i64 x])) w' :=
 ⟨(false,x,P,L,D),V,sv,hand,Q,B,Us,hx,h.keep hb (by omega),(Trn.refl _ w).below hb (Nat.le_refl _),fun g hg=>.inl hg,rfl⟩
end
section
set_option maxHeartbeats 8000000
set_option maxRecDepth 100000
open Go.RowKit Go.Shelf
theorem do_other (U V:Nat->Prop) (d ds do_ l p KK:Nat) (D:DK) (L:LK) (P:PK) (sv:Value) (m hand:Nat) (Q:Nat->Nat) (B:Nat->Value) (Us:Nat->Bool) (N:Nat) (ls wk pv nx:Int) (kd:Nat) (pg:Int) (ka oa na da pa:Option Addr) (kc oc nc dc pc:Nat) (K O N':List UInt8) (DD MM:List (Int×Int)) (w:World) (h:RG w U V d ds do_ l p KK D L P sv m hand Q B Us) (_hK:KK<=700000000)
  (hE:DoE N w U V d ds do_ ⟨ls,wk,pv,nx,kd,pg,K,O,N',DD,MM⟩ ka oa na kc oc nc) (h6:kd≠6) (h1:kd≠1) (h2:kd≠2) :
  Calls Tryz.prog 12 #[.pointer (some ⟨p,0,none⟩),.agg #[.int .i64 ls,.int .i64 wk,.int .i64 pv,.int .i64 nx,.int .u8 (kd:Int),.int .i64 pg,.slice ka K.length kc,.slice oa O.length oc,.slice na N'.length nc,.slice da DD.length dc,.slice pa MM.length pc]] w (DoG U V d ds do_ l p KK P ⟨ls,wk,pv,nx,kd,pg,K,O,N',DD,MM⟩ L D m w):=by
 have e6:((kd:Int) == 6)=false:=by simp;omega
 have n1:((kd:Int) != 1)=true:=by simp;omega
 have n2:((kd:Int) != 2)=true:=by simp;omega
 have HX:Hid (DoP P ⟨ls,wk,pv,nx,kd,pg,K,O,N',DD,MM⟩ L D (false,2,P,L,D)):=φ (.arg (.inl ⟨h6,h1,h2⟩));clear h6 h1 h2;go_enter Tryz.func12,Tryz.ntmps12;go_upto_region 2 with (fail);have hb0:Below w.heap.size w (w.alloc (.cells #[.int .i64 ls,.int .i64 wk,.int .i64 pv,.int .i64 nx,.int .u8 (kd:Int),.int .i64 pg,.slice ka K.length kc,.slice oa O.length oc,.slice na N'.length nc,.slice da DD.length dc,.slice pa MM.length pc] 33)):=(Below.refl _ w).alloc (Nat.le_refl _) _;obtain⟨w0,hw0⟩:∃ w0,w0=w.alloc (.cells #[.int .i64 ls,.int .i64 wk,.int .i64 pv,.int .i64 nx,.int .u8 (kd:Int),.int .i64 pg,.slice ka K.length kc,.slice oa O.length oc,.slice na N'.length nc,.slice da DD.length dc,.slice pa MM.length pc] 33):=⟨_,rfl⟩
 have hx0:BoxE w w0 U V d ds do_ ⟨ls,wk,pv,nx,kd,pg,K,O,N',DD,MM⟩ ka oa na da pa kc oc nc dc pc:=⟨by rw[hw0];exact heap_alloc_last w _,by rw[hw0];exact hb0⟩
 rw[<- hw0];have X0:=φ hx0;have R0:=φ (h.keep hx0.below (Nat.le_refl KK));have c0:w0.cell? ⟨w.heap.size,0,none⟩=some (.int .i64 ls):=cell_of_row _ _ 0 _ _ _ hx0.blk;have c3:w0.cell? ⟨w.heap.size,3,none⟩=some (.int .i64 nx):=cell_of_row _ _ 3 _ _ _ hx0.blk;have c4:w0.cell? ⟨w.heap.size,4,none⟩=some (.int .u8 (kd:Int)):=cell_of_row _ _ 4 _ _ _ hx0.blk;have c5:w0.cell? ⟨w.heap.size,5,none⟩=some (.int .i64 pg):=cell_of_row _ _ 5 _ _ _ hx0.blk;have p5:w0.cell? ⟨p,5,none⟩=some (.pointer (some ⟨l,0,none⟩)):=cell_of_row _ _ 5 _ _ _ R0.out.pf.blk;have p7:w0.cell? ⟨p,7,none⟩=some (.int .i64 P.count):=cell_of_row _ _ 7 _ _ _ R0.out.pf.blk;have HTh:Hid (Calls Tryz.prog 46 #[.pointer (some ⟨p,0,none⟩)] w0 fun e w'=>e=.returned (.bool true)/\w'=w0):=φ (pthere_any p d w0 (cell_of_row _ _ 4 _ _ _ R0.out.pf.blk));have HEn:Hid (∀ W,Below w0.heap.size w0 W->Calls Tryz.prog 47 #[.pointer (some ⟨l,0,none⟩)] W fun e w'=>e=.returned (.int .i64 L.end_)/\Below w0.heap.size w0 w'):=φ fun W hW=>(end_any W U l d KK L (R0.out.keep hW (Nat.le_refl _)).log).mono fun e w' hh=>⟨hh.1,by rw[hh.2];exact hW.drew⟩
 have HHs:Hid (∀ b,(decide (0<=pg) && decide (pg<P.count))=b->∀ W,Below w0.heap.size w0 W->Calls Tryz.prog 48 #[.pointer (some ⟨p,0,none⟩),.int .i64 pg] W fun e w'=>e=.returned (.bool b)/\w'=W):=φ fun b hb W hW=>(phas_any p pg P.count W (cell_of_row _ _ 7 _ _ _ (R0.out.keep hW (Nat.le_refl _)).pf.blk)).mono fun e w' hh=>⟨by rw[hh.1,hb],hh.2⟩
 have H:=φ h;have HE:=φ hE;clear hw0 hx0 hb0 h hE;have HB:Hid True:=φ trivial;have HDn:Hid True:=φ trivial;go_wp2_with (first|(go_at_call 46;refine HTh.out.mono ?_;rintro e w1 ⟨rfl,hw1⟩;subst hw1)|(go_at_call 47;refine (HEn.out _ (by first|exact Below.refl _ _|exact (Below.refl _ _).drew)).mono ?_;rintro e w2 ⟨rfl,hb2⟩;have B2:=φ hb2;have c0x:w2.cell? ⟨w.heap.size,0,none⟩=some (.int .i64 ls):=(hb2.cell (χ c0)).trans c0;have c3x:w2.cell? ⟨w.heap.size,3,none⟩=some (.int .i64 nx):=(hb2.cell (χ c3)).trans c3;have c5x:w2.cell? ⟨w.heap.size,5,none⟩=some (.int .i64 pg):=(hb2.cell (χ c5)).trans c5;have p5x:w2.cell? ⟨p,5,none⟩=some (.pointer (some ⟨l,0,none⟩)):=(hb2.cell (χ p5)).trans p5;have p7x:w2.cell? ⟨p,7,none⟩=some (.int .i64 P.count):=(hb2.cell (χ p7)).trans p7;clear hb2)|(go_at_call 48;refine (HHs.out _ HB.out _ (by first|exact B2.out|exact B2.out.drew)).mono ?_;rintro e w1 ⟨rfl,hw1⟩;subst hw1)|(go_at_call 49;refine (HDn.out _ (by first|exact B2.out|exact B2.out.drew|exact δ B2.out _)).mono ?_;rintro e w3 hd;obtain⟨x,V3,sv3,hand3,Q3,B3,Us3,g1,g2,g3,g4,rfl⟩:=hd;have G1:=φ g1;have G2:=φ g2;have G3:=φ g3;have G4:=φ g4;clear g1 g2 g3 g4));go_ret2;exact DoG.stay H.out X0.out.below HX.out
end
end Go.Proofs.YtohlkkannjifmaaGreatDoor
