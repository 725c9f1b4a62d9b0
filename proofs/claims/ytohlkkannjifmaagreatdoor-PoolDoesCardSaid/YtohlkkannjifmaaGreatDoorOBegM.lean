import Derived.Test.YtohlkkannjifmaaGreatDoorODoesE2
import Derived.Test.YtohlkkannjifmaaGreatDoorODoesT
import Derived.Test.YtohlkkannjifmaaGreatDoorODoesS
import Derived.Test.YtohlkkannjifmaaGreatDoorODoesV
import Derived.Test.YtohlkkannjifmaaGreatDoorSteps
namespace Go.Proofs.YtohlkkannjifmaaGreatDoor
section
open Go.RowKit Go.Shelf
theorem does_any (base gb mb n K d l p:Nat) (s:StP) (m:MdP) (x:RecAt) (w:World) (h:DS base w gb mb n K d l p s m) (hl:LastV m.V s.c n) (hV:s.V=m.V) (hri:RecI w.heap.size w x.r x.ka x.oa x.na x.da x.pa x.kc x.oc x.nc x.dc x.pc) (l1:x.r.key.length+x.r.old.length+x.r.new.length<=2000) (l2:x.r.dirty.length+x.r.opn.length<=300)
  (hout:∀ a b o s',(a=x.ka∨a=x.oa∨a=x.na∨a=x.da∨a=x.pa)->a=some (⟨b,o,s'⟩:Addr)->¬ s.S b/\¬ m.T mb n b/\b<w.heap.size) (hK:K<=90000000) :
  Calls Tryz.prog 77 #[.pointer (some ⟨gb,0,none⟩),.pointer (some ⟨mb,0,none⟩),recV x.r x.ka x.oa x.na x.da x.pa x.kc x.oc x.nc x.dc x.pc] w (DoesG base gb mb n K d l p s w):=by
 by_cases h6:x.r.kind=6
 ·by_cases hn:x.r.next=x.r.page
  ·exact does_same base gb mb n K d l p s m x w h hl hV hri l1 l2 hout hK ⟨h6,hn⟩
  ·exact does_diff base gb mb n K d l p s m x w h hl hV hri l1 l2 hout hK ⟨h6,hn⟩
 ·by_cases h1:x.r.kind=1∨x.r.kind=2
  ·exact does_turn base gb mb n K d l p s m x w h hl hV hri l1 l2 hout hK h1
  ·exact does_other base gb mb n K d l p s m x w h hl hV hri l1 l2 hout hK ⟨h6,fun e=>h1 (.inl e),fun e=>h1 (.inr e)⟩
end
section
open Go.RowKit Go.Shelf
variable {D:DK} {n:Int} {c:Int->List UInt8} {L:LK} {K d l p:Nat} {S:Nat->Prop} {P:PK} {w:World}
theorem clean_good (h:Well D L P) (hp:Pages P D c) (h0:0<=n) (h1:n<P.count) {x:Int×PK×LK×DK} (hx:CleanP P n L D x) :
  x.1=0/\Kept D L P x.2.2.2 x.2.2.1 x.2.1/\x.2.2.2.latest (P.first+n)=c n/\∀ f∈x.2.1.frames,f.dirty=true->f.page≠n:=by
 have hrefl:Kept D L P D L P:=⟨h,CoreEq.refl L,fun _ _ _ h=>h,rfl,rfl,rfl,Nat.le_refl _⟩
 have hc:=(hp n h0 h1).1
 cases hx with
 | away hn =>
  refine⟨rfl,hrefl,?_,fun f hf _=>hn f hf⟩;rcases hc with ⟨f,hf,e,-⟩|⟨-,e⟩
  ·exact absurd e (hn f hf)
  ·exact e
 | clean i hi hpg hd =>
  have hgi:P.frames[i]? = some (P.frames.getD i fr0):=by rw[List.getD_eq_getElem?_getD,List.getElem?_eq_getElem hi];rfl
  have hfb:=(h.cont_at hgi (b:=c n)).1 (by rw[hpg];exact hc);have hcl:=h.cl _ (List.mem_of_getElem? hgi) hd;rw[hpg,hfb] at hcl;refine⟨rfl,hrefl,hcl,fun f hf hfd e=>?_⟩;obtain⟨j,hj⟩:=List.mem_iff_getElem?.1 hf;have hij:=h.uniq hj hgi (by rw[e,hpg]);subst hij;rw[hgi] at hj
  cases hj
  rw[hd] at hfd
  cases hfd
 | write i hi hpg hd =>
  have hgi:P.frames[i]? = some (P.frames.getD i fr0):=by rw[List.getD_eq_getElem?_getD,List.getElem?_eq_getElem hi];rfl
  have hfb:=(h.cont_at hgi (b:=c n)).1 (by rw[hpg];exact hc);obtain⟨P',L',D',e,hP,hk⟩:=write_well h hgi;rw[e];have hnew:P'.frames[i]? = some { P.frames.getD i fr0 with dirty:=false,first:=0 }:=by rw[hP];exact List.getElem?_set_self hi
  have hcl:=hk.well.cl _ (List.mem_of_getElem? hnew) rfl;rw[show (P'.first:Int)=P.first by rw[hP]] at hcl;refine⟨rfl,hk,?_,fun f hf hfd e2=>?_⟩
  ·show D'.latest (P.first+n)=c n;have hcl':D'.latest (P.first+(P.frames.getD i fr0).page)=(P.frames.getD i fr0).b:=hcl;rw[hpg] at hcl';rw[<- hfb];exact hcl'
  ·obtain⟨j,hj⟩:=List.mem_iff_getElem?.1 hf;have hij:=hk.well.uniq hj hnew (by rw[e2];exact hpg.symm);subst hij;rw[hnew] at hj
   cases hj
   cases hfd
theorem Rig.clean (h:Rig S w d l p K D L P c) (hn:0<=n/\n<P.count) (hK:K<=800000000) :
  Calls Tryz.prog 19 #[.pointer (some ⟨p,0,none⟩),.int .i64 n] w fun e w'=>∃ D' L' P',e=.returned (.int .i64 0)/\Rig S w' d l p (K+8193) D' L' P' c/\CleanP P n L D (0,P',L',D')/\Kept D L P D' L' P'/\D'.latest (P.first+n)=c n/\(∀ f∈P'.frames,f.dirty=true->f.page≠n)/\Trn S w w':=by
 obtain⟨U,V,ds,do_,sv,m,hand,Q,B,Us,hr,hA⟩:=h.rg;refine (clean_any U V d ds do_ l p K D L P sv m hand Q B Us n w hr hn hK).mono ?_;rintro e w' ⟨x,hx,rfl,hr',ht⟩;obtain⟨k1,k2,k3,k4⟩:=clean_good h.well h.pg hn.1 hn.2 hx;obtain⟨x1,P',L',D'⟩:=x;dsimp only at *;subst k1;have hT:Trn S w w':=ht.mono fun g hg=>.inl (hA g hg)
 exact⟨D',L',P',rfl,⟨⟨U,V,ds,do_,sv,m,hand,Q,B,Us,hr',hA⟩,fun g hg=>Nat.lt_of_lt_of_le (h.lt g hg) hT.size,k2.well,h.pg.kept k2⟩,hx,k2,k3,k4,hT⟩
theorem Rig.dread (h:Rig S w d l p K D L P c) {i:Int} (hi:0<=i/\i<P.count) (hd:P.first+P.count<=100000) :
  Calls Tryz.prog 34 #[.pointer (some ⟨d,0,none⟩),.int .i64 (P.first+i)] w fun e w'=>∃ v,e=.returned (.tuple #[v,.int .i64 0])/\OB w.heap.size w' v (D.latest (P.first+i))/\Below w.heap.size w w':=by
 obtain⟨U,V,ds,do_,sv,m,hand,Q,B,Us,hr,hA⟩:=h.rg;obtain⟨k,hl⟩:=h.well.lo;have hfc:=h.well.fc;have hdn:=h.well.dn;have hf1:=hl.f1;have hc1:=hl.c1;have hm:D.may (P.first+i)=0:=h.well.up.may (by omega) (by omega);refine (dread_any d ds do_ K D (P.first+i) w hr.dk (by omega) (by omega)).mono ?_;rintro e w' (⟨h1,-⟩|⟨-,v,rfl,ho,hb⟩)
 ·exact absurd hm h1
 ·exact⟨v,rfl,ho,hb⟩
end
section
open Go.RowKit Go.Shelf
variable {m:MdP} {K base d gb l mb n p:Nat} {s:StP} {w:World}
structure Same (s s':StP):Prop where
 c:s'.c=s.c
 V:s'.V=s.V
 core:CoreEq s'.L s.L
 most:s'.P.most=s.P.most
theorem DS.read {base:Nat} {w:World} {gb mb n K d l p:Nat} {s:StP} {m:MdP} (h:DS base w gb mb n K d l p s m) {i:Int} (hi:0<=i/\i<n) (hK:K<=800000000) :
  Calls Tryz.prog 13 #[.pointer (some ⟨p,0,none⟩),.int .i64 i] w fun e w'=>∃ s' v,e=.returned (.tuple #[v,.int .i64 0])/\OB w.heap.size w' v (s.c i)/\DS base w' gb mb n (K+10000) d l p s' m/\Same s s'/\Below base w w'/\Mv s.S s'.S w w':=by
 refine (h.rig.read (n:=i) ⟨hi.1,by rw[h.cnt];exact hi.2⟩ hK).mono ?_;rintro e w' ⟨D',L',P',S',v,j,rfl,ho,hv,hr,hk,hf,hm⟩;have hst:=h.std.frame h.rig.well hi.1 (by rw[h.cnt];exact hi.2) hf;exact⟨⟨S',D',L',P',s.c,s.V⟩,v,rfl,ho,h.move (s':=⟨S',D',L',P',s.c,s.V⟩) hr hm hk.count hk.first hst (by omega),⟨rfl,rfl,hk.core,hk.most⟩,hm.trn.out (fun g hg=>h.lo g (.inl hg)) h.bs,hm⟩
theorem DS.clean {base:Nat} {w:World} {gb mb n K d l p:Nat} {s:StP} {m:MdP} (h:DS base w gb mb n K d l p s m) {i:Int} (hi:0<=i/\i<n) (hK:K<=800000000) :
  Calls Tryz.prog 19 #[.pointer (some ⟨p,0,none⟩),.int .i64 i] w fun e w'=>∃ s',e=.returned (.int .i64 0)/\DS base w' gb mb n (K+8193) d l p s' m/\Same s s'/\s'.D.latest (40+i)=s.c i/\(∀ f∈s'.P.frames,f.dirty=true->f.page≠i)/\Below base w w'/\Mv s.S s'.S w w':=by
 refine (h.rig.clean (n:=i) ⟨hi.1,by rw[h.cnt];exact hi.2⟩ hK).mono ?_;rintro e w' ⟨D',L',P',rfl,hr,hx,hk,hl,hd,ht⟩;have hst:=h.std.clean h.rig.well hx;rw[h.fst] at hl;exact⟨⟨s.S,D',L',P',s.c,s.V⟩,rfl,h.move (s':=⟨s.S,D',L',P',s.c,s.V⟩) hr ⟨ht,fun g hg=>.inl hg⟩ hk.count hk.first hst (by omega),⟨rfl,rfl,hk.core,hk.most⟩,hl,hd,ht.out (fun g hg=>h.lo g (.inl hg)) h.bs,ht,fun g hg=>.inl hg⟩
theorem DS.force (h:DS base w gb mb n K d l p s m) (hK:K<=800000000) :
  Calls Tryz.prog 20 #[.pointer (some ⟨l,0,none⟩)] w fun e w'=>∃ s',e=.returned (.int .i64 0)/\DS base w' gb mb n (K+8192) d l p s' m/\Same s s'/\Below base w w'/\Mv s.S s'.S w w':=by
 refine (h.rig.force (by omega)).mono ?_;rintro e w' ⟨D',L',rfl,hr,hk,hse,hl,ht⟩;have he:=hk.core.end_;have hs0:=h.std.se;have hst:Std s.V D' L' s.P:=h.std.log (by rw[hse,he];exact hs0) (by rw[he];exact Int.le_refl _) (by rw[hse];exact Int.le_refl _) hl;exact⟨⟨s.S,D',L',s.P,s.c,s.V⟩,rfl,h.move (s':=⟨s.S,D',L',s.P,s.c,s.V⟩) hr ⟨ht,fun g hg=>.inl hg⟩ rfl rfl hst (by omega),⟨rfl,rfl,hk.core,rfl⟩,ht.out (fun g hg=>h.lo g (.inl hg)) h.bs,ht,fun g hg=>.inl hg⟩
theorem DS.append (h:DS base w gb mb n K d l p s m) (N:Nat) (r:RecV) (ka oa na da pa:Option Addr) (kc oc nc dc pc:Nat) (hP:PtE N w ka oa na da pa kc oc nc dc pc r.key r.old r.new r.dirty r.opn) (hf:r.Fit) (hK:K<=800000000) :
  Calls Tryz.prog 11 #[.pointer (some ⟨l,0,none⟩),recV r ka oa na da pa kc oc nc dc pc] w fun e w'=>∃ s',e=.returned (.tuple #[.int .i64 (s.L.append r).1,.int .i64 (s.L.append r).2.1])/\DS base w' gb mb n (K+1) d l p s' m/\s'.c=s.c/\s'.V=s.V/\s'.P=s.P/\Mv s.S s'.S w w'/\Below base w w':=by
 refine (h.rig.append N r ka oa na da pa kc oc nc dc pc hP hf (by omega)).mono ?_;rintro e w' ⟨S',rfl,hr,hm⟩;obtain⟨k,hl⟩:=h.rig.well.lo;obtain⟨a1,a2⟩:=append_safe hl r;obtain⟨k',hl'⟩:=hr.well.lo;have hst:Std s.V s.D (s.L.append r).2.2 s.P:=h.std.log a1 a2 (safe_le_end hl') (fun _ _=>rfl);exact⟨⟨S',s.D,(s.L.append r).2.2,s.P,s.c,s.V⟩,rfl,h.move (s':=⟨S',s.D,(s.L.append r).2.2,s.P,s.c,s.V⟩) hr hm rfl rfl hst (by omega),rfl,rfl,rfl,hm,hm.trn.out (fun g hg=>h.lo g (.inl hg)) h.bs⟩
theorem DS.dread {base:Nat} {w:World} {gb mb n K d l p:Nat} {s:StP} {m:MdP} (h:DS base w gb mb n K d l p s m) {i:Int} (hi:0<=i/\i<n) :
  Calls Tryz.prog 34 #[.pointer (some ⟨d,0,none⟩),.int .i64 (40+i)] w fun e w'=>∃ v,e=.returned (.tuple #[v,.int .i64 0])/\OB w.heap.size w' v (s.D.latest (40+i))/\DS base w' gb mb n K d l p s m/\Below w.heap.size w w':=by
 have hn:=h.n1;have hr:=h.rig.dread (i:=i) ⟨hi.1,by rw[h.cnt];exact hi.2⟩ (by rw[h.fst,h.cnt];omega);rw[h.fst] at hr;refine hr.mono ?_;rintro e w' ⟨v,rfl,ho,hb⟩;exact⟨v,rfl,ho,h.below hb,hb⟩
end
section
set_option maxHeartbeats 2000000
set_option maxRecDepth 100000
open Go.RowKit Go.Shelf
variable {D:DK} {n:Int} {c:Int->List UInt8} {L:LK} {K d l p:Nat} {S:Nat->Prop} {P:PK} {w:World}
theorem Rig.read_no (h:Rig S w d l p K D L P c) (hn:(decide (0<=n) && decide (n<P.count))=false) :
  Calls Tryz.prog 13 #[.pointer (some ⟨p,0,none⟩),.int .i64 n] w fun e w'=>e=.returned (.tuple #[.slice none 0 0,.int .i64 6])/\∃ q,w'=w.drewN q:=by
 obtain⟨U,V,ds,do_,sv,m,hand,Q,B,Us,hr,hA⟩:=h.rg;have HTh:Hid (Calls Tryz.prog 46 #[.pointer (some ⟨p,0,none⟩)] w fun e w'=>e=.returned (.bool true)/\w'=w):=φ (pthere_any p d w (cell_of_row _ _ 4 _ _ _ hr.pf.blk));have HHs:Hid (Calls Tryz.prog 48 #[.pointer (some ⟨p,0,none⟩),.int .i64 n] w fun e w'=>e=.returned (.bool false)/\w'=w):=φ ((phas_any p n P.count w (cell_of_row _ _ 7 _ _ _ hr.pf.blk)).mono fun e w' hh=>⟨by rw[hh.1,hn],hh.2⟩);clear h hr hA hn;go_enter Tryz.func13,Tryz.ntmps13;go_wp2_with (first|(go_at_call 46;refine HTh.out.mono ?_;rintro e w1 ⟨rfl,hw1⟩;subst hw1)|(go_at_call 48;refine HHs.out.mono ?_;rintro e w1 ⟨rfl,hw1⟩;subst hw1));go_ret2;exact⟨rfl,0,rfl⟩
theorem Rig.clean_no (h:Rig S w d l p K D L P c) (hn:(decide (0<=n) && decide (n<P.count))=false) :
  Calls Tryz.prog 19 #[.pointer (some ⟨p,0,none⟩),.int .i64 n] w fun e w'=>e=.returned (.int .i64 6)/\∃ q,w'=w.drewN q:=by
 obtain⟨U,V,ds,do_,sv,m,hand,Q,B,Us,hr,hA⟩:=h.rg;have HTh:Hid (Calls Tryz.prog 46 #[.pointer (some ⟨p,0,none⟩)] w fun e w'=>e=.returned (.bool true)/\w'=w):=φ (pthere_any p d w (cell_of_row _ _ 4 _ _ _ hr.pf.blk));have HHs:Hid (Calls Tryz.prog 48 #[.pointer (some ⟨p,0,none⟩),.int .i64 n] w fun e w'=>e=.returned (.bool false)/\w'=w):=φ ((phas_any p n P.count w (cell_of_row _ _ 7 _ _ _ hr.pf.blk)).mono fun e w' hh=>⟨by rw[hh.1,hn],hh.2⟩);clear h hr hA hn;go_enter Tryz.func19,Tryz.ntmps19;go_wp2_with (first|(go_at_call 46;refine HTh.out.mono ?_;rintro e w1 ⟨rfl,hw1⟩;subst hw1)|(go_at_call 48;refine HHs.out.mono ?_;rintro e w1 ⟨rfl,hw1⟩;subst hw1));go_ret;exact⟨rfl,0,rfl⟩
end
section
set_option maxHeartbeats 4000000
set_option maxRecDepth 100000
open Go.RowKit Go.Shelf
theorem open_bad (d s o k:Nat) (D:DK) (w:World) (hD:DiskR w d s o k D) (h2:D.n<40) :
  Calls Tryz.prog 23 #[.pointer (some ⟨d,0,none⟩),.int .i64 0,.int .i64 40,.int .i64 1,.int .i64 1] w fun e w'=>e=.returned (.tuple #[.pointer none,.int .i64 2])/\w'=w:=by
 have hn1:=hD.ok.n1;have HSec:Hid (Calls Tryz.prog 70 #[.pointer (some ⟨d,0,none⟩)] w fun e w'=>e=.returned (.int .i64 D.n)/\w'=w):=φ (sectors_any d s o k D w hD);have g2:(D.n == 0)=false:=by simp;omega
 have g3:decide ((0:Int) > D.n)=false:=decide_eq_false (by omega);have g4:decide ((40:Int) > D.n)=true:=decide_eq_true (by omega);have g5:IntKind.i64.wrap D.n=D.n:=IntWalk.i64_in _ (by omega);clear hD;generalize D.n=n at *;go_enter Tryz.func23,Tryz.ntmps23;go_wp2_with (first|(go_at_call 70;refine HSec.out.mono ?_;rintro e w1 ⟨rfl,hw1⟩;replace hw1:=hw1.symm;subst hw1));go_ret2;exact⟨rfl,rfl⟩
theorem begin_bad (pages frames:Int) (w:World) (hp:-30<=pages/\pages<=40) (h:pages<1∨frames<4∨32<frames) :
  Calls Tryz.prog 8 #[.int .i64 pages,.int .i64 frames] w fun e w'=>∃ g,e=.returned (.pointer (some ⟨g,0,none⟩))/\w'.cell? ⟨g,2,none⟩=some (.pointer none)/\Below w.heap.size w w':=by
 obtain⟨n,hn⟩:∃ n,n=40+pages:=⟨_,rfl⟩
 have e0:IntKind.i64.wrap (40+pages)=n:=by rw[hn];exact IntWalk.i64_in _ (by omega)
 have HDk:=φ (newDisk_any n w (by omega) (by omega));have HP2:=φ hp;have HH:=φ h;have HNb:Hid (10<=n/\n<=80):=φ (by omega);by_cases h40:40<=n
 ·have HN:=φ h40;clear h40 hp h hn;go_enter Tryz.func8,Tryz.ntmps8;go_wp2_with (first
   | (go_at_call 35;refine HDk.out.mono ?_;rintro e w1 ⟨rfl,hd,hb,hs⟩;have D1:=φ hd;have B1:=φ hb;have HO:=φ (open_fresh (w.heap.size+2) w.heap.size (w.heap.size+1) 0 (DK.fresh n) 40 w1 hd (by have h9:=HN.out;unfold DK.may DK.fresh;simp;omega) rfl (by omega) HN.out);clear hd hb hs)
   | (go_at_call 23;refine HO.out.mono ?_;rintro e w2 ⟨l,U,rfl,hl,hb,hU⟩;have B2:=φ hb;have D2:=φ (D1.out.keep (w':=w2) fun i hi=>hb.block i (D1.out.lt hi));have HP:=φ (newpool_bad (some ⟨w.heap.size+2,0,none⟩) (some ⟨l,0,none⟩) n (LK.fresh 40).end_ 40 pages frames w2 (sectors_any _ _ _ 0 (DK.fresh n) w2 D2.out) ((end_any w2 U l _ 0 _ hl).mono fun _ _ h=>⟨h.1,by rw[h.2];exact (Below.refl _ w2).drew⟩) (by have:=HNb.out;omega) (by have:=HP2.out;omega) (by have:=HH.out;omega));clear hl hb hU)
   | (go_at_call 24;refine HP.out.mono ?_;rintro e w3 ⟨rfl,hb⟩;have B3:=φ hb;clear hb))
  go_ret;have s1:=B1.out.size;have s2:=B2.out.size;have hb13:Below w.heap.size w w3:=(B1.out.trans (B2.out.mono s1)).trans (B3.out.mono (Nat.le_trans s1 s2));exact⟨w3.heap.size,rfl,cell_of_row _ _ 2 _ _ _ (heap_alloc_last w3 _),hb13.alloc hb13.size _⟩
 ·have HN:=φ h40;clear h40 hp h hn;go_enter Tryz.func8,Tryz.ntmps8;go_wp2_with (first
   | (go_at_call 35;refine HDk.out.mono ?_;rintro e w1 ⟨rfl,hd,hb,hs⟩;have D1:=φ hd;have B1:=φ hb;have HO:=φ (open_bad (w.heap.size+2) w.heap.size (w.heap.size+1) 0 (DK.fresh n) w1 hd (by have h9:=HN.out;show n<40;omega));clear hd hb hs)
   | (go_at_call 23;refine HO.out.mono ?_;rintro e w2 ⟨rfl,hw2⟩;subst hw2;have HP:=φ (newpool_bad (some ⟨w.heap.size+2,0,none⟩) none n 0 40 pages frames w2 (sectors_any _ _ _ 0 (DK.fresh n) w2 D1.out) (end_nil w2) (by have:=HNb.out;omega) (by have:=HP2.out;omega) (.inr (.inl rfl))))
   | (go_at_call 24;refine HP.out.mono ?_;rintro e w3 ⟨rfl,hb⟩;have B3:=φ hb;clear hb))
  go_ret;have s1:=B1.out.size;have hb13:Below w.heap.size w w3:=B1.out.trans (B3.out.mono s1);exact⟨w3.heap.size,rfl,cell_of_row _ _ 2 _ _ _ (heap_alloc_last w3 _),hb13.alloc hb13.size _⟩
end
section
open Go.RowKit Go.Shelf
variable {m:MdP} {K base d gb l mb n p:Nat} {s:StP} {w:World}
def z512:List UInt8:=List.replicate 512 0
def V0:Int->List (List UInt8):=fun _=>[z512]
theorem ModE.page {w':World} {Mr:Nat->Prop} {i:Nat} {vs:Value} {X:List SlAt} {A:Nat->List VerAt} (h:ModE w Mr mb i (fun j=>V0 j) vs (.slice none 0 0) X A []) (b1 b2 g c:Nat)
  (hrow:slE.Own 0 w' (.slice (some ⟨g,0,none⟩) (i+1) c) (X++[(some ⟨b2,0,none⟩,1,1)])) (hk:∀ k,k<w.heap.size->vs.ownBlock≠some k->w'.heap[k]? = w.heap[k]?) (hs:w.heap.size<=w'.heap.size)
  (hg:vs.ownBlock=some g∨w.heap.size<=g) (h1:w.heap.size<=b1/\b1<w'.heap.size) (h2:w.heap.size<=b2) (h12:b1≠b2) (g1:g≠b1) (_g2:g≠b2)
  (hr1:RB w'.heap.size w' (some ⟨b1,0,none⟩) 512 512 z512) (hr2:verE.Own 0 w' (.slice (some ⟨b2,0,none⟩) 1 1) [(some ⟨b1,0,none⟩,512)]) :
  ModE (w'.setCell ⟨mb,0,none⟩ (.slice (some ⟨g,0,none⟩) (i+1) c)) (fun b=>Mr b∨b=b1) mb (i+1) (fun j=>V0 j) (.slice (some ⟨g,0,none⟩) (i+1) c) (.slice none 0 0) (X++[(some ⟨b2,0,none⟩,1,1)]) (fun j=>if j=i then [(some ⟨b1,0,none⟩,512)] else A j) []:=by
 have rv:∀ j,j<i->∀ k,vs.ownBlock=some k->(slV (X.getD j default)).ownBlock≠some k:=fun j hj k e1 e2=>own_apart (h.prow j hj) h.vrow (by decide) e2 e1
 have rm:∀ j,j<i->(slV (X.getD j default)).ownBlock≠some mb:=fun j hj=>(h.prow j hj).ne_model (by decide) h.blk
 have vm:vs.ownBlock≠some mb:=h.vrow.ne_model (by decide) h.blk;have mlt:=ξ h.blk;have K:∀ k,k<w.heap.size->k≠mb->vs.ownBlock≠some k->(w'.setCell ⟨mb,0,none⟩ (.slice (some ⟨g,0,none⟩) (i+1) c)).heap[k]? = w.heap[k]?:=fun k k0 k1 k2=>(set_other w' mb 0 _ k1).trans (hk k k0 k2)
 have N:∀ k,k≠mb->(w'.setCell ⟨mb,0,none⟩ (.slice (some ⟨g,0,none⟩) (i+1) c)).heap[k]? = w'.heap[k]?:=fun k k1=>set_other w' mb 0 _ k1
 have gl:∀ k,k<w.heap.size->vs.ownBlock≠some k->g≠k:=fun k k0 k1 e=>by
  rcases hg with h1|h1
  ·exact k1 (by rw[h1,e])
  ·omega
 have gm:g≠mb:=gl mb mlt vm;have sz:(w'.setCell ⟨mb,0,none⟩ (.slice (some ⟨g,0,none⟩) (i+1) c)).heap.size=w'.heap.size:=set_size _ _ _;have km:w'.heap[mb]? = some (modelObj vs (.slice none 0 0)):=(hk mb mlt vm).trans h.blk;unfold modelObj at km;have xl:=h.xl;have gi:(X++[(some (⟨b2,0,none⟩:Addr),1,1)]).getD i default=(some ⟨b2,0,none⟩,1,1):=getD_last X _ _ i xl.symm;have gj:∀ j,j<i->(X++[(some (⟨b2,0,none⟩:Addr),1,1)]).getD j default=X.getD j default:=fun j hj=>getD_left X _ _ j (by omega)
 have hv1:∀ j:Nat,(V0 (j:Int)).length=1:=fun _=>rfl
 refine⟨set_at km 0 _,Tx.rows_keep hrow fun k e=>?_,by rw[List.length_append];simp[xl],fun j hj=>?_,fun j hj=>?_,fun j hj q hq=>?_,fun j hj q hq b' o s e=>?_,Ek.Own.nil recE 0 _,fun x hx=>(by cases hx),fun x hx=>(by cases hx),fun k hk'=>?_,fun j q hj hq hne k e1 e2=>?_⟩
 ·have e':g=k:=Option.some.inj e;subst e';exact N g gm
 ·by_cases hji:j=i
  ·subst hji;rw[gi,if_pos rfl];exact Tx.rows_keep hr2 fun k e=>by
    have e':b2=k:=Option.some.inj e;subst e';exact N b2 (by omega)
  ·rw[gj j (by omega),if_neg hji];exact Tx.rows_keep (h.prow j (by omega)) fun k e=>K k (Tx.rows_ge (h.prow j (by omega)) k e).2 (fun e2=>rm j (by omega) (by rw[e,e2])) (fun e2=>rv j (by omega) k e2 e)
 ·by_cases hji:j=i
  ·subst hji;rw[if_pos rfl];rfl
  ·rw[if_neg hji];exact h.al j (by omega)
 ·by_cases hji:j=i
  ·subst hji;have hq0:q=0:=by have:=hv1 j;omega
   subst hq0;simp only[if_true];show RB _ _ (some ⟨b1,0,none⟩) 512 512 z512;rw[sz];exact RB.of_block hr1 fun b o s e _ _=>by
    have e':b1=b:=congrArg Addr.block (Option.some.inj e);exact N b (by omega)
  ·rw[if_neg hji];refine (RB.of_block (h.byt j (by omega) q hq) fun b o s e _ _=>?_).mono (by rw[sz];exact hs);have hm:=h.mr b (h.bmr j (by omega) q hq b o s e);exact K b hm.1 hm.2.1 hm.2.2.1
 ·by_cases hji:j=i
  ·subst hji;have hq0:q=0:=by have:=hv1 j;omega
   subst hq0;simp only[if_true] at e;have e':b1=b':=congrArg Addr.block (Option.some.inj e);exact .inr e'.symm
  ·rw[if_neg hji] at e;exact .inl (h.bmr j (by omega) q hq b' o s e)
 ·rw[sz];rcases hk' with h3|h3
  ·obtain⟨m1,m2,m3,m4,m5⟩:=h.mr k h3;refine⟨by omega,m2,fun e=>gl k m1 m3 (Option.some.inj e),m4,fun j hj e=>?_⟩;by_cases hji:j=i
   ·subst hji;rw[gi] at e;have e':b2=k:=Option.some.inj e;omega
   ·rw[gj j (by omega)] at e;exact m5 j (by omega) e
  ·subst h3;refine⟨h1.2,by omega,fun e=>g1 (Option.some.inj e),(fun e=>by cases e),fun j hj e=>?_⟩;by_cases hji:j=i
   ·subst hji;rw[gi] at e;exact h12 (Option.some.inj e).symm
   ·rw[gj j (by omega)] at e;have:=(Tx.rows_ge (h.prow j (by omega)) k e).2;omega
 ·by_cases hji:j=i
  ·subst hji;rw[gi] at e1;have e1':b2=k:=Option.some.inj e1;rw[gj q (by omega)] at e2;have:=(Tx.rows_ge (h.prow q (by omega)) k e2).2;omega
  ·rw[gj j (by omega)] at e1;by_cases hqi:q=i
   ·subst hqi;rw[gi] at e2;have e2':b2=k:=Option.some.inj e2;have:=(Tx.rows_ge (h.prow j (by omega)) k e1).2;omega
   ·rw[gj q (by omega)] at e2;exact h.dis j q (by omega) (by omega) hne k e1 e2
theorem ModE.none_ (hb:w.heap[mb]? = some (modelObj (.slice none 0 0) (.slice none 0 0))):ModE w (fun _=>False) mb 0 (fun j=>V0 j) (.slice none 0 0) (.slice none 0 0) [] (fun _=>[]) [] :=
 ⟨hb,Ek.Own.nil slE 0 w,rfl,fun j hj=>absurd hj (Nat.not_lt_zero j),fun j hj=>absurd hj (Nat.not_lt_zero j),fun j hj=>absurd hj (Nat.not_lt_zero j),fun j hj=>absurd hj (Nat.not_lt_zero j),Ek.Own.nil recE 0 w,fun x hx=>(by cases hx),fun x hx=>(by cases hx),fun k hk=>hk.elim,fun j q hj=>absurd hj (Nat.not_lt_zero j)⟩
theorem fresh_std (fr:Nat) (pages:Int):Std V0 (DK.fresh (40+pages)) (LK.fresh 40) (PK.fresh fr 40 pages) :=
 ⟨fun i _ _=>⟨List.mem_singleton.2 rfl,by show ((lsnL z512:Nat):Int)<(LK.fresh 40).safe;decide +kernel⟩,fun f hf=>(by cases hf),fun f hf=>(by cases hf),by decide +kernel⟩
theorem clean_latest {D:DK} {L:LK} {P:PK} {c:Int->List UInt8} (h:Well D L P) (hp:Pages P D c) {n:Int} (h0:0<=n) (h1:n<P.count) (hd:∀ f∈P.frames,f.dirty=true->f.page≠n):D.latest (P.first+n)=c n:=by
 rcases (hp n h0 h1).1 with ⟨f,hf,e,eb⟩|⟨-,e⟩
 ·have hfd:f.dirty=false:=by
   cases hx:f.dirty with
   | false=>rfl
   | true=>exact absurd e (hd f hf hx)
  have:=h.cl f hf hfd;rw[e,eb] at this;exact this
 ·exact e
theorem dirty_tells (h:DS base w gb mb n K d l p s m) {Y:List (Fin 8192×Int)} (hp:Y.Perm (dirtyL s.P.frames)) :
  ∀ x∈Y,(x.1.val:Int)<n/\1<=x.2/\x.2<=(lsnL (s.c x.1.val):Int)/\∃ f∈s.P.frames,f.dirty=true/\f.page=x.1.val:=fun x hx=>by
 have hm2:=hp.subset hx;unfold dirtyL at hm2;obtain⟨f,hf,hfe⟩:=List.mem_map.1 hm2;obtain⟨hf1,hf2⟩:=List.mem_filter.1 hf;have hr:=h.rig.well.rng f hf1;have h40:=h.cnt;have hn:=h.n1;have hpg:=toD_page (f:=f) hr.1 (by omega);obtain⟨i,hi⟩:=List.mem_iff_getElem?.1 hf1;have hb:=(h.rig.well.cont_at hi).1 (h.rig.pg f.page hr.1 hr.2.1).1;have hd:=h.std.drt f hf1 hf2;have e2:(toD f).2=f.first:=rfl
 rw[<- hfe,e2,hpg];exact⟨by omega,hd.1,by rw[<- hb];exact hd.2,f,hf1,hf2,rfl⟩
theorem dirty_all (h:DS base w gb mb n K d l p s m) {Y:List (Fin 8192×Int)} (hp:Y.Perm (dirtyL s.P.frames)) {i:Int} (hi:∀ x∈Y,(x.1.val:Int)≠i):∀ f∈s.P.frames,f.dirty=true->f.page≠i:=fun f hf hd e=>by
 have hr:=h.rig.well.rng f hf;have h40:=h.cnt;have hn:=h.n1;have hpg:=toD_page (f:=f) hr.1 (by omega);refine hi (toD f) (hp.symm.subset ?_) (by rw[hpg];exact e);unfold dirtyL;exact List.mem_map.2 ⟨f,List.mem_filter.2 ⟨hf,hd⟩,rfl⟩
theorem dirty_rise (h:DS base w gb mb n K d l p s m) {Y:List (Fin 8192×Int)} (hp:Y.Perm (dirtyL s.P.frames)) (hs:Y.Pairwise (fun a b=>a.1.val<=b.1.val)):Y.Pairwise (fun a b=>a.1.val<b.1.val):=by
 have hn:Y.Pairwise (fun a b=>a.1.val≠b.1.val):=by
  refine (hp.pairwise_iff (fun {a b} hab=>Ne.symm hab)).2 ?_;unfold dirtyL;refine List.pairwise_map.2 (List.Pairwise.filter _ (List.Pairwise.imp_of_mem ?_ h.rig.well.dis));intro f g hf hg hne e;have hrf:=h.rig.well.rng f hf;have hrg:=h.rig.well.rng g hg;have h40:=h.cnt;have hn:=h.n1;have h1:=toD_page (f:=f) hrf.1 (by omega);have h2:=toD_page (f:=g) hrg.1 (by omega);exact hne (by rw[<- h1,<- h2,e])
 exact (hs.and hn).imp fun hab=>Nat.lt_of_le_of_ne hab.1 hab.2
end
end Go.Proofs.YtohlkkannjifmaaGreatDoor
