import Derived.Test.YtohlkkannjifmaaGreatDoorOLog5
namespace Go.Proofs.YtohlkkannjifmaaGreatDoor
set_option maxHeartbeats 8000000
set_option maxRecDepth 100000
open Go.RowKit
variable {L:LK} {d k k' l p:Nat} {U:Nat->Prop} {sv tv v:Value} {w w':World}
theorem LV.keep {T:List (Nat×Value×ShV)} (h:LV w U l d k L sv tv T p v) (hb:∀ i,U i->w'.heap[i]? = w.heap[i]?) (hs:w.heap.size<=w'.heap.size):LV w' U l d k L sv tv T p v :=
 ⟨h.sheets,(hb l h.ul).trans h.blk,ωK h.srow fun g e=>hb g (h.us g e),ωK h.trow fun g e=>hb g (h.ut g e),fun x hx=>⟨(hb x.1 (h.ux x hx)).trans (h.shs x hx).blk,ωK (h.shs x hx).body fun g e=>hb g (h.uv x hx g e)⟩,
  ⟨(hb p h.up).trans h.lst.blk,ωK h.lst.body fun g e=>hb g (h.uw g e)⟩,h.pw,h.pl,h.ul,h.us,h.ut,h.ux,h.uv,h.up,h.uw,fun i hi=>Nat.lt_of_lt_of_le (h.lt i hi) hs,h.ok⟩
theorem LV.below {T:List (Nat×Value×ShV)} (h:LV w U l d k L sv tv T p v) (hb:Below w.heap.size w w'):LV w' U l d k L sv tv T p v:=h.keep (fun i hi=>hb.block i (h.lt i hi)) hb.size
theorem LV.mono {T:List (Nat×Value×ShV)} (h:LV w U l d k L sv tv T p v) (hk:k<=k'):LV w U l d k' L sv tv T p v :=
 { h with ok:={ h.ok with lk:=Nat.le_trans h.ok.lk hk } }
theorem LogR.mono (h:LogR w U l d k L) (hk:k<=k'):LogR w U l d k' L:={ h with ok:={ h.ok with lk:=Nat.le_trans h.ok.lk hk } }
theorem LV.view {T:List (Nat×Value×ShV)} (h:LV w U l d k L sv tv T p v) :
  ∃ g cap,sv=.slice (some ⟨g,0,none⟩) (T.length+1) cap/\T.length+1<=cap/\w.cell? ⟨g,T.length,none⟩=some (ptr p):=by
 have hcs:=h.srow;obtain⟨-,⟨-,h0⟩|⟨g,cap,cur,rfl,-,-,hle,-⟩⟩:=h.srow
 ·omega
 refine⟨g,cap,rfl,hle,?_⟩;have:=hcs.cells (g:=g) rfl T.length (ptr p) (by simp);rw[Addr.add_mid,Nat.zero_add] at this;exact this
theorem last_lv (w:World) (U:Nat->Prop) (l d k:Nat) (L:LK) (sv tv:Value) (T:List (Nat×Value×ShV)) (p:Nat) (v:Value) (h:LV w U l d k L sv tv T p v) :
  Calls Tryz.prog 43 #[ptr l] w fun e w'=>e=.returned (ptr p)/\w'=w.drew:=by
 obtain⟨g,cap,rfl,hle,hc⟩:=h.view;have hb:=h.blk;have c5:w.cell? ⟨l,5,none⟩=some (.slice (some ⟨g,0,none⟩) (T.length+1) cap):=by simp[World.cell?,hb]
 have hsz:T.length<=8191:=by
  have h1:=h.ok.ct;have h2:=h.ok.c2;have h3:L.sheets.length=T.length+1:=by rw[h.sheets];simp
  omega
 clear h hb;unfold ptr at *;have e1:IntKind.i64.wrap ((T.length:Int)+1-1)=(T.length:Int):=by rw[IntWalk.i64_in _ (by omega)];omega
 have e2:IntKind.i64.wrap (T.length:Int)=(T.length:Int):=IntWalk.i64_in _ (by omega);have e3:(T.length:Int)<(T.length:Int)+1:=by omega
 generalize T.length=n at *;go_enter Tryz.func43,Tryz.ntmps43;go_wp2_with (fail);go_still (by kernel_rfl);go_wp2_with (fail);go_ret;exact⟨rfl,rfl⟩
def MoreNz (L:LK):Prop:=L.more≠0
theorem own_lo {base n c g o:Nat} {s:Option Nat} {a:Option Addr} {l:List UInt8} (h:OB base w (.slice a n c) l) (e:a=some ⟨g,o,s⟩):base<=g:=by
 obtain⟨-,⟨hv,-⟩|⟨g',cap,cur,hv,hg,-⟩⟩:=h
 ·cases hv;cases e
 ·cases hv;cases e;exact hg
def newSh (L:LK):ShV:=⟨L.last.num+1,0,L.last.body.length,0,[],0,false⟩
theorem app_sheet {W w4:World} {T:List (Nat×Value×ShV)} {sv':Value} (h:LV W U l d k L sv tv T p v) (hm:L.more≠0)
  (hg4:((W.alloc (shObj (newSh L) (.slice none 0 0))).alloc (.cells #[ptr W.heap.size] 100)).grownBy w4 sv.ownBlock) (ho4:w4.ownsRow 0 100 1 sv' (T.length+1+1) ((T.map (fun x=>ptr x.1)++[ptr p])++[ptr W.heap.size]))
  (ha4:sv'.ownBlock=sv.ownBlock∨sv'.ownBlock=some ((W.alloc (shObj (newSh L) (.slice none 0 0))).alloc (.cells #[ptr W.heap.size] 100)).heap.size) :
  w4.heap[l]? = some (logObj L d sv tv)/\LV (w4.setCell ⟨l,5,none⟩ sv') (fun i=>U i∨(W.heap.size<=i/\i<(w4.setCell ⟨l,5,none⟩ sv').heap.size)) l d k L.sheet sv' tv (T++[(p,v,L.last)]) W.heap.size (.slice none 0 0)/\Trn U W (w4.setCell ⟨l,5,none⟩ sv'):=by
 have hs4:=hg4.size;rw[World.size_alloc,World.size_alloc] at hs4;have q0:(W.alloc (shObj (newSh L) (.slice none 0 0))).heap[W.heap.size]? = some (shObj (newSh L) (.slice none 0 0)):=heap_alloc_last W _;have q1:((W.alloc (shObj (newSh L) (.slice none 0 0))).alloc (.cells #[ptr W.heap.size] 100)).heap[W.heap.size]? = some (shObj (newSh L) (.slice none 0 0)):=(alloc_old (by rw[World.size_alloc];omega)).trans q0;have q2:((W.alloc (shObj (newSh L) (.slice none 0 0))).alloc (.cells #[ptr W.heap.size] 100)).heap[l]? = some (logObj L d sv tv):=by
  have:=ξ h.blk;rw[alloc_old (by rw[World.size_alloc];omega),alloc_old this];exact h.blk
 have hown:∀ i,some i=sv.ownBlock->∃ c,W.heap[i]? = some (.cells c 100 (0,0)):=fun i e=>own_tag h.srow e.symm
 have hne:∀ (i:Nat) (c:Array Value) (t:TypeId),((W.alloc (shObj (newSh L) (.slice none 0 0))).alloc (.cells #[ptr W.heap.size] 100)).heap[i]? = some (Obj.cells c t (0,0))->t≠100->w4.heap[i]? = some (Obj.cells c t (0,0)):=fun i c t hi ht =>
  (hg4.block i (ξ hi) (fun e=>by
   obtain⟨c',hc'⟩:=hown i e;have hlt:=ξ hc';rw[<- alloc_old (o:=shObj (newSh L) (.slice none 0 0)) hlt,<- alloc_old (o:=.cells #[ptr W.heap.size] 100) (by rw[World.size_alloc];omega)] at hc';exact tag_ne hi hc' ht)).trans hi
 have hl4:w4.heap[l]? = some (logObj L d sv tv):=hne l _ _ q2 (by decide);have hq4:w4.heap[W.heap.size]? = some (shObj (newSh L) (.slice none 0 0)):=hne _ _ _ q1 (by decide);have hlq:W.heap.size≠l:=fun e=>by have:=ξ h.blk;omega
 have hT:Trn (fun i=>some i=sv.ownBlock∨i=l) W (w4.setCell ⟨l,5,none⟩ sv'):=by
  have t2:=((Trn.refl (fun i=>some i=sv.ownBlock∨i=l) W).alloc (shObj (newSh L) (.slice none 0 0))).alloc (.cells #[ptr W.heap.size] 100);have t3:=t2.grown hg4 fun i e=>.inl (.inl e.symm)
  exact t3.set l 5 sv' (.inl (.inr rfl))
 refine⟨hl4,h.sheet hm hT (Nat.le_refl _) ((set_ne hlq).trans hq4) (set_at hl4 5 sv') (ωK ho4 fun g hg'=>by
   obtain⟨c,hc⟩:=own_tag ho4 hg';exact set_ne (fun e=>by subst e;exact tag_ne hc hl4 (by decide))) (by
   rcases ha4 with e|e
   ·exact .inl e
   ·refine .inr ⟨_,e,?_⟩;rw[World.size_alloc,World.size_alloc];omega),hT.mono fun i hi=>?_⟩
 rcases hi with e|e
 ·exact .inl (h.us i e.symm)
 ·subst e;exact .inl h.ul
def AppP (U:Nat->Prop) (l d k:Nat) (_L:LK) (x:Int×Int×LK) (w:World) (e:Ending) (w':World):Prop :=
 e=.returned (.tuple #[li x.1,li x.2.1])/\∃ U',LogR w' U' l d (k+1) x.2.2/\Trn U w w'/\∀ i,U' i->U i∨w.heap.size<=i
theorem AppP.same {a b:Int} {T:List (Nat×Value×ShV)} (h:LV w U l d k L sv tv T p v) (hb:Below w.heap.size w w'):AppP U l d k L (a,b,L) w (.returned (.tuple #[li a,li b])) w' :=
 ⟨rfl,U,((h.below hb).mono (Nat.le_succ k)).log,(Trn.refl U w).below hb (Nat.le_refl _),fun _i hi=>.inl hi⟩
theorem putB_pos (r:RecV):0<(putB r).length:=by
 unfold putB;rw[List.length_append,numB_len];omega
theorem app_wrong (U:Nat->Prop) (l d k:Nat) (L:LK) (N:Nat) (ls wk pv nx:Int) (kd:Nat) (pg:Int) (ka oa na da pa:Option Addr) (kc oc nc dc pc:Nat) (K O N':List UInt8) (D M:List (Int×Int)) (w:World) (h:LogR w U l d k L) (hP:PtE N w ka oa na da pa kc oc nc dc pc K O N' D M) (hf:RecV.Fit ⟨ls,wk,pv,nx,kd,pg,K,O,N',D,M⟩) (_hk:k<=1000000000) (hr0:rightB (⟨ls,wk,pv,nx,kd,pg,K,O,N',D,M⟩:RecV)=false) :
  Calls Tryz.prog 11 #[.pointer (some ⟨l,0,none⟩),.agg #[.int .i64 ls,.int .i64 wk,.int .i64 pv,.int .i64 nx,.int .u8 kd,.int .i64 pg,.slice ka K.length kc,.slice oa O.length oc,.slice na N'.length nc,.slice da D.length dc,.slice pa M.length pc]] w (AppP U l d k L (L.append ⟨ls,wk,pv,nx,kd,pg,K,O,N',D,M⟩) w):=by
 obtain⟨sv,tv,T,p,v,hv⟩:=LV.of h;have HV:=φ hv;have HP0:=φ ((Below.refl w.heap.size w).alloc (Nat.le_refl _) (.cells #[.int .i64 ls,.int .i64 wk,.int .i64 pv,.int .i64 nx,.int .u8 kd,.int .i64 pg,.slice ka K.length kc,.slice oa O.length oc,.slice na N'.length nc,.slice da D.length dc,.slice pa M.length pc] 33));obtain⟨r,hr⟩:∃ r:RecV,r=⟨ls,wk,pv,nx,kd,pg,K,O,N',D,M⟩:=⟨_,rfl⟩
 rw[<- hr] at hf hr0 ⊢;have HPut:Hid (∀ W,Below w.heap.size w W->Calls Tryz.prog 42 #[.agg #[.int .i64 ls,.int .i64 wk,.int .i64 pv,.int .i64 nx,.int .u8 kd,.int .i64 pg,.slice ka K.length kc,.slice oa O.length oc,.slice na N'.length nc,.slice da D.length dc,.slice pa M.length pc]] W fun e w'=>Below W.heap.size W w' /\
   ((rightB r=false/\e=.returned (.tuple #[.slice none 0 0,.int .i64 2]))∨(rightB r=true/\∃ v,e=.returned (.tuple #[v,.int .i64 0])/\OB W.heap.size w' v (putB r)))):=φ fun W hW=>by
  have hP':=hP.below hW;rw[hr];exact put_any N ⟨ls,wk,pv,nx,kd,pg,K,O,N',D,M⟩ ka oa na da pa kc oc nc dc pc W hP' (by rw[<- hr];exact hf)
 have HT:Hid (∀ W,Below w.heap.size w W->Calls Tryz.prog 41 #[.pointer (some ⟨l,0,none⟩)] W fun e w'=>e=.returned (.bool true)/\w'=W):=φ fun W hW=>lthere_any W l d (by have:=(hv.below hW).blk;simp[World.cell?,this])
 have HLa:Hid (∀ W,Below w.heap.size w W->Calls Tryz.prog 43 #[.pointer (some ⟨l,0,none⟩)] W fun e w'=>e=.returned (.pointer (some ⟨p,0,none⟩))/\w'=W.drew):=φ fun W hW=>last_lv W U l d k L sv tv T p v (hv.below hW)
 have HMo:Hid (∀ W,Below w.heap.size w W->Calls Tryz.prog 44 #[.pointer (some ⟨l,0,none⟩)] W fun e w'=>e=.returned (.int .i64 L.more)/\w'=W.drew):=φ fun W hW=>more_any W U l d k L (hv.below hW).log
 have HPL:Hid (0<(putB r).length):=φ (putB_pos r);have HLk:=φ hv.ok.lk;clear h hv hP hf hr;have HA:Hid (L.append r=(0,4,L)):=φ (by unfold LK.append;rw[if_pos (.inl hr0)]);rw[HA.out];go_enter Tryz.func11,Tryz.ntmps11;go_wp2_with (first|(go_at_call 41;refine (HT.out _ HP0.out).mono ?_;rintro e w1 ⟨rfl,hw1⟩;subst hw1)|(go_at_call 42;refine (HPut.out _ HP0.out).mono ?_;rintro e w2 ⟨hb2,⟨-,rfl⟩|⟨hx,-⟩⟩;rotate_left;(rw[hr0] at hx;cases hx);have B2:=φ (HP0.out.trans (hb2.mono HP0.out.size));clear hb2)|(go_at_call 43;refine (HLa.out _ B2.out).mono ?_;rintro e w3 ⟨rfl,hw3⟩;subst hw3));go_ret2;exact AppP.same HV.out B2.out.drew
theorem app_long (U:Nat->Prop) (l d k:Nat) (L:LK) (N:Nat) (ls wk pv nx:Int) (kd:Nat) (pg:Int) (ka oa na da pa:Option Addr) (kc oc nc dc pc:Nat) (K O N':List UInt8) (D M:List (Int×Int)) (w:World) (h:LogR w U l d k L) (hP:PtE N w ka oa na da pa kc oc nc dc pc K O N' D M) (hf:RecV.Fit ⟨ls,wk,pv,nx,kd,pg,K,O,N',D,M⟩) (_hk:k<=1000000000) (hr0:rightB (⟨ls,wk,pv,nx,kd,pg,K,O,N',D,M⟩:RecV)=true) (hl:496<(putB (⟨ls,wk,pv,nx,kd,pg,K,O,N',D,M⟩:RecV)).length) (hl2:(putB (⟨ls,wk,pv,nx,kd,pg,K,O,N',D,M⟩:RecV)).length<=1000000) :
  Calls Tryz.prog 11 #[.pointer (some ⟨l,0,none⟩),.agg #[.int .i64 ls,.int .i64 wk,.int .i64 pv,.int .i64 nx,.int .u8 kd,.int .i64 pg,.slice ka K.length kc,.slice oa O.length oc,.slice na N'.length nc,.slice da D.length dc,.slice pa M.length pc]] w (AppP U l d k L (L.append ⟨ls,wk,pv,nx,kd,pg,K,O,N',D,M⟩) w):=by
 obtain⟨sv,tv,T,p,v,hv⟩:=LV.of h;have HV:=φ hv;have HP0:=φ ((Below.refl w.heap.size w).alloc (Nat.le_refl _) (.cells #[.int .i64 ls,.int .i64 wk,.int .i64 pv,.int .i64 nx,.int .u8 kd,.int .i64 pg,.slice ka K.length kc,.slice oa O.length oc,.slice na N'.length nc,.slice da D.length dc,.slice pa M.length pc] 33));obtain⟨r,hr⟩:∃ r:RecV,r=⟨ls,wk,pv,nx,kd,pg,K,O,N',D,M⟩:=⟨_,rfl⟩
 rw[<- hr] at hf hr0 hl hl2 ⊢;have HPut:Hid (∀ W,Below w.heap.size w W->Calls Tryz.prog 42 #[.agg #[.int .i64 ls,.int .i64 wk,.int .i64 pv,.int .i64 nx,.int .u8 kd,.int .i64 pg,.slice ka K.length kc,.slice oa O.length oc,.slice na N'.length nc,.slice da D.length dc,.slice pa M.length pc]] W fun e w'=>Below W.heap.size W w' /\
   ((rightB r=false/\e=.returned (.tuple #[.slice none 0 0,.int .i64 2]))∨(rightB r=true/\∃ v,e=.returned (.tuple #[v,.int .i64 0])/\OB W.heap.size w' v (putB r)))):=φ fun W hW=>by
  have hP':=hP.below hW;rw[hr];exact put_any N ⟨ls,wk,pv,nx,kd,pg,K,O,N',D,M⟩ ka oa na da pa kc oc nc dc pc W hP' (by rw[<- hr];exact hf)
 have HT:Hid (∀ W,Below w.heap.size w W->Calls Tryz.prog 41 #[.pointer (some ⟨l,0,none⟩)] W fun e w'=>e=.returned (.bool true)/\w'=W):=φ fun W hW=>lthere_any W l d (by have:=(hv.below hW).blk;simp[World.cell?,this])
 have HLa:Hid (∀ W,Below w.heap.size w W->Calls Tryz.prog 43 #[.pointer (some ⟨l,0,none⟩)] W fun e w'=>e=.returned (.pointer (some ⟨p,0,none⟩))/\w'=W.drew):=φ fun W hW=>last_lv W U l d k L sv tv T p v (hv.below hW)
 have HMo:Hid (∀ W,Below w.heap.size w W->Calls Tryz.prog 44 #[.pointer (some ⟨l,0,none⟩)] W fun e w'=>e=.returned (.int .i64 L.more)/\w'=W.drew):=φ fun W hW=>more_any W U l d k L (hv.below hW).log
 have HPL:Hid (0<(putB r).length):=φ (putB_pos r);have HLk:=φ hv.ok.lk;clear h hv hP hf hr;have HA:Hid (L.append r=(0,4,L)):=φ (by unfold LK.append;rw[if_pos (.inr hl)]);rw[HA.out];obtain⟨n,hn⟩:∃ n,n=(putB r).length:=⟨_,rfl⟩
 have e1:decide (((putB r).length:Int) > 496)=true:=by simp;omega
 go_enter Tryz.func11,Tryz.ntmps11;go_wp2_with (first|(go_at_call 41;refine (HT.out _ HP0.out).mono ?_;rintro e w1 ⟨rfl,hw1⟩;subst hw1)|(go_at_call 42;refine (HPut.out _ HP0.out).mono ?_;rintro e w2 ⟨hb2,⟨hx,-⟩|⟨-,vb,rfl,ho⟩⟩;(rw[hr0] at hx;cases hx);have B2:=φ (HP0.out.trans (hb2.mono HP0.out.size));obtain⟨ab,cb,rfl,hrb⟩:=ho.rb (by omega);have RB2:=φ hrb;have OG:=φ (fun (g o:Nat) s (e:ab=some ⟨g,o,s⟩)=>Nat.le_trans HP0.out.size (own_lo ho e));have mb1:=hrb.mx;have mb2:=hrb.le;have V2:=φ (HV.out.below B2.out.drew);obtain⟨va,vc,hve,hvr⟩:=V2.out.lst.body.rb (by have:=V2.out.ok.end_bd;omega);have bd:=V2.out.ok.end_bd;have vm1:=hvr.mx;have vm2:=hvr.le;have c0:w2.cell? ⟨p,0,none⟩=some (.int .i64 L.last.num):=(by have:w2.heap[p]? = _:=V2.out.lst.blk;simp[World.cell?,this,li]);have c4:w2.cell? ⟨p,4,none⟩=some (.slice va L.last.body.length vc):=(by have:w2.heap[p]? = _:=V2.out.lst.blk;simp[World.cell?,this,hve]);clear hb2 ho hrb hvr hve)|(go_at_call 43;refine (HLa.out _ B2.out).mono ?_;rintro e w3 ⟨rfl,hw3⟩;subst hw3));go_ret2;exact AppP.same HV.out B2.out.drew
theorem app_full (U:Nat->Prop) (l d k:Nat) (L:LK) (N:Nat) (ls wk pv nx:Int) (kd:Nat) (pg:Int) (ka oa na da pa:Option Addr) (kc oc nc dc pc:Nat) (K O N':List UInt8) (D M:List (Int×Int)) (w:World) (h:LogR w U l d k L) (hP:PtE N w ka oa na da pa kc oc nc dc pc K O N' D M) (hf:RecV.Fit ⟨ls,wk,pv,nx,kd,pg,K,O,N',D,M⟩) (_hk:k<=1000000000) (hr0:rightB (⟨ls,wk,pv,nx,kd,pg,K,O,N',D,M⟩:RecV)=true) (hl:(putB (⟨ls,wk,pv,nx,kd,pg,K,O,N',D,M⟩:RecV)).length<=496) (hl2:¬ L.last.body.length+(putB (⟨ls,wk,pv,nx,kd,pg,K,O,N',D,M⟩:RecV)).length<=496) (hl3:L.more=0) :
  Calls Tryz.prog 11 #[.pointer (some ⟨l,0,none⟩),.agg #[.int .i64 ls,.int .i64 wk,.int .i64 pv,.int .i64 nx,.int .u8 kd,.int .i64 pg,.slice ka K.length kc,.slice oa O.length oc,.slice na N'.length nc,.slice da D.length dc,.slice pa M.length pc]] w (AppP U l d k L (L.append ⟨ls,wk,pv,nx,kd,pg,K,O,N',D,M⟩) w):=by
 obtain⟨sv,tv,T,p,v,hv⟩:=LV.of h;have HV:=φ hv;have HP0:=φ ((Below.refl w.heap.size w).alloc (Nat.le_refl _) (.cells #[.int .i64 ls,.int .i64 wk,.int .i64 pv,.int .i64 nx,.int .u8 kd,.int .i64 pg,.slice ka K.length kc,.slice oa O.length oc,.slice na N'.length nc,.slice da D.length dc,.slice pa M.length pc] 33));obtain⟨r,hr⟩:∃ r:RecV,r=⟨ls,wk,pv,nx,kd,pg,K,O,N',D,M⟩:=⟨_,rfl⟩
 rw[<- hr] at hf hr0 hl hl2 ⊢;have HPut:Hid (∀ W,Below w.heap.size w W->Calls Tryz.prog 42 #[.agg #[.int .i64 ls,.int .i64 wk,.int .i64 pv,.int .i64 nx,.int .u8 kd,.int .i64 pg,.slice ka K.length kc,.slice oa O.length oc,.slice na N'.length nc,.slice da D.length dc,.slice pa M.length pc]] W fun e w'=>Below W.heap.size W w' /\
   ((rightB r=false/\e=.returned (.tuple #[.slice none 0 0,.int .i64 2]))∨(rightB r=true/\∃ v,e=.returned (.tuple #[v,.int .i64 0])/\OB W.heap.size w' v (putB r)))):=φ fun W hW=>by
  have hP':=hP.below hW;rw[hr];exact put_any N ⟨ls,wk,pv,nx,kd,pg,K,O,N',D,M⟩ ka oa na da pa kc oc nc dc pc W hP' (by rw[<- hr];exact hf)
 have HT:Hid (∀ W,Below w.heap.size w W->Calls Tryz.prog 41 #[.pointer (some ⟨l,0,none⟩)] W fun e w'=>e=.returned (.bool true)/\w'=W):=φ fun W hW=>lthere_any W l d (by have:=(hv.below hW).blk;simp[World.cell?,this])
 have HLa:Hid (∀ W,Below w.heap.size w W->Calls Tryz.prog 43 #[.pointer (some ⟨l,0,none⟩)] W fun e w'=>e=.returned (.pointer (some ⟨p,0,none⟩))/\w'=W.drew):=φ fun W hW=>last_lv W U l d k L sv tv T p v (hv.below hW)
 have HMo:Hid (∀ W,Below w.heap.size w W->Calls Tryz.prog 44 #[.pointer (some ⟨l,0,none⟩)] W fun e w'=>e=.returned (.int .i64 L.more)/\w'=W.drew):=φ fun W hW=>more_any W U l d k L (hv.below hW).log
 have HPL:Hid (0<(putB r).length):=φ (putB_pos r);have HLk:=φ hv.ok.lk;clear h hv hP hf hr;have HA:Hid (L.append r=(0,5,L)):=φ (by unfold LK.append;rw[if_neg (by rw[hr0];simp;omega),if_neg hl2,if_pos hl3]);rw[HA.out];rw[hl3] at HMo;have e1:decide (((putB r).length:Int) > 496)=false:=decide_eq_false (by omega);have HLen:=φ hl;have e2:decide ((L.last.body.length:Int)+(putB r).length<=496)=false:=decide_eq_false (by omega);clear hl3;go_enter Tryz.func11,Tryz.ntmps11;go_wp2_with (first|(go_at_call 41;refine (HT.out _ HP0.out).mono ?_;rintro e w1 ⟨rfl,hw1⟩;subst hw1)|(go_at_call 42;refine (HPut.out _ HP0.out).mono ?_;rintro e w2 ⟨hb2,⟨hx,-⟩|⟨-,vb,rfl,ho⟩⟩;(rw[hr0] at hx;cases hx);have B2:=φ (HP0.out.trans (hb2.mono HP0.out.size));obtain⟨ab,cb,rfl,hrb⟩:=ho.rb (by omega);have RB2:=φ hrb;have OG:=φ (fun (g o:Nat) s (e:ab=some ⟨g,o,s⟩)=>Nat.le_trans HP0.out.size (own_lo ho e));have mb1:=hrb.mx;have mb2:=hrb.le;have V2:=φ (HV.out.below B2.out.drew);obtain⟨va,vc,hve,hvr⟩:=V2.out.lst.body.rb (by have:=V2.out.ok.end_bd;omega);have bd:=V2.out.ok.end_bd;have vm1:=hvr.mx;have vm2:=hvr.le;have c0:w2.cell? ⟨p,0,none⟩=some (.int .i64 L.last.num):=(by have:w2.heap[p]? = _:=V2.out.lst.blk;simp[World.cell?,this,li]);have c4:w2.cell? ⟨p,4,none⟩=some (.slice va L.last.body.length vc):=(by have:w2.heap[p]? = _:=V2.out.lst.blk;simp[World.cell?,this,hve]);clear hb2 ho hrb hvr hve)|(go_at_call 43;refine (HLa.out _ B2.out).mono ?_;rintro e w3 ⟨rfl,hw3⟩;subst hw3)|(go_at_call 44;refine (HMo.out _ B2.out.drew).mono ?_;rintro e w4 ⟨rfl,hw4⟩;subst hw4));go_ret2;exact AppP.same HV.out B2.out.drew.drew
theorem app_fit (U:Nat->Prop) (l d k:Nat) (L:LK) (N:Nat) (ls wk pv nx:Int) (kd:Nat) (pg:Int) (ka oa na da pa:Option Addr) (kc oc nc dc pc:Nat) (K O N':List UInt8) (D M:List (Int×Int)) (w:World) (h:LogR w U l d k L) (hP:PtE N w ka oa na da pa kc oc nc dc pc K O N' D M) (hf:RecV.Fit ⟨ls,wk,pv,nx,kd,pg,K,O,N',D,M⟩) (hk:k<=1000000000) (hr0:rightB (⟨ls,wk,pv,nx,kd,pg,K,O,N',D,M⟩:RecV)=true) (hl:(putB (⟨ls,wk,pv,nx,kd,pg,K,O,N',D,M⟩:RecV)).length<=496) (hl2:L.last.body.length+(putB (⟨ls,wk,pv,nx,kd,pg,K,O,N',D,M⟩:RecV)).length<=496) :
  Calls Tryz.prog 11 #[.pointer (some ⟨l,0,none⟩),.agg #[.int .i64 ls,.int .i64 wk,.int .i64 pv,.int .i64 nx,.int .u8 kd,.int .i64 pg,.slice ka K.length kc,.slice oa O.length oc,.slice na N'.length nc,.slice da D.length dc,.slice pa M.length pc]] w (AppP U l d k L (L.append ⟨ls,wk,pv,nx,kd,pg,K,O,N',D,M⟩) w):=by
 obtain⟨sv,tv,T,p,v,hv⟩:=LV.of h;have HV:=φ hv;have HP0:=φ ((Below.refl w.heap.size w).alloc (Nat.le_refl _) (.cells #[.int .i64 ls,.int .i64 wk,.int .i64 pv,.int .i64 nx,.int .u8 kd,.int .i64 pg,.slice ka K.length kc,.slice oa O.length oc,.slice na N'.length nc,.slice da D.length dc,.slice pa M.length pc] 33));obtain⟨r,hr⟩:∃ r:RecV,r=⟨ls,wk,pv,nx,kd,pg,K,O,N',D,M⟩:=⟨_,rfl⟩
 rw[<- hr] at hf hr0 hl hl2 ⊢;have HPut:Hid (∀ W,Below w.heap.size w W->Calls Tryz.prog 42 #[.agg #[.int .i64 ls,.int .i64 wk,.int .i64 pv,.int .i64 nx,.int .u8 kd,.int .i64 pg,.slice ka K.length kc,.slice oa O.length oc,.slice na N'.length nc,.slice da D.length dc,.slice pa M.length pc]] W fun e w'=>Below W.heap.size W w' /\
   ((rightB r=false/\e=.returned (.tuple #[.slice none 0 0,.int .i64 2]))∨(rightB r=true/\∃ v,e=.returned (.tuple #[v,.int .i64 0])/\OB W.heap.size w' v (putB r)))):=φ fun W hW=>by
  have hP':=hP.below hW;rw[hr];exact put_any N ⟨ls,wk,pv,nx,kd,pg,K,O,N',D,M⟩ ka oa na da pa kc oc nc dc pc W hP' (by rw[<- hr];exact hf)
 have HT:Hid (∀ W,Below w.heap.size w W->Calls Tryz.prog 41 #[.pointer (some ⟨l,0,none⟩)] W fun e w'=>e=.returned (.bool true)/\w'=W):=φ fun W hW=>lthere_any W l d (by have:=(hv.below hW).blk;simp[World.cell?,this])
 have HLa:Hid (∀ W,Below w.heap.size w W->Calls Tryz.prog 43 #[.pointer (some ⟨l,0,none⟩)] W fun e w'=>e=.returned (.pointer (some ⟨p,0,none⟩))/\w'=W.drew):=φ fun W hW=>last_lv W U l d k L sv tv T p v (hv.below hW)
 have HMo:Hid (∀ W,Below w.heap.size w W->Calls Tryz.prog 44 #[.pointer (some ⟨l,0,none⟩)] W fun e w'=>e=.returned (.int .i64 L.more)/\w'=W.drew):=φ fun W hW=>more_any W U l d k L (hv.below hW).log
 have HPL:Hid (0<(putB r).length):=φ (putB_pos r);have HLk:=φ hv.ok.lk;clear h hv hP hf hr;have HA:Hid (L.append r=(L.end_,0,L.grow (putB r))):=φ (by unfold LK.append;rw[if_neg (by rw[hr0];simp;omega),if_pos hl2]);rw[HA.out];have e1:decide (((putB r).length:Int) > 496)=false:=decide_eq_false (by omega);have HLen:=φ hl;have e2:decide ((L.last.body.length:Int)+(putB r).length<=496)=true:=decide_eq_true (by omega);go_enter Tryz.func11,Tryz.ntmps11;go_upto_region 12 with (first|(go_at_call 41;refine (HT.out _ HP0.out).mono ?_;rintro e w1 ⟨rfl,hw1⟩;subst hw1)|(go_at_call 42;refine (HPut.out _ HP0.out).mono ?_;rintro e w2 ⟨hb2,⟨hx,-⟩|⟨-,vb,rfl,ho⟩⟩;(rw[hr0] at hx;cases hx);have B2:=φ (HP0.out.trans (hb2.mono HP0.out.size));obtain⟨ab,cb,rfl,hrb⟩:=ho.rb (by omega);have RB2:=φ hrb;have OG:=φ (fun (g o:Nat) s (e:ab=some ⟨g,o,s⟩)=>Nat.le_trans HP0.out.size (own_lo ho e));have mb1:=hrb.mx;have mb2:=hrb.le;have V2:=φ (HV.out.below B2.out.drew);obtain⟨va,vc,hve,hvr⟩:=V2.out.lst.body.rb (by have:=V2.out.ok.end_bd;omega);have bd:=V2.out.ok.end_bd;have vm1:=hvr.mx;have vm2:=hvr.le;have c0:w2.cell? ⟨p,0,none⟩=some (.int .i64 L.last.num):=(by have:w2.heap[p]? = _:=V2.out.lst.blk;simp[World.cell?,this,li]);have c4:w2.cell? ⟨p,4,none⟩=some (.slice va L.last.body.length vc):=(by have:w2.heap[p]? = _:=V2.out.lst.blk;simp[World.cell?,this,hve]);clear hb2 ho hrb hvr hve)|(go_at_call 43;refine (HLa.out _ B2.out).mono ?_;rintro e w3 ⟨rfl,hw3⟩;subst hw3));exact app_tail U l d k L sv tv T p v ab (putB r).length cb _ (putB r) _ _ V2.out (RB2.out.below (Below.refl _ _).drew) HPL.out hl2 hk (fun U' w' h1 h2 h3=>⟨rfl,U',h1,((Trn.refl U w).below B2.out.drew (Nat.le_refl _)).then h2,fun i hi=>by
  rcases h3 i hi with h4|h4
  ·exact .inl h4
  ·exact .inr (Nat.le_trans B2.out.drew.size h4)⟩) _ _ _ _ _ _ _ _ _ _ _ _ _ _ _ _ _ _ _ _ _ _ _ _ _ _ _ _ _ _ _ _ _ _ _ _ _ _ _ _ _ _ _ _ _ _ _ _ _ _ _ _ _ _ _ _ _ _ _ _ _ _ _ _ _ _ _ _ _ _ _ _ _ _ _ _ _ _ _ _ _ _ _ _ _ _ _ _ _ _ _ (by assumption)
theorem app_new (U:Nat->Prop) (l d k:Nat) (L:LK) (N:Nat) (ls wk pv nx:Int) (kd:Nat) (pg:Int) (ka oa na da pa:Option Addr) (kc oc nc dc pc:Nat) (K O N':List UInt8) (D M:List (Int×Int)) (w:World) (h:LogR w U l d k L) (hP:PtE N w ka oa na da pa kc oc nc dc pc K O N' D M) (hf:RecV.Fit ⟨ls,wk,pv,nx,kd,pg,K,O,N',D,M⟩) (hk:k<=1000000000) (hr0:rightB (⟨ls,wk,pv,nx,kd,pg,K,O,N',D,M⟩:RecV)=true) (hl:(putB (⟨ls,wk,pv,nx,kd,pg,K,O,N',D,M⟩:RecV)).length<=496) (hl2:¬ L.last.body.length+(putB (⟨ls,wk,pv,nx,kd,pg,K,O,N',D,M⟩:RecV)).length<=496) (hl3:¬ L.more=0) :
  Calls Tryz.prog 11 #[.pointer (some ⟨l,0,none⟩),.agg #[.int .i64 ls,.int .i64 wk,.int .i64 pv,.int .i64 nx,.int .u8 kd,.int .i64 pg,.slice ka K.length kc,.slice oa O.length oc,.slice na N'.length nc,.slice da D.length dc,.slice pa M.length pc]] w (AppP U l d k L (L.append ⟨ls,wk,pv,nx,kd,pg,K,O,N',D,M⟩) w):=by
 obtain⟨sv,tv,T,p,v,hv⟩:=LV.of h;have HV:=φ hv;have HP0:=φ ((Below.refl w.heap.size w).alloc (Nat.le_refl _) (.cells #[.int .i64 ls,.int .i64 wk,.int .i64 pv,.int .i64 nx,.int .u8 kd,.int .i64 pg,.slice ka K.length kc,.slice oa O.length oc,.slice na N'.length nc,.slice da D.length dc,.slice pa M.length pc] 33));obtain⟨r,hr⟩:∃ r:RecV,r=⟨ls,wk,pv,nx,kd,pg,K,O,N',D,M⟩:=⟨_,rfl⟩
 rw[<- hr] at hf hr0 hl hl2 ⊢;have HPut:Hid (∀ W,Below w.heap.size w W->Calls Tryz.prog 42 #[.agg #[.int .i64 ls,.int .i64 wk,.int .i64 pv,.int .i64 nx,.int .u8 kd,.int .i64 pg,.slice ka K.length kc,.slice oa O.length oc,.slice na N'.length nc,.slice da D.length dc,.slice pa M.length pc]] W fun e w'=>Below W.heap.size W w' /\
   ((rightB r=false/\e=.returned (.tuple #[.slice none 0 0,.int .i64 2]))∨(rightB r=true/\∃ v,e=.returned (.tuple #[v,.int .i64 0])/\OB W.heap.size w' v (putB r)))):=φ fun W hW=>by
  have hP':=hP.below hW;rw[hr];exact put_any N ⟨ls,wk,pv,nx,kd,pg,K,O,N',D,M⟩ ka oa na da pa kc oc nc dc pc W hP' (by rw[<- hr];exact hf)
 have HT:Hid (∀ W,Below w.heap.size w W->Calls Tryz.prog 41 #[.pointer (some ⟨l,0,none⟩)] W fun e w'=>e=.returned (.bool true)/\w'=W):=φ fun W hW=>lthere_any W l d (by have:=(hv.below hW).blk;simp[World.cell?,this])
 have HLa:Hid (∀ W,Below w.heap.size w W->Calls Tryz.prog 43 #[.pointer (some ⟨l,0,none⟩)] W fun e w'=>e=.returned (.pointer (some ⟨p,0,none⟩))/\w'=W.drew):=φ fun W hW=>last_lv W U l d k L sv tv T p v (hv.below hW)
 have HMo:Hid (∀ W,Below w.heap.size w W->Calls Tryz.prog 44 #[.pointer (some ⟨l,0,none⟩)] W fun e w'=>e=.returned (.int .i64 L.more)/\w'=W.drew):=φ fun W hW=>more_any W U l d k L (hv.below hW).log
 have HPL:Hid (0<(putB r).length):=φ (putB_pos r);have HLk:=φ hv.ok.lk;clear h hv hP hf hr;have HA:Hid (L.append r=(L.sheet.end_,0,L.sheet.grow (putB r))):=φ (by unfold LK.append;rw[if_neg (by rw[hr0];simp;omega),if_neg hl2,if_neg hl3]);rw[HA.out];have e1:decide (((putB r).length:Int) > 496)=false:=decide_eq_false (by omega);have HLen:=φ hl;have HL3:Hid (MoreNz L):=φ hl3;have e2:decide ((L.last.body.length:Int)+(putB r).length<=496)=false:=decide_eq_false (by omega);have e3:(L.more == 0)=false:=by simpa using hl3
 have Hbd:=φ HV.out.ok.end_bd;have e4:IntKind.i64.wrap (L.last.num+1)=L.last.num+1:=IntWalk.i64_in _ (by have:=Hbd.out;omega);clear hl3;generalize hmo:L.more=mo at *;clear hmo;go_enter Tryz.func11,Tryz.ntmps11;go_upto_region 5 with (first|(go_at_call 41;refine (HT.out _ HP0.out).mono ?_;rintro e w1 ⟨rfl,hw1⟩;subst hw1)|(go_at_call 42;refine (HPut.out _ HP0.out).mono ?_;rintro e w2 ⟨hb2,⟨hx,-⟩|⟨-,vb,rfl,ho⟩⟩;(rw[hr0] at hx;cases hx);have B2:=φ (HP0.out.trans (hb2.mono HP0.out.size));obtain⟨ab,cb,rfl,hrb⟩:=ho.rb (by omega);have RB2:=φ hrb;have OG:=φ (fun (g o:Nat) s (e:ab=some ⟨g,o,s⟩)=>Nat.le_trans HP0.out.size (own_lo ho e));have mb1:=hrb.mx;have mb2:=hrb.le;have V2:=φ (HV.out.below B2.out.drew);obtain⟨va,vc,hve,hvr⟩:=V2.out.lst.body.rb (by have:=V2.out.ok.end_bd;omega);have bd:=V2.out.ok.end_bd;have vm1:=hvr.mx;have vm2:=hvr.le;have c0:w2.cell? ⟨p,0,none⟩=some (.int .i64 L.last.num):=(by have:w2.heap[p]? = _:=V2.out.lst.blk;simp[World.cell?,this,li]);have c4:w2.cell? ⟨p,4,none⟩=some (.slice va L.last.body.length vc):=(by have:w2.heap[p]? = _:=V2.out.lst.blk;simp[World.cell?,this,hve]);clear hb2 ho hrb hvr hve)|(go_at_call 43;refine (HLa.out _ B2.out).mono ?_;rintro e w3 ⟨rfl,hw3⟩;subst hw3)|(go_at_call 44;refine (HMo.out _ B2.out.drew).mono ?_;rintro e w4 ⟨rfl,hw4⟩;subst hw4));refine wp_region_still_tail 13 (by kernel_rfl) (by kernel_rfl) ?_;simp only[List.take_succ_cons,List.take_zero,List.drop_succ_cons,List.drop_zero];change wpStill _ _ (World.drew _) _ _ _
 repeat still_step
 refine wpStill_nil ?_;change wpList _ _ _ _ _ (World.drew _);go_upto_region 6 with (fail);have V3:Hid (LV w2.drew.drew.drew U l d k L sv tv T p v):=φ (V2.out.below ((Below.refl _ w2.drew).drew.drew));have hc5:(w2.alloc (.cells #[.int .i64 (L.last.num+1),.int .i64 0,.int .i64 L.last.body.length,.int .i64 0,.slice none 0 0,.int .i64 0,.bool false] 105)).cell? ⟨l,5,none⟩=some sv:=cell_of_row _ _ 5 _ _ _ ((alloc_old (ξ V2.out.blk)).trans V2.out.blk);have hT:T.length+1<=1000000000:=by
  have h1:=V3.out.ok.ct;have h2:=V3.out.ok.c2;have h3:L.sheets.length=T.length+1:=by rw[V3.out.sheets];simp
  omega
 clear c0 c4;go_upto_region 12 with (first|(at_builtin;refine wpList_append_one rfl _ _ rfl Tryz.underlying106 info_psheet rfl _ _ _ rfl ((V3.out.srow.alloc _).alloc _) _ _ (ptr w2.heap.size) rfl (by simp[go_sem,ptr]) rfl hT ?_;intro v4 w4 ho4 hg4 ha4;obtain⟨a4,m4,e4,rfl⟩:=own_slice ho4;obtain⟨r1,r2,r3⟩:=app_sheet V3.out HL3.out hg4 ho4 ha4;have f5:w4.frozen? ⟨l,5,none⟩=false:=(by simp[World.frozen?,r1,logObj]);have c6:w4.cell? ⟨l,5,none⟩=some sv:=cell_of_row _ _ 5 _ _ _ r1;have R2:=φ r2;have R3:=φ r3;clear r1 r2 r3 ho4 hg4 ha4));have B3:=φ (B2.out.drew.drew.drew);exact app_tail _ l d k L.sheet _ tv _ _ _ ab (putB r).length cb _ (putB r) _ _ R2.out (RB2.out.of_block fun b o s e hc hlt=>R3.out.block b hlt fun hu=>by have h1:=OG.out b o s e;have h2:=HV.out.lt b hu;omega) HPL.out (by rw[L.sheet_last];simpa using HLen.out) hk (fun U' w' h1 h2 h3=>⟨rfl,U',h1,(((Trn.refl U w).below B3.out (Nat.le_refl _)).then R3.out).trans h2 (fun i hi=>by
  have hz:=B3.out.size;rcases hi with hi|hi
  ·exact .inl hi
  ·exact .inr (Nat.le_trans hz hi.1)),fun i hi=>by
  have hz:=B3.out.size;have hz2:=R3.out.size;rcases h3 i hi with (h4|h4)|h4
  ·exact .inl h4
  ·exact .inr (Nat.le_trans hz h4.1)
  ·exact .inr (Nat.le_trans hz (Nat.le_trans hz2 h4))⟩) _ _ _ _ _ _ _ _ _ _ _ _ _ _ _ _ _ _ _ _ _ _ _ _ _ _ _ _ _ _ _ _ _ _ _ _ _ _ _ _ _ _ _ _ _ _ _ _ _ _ _ _ _ _ _ _ _ _ _ _ _ _ _ _ _ _ _ _ _ _ _ _ _ _ _ _ _ _ _ _ _ _ _ _ _ _ _ _ _ _ _ (by assumption)
theorem encs_len {α:Type} (f:α->List UInt8) (k:Nat) (hf:∀ x,(f x).length=k) (X:List α) (n:Nat) (h:X.length<=n):(X.flatMap f).length<=n*k:=by
 have:=flat_len f k hf X X.length n h
 rwa [List.take_length] at this
theorem putB_len {r:RecV} (h:rightB r=true):(putB r).length<=2000:=by
 rw[rightB_eq] at h;obtain⟨hk,-,-,-,-,g5,g6,g7⟩:=right_facts h;obtain⟨ls,wk,pv,nx,kd,pg,K,O,N',D,M⟩:=r;simp only at hk g5 g6 g7 h;have h0:(if 0<K.length then rowB K++rowB O++rowB N' else []).length<=800:=by
  split
  ·simp only[rowB,List.length_append,List.length_cons];omega
  ·simp
 by_cases k5:kd=5
 ·subst k5;obtain⟨m1,m2,-⟩:=mark_facts h;have h1:=encs_len encD 10 (fun d=>by simp[encD,numB_len]) D 32 m1;have h2:=encs_len encO 16 (fun d=>by simp[encO,numB_len]) M 8 m2;have e:putB ⟨ls,wk,pv,nx,5,pg,K,O,N',D,M⟩=numB (bodyB ⟨ls,wk,pv,nx,5,pg,K,O,N',D,M⟩).length 2++((5::(numB D.length 2++D.flatMap encD++numB M.length 2++M.flatMap encO))++([]++(if 0<K.length then rowB K++rowB O++rowB N' else []))):=by
   simp[putB,bodyB];rfl
  rw[e];simp only[List.length_append,List.length_cons,numB_len,List.length_nil];omega
 ·have h9:(if kd=2 then numB nx 8++numB pg 2 else if kd=1 then numB pg 2 else if kd=6 then numB pg 2++numB nx 2 else []).length<=10:=by
   split
   ·simp[numB_len]
   ·split
    ·simp[numB_len]
    ·split
     ·simp[numB_len]
     ·simp
  unfold putB bodyB;simp only[if_neg k5,List.length_append,List.length_cons,numB_len];omega
theorem append_any (U:Nat->Prop) (l d k:Nat) (L:LK) (N:Nat) (r:RecV) (ka oa na da pa:Option Addr) (kc oc nc dc pc:Nat) (w:World) (h:LogR w U l d k L) (hP:PtE N w ka oa na da pa kc oc nc dc pc r.key r.old r.new r.dirty r.opn) (hf:r.Fit) (hk:k<=1000000000) :
  Calls Tryz.prog 11 #[.pointer (some ⟨l,0,none⟩),recV r ka oa na da pa kc oc nc dc pc] w (AppP U l d k L (L.append r) w):=by
 obtain⟨ls,wk,pv,nx,kd,pg,K,O,N',D,M⟩:=r;simp only at hP
 cases hr:rightB ⟨ls,wk,pv,nx,kd,pg,K,O,N',D,M⟩ with
 | false=>exact app_wrong U l d k L N ls wk pv nx kd pg ka oa na da pa kc oc nc dc pc K O N' D M w h hP hf hk hr
 | true =>
  by_cases h1:496<(putB ⟨ls,wk,pv,nx,kd,pg,K,O,N',D,M⟩).length
  ·exact app_long U l d k L N ls wk pv nx kd pg ka oa na da pa kc oc nc dc pc K O N' D M w h hP hf hk hr h1 (Nat.le_trans (putB_len hr) (by omega))
  ·by_cases h2:L.last.body.length+(putB ⟨ls,wk,pv,nx,kd,pg,K,O,N',D,M⟩).length<=496
   ·exact app_fit U l d k L N ls wk pv nx kd pg ka oa na da pa kc oc nc dc pc K O N' D M w h hP hf hk hr (by omega) h2
   ·by_cases h3:L.more=0
    ·exact app_full U l d k L N ls wk pv nx kd pg ka oa na da pa kc oc nc dc pc K O N' D M w h hP hf hk hr (by omega) h2 h3
    ·exact app_new U l d k L N ls wk pv nx kd pg ka oa na da pa kc oc nc dc pc K O N' D M w h hP hf hk hr (by omega) h2 h3
end Go.Proofs.YtohlkkannjifmaaGreatDoor
