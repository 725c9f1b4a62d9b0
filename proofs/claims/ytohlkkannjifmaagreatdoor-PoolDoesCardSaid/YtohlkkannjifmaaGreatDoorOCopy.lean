import Derived.Test.YtohlkkannjifmaaGreatDoorOLawV
import Derived.Test.YtohlkkannjifmaaGreatDoorPageC
import Derived.Test.YtohlkkannjifmaaGreatDoorRowsW
import Derived.Test.YtohlkkannjifmaaGreatDoorPure3
import Derived.Test.YtohlkkannjifmaaGreatDoorSteps
import Derived.OwnWalk
import Derived.Test.YtohlkkannjifmaaGreatDoorPageH
import Derived.Test.YtohlkkannjifmaaGreatDoorOLog6
namespace Go.Proofs.YtohlkkannjifmaaGreatDoor
section
open Go.RowKit Go.Shelf
variable {D:DK} {n:Int} {V:Int->List (List UInt8)} {c:Int->List UInt8} {L:LK} {k:Nat} {P:PK}
theorem safe_le_end (h:L.Ok k):L.safe<=L.end_:=by
 unfold LK.safe;split
 ·next s hs =>
  cases hf:L.lsns.find? (fun x=>decide (s.at_ s.safe<=x)) with
  | none=>exact Int.le_refl _
  | some x=>exact Int.le_of_lt (h.sb x (List.mem_of_find?_eq_some hf))
 ·exact Int.le_refl _
theorem LK.Ok.at_le_end (h:L.Ok k) {s:ShV} (hs:s∈L.sheets):s.at_ s.safe<=L.end_:=by
 obtain⟨m,m0,m1,hm⟩:=h.num;obtain⟨j,hj⟩:=List.mem_iff_getElem?.1 hs;have e1:=hm j s hj;have hjl:=(List.getElem?_eq_some_iff.1 hj).1;have h1:=h.len s hs;have hla:L.sheets[L.sheets.length-1]? = some L.last:=by
  unfold LK.last;rw[List.getLastD_eq_getLast?,List.getLast?_eq_getElem?,List.getElem?_eq_getElem (by omega)];rfl
 have e2:=hm _ _ hla;by_cases hl:j=L.sheets.length-1
 ·subst hl;rw[hj] at hla
  cases hla
  unfold LK.end_ ShV.at_;omega
 ·unfold LK.end_ ShV.at_;omega
theorem find_app_none {α:Type} (p:α->Bool) (l:List α) (x:α) (h:∀ y∈l,p y=false) (hx:p x=true):(l++[x]).find? p=some x:=by
 rw[List.find?_append,List.find?_eq_none.2 (fun y hy=>by rw[h y hy];exact Bool.false_ne_true)];simp[hx]
theorem safe_grow (h:L.Ok k) (b:List UInt8) (hb:0<b.length):L.safe<=(L.grow b).safe:=by
 have hne:=h.ne;obtain⟨S,x,e⟩:∃ S x,L.sheets=S++[x]:=⟨_,_,(List.dropLast_concat_getLast hne).symm⟩
 have hlast:L.last=x:=by unfold LK.last;rw[e];simp
 have hS:L.sheets.dropLast=S:=by rw[e];simp
 have hg:(L.grow b).sheets=S++[{ x with body:=x.body++b }]:=by unfold LK.grow;rw[hS,hlast]
 have hgl:(L.grow b).lsns=L.lsns++[L.end_]:=rfl;have hge:(L.grow b).end_=L.end_+b.length:=grow_end L b;have hx:x∈L.sheets:=by rw[e];simp
 have hxl:=h.len x hx;have he:L.end_=x.at_ x.body.length:=by unfold LK.end_;rw[hlast]
 have hsb:=h.sb;unfold LK.safe;rw[hg,hgl,e];rw[List.find?_append,List.find?_append]
 cases hf:S.find? (fun s=>decide (s.safe<(s.body.length:Int))) with
 | some s =>
  simp only[Option.some_or];have hs:s∈L.sheets:=by rw[e];exact List.mem_append_left _ (List.mem_of_find?_eq_some hf)
  rw[List.find?_append]
  cases hq:L.lsns.find? (fun y=>decide (s.at_ s.safe<=y)) with
  | some y=>simp
  | none =>
   have:=h.at_le_end hs;simp[this]
 | none =>
  simp only[Option.none_or];have hb2:decide (x.safe<((x.body++b).length:Int))=true:=decide_eq_true (by rw[List.length_append];omega);have hat:({ x with body:=x.body++b }:ShV).at_ ({ x with body:=x.body++b }:ShV).safe=x.at_ x.safe:=rfl;rw[show [({ x with body:=x.body++b }:ShV)].find? (fun s=>decide (s.safe<(s.body.length:Int)))=some { x with body:=x.body++b } from by simp only[List.find?_cons,hb2]];simp only;rw[hat];by_cases hu:x.safe<(x.body.length:Int)
  ·rw[show [x].find? (fun s=>decide (s.safe<(s.body.length:Int)))=some x from by simp[hu]];simp only;rw[List.find?_append]
   cases hq:L.lsns.find? (fun y=>decide (x.at_ x.safe<=y)) with
   | some y=>simp
   | none =>
    have:=h.at_le_end hx;simp[this]
  ·rw[show [x].find? (fun s=>decide (s.safe<(s.body.length:Int)))=none from by simp[hu]];simp only;have hxs:x.safe=(x.body.length:Int):=by omega
   have hae:x.at_ x.safe=L.end_:=by rw[he,hxs]
   rw[hae,find_app_none _ _ _ (fun y hy=>decide_eq_false (by have:=hsb y hy;omega)) (decide_eq_true (Int.le_refl _))];exact Int.le_refl _
theorem sheet_last (L:LK):L.sheet.last=⟨L.last.num+1,0,L.last.body.length,0,[],0,false⟩:=by
 show (L.sheets++[_]).getLastD sh0=_;simp
theorem safe_sheet (h:L.Ok k) (b:List UInt8) (hb:0<b.length):L.safe<=(L.sheet.grow b).safe:=by
 have hlm:L.last∈L.sheets:=h.last;have hlen:=h.len _ hlm;have hse:L.sheet.end_=(L.last.num+1)*512+0+1:=by unfold LK.end_;rw[sheet_last];rfl
 have he:L.end_=L.last.num*512+L.last.body.length+1:=rfl;have hle:L.end_<=L.sheet.end_:=by rw[hse,he];omega
 have hg:(L.sheet.grow b).sheets=L.sheets++[⟨L.last.num+1,0,L.last.body.length,0,b,0,false⟩]:=by
  unfold LK.grow;rw[sheet_last];show (L.sheets++[_]).dropLast++_=_;simp
 have hgl:(L.sheet.grow b).lsns=L.lsns++[L.sheet.end_]:=rfl;have hsb:=h.sb;unfold LK.safe;rw[hg,hgl,List.find?_append]
 cases hf:L.sheets.find? (fun s=>decide (s.safe<(s.body.length:Int))) with
 | some s =>
  simp only[Option.some_or];have hs:s∈L.sheets:=List.mem_of_find?_eq_some hf;have ha:=h.at_le_end hs;rw[List.find?_append]
  cases hq:L.lsns.find? (fun y=>decide (s.at_ s.safe<=y)) with
  | some y=>simp
  | none =>
   have:s.at_ s.safe<=L.sheet.end_:=by omega
   simp[this,hle]
 | none =>
  simp only[Option.none_or];rw[show [(⟨L.last.num+1,0,L.last.body.length,0,b,0,false⟩:ShV)].find? (fun s=>decide (s.safe<(s.body.length:Int)))=some ⟨L.last.num+1,0,L.last.body.length,0,b,0,false⟩ from by simp[hb]];simp only;have hae:((⟨L.last.num+1,0,L.last.body.length,0,b,0,false⟩:ShV).at_ 0)=L.sheet.end_:=by rw[hse];rfl
  rw[hae,find_app_none _ _ _ (fun y hy=>decide_eq_false (by have:=hsb y hy;omega)) (decide_eq_true (Int.le_refl _))];exact hle
theorem append_safe (h:L.Ok k) (r:RecV):L.safe<=(L.append r).2.2.safe/\L.end_<=(L.append r).2.2.end_:=by
 have hp:=putB_pos r;unfold LK.append;split
 ·exact⟨Int.le_refl _,Int.le_refl _⟩
 ·split
  ·exact⟨safe_grow h _ hp,by show L.end_<=(L.grow _).end_;rw[grow_end];omega⟩
  ·split
   ·exact⟨Int.le_refl _,Int.le_refl _⟩
   ·refine⟨safe_sheet h _ hp,?_⟩;show L.end_<=(L.sheet.grow _).end_;have hlm:L.last∈L.sheets:=h.last;have hlen:=h.len _ hlm;have hse:L.sheet.end_=(L.last.num+1)*512+0+1:=(by unfold LK.end_;rw[sheet_last];rfl);have he:L.end_=L.last.num*512+L.last.body.length+1:=rfl;rw[grow_end,hse,he];omega
structure Std (V:Int->List (List UInt8)) (D:DK) (L:LK) (P:PK):Prop where
 dsk:∀ i,0<=i->i<P.count->D.latest (P.first+i)∈V i/\(lsnL (D.latest (P.first+i)):Int)<L.safe
 cur:∀ f∈P.frames,f.b∈V f.page/\(lsnL f.b:Int)<L.end_
 drt:∀ f∈P.frames,f.dirty=true->1<=f.first/\f.first<=(lsnL f.b:Int)
 se:L.safe<=L.end_
theorem Std.mono {V':Int->List (List UInt8)} (h:Std V D L P) (hV:∀ i b,b∈V i->b∈V' i):Std V' D L P :=
 ⟨fun i h0 h1=>⟨hV _ _ (h.dsk i h0 h1).1,(h.dsk i h0 h1).2⟩,fun f hf=>⟨hV _ _ (h.cur f hf).1,(h.cur f hf).2⟩,h.drt,h.se⟩
theorem Std.log {D':DK} {L':LK} (h:Std V D L P) (h1:L.safe<=L'.safe) (h2:L.end_<=L'.end_) (h3:L'.safe<=L'.end_) (hD:∀ i,0<=i->D'.latest (P.first+i)=D.latest (P.first+i)):Std V D' L' P :=
 ⟨fun i h0 h4=>by rw[hD i h0];exact⟨(h.dsk i h0 h4).1,Int.lt_of_lt_of_le (h.dsk i h0 h4).2 h1⟩,fun f hf=>⟨(h.cur f hf).1,Int.lt_of_lt_of_le (h.cur f hf).2 h2⟩,h.drt,h3⟩
theorem behind_safe {f:FrV} (hl:L.Ok k) (h:D.Up) (hn:L.first+L.count<=D.n) (hse:L.safe<=L.end_) (hf:(lsnL f.b:Int)<L.end_) :
  ∃ L' D',behind f L D=(0,L',D')/\CoreEq L' L/\L'.Ok k/\D'.Up/\D'.n=D.n/\(∀ j,L.first+L.count<=j->D'.latest j=D.latest j)/\L.safe<=L'.safe/\(lsnL f.b:Int)<L'.safe/\L'.safe<=L'.end_:=by
 unfold behind;split
 ·obtain⟨L',D',e1,e2,-,e4,e5,e6,e7⟩:=force_up hl h hn;have e8:=force_ok hl h hn;rw[e1] at e8 ⊢;have e9:=e2.end_;exact⟨L',D',rfl,e2,e8,e4,e5,e6,by rw[e7,e9];exact hse,by rw[e7,e9];exact hf,Int.le_of_eq e7⟩
 ·exact⟨L,D,rfl,CoreEq.refl L,hl,h,rfl,fun _ _=>rfl,Int.le_refl _,by omega,hse⟩
theorem Std.write {V:Int->List (List UInt8)} {D:DK} {L:LK} {P:PK} (h:Std V D L P) (hw:Well D L P) {i:Nat} {f:FrV} (hi:P.frames[i]? = some f):Std V (P.write i f L D).2.2.2 (P.write i f L D).2.2.1 (P.write i f L D).2.1:=by
 obtain⟨k,hl⟩:=hw.lo;have hfc:=hw.fc;have hdn:=hw.dn;have hpc:=hw.pc;have hfm:=List.mem_of_getElem? hi;have hr:=hw.rng f hfm;have hc:=h.cur f hfm;have hf1:=hl.f1;have hc1:=hl.c1;obtain⟨L',D',e1,e2,e3,e4,e5,e6,e7,e8,e9⟩:=behind_safe (f:=f) hl hw.up (by omega) h.se hc.2;have hwr:=e4.write (i:=P.first+f.page) (b:=f.b) (by omega) (by rw[e5];omega) hr.2.2;have he:P.write i f L D=(0,{ P with frames:=P.frames.set i { f with dirty:=false,first:=0 } },L',D'.put (P.first+f.page) f.b):=by
  unfold PK.write;rw[e1];simp only[ne_eq,not_true_eq_false,if_false];rw[hwr];simp
 rw[he];refine⟨fun j h0 h1=>?_,fun g hg=>?_,fun g hg hd=>?_,e9⟩
 ·show (D'.put (P.first+f.page) f.b).latest (P.first+j)∈V j/\((lsnL ((D'.put (P.first+f.page) f.b).latest (P.first+j)):Nat):Int)<L'.safe;rw[DK.put_latest];by_cases hj:j=f.page
  ·rw[if_pos (by rw[hj]),hj];exact⟨hc.1,e8⟩
  ·rw[if_neg (by omega),e6 _ (by omega)];have:=h.dsk j h0 h1;exact⟨this.1,by omega⟩
 ·have e10:=e2.end_;rcases mem_set_cases hg with rfl|⟨q,-,hq⟩
  ·exact⟨hc.1,by show (lsnL f.b:Int)<L'.end_;rw[e10];exact hc.2⟩
  ·have:=h.cur g (List.mem_of_getElem? hq);exact⟨this.1,by show (lsnL g.b:Int)<L'.end_;rw[e10];exact this.2⟩
 ·rcases mem_set_cases hg with rfl|⟨q,-,hq⟩
  ·cases hd
  ·exact h.drt g (List.mem_of_getElem? hq) hd
theorem Std.come (h:Std V D L P) (h0:0<=n) (h1:n<P.count) (was:Option Nat):Std V (P.come n was L D).2.2.2.2 (P.come n was L D).2.2.2.1 (P.come n was L D).2.2.1:=by
 have hd:=h.dsk n h0 h1;have hse:=h.se;have hnew:(P.new n D).b∈V (P.new n D).page/\(lsnL (P.new n D).b:Int)<L.end_:=⟨hd.1,Int.lt_of_lt_of_le hd.2 hse⟩
 unfold PK.come;split
 ·exact h
 ·cases was with
  | none =>
   refine⟨h.dsk,fun g hg=>?_,fun g hg hd=>?_,hse⟩
   ·rcases List.mem_append.1 hg with h2|h2
    ·exact h.cur g h2
    ·rw[List.mem_singleton.1 h2];exact hnew
   ·rcases List.mem_append.1 hg with h2|h2
    ·exact h.drt g h2 hd
    ·rw[List.mem_singleton.1 h2] at hd;cases hd
  | some i =>
   refine⟨h.dsk,fun g hg=>?_,fun g hg hd=>?_,hse⟩
   ·rcases mem_set_cases hg with rfl|⟨q,-,hq⟩
    ·exact hnew
    ·exact h.cur g (List.mem_of_getElem? hq)
   ·rcases mem_set_cases hg with rfl|⟨q,-,hq⟩
    ·cases hd
    ·exact h.drt g (List.mem_of_getElem? hq) hd
theorem Std.frame (h:Std V D L P) (hw:Well D L P) (h0:0<=n) (h1:n<P.count) {x:Int×Nat×PK×LK×DK} (hx:FrameP P n L D x):Std V x.2.2.2.2 x.2.2.2.1 x.2.2.1:=by
 cases hx with
 | here i f hi e=>exact h
 | more hnew hroom=>exact h.come h0 h1 none
 | out j f x hnew hfull hj ho =>
  cases ho with
  | clean hd=>exact h.come h0 h1 (some j)
  | bad hd hb =>
   obtain⟨P',L',D',e,-⟩:=write_well hw hj;rw[e] at hb;exact absurd rfl hb
  | good hd hb =>
   have hs:=h.write hw hj;obtain⟨P',L',D',e,hp,hk⟩:=write_well hw hj;rw[e] at hs ⊢;exact hs.come (n:=n) h0 (by rw[hp];exact h1) (some j)
def addV (V:Int->List (List UInt8)) (n:Int) (y:Bool×Int×List UInt8):Int->List (List UInt8):=fun i=>if y.1=true/\i=n then V n++[y.2.2] else V i
theorem addV_mem {y:Bool×Int×List UInt8} (i:Int) (b:List UInt8) (h:b∈V i):b∈addV V n y i:=by
 unfold addV;split
 ·next e=>rw[e.2] at h;exact List.mem_append_left _ h
 ·exact h
theorem addV_new {y:Bool×Int×List UInt8} (h:y.1=true):y.2.2∈addV V n y n:=by
 unfold addV;rw[if_pos ⟨h,rfl⟩];simp
theorem Std.done (h:Std V D L P) (hw:Well D L P) (hc:Pages P D c) {lsn:Int} (h0:0<=n) (h1:n<P.count) (hl1:1<=lsn) (hl:lsn<=9223372036854775807) (hle:lsn<L.end_) {act:List UInt8->Int×List UInt8} (ha:ActOk act)
  {x:Bool×Int×PK×LK×DK} (hx:DoneP P n lsn act L D x):Std (addV V n (doneF (c n) lsn act)) x.2.2.2.2 x.2.2.2.1 x.2.2.1:=by
 have hgot:∀ {i:Nat} {s:PK×LK×DK} {f:FrV},FrameP P n L D (0,i,s)->s.1.frames[i]? = some f->f.b=c n/\f.page=n/\CoreEq s.2.1 L:=fun {i s f} hf hi=>by
  have hg:=frame_well hw h0 h1 hf;obtain⟨f',hf',hp⟩:=hg.fr;rw[hi] at hf'
  cases hf'
  exact⟨(hg.kept.well.cont_at hi).1 (by rw[hp];exact hg.kept.cont n _ h0 (hc n h0 h1).1),hp,hg.kept.core⟩
 cases hx with
 | bad e i s hf he=>exact absurd (frame_well hw h0 h1 hf).ok he
 | was i s f hf hi hlt=>exact (h.frame hw h0 h1 hf).mono addV_mem
 | not i s f hf hi hlt hne=>exact (h.frame hw h0 h1 hf).mono addV_mem
 | did i s f hf hi hlt heq =>
  obtain⟨hfb,hfp,hco⟩:=hgot hf hi;have hs:=h.frame hw h0 h1 hf;rw[hfb] at hlt heq ⊢;have hpg:=(hc n h0 h1).2;have hd:(doneF (c n) lsn act).1=true:=by unfold doneF;simp only;rw[decide_eq_true hlt,decide_eq_true heq];rfl
  have hb:(doneF (c n) lsn act).2.2=setLsnL (act (c n)).2 lsn:=by unfold doneF;simp only;rw[decide_eq_true hlt,decide_eq_true heq];rfl
  have hlsn:lsnL (setLsnL (act (c n)).2 lsn)=lsn.toNat:=(ha _ hpg).lsn (by omega) hl;have hend:=hco.end_;have hfm:=List.mem_of_getElem? hi;obtain⟨P1,L1,D1⟩:=s;refine⟨fun j k0 k1=>⟨addV_mem _ _ (hs.dsk j k0 k1).1,(hs.dsk j k0 k1).2⟩,fun g hg=>?_,fun g hg hdg=>?_,hs.se⟩
  ·rcases mem_set_cases hg with rfl|⟨q,-,hq⟩
   ·refine⟨?_,?_⟩
    ·show setLsnL (act (c n)).2 lsn∈addV V n (doneF (c n) lsn act) f.page;rw[hfp,<- hb];exact addV_new hd
    ·show ((lsnL (setLsnL (act (c n)).2 lsn):Nat):Int)<L1.end_;rw[hlsn,hend];omega
   ·exact⟨addV_mem _ _ (hs.cur g (List.mem_of_getElem? hq)).1,(hs.cur g (List.mem_of_getElem? hq)).2⟩
  ·rcases mem_set_cases hg with rfl|⟨q,-,hq⟩
   ·show 1<=(if f.dirty then f.first else lsn)/\(if f.dirty then f.first else lsn)<=((lsnL (setLsnL (act (c n)).2 lsn):Nat):Int);rw[hlsn];by_cases hfd:f.dirty=true
    ·rw[if_pos hfd];have:=hs.drt f hfm hfd;rw[hfb] at this;omega
    ·rw[if_neg hfd];omega
   ·exact hs.drt g (List.mem_of_getElem? hq) hdg
def doV (V:Int->List (List UInt8)) (r:RecV) (L:LK) (cnt:Int) (c:Int->List UInt8):Int->List (List UInt8) :=
 if argBad r L then V else if pageBad r cnt then V else if r.kind=6 then
  addV (addV V r.page (doneF (c r.page) r.lsn (actNext r.next))) r.next (doneF (doLink r c r.next) r.lsn actNew)
 else addV V r.page (doneF (c r.page) r.lsn (actTurn r.key r.old r.new))
theorem Std.do_ {r:RecV} (h:Std V D L P) (hw:Well D L P) (hc:Pages P D c) (hl:r.lsn<=9223372036854775807) {x:Bool×Int×PK×LK×DK} (hx:DoP P r L D x):Std (doV V r L P.count c) x.2.2.2.2 x.2.2.2.1 x.2.2.1:=by
 unfold doV
 cases hx with
 | arg ha=>rw[if_pos ha];exact h
 | none ha hp=>rw[if_neg ha,if_pos hp];exact h
 | one x ha hp h6 hd =>
  rw[if_neg ha,if_neg hp,if_neg h6];have hp0:0<=r.page/\r.page<P.count:=by unfold pageBad at hp;omega
  have ha0:1<=r.lsn/\r.lsn<L.end_:=by unfold argBad at ha;omega
  exact h.done hw hc hp0.1 hp0.2 ha0.1 hl ha0.2 (actTurn_ok _ _ _) hd
 | bad x ha hp h6 hd he =>
  have hp0:0<=r.page/\r.page<P.count:=by unfold pageBad at hp;omega
  obtain⟨-,-,-,-,e⟩:=done_pages hw hc hp0.1 hp0.2 hl (actNext_ok _) hd;rw[doneF_zero (fun _=>rfl)] at e;exact absurd e he
 | two x y ha hp h6 hd he hd2 =>
  rw[if_neg ha,if_neg hp,if_pos h6];have hp0:(0<=r.page/\r.page<P.count)/\0<=r.next/\r.next<P.count:=by unfold pageBad at hp;omega
  have ha0:1<=r.lsn/\r.lsn<L.end_:=by unfold argBad at ha;omega
  obtain⟨a1,a2,a3,a4,a5⟩:=done_pages hw hc hp0.1.1 hp0.1.2 hl (actNext_ok _) hd;have s1:=h.done hw hc hp0.1.1 hp0.1.2 ha0.1 hl ha0.2 (actNext_ok _) hd;have hend:=a3.core.end_;have s2:=s1.done (c:=doLink r c) a1 a2 hp0.2.1 (by rw[a3.count];exact hp0.2.2) ha0.1 hl (by rw[hend];exact ha0.2) actNew_ok hd2;exact s2
theorem Std.clean (h:Std V D L P) (hw:Well D L P) {x:Int×PK×LK×DK} (hx:CleanP P n L D x):Std V x.2.2.2 x.2.2.1 x.2.1:=by
 cases hx with
 | away hn=>exact h
 | clean i hi hp hd=>exact h
 | write i hi hp hd =>
  exact h.write hw (by rw[List.getElem?_eq_getElem hi,List.getD_eq_getElem?_getD,List.getElem?_eq_getElem hi];rfl)
def LastV (V:Int->List (List UInt8)) (c:Int->List UInt8) (n:Int):Prop:=∀ i,0<=i->i<n->(V i).getLast? = some (c i)
theorem LastV.add {m:Int} (h:LastV V c n) (lsn:Int) (act:List UInt8->Int×List UInt8) (hm:0<=m/\m<n):LastV (addV V m (doneF (c m) lsn act)) (updI c m (doneF (c m) lsn act).2.2) n:=fun i h0 h1=>by
 unfold addV;by_cases hi:i=m
 ·subst hi;rw[updI_at];by_cases hd:(doneF (c i) lsn act).1=true
  ·rw[if_pos ⟨hd,rfl⟩];simp
  ·rw[if_neg (fun e=>hd e.1),h i h0 h1];unfold doneF at hd ⊢;simp only at hd ⊢;rw[if_neg hd]
 ·rw[if_neg (fun e=>hi e.2),updI_ne hi];exact h i h0 h1
end
section
set_option maxHeartbeats 1000000
open Go.RowKit
theorem take_eq_succ {l m:List UInt8} {k:Nat} (hk:k<l.length) (hk2:k<m.length) (h:l.take k=m.take k) (he:l.getD k 0=m.getD k 0):l.take (k+1)=m.take (k+1):=by
 rw[List.take_succ_eq_append_getElem hk,List.take_succ_eq_append_getElem hk2,h];simp only[List.getD,List.getElem?_eq_getElem hk,List.getElem?_eq_getElem hk2,Option.getD_some] at he;rw[he]
theorem SameBytes_any (B:Nat) (a b:Option Addr) (n c m d:Nat) (l k:List UInt8) (w:World) (hl:RB B w a n c l) (hk:RB B w b m d k) :
  Calls Tryz.prog 14 #[.slice a n c,.slice b m d] w fun e w'=>e=.returned (.bool (eqB l k))/\∃ q,w'=w.drewN q:=by
 have hn:=hl.le;have hcm:=hl.mx;have hm:=hk.le;have hdm:=hk.mx;have hln:=hl.len;have hkm:=hk.len;by_cases hne:n=m
 ·subst hne;have hbne:((n:Int) != (n:Int))=false:=by simp
  have Hln:=φ hln;have Hkm:=φ hkm;clear hln hkm;go_enter Tryz.func14,Tryz.ntmps14;go_wp2;go_loopw [5] (fun i wr=>∃ j:Nat,j<=n/\i=.int .i64 j/\Hid (l.take j=k.take j)/\∃ q,wr=w.drewN q) (fun i _=>n-(intOf i).toNat)
  case atStart=>exact⟨0,Nat.zero_le _,rfl,rfl,0,rfl⟩
  case round =>
   obtain⟨j,hj,rfl,ht,q,rfl⟩:=hrel;by_cases hlt:j<n
   ·obtain⟨b1,o1,rfl,-,hc1⟩:=hl.at_ (by omega);obtain⟨b2,o2,rfl,-,hc2⟩:=hk.at_ (by omega);have g1:=hc1 j hlt;have g2:=hc2 j hlt;clear hc1 hc2;go_wp2;go_quiet (fail);go_wp2
    ·go_ret;have e:bt l j≠bt k j:=(by simpa using ‹(bt l j != bt k j)=true›);have:l≠k:=fun h=>e (by rw[h])
     exact⟨congrArg (fun x=>Ending.returned (.bool x)) (eqB_ne this).symm,_,World.drewN_drewN _ _ _⟩
    ·go_roundw
     case rel =>
      have e:bt l j=bt k j:=(by simpa using ‹(bt l j != bt k j)=false›);exact⟨j+1,by omega,by go_num,take_eq_succ (by rw[<- Hln.out];exact hlt) (by rw[<- Hkm.out];exact hlt) ht.out (bt_inj e),_,rfl⟩
     case measure=>simp[intOf];omega
   ·have hge:n<=j:=(by omega);go_wp2;go_ret;have:l=k:=by
     have:=ht.out
     rwa [List.take_of_length_le (by rw[<- Hln.out];exact hge),List.take_of_length_le (by rw[<- Hkm.out];exact hge)] at this
    exact⟨congrArg (fun x=>Ending.returned (.bool x)) (by rw[this,eqB_self]),_,rfl⟩
 ·have hbne:((n:Int) != (m:Int))=true:=by simp;omega
  have hlk:l≠k:=fun h=>hne (by rw[hln,hkm,h])
  clear hln hkm;go_enter Tryz.func14,Tryz.ntmps14;go_wp2;go_ret;exact⟨congrArg (fun x=>Ending.returned (.bool x)) (eqB_ne hlk).symm,0,rfl⟩
end
section
open Go.RowKit Go.Shelf
theorem CopyBytes_any (N:Nat) (a:Option Addr) (n c:Nat) (L:List UInt8) (w:World) (hr:RB N w a n c L) (_hN:N<=w.heap.size) :
  Calls Tryz.prog 85 #[.slice a n c] w fun e w'=>(∃ v,e=.returned v/\OB w.heap.size w' v L)/\Below w.heap.size w w':=by
 have hlm:=hr.lm;have hln:=hr.len;have Hln:=φ hln;clear hln;go_enter Tryz.func85,Tryz.ntmps85;go_wp2_with (at_builtin;refine wpList_append_bytes rfl _ _ rfl w.heap.size N _ [] rfl (OB.nil _ _) _ _ _ L rfl hr (by simp[<- Hln.out];exact hlm) (Nat.le_refl _) ?_;intro v' w' hown' hg _);go_ret;refine⟨⟨_,rfl,by simpa using hown'⟩,(Below.refl _ _).grown hg (Nat.le_refl _) (fun k e=>?_)⟩
 cases e
end
section
open Go.RowKit Go.Shelf
variable {P:Program} {v:Value} {W:World}
structure BelowW (W:World) where
 v:World
 h:Below W.heap.size W v
instance (W:World):Nonempty (BelowW W):=⟨⟨W,Below.refl _ _⟩⟩
theorem wp_region_below {id:Nat} {Q:Exit->Act->World->Prop} {a:Act} {w:World} {l:List Oper} (W:World) (hm:P.follows .mixedOrders=true) (hB:Region.lexB .any l.toArray=true) (hW:Below W.heap.size W w)
  (h:wpQuiet P l.toArray (fun w'=>∃ x:BelowW W,w'=x.v) (fun a'=>∀ w',(∃ x:BelowW W,w'=x.v)->Q .normal a' w') l a):(Code.region id l.toArray true).wp P Q a w:=by
 simp only[Region.lexB,Bool.and_eq_true] at hB;refine wp_region_any hm (wpAny_of_quiet (C:=fun w'=>∃ x:BelowW W,w'=x.v) (Q':=Q) (Q:=fun a'=>∀ w',(∃ x:BelowW W,w'=x.v)->Q .normal a' w') (fun _ w' hw' h=>h w' hw') _ _ _ _ ⟨⟨_,hW.drew⟩,rfl⟩ ?_);have:=wpAnyQ_lex (P:=P) (C:=fun w'=>∃ x:BelowW W,w'=x.v) (md:=.any) hB.1 l.toArray.toList 0 (Array.replicate l.toArray.size false) a (by simp) (by simpa using hB.2) (by simpa using h);simpa using this
theorem below_call {f:FuncId} {args:Array Value} {x:BelowW W} (h:Calls P f args x.v fun e w'=>e=.returned v/\Below x.v.heap.size x.v w'):Calls P f args x.v fun e w'=>e=.returned v/\∃ y:BelowW W,w'=y.v :=
 h.mono fun _ w' ⟨he,hb⟩=>⟨he,⟨w',x.h.trans (hb.mono x.h.size)⟩,rfl⟩
theorem below_call_drew {f:FuncId} {args:Array Value} {x:BelowW W} (h:Calls P f args x.v fun e w'=>e=.returned v/\∃ q,w'=x.v.drewN q):Calls P f args x.v fun e w'=>e=.returned v/\∃ y:BelowW W,w'=y.v :=
 h.mono fun _ w' ⟨he,q,hq⟩=>⟨he,⟨w',by rw[hq];exact δ x.h q⟩,rfl⟩
theorem below_call_same {f:FuncId} {args:Array Value} {x:BelowW W} (h:Calls P f args x.v fun e w'=>e=.returned v/\x.v=w'):Calls P f args x.v fun e w'=>e=.returned v/\∃ y:BelowW W,w'=y.v :=
 h.mono fun _ _w' ⟨he,hq⟩=>⟨he,x,hq.symm⟩
end
end Go.Proofs.YtohlkkannjifmaaGreatDoor
namespace Go.Proofs.YtohlkkannjifmaaGreatDoor.Tx
open Go.RowKit
theorem rows_keep {base size n:Nat} {e:TypeId} {W W':World} {v:Value} {xs:List Value} (h:W.ownsRow base e size v n xs) (hk:∀ b,v.ownBlock=some b->W'.heap[b]? = W.heap[b]?):W'.ownsRow base e size v n xs:=by
 obtain⟨e1,h3|⟨g,cap,cur,hv,hg,hh,r⟩⟩:=h
 ·exact⟨e1,.inl h3⟩
 ·exact⟨e1,.inr ⟨g,cap,cur,hv,hg,(hk g (by rw[hv];rfl)).trans hh,r⟩⟩
theorem rows_ge {base size n:Nat} {e:TypeId} {W:World} {v:Value} {xs:List Value} (h:W.ownsRow base e size v n xs):∀ b,v.ownBlock=some b->base<=b/\b<W.heap.size:=by
 intro b hb;obtain⟨e1,⟨h3,-⟩|⟨g,cap,cur,hv,hg,hh,r⟩⟩:=h
 ·rw[h3] at hb;cases hb
 ·rw[hv] at hb;cases hb
  exact⟨hg,(Array.getElem?_eq_some_iff.1 hh).1⟩
theorem rows_below {base size n:Nat} {e:TypeId} {W W':World} {v:Value} {xs:List Value} (h:W.ownsRow base e size v n xs) (hb:Below W.heap.size W W'):W'.ownsRow base e size v n xs:=rows_keep h (fun b e=>hb.block b (rows_ge h b e).2)
theorem rows_mono {B B' size n:Nat} {e:TypeId} {W:World} {v:Value} {xs:List Value} (h:W.ownsRow B e size v n xs) (hb:B'<=B):W.ownsRow B' e size v n xs:=by
 obtain⟨e1,h3|⟨g,cap,cur,hv,hg,r⟩⟩:=h
 ·exact⟨e1,.inl h3⟩
 ·exact⟨e1,.inr ⟨g,cap,cur,hv,Nat.le_trans hb hg,r⟩⟩
theorem rows_form {base size n:Nat} {e:TypeId} {W:World} {v:Value} {xs:List Value} (h:W.ownsRow base e size v n xs):∃ a c,v=.slice a n c/\n<=c/\c<=9223372036854775807/\(0<n->∃ g,a=some ⟨g,0,none⟩):=by
 obtain⟨e1,⟨h3,h4⟩|⟨g,cap,cur,hv,hg,hh,hle,hcap,r⟩⟩:=h
 ·exact⟨none,0,by rw[h3,h4],by omega,by omega,fun h=>by omega⟩
 ·exact⟨_,cap,hv,hle,by simpa [maxLen] using hcap,fun _=>⟨g,rfl⟩⟩
theorem append_keepC {P:Program} {w:World} {base n m cs:Nat} {v:Value} {X Q:List Value} (t ty e:TypeId) (i0:TypeInfo) (z:Value) (hu:P.underlying t=some (.slice e)) (hi:P.info? e=some i0) (hz0:i0.zero=some z) (hz1:i0.size=cs) (hzc:z.cells.size=cs)
  (h:w.ownsRow base e cs v n X) (sa:Option Addr) (c:Nat) (hsrc:∃ ad,sa=some ad/\∀ j u,Q[j]? = some u->w.cell? (ad.add j)=some u) (hone:∀ u∈Q,u.oneCell'=true)
  (hQ:Q.length=m*cs) (hm:0<m) (hbase:base<=w.heap.size) (hsize:(n+m)*i0.bytes<=140737488355328) (hcnt:n+m<=140737488355328) :
  ∃ g cap w',(Builtin.append_ #[t,t] ty #[v,.slice sa m c]).run P w=.ok (.slice (some ⟨g,0,none⟩) (n+m) cap) w'/\w'.ownsRow base e cs (.slice (some ⟨g,0,none⟩) (n+m) cap) (n+m) (X++Q)/\w'.ownsRow base e cs v n X /\
   w.grownBy w' v.ownBlock/\(v.ownBlock=some g∨g=w.heap.size):=by
 obtain⟨ad,rfl,hcell⟩:=hsrc;have hlX:=h.1;have hnews:Q.length=m*i0.size:=by rw[hz1];exact hQ
 have hall:(X++Q).length=(n+m)*cs:=by rw[List.length_append,hlX,hQ,Nat.add_mul]
 have grown:∀ old,old<n+m->(w.drew.alloc (.cells (X.toArray++Q.toArray++Builtin.zeroCells z.cells (grownCap w (n+m) old e-(n+m))) e)).ownsRow base e cs
   (.slice (some ⟨w.heap.size,0,none⟩) (n+m) (grownCap w (n+m) old e)) (n+m) (X++Q):=by
  intro old ho;have hge:=grownCap_ge w (n+m) old e;have hcm:grownCap w (n+m) old e<=maxLen:=grownCap_le_maxLen w (n+m) old e (by simp only[maxLen];omega);refine⟨hall,.inr ⟨w.heap.size,_,_,rfl,hbase,heap_alloc_new w.drew _,hge,hcm,?_,?_⟩⟩
  ·simp only[Array.size_append,List.size_toArray,size_zeroCells,hzc,hlX,hQ];rw[<- Nat.add_mul,<- Nat.add_mul]
   congr 1
   omega
  ·simp only[Array.toList_append];rw[<- hall];exact List.take_left
 have hkeep:∀ o,(w.drew.alloc o).ownsRow base e cs v n X:=fun o=>rows_below h ((Below.refl _ w).drew.alloc (Nat.le_refl _) o)
 have hgrw:∀ o row,w.grownBy (w.drew.alloc o) row:=fun o row=>⟨rfl,rfl,rfl,by simp,fun k hk _=>((Below.refl w.heap.size w).drew.alloc (Nat.le_refl _) o).block k hk⟩
 obtain⟨h1,⟨rfl,h0⟩|⟨g,cap,cur,rfl,hg,hh,hle,hcap,hcs,htk⟩⟩:=id h
 ·subst h0;have hX:X=[]:=List.eq_nil_of_length_eq_zero (by rw[h1];simp);subst hX;have hr:=run_append_nil (P:=P) w t ty e i0 _ hu hi hz0 ad m c Q hnews hcell hm (by omega) (by simp only[Nat.zero_add] at hsize;omega);have hgr:=grown 0 (by omega);simp only[Nat.zero_add,List.nil_append,Array.empty_append] at hgr ⊢;exact⟨_,_,_,hr,hgr,World.ownsRow_nil _ _ _ _,hgrw _ _,.inr rfl⟩
 ·by_cases hroom:n+m<=cap
  ·have hfit:n*i0.size+Q.length<=cur.size:=by rw[hz1,hcs,hQ,<- Nat.add_mul];exact Nat.mul_le_mul_right _ hroom
   have hr:=run_append_room (P:=P) w t ty e i0 hu hi g n cap cur hh ad m c Q hnews hcell hone hroom hfit;rw[hz1,htk] at hr;have hnew:=setRow_heap w g cur (X++Q++cur.toList.drop (n*cs+Q.length)).toArray e (0,0) hh;have hle2:n*cs+Q.length<=cap*cs:=by rw[hQ,<- Nat.add_mul];exact Nat.mul_le_mul_right _ hroom
   have hsz2:(X++Q++cur.toList.drop (n*cs+Q.length)).toArray.size=cap*cs:=by
    simp only[List.size_toArray,List.length_append,List.length_drop,Array.length_toList,hlX,hcs];omega
   refine⟨g,cap,_,hr,⟨hall,.inr ⟨g,cap,_,rfl,hg,hnew,hroom,hcap,hsz2,?_⟩⟩,⟨h1,.inr ⟨g,cap,_,rfl,hg,hnew,hle,hcap,hsz2,?_⟩⟩,⟨rfl,rfl,rfl,by simp,fun k _ hk=>setRow_other w g k _ (fun e=>hk (by simp[Value.ownBlock,e]))⟩,.inl rfl⟩
   ·rw[<- hall];exact List.take_left
   ·show (X++Q++_).take (n*cs)=X;rw[List.append_assoc,<- hlX];exact List.take_left
  ·have holds:∀ j u,X[j]? = some u->w.cell? ((⟨g,0,none⟩:Addr).add j)=some u:=World.ownsRow.cells (g:=g) h rfl;have hr:=run_append_grow (P:=P) w t ty e i0 _ hu hi hz0 ⟨g,0,none⟩ n cap X (by rw[hz1];exact hlX) holds ad m c Q hnews hcell (by omega) (by omega) (growslice_fits (by omega) hsize);exact⟨_,_,_,hr,grown cap (by omega),hkeep _,hgrw _ _,.inr rfl⟩
section
variable {e le:TypeId} {cs:Nat} {T:World->List Value->Nat->Nat->Prop} {B N K:Nat} {V:Nat->Value} {n I:Nat->Nat} {w w':World}
end
section
variable {e le:TypeId} {cs:Nat} {T:World->List Value->Nat->Nat->Prop} {B N M gb K k:Nat} {V:Nat->Value} {n I m J:Nat->Nat} {w w' w0:World}
end
end Go.Proofs.YtohlkkannjifmaaGreatDoor.Tx
namespace Go.Proofs.YtohlkkannjifmaaGreatDoor
section
open Go.RowKit Tx
structure Ek (α:Type) where
 e:TypeId
 t:TypeId
 k:Nat
 bytes:Nat
 z:Value
 enc:α->List Value
 ok:α->Prop
 len:∀ x,(enc x).length=k
 one:∀ x,∀ u∈enc x,u.oneCell'=true
 kpos:0<k
 under:Tryz.prog.underlying t=some (.slice e)
 info:(Tryz.prog.info? e).map (fun i=>(i.zero,i.size,i.bytes))=some (some z,k,bytes)
 zc:z.cells.size=k
 small:bytes<=1000
namespace Ek
section
variable {α:Type} (E:Ek α)
def cells (X:List α):List Value:=X.flatMap E.enc
theorem cells_len:∀ X:List α,(E.cells X).length=X.length*E.k
 | []=>by simp[cells]
 | x::X=>by
  have:=cells_len X;unfold cells at *;rw[List.flatMap_cons,List.length_append,this,E.len,List.length_cons,Nat.add_mul];omega
theorem cells_append (X Y:List α):E.cells (X++Y)=E.cells X++E.cells Y:=by simp[cells]
theorem cells_one {X:List α}:∀ u∈E.cells X,u.oneCell'=true:=by
 intro u hu;obtain⟨x,-,hx⟩:=List.mem_flatMap.1 hu;exact E.one x u hx
theorem cells_sing (x:α):E.cells [x]=E.enc x:=by simp[cells]
def Own (base:Nat) (w:World) (v:Value) (X:List α):Prop:=w.ownsRow base E.e E.k v X.length (E.cells X)
theorem Own.nil (base:Nat) (w:World):E.Own base w (.slice none 0 0) []:=World.ownsRow_nil _ _ _ _
variable {E}
theorem Own.mono {B B':Nat} {w:World} {v:Value} {X:List α} (h:E.Own B w v X) (hb:B'<=B):E.Own B' w v X:=Tx.rows_mono h hb
theorem Own.ge {base:Nat} {W:World} {v:Value} {X:List α} (h:E.Own base W v X):∀ b,v.ownBlock=some b->base<=b/\b<W.heap.size:=Tx.rows_ge h
theorem Own.below {base:Nat} {W W':World} {v:Value} {X:List α} (h:E.Own base W v X) (hb:Below W.heap.size W W'):E.Own base W' v X:=Tx.rows_below h hb
theorem Own.drew {base:Nat} {W:World} {v:Value} {X:List α} (h:E.Own base W v X):E.Own base W.drew v X:=h
theorem Own.form {base:Nat} {W:World} {v:Value} {X:List α} (h:E.Own base W v X):∃ a c,v=.slice a X.length c/\X.length<=c/\c<=9223372036854775807/\(0<X.length->∃ g,a=some ⟨g,0,none⟩):=Tx.rows_form h
theorem Own.lit {base:Nat} (w:World) (X:List α) (cs:Array Value) (hcs:cs=(E.cells X).toArray) (hb:base<=w.heap.size) (hX:X.length<=1000):E.Own base (w.alloc (.cells cs E.e)) (.slice (some ⟨w.heap.size,0,none⟩) X.length X.length) X:=by
 have:=World.ownsRow_lit (e:=E.e) (size:=E.k) w cs X.length hb (by unfold maxLen;omega) (by rw[hcs];simp[E.cells_len]);unfold Own;rw[hcs] at this ⊢;simpa using this
theorem one_lit (W:World) (x:α) (cs:Array Value) (t:TypeId) (hcs:cs=(E.enc x).toArray):∀ j u,(E.cells [x])[j]? = some u->(W.alloc (.cells cs t)).cell? ((⟨W.heap.size,0,none⟩:Addr).add j)=some u:=by
 intro j u hu;have e:(⟨W.heap.size,0,none⟩:Addr).add j=⟨W.heap.size,0+j,none⟩:=by unfold Addr.add;split<;>simp_all
 rw[e];simp only[World.cell?,(Go.MapKept.heap_alloc W _).1];rw[E.cells_sing] at hu;subst hcs;simpa using hu
theorem info' (E:Ek α):∃ i0,Tryz.prog.info? E.e=some i0/\i0.zero=some E.z/\i0.size=E.k/\i0.bytes=E.bytes:=by
 obtain⟨i,hi,hzz⟩:=Option.map_eq_some_iff.1 E.info;simp only[Prod.mk.injEq] at hzz;exact⟨i,hi,hzz⟩
theorem run_append {w:World} {base:Nat} {v:Value} {X Y:List α} (h:E.Own base w v X) (ty:TypeId) (sa:Option Addr) (c:Nat) (hsrc:∃ ad,sa=some ad/\∀ j u,(E.cells Y)[j]? = some u->w.cell? (ad.add j)=some u) (hY:0<Y.length)
  (hbase:base<=w.heap.size) (hl:X.length+Y.length<=1000000000) :
  ∃ g cap w',(Builtin.append_ #[E.t,E.t] ty #[v,.slice sa Y.length c]).run Tryz.prog w=.ok (.slice (some ⟨g,0,none⟩) (X.length+Y.length) cap) w'/\E.Own base w' (.slice (some ⟨g,0,none⟩) (X.length+Y.length) cap) (X++Y)/\E.Own base w' v X/\w.grownBy w' v.ownBlock/\(v.ownBlock=some g∨g=w.heap.size):=by
 obtain⟨i0,hi,hz0,hz1,hz2⟩:=E.info';have hsm:=E.small;obtain⟨g,cap,w',hr,h1,h2,h3,h4⟩:=append_keepC (P:=Tryz.prog) (m:=Y.length) (cs:=E.k) (Q:=E.cells Y) E.t ty E.e i0 E.z E.under hi hz0 hz1 E.zc h sa c hsrc E.cells_one (E.cells_len Y) hY hbase
  (by
   rw[hz2]
   calc (X.length+Y.length)*E.bytes<=1000000000*1000:=Nat.mul_le_mul hl hsm
    _<=140737488355328:=by decide) (by omega)
 refine⟨g,cap,w',hr,?_,h2,h3,h4⟩;unfold Own;rw[List.length_append,E.cells_append];exact h1
theorem wpList_append1 {w:World} {ops:Array Oper} {rest:List Oper} {o:Oper} {a:Act} {K:Exit->Act->World->Prop} (E:Ek α) (hgd:o.guard=none) (s x:Operand)
  (ho:o.op=.call { callee:=.builtin .append,args:=#[s,x],argTypes:=#[E.t,E.t] }) (base:Nat) (v:Value) (X:List α) (y:α) (m:Nat) (hm:m=X.length+1) (hs:a.eval s=v) (h:E.Own base w v X) (ad:Addr) (c:Nat)
  (hx:a.eval x=.slice (some ad) 1 c) (hsrc:∀ j u,(E.cells [y])[j]? = some u->w.cell? (ad.add j)=some u) (hbase:base<=w.heap.size) (hl:X.length<=100000000)
  (hK:∀ g cap w',E.Own base w' (.slice (some ⟨g,0,none⟩) m cap) (X++[y])->w.grownBy w' v.ownBlock->(v.ownBlock=some g∨g=w.heap.size)->wpList Tryz.prog ops K rest (a.put o.dst (.slice (some ⟨g,0,none⟩) m cap)) w'):wpList Tryz.prog ops K (o::rest) a w:=by
 subst hm;obtain⟨g,cap,w',hr,h1,h2,h3,h4⟩:=run_append h o.type (some ad) c ⟨ad,rfl,hsrc⟩ (Y:=[y]) (by simp) hbase (by simp;omega);refine wpList_plain hgd fun K' hK'=>?_
 unfold Oper.wp execOp;simp only[List.length_singleton] at hr;simp only[ho,resolve,invoke,builtin,Sem.run_bind,Sem.run_pure,Result.andThen_ok,List.map_toArray,List.map_cons,List.map_nil,hs,hx,hr];exact hK' _ _ (hK g cap w' h1 h3 h4)
theorem step_append1 {w:World} {ops:Array Oper} {o:Oper} {a:Act} {K:Act->World->Prop} {Q:Exit->Act->World->Prop} {Z:Prop} (E:Ek α) (hgd:o.guard=none) (s x:Operand)
  (ho:o.op=.call { callee:=.builtin .append,args:=#[s,x],argTypes:=#[E.t,E.t] }) (base:Nat) (v:Value) (X:List α) (y:α) (m:Nat) (hm:m=X.length+1) (hs:a.eval s=v) (h:E.Own base w v X) (ad:Addr) (c:Nat)
  (hx:a.eval x=.slice (some ad) 1 c) (hsrc:∀ j u,(E.cells [y])[j]? = some u->w.cell? (ad.add j)=some u) (hbase:base<=w.heap.size) (hl:X.length<=100000000)
  (hK:∀ g cap w',E.Own base w' (.slice (some ⟨g,0,none⟩) m cap) (X++[y])->w.grownBy w' v.ownBlock->(v.ownBlock=some g∨g=w.heap.size)->K (a.put o.dst (.slice (some ⟨g,0,none⟩) m cap)) w') :
  if Region.wanted o (yielded ops a.tmps)=true then Oper.wp Tryz.prog o a w K Q else Z:=by
 have hw:Region.wanted o (yielded ops a.tmps)=true:=by simp[Region.wanted,hgd]
 rw[if_pos hw];subst hm;obtain⟨g,cap,w',hr,h1,h2,h3,h4⟩:=run_append h o.type (some ad) c ⟨ad,rfl,hsrc⟩ (Y:=[y]) (by simp) hbase (by simp;omega);unfold Oper.wp execOp;simp only[List.length_singleton] at hr;simp only[ho,resolve,invoke,builtin,Sem.run_bind,Sem.run_pure,Result.andThen_ok,List.map_toArray,List.map_cons,List.map_nil,hs,hx,hr];exact hK g cap w' h1 h3 h4
theorem wpList_append0 {w:World} {ops:Array Oper} {rest:List Oper} {o:Oper} {a:Act} {K:Exit->Act->World->Prop} (E:Ek α) (hgd:o.guard=none) (s x:Operand)
  (ho:o.op=.call { callee:=.builtin .append,args:=#[s,x],argTypes:=#[E.t,E.t] }) (Y:List α) (hs:a.eval s=.slice none 0 0) (sa:Option Addr) (m c:Nat)
  (hx:a.eval x=.slice sa m c) (hm:m=Y.length) (hsrc:0<Y.length->∃ ad,sa=some ad/\∀ j u,(E.cells Y)[j]? = some u->w.cell? (ad.add j)=some u) (hl:Y.length<=1000000000)
  (hK:∀ a' c' w',E.Own w.heap.size w' (.slice a' m c') Y->Below w.heap.size w w'->wpList Tryz.prog ops K rest (a.put o.dst (.slice a' m c')) w'):wpList Tryz.prog ops K (o::rest) a w:=by
 subst hm;by_cases h0:Y.length=0
 ·obtain rfl:Y=[]:=List.eq_nil_of_length_eq_zero h0;obtain⟨i0,hi,-⟩:=E.info';have hr:=run_append_nothing (P:=Tryz.prog) w E.t o.type E.e i0 E.under hi none sa 0 0 c (Nat.le_refl _);refine wpList_plain hgd fun K' hK'=>?_
  unfold Oper.wp execOp;simp only[List.length_nil] at hx;simp only[ho,resolve,invoke,builtin,Sem.run_bind,Sem.run_pure,Result.andThen_ok,List.map_toArray,List.map_cons,List.map_nil,hs,hx,hr];exact hK' _ _ (hK none 0 w (Own.nil E _ _) (Below.refl _ _))
 ·obtain⟨g,cap,w',hr,h1,h2,h3,h4⟩:=run_append (Own.nil E w.heap.size w) o.type sa c (hsrc (by omega)) (by omega) (Nat.le_refl _) (by simpa using hl);refine wpList_plain hgd fun K' hK'=>?_
  unfold Oper.wp execOp;simp only[List.length_nil,Nat.zero_add,List.nil_append] at hr h1;simp only[ho,resolve,invoke,builtin,Sem.run_bind,Sem.run_pure,Result.andThen_ok,List.map_toArray,List.map_cons,List.map_nil,hs,hx,hr];exact hK' _ _ (hK _ cap w' h1 ((Below.refl _ w).grown h3 (Nat.le_refl _) (fun k e=>by cases e)))
end
section
variable {α:Type} [Inhabited α] (E:Ek α)
theorem cells_at:∀ (X:List α) (i j:Nat),i<X.length->j<E.k->(E.cells X)[i*E.k+j]? = (E.enc (X.getD i default))[j]?
 | [],i,j,h,_=>by simp at h
 | x::X,0,j,_,hj=>by
  unfold cells;rw[List.flatMap_cons,List.getElem?_append_left (by rw[E.len];omega)];simp
 | x::X,i+1,j,h,hj=>by
  have ih:=cells_at X i j (by simpa using h) hj;unfold cells at *;rw[List.flatMap_cons,List.getElem?_append_right (by rw[E.len,Nat.add_mul];omega),E.len,Nat.add_mul,Nat.one_mul];rw[show i*E.k+E.k+j-E.k=i*E.k+j by omega,ih];rfl
structure In (B:Nat) (w:World) (a:Option Addr) (n c:Nat) (X:List α):Prop where
 len:n=X.length
 le:n<=c
 mx:c<=9223372036854775807
 fine:∀ x∈X,E.ok x
 at_:0<c->∃ b o,a=some ⟨b,o,none⟩/\b<B/\∀ i,i<n->∀ j,j<E.k->w.cell? ⟨b,o+i*E.k+j,none⟩=(E.enc (X.getD i default))[j]?
variable {E}
theorem In.below {B:Nat} {w w':World} {a:Option Addr} {n c:Nat} {X:List α} (h:E.In B w a n c X) (hb:Below B w w'):E.In B w' a n c X:=by
 refine⟨h.len,h.le,h.mx,h.fine,fun hc=>?_⟩;obtain⟨b,o,e,hB,hcell⟩:=h.at_ hc;exact⟨b,o,e,hB,fun i hi j hj=>(hb.cell hB).trans (hcell i hi j hj)⟩
theorem In.mono {B B':Nat} {w:World} {a:Option Addr} {n c:Nat} {X:List α} (h:E.In B w a n c X) (hb:B<=B'):E.In B' w a n c X:=by
 refine⟨h.len,h.le,h.mx,h.fine,fun hc=>?_⟩;obtain⟨b,o,e,hB,hcell⟩:=h.at_ hc;exact⟨b,o,e,Nat.lt_of_lt_of_le hB hb,hcell⟩
theorem In.src {B:Nat} {w:World} {a:Option Addr} {n c:Nat} {X:List α} (h:E.In B w a n c X):0<X.length->∃ ad,a=some ad/\∀ j u,(E.cells X)[j]? = some u->w.cell? (ad.add j)=some u:=by
 intro h0;have hc:0<c:=by have:=h.le;have:=h.len;omega
 obtain⟨b,o,rfl,-,hcell⟩:=h.at_ hc;refine⟨_,rfl,fun j u hu=>?_⟩;have hj:j<X.length*E.k:=by
  rw[<- E.cells_len];rcases Nat.lt_or_ge j (E.cells X).length with h1|h1
  ·exact h1
  ·rw[List.getElem?_eq_none h1] at hu;cases hu
 have hk:=E.kpos;have hi:j / E.k<X.length:=Nat.div_lt_of_lt_mul (by rw[Nat.mul_comm];exact hj);have hm:j % E.k<E.k:=Nat.mod_lt _ hk;have e1:j / E.k*E.k+j % E.k=j:=Nat.div_add_mod' j E.k;have hat:=E.cells_at X (j / E.k) (j % E.k) hi hm;rw[e1,hu] at hat;have e:(⟨b,o,none⟩:Addr).add j=⟨b,o+j / E.k*E.k+j % E.k,none⟩:=by
  unfold Addr.add;rw[Nat.add_assoc,e1];split<;>simp_all
 rw[e,hcell _ (by rw[h.len];exact hi) _ hm];exact hat.symm
theorem In.nil (B:Nat) (w:World):E.In B w none 0 0 []:=⟨rfl,Nat.le_refl _,by omega,fun x hx=>(by cases hx),fun h=>absurd h (Nat.lt_irrefl _)⟩
theorem In.take {B:Nat} {w:World} {a:Option Addr} {n c:Nat} {X:List α} (h:E.In B w a n c X) (m:Nat) (hm:m<=n):E.In B w a m c (X.take m):=by
 refine⟨by rw[List.length_take];have:=h.len;omega,Nat.le_trans hm h.le,h.mx,fun x hx=>h.fine x (List.mem_of_mem_take hx),fun hc=>?_⟩;obtain⟨b,o,e,hB,hcell⟩:=h.at_ hc;refine⟨b,o,e,hB,fun i hi j hj=>?_⟩;rw[hcell i (by omega) j hj,List.getD_eq_getElem?_getD,List.getD_eq_getElem?_getD,List.getElem?_take,if_pos hi]
theorem Own.cell {base g n c:Nat} {W:World} {X:List α} (h:E.Own base W (.slice (some ⟨g,0,none⟩) n c) X):n=X.length/\n<=c/\c<=9223372036854775807/\base<=g/\g<W.heap.size/\∀ i,i<n->∀ j,j<E.k->W.cell? ⟨g,i*E.k+j,none⟩=(E.enc (X.getD i default))[j]?:=by
 obtain⟨h1,⟨h2,-⟩|⟨g',cap,cur,hv,hg,hh,hle,hcap,hsz,htk⟩⟩:=id h
 ·cases h2
 ·cases hv
  refine⟨rfl,hle,by simpa [maxLen] using hcap,hg,(Array.getElem?_eq_some_iff.1 hh).1,fun i hi j hj=>?_⟩;have hat:=E.cells_at X i j hi hj;rw[<- htk] at hat;have hlt:i*E.k+j<X.length*E.k:=by
   have:(i+1)*E.k<=X.length*E.k:=Nat.mul_le_mul_right _ hi;rw[Nat.add_mul] at this;omega
  rw[List.getElem?_take,if_pos hlt] at hat;rw[<- hat];simp[World.cell?,hh]
theorem Own.in_ {base:Nat} {W:World} {v:Value} {X:List α} (h:E.Own base W v X) (hf:∀ x∈X,E.ok x):∃ a c,v=.slice a X.length c/\E.In W.heap.size W a X.length c X:=by
 obtain⟨a,c,rfl,hle,hmx,ha⟩:=h.form;by_cases h0:0<X.length
 ·obtain⟨g,rfl⟩:=ha h0;obtain⟨-,-,-,-,hg,hcell⟩:=h.cell;exact⟨_,c,rfl,⟨rfl,hle,hmx,hf,fun _=>⟨g,0,rfl,hg,fun i hi j hj=>by rw[Nat.zero_add];exact hcell i hi j hj⟩⟩⟩
 ·obtain⟨h1,⟨h2,h3⟩|⟨g',cap,cur,hv,hg,hh,-⟩⟩:=id h
  ·injection h2 with e1 e2 e3
   subst e1;exact⟨none,c,rfl,⟨rfl,hle,hmx,hf,fun h=>by omega⟩⟩
  ·injection hv with e1 e2 e3
   subst e1;exact⟨_,c,rfl,⟨rfl,hle,hmx,hf,fun _=>⟨g',0,rfl,(Array.getElem?_eq_some_iff.1 hh).1,fun i hi=>by omega⟩⟩⟩
theorem wpList_append2 {w:World} {ops:Array Oper} {rest:List Oper} {o:Oper} {a:Act} {K:Exit->Act->World->Prop} (E:Ek α) (hgd:o.guard=none) (s x:Operand)
  (ho:o.op=.call { callee:=.builtin .append,args:=#[s,x],argTypes:=#[E.t,E.t] }) (base g0 n0 c0:Nat) (X Y:List α) (hs:a.eval s=.slice (some ⟨g0,0,none⟩) n0 c0) (h:E.Own base w (.slice (some ⟨g0,0,none⟩) n0 c0) X) (sa:Option Addr) (m c:Nat)
  (hx:a.eval x=.slice sa m c) (hm:m=Y.length) (hsrc:0<Y.length->∃ ad,sa=some ad/\∀ j u,(E.cells Y)[j]? = some u->w.cell? (ad.add j)=some u) (hbase:base<=w.heap.size) (hl:X.length+Y.length<=1000000000)
  (hK:∀ g' c' w',(n0+m<=c'/\c'<=9223372036854775807)->E.Own base w' (.slice (some ⟨g',0,none⟩) (n0+m) c') (X++Y)->w.grownBy w' (some g0)->wpList Tryz.prog ops K rest (a.put o.dst (.slice (some ⟨g',0,none⟩) (n0+m) c')) w'):wpList Tryz.prog ops K (o::rest) a w:=by
 subst hm;obtain⟨hn0,hle,hmx,-⟩:=h.cell;subst hn0;by_cases h0:Y.length=0
 ·obtain rfl:Y=[]:=List.eq_nil_of_length_eq_zero h0;obtain⟨i0,hi,-⟩:=E.info';have hr:=run_append_nothing (P:=Tryz.prog) w E.t o.type E.e i0 E.under hi (some ⟨g0,0,none⟩) sa X.length c0 c hle;refine wpList_plain hgd fun K' hK'=>?_
  unfold Oper.wp execOp;simp only[List.length_nil] at hx;simp only[ho,resolve,invoke,builtin,Sem.run_bind,Sem.run_pure,Result.andThen_ok,List.map_toArray,List.map_cons,List.map_nil,hs,hx,hr];exact hK' _ _ (hK g0 c0 w (by simpa using ⟨hle,hmx⟩) (by simpa using h) ⟨rfl,rfl,rfl,Nat.le_refl _,fun _ _ _=>rfl⟩)
 ·obtain⟨g,cap,w',hr,h1,h2,h3,h4⟩:=run_append h o.type sa c (hsrc (by omega)) (by omega) hbase hl;refine wpList_plain hgd fun K' hK'=>?_
  unfold Oper.wp execOp;simp only[ho,resolve,invoke,builtin,Sem.run_bind,Sem.run_pure,Result.andThen_ok,List.map_toArray,List.map_cons,List.map_nil,hs,hx,hr];have hc:=h1.cell;exact hK' _ _ (hK g cap w' ⟨hc.2.1,hc.2.2.1⟩ h1 h3)
end
end Ek
end
section
set_option maxHeartbeats 1000000
set_option maxRecDepth 100000
open Go.RowKit
variable {X:List (Int×Int)} {B c n:Nat} {a:Option Addr} {w:World}
def encPr (x:Int×Int):List Value:=[.int .i64 x.1,.int .i64 x.2]
def okPr (x:Int×Int):Prop:=(-9223372036854775808<=x.1/\x.1<=9223372036854775807)/\(-9223372036854775808<=x.2/\x.2<=9223372036854775807)
theorem dirtyE_info:(Tryz.prog.info? 80).map (fun i=>(i.zero,i.size,i.bytes))=some (some (.agg #[.int .i64 0,.int .i64 0]),2,16):=by kernel_rfl
theorem openE_info:(Tryz.prog.info? 200).map (fun i=>(i.zero,i.size,i.bytes))=some (some (.agg #[.int .i64 0,.int .i64 0]),2,16):=by kernel_rfl
def dirtyE:Ek (Int×Int) where
 e:=80
 t:=30
 k:=2
 bytes:=16
 z:=.agg #[.int .i64 0,.int .i64 0]
 enc:=encPr
 ok:=okPr
 len:=fun _=>rfl
 one:=fun x u hu=>by
  unfold encPr at hu;simp only[List.mem_cons,List.not_mem_nil,or_false] at hu;rcases hu with rfl|rfl<;>rfl
 kpos:=by decide
 under:=Tryz.underlying30
 info:=dirtyE_info
 zc:=rfl
 small:=by decide
def openE:Ek (Int×Int) where
 e:=200
 t:=31
 k:=2
 bytes:=16
 z:=.agg #[.int .i64 0,.int .i64 0]
 enc:=encPr
 ok:=okPr
 len:=fun _=>rfl
 one:=fun x u hu=>by
  unfold encPr at hu;simp only[List.mem_cons,List.not_mem_nil,or_false] at hu;rcases hu with rfl|rfl<;>rfl
 kpos:=by decide
 under:=Tryz.underlying31
 info:=openE_info
 zc:=rfl
 small:=by decide
theorem dirtyE_pi (h:dirtyE.In B w a n c X) (hn:n<=1000000000):PI B w a n c X :=
 ⟨h.len,h.le,h.mx,hn,fun hc=>by
  obtain⟨b,o,e,hb,hcell⟩:=h.at_ hc;exact⟨b,o,e,hb,fun i hi=>⟨hcell i hi 0 (by decide),hcell i hi 1 (by decide)⟩⟩⟩
theorem openE_pi (h:openE.In B w a n c X) (hn:n<=1000000000):PI B w a n c X :=
 ⟨h.len,h.le,h.mx,hn,fun hc=>by
  obtain⟨b,o,e,hb,hcell⟩:=h.at_ hc;exact⟨b,o,e,hb,fun i hi=>⟨hcell i hi 0 (by decide),hcell i hi 1 (by decide)⟩⟩⟩
theorem CopyDirties_any (N:Nat) (a:Option Addr) (n c:Nat) (L:List (Int×Int)) (w:World) (hr:dirtyE.In N w a n c L) (hs:n<=1000000000) :
  Calls Tryz.prog 39 #[.slice a n c] w fun e w'=>(∃ a' c',e=.returned (.slice a' n c')/\dirtyE.Own w.heap.size w' (.slice a' n c') L)/\Below w.heap.size w w':=by
 have hln:=hr.len;have Hln:=φ hln;have Hr:=φ hr;clear hr hln;go_enter Tryz.func39,Tryz.ntmps39;go_wp2_with (at_builtin;refine Ek.wpList_append0 dirtyE rfl _ _ rfl L rfl _ n _ rfl Hln.out (Hr.out).src (by have:=Hln.out;omega) ?_;intro a2 c2 w2 hown2 hb2);go_ret;exact⟨⟨_,_,rfl,hown2⟩,hb2⟩
theorem CopyOpens_any (N:Nat) (a:Option Addr) (n c:Nat) (L:List (Int×Int)) (w:World) (hr:openE.In N w a n c L) (hs:n<=1000000000) :
  Calls Tryz.prog 40 #[.slice a n c] w fun e w'=>(∃ a' c',e=.returned (.slice a' n c')/\openE.Own w.heap.size w' (.slice a' n c') L)/\Below w.heap.size w w':=by
 have hln:=hr.len;have Hln:=φ hln;have Hr:=φ hr;clear hr hln;go_enter Tryz.func40,Tryz.ntmps40;go_wp2_with (at_builtin;refine Ek.wpList_append0 openE rfl _ _ rfl L rfl _ n _ rfl Hln.out (Hr.out).src (by have:=Hln.out;omega) ?_;intro a2 c2 w2 hown2 hb2);go_ret;exact⟨⟨_,_,rfl,hown2⟩,hb2⟩
end
end Go.Proofs.YtohlkkannjifmaaGreatDoor
