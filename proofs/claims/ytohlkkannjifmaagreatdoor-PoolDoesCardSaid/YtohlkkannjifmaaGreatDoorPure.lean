import Derived.Test.YtohlkkannjifmaaGreatDoorPageH
namespace Go.Proofs.YtohlkkannjifmaaGreatDoor
open Go.RowKit Go.Shelf
variable {a b h k n:List UInt8} {i:Nat}
abbrev cb:=Lib.compareBytes
theorem cb_self:∀ a:List UInt8,cb a a=0
 | []=>by simp[cb,Lib.compareBytes]
 | x::a=>by
  have:=cb_self a;unfold cb Lib.compareBytes;rw[if_neg (UInt8.lt_irrefl x),if_neg (UInt8.lt_irrefl x)];exact this
theorem cb_zero:∀ {a b:List UInt8},cb a b=0->a=b
 | [],[],_=>rfl
 | [],_::_,h=>by simp[cb,Lib.compareBytes] at h
 | _::_,[],h=>by simp[cb,Lib.compareBytes] at h
 | x::a,y::b,h=>by
  unfold cb Lib.compareBytes at h;split at h
  ·simp at h
  ·split at h
   ·simp at h
   ·rename_i h1 h2;have hxy:x=y:=UInt8.le_antisymm (UInt8.not_lt.1 h2) (UInt8.not_lt.1 h1);rw[hxy,cb_zero h]
theorem cb_anti:∀ (a b:List UInt8),cb a b=- cb b a
 | [],[]=>by simp[cb,Lib.compareBytes]
 | [],_::_=>by simp[cb,Lib.compareBytes]
 | _::_,[]=>by simp[cb,Lib.compareBytes]
 | x::a,y::b=>by
  have:=cb_anti a b;unfold cb Lib.compareBytes;by_cases h1:x<y
  ·rw[if_pos h1,if_neg (UInt8.lt_asymm h1),if_pos h1]
  ·by_cases h2:y<x
   ·rw[if_neg h1,if_pos h2,if_pos h2];rfl
   ·rw[if_neg h1,if_neg h2,if_neg h2,if_neg h1];exact this
theorem cb_trans:∀ {a b c:List UInt8},cb a b<0->cb b c<0->cb a c<0
 | [],[],c,h,_=>by simp[cb,Lib.compareBytes] at h
 | [],_::_,[],_,h=>by simp[cb,Lib.compareBytes] at h
 | [],_::_,_::_,_,_=>by simp[cb,Lib.compareBytes]
 | _::_,[],_,h,_=>by simp[cb,Lib.compareBytes] at h
 | _::_,_::_,[],_,h=>by simp[cb,Lib.compareBytes] at h
 | x::a,y::b,z::c,h,k=>by
  unfold cb Lib.compareBytes at h k ⊢;by_cases h1:x<y
  ·by_cases k1:y<z
   ·rw[if_pos (UInt8.lt_trans h1 k1)];decide
   ·by_cases k2:z<y
    ·rw[if_neg k1,if_pos k2] at k;simp at k
    ·have:y=z:=UInt8.le_antisymm (UInt8.not_lt.1 k2) (UInt8.not_lt.1 k1);rw[<- this,if_pos h1];decide
  ·by_cases h2:y<x
   ·rw[if_neg h1,if_pos h2] at h;simp at h
   ·have e:x=y:=UInt8.le_antisymm (UInt8.not_lt.1 h2) (UInt8.not_lt.1 h1);rw[if_neg h1,if_neg h2] at h;rw[e];by_cases k1:y<z
    ·rw[if_pos k1];decide
    ·by_cases k2:z<y
     ·rw[if_neg k1,if_pos k2] at k;simp at k
     ·rw[if_neg k1,if_neg k2] at k ⊢;exact cb_trans h k
theorem cb_lt_irrefl (a:List UInt8):¬ cb a a<0:=by rw[cb_self];omega
theorem cb_gt:0<cb a b↔cb b a<0:=by rw[cb_anti a b];omega
theorem cb_tri (a b:List UInt8):cb a b<0∨a=b∨cb b a<0:=by
 by_cases h:cb a b<0
 ·exact .inl h
 ·by_cases h2:cb a b=0
  ·exact .inr (.inl (cb_zero h2))
  ·exact .inr (.inr (cb_gt.1 (by omega)))
abbrev Rw:=List UInt8×List UInt8
def encR (r:Rw):List UInt8:=byteOf r.1.length::byteOf r.2.length::(r.1++r.2)
def enc:List Rw->List UInt8
 | []=>[]
 | r::l=>encR r++enc l
theorem encR_len (r:Rw):(encR r).length=2+r.1.length+r.2.length:=by simp[encR];omega
theorem enc_append:∀ (l m:List Rw),enc (l++m)=enc l++enc m
 | [],m=>rfl
 | r::l,m=>by simp[enc,enc_append l m]
def okR (r:Rw):Prop:=1<=r.1.length/\r.1.length<=40/\1<=r.2.length/\r.1.length+r.2.length<=220
theorem enc_ge:∀ {l:List Rw},(∀ r∈l,okR r)->4*l.length<=(enc l).length
 | [],_=>by simp
 | r::l,h=>by
  have h1:=h r (by simp);have h2:=enc_ge (l:=l) (fun x hx=>h x (by simp[hx]));have:=encR_len r;unfold okR at h1;simp[enc];omega
def Up (R:List Rw):Prop:=R.Pairwise fun a b=>cb a.1 b.1<0
def mkP (h:List UInt8) (R:List Rw):List UInt8:=(h++[byteOf R.length])++(enc R++List.replicate (501-(enc R).length) 0)
structure PageOf (h:List UInt8) (R:List Rw):Prop where
 hl:h.length=10
 h0:bt h 0<=127
 h8:bt h 8<32
 fit:(enc R).length<=501
 ok:∀ r∈R,okR r
 up:Up R
theorem byteOf_nat {n:Nat} (h:n<256):(byteOf n).toNat=n:=by unfold byteOf;rw[UInt8.toNat_ofNat'];omega
theorem mkP_len {R:List Rw} (H:PageOf h R):(mkP h R).length=512:=by
 have:=H.hl;have:=H.fit;simp[mkP];omega
theorem bt_left (h:i<a.length):bt (a++b) i=bt a i:=by
 unfold bt;simp[List.getD_eq_getElem?_getD,List.getElem?_append_left h]
theorem bt_right (a b:List UInt8) (i:Nat):bt (a++b) (a.length+i)=bt b i:=by
 unfold bt;simp[List.getD_eq_getElem?_getD,List.getElem?_append_right]
theorem bt_right' {j:Nat} (h:j=a.length+i):bt (a++b) j=bt b i:=by rw[h,bt_right]
theorem bt_cons_zero (x:UInt8) (l:List UInt8):bt (x::l) 0=x.toNat:=rfl
theorem bt_cons_succ (x:UInt8) (l:List UInt8) (i:Nat):bt (x::l) (i+1)=bt l i:=rfl
theorem row_at {p:List UInt8} {r:Rw} (hp:p=a++(encR r++b)) (hr:okR r) :
  bt p a.length=r.1.length/\bt p (a.length+1)=r.2.length/\endOf p a.length=a.length+(encR r).length/\keyOf p a.length=r.1/\valOf p a.length (a.length+(encR r).length)=r.2/\a.length+(encR r).length<=p.length:=by
 obtain⟨k,v⟩:=r;obtain⟨h1,h2,h3,h4⟩:=hr;have hlen:=encR_len (k,v);have hpl:p.length=a.length+(encR (k,v)).length+b.length:=by rw[hp];simp;omega
 have e0:bt p a.length=k.length:=by
  rw[hp];have:=bt_right a (encR (k,v)++b) 0;rw[Nat.add_zero] at this;rw[this];simp only[encR,List.cons_append,bt_cons_zero];rw[byteOf_nat (by simp only at h2;omega)]
 have e1:bt p (a.length+1)=v.length:=by
  rw[hp,bt_right a];simp only[encR,List.cons_append,bt_cons_succ,bt_cons_zero];rw[byteOf_nat (by simp only at h4;omega)]
 have hd:p.drop (a.length+2)=k++(v++b):=by
  rw[hp,List.drop_append,List.drop_eq_nil_of_le (by omega),Nat.add_sub_cancel_left];simp[encR]
 refine⟨e0,e1,?_,?_,?_,by omega⟩
 ·rw[endOf_in (by omega),e0,e1,hlen];simp only;omega
 ·unfold keyOf;rw[e0,hd];simp
 ·unfold valOf;have hd2:p.drop (a.length+2+k.length)=v++b:=by
   rw[<- List.drop_drop,hd];simp
  rw[e0,Int.toNat_natCast,hd2,hlen];rw[show a.length+(2+(k,v).1.length+(k,v).2.length)-(a.length+2+k.length)=v.length by simp only;omega];simp
theorem scan_rows:∀ (R:List Rw) (p a b:List UInt8),p=a++(enc R++b)->(∀ r∈R,okR r)->
  (scan p R.length a.length).map (fun x=>(keyOf p x.1,valOf p x.1 x.2))=R
 | [],p,a,b,_,_=>rfl
 | r::R,p,a,b,hp,hok=>by
  have hp1:p=a++(encR r++(enc R++b)):=by rw[hp];simp[enc]
  obtain⟨-,-,e3,e4,e5,e6⟩:=row_at hp1 (hok r (by simp));simp only[List.length_cons,scan,List.map_cons];rw[e3,e4,e5,if_neg (by omega)];have ih:=scan_rows R p (a++encR r) b (by rw[hp1];simp) (fun x hx=>hok x (by simp[hx]));rw[List.length_append] at ih;rw[ih]
theorem walk_rows:∀ (R:List Rw) (p a b:List UInt8) (f:Nat) (kf:List UInt8),p=a++(enc R++b)->(∀ r∈R,okR r)->(f=0∨keyOf p f=kf/\∀ r∈R,cb kf r.1<0)->Up R->11<=a.length ->
  ∃ f',walkB p (a.length,f) (scan p R.length a.length)=some (a.length+(enc R).length,f')
 | [],p,a,b,f,kf,_,_,_,_,_=>⟨f,rfl⟩
 | r::R,p,a,b,f,kf,hp,hok,hf,hup,ha=>by
  have hp1:p=a++(encR r++(enc R++b)):=by rw[hp];simp[enc]
  have hr:=hok r (by simp);obtain⟨e1,e2,e3,e4,e5,e6⟩:=row_at hp1 hr;have hu:=List.pairwise_cons.1 hup;obtain⟨f',ih⟩:=walk_rows R p (a++encR r) b a.length r.1 (by rw[hp1];simp) (fun x hx=>hok x (by simp[hx])) (.inr ⟨e4,hu.1⟩) hu.2 (by simp;omega);refine⟨f',?_⟩;simp only[List.length_cons,scan,walkB];rw[e3];have hlen:=encR_len r;obtain⟨h1,h2,h3,h4⟩:=hr;have hokr:okRow p f a.length (a.length+(encR r).length)=true:=by
   unfold okRow;simp only[Bool.and_eq_true,decide_eq_true_eq,Bool.or_eq_true];refine⟨⟨⟨⟨⟨by omega,by omega⟩,by omega⟩,by omega⟩,by omega⟩,?_⟩;rcases hf with hf|⟨hf,hlt⟩
   ·exact .inl hf
   ·right;rw[hf,e4];exact hlt r (by simp)
  rw[if_pos hokr,if_neg (by omega)];rw[List.length_append] at ih;rw[ih];simp[enc];omega
theorem tl_rep (n:Nat):tl 0 (List.replicate n (0:UInt8))=[]:=by
 induction n with
 | zero=>rfl
 | succ n ih=>rw[List.replicate_succ];unfold tl;rw[if_pos rfl,ih]
theorem trim_rep (n:Nat):trimLen (List.replicate n (0:UInt8))=0:=by
 unfold trimLen tr;rw[List.reverse_replicate,tl_rep];rfl
theorem mkP_cnt {R:List Rw} (H:PageOf h R):(bt (mkP h R) 10).toNat=R.length:=by
 have:=H.hl;have:=H.fit;have:=enc_ge H.ok;unfold mkP;rw[bt_left (by simp;omega),bt_right' (i:=0) (by omega),bt_cons_zero,byteOf_nat (by omega)];rfl
theorem mkP_split {R:List Rw} (H:PageOf h R):∃ a,a.length=11/\a=h++[byteOf R.length]/\mkP h R=a++(enc R++List.replicate (501-(enc R).length) 0):=⟨_,by simp[H.hl],rfl,rfl⟩
theorem behind_mk {R:List Rw} (H:PageOf h R):βL (mkP h R)=11+(enc R).length:=by
 have h1:=H.hl;have hlen:=mkP_len H;have hcnt:=mkP_cnt H;have b0:bt (mkP h R) 0=bt h 0:=by unfold mkP;rw[bt_left (by simp),bt_left (by omega)]
 have b8:bt (mkP h R) 8=bt h 8:=by unfold mkP;rw[bt_left (by simp;omega),bt_left (by omega)]
 obtain⟨a,ha,hae,hp⟩:=mkP_split H;obtain⟨f',hw⟩:=walk_rows R (mkP h R) a _ 0 [] hp H.ok (.inl rfl) H.up (by omega);unfold βL;rw[if_neg (by have:=H.h0;have:=H.h8;rw[b0,b8];omega),hcnt,<- ha,hw];dsimp only;rw[if_neg];rw[hp,<- List.append_assoc,List.drop_left' (by simp),trim_rep];omega
theorem findB_in (k v:List UInt8):∀ (A B:List Rw) (p a b:List UInt8) (l:Nat),p=a++(enc (A++(k,v)::B)++b)->(∀ r∈A++(k,v)::B,okR r)->(∀ r∈A,cb r.1 k<0) ->
  ∀ c,findB p k l (scan p (A.length+1+c) a.length)=(a.length+(enc A).length,a.length+(enc A).length+(encR (k,v)).length,true)
 | [],B,p,a,b,l,hp,hok,_,c=>by
  have hp1:p=a++(encR (k,v)++(enc B++b)):=by rw[hp];simp[enc]
  obtain⟨-,-,e3,e4,e5,e6⟩:=row_at hp1 (hok _ (by simp));rw[List.length_nil,Nat.zero_add,Nat.add_comm];simp only[scan,findB];rw[e4,e3,if_pos (cb_self k)];simp[enc]
 | r::A,B,p,a,b,l,hp,hok,hlt,c=>by
  have hp1:p=a++(encR r++(enc (A++(k,v)::B)++b)):=by rw[hp];simp[enc]
  obtain⟨-,-,e3,e4,e5,e6⟩:=row_at hp1 (hok _ (by simp));have hr:=hlt r (by simp);have ih:=findB_in k v A B p (a++encR r) b (a.length+(encR r).length) (by rw[hp1];simp) (fun x hx=>hok x (by simp only[List.cons_append,List.mem_cons];exact .inr hx)) (fun x hx=>hlt x (by simp[hx])) c;rw[show (r::A).length+1+c=(A.length+1+c)+1 by simp;omega];simp only[scan,findB];rw[e4,e3,if_neg (by unfold cb at hr;omega),if_neg (by unfold cb at hr;omega),if_neg (by omega)];rw[List.length_append] at ih;rw[ih];simp[enc];omega
theorem findB_out (k:List UInt8):∀ (A B:List Rw) (p a b:List UInt8),p=a++(enc (A++B)++b)->(∀ r∈A++B,okR r)->(∀ r∈A,cb r.1 k<0)->(∀ r∈B,cb k r.1<0) ->
  findB p k a.length (scan p (A++B).length a.length)=(a.length+(enc A).length,a.length+(enc A).length,false)
 | [],[],p,a,b,hp,hok,_,_=>rfl
 | [],r::B,p,a,b,hp,hok,_,hgt=>by
  have hp1:p=a++(encR r++(enc B++b)):=by rw[hp];simp[enc]
  obtain⟨-,-,e3,e4,e5,e6⟩:=row_at hp1 (hok _ (by simp));have hr:=cb_gt.2 (hgt r (by simp));simp only[List.nil_append,List.length_cons,scan,findB];rw[e4,if_neg (by unfold cb at hr;omega),if_pos hr];simp[enc]
 | r::A,B,p,a,b,hp,hok,hlt,hgt=>by
  have hp1:p=a++(encR r++(enc (A++B)++b)):=by rw[hp];simp[enc]
  obtain⟨-,-,e3,e4,e5,e6⟩:=row_at hp1 (hok _ (by simp));have hr:=hlt r (by simp);have ih:=findB_out k A B p (a++encR r) b (by rw[hp1];simp) (fun x hx=>hok x (by simp only[List.cons_append,List.mem_cons];exact .inr hx)) (fun x hx=>hlt x (by simp[hx])) hgt;simp only[List.cons_append,List.length_cons,scan,findB];rw[e4,e3,if_neg (by unfold cb at hr;omega),if_neg (by unfold cb at hr;omega),if_neg (by omega)];rw[List.length_append] at ih;rw[ih];simp[enc];omega
theorem find_mk_in {A B:List Rw} {v:List UInt8} (H:PageOf h (A++(k,v)::B)) :
  findL (mkP h (A++(k,v)::B)) k=(11+(enc A).length,11+(enc A).length+(encR (k,v)).length,true)/\valOf (mkP h (A++(k,v)::B)) (11+(enc A).length) (11+(enc A).length+(encR (k,v)).length)=v:=by
 obtain⟨a,ha,hae,hp⟩:=mkP_split H;have hup:=List.pairwise_append.1 H.up;constructor
 ·unfold findL;rw[mkP_cnt H,<- ha];have:=findB_in k v A B _ a _ a.length hp H.ok (fun r hr=>hup.2.2 r hr (k,v) (by simp)) B.length;rw[show (A++(k,v)::B).length=A.length+1+B.length by simp;omega];exact this
 ·have hp1:mkP h (A++(k,v)::B)=(a++enc A)++(encR (k,v)++(enc B++List.replicate (501-(enc (A++(k,v)::B)).length) 0)):=by
   rw[hp,enc_append];simp[enc]
  obtain⟨-,-,-,-,e5,-⟩:=row_at hp1 (H.ok _ (by simp));rw[List.length_append,ha] at e5;exact e5
theorem find_mk_out {A B:List Rw} (H:PageOf h (A++B)) (hA:∀ r∈A,cb r.1 k<0) (hB:∀ r∈B,cb k r.1<0) :
  findL (mkP h (A++B)) k=(11+(enc A).length,11+(enc A).length,false):=by
 obtain⟨a,ha,hae,hp⟩:=mkP_split H;unfold findL;rw[mkP_cnt H,<- ha];exact findB_out k A B _ a _ hp H.ok hA hB
theorem take_app {α:Type} (a b:List α) (n:Nat):(a++b).take (a.length+n)=a++b.take n:=by
 rw[List.take_append,List.take_of_length_le (by omega),Nat.add_sub_cancel_left]
theorem drop_app {α:Type} (a b:List α) (n:Nat):(a++b).drop (a.length+n)=b.drop n:=by simp[List.drop_append]
theorem wiped_mk (P M E:List UInt8) (z sz:Nat) (hfit:P.length+sz+E.length<=512) (hlen:P.length+M.length+E.length+z=512) :
  ∃ Y,Y.length=sz/\wiped (P++(M++(E++List.replicate z 0))) P.length (P.length+M.length) (P.length+M.length+E.length) sz=P++(Y++(E++List.replicate (512-P.length-sz-E.length) 0)):=by
 obtain⟨p,hp⟩:∃ p,p=P++(M++(E++List.replicate z 0)):=⟨_,rfl⟩
 have hpl:p.length=512:=by rw[hp];simp;omega
 have hdE:(p.drop (P.length+M.length)).take (P.length+M.length+E.length-(P.length+M.length))=E:=by
  rw[hp,drop_app];simp
 have hdl:p.drop (P.length+M.length+E.length)=List.replicate z 0:=by
  rw[hp,Nat.add_assoc,drop_app,drop_app];simp
 refine⟨(p.drop P.length).take sz,by simp;omega,?_⟩;have hmv:moved p P.length (P.length+M.length) (P.length+M.length+E.length) sz=(P++((p.drop P.length).take sz++E))++p.drop (P.length+sz+E.length):=by
  unfold moved splice;rw[hdE];have:p.take (P.length+sz)=P++(p.drop P.length).take sz:=by rw[hp,take_app];simp
  rw[this];simp
 have hll:(P++((p.drop P.length).take sz++E)).length=P.length+sz+E.length:=by simp;omega
 rw[<- hp];unfold wiped;rw[hmv];have hnow:P.length+M.length+E.length-(P.length+M.length-P.length)+sz=P.length+sz+E.length:=by omega
 rw[hnow];split
 ·unfold splice;rw[List.take_left' hll];rw[List.length_replicate,show P.length+sz+E.length+(P.length+M.length+E.length-(P.length+sz+E.length))=(P++((p.drop P.length).take sz++E)).length+(P.length+M.length+E.length-(P.length+sz+E.length)) by omega,drop_app,List.drop_drop,
   show P.length+sz+E.length+(P.length+M.length+E.length-(P.length+sz+E.length))=P.length+M.length+E.length by omega,hdl,List.replicate_append_replicate]
  rw[show P.length+M.length+E.length-(P.length+sz+E.length)+z=512-P.length-sz-E.length by omega];simp
 ·have:p.drop (P.length+sz+E.length)=List.replicate (512-P.length-sz-E.length) 0:=by
   rw[show P.length+sz+E.length=(P.length+M.length+E.length)+(P.length+sz+E.length-(P.length+M.length+E.length)) by omega,<- List.drop_drop,hdl,List.drop_replicate]
   congr 1;omega
  rw[this];simp
theorem set_app {α:Type} (a b:List α) (n:Nat) (v:α):(a++b).set (a.length+n) v=a++b.set n v:=by
 rw[List.set_append_right _ _ (by omega),Nat.add_sub_cancel_left]
theorem laid_mk (P Y Z k n:List UInt8) (hY:Y.length=2+k.length+n.length):laid (P++(Y++Z)) P.length k n=P++(encR (k,n)++Z):=by
 match Y,hY with
 | [],h=>simp at h;omega
 | [_],h=>simp at h;omega
 | y0::y1::Y,h =>
  have hY:Y.length=k.length+n.length:=by simp at h;omega
  unfold laid;have h1:((P++(y0::y1::Y++Z)).set P.length (byteOf k.length)).set (P.length+1) (byteOf n.length)=P++([byteOf k.length,byteOf n.length]++(Y++Z)):=by
   have e0:=set_app P (y0::y1::Y++Z) 0 (byteOf k.length);rw[Nat.add_zero] at e0;rw[e0,set_app];rfl
  rw[h1];have h2:splice (P++([byteOf k.length,byteOf n.length]++(Y++Z))) (P.length+2) k=P++([byteOf k.length,byteOf n.length]++(k++(Y.drop k.length++Z))):=by
   unfold splice;have hd:(P++([byteOf k.length,byteOf n.length]++(Y++Z))).drop (P.length+2+k.length)=Y.drop k.length++Z:=by
    rw[Nat.add_assoc,drop_app,Nat.add_comm 2];show (Y++Z).drop k.length=_;rw[List.drop_append_of_le_length (by omega)]
   rw[take_app,hd];simp
  rw[h2];unfold splice;have hd:(P++([byteOf k.length,byteOf n.length]++(k++(Y.drop k.length++Z)))).drop (P.length+2+k.length+n.length)=Z:=by
   rw[Nat.add_assoc,Nat.add_assoc,drop_app,Nat.add_comm 2];show (k++(Y.drop k.length++Z)).drop (k.length+n.length)=_;rw[drop_app,List.drop_left' (by simp;omega)]
  have ht:(P++([byteOf k.length,byteOf n.length]++(k++(Y.drop k.length++Z)))).take (P.length+2+k.length)=P++([byteOf k.length,byteOf n.length]++k):=by
   rw[Nat.add_assoc,take_app,Nat.add_comm 2];show P++byteOf k.length::byteOf n.length::(k++(Y.drop k.length++Z)).take k.length=_;simp
  rw[ht,hd];simp[encR]
theorem counted_mk (h:List UInt8) (hh:h.length=10) (x d:UInt8) (Z:List UInt8):counted ((h++[x])++Z) d=(h++[x+d])++Z:=by
 unfold counted;have e:=set_app h (x::Z) 0 (x+d);rw[hh] at e;have g:((h++[x])++Z).getD 10 0=x:=by
  simp[List.getD_eq_getElem?_getD,hh]
 rw[g];simpa using e
theorem counted_mk' (h:List UInt8) (hh:h.length=10) (x d:UInt8) (a Z:List UInt8):counted (((h++[x])++a)++Z) d=((h++[x+d])++a)++Z:=by
 rw[List.append_assoc (h++[x]) a Z,counted_mk h hh,List.append_assoc (h++[x+d]) a Z]
theorem byteOf_add (n:Nat):byteOf n+1=byteOf (n+1):=by unfold byteOf;simp[UInt8.ofNat_add]
theorem byteOf_sub (n:Nat):byteOf (n+1)+(0-1)=byteOf n:=by
 unfold byteOf;rw[UInt8.ofNat_add,UInt8.add_assoc];have:UInt8.ofNat 1+(0-1)=0:=by decide
 rw[this,UInt8.add_zero]
def sel (k n:List UInt8):List Rw:=if n=[] then [] else [(k,n)]
theorem sel_enc (k n:List UInt8):(enc (sel k n)).length=if n=[] then 0 else 2+k.length+n.length:=by
 unfold sel;split<;>simp[enc,encR];omega
theorem turn_mk {A B M:List Rw} (hh:h.length=10) (hM:M.length<=1)
  (hfit:(enc (A++M++B)).length<=501) (hfit':(enc (A++sel k n++B)).length<=501) :
  turnBytes (mkP h (A++M++B)) (11+(enc A).length) (11+(enc A).length+(enc M).length) (11+(enc A).length+(enc M).length+(enc B).length) k n (decide (M≠[]))=mkP h (A++sel k n++B):=by
 have hsz:=sel_enc k n;rw[enc_append,enc_append,List.length_append,List.length_append] at hfit hfit';have hL:(enc (A++M++B)).length=(enc A).length+(enc M).length+(enc B).length:=by rw[enc_append,enc_append,List.length_append,List.length_append]
 obtain⟨sz,hsz'⟩:∃ sz,sz=if n=[] then 0 else 2+k.length+n.length:=⟨_,rfl⟩
 rw[<- hsz'] at hsz;obtain⟨x,hx⟩:∃ x,x=byteOf (A++M++B).length:=⟨_,rfl⟩
 have hPl:((h++[x])++enc A).length=11+(enc A).length:=by simp;omega
 have hp:mkP h (A++M++B)=((h++[x])++enc A)++(enc M++(enc B++List.replicate (501-(enc (A++M++B)).length) 0)):=by
  unfold mkP;rw[<- hx,enc_append,enc_append];simp
 obtain⟨Y,hY,hw⟩:=wiped_mk ((h++[x])++enc A) (enc M) (enc B) (501-(enc (A++M++B)).length) sz (by omega) (by rw[hPl,hL];omega);rw[hPl] at hw;unfold turnBytes;dsimp only;rw[<- hsz',hp,hw];have hz:512-(11+(enc A).length)-sz-(enc B).length=501-(enc (A++sel k n++B)).length:=by
  rw[enc_append,enc_append,List.length_append,List.length_append,hsz];omega
 rw[hz];have hres:mkP h (A++sel k n++B)=((h++[byteOf (A++sel k n++B).length])++enc A)++(enc (sel k n)++(enc B++List.replicate (501-(enc (A++sel k n++B)).length) 0)):=by
  unfold mkP;rw[enc_append,enc_append];simp
 obtain⟨Z,hZ⟩:∃ Z,Z=enc B++List.replicate (501-(enc (A++sel k n++B)).length) 0:=⟨_,rfl⟩
 rw[<- hZ] at hres ⊢;by_cases hn:n=[]
 ·rw[if_pos hn];rw[if_pos hn] at hsz';have hY0:Y=[]:=List.eq_nil_of_length_eq_zero (by omega);have hs0:sel k n=[]:=by unfold sel;rw[if_pos hn]
  rw[hres,hs0,hY0]
  match M,hM with
  | [],_=>
   have hx':x=byteOf (A++[]++B).length:=hx;rw[hx'];rfl
  | [r],_ =>
   have hd:(decide ([r]≠[]))=true:=rfl;rw[hd,if_pos rfl];rw[counted_mk' h hh];rw[hx,show (A++[r]++B).length=(A++[]++B).length+1 by simp;omega,byteOf_sub];simp[enc]
 ·rw[if_neg hn];rw[if_neg hn] at hsz';have hs1:sel k n=[(k,n)]:=by unfold sel;rw[if_neg hn]
  have hl:=laid_mk ((h++[x])++enc A) Y Z k n (by omega);rw[hPl] at hl;rw[hl];rw[counted_mk' h hh];rw[hres,hs1]
  match M,hM with
  | [],_=>
   have hd:(decide (([]:List Rw)≠[]))=false:=rfl;rw[hd,if_neg (by decide)];rw[hx];have hc:(A++([]:List Rw)++B).length+1=(A++[(k,n)]++B).length:=by simp;omega
   rw[byteOf_add,hc];simp[enc]
  | [r],_ =>
   have hd:(decide ([r]≠[]))=true:=rfl;rw[hd,if_pos rfl,counted_mk' h hh];rw[hx,byteOf_add,byteOf_sub,show (A++[r]++B).length=(A++[(k,n)]++B).length by simp];simp[enc]
theorem enc_len_append (A B:List Rw):(enc (A++B)).length=(enc A).length+(enc B).length:=by rw[enc_append,List.length_append]
def bef (R:List Rw) (k:List UInt8):List Rw:=R.filter fun r=>decide (cb r.1 k<0)
def aft (R:List Rw) (k:List UInt8):List Rw:=R.filter fun r=>decide (cb k r.1<0)
def got (R:List Rw) (k:List UInt8):Option (List UInt8):=(R.find? fun r=>decide (r.1=k)).map Prod.snd
def put (R:List Rw) (k n:List UInt8):List Rw:=bef R k++sel k n++aft R k
theorem bef_lt {R:List Rw}:∀ r∈bef R k,cb r.1 k<0:=fun r hr=>by simpa using (List.mem_filter.1 hr).2
theorem aft_gt {R:List Rw}:∀ r∈aft R k,cb k r.1<0:=fun r hr=>by simpa using (List.mem_filter.1 hr).2
theorem split_at:∀ {R:List Rw} (_:Up R) (k:List UInt8),(got R k=none/\R=bef R k++aft R k)∨∃ v,got R k=some v/\R=bef R k++(k,v)::aft R k
 | [],_,k=>.inl ⟨rfl,rfl⟩
 | r::R,hup,k=>by
  have hu:=List.pairwise_cons.1 hup;have allgt:∀ {k'},(∀ x∈R,cb k' x.1<0)->bef R k'=[]/\aft R k'=R/\got R k'=none:=fun {k'} h=>by
   refine⟨?_,?_,?_⟩
   ·unfold bef;rw[List.filter_eq_nil_iff];intro x hx;have:=h x hx;have:=cb_anti x.1 k';simp;omega
   ·unfold aft;rw[List.filter_eq_self];intro x hx;simpa using h x hx
   ·unfold got;rw[List.find?_eq_none.2];rfl;intro x hx he;have:=h x hx;simp only[decide_eq_true_eq] at he;rw[he,cb_self] at this;omega
  rcases cb_tri r.1 k with h|h|h
  ·have hne:¬ r.1=k:=fun e=>by rw[e,cb_self] at h;omega
   have e1:bef (r::R) k=r::bef R k:=by unfold bef;rw[List.filter_cons_of_pos (by simpa using h)]
   have e2:aft (r::R) k=aft R k:=by unfold aft;rw[List.filter_cons_of_neg];have:=cb_anti r.1 k;simp;omega
   have e3:got (r::R) k=got R k:=by unfold got;rw[List.find?_cons_of_neg (by simpa using hne)]
   rw[e1,e2,e3];rcases split_at hu.2 k with ⟨h1,h2⟩|⟨v,h1,h2⟩
   ·exact .inl ⟨h1,by rw[List.cons_append,<- h2]⟩
   ·exact .inr ⟨v,h1,by rw[List.cons_append,<- h2]⟩
  ·right;subst h;obtain⟨a1,a2,a3⟩:=allgt hu.1;have e1:bef (r::R) r.1=[]:=by unfold bef;rw[List.filter_cons_of_neg];exact a1;simp[cb_self]
   have e2:aft (r::R) r.1=R:=by unfold aft;rw[List.filter_cons_of_neg];exact a2;simp[cb_self]
   exact⟨r.2,by unfold got;rw[List.find?_cons_of_pos (by simp)];rfl,by rw[e1,e2];rfl⟩
  ·left;have hg:∀ x∈R,cb k x.1<0:=fun x hx=>cb_trans h (hu.1 x hx)
   obtain⟨a1,a2,a3⟩:=allgt hg;have hne:¬ r.1=k:=fun e=>by rw[e,cb_self] at h;omega
   have e1:bef (r::R) k=[]:=by unfold bef;rw[List.filter_cons_of_neg];exact a1;have:=cb_anti r.1 k;simp;omega
   have e2:aft (r::R) k=r::R:=by unfold aft;rw[List.filter_cons_of_pos (by simpa using h)];exact congrArg _ a2
   have e3:got (r::R) k=got R k:=by unfold got;rw[List.find?_cons_of_neg (by simpa using hne)]
   rw[e1,e2,e3];exact⟨a3,rfl⟩
theorem put_up {R:List Rw} (hup:Up R) (k n:List UInt8):Up (put R k n):=by
 unfold put Up;have hb:Up (bef R k):=hup.filter _;have ha:Up (aft R k):=hup.filter _;have hs:Up (sel k n):=by unfold sel;split<;>simp[Up]
 have hk:∀ r∈sel k n,r.1=k:=by unfold sel;split<;>simp
 rw[List.pairwise_append,List.pairwise_append];refine⟨⟨hb,hs,fun a h1 b h2=>?_⟩,ha,fun a h1 b h2=>?_⟩
 ·rw[hk b h2];exact bef_lt a h1
 ·rcases List.mem_append.1 h1 with h1|h1
  ·exact cb_trans (bef_lt a h1) (aft_gt b h2)
  ·rw[hk a h1];exact aft_gt b h2
theorem put_ok {R:List Rw} (hok:∀ r∈R,okR r) (hk:n≠[]->okR (k,n)):∀ r∈put R k n,okR r:=fun r hr=>by
 unfold put at hr;simp only[List.mem_append] at hr;rcases hr with (hr|hr)|hr
 ·exact hok r (List.mem_filter.1 hr).1
 ·unfold sel at hr;split at hr
  ·simp at hr
  ·simp only[List.mem_singleton] at hr;rw[hr];exact hk ‹_›
 ·exact hok r (List.mem_filter.1 hr).1
theorem put_page {R:List Rw} (H:PageOf h R) (hk:n≠[]->okR (k,n)) (hf:(enc (put R k n)).length<=501):PageOf h (put R k n) :=
 ⟨H.hl,H.h0,H.h8,hf,put_ok H.ok hk,put_up H.up k n⟩
theorem turned_iff (k o n:List UInt8):turnedB k.length o.length n.length=true↔(0<k.length/\k.length<=40/\(0<o.length∨0<n.length)/\k.length+o.length<=220/\k.length+n.length<=220):=by
 unfold turnedB;simp only[Bool.and_eq_true,decide_eq_true_eq];omega
theorem turnL_mk {R:List Rw} (H:PageOf h R) (k o n:List UInt8) :
  turnL (mkP h R) k o n=if turnedB k.length o.length n.length=false then (2,mkP h R) else if got R k≠(if o=[] then none else some o) then (6,mkP h R) else
   if 501<(enc (put R k n)).length then (5,mkP h R) else (0,mkP h (put R k n)):=by
 have hb:=behind_mk H;unfold turnL;rw[if_neg (by omega)];by_cases ht:turnedB k.length o.length n.length=false
 ·rw[if_pos ht,if_pos ht]
 rw[if_neg ht,if_neg ht];have hop:0<o.length↔o≠[]:=List.length_pos_iff;have hsz:=sel_enc k n;have hle:∀ M,11+(enc (bef R k++M++aft R k)).length-(enc M).length+(enc (sel k n)).length=11+(enc (put R k n)).length:=fun M=>by
  unfold put;simp only[enc_len_append];omega
 rcases split_at H.up k with ⟨hg,hR⟩|⟨v,hg,hR⟩
 ·have H':=H;rw[hR] at H';have hf:=find_mk_out H' bef_lt aft_gt;rw[<- hR] at hf;rw[hf];dsimp only;rw[hg];by_cases ho:o=[]
  ·have e1:(false != decide (0<o.length))=false:=by rw[ho];rfl
   rw[e1,if_neg (by simp),if_neg (c:=(none:Option (List UInt8))≠(if o=[] then none else some o)) (by rw[if_pos ho];simp),Nat.sub_self,Nat.sub_zero,<- hsz,hb];have:=hle [];rw[List.append_nil,<- hR] at this;simp only[enc,List.length_nil,Nat.sub_zero] at this;rw[this];by_cases hfit:501<(enc (put R k n)).length
   ·rw[if_pos (by omega),if_pos hfit]
   ·rw[if_neg (by omega),if_neg hfit];have ht:=turn_mk (h:=h) (A:=bef R k) (B:=aft R k) (M:=[]) (k:=k) (n:=n) H.hl (by simp) (by rw[List.append_nil,<- hR];exact H.fit) (by unfold put at hfit;omega);rw[List.append_nil,<- hR] at ht;rw[show 11+(enc R).length=11+(enc (bef R k)).length+(enc ([]:List Rw)).length+(enc (aft R k)).length by rw[hR,enc_len_append,<- hR];simp[enc];omega];have:(decide (([]:List Rw)≠[]))=false:=rfl;rw[this] at ht;exact congrArg _ ht
  ·have e1:(false != decide (0<o.length))=true:=by rw[decide_eq_true (hop.2 ho)];rfl
   rw[if_pos (.inl e1),if_pos (by rw[if_neg ho];simp)]
 ·have H':=H;rw[hR] at H';obtain⟨hf,hv⟩:=find_mk_in H';rw[<- hR] at hf hv;rw[hf];dsimp only;rw[hg,hv];by_cases ho:o=[]
  ·have e1:(true != decide (0<o.length))=true:=by rw[ho];rfl
   rw[if_pos (.inl e1),if_pos (by rw[if_pos ho];simp)]
  ·have e1:(true != decide (0<o.length))=false:=by rw[decide_eq_true (hop.2 ho)];rfl
   rw[e1];by_cases hvo:v=o
   ·rw[if_neg (by rw[hvo,eqB_self];simp),if_neg (c:=(some v)≠(if o=[] then none else some o)) (by rw[if_neg ho,hvo];simp),Nat.add_sub_cancel_left,<- hsz,hb];have:=hle [(k,v)];rw[List.append_assoc,List.singleton_append,<- hR] at this;have e2:(enc [(k,v)]).length=(encR (k,v)).length:=(by simp[enc]);rw[e2] at this;rw[this];by_cases hfit:501<(enc (put R k n)).length
    ·rw[if_pos (by omega),if_pos hfit]
    ·rw[if_neg (by omega),if_neg hfit];have ht:=turn_mk (h:=h) (A:=bef R k) (B:=aft R k) (M:=[(k,v)]) (k:=k) (n:=n) H.hl (by simp) (by rw[List.append_assoc,List.singleton_append,<- hR];exact H.fit) (by unfold put at hfit;omega);rw[List.append_assoc,List.singleton_append,<- hR,e2] at ht;rw[show 11+(enc R).length=11+(enc (bef R k)).length+(encR (k,v)).length+(enc (aft R k)).length by rw[hR,enc_len_append,<- hR];simp[enc];omega];have:(decide ([(k,v)]≠[]))=true:=rfl;rw[this] at ht;exact congrArg _ ht
   ·rw[if_pos (.inr ⟨rfl,eqB_ne hvo⟩),if_pos (by rw[if_neg ho];simpa using hvo)]
theorem new_page:PageOf (List.replicate 10 0) []:=⟨by simp,by decide,by decide,by simp[enc],by simp,List.Pairwise.nil⟩
theorem new_mk:List.replicate 512 0=mkP (List.replicate 10 0) []:=by decide +kernel
end Go.Proofs.YtohlkkannjifmaaGreatDoor
