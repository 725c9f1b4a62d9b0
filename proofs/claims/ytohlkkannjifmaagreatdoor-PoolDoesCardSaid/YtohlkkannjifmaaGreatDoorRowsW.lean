import Derived.Test.YtohlkkannjifmaaGreatDoorPageH
import Derived.Test.YtohlkkannjifmaaGreatDoorSteps
import Derived.Deep.RegionHeld3
namespace Go.Proofs.YtohlkkannjifmaaGreatDoor
set_option maxHeartbeats 2000000
set_option maxRecDepth 100000
open Go.RowKit Go.Shelf
attribute [local go_sem] Oper.semAt_some
theorem round_region_held {P:Program} {n l₀ id:Nat} {ops:Array Oper} {Q:Exit->Act->World->Prop} {S:World->Prop} {a:Act} {w:World} (hm:P.follows .mixedOrders=true) (hnd:noDefer ops.toList=true) (hS:S w.drew)
  (h:S w.drew->wpAnyH P .any ops (okPost (Q .normal)) S ops.size (Array.replicate ops.size false) a w.drew):(Code.region id ops true).wpIn (Fence.wide.inRound l₀) n P Q a w :=
 round_region hm hnd (wpAny_of_held _ _ _ _ (h hS))
def rowAt (p:List UInt8) (x:Nat×Nat):List UInt8×List UInt8:=(keyOf p x.1,valOf p x.1 x.2)
def rowsL (p:List UInt8):List (List UInt8×List UInt8):=if βL p=0 then [] else (scan p (bt p 10).toNat 11).map (rowAt p)
def SlB (W:World) (v:Value) (l:List UInt8) (g:Option Nat):Prop:=∃ a n c,v=.slice a n c/\RB W.heap.size W a n c l/\(0<c->∀ b o s,a=some ⟨b,o,s⟩->some b≠g)
def RowsCells (W:World) (g:Option Nat):List Value->List (List UInt8×List UInt8)->Prop
 | [],[]=>True
 | k::v::cs,r::R=>SlB W k r.1 g/\SlB W v r.2 g/\RowsCells W g cs R
 | _,_=>False
def OR (base:Nat) (W:World) (v:Value) (R:List (List UInt8×List UInt8)):Prop:=∃ cs,W.ownsRow base 185 2 v R.length cs/\RowsCells W v.ownBlock cs R
theorem SlB.below {W W':World} {v:Value} {l:List UInt8} {g:Option Nat} (h:SlB W v l g) (hb:Below W.heap.size W W'):SlB W' v l g:=by
 obtain⟨a,n,c,e,hr,hn⟩:=h;exact⟨a,n,c,e,(hr.below hb).mono hb.size,hn⟩
theorem RowsCells.below {W W':World} {g:Option Nat} (hb:Below W.heap.size W W'):∀ {cs:List Value} {R:List (List UInt8×List UInt8)},RowsCells W g cs R->RowsCells W' g cs R
 | [],[],_=>trivial
 | k::v::cs,r::R,h=>⟨h.1.below hb,h.2.1.below hb,RowsCells.below hb h.2.2⟩
 | [],_::_,h=>h.elim
 | [_],_,h=>by cases ‹List (List UInt8×List UInt8)›<;>exact h.elim
 | _::_::_,[],h=>h.elim
theorem OR.below {base:Nat} {W W':World} {v:Value} {R:List (List UInt8×List UInt8)} (h:OR base W v R) (hb:Below W.heap.size W W'):OR base W' v R:=by
 obtain⟨cs,h1,h2⟩:=h;refine⟨cs,?_,h2.below hb⟩;obtain⟨e,h3|⟨g,cap,cur,hv,hg,hh,r⟩⟩:=h1
 ·exact⟨e,.inl h3⟩
 ·exact⟨e,.inr ⟨g,cap,cur,hv,hg,(hb.block g (Array.getElem?_eq_some_iff.1 hh).1).trans hh,r⟩⟩
section
variable {W W':World} {row:Option Nat} (hg:W.grownBy W' row) (hrow:∀ r,row=some r->∃ o:Obj,W.heap[r]? = some o/\o.isCells=false)
include hg hrow
theorem RB.kept {N:Nat} {a:Option Addr} {n c:Nat} {l:List UInt8} (h:RB N W a n c l):RB N W' a n c l :=
 ⟨h.len,h.le,h.mx,h.lm,fun hc=>by
  obtain⟨b,o,rfl,hB,hcell⟩:=h.at_ hc;exact⟨b,o,rfl,hB,fun i hi=>cell_kept (hcell i hi) hg hrow⟩⟩
theorem SlB.kept {v:Value} {l:List UInt8} {g:Option Nat} (h:SlB W v l g):SlB W' v l g:=by
 obtain⟨a,n,c,e,hr,hn⟩:=h;exact⟨a,n,c,e,(hr.kept hg hrow).mono hg.size,hn⟩
theorem RowsCells.kept {g:Option Nat}:∀ {cs:List Value} {R:List (List UInt8×List UInt8)},RowsCells W g cs R->RowsCells W' g cs R
 | [],[],_=>trivial
 | k::v::cs,r::R,h=>⟨h.1.kept hg hrow,h.2.1.kept hg hrow,RowsCells.kept h.2.2⟩
 | [],_::_,h=>h.elim
 | [_],_,h=>by cases ‹List (List UInt8×List UInt8)›<;>exact h.elim
 | _::_::_,[],h=>h.elim
theorem OR.kept {base:Nat} {v:Value} {R:List (List UInt8×List UInt8)} (h:OR base W v R):OR base W' v R:=by
 obtain⟨cs,h1,h2⟩:=h;refine⟨cs,?_,h2.kept hg hrow⟩;obtain⟨e,h3|⟨g,cap,cur,hv,hb,hh,r⟩⟩:=h1
 ·exact⟨e,.inl h3⟩
 ·exact⟨e,.inr ⟨g,cap,cur,hv,hb,(grownBy_keeps_cells hg hrow hh rfl).trans hh,r⟩⟩
theorem Box.kept {k:Nat} {T:TypeId} {v:Value} (h:Box W k T v):Box W' k T v:=(grownBy_keeps_cells hg hrow h rfl).trans h
end
theorem OR.nil (base:Nat) (W:World):OR base W (.slice none 0 0) []:=⟨[],World.ownsRow_nil _ _ _ _,trivial⟩
theorem OR.mono {B B':Nat} {W:World} {v:Value} {R:List (List UInt8×List UInt8)} (h:OR B W v R) (hb:B'<=B):OR B' W v R:=by
 obtain⟨cs,⟨e,h3|⟨g,cap,cur,hv,hg,r⟩⟩,h2⟩:=h
 ·exact⟨cs,⟨e,.inl h3⟩,h2⟩
 ·exact⟨cs,⟨e,.inr ⟨g,cap,cur,hv,Nat.le_trans hb hg,r⟩⟩,h2⟩
theorem SlB.grown {W W':World} {v:Value} {l:List UInt8} {g0:Option Nat} {g:Nat} (h:SlB W v l g0) (hg:W.grownBy W' g0) (hat:g0=some g∨g=W.heap.size):SlB W' v l (some g):=by
 obtain⟨a,n,c,e,hr,hn⟩:=h;refine⟨a,n,c,e,⟨hr.len,hr.le,hr.mx,hr.lm,fun hc=>?_⟩,fun hc b o s ha he=>?_⟩
 ·obtain⟨b,o,rfl,hB,hcell⟩:=hr.at_ hc;exact⟨b,o,rfl,Nat.lt_of_lt_of_le hB hg.size,fun i hi=>(hg.cell_far ⟨b,o+i,none⟩ hB (hn hc b o none rfl)).trans (hcell i hi)⟩
 ·obtain⟨b',o',he',hB,-⟩:=hr.at_ hc;rw[ha] at he'
  cases he'
  rcases hat with hat|hat
  ·exact hn hc b o _ ha (he.trans hat.symm)
  ·cases he;omega
theorem RowsCells.grown {W W':World} {g0:Option Nat} {g:Nat} (hg:W.grownBy W' g0) (hat:g0=some g∨g=W.heap.size):∀ {cs:List Value} {R:List (List UInt8×List UInt8)},RowsCells W g0 cs R->RowsCells W' (some g) cs R
 | [],[],_=>trivial
 | k::v::cs,r::R,h=>⟨h.1.grown hg hat,h.2.1.grown hg hat,RowsCells.grown hg hat h.2.2⟩
 | [],_::_,h=>h.elim
 | [_],_,h=>by cases ‹List (List UInt8×List UInt8)›<;>exact h.elim
 | _::_::_,[],h=>h.elim
theorem RowsCells.append {W:World} {g:Option Nat} {cs2:List Value} {R2:List (List UInt8×List UInt8)} (h2:RowsCells W g cs2 R2):∀ {cs:List Value} {R:List (List UInt8×List UInt8)},RowsCells W g cs R->RowsCells W g (cs++cs2) (R++R2)
 | [],[],_=>h2
 | k::v::cs,r::R,h=>⟨h.1,h.2.1,RowsCells.append h2 h.2.2⟩
 | [],_::_,h=>h.elim
 | [_],_,h=>by cases ‹List (List UInt8×List UInt8)›<;>exact h.elim
 | _::_::_,[],h=>h.elim
theorem Tryz.infoRow:(Tryz.prog.info? 185).map (fun i=>(i.zero,i.size,i.bytes))=some (some (.agg #[.slice none 0 0,.slice none 0 0]),2,48):=by kernel_rfl
theorem scan_len (p:List UInt8):∀ (c q:Nat),(scan p c q).length<=c
 | 0,q=>Nat.le_refl _
 | c+1,q=>by
  unfold scan;have:=scan_len p c (endOf p q);split<;>simp<;>omega
theorem OB.slB {base:Nat} {W:World} {v:Value} {l:List UInt8} (h:OB base W v l) (hl:l.length<=140737488355328) {g:Option Nat} (hg:∀ b,g=some b->b<base):∃ a c,v=.slice a l.length c/\SlB W v l g:=by
 obtain⟨a,c,e,hr⟩:=h.rb hl;refine⟨a,c,e,a,_,c,e,hr,fun hc b o s ha he=>?_⟩;rw[e,ha] at h;obtain⟨h1,⟨hv,h0⟩|⟨g',cap,cur,hv,hg',-⟩⟩:=h
 ·injection hv with h2;cases h2
 ·injection hv with h2
  injection h2 with h2
  injection h2 with h2
  have:=hg _ he.symm;omega
theorem OB.slBa {base:Nat} {W W1:World} {v:Value} {l:List UInt8} (h:OB base W v l) (hl:l.length<=140737488355328) {g:Option Nat} (hg:∀ b,g=some b->b<base) (hb:Below W.heap.size W W1) (o:Obj):SlB (W1.alloc o) v l g:=by
 obtain⟨a,c,-,hs⟩:=h.slB hl hg;exact (hs.below hb).below ((Below.refl _ W1).alloc (Nat.le_refl _) o)
theorem OR.own {base:Nat} {W:World} {v:Value} {R:List (List UInt8×List UInt8)} (h:OR base W v R):∀ b,v.ownBlock=some b->b<W.heap.size:=fun b hb=>by
 obtain⟨cs,⟨e,⟨rfl,-⟩|⟨g,cap,cur,rfl,hg,hh,-⟩⟩,-⟩:=h
 ·cases hb
 ·have:g=b:=by simpa [Value.ownBlock] using hb
  subst this;exact (Array.getElem?_eq_some_iff.1 hh).1
theorem OR.own_ge {base:Nat} {W:World} {v:Value} {R:List (List UInt8×List UInt8)} (h:OR base W v R):∀ b,v.ownBlock=some b->base<=b/\b<W.heap.size/\∀ o,W.heap[b]? = some o->o.isCells=true:=fun b hb=>by
 obtain⟨cs,⟨e,⟨rfl,-⟩|⟨g,cap,cur,rfl,hg,hh,-⟩⟩,-⟩:=h
 ·cases hb
 ·have:g=b:=by simpa [Value.ownBlock] using hb
  subst this;exact⟨hg,(Array.getElem?_eq_some_iff.1 hh).1,fun o ho=>by rw[hh] at ho;cases ho;rfl⟩
theorem RB.set_box {N:Nat} {W:World} {a:Option Addr} {n c:Nat} {l:List UInt8} (h:RB N W a n c l) {y:Nat} {T:TypeId} {sa:Option Addr} {sn sc:Nat} (hb:Box W y T (.slice sa sn sc)) (v':Value):RB N (W.setCell ⟨y,0,none⟩ v') a n c l :=
 ⟨h.len,h.le,h.mx,h.lm,fun hc=>by
  obtain⟨b,o,rfl,hB,hcell⟩:=h.at_ hc;refine⟨b,o,rfl,hB,fun i hi=>?_⟩;have hci:=hcell i hi;have hne:y≠b:=by
   rintro rfl;unfold Box at hb;simp only[World.cell?,hb,Option.isSome_none,Bool.false_eq_true,if_false] at hci;rcases Nat.eq_zero_or_pos (o+i) with h0|h0
   ·rw[h0] at hci;simp at hci
   ·rw[Array.getElem?_eq_none (by simp;omega)] at hci;simp at hci
  rw[World.cell?_setCell_far _ _ _ _ (by exact hne)];exact hci⟩
theorem SlB.set_box {W:World} {v:Value} {l:List UInt8} {g:Option Nat} (h:SlB W v l g) {y:Nat} {T:TypeId} {sa:Option Addr} {sn sc:Nat} (hb:Box W y T (.slice sa sn sc)) (v':Value):SlB (W.setCell ⟨y,0,none⟩ v') v l g:=by
 obtain⟨a,n,c,e,hr,hn⟩:=h;exact⟨a,n,c,e,(hr.set_box hb v').mono (by rw[size_setCell'];exact Nat.le_refl _),hn⟩
theorem RowsCells.set_box {W:World} {g:Option Nat} {y:Nat} {T:TypeId} {sa:Option Addr} {sn sc:Nat} (hb:Box W y T (.slice sa sn sc)) (v':Value):∀ {cs:List Value} {R:List (List UInt8×List UInt8)},RowsCells W g cs R->RowsCells (W.setCell ⟨y,0,none⟩ v') g cs R
 | [],[],_=>trivial
 | k::v::cs,r::R,h=>⟨h.1.set_box hb v',h.2.1.set_box hb v',RowsCells.set_box hb v' h.2.2⟩
 | [],_::_,h=>h.elim
 | [_],_,h=>by cases ‹List (List UInt8×List UInt8)›<;>exact h.elim
 | _::_::_,[],h=>h.elim
theorem OR.snoc {base:Nat} {W W':World} {v kv vv:Value} {cs:List Value} {R:List (List UInt8×List UInt8)} {k u:List UInt8} {g cap:Nat} (hrc:RowsCells W v.ownBlock cs R) (hk:SlB W kv k v.ownBlock) (hv:SlB W vv u v.ownBlock)
  (hown:W'.ownsRow base 185 2 (.slice (some ⟨g,0,none⟩) (R.length+1) cap) (R.length+1) (cs++[kv,vv])) (hgrow:W.grownBy W' v.ownBlock) (hat:v.ownBlock=some g∨g=W.heap.size) :
  OR base W' (.slice (some ⟨g,0,none⟩) (R.length+1) cap) (R++[(k,u)]):=by
 refine⟨cs++[kv,vv],?_,?_⟩
 ·rw[List.length_append];exact hown
 ·exact RowsCells.append (cs2:=[kv,vv]) (R2:=[(k,u)]) ⟨hk.grown hgrow hat,hv.grown hgrow hat,trivial⟩ (RowsCells.grown hgrow hat hrc)
theorem OR.setBox {base:Nat} {W:World} {v:Value} {R:List (List UInt8×List UInt8)} (h:OR base W v R) {y:Nat} {T:TypeId} {sa:Option Addr} {sn sc:Nat} (hb:Box W y T (.slice sa sn sc)) (hy:y<base) (v':Value):OR base (W.setCell ⟨y,0,none⟩ v') v R:=by
 obtain⟨cs,h1,h2⟩:=h;refine⟨cs,?_,h2.set_box hb v'⟩;obtain⟨e,h3|⟨g,cap,cur,hv,hg,hh,r⟩⟩:=h1
 ·exact⟨e,.inl h3⟩
 ·exact⟨e,.inr ⟨g,cap,cur,hv,hg,(Below.heap_setCell W ⟨y,0,none⟩ v' g (fun e=>by have e':g=y:=e;omega)).trans hh,r⟩⟩
theorem rows_end {w W W0 W6 w7:World} {z y b:Nat} {T1 T2:TypeId} {pv v kv vv:Value} {va:Option Addr} {vn vc:Nat} {cs:List Value} {R:List (List UInt8×List UInt8)} {k u:List UInt8} {g cap:Nat} (hW0:W0=W.drew) (hB:Below W0.heap.size W0 W6)
  (hvs:v=.slice va vn vc) (hor:OR (y+2) W6 v R) (hrc:RowsCells W6 v.ownBlock cs R) (hk:SlB W6 kv k v.ownBlock) (hv:SlB W6 vv u v.ownBlock) (hown:w7.ownsRow (y+2) 185 2 (.slice (some ⟨g,0,none⟩) (R.length+1) cap) (R.length+1) (cs++[kv,vv])) (hgrow:W6.grownBy w7 v.ownBlock)
  (hat:v.ownBlock=some g∨g=W6.heap.size) (b1:Box W0 z T1 pv) (b3:Box W0 y T2 v) (hzy:z<y) (h5:Below z w W) (hb:b<z) (hy1:y+1<W.heap.size) :
  w7.cell? ⟨z,0,none⟩=some pv/\w7.cell? ⟨y,0,none⟩=some v/\w7.frozen? ⟨y,0,none⟩=false/\(w7.setCell ⟨y,0,none⟩ (.slice (some ⟨g,0,none⟩) (R.length+1) cap)).cell? ⟨z,0,none⟩=some pv /\
  KeepsOthers W (w7.setCell ⟨y,0,none⟩ (.slice (some ⟨g,0,none⟩) (R.length+1) cap))/\KpS (fun k=>k=b∨k=y+1) W (w7.setCell ⟨y,0,none⟩ (.slice (some ⟨g,0,none⟩) (R.length+1) cap)) /\
  ∃ v',Hid (OR (y+2) (w7.setCell ⟨y,0,none⟩ (.slice (some ⟨g,0,none⟩) (R.length+1) cap)) v' (R++[(k,u)]))/\Box (w7.setCell ⟨y,0,none⟩ (.slice (some ⟨g,0,none⟩) (R.length+1) cap)) z T1 pv /\
   Box (w7.setCell ⟨y,0,none⟩ (.slice (some ⟨g,0,none⟩) (R.length+1) cap)) y T2 v'/\Below z w (w7.setCell ⟨y,0,none⟩ (.slice (some ⟨g,0,none⟩) (R.length+1) cap))/\W.heap.size<=(w7.setCell ⟨y,0,none⟩ (.slice (some ⟨g,0,none⟩) (R.length+1) cap)).heap.size:=by
 have hWs:W0.heap.size=W.heap.size:=by rw[hW0];rfl
 have hge:∀ j,j<y+2->some j≠v.ownBlock:=fun j hj e=>by have:=(hor.own_ge j e.symm).1;omega
 have hs6:=hB.size;have b1':Box w7 z T1 pv:=(hgrow.block z (by omega) (hge z (by omega))).trans (b1.below hB b1.lt);have b3':Box w7 y T2 v:=(hgrow.block y (by omega) (hge y (by omega))).trans (b3.below hB b3.lt);have hko:KeepsOthers W W6:=⟨by omega,fun j o hj _=>by
  have hlt:=(Array.getElem?_eq_some_iff.1 hj).1;have:=hB.block j (by omega);rw[this,hW0];exact hj⟩
 have hbelow:Below z w w7:=by
  have h0:Below z w W6:=h5.trans (by rw[hW0] at hB;exact ((Below.refl z W).drew).trans (hB.mono (by have:=b1.lt;rw[hW0] at this;omega)));exact h0.grown hgrow (by have:=b1.lt;omega) (fun r e=>by have:=(hor.own_ge r e).1;omega)
 refine⟨b1'.cell,b3'.cell,b3'.frozen,(b1'.other (by omega) _).cell,?_,?_,.slice (some ⟨g,0,none⟩) (R.length+1) cap,?_,b1'.other (by omega) _,b3'.set _,hbelow.setCell (p:=⟨y,0,none⟩) (by show z<=y;omega) _,?_⟩
 ·exact (hko.trans (KeepsOthers.of_grownBy hgrow (fun j o e ho=>(hor.own_ge j e).2.2 o ho))).trans (KeepsOthers.setCell _ _ _)
 ·refine KpS.setCell ?_ (by show ¬ (y=b∨y=y+1);omega) _;rintro j hj;have hj':j<y+2:=by rcases hj with rfl|rfl<;>omega
  have hjW:j<W.heap.size:=by rcases hj with rfl|rfl<;>omega
  rw[hgrow.block j (by omega) (hge j hj'),hB.block j (by omega),hW0];rfl
 ·subst hvs;exact φ ((OR.snoc hrc hk hv hown hgrow hat).setBox b3' (by omega) _)
 ·rw[size_setCell'];have:=hgrow.size;omega
theorem ent_key:Enters Tryz.prog 84:=enters_of Tryz.func84 (by kernel_rfl) rfl
theorem ent_value:Enters Tryz.prog 69:=enters_of Tryz.func69 (by kernel_rfl) rfl
theorem ent_clone:Enters Tryz.prog 83:=enters_of Tryz.func83 (by kernel_rfl) rfl
theorem Rows_in (N:Nat) (b o c:Nat) (L:List UInt8) (w:World) (hr:RB N w (some ⟨b,o,none⟩) 512 c L) (hN:N<=w.heap.size) (hp:0<βL L) :
  CallsIn Fence.wide 6 Tryz.prog 37 #[.slice (some ⟨b,o,none⟩) 512 c] w fun e w'=>(∃ v,e=.returned v/\OR w.heap.size w' v (rowsL L))/\Below w.heap.size w w':=by
 have hle:=hr.le;have hmx:=hr.mx;have hlm:=hr.lm;have hln:=hr.len;obtain⟨b',o',he,hB,hcell⟩:=hr.at_ (by omega)
 cases he
 have hbw:b<w.heap.size:=by omega
 have Hln:=φ hln;clear hln;have Hcell:=φ hcell;clear hcell;have HR:Hid (∀ w':World,Below N w w'->Calls Tryz.prog 76 #[.slice (some ⟨b,o,none⟩) 512 c] w' fun e w''=>e=.returned (.bool true)/\Below w'.heap.size w' w''):=by
  intro w' hb;have:=Right_any N _ _ c L w' (hr.below hb) (Nat.le_trans hN hb.size);rw[decide_eq_true hp] at this;exact this
 obtain⟨z,hz⟩:∃ z,z=w.heap.size:=⟨_,rfl⟩
 have Hb0:Hid (Below z w (w.alloc (.cells #[.slice (some ⟨b,o,none⟩) 512 c] 27))):=φ ((Below.refl _ w).alloc (by omega) _);have Hc0:Hid (Box (w.alloc (.cells #[.slice (some ⟨b,o,none⟩) 512 c] 27)) z 27 (.slice (some ⟨b,o,none⟩) 512 c)):=φ (by rw[hz];exact Box.new w _ _);have Hz:=φ hz;clear hz;refine callsIn_of_wp_marks Tryz.func37 rfl trivial ?_ rfl;simp only[Tryz.ntmps37,List.size_toArray,List.length_cons,List.length_nil,Nat.reduceAdd,Nat.reduceSub,Array.replicate_succ,Array.replicate_zero,List.push_toArray,List.append_toArray,List.nil_append,List.cons_append]
 gi_wp2_with (first|(refine⟨trivial,?_⟩;gi_at_call 76;refine (callsIn_wide.2 (HR.out _ (Hb0.out.mono (by have:=Hz.out;omega)))).mono ?_;rintro e w1 ⟨rfl,hb1⟩;have Hbx:=φ hb1;have g1:=(Hc0.out.below hb1 Hc0.out.lt).cell;rw[Hz.out] at g1;have g2:=((Hc0.out.below hb1 Hc0.out.lt).alloc (.cells #[.slice none 0 0] 94)).cell;rw[Hz.out] at g2;clear hb1)|(refine⟨trivial,?_⟩;gi_at_call 82;refine (callsIn_wide.2 (each_any _ _ _ _)).mono ?_;rintro e w' ⟨rfl,rfl⟩))
 have hsz:z<w1.heap.size:=Nat.lt_of_lt_of_le Hc0.out.lt Hbx.out.size;obtain⟨y,hy⟩:∃ y,y=w1.heap.size:=⟨_,rfl⟩
 have Hy:=φ hy;have Hb1:Hid (Below z w w1):=φ (Hb0.out.trans (Hbx.out.mono (by have:=Hc0.out.lt;omega)));have Hc1:Hid (Box w1 z 27 (.slice (some ⟨b,o,none⟩) 512 c)):=φ (Hc0.out.below Hbx.out Hc0.out.lt);clear Hbx Hc0 Hb0 g1 g2;rw[<- Hz.out];simp only[<- hy];rw[<- hy] at hsz;refine wpIn_boxes w1 [(_,_),(_,_)] rfl ?_;intro w2 hlb hs2 hbx;rw[<- hy] at hlb hs2;simp only[<- hy] at hbx;clear hy;have c3:Box w2 y _ _:=hbx 0 _ rfl;have c4:Box w2 (y+1) _ _:=hbx 1 _ rfl;dsimp only at c3 c4;have c1:=Hc1.out.below hlb hsz;have hs4:=c4.lt;have hbz:=Hb1.out.trans (hlb.mono (Nat.le_of_lt hsz));have hr2:=hr.below (hbz.mono (by have:=Hz.out;omega));clear hbx hlb Hb1 Hc1;refine range_law (α:=El L (RowOk L)) (by omega) (gf:=131) (lb:=#[.pointer (some ⟨y+1,0,none⟩)]) rfl (enters_of Tryz.func131 (by kernel_rfl) rfl)
  (each_stops 5 (by omega) (y+1) N b o 512 c L (RowOk L) (right_rows hp) (fun k=>k=b∨k=y+1) (.inl rfl) (.inr rfl) (by omega) w2 (by rintro k (rfl|rfl)<;>(have:=Hz.out;omega)) c4.cell hr2) (by rintro k (rfl|rfl)<;>(have:=Hz.out;omega)) (fun _=>rfl)
  (fun pre W=>∃ v,Hid (OR (y+2) W v (pre.map fun x=>rowAt L x.1))/\Box W z 27 (.slice (some ⟨b,o,none⟩) 512 c)/\Box W y 94 v/\Below z w W/\w2.heap.size<=W.heap.size)
  (fun cd pre W=>False)
  ?hI ?hIx ?h0 ?_
 case hI =>
  intro pre W W' row h hg hr;obtain⟨v,h1,b1,b3,h5,h6⟩:=h;have hrow:∀ r,row=some r->∃ o:Obj,W.heap[r]? = some o/\o.isCells=false:=fun r e=>(hr r e).2
  refine⟨v,φ (h1.out.kept hg hrow),b1.kept hg hrow,b3.kept hg hrow,h5.grown hg (by omega) (fun k e=>by have:=(hr k e).1;omega),Nat.le_trans h6 hg.size⟩
 case hIx =>
  intro cd;refine ownFrom_of_below (fun pre W W' h hB hb=>h.elim) (fun pre W h=>h.elim)
 case h0=>exact⟨_,φ (OR.nil _ _),c1,c3,hbz,Nat.le_refl _⟩
 apply Exists.intro;refine⟨?assign,?body,?done,?stop⟩
 case assign =>
  intro l x W K hK
  gi_wp2
  exact hK
 case body =>
  rintro l pre x W ⟨v,h1,b1,b3,h5,h6⟩ hpn;obtain⟨i,e,hxe⟩:∃ i e,x.1=(i,e):=⟨_,_,rfl⟩
  obtain⟨⟨hx1,hx2,hx3⟩,hro1,hro2,hro3⟩:=x.2;rw[hxe] at hx1 hx2 hx3 hro1 hro2 hro3;simp only[hxe];have Hxe:=φ hxe;clear hxe;dsimp only at hx1 hx2 hx3 hro1 hro2 hro3 ⊢;have hbd:Below W.heap.size W W.drew:=(Below.refl _ W).drew;have hrW:=(hr.below (h5.mono (by have:=Hz.out;omega))).below (hbd.mono (by have:=h5.size;omega));obtain⟨W0,hW0⟩:∃ W0,W0=W.drew:=⟨_,rfl⟩
  have Box1:Hid (Box W0 z 27 (.slice (some ⟨b,o,none⟩) 512 c)):=φ (by rw[hW0];exact b1.drew);have Box3:Hid (Box W0 y 94 v):=φ (by rw[hW0];exact b3.drew);have Hor:Hid (OR (y+2) W0 v (pre.map fun x=>rowAt L x.1)):=φ (by rw[hW0];exact h1.out.below hbd);have Hvo:=φ Hor.out.own;have hbz':b<z:=by rw[Hz.out];exact hbw
  have hyW:y+1<W.heap.size:=Nat.lt_of_lt_of_le hs4 h6;have hN0:N<=W0.heap.size:=by rw[hW0];have:=h5.size;show N<=W.heap.size;omega
  rw[<- hW0] at hrW;have hc0:=Box1.out.cell;have go0:=Box3.out.cell;have kk:bt L i=((bt L i).toNat:Int):=by omega
  have hie:i+2+(bt L i).toNat<=e:=by
   have hin:i+2<=L.length:=by omega
   have:=bt_bd L (i+1);rw[hx3,endOf_in hin];omega
  have he5:e<=512:=by rw[Hln.out];exact hro3
  have Hkey:Hid (Calls Tryz.prog 84 #[.slice (some ⟨b,o,none⟩) 512 c,.int .i64 i] W0 fun e w'=>RetB N W0 (keyOf L i) e/\W0=w') :=
   φ (key_any N _ 512 c L i (bt L i).toNat W0 hrW kk (by omega))
  have Hval:Hid (∀ w':World,Below W0.heap.size W0 w'->Calls Tryz.prog 69 #[.slice (some ⟨b,o,none⟩) 512 c,.int .i64 i,.int .i64 e] w' fun e' w''=>RetB N w' (valOf L i e) e'/\w'=w'') :=
   φ (fun w' hb=>value_any N _ 512 c L i (bt L i).toNat e w' (hrW.below (hb.mono hN0)) kk hie he5)
  have hkl:(keyOf L i).length<=140737488355328:=by
   have:=bt_bd L i;unfold keyOf;rw[List.length_take];omega
  have hvl:(valOf L i e).length<=140737488355328:=by unfold valOf;rw[List.length_take];omega
  have hpl:(pre.map fun x=>rowAt L x.1).length<256:=by
   have:=scan_len L (bt L 10).toNat 11;have:=bt_bd L 10;rw[List.length_map];omega
  clear hpn;have Hmap:Hid (List.map (fun x=>rowAt L x.val) (pre++[x])=List.map (fun x=>rowAt L x.val) pre++[(keyOf L i,valOf L i e)]):=φ (by rw[List.map_append,List.map_singleton];unfold rowAt;rw[Hxe.out]);obtain⟨va0,vn0,vc0,hvs⟩:∃ va vn vc,v=.slice va vn vc:=by
   obtain⟨cs,⟨-,⟨h,-⟩|⟨g,cap,cur,h,-⟩⟩,-⟩:=h1.out
   ·exact⟨_,_,_,h⟩
   ·exact⟨_,_,_,h⟩
  have Hvs:=φ hvs;clear hvs;obtain⟨i0,hi,hz0,hz1,hz2⟩:=info_parts Tryz.infoRow;have Hi:=φ hi;have Hz0:=φ hz0;have Hz1:=φ hz1;have Hz2:=φ hz2;clear hi hz0 hz1 hz2
  gi_wp2
  refine round_region_held (S:=fun w'=>w'.cell? ⟨z,0,none⟩=some (.slice (some ⟨b,o,none⟩) 512 c)) (by kernel_rfl) (by kernel_rfl) b1.drew.cell (fun hHeld=>?_);refine wpAnyH_take (i:=1) (v:=.slice (some ⟨b,o,none⟩) 512 c) rfl (by kernel_rfl) (by kernel_rfl) (by kernel_rfl) (fun _ _ _ h=>h) (Or.inl ⟨by rfl,fun w' hSw=>?_⟩) hHeld ?_
  ·dsimp only at hSw;go_simp
  change wpAnyH _ _ _ _ _ _ _ (Act.put _ (some 14) _) _;refine wpAnyH_take (i:=2) (v:=.int .i64 i) rfl (by kernel_rfl) (by kernel_rfl) (by kernel_rfl) (fun _ _ _ h=>h) (Or.inl ⟨by rfl,fun w' hSw=>?_⟩) hHeld ?_
  ·go_simp
  change wpAnyH _ _ _ _ _ _ _ (Act.put _ (some 15) _) _;refine wpAnyH_take (i:=5) (v:=.slice (some ⟨b,o,none⟩) 512 c) rfl (by kernel_rfl) (by kernel_rfl) (by kernel_rfl) (fun _ _ _ h=>h) (Or.inl ⟨by rfl,fun w' hSw=>?_⟩) hHeld ?_
  ·dsimp only at hSw;go_simp
  change wpAnyH _ _ _ _ _ _ _ (Act.put _ (some 18) _) _;refine wpAnyH_take (i:=6) (v:=.int .i64 i) rfl (by kernel_rfl) (by kernel_rfl) (by kernel_rfl) (fun _ _ _ h=>h) (Or.inl ⟨by rfl,fun w' hSw=>?_⟩) hHeld ?_
  ·go_simp
  change wpAnyH _ _ _ _ _ _ _ (Act.put _ (some 19) _) _;refine wpAnyH_take (i:=7) (v:=.int .i64 e) rfl (by kernel_rfl) (by kernel_rfl) (by kernel_rfl) (fun _ _ _ h=>h) (Or.inl ⟨by rfl,fun w' hSw=>?_⟩) hHeld ?_
  ·go_simp
  change wpAnyH _ _ _ _ _ _ _ (Act.put _ (some 20) _) _;simp only[Act.put,List.setIfInBounds_toArray,List.set_cons_zero,List.set_cons_succ];rw[<- hW0] at hHeld ⊢;have HW0:=φ hW0;clear hW0
  -- THE REGION (printed)
  refine wpAnyH_ready (rs:=[0,3]) (by kernel_rfl) (by simp) ?_;refine step_val (v:=v) (by rfl) (by rfl) (by exact run_load1 (by rfl) (by rfl) Tryz.underlying94 go0) hc0 ?_ ?_
  ·simp only[Act.put,List.getElem_toArray,List.getElem_cons_zero,List.setIfInBounds_toArray,List.set_cons_zero,List.set_cons_succ];refine wpAnyH_ready (rs:=[3]) (by kernel_rfl) (by simp) ?_;refine step_fn (f:=84) (args:=#[.slice (some ⟨b,o,none⟩) 512 c,.int .i64 i]) (by rfl) (by rfl) (by exact run_fn2 (by rfl) (by rfl) ent_key _ (by rfl) (by rfl)) (Hkey.out.mono ?_) ?_
   ·rintro _ _ ⟨⟨ka,kn,kc,rfl,rk⟩,rfl⟩;have Rk:=φ rk;clear rk;refine⟨_,rfl,hc0,?_⟩;simp only[Act.put,List.getElem_toArray,List.getElem_cons_succ,List.getElem_cons_zero,List.setIfInBounds_toArray,List.set_cons_zero,List.set_cons_succ];refine wpAnyH_ready (rs:=[4]) (by kernel_rfl) (by simp) ?_;refine step_fn (f:=83) (args:=#[.slice ka kn kc]) (by rfl) (by rfl) (by exact run_fn1 (by rfl) (by rfl) ent_clone _ (by rfl)) ((Clone_any N _ _ _ _ _ Rk.out hN0).mono ?_) ?_
    ·rintro _ w17 ⟨⟨v17,rfl,o17⟩,b17⟩;have O17:=φ o17;have B17:=φ b17;have hc2:=(Box.below (Box1.out) b17 Box1.out.lt).cell;have go2:=(Box.below (Box3.out) b17 Box3.out.lt).cell;clear o17 b17;refine⟨_,rfl,hc2,?_⟩;simp only[Act.put,List.getElem_toArray,List.getElem_cons_succ,List.getElem_cons_zero,List.setIfInBounds_toArray,List.set_cons_zero,List.set_cons_succ];refine wpAnyH_ready (rs:=[8]) (by kernel_rfl) (by simp) ?_;refine step_fn (f:=69) (args:=#[.slice (some ⟨b,o,none⟩) 512 c,.int .i64 i,.int .i64 e]) (by rfl) (by rfl) (by exact run_fn3 (by rfl) (by rfl) ent_value _ (by rfl) (by rfl) (by rfl)) ((Hval.out w17 B17.out).mono ?_) ?_
     ·rintro _ _ ⟨⟨va,vn,vc,rfl,rv⟩,rfl⟩;have Rv:=φ rv;clear rv;refine⟨_,rfl,hc2,?_⟩;simp only[Act.put,List.getElem_toArray,List.getElem_cons_succ,List.getElem_cons_zero,List.setIfInBounds_toArray,List.set_cons_zero,List.set_cons_succ];refine wpAnyH_ready (rs:=[9]) (by kernel_rfl) (by simp) ?_;refine step_fn (f:=83) (args:=#[.slice va vn vc]) (by rfl) (by rfl) (by exact run_fn1 (by rfl) (by rfl) ent_clone _ (by rfl)) ((Clone_any N _ _ _ _ _ Rv.out (Nat.le_trans hN0 B17.out.size)).mono ?_) ?_
      ·rintro _ w22 ⟨⟨v22,rfl,o22⟩,b22⟩;have O22:=φ o22;have B22:=φ (B17.out.trans (b22.mono B17.out.size));have B22w:=φ b22;have hc4:=(Box.below (Box1.out) B22.out Box1.out.lt).cell;have go4:=(Box.below (Box3.out) B22.out Box3.out.lt).cell;clear o22 b22;obtain⟨a17,c17,e17,-⟩:=O17.out.slB hkl (g:=none) (fun _ h=>by cases h);obtain⟨a22,c22,e22,-⟩:=O22.out.slB hvl (g:=none) (fun _ h=>by cases h);subst e17;subst e22;refine⟨_,rfl,hc4,?_⟩;simp only[Act.put,List.getElem_toArray,List.getElem_cons_succ,List.getElem_cons_zero,List.setIfInBounds_toArray,List.set_cons_zero,List.set_cons_succ];refine wpAnyH_ready (rs:=[10]) (by kernel_rfl) (by simp) ?_;refine step_val (v:=.agg #[.slice a17 (keyOf L i).length c17,.slice a22 (valOf L i e).length c22]) (by rfl) (by rfl) (by exact run_build_row (by rfl) (by rfl) (by rfl) _) hc4 ?_ ?_
       ·simp only[Act.put,List.getElem_toArray,List.getElem_cons_succ,List.getElem_cons_zero,List.setIfInBounds_toArray,List.set_cons_zero,List.set_cons_succ];refine wpAnyH_ready (rs:=[11]) (by kernel_rfl) (by simp) ?_;have hc6:=((Box.below (Box1.out) B22.out Box1.out.lt).alloc (.cells #[.slice a17 (keyOf L i).length c17,.slice a22 (valOf L i e).length c22] 185)).cell;have go6:=((Box.below (Box3.out) B22.out Box3.out.lt).alloc (.cells #[.slice a17 (keyOf L i).length c17,.slice a22 (valOf L i e).length c22] 185)).cell;refine step_val (v:=.slice (some ⟨w22.heap.size,0,none⟩) 1 1) (by rfl) (by rfl) (by exact run_buildSlice_row (by rfl) (by rfl) _) hc6 ?_ ?_
        ·simp only[Act.put,List.getElem_toArray,List.getElem_cons_succ,List.getElem_cons_zero,List.setIfInBounds_toArray,List.set_cons_zero,List.set_cons_succ];have ho6:=((Hor.out.below B22.out).below (((Below.refl _ w22).alloc (Nat.le_refl _) (.cells #[.slice a17 (keyOf L i).length c17,.slice a22 (valOf L i e).length c22] 185))))
         have Ho6:=φ ho6;obtain⟨cs,hown,hrc⟩:=ho6;have Hrc:=φ hrc;have Hown:=φ hown;clear hrc hown;refine wpAnyH_ready (rs:=[12]) (by kernel_rfl) (by simp) ?_;refine step_law (by rfl) (by rfl) (fun K hK=>?_) AllReadyH.nil;refine wp_append_lies _ _ _ 94 (by rfl) (y+2) 185 i0 _ 2 48 Tryz.underlying94 Hi.out Hz0.out Hz1.out Hz2.out (by rfl) (by decide) v _ cs (by rfl) Hown.out ⟨w22.heap.size,0,none⟩ 1 1 [.slice a17 (keyOf L i).length c17,.slice a22 (valOf L i e).length c22] (by rfl) rfl (World.news_of_block (heap_alloc_new _ _)) (by intro u hu;simp at hu;rcases hu with rfl|rfl<;>rfl) (by decide) (by simp only[maxLen];omega) (by omega) (by have:=B22.out.size;have:=Box3.out.lt;have:=hs4;rw[World.size_alloc];have:=h6;have:=hbd.size;rw[HW0.out] at *;omega) _ rfl ?_;intro g cap w7 hown7 hgrow hat hlt;obtain⟨q1,q2,q3,q4,q5⟩:=rows_end (k:=keyOf L i) (u:=valOf L i e) HW0.out (B22.out.trans ((Below.refl _ w22).alloc B22.out.size _)) Hvs.out Ho6.out Hrc.out (O17.out.slBa hkl Hvo.out B22w.out _) (O22.out.slBa hvl (fun b e=>Nat.lt_of_lt_of_le (Hvo.out b e) B17.out.size) (Below.refl _ _) _) hown7 hgrow hat Box1.out Box3.out hsz h5 hbz' hyW;refine hK _ _ q1 ?_;simp only[Act.put,List.getElem_toArray,List.getElem_cons_succ,List.getElem_cons_zero,List.setIfInBounds_toArray,List.set_cons_zero,List.set_cons_succ];refine wpAnyH_ready (rs:=[13]) (by kernel_rfl) (by simp) ?_;refine step_skip (by rfl) (by rfl) (by exact run_store_rows (by rfl) (by rfl) (by rfl) q2 q3) q4 ?_ AllReadyH.nil;refine wpAnyH_done (by kernel_rfl) ?_ _;dsimp only [okPost]
         gi_wp2
         obtain⟨q6,q7,v',q8,q9,q10,q11,q12⟩:=q5;exact⟨q6,q7,v',φ (by rw[Hmap.out];exact q8.out),q9,q10,q11,Nat.le_trans h6 q12⟩
        exact AllReadyH.nil
       exact AllReadyH.nil
      exact AllReadyH.nil
     exact AllReadyH.nil
    exact AllReadyH.nil
   exact AllReadyH.nil
  refine step_fn (f:=84) (args:=#[.slice (some ⟨b,o,none⟩) 512 c,.int .i64 i]) (by rfl) (by rfl) (by exact run_fn2 (by rfl) (by rfl) ent_key _ (by rfl) (by rfl)) (Hkey.out.mono ?_) ?_
  ·rintro _ _ ⟨⟨ka,kn,kc,rfl,rk⟩,rfl⟩;have Rk:=φ rk;clear rk;refine⟨_,rfl,hc0,?_⟩;simp only[Act.put,List.getElem_toArray,List.getElem_cons_succ,List.getElem_cons_zero,List.setIfInBounds_toArray,List.set_cons_zero,List.set_cons_succ];refine wpAnyH_ready (rs:=[0,4]) (by kernel_rfl) (by simp) ?_;refine step_val (v:=v) (by rfl) (by rfl) (by exact run_load1 (by rfl) (by rfl) Tryz.underlying94 go0) hc0 ?_ ?_
   ·simp only[Act.put,List.getElem_toArray,List.getElem_cons_zero,List.setIfInBounds_toArray,List.set_cons_zero,List.set_cons_succ];refine wpAnyH_ready (rs:=[4]) (by kernel_rfl) (by simp) ?_;refine step_fn (f:=83) (args:=#[.slice ka kn kc]) (by rfl) (by rfl) (by exact run_fn1 (by rfl) (by rfl) ent_clone _ (by rfl)) ((Clone_any N _ _ _ _ _ Rk.out hN0).mono ?_) ?_
    ·rintro _ w17 ⟨⟨v17,rfl,o17⟩,b17⟩;have O17:=φ o17;have B17:=φ b17;have hc2:=(Box.below (Box1.out) b17 Box1.out.lt).cell;have go2:=(Box.below (Box3.out) b17 Box3.out.lt).cell;clear o17 b17;refine⟨_,rfl,hc2,?_⟩;simp only[Act.put,List.getElem_toArray,List.getElem_cons_succ,List.getElem_cons_zero,List.setIfInBounds_toArray,List.set_cons_zero,List.set_cons_succ];refine wpAnyH_ready (rs:=[8]) (by kernel_rfl) (by simp) ?_;refine step_fn (f:=69) (args:=#[.slice (some ⟨b,o,none⟩) 512 c,.int .i64 i,.int .i64 e]) (by rfl) (by rfl) (by exact run_fn3 (by rfl) (by rfl) ent_value _ (by rfl) (by rfl) (by rfl)) ((Hval.out w17 B17.out).mono ?_) ?_
     ·rintro _ _ ⟨⟨va,vn,vc,rfl,rv⟩,rfl⟩;have Rv:=φ rv;clear rv;refine⟨_,rfl,hc2,?_⟩;simp only[Act.put,List.getElem_toArray,List.getElem_cons_succ,List.getElem_cons_zero,List.setIfInBounds_toArray,List.set_cons_zero,List.set_cons_succ];refine wpAnyH_ready (rs:=[9]) (by kernel_rfl) (by simp) ?_;refine step_fn (f:=83) (args:=#[.slice va vn vc]) (by rfl) (by rfl) (by exact run_fn1 (by rfl) (by rfl) ent_clone _ (by rfl)) ((Clone_any N _ _ _ _ _ Rv.out (Nat.le_trans hN0 B17.out.size)).mono ?_) ?_
      ·rintro _ w22 ⟨⟨v22,rfl,o22⟩,b22⟩;have O22:=φ o22;have B22:=φ (B17.out.trans (b22.mono B17.out.size));have B22w:=φ b22;have hc4:=(Box.below (Box1.out) B22.out Box1.out.lt).cell;have go4:=(Box.below (Box3.out) B22.out Box3.out.lt).cell;clear o22 b22;obtain⟨a17,c17,e17,-⟩:=O17.out.slB hkl (g:=none) (fun _ h=>by cases h);obtain⟨a22,c22,e22,-⟩:=O22.out.slB hvl (g:=none) (fun _ h=>by cases h);subst e17;subst e22;refine⟨_,rfl,hc4,?_⟩;simp only[Act.put,List.getElem_toArray,List.getElem_cons_succ,List.getElem_cons_zero,List.setIfInBounds_toArray,List.set_cons_zero,List.set_cons_succ];refine wpAnyH_ready (rs:=[10]) (by kernel_rfl) (by simp) ?_;refine step_val (v:=.agg #[.slice a17 (keyOf L i).length c17,.slice a22 (valOf L i e).length c22]) (by rfl) (by rfl) (by exact run_build_row (by rfl) (by rfl) (by rfl) _) hc4 ?_ ?_
       ·simp only[Act.put,List.getElem_toArray,List.getElem_cons_succ,List.getElem_cons_zero,List.setIfInBounds_toArray,List.set_cons_zero,List.set_cons_succ];refine wpAnyH_ready (rs:=[11]) (by kernel_rfl) (by simp) ?_;have hc6:=((Box.below (Box1.out) B22.out Box1.out.lt).alloc (.cells #[.slice a17 (keyOf L i).length c17,.slice a22 (valOf L i e).length c22] 185)).cell;have go6:=((Box.below (Box3.out) B22.out Box3.out.lt).alloc (.cells #[.slice a17 (keyOf L i).length c17,.slice a22 (valOf L i e).length c22] 185)).cell;refine step_val (v:=.slice (some ⟨w22.heap.size,0,none⟩) 1 1) (by rfl) (by rfl) (by exact run_buildSlice_row (by rfl) (by rfl) _) hc6 ?_ ?_
        ·simp only[Act.put,List.getElem_toArray,List.getElem_cons_succ,List.getElem_cons_zero,List.setIfInBounds_toArray,List.set_cons_zero,List.set_cons_succ];have ho6:=((Hor.out.below B22.out).below (((Below.refl _ w22).alloc (Nat.le_refl _) (.cells #[.slice a17 (keyOf L i).length c17,.slice a22 (valOf L i e).length c22] 185))))
         have Ho6:=φ ho6;obtain⟨cs,hown,hrc⟩:=ho6;have Hrc:=φ hrc;have Hown:=φ hown;clear hrc hown;refine wpAnyH_ready (rs:=[12]) (by kernel_rfl) (by simp) ?_;refine step_law (by rfl) (by rfl) (fun K hK=>?_) AllReadyH.nil;refine wp_append_lies _ _ _ 94 (by rfl) (y+2) 185 i0 _ 2 48 Tryz.underlying94 Hi.out Hz0.out Hz1.out Hz2.out (by rfl) (by decide) v _ cs (by rfl) Hown.out ⟨w22.heap.size,0,none⟩ 1 1 [.slice a17 (keyOf L i).length c17,.slice a22 (valOf L i e).length c22] (by rfl) rfl (World.news_of_block (heap_alloc_new _ _)) (by intro u hu;simp at hu;rcases hu with rfl|rfl<;>rfl) (by decide) (by simp only[maxLen];omega) (by omega) (by have:=B22.out.size;have:=Box3.out.lt;have:=hs4;rw[World.size_alloc];have:=h6;have:=hbd.size;rw[HW0.out] at *;omega) _ rfl ?_;intro g cap w7 hown7 hgrow hat hlt;obtain⟨q1,q2,q3,q4,q5⟩:=rows_end (k:=keyOf L i) (u:=valOf L i e) HW0.out (B22.out.trans ((Below.refl _ w22).alloc B22.out.size _)) Hvs.out Ho6.out Hrc.out (O17.out.slBa hkl Hvo.out B22w.out _) (O22.out.slBa hvl (fun b e=>Nat.lt_of_lt_of_le (Hvo.out b e) B17.out.size) (Below.refl _ _) _) hown7 hgrow hat Box1.out Box3.out hsz h5 hbz' hyW;refine hK _ _ q1 ?_;simp only[Act.put,List.getElem_toArray,List.getElem_cons_succ,List.getElem_cons_zero,List.setIfInBounds_toArray,List.set_cons_zero,List.set_cons_succ];refine wpAnyH_ready (rs:=[13]) (by kernel_rfl) (by simp) ?_;refine step_skip (by rfl) (by rfl) (by exact run_store_rows (by rfl) (by rfl) (by rfl) q2 q3) q4 ?_ AllReadyH.nil;refine wpAnyH_done (by kernel_rfl) ?_ _;dsimp only [okPost]
         gi_wp2
         obtain⟨q6,q7,v',q8,q9,q10,q11,q12⟩:=q5;exact⟨q6,q7,v',φ (by rw[Hmap.out];exact q8.out),q9,q10,q11,Nat.le_trans h6 q12⟩
        exact AllReadyH.nil
       exact AllReadyH.nil
      exact AllReadyH.nil
     exact AllReadyH.nil
    exact AllReadyH.nil
   refine step_fn (f:=83) (args:=#[.slice ka kn kc]) (by rfl) (by rfl) (by exact run_fn1 (by rfl) (by rfl) ent_clone _ (by rfl)) ((Clone_any N _ _ _ _ _ Rk.out hN0).mono ?_) ?_
   ·rintro _ w17 ⟨⟨v17,rfl,o17⟩,b17⟩;have O17:=φ o17;have B17:=φ b17;have hc2:=(Box.below (Box1.out) b17 Box1.out.lt).cell;have go2:=(Box.below (Box3.out) b17 Box3.out.lt).cell;clear o17 b17;refine⟨_,rfl,hc2,?_⟩;simp only[Act.put,List.getElem_toArray,List.getElem_cons_succ,List.getElem_cons_zero,List.setIfInBounds_toArray,List.set_cons_zero,List.set_cons_succ];refine wpAnyH_ready (rs:=[0,8]) (by kernel_rfl) (by simp) ?_;refine step_val (v:=v) (by rfl) (by rfl) (by exact run_load1 (by rfl) (by rfl) Tryz.underlying94 go2) hc2 ?_ ?_
    ·simp only[Act.put,List.getElem_toArray,List.getElem_cons_zero,List.setIfInBounds_toArray,List.set_cons_zero,List.set_cons_succ];refine wpAnyH_ready (rs:=[8]) (by kernel_rfl) (by simp) ?_;refine step_fn (f:=69) (args:=#[.slice (some ⟨b,o,none⟩) 512 c,.int .i64 i,.int .i64 e]) (by rfl) (by rfl) (by exact run_fn3 (by rfl) (by rfl) ent_value _ (by rfl) (by rfl) (by rfl)) ((Hval.out w17 B17.out).mono ?_) ?_
     ·rintro _ _ ⟨⟨va,vn,vc,rfl,rv⟩,rfl⟩;have Rv:=φ rv;clear rv;refine⟨_,rfl,hc2,?_⟩;simp only[Act.put,List.getElem_toArray,List.getElem_cons_succ,List.getElem_cons_zero,List.setIfInBounds_toArray,List.set_cons_zero,List.set_cons_succ];refine wpAnyH_ready (rs:=[9]) (by kernel_rfl) (by simp) ?_;refine step_fn (f:=83) (args:=#[.slice va vn vc]) (by rfl) (by rfl) (by exact run_fn1 (by rfl) (by rfl) ent_clone _ (by rfl)) ((Clone_any N _ _ _ _ _ Rv.out (Nat.le_trans hN0 B17.out.size)).mono ?_) ?_
      ·rintro _ w22 ⟨⟨v22,rfl,o22⟩,b22⟩;have O22:=φ o22;have B22:=φ (B17.out.trans (b22.mono B17.out.size));have B22w:=φ b22;have hc4:=(Box.below (Box1.out) B22.out Box1.out.lt).cell;have go4:=(Box.below (Box3.out) B22.out Box3.out.lt).cell;clear o22 b22;obtain⟨a17,c17,e17,-⟩:=O17.out.slB hkl (g:=none) (fun _ h=>by cases h);obtain⟨a22,c22,e22,-⟩:=O22.out.slB hvl (g:=none) (fun _ h=>by cases h);subst e17;subst e22;refine⟨_,rfl,hc4,?_⟩;simp only[Act.put,List.getElem_toArray,List.getElem_cons_succ,List.getElem_cons_zero,List.setIfInBounds_toArray,List.set_cons_zero,List.set_cons_succ];refine wpAnyH_ready (rs:=[10]) (by kernel_rfl) (by simp) ?_;refine step_val (v:=.agg #[.slice a17 (keyOf L i).length c17,.slice a22 (valOf L i e).length c22]) (by rfl) (by rfl) (by exact run_build_row (by rfl) (by rfl) (by rfl) _) hc4 ?_ ?_
       ·simp only[Act.put,List.getElem_toArray,List.getElem_cons_succ,List.getElem_cons_zero,List.setIfInBounds_toArray,List.set_cons_zero,List.set_cons_succ];refine wpAnyH_ready (rs:=[11]) (by kernel_rfl) (by simp) ?_;have hc6:=((Box.below (Box1.out) B22.out Box1.out.lt).alloc (.cells #[.slice a17 (keyOf L i).length c17,.slice a22 (valOf L i e).length c22] 185)).cell;have go6:=((Box.below (Box3.out) B22.out Box3.out.lt).alloc (.cells #[.slice a17 (keyOf L i).length c17,.slice a22 (valOf L i e).length c22] 185)).cell;refine step_val (v:=.slice (some ⟨w22.heap.size,0,none⟩) 1 1) (by rfl) (by rfl) (by exact run_buildSlice_row (by rfl) (by rfl) _) hc6 ?_ ?_
        ·simp only[Act.put,List.getElem_toArray,List.getElem_cons_succ,List.getElem_cons_zero,List.setIfInBounds_toArray,List.set_cons_zero,List.set_cons_succ];have ho6:=((Hor.out.below B22.out).below (((Below.refl _ w22).alloc (Nat.le_refl _) (.cells #[.slice a17 (keyOf L i).length c17,.slice a22 (valOf L i e).length c22] 185))))
         have Ho6:=φ ho6;obtain⟨cs,hown,hrc⟩:=ho6;have Hrc:=φ hrc;have Hown:=φ hown;clear hrc hown;refine wpAnyH_ready (rs:=[12]) (by kernel_rfl) (by simp) ?_;refine step_law (by rfl) (by rfl) (fun K hK=>?_) AllReadyH.nil;refine wp_append_lies _ _ _ 94 (by rfl) (y+2) 185 i0 _ 2 48 Tryz.underlying94 Hi.out Hz0.out Hz1.out Hz2.out (by rfl) (by decide) v _ cs (by rfl) Hown.out ⟨w22.heap.size,0,none⟩ 1 1 [.slice a17 (keyOf L i).length c17,.slice a22 (valOf L i e).length c22] (by rfl) rfl (World.news_of_block (heap_alloc_new _ _)) (by intro u hu;simp at hu;rcases hu with rfl|rfl<;>rfl) (by decide) (by simp only[maxLen];omega) (by omega) (by have:=B22.out.size;have:=Box3.out.lt;have:=hs4;rw[World.size_alloc];have:=h6;have:=hbd.size;rw[HW0.out] at *;omega) _ rfl ?_;intro g cap w7 hown7 hgrow hat hlt;obtain⟨q1,q2,q3,q4,q5⟩:=rows_end (k:=keyOf L i) (u:=valOf L i e) HW0.out (B22.out.trans ((Below.refl _ w22).alloc B22.out.size _)) Hvs.out Ho6.out Hrc.out (O17.out.slBa hkl Hvo.out B22w.out _) (O22.out.slBa hvl (fun b e=>Nat.lt_of_lt_of_le (Hvo.out b e) B17.out.size) (Below.refl _ _) _) hown7 hgrow hat Box1.out Box3.out hsz h5 hbz' hyW;refine hK _ _ q1 ?_;simp only[Act.put,List.getElem_toArray,List.getElem_cons_succ,List.getElem_cons_zero,List.setIfInBounds_toArray,List.set_cons_zero,List.set_cons_succ];refine wpAnyH_ready (rs:=[13]) (by kernel_rfl) (by simp) ?_;refine step_skip (by rfl) (by rfl) (by exact run_store_rows (by rfl) (by rfl) (by rfl) q2 q3) q4 ?_ AllReadyH.nil;refine wpAnyH_done (by kernel_rfl) ?_ _;dsimp only [okPost]
         gi_wp2
         obtain⟨q6,q7,v',q8,q9,q10,q11,q12⟩:=q5;exact⟨q6,q7,v',φ (by rw[Hmap.out];exact q8.out),q9,q10,q11,Nat.le_trans h6 q12⟩
        exact AllReadyH.nil
       exact AllReadyH.nil
      exact AllReadyH.nil
     exact AllReadyH.nil
    refine step_fn (f:=69) (args:=#[.slice (some ⟨b,o,none⟩) 512 c,.int .i64 i,.int .i64 e]) (by rfl) (by rfl) (by exact run_fn3 (by rfl) (by rfl) ent_value _ (by rfl) (by rfl) (by rfl)) ((Hval.out w17 B17.out).mono ?_) ?_
    ·rintro _ _ ⟨⟨va,vn,vc,rfl,rv⟩,rfl⟩;have Rv:=φ rv;clear rv;refine⟨_,rfl,hc2,?_⟩;simp only[Act.put,List.getElem_toArray,List.getElem_cons_succ,List.getElem_cons_zero,List.setIfInBounds_toArray,List.set_cons_zero,List.set_cons_succ];refine wpAnyH_ready (rs:=[0,9]) (by kernel_rfl) (by simp) ?_;refine step_val (v:=v) (by rfl) (by rfl) (by exact run_load1 (by rfl) (by rfl) Tryz.underlying94 go2) hc2 ?_ ?_
     ·simp only[Act.put,List.getElem_toArray,List.getElem_cons_zero,List.setIfInBounds_toArray,List.set_cons_zero,List.set_cons_succ];refine wpAnyH_ready (rs:=[9]) (by kernel_rfl) (by simp) ?_;refine step_fn (f:=83) (args:=#[.slice va vn vc]) (by rfl) (by rfl) (by exact run_fn1 (by rfl) (by rfl) ent_clone _ (by rfl)) ((Clone_any N _ _ _ _ _ Rv.out (Nat.le_trans hN0 B17.out.size)).mono ?_) ?_
      ·rintro _ w22 ⟨⟨v22,rfl,o22⟩,b22⟩;have O22:=φ o22;have B22:=φ (B17.out.trans (b22.mono B17.out.size));have B22w:=φ b22;have hc4:=(Box.below (Box1.out) B22.out Box1.out.lt).cell;have go4:=(Box.below (Box3.out) B22.out Box3.out.lt).cell;clear o22 b22;obtain⟨a17,c17,e17,-⟩:=O17.out.slB hkl (g:=none) (fun _ h=>by cases h);obtain⟨a22,c22,e22,-⟩:=O22.out.slB hvl (g:=none) (fun _ h=>by cases h);subst e17;subst e22;refine⟨_,rfl,hc4,?_⟩;simp only[Act.put,List.getElem_toArray,List.getElem_cons_succ,List.getElem_cons_zero,List.setIfInBounds_toArray,List.set_cons_zero,List.set_cons_succ];refine wpAnyH_ready (rs:=[10]) (by kernel_rfl) (by simp) ?_;refine step_val (v:=.agg #[.slice a17 (keyOf L i).length c17,.slice a22 (valOf L i e).length c22]) (by rfl) (by rfl) (by exact run_build_row (by rfl) (by rfl) (by rfl) _) hc4 ?_ ?_
       ·simp only[Act.put,List.getElem_toArray,List.getElem_cons_succ,List.getElem_cons_zero,List.setIfInBounds_toArray,List.set_cons_zero,List.set_cons_succ];refine wpAnyH_ready (rs:=[11]) (by kernel_rfl) (by simp) ?_;have hc6:=((Box.below (Box1.out) B22.out Box1.out.lt).alloc (.cells #[.slice a17 (keyOf L i).length c17,.slice a22 (valOf L i e).length c22] 185)).cell;have go6:=((Box.below (Box3.out) B22.out Box3.out.lt).alloc (.cells #[.slice a17 (keyOf L i).length c17,.slice a22 (valOf L i e).length c22] 185)).cell;refine step_val (v:=.slice (some ⟨w22.heap.size,0,none⟩) 1 1) (by rfl) (by rfl) (by exact run_buildSlice_row (by rfl) (by rfl) _) hc6 ?_ ?_
        ·simp only[Act.put,List.getElem_toArray,List.getElem_cons_succ,List.getElem_cons_zero,List.setIfInBounds_toArray,List.set_cons_zero,List.set_cons_succ];have ho6:=((Hor.out.below B22.out).below (((Below.refl _ w22).alloc (Nat.le_refl _) (.cells #[.slice a17 (keyOf L i).length c17,.slice a22 (valOf L i e).length c22] 185))))
         have Ho6:=φ ho6;obtain⟨cs,hown,hrc⟩:=ho6;have Hrc:=φ hrc;have Hown:=φ hown;clear hrc hown;refine wpAnyH_ready (rs:=[12]) (by kernel_rfl) (by simp) ?_;refine step_law (by rfl) (by rfl) (fun K hK=>?_) AllReadyH.nil;refine wp_append_lies _ _ _ 94 (by rfl) (y+2) 185 i0 _ 2 48 Tryz.underlying94 Hi.out Hz0.out Hz1.out Hz2.out (by rfl) (by decide) v _ cs (by rfl) Hown.out ⟨w22.heap.size,0,none⟩ 1 1 [.slice a17 (keyOf L i).length c17,.slice a22 (valOf L i e).length c22] (by rfl) rfl (World.news_of_block (heap_alloc_new _ _)) (by intro u hu;simp at hu;rcases hu with rfl|rfl<;>rfl) (by decide) (by simp only[maxLen];omega) (by omega) (by have:=B22.out.size;have:=Box3.out.lt;have:=hs4;rw[World.size_alloc];have:=h6;have:=hbd.size;rw[HW0.out] at *;omega) _ rfl ?_;intro g cap w7 hown7 hgrow hat hlt;obtain⟨q1,q2,q3,q4,q5⟩:=rows_end (k:=keyOf L i) (u:=valOf L i e) HW0.out (B22.out.trans ((Below.refl _ w22).alloc B22.out.size _)) Hvs.out Ho6.out Hrc.out (O17.out.slBa hkl Hvo.out B22w.out _) (O22.out.slBa hvl (fun b e=>Nat.lt_of_lt_of_le (Hvo.out b e) B17.out.size) (Below.refl _ _) _) hown7 hgrow hat Box1.out Box3.out hsz h5 hbz' hyW;refine hK _ _ q1 ?_;simp only[Act.put,List.getElem_toArray,List.getElem_cons_succ,List.getElem_cons_zero,List.setIfInBounds_toArray,List.set_cons_zero,List.set_cons_succ];refine wpAnyH_ready (rs:=[13]) (by kernel_rfl) (by simp) ?_;refine step_skip (by rfl) (by rfl) (by exact run_store_rows (by rfl) (by rfl) (by rfl) q2 q3) q4 ?_ AllReadyH.nil;refine wpAnyH_done (by kernel_rfl) ?_ _;dsimp only [okPost]
         gi_wp2
         obtain⟨q6,q7,v',q8,q9,q10,q11,q12⟩:=q5;exact⟨q6,q7,v',φ (by rw[Hmap.out];exact q8.out),q9,q10,q11,Nat.le_trans h6 q12⟩
        exact AllReadyH.nil
       exact AllReadyH.nil
      exact AllReadyH.nil
     refine step_fn (f:=83) (args:=#[.slice va vn vc]) (by rfl) (by rfl) (by exact run_fn1 (by rfl) (by rfl) ent_clone _ (by rfl)) ((Clone_any N _ _ _ _ _ Rv.out (Nat.le_trans hN0 B17.out.size)).mono ?_) ?_
     ·rintro _ w22 ⟨⟨v22,rfl,o22⟩,b22⟩;have O22:=φ o22;have B22:=φ (B17.out.trans (b22.mono B17.out.size));have B22w:=φ b22;have hc4:=(Box.below (Box1.out) B22.out Box1.out.lt).cell;have go4:=(Box.below (Box3.out) B22.out Box3.out.lt).cell;clear o22 b22;obtain⟨a17,c17,e17,-⟩:=O17.out.slB hkl (g:=none) (fun _ h=>by cases h);obtain⟨a22,c22,e22,-⟩:=O22.out.slB hvl (g:=none) (fun _ h=>by cases h);subst e17;subst e22;refine⟨_,rfl,hc4,?_⟩;simp only[Act.put,List.getElem_toArray,List.getElem_cons_succ,List.getElem_cons_zero,List.setIfInBounds_toArray,List.set_cons_zero,List.set_cons_succ];refine wpAnyH_ready (rs:=[0,10]) (by kernel_rfl) (by simp) ?_;refine step_val (v:=v) (by rfl) (by rfl) (by exact run_load1 (by rfl) (by rfl) Tryz.underlying94 go4) hc4 ?_ ?_
      ·simp only[Act.put,List.getElem_toArray,List.getElem_cons_zero,List.setIfInBounds_toArray,List.set_cons_zero,List.set_cons_succ];refine wpAnyH_ready (rs:=[10]) (by kernel_rfl) (by simp) ?_;refine step_val (v:=.agg #[.slice a17 (keyOf L i).length c17,.slice a22 (valOf L i e).length c22]) (by rfl) (by rfl) (by exact run_build_row (by rfl) (by rfl) (by rfl) _) hc4 ?_ ?_
       ·simp only[Act.put,List.getElem_toArray,List.getElem_cons_succ,List.getElem_cons_zero,List.setIfInBounds_toArray,List.set_cons_zero,List.set_cons_succ];refine wpAnyH_ready (rs:=[11]) (by kernel_rfl) (by simp) ?_;have hc6:=((Box.below (Box1.out) B22.out Box1.out.lt).alloc (.cells #[.slice a17 (keyOf L i).length c17,.slice a22 (valOf L i e).length c22] 185)).cell;have go6:=((Box.below (Box3.out) B22.out Box3.out.lt).alloc (.cells #[.slice a17 (keyOf L i).length c17,.slice a22 (valOf L i e).length c22] 185)).cell;refine step_val (v:=.slice (some ⟨w22.heap.size,0,none⟩) 1 1) (by rfl) (by rfl) (by exact run_buildSlice_row (by rfl) (by rfl) _) hc6 ?_ ?_
        ·simp only[Act.put,List.getElem_toArray,List.getElem_cons_succ,List.getElem_cons_zero,List.setIfInBounds_toArray,List.set_cons_zero,List.set_cons_succ];have ho6:=((Hor.out.below B22.out).below (((Below.refl _ w22).alloc (Nat.le_refl _) (.cells #[.slice a17 (keyOf L i).length c17,.slice a22 (valOf L i e).length c22] 185))))
         have Ho6:=φ ho6;obtain⟨cs,hown,hrc⟩:=ho6;have Hrc:=φ hrc;have Hown:=φ hown;clear hrc hown;refine wpAnyH_ready (rs:=[12]) (by kernel_rfl) (by simp) ?_;refine step_law (by rfl) (by rfl) (fun K hK=>?_) AllReadyH.nil;refine wp_append_lies _ _ _ 94 (by rfl) (y+2) 185 i0 _ 2 48 Tryz.underlying94 Hi.out Hz0.out Hz1.out Hz2.out (by rfl) (by decide) v _ cs (by rfl) Hown.out ⟨w22.heap.size,0,none⟩ 1 1 [.slice a17 (keyOf L i).length c17,.slice a22 (valOf L i e).length c22] (by rfl) rfl (World.news_of_block (heap_alloc_new _ _)) (by intro u hu;simp at hu;rcases hu with rfl|rfl<;>rfl) (by decide) (by simp only[maxLen];omega) (by omega) (by have:=B22.out.size;have:=Box3.out.lt;have:=hs4;rw[World.size_alloc];have:=h6;have:=hbd.size;rw[HW0.out] at *;omega) _ rfl ?_;intro g cap w7 hown7 hgrow hat hlt;obtain⟨q1,q2,q3,q4,q5⟩:=rows_end (k:=keyOf L i) (u:=valOf L i e) HW0.out (B22.out.trans ((Below.refl _ w22).alloc B22.out.size _)) Hvs.out Ho6.out Hrc.out (O17.out.slBa hkl Hvo.out B22w.out _) (O22.out.slBa hvl (fun b e=>Nat.lt_of_lt_of_le (Hvo.out b e) B17.out.size) (Below.refl _ _) _) hown7 hgrow hat Box1.out Box3.out hsz h5 hbz' hyW;refine hK _ _ q1 ?_;simp only[Act.put,List.getElem_toArray,List.getElem_cons_succ,List.getElem_cons_zero,List.setIfInBounds_toArray,List.set_cons_zero,List.set_cons_succ];refine wpAnyH_ready (rs:=[13]) (by kernel_rfl) (by simp) ?_;refine step_skip (by rfl) (by rfl) (by exact run_store_rows (by rfl) (by rfl) (by rfl) q2 q3) q4 ?_ AllReadyH.nil;refine wpAnyH_done (by kernel_rfl) ?_ _;dsimp only [okPost]
         gi_wp2
         obtain⟨q6,q7,v',q8,q9,q10,q11,q12⟩:=q5;exact⟨q6,q7,v',φ (by rw[Hmap.out];exact q8.out),q9,q10,q11,Nat.le_trans h6 q12⟩
        exact AllReadyH.nil
       exact AllReadyH.nil
      refine step_val (v:=.agg #[.slice a17 (keyOf L i).length c17,.slice a22 (valOf L i e).length c22]) (by rfl) (by rfl) (by exact run_build_row (by rfl) (by rfl) (by rfl) _) hc4 ?_ ?_
      ·simp only[Act.put,List.getElem_toArray,List.getElem_cons_succ,List.getElem_cons_zero,List.setIfInBounds_toArray,List.set_cons_zero,List.set_cons_succ];refine wpAnyH_ready (rs:=[0,11]) (by kernel_rfl) (by simp) ?_;refine step_val (v:=v) (by rfl) (by rfl) (by exact run_load1 (by rfl) (by rfl) Tryz.underlying94 go4) hc4 ?_ ?_
       ·simp only[Act.put,List.getElem_toArray,List.getElem_cons_zero,List.setIfInBounds_toArray,List.set_cons_zero,List.set_cons_succ];refine wpAnyH_ready (rs:=[11]) (by kernel_rfl) (by simp) ?_;have hc6:=((Box.below (Box1.out) B22.out Box1.out.lt).alloc (.cells #[.slice a17 (keyOf L i).length c17,.slice a22 (valOf L i e).length c22] 185)).cell;have go6:=((Box.below (Box3.out) B22.out Box3.out.lt).alloc (.cells #[.slice a17 (keyOf L i).length c17,.slice a22 (valOf L i e).length c22] 185)).cell;refine step_val (v:=.slice (some ⟨w22.heap.size,0,none⟩) 1 1) (by rfl) (by rfl) (by exact run_buildSlice_row (by rfl) (by rfl) _) hc6 ?_ ?_
        ·simp only[Act.put,List.getElem_toArray,List.getElem_cons_succ,List.getElem_cons_zero,List.setIfInBounds_toArray,List.set_cons_zero,List.set_cons_succ];have ho6:=((Hor.out.below B22.out).below (((Below.refl _ w22).alloc (Nat.le_refl _) (.cells #[.slice a17 (keyOf L i).length c17,.slice a22 (valOf L i e).length c22] 185))))
         have Ho6:=φ ho6;obtain⟨cs,hown,hrc⟩:=ho6;have Hrc:=φ hrc;have Hown:=φ hown;clear hrc hown;refine wpAnyH_ready (rs:=[12]) (by kernel_rfl) (by simp) ?_;refine step_law (by rfl) (by rfl) (fun K hK=>?_) AllReadyH.nil;refine wp_append_lies _ _ _ 94 (by rfl) (y+2) 185 i0 _ 2 48 Tryz.underlying94 Hi.out Hz0.out Hz1.out Hz2.out (by rfl) (by decide) v _ cs (by rfl) Hown.out ⟨w22.heap.size,0,none⟩ 1 1 [.slice a17 (keyOf L i).length c17,.slice a22 (valOf L i e).length c22] (by rfl) rfl (World.news_of_block (heap_alloc_new _ _)) (by intro u hu;simp at hu;rcases hu with rfl|rfl<;>rfl) (by decide) (by simp only[maxLen];omega) (by omega) (by have:=B22.out.size;have:=Box3.out.lt;have:=hs4;rw[World.size_alloc];have:=h6;have:=hbd.size;rw[HW0.out] at *;omega) _ rfl ?_;intro g cap w7 hown7 hgrow hat hlt;obtain⟨q1,q2,q3,q4,q5⟩:=rows_end (k:=keyOf L i) (u:=valOf L i e) HW0.out (B22.out.trans ((Below.refl _ w22).alloc B22.out.size _)) Hvs.out Ho6.out Hrc.out (O17.out.slBa hkl Hvo.out B22w.out _) (O22.out.slBa hvl (fun b e=>Nat.lt_of_lt_of_le (Hvo.out b e) B17.out.size) (Below.refl _ _) _) hown7 hgrow hat Box1.out Box3.out hsz h5 hbz' hyW;refine hK _ _ q1 ?_;simp only[Act.put,List.getElem_toArray,List.getElem_cons_succ,List.getElem_cons_zero,List.setIfInBounds_toArray,List.set_cons_zero,List.set_cons_succ];refine wpAnyH_ready (rs:=[13]) (by kernel_rfl) (by simp) ?_;refine step_skip (by rfl) (by rfl) (by exact run_store_rows (by rfl) (by rfl) (by rfl) q2 q3) q4 ?_ AllReadyH.nil;refine wpAnyH_done (by kernel_rfl) ?_ _;dsimp only [okPost]
         gi_wp2
         obtain⟨q6,q7,v',q8,q9,q10,q11,q12⟩:=q5;exact⟨q6,q7,v',φ (by rw[Hmap.out];exact q8.out),q9,q10,q11,Nat.le_trans h6 q12⟩
        exact AllReadyH.nil
       have hc6:=((Box.below (Box1.out) B22.out Box1.out.lt).alloc (.cells #[.slice a17 (keyOf L i).length c17,.slice a22 (valOf L i e).length c22] 185)).cell;have go6:=((Box.below (Box3.out) B22.out Box3.out.lt).alloc (.cells #[.slice a17 (keyOf L i).length c17,.slice a22 (valOf L i e).length c22] 185)).cell;refine step_val (v:=.slice (some ⟨w22.heap.size,0,none⟩) 1 1) (by rfl) (by rfl) (by exact run_buildSlice_row (by rfl) (by rfl) _) hc6 ?_ ?_
       ·simp only[Act.put,List.getElem_toArray,List.getElem_cons_succ,List.getElem_cons_zero,List.setIfInBounds_toArray,List.set_cons_zero,List.set_cons_succ];refine wpAnyH_ready (rs:=[0]) (by kernel_rfl) (by simp) ?_;refine step_val (v:=v) (by rfl) (by rfl) (by exact run_load1 (by rfl) (by rfl) Tryz.underlying94 go6) hc6 ?_ ?_
        ·simp only[Act.put,List.getElem_toArray,List.getElem_cons_zero,List.setIfInBounds_toArray,List.set_cons_zero,List.set_cons_succ];have ho6:=((Hor.out.below B22.out).below (((Below.refl _ w22).alloc (Nat.le_refl _) (.cells #[.slice a17 (keyOf L i).length c17,.slice a22 (valOf L i e).length c22] 185))))
         have Ho6:=φ ho6;obtain⟨cs,hown,hrc⟩:=ho6;have Hrc:=φ hrc;have Hown:=φ hown;clear hrc hown;refine wpAnyH_ready (rs:=[12]) (by kernel_rfl) (by simp) ?_;refine step_law (by rfl) (by rfl) (fun K hK=>?_) AllReadyH.nil;refine wp_append_lies _ _ _ 94 (by rfl) (y+2) 185 i0 _ 2 48 Tryz.underlying94 Hi.out Hz0.out Hz1.out Hz2.out (by rfl) (by decide) v _ cs (by rfl) Hown.out ⟨w22.heap.size,0,none⟩ 1 1 [.slice a17 (keyOf L i).length c17,.slice a22 (valOf L i e).length c22] (by rfl) rfl (World.news_of_block (heap_alloc_new _ _)) (by intro u hu;simp at hu;rcases hu with rfl|rfl<;>rfl) (by decide) (by simp only[maxLen];omega) (by omega) (by have:=B22.out.size;have:=Box3.out.lt;have:=hs4;rw[World.size_alloc];have:=h6;have:=hbd.size;rw[HW0.out] at *;omega) _ rfl ?_;intro g cap w7 hown7 hgrow hat hlt;obtain⟨q1,q2,q3,q4,q5⟩:=rows_end (k:=keyOf L i) (u:=valOf L i e) HW0.out (B22.out.trans ((Below.refl _ w22).alloc B22.out.size _)) Hvs.out Ho6.out Hrc.out (O17.out.slBa hkl Hvo.out B22w.out _) (O22.out.slBa hvl (fun b e=>Nat.lt_of_lt_of_le (Hvo.out b e) B17.out.size) (Below.refl _ _) _) hown7 hgrow hat Box1.out Box3.out hsz h5 hbz' hyW;refine hK _ _ q1 ?_;simp only[Act.put,List.getElem_toArray,List.getElem_cons_succ,List.getElem_cons_zero,List.setIfInBounds_toArray,List.set_cons_zero,List.set_cons_succ];refine wpAnyH_ready (rs:=[13]) (by kernel_rfl) (by simp) ?_;refine step_skip (by rfl) (by rfl) (by exact run_store_rows (by rfl) (by rfl) (by rfl) q2 q3) q4 ?_ AllReadyH.nil;refine wpAnyH_done (by kernel_rfl) ?_ _;dsimp only [okPost]
         gi_wp2
         obtain⟨q6,q7,v',q8,q9,q10,q11,q12⟩:=q5;exact⟨q6,q7,v',φ (by rw[Hmap.out];exact q8.out),q9,q10,q11,Nat.le_trans h6 q12⟩
        exact AllReadyH.nil
       exact AllReadyH.nil
      exact AllReadyH.nil
     exact AllReadyH.nil
    exact AllReadyH.nil
   exact AllReadyH.nil
  exact AllReadyH.nil
  -- END OF THE REGION
 case done =>
  rintro D xs W hD hxs ⟨v,h1,b1,b3,h5,h6⟩ hK;have hfin:rowsL L=xs.map fun x=>rowAt L x.1:=by
   unfold rowsL;rw[if_neg (by omega),<- hxs,List.map_map];rfl
  have Hfin:=φ hfin;have HK:=φ hK;clear hfin hK;have g3:=b3.cell;have g3':=b3.frozen
  gi_wp2
  refine⟨by simp,.inl ⟨_,_,rfl,run_takeDeferred HK.out,?_⟩⟩;have hor:=h1.out.kept (grownBy_putObj' W D (.deferred none)) (fun r e=>by cases e;exact⟨_,HK.out,rfl⟩);have Hor:=φ hor;clear hor;refine⟨v,?_,⟨v,rfl,by rw[Hfin.out];exact Hor.out.mono (by rw[<- Hz.out];omega)⟩,by rw[<- Hz.out];exact h5.trans (belowK_b (w:=w2) (n₀:=z) (by omega) W D _ _ hD HK.out rfl rfl)⟩;simp[results,Tryz.f37,go_sem]
 case stop =>
  rintro D cd pre W hD hpre h;exact h.elim
theorem Rows_any (N:Nat) (a:Option Addr) (n c:Nat) (L:List UInt8) (w:World) (hr:RB N w a n c L) (hN:N<=w.heap.size) :
  Calls Tryz.prog 37 #[.slice a n c] w fun e w'=>(∃ v,e=.returned v/\OR w.heap.size w' v (rowsL L))/\Below w.heap.size w w':=by
 by_cases h0:βL L=0
 ·have HR:=φ (Right_any N a n c L (w.alloc (.cells #[.slice a n c] 27)) (hr.below (((Below.refl _ w).alloc (Nat.le_refl _) _).mono hN)) (by rw[World.size_alloc];omega));have hfin:rowsL L=[]:=by unfold rowsL;rw[if_pos h0]
  have hd:decide (0<βL L)=false:=by rw[h0];rfl
  rw[hd] at HR;have Hfin:=φ hfin;have Hb0:Hid (Below w.heap.size w (w.alloc (.cells #[.slice a n c] 27))):=φ ((Below.refl _ w).alloc (Nat.le_refl _) _);have Hc0:Hid (Box (w.alloc (.cells #[.slice a n c] 27)) w.heap.size 27 (.slice a n c)):=φ (Box.new w _ _);have g0:=Hc0.out.cell;clear hfin hd h0;go_enter Tryz.func37,Tryz.ntmps37;go_wp2_with (go_at_call 76;refine HR.out.mono ?_;rintro e w' ⟨rfl,hb⟩);go_ret;exact⟨⟨_,rfl,by rw[Hfin.out];exact OR.nil _ _⟩,Hb0.out.trans (hb.mono (by simp))⟩
 ·have hl:=right_len (show 0<βL L by omega);have hn:=hr.len;have hle:=hr.le;rw[hl] at hn;subst hn;obtain⟨b,o,rfl,-,-⟩:=hr.at_ (by omega);exact callsIn_wide.1 (Rows_in N b o c L w hr hN (by omega))
end Go.Proofs.YtohlkkannjifmaaGreatDoor
