import Derived.Test.YtohlkkannjifmaaGreatDoorPure
import Derived.Test.YtohlkkannjifmaaGreatDoorPageH
import Derived.Laws.BitsLemmas
namespace Go.Proofs.YtohlkkannjifmaaGreatDoor
section
open Go.RowKit Go.Shelf
theorem bef_put (R:List Rw) (k n:List UInt8):bef (put R k n) k=bef R k:=by
 unfold put;have h1:bef (bef R k) k=bef R k:=by unfold bef;rw[List.filter_filter];simp
 have h2:bef (sel k n) k=[]:=by unfold bef sel;split<;>simp[cb_self]
 have h3:bef (aft R k) k=[]:=by
  unfold bef;rw[List.filter_eq_nil_iff];intro x hx;have:=aft_gt x hx;have:=cb_anti x.1 k;simp;omega
 have h:∀ A B:List Rw,bef (A++B) k=bef A k++bef B k:=fun A B=>by unfold bef;rw[List.filter_append]
 rw[h,h,h1,h2,h3];simp
theorem aft_put (R:List Rw) (k n:List UInt8):aft (put R k n) k=aft R k:=by
 unfold put;have h1:aft (aft R k) k=aft R k:=by unfold aft;rw[List.filter_filter];simp
 have h2:aft (sel k n) k=[]:=by unfold aft sel;split<;>simp[cb_self]
 have h3:aft (bef R k) k=[]:=by
  unfold aft;rw[List.filter_eq_nil_iff];intro x hx;have:=bef_lt x hx;have:=cb_anti x.1 k;simp;omega
 have h:∀ A B:List Rw,aft (A++B) k=aft A k++aft B k:=fun A B=>by unfold aft;rw[List.filter_append]
 rw[h,h,h1,h2,h3];simp
theorem put_put (R:List Rw) (k n m:List UInt8):put (put R k n) k m=put R k m:=by
 unfold put;have h1:=bef_put R k n;have h2:=aft_put R k n;unfold put at h1 h2;rw[h1,h2]
theorem got_put (R:List Rw) (k n:List UInt8):got (put R k n) k=if n=[] then none else some n:=by
 unfold got put;rw[List.append_assoc,List.find?_append,List.find?_append];have h1:(bef R k).find? (fun r=>decide (r.1=k))=none:=by
  rw[List.find?_eq_none];intro x hx he;have:=bef_lt x hx;simp only[decide_eq_true_eq] at he;rw[he,cb_self] at this;omega
 have h2:(aft R k).find? (fun r=>decide (r.1=k))=none:=by
  rw[List.find?_eq_none];intro x hx he;have:=aft_gt x hx;simp only[decide_eq_true_eq] at he;rw[he,cb_self] at this;omega
 rw[h1,h2];unfold sel;split<;>simp
theorem put_none {R:List Rw} (hup:Up R) {k:List UInt8} (h:got R k=none):put R k []=R:=by
 rcases split_at hup k with ⟨-,hR⟩|⟨v,hg,-⟩
 ·unfold put sel;rw[if_pos rfl,List.append_nil];exact hR.symm
 ·rw[h] at hg;cases hg
theorem put_some {R:List Rw} (hup:Up R) {k v:List UInt8} (h:got R k=some v) (hv:v≠[]):put R k v=R:=by
 rcases split_at hup k with ⟨hg,-⟩|⟨v',hg,hR⟩
 ·rw[h] at hg;cases hg
 ·rw[h] at hg;cases hg
  unfold put sel;rw[if_neg hv,List.append_assoc];exact hR.symm
end
section
set_option maxHeartbeats 1000000
set_option maxRecDepth 100000
open Go.RowKit Go.Shelf
def numL (l:List UInt8):Nat:=l.foldl (fun a x=>a*256+x.toNat) 0
theorem numL_snoc (l:List UInt8) (x:UInt8):numL (l++[x])=numL l*256+x.toNat:=by unfold numL;rw[List.foldl_append];rfl
theorem numL_take (l:List UInt8) (j:Nat) (h:j<l.length):numL (l.take (j+1))=numL (l.take j)*256+(bt l j).toNat:=by
 rw[List.take_add_one,List.getElem?_eq_getElem h,Option.toList_some,numL_snoc];unfold bt;simp[List.getElem?_eq_getElem h]
theorem numL_lt:∀ (j:Nat) (l:List UInt8),j<l.length->bt l 0<=127->numL (l.take (j+1))<128*256 ^ j
 | 0,l,h,h0=>by
  have:=bt_bd l 0;rw[numL_take l 0 h];simp[numL];omega
 | j+1,l,h,h0=>by
  have:=numL_lt j l (by omega) h0;have:=bt_bd l (j+1);rw[numL_take l (j+1) h,Nat.pow_succ];omega
def lsnL (p:List UInt8):Nat:=if βL p=0 then 0 else numL (p.take 8)
theorem or256 (v c:Nat) (hv:v<36028797018963968) (hc:c<256):bits .or .i64 ((v:Int)*256) (wrap64 (c:Int))=((v*256+c:Nat):Int):=by
 have e1:((v:Int)*256)=((v*256:Nat):Int):=by omega
 have e2:wrap64 (c:Int)=(c:Int):=by unfold wrap64;omega
 rw[e1,e2,(bits_nat .i64 63 (by decide) (fun n h1 h2=>IntWalk.i64_in _ (by omega)) (v*256) c (by omega) (by omega)).2];have:=Nat.shiftLeft_add_eq_or_of_lt (i:=8) (by omega:c<2 ^ 8) v;rw[Nat.shiftLeft_eq] at this;rw[this]
theorem Lsn_any (N:Nat) (a:Option Addr) (n c:Nat) (L:List UInt8) (w:World) (hr:RB N w a n c L) (hN:N<=w.heap.size) :
  Calls Tryz.prog 32 #[.slice a n c] w fun e w'=>e=.returned (.int .i64 (lsnL L))/\Below w.heap.size w w':=by
 by_cases h0:βL L=0
 ·have hfin:lsnL L=0:=by unfold lsnL;rw[if_pos h0]
  have HR:Hid (Calls Tryz.prog 76 #[.slice a n c] w fun e w'=>e=.returned (.bool false)/\Below w.heap.size w w'):=by
   have:=Right_any N a n c L w hr hN;rw[h0] at this;exact this
  have Hfin:=φ hfin;clear hfin h0;go_enter Tryz.func32,Tryz.ntmps32;go_wp2_with (go_at_call 76;refine HR.out.mono ?_;rintro e w' ⟨rfl,hb⟩);go_ret;exact⟨by rw[Hfin.out];rfl,hb⟩
 have hpos:0<βL L:=by omega
 have hlen:=right_len hpos;have hn:=hr.len;have hle:=hr.le;have hmx:=hr.mx;obtain rfl:n=512:=by omega
 obtain⟨b,o,rfl,hbN,-⟩:=hr.at_ (by omega);have hb0:bt L 0<=127:=by
  unfold βL at h0;split at h0
  ·exact absurd rfl h0
  ·rename_i h;omega
 have hfin:lsnL L=numL (L.take 8):=by unfold lsnL;rw[if_neg h0]
 have HR:Hid (Calls Tryz.prog 76 #[.slice (some ⟨b,o,none⟩) 512 c] w fun e w'=>e=.returned (.bool true)/\Below w.heap.size w w'):=by
  have:=Right_any N _ _ c L w hr hN;rw[decide_eq_true hpos] at this;exact this
 have Hfin:=φ hfin;have Hlen:=φ hlen;clear hfin h0 hpos hn hlen;go_enter Tryz.func32,Tryz.ntmps32;go_wp2_with (go_at_call 76;refine HR.out.mono ?_;rintro e w' ⟨rfl,hb⟩);have hr':=hr.below (hb.mono hN);go_loopw [3,12] (fun s i wr=>∃ j:Nat,j<=8/\i=.int .i64 j/\s=.int .i64 (numL (L.take j))/\wr=w') (fun _ i _=>8-(intOf i).toNat)
 case atStart=>exact⟨0,by omega,rfl,rfl,rfl⟩
 case round =>
  obtain⟨j,hj,rfl,rfl,rfl⟩:=hrel;by_cases hlt:j<8
  ·obtain⟨b',o',e0,-,hcell⟩:=hr'.at_ (by omega)
   cases e0
   have g0:=hcell j (by omega);clear hcell;have hjI:(j:Int)<8:=by omega
   obtain⟨v,hv⟩:∃ v,v=numL (L.take j):=⟨_,rfl⟩
   rw[<- hv];have Hv:=φ hv;clear hv;have hvb:v<36028797018963968:=by
    rw[Hv.out]
    cases j with
    | zero=>simp[numL]
    | succ j =>
     have:=numL_lt j L (by rw[Hlen.out];omega) hb0;have hp:256 ^ j<=256 ^ 6:=Nat.pow_le_pow_right (by omega) (by omega);omega
   have hor:=or256 v (bt L j).toNat hvb (by have:=bt_bd L j;omega);have hbj:((bt L j).toNat:Int)=bt L j:=by have:=bt_bd L j;omega
   rw[hbj] at hor;have hnx:numL (L.take (j+1))=v*256+(bt L j).toNat:=by rw[numL_take L j (by rw[Hlen.out];omega),<- Hv.out]
   go_wp2;go_roundw
   case rel=>exact⟨j+1,by omega,by go_num,by rw[hnx];congr 1,trivial⟩
   case measure=>simp[intOf];omega
  ·obtain rfl:j=8:=by omega
   go_wp2;go_ret;exact⟨by rw[Hfin.out];rfl,hb⟩
def be8 (x:Nat):List UInt8:=(List.range 8).map fun i=>UInt8.ofNat (x / 2 ^ (56-8*i))
theorem be8_len (x:Nat):(be8 x).length=8:=by simp[be8]
theorem be8_get (x j:Nat) (h:j<8):(be8 x)[j]? = some (UInt8.ofNat (x / 2 ^ (56-8*j))):=by
 unfold be8;rw[List.getElem?_map,List.getElem?_range h];rfl
theorem be8_step (x:Nat) (L:List UInt8) (hL:L.length=512) (j:Nat) (h:j<8):((be8 x).take j++L.drop j).set j (UInt8.ofNat (x / 2 ^ (56-8*j)))=(be8 x).take (j+1)++L.drop (j+1):=by
 have hl:=be8_len x;have hd:L.drop j=L[j]'(by omega)::L.drop (j+1):=List.drop_eq_getElem_cons (by omega);rw[List.set_append_right _ _ (by simp;omega),hd];have e0:j-((be8 x).take j).length=0:=by simp;omega
 rw[e0,List.set_cons_zero,List.take_add_one,be8_get x j h];simp
def setLsnL (L:List UInt8) (x:Int):List UInt8:=if 0<βL L/\0<=x then be8 x.toNat++L.drop 8 else L
theorem SetLsn_any (g c:Nat) (L:List UInt8) (X:List Value) (x:Int) (w:World) (hp:PG w g c L X) (hx:x<=9223372036854775807) :
  Calls Tryz.prog 27 #[.slice (some ⟨g,0,none⟩) 512 c,.int .i64 x] w fun e w'=>e=.returned (.bool (decide (0<βL L/\0<=x)))/\PG w' g c (setLsnL L x) X/\Mod g w w':=by
 have HR:=φ (Right_any _ _ _ c L w hp.rb (Nat.le_refl _));have hgw:=hp.lt;have hc5:512<=c:=by have:=hp.cap;omega
 by_cases h0:0<βL L
 ·by_cases hx0:x<0
  ·have hfin:setLsnL L x=L:=by unfold setLsnL;rw[if_neg (by omega)]
   have hfb:decide (0<βL L/\0<=x)=false:=by simp;omega
   have HR':Hid (Calls Tryz.prog 76 #[.slice (some ⟨g,0,none⟩) 512 c] w fun e w'=>e=.returned (.bool true)/\Below w.heap.size w w'):=by
    have:=HR.out;rw[decide_eq_true h0] at this;exact this
   have Hfin:=φ hfin;have Hfb:=φ hfb;clear hfin hfb h0 HR;go_enter Tryz.func27,Tryz.ntmps27;go_wp2_with (go_at_call 76;refine HR'.out.mono ?_;rintro e w' ⟨rfl,hb⟩);go_ret;exact⟨by rw[Hfb.out];rfl,by rw[Hfin.out];exact hp.below hb hp.lt,Mod.of_below hb⟩
  ·have hfin:setLsnL L x=be8 x.toNat++L.drop 8:=by unfold setLsnL;rw[if_pos ⟨h0,by omega⟩]
   have hfb:decide (0<βL L/\0<=x)=true:=by simp;omega
   have HR':Hid (Calls Tryz.prog 76 #[.slice (some ⟨g,0,none⟩) 512 c] w fun e w'=>e=.returned (.bool true)/\Below w.heap.size w w'):=by
    have:=HR.out;rw[decide_eq_true h0] at this;exact this
   have Hfin:=φ hfin;have Hfb:=φ hfb;clear hfin hfb h0 HR;obtain⟨y,rfl⟩:∃ y:Nat,x=(y:Int):=⟨x.toNat,by omega⟩
   rw[Int.toNat_natCast] at Hfin;go_enter Tryz.func27,Tryz.ntmps27;go_wp2_with (go_at_call 76;refine HR'.out.mono ?_;rintro e w' ⟨rfl,hb⟩);have Hp0:=φ (hp.below hb hp.lt);have Hm0:=φ (Mod.of_below (g:=g) hb);have hs0:=hb.size;clear hb;go_loopw [13] (fun i wr=>∃ j:Nat,j<=8/\i=.int .i64 j/\Hid (PG wr g c ((be8 y).take j++L.drop j) X)/\Hid (Mod g w wr)) (fun i _=>8-(intOf i).toNat)
   case atStart=>exact⟨0,by omega,rfl,by simpa using Hp0,Hm0⟩
   case round =>
    obtain⟨j,hj,rfl,Hp1,Hm1⟩:=hrel;by_cases hlt:j<8
    ·have k1:=Hp1.out.cell j (by omega);have f1:=Hp1.out.frozen j;have hjI:(j:Int)<8:=(by omega);have q1:(0:Int)<=56-8*(j:Int):=(by omega);have hs:=Hp1.out.set j (UInt8.ofNat (y / 2 ^ (56-8*j))) (by omega);have hb8:((UInt8.ofNat (y / 2 ^ (56-8*j))).toNat:Int)=(y:Int) / 2 ^ (56-8*j) % 256:=by
      rw[UInt8.toNat_ofNat',Int.natCast_emod,Int.natCast_ediv,Int.natCast_pow];rfl
     rw[be8_step y L hp.len j hlt,hb8] at hs;have Hs:=φ hs;clear hs hb8;go_wp2;go_roundw
     case rel=>exact⟨j+1,by omega,by go_num,Hs,φ (Hm1.out.set g j _)⟩
     case measure=>simp[intOf];omega
    ·obtain rfl:j=8:=by omega
     go_wp2;go_ret;refine⟨by rw[Hfb.out];rfl,?_,Hm1.out⟩;rw[Hfin.out];have:=Hp1.out
     rwa [List.take_of_length_le (by rw[be8_len];omega)] at this
 ·have hfin:setLsnL L x=L:=by unfold setLsnL;rw[if_neg (by omega)]
  have hfb:decide (0<βL L/\0<=x)=false:=by simp;omega
  have HR':Hid (Calls Tryz.prog 76 #[.slice (some ⟨g,0,none⟩) 512 c] w fun e w'=>e=.returned (.bool false)/\Below w.heap.size w w'):=by
   have:=HR.out;rw[decide_eq_false h0] at this;exact this
  have Hfin:=φ hfin;have Hfb:=φ hfb;clear hfin hfb h0 HR;go_enter Tryz.func27,Tryz.ntmps27;go_wp2_with (go_at_call 76;refine HR'.out.mono ?_;rintro e w' ⟨rfl,hb⟩);go_ret;exact⟨by rw[Hfb.out];rfl,by rw[Hfin.out];exact hp.below hb hp.lt,Mod.of_below hb⟩
def setNextL (L:List UInt8) (x:Int):List UInt8:=if 0<βL L/\0<=x/\x<8192 then (L.set 8 (UInt8.ofNat (x.toNat / 256))).set 9 (UInt8.ofNat x.toNat) else L
theorem SetNext_any (g c:Nat) (L:List UInt8) (X:List Value) (x:Int) (w:World) (hp:PG w g c L X) :
  Calls Tryz.prog 52 #[.slice (some ⟨g,0,none⟩) 512 c,.int .i64 x] w fun e w'=>e=.returned (.bool (decide (0<βL L/\0<=x/\x<8192)))/\PG w' g c (setNextL L x) X/\Mod g w w':=by
 have HR:=φ (Right_any _ _ _ c L w hp.rb (Nat.le_refl _));have hgw:=hp.lt;have hc5:512<=c:=by have:=hp.cap;omega
 have neg:¬ (0<βL L/\0<=x/\x<8192)->(setNextL L x=L/\decide (0<βL L/\0<=x/\x<8192)=false):=fun h=>⟨by unfold setNextL;rw[if_neg h],decide_eq_false h⟩
 by_cases h0:0<βL L
 ·have HR':Hid (Calls Tryz.prog 76 #[.slice (some ⟨g,0,none⟩) 512 c] w fun e w'=>e=.returned (.bool true)/\Below w.heap.size w w'):=by
   have:=HR.out;rw[decide_eq_true h0] at this;exact this
  by_cases hx0:x<0
  ·obtain⟨hfin,hfb⟩:=neg (by omega);have Hfin:=φ hfin;have Hfb:=φ hfb;clear hfin hfb h0 HR neg;go_enter Tryz.func52,Tryz.ntmps52;go_wp2_with (go_at_call 76;refine HR'.out.mono ?_;rintro e w' ⟨rfl,hb⟩);go_ret;exact⟨by rw[Hfb.out];rfl,by rw[Hfin.out];exact hp.below hb hp.lt,Mod.of_below hb⟩
  by_cases hx1:8192<=x
  ·obtain⟨hfin,hfb⟩:=neg (by omega);have Hfin:=φ hfin;have Hfb:=φ hfb;clear hfin hfb h0 HR neg;go_enter Tryz.func52,Tryz.ntmps52;go_wp2_with (go_at_call 76;refine HR'.out.mono ?_;rintro e w' ⟨rfl,hb⟩);go_ret;exact⟨by rw[Hfb.out];rfl,by rw[Hfin.out];exact hp.below hb hp.lt,Mod.of_below hb⟩
  have hfin:setNextL L x=(L.set 8 (UInt8.ofNat (x.toNat / 256))).set 9 (UInt8.ofNat x.toNat):=by unfold setNextL;rw[if_pos ⟨h0,by omega,by omega⟩]
  have hfb:decide (0<βL L/\0<=x/\x<8192)=true:=decide_eq_true ⟨h0,by omega,by omega⟩;have Hfin:=φ hfin;have Hfb:=φ hfb;clear hfin hfb h0 HR neg;obtain⟨y,rfl⟩:∃ y:Nat,x=(y:Int):=⟨x.toNat,by omega⟩
  rw[Int.toNat_natCast] at Hfin;go_enter Tryz.func52,Tryz.ntmps52;go_wp2_with (go_at_call 76;refine HR'.out.mono ?_;rintro e w' ⟨rfl,hb⟩;have Hp0:=φ (hp.below hb hp.lt);have Hm0:=φ (Mod.of_below (g:=g) hb);have hs0:=hb.size;have k8:=Hp0.out.cell 8 (by omega);have k9:=Hp0.out.cell 9 (by omega);have f8:=Hp0.out.frozen 8;have f9:=Hp0.out.frozen 9;clear hb);go_ret;have h8:((UInt8.ofNat (y / 256)).toNat:Int)=(y:Int) / 256:=by rw[UInt8.toNat_ofNat'];omega
  have h9:((UInt8.ofNat y).toNat:Int)=(y:Int) % 256:=by rw[UInt8.toNat_ofNat'];omega
  have hs:=(Hp0.out.set 8 (UInt8.ofNat (y / 256)) (by omega)).set 9 (UInt8.ofNat y) (by omega);rw[h8,h9] at hs;exact⟨by rw[Hfb.out];rfl,by rw[Hfin.out];exact hs,(Hm0.out.set g 8 _).set g 9 _⟩
 ·obtain⟨hfin,hfb⟩:=neg (by omega);have HR':Hid (Calls Tryz.prog 76 #[.slice (some ⟨g,0,none⟩) 512 c] w fun e w'=>e=.returned (.bool false)/\Below w.heap.size w w'):=by
   have:=HR.out;rw[decide_eq_false h0] at this;exact this
  have Hfin:=φ hfin;have Hfb:=φ hfb;clear hfin hfb h0 HR neg;go_enter Tryz.func52,Tryz.ntmps52;go_wp2_with (go_at_call 76;refine HR'.out.mono ?_;rintro e w' ⟨rfl,hb⟩);go_ret;exact⟨by rw[Hfb.out];rfl,by rw[Hfin.out];exact hp.below hb hp.lt,Mod.of_below hb⟩
end
section
open Go.RowKit Go.Shelf
variable {x:Int} {h k v:List UInt8} {i:Nat}
def fidx (L:List Rw) (k:List UInt8):Option Nat:=L.findIdx? fun r=>decide (r.1=k)
def fint (o:Option Nat):Int:=match o with|some i=>(i:Int)|none=>-1
theorem fidx_some {L:List Rw} (h:fidx L k=some i):∃ v,L[i]? = some (k,v)/\i<L.length:=by
 unfold fidx at h;rw[List.findIdx?_eq_some_iff_getElem] at h;obtain⟨hi,h1,-⟩:=h;simp only[decide_eq_true_eq] at h1;exact⟨L[i].2,by rw[List.getElem?_eq_getElem hi,<- h1],hi⟩
theorem fidx_none {L:List Rw} (h:fidx L k=none):∀ r∈L,r.1≠k:=by
 unfold fidx at h;rw[List.findIdx?_eq_none_iff] at h;intro r hr e;have:=h r hr;simp[e] at this
theorem got_of_mem:∀ {R:List Rw} (_:Up R) {k v:List UInt8},(k,v)∈R->got R k=some v
 | [],_,k,v,h=>by simp at h
 | r::R,hup,k,v,h=>by
  unfold Up at hup;rw[List.pairwise_cons] at hup;unfold got;rcases List.mem_cons.1 h with h|h
  ·subst h;simp
  ·have h1:=hup.1 _ h;have hne:r.1≠k:=by intro e;rw[e] at h1;exact cb_lt_irrefl _ h1
   rw[List.find?_cons_of_neg (by simpa using hne)];exact got_of_mem hup.2 h
theorem got_mem {R:List Rw} (h:got R k=some v):(k,v)∈R:=by
 unfold got at h;rw[Option.map_eq_some_iff] at h;obtain⟨r,hr,rfl⟩:=h;have h1:=List.find?_some hr;simp only[decide_eq_true_eq] at h1;have:=List.mem_of_find?_eq_some hr;rw[<- h1];exact this
theorem up_keys {R:List Rw} (hup:Up R) {a b:Rw} (ha:a∈R) (hb:b∈R) (h:a.1=b.1):a=b:=by
 obtain⟨k,v⟩:=a;obtain⟨k',v'⟩:=b;dsimp only at h;subst h;have h1:=got_of_mem hup ha;have h2:=got_of_mem hup hb;rw[h1] at h2
 cases h2;rfl
theorem fidx_in {L R:List Rw} (hp:L.Perm R) (hup:Up R) (h:(k,v)∈R):∃ i,fidx L k=some i/\L[i]? = some (k,v)/\i<L.length:=by
 have hm:(k,v)∈L:=hp.mem_iff.2 h
 cases hf:fidx L k with
 | none=>exact absurd rfl (fidx_none hf _ hm)
 | some i =>
  obtain⟨v',h1,h2⟩:=fidx_some hf;have hm':(k,v')∈R:=hp.mem_iff.1 (List.mem_of_getElem? h1);have:=up_keys hup hm' h rfl
  cases this
  exact⟨i,rfl,h1,h2⟩
theorem fidx_out {L R:List Rw} (hp:L.Perm R) (h:got R k=none):fidx L k=none:=by
 cases hf:fidx L k with
 | none=>rfl
 | some i =>
  obtain⟨v',h1,h2⟩:=fidx_some hf;have hm':(k,v')∈R:=hp.mem_iff.1 (List.mem_of_getElem? h1);unfold got at h;rw[Option.map_eq_none_iff,List.find?_eq_none] at h;exact absurd (by simp) (h _ hm')
theorem erase_perm {L:List Rw} {r:Rw} {A B:List Rw} (hi:L[i]? = some r) (hp:L.Perm (A++r::B)):(L.take i++L.drop (i+1)).Perm (A++B):=by
 have hlt:i<L.length:=(List.getElem?_eq_some_iff.1 hi).1;have hr:L[i]=r:=(List.getElem?_eq_some_iff.1 hi).2;have e:L=L.take i++r::L.drop (i+1):=by
  rw[<- hr,<- List.drop_eq_getElem_cons hlt,List.take_append_drop]
 rw[e] at hp;have h1:(r::(L.take i++L.drop (i+1))).Perm (r::(A++B)):=(List.perm_middle.symm.trans hp).trans List.perm_middle;exact h1.cons_inv
def rowsTo (L:List Rw) (k n:List UInt8):List Rw:=(match fidx L k with|some i=>L.take i++L.drop (i+1)|none=>L)++sel k n
theorem turn_no {R:List Rw} (H:PageOf h R) (k o n:List UInt8) (h0:(turnL (mkP h R) k o n).1≠0):(turnL (mkP h R) k o n).2=mkP h R:=by
 rw[turnL_mk H] at h0 ⊢;by_cases h1:turnedB k.length o.length n.length=false
 ·rw[if_pos h1]
 by_cases h2:got R k≠(if o=[] then none else some o)
 ·rw[if_neg h1,if_pos h2]
 by_cases h3:501<(enc (put R k n)).length
 ·rw[if_neg h1,if_neg h2,if_pos h3]
 rw[if_neg h1,if_neg h2,if_neg h3] at h0;exact absurd rfl h0
theorem turned_swap (k o n:List UInt8) (h:turnedB k.length o.length n.length=true):turnedB k.length n.length o.length=true:=by
 rw[turned_iff] at h ⊢;obtain⟨a,b,c,d,e⟩:=h;exact⟨a,b,c.symm,e,d⟩
theorem turn_ok {L R:List Rw} (H:PageOf h R) (hp:L.Perm R) (k o n:List UInt8) (h0:(turnL (mkP h R) k o n).1=0) :
  (turnL (mkP h R) k o n).2=mkP h (put R k n)/\PageOf h (put R k n)/\(rowsTo L k n).Perm (put R k n)/\turnL (mkP h (put R k n)) k n o=(0,mkP h R) /\
  ((o=[]/\fidx L k=none)∨(o≠[]/\∃ i,fidx L k=some i/\L[i]? = some (k,o)/\i<L.length)):=by
 rw[turnL_mk H] at h0 ⊢;by_cases c1:turnedB k.length o.length n.length=false
 ·rw[if_pos c1] at h0;cases h0
 rw[if_neg c1] at h0 ⊢;by_cases c2:got R k≠(if o=[] then none else some o)
 ·rw[if_pos c2] at h0;cases h0
 rw[if_neg c2] at h0 ⊢;by_cases c3:501<(enc (put R k n)).length
 ·rw[if_pos c3] at h0;cases h0
 rw[if_neg c3];have c1':turnedB k.length o.length n.length=true:=by simpa using c1
 have c2':got R k=(if o=[] then none else some o):=by simpa using c2
 obtain⟨t1,t2,t3,t4,t5⟩:=(turned_iff k o n).1 c1';have H':PageOf h (put R k n):=put_page H (fun hN=>⟨t1,t2,List.length_pos_iff.2 hN,t5⟩) (by omega);refine⟨rfl,H',?_,?_,?_⟩
 ·by_cases ho:o=[]
  ·rw[if_pos ho] at c2';have hf:=fidx_out hp c2';unfold rowsTo;rw[hf];dsimp only;rcases split_at H.up k with ⟨-,hR⟩|⟨v,hg,-⟩
   ·unfold put;rw[hR] at hp;rw[List.append_assoc];refine (hp.append_right _).trans ?_;rw[List.append_assoc];exact List.perm_append_comm.append_left _
   ·rw[c2'] at hg;cases hg
  ·rw[if_neg ho] at c2';obtain⟨i,hf,hi,-⟩:=fidx_in hp H.up (got_mem c2');unfold rowsTo;rw[hf];dsimp only;rcases split_at H.up k with ⟨hg,-⟩|⟨v,hg,hR⟩
   ·rw[c2'] at hg;cases hg
   ·rw[c2'] at hg;cases hg
    rw[hR] at hp;have he:=erase_perm hi hp;unfold put;rw[List.append_assoc (bef R k)];refine (he.append_right _).trans ?_;rw[List.append_assoc];exact List.perm_append_comm.append_left _
 ·rw[turnL_mk H',if_neg (by rw[turned_swap k o n c1'];simp),if_neg (by rw[got_put];simp),put_put];have hb:put R k o=R:=by
   by_cases ho:o=[]
   ·rw[if_pos ho] at c2';rw[ho];exact put_none H.up c2'
   ·rw[if_neg ho] at c2';exact put_some H.up c2' ho
  rw[hb,if_neg (by have:=H.fit;omega)]
 ·by_cases ho:o=[]
  ·rw[if_pos ho] at c2';exact .inl ⟨ho,fidx_out hp c2'⟩
  ·rw[if_neg ho] at c2';obtain⟨i,hf,hi,hl⟩:=fidx_in hp H.up (got_mem c2');exact .inr ⟨ho,i,hf,hi,hl⟩
theorem mkP_take8 {R:List Rw} (H:PageOf h R):(mkP h R).take 8=h.take 8:=by
 unfold mkP;have:=H.hl;rw[List.append_assoc,List.take_append_of_le_length (by omega)]
theorem lsn_mk {R:List Rw} (H:PageOf h R):lsnL (mkP h R)=numL (h.take 8):=by
 unfold lsnL;rw[behind_mk H,if_neg (by omega),mkP_take8 H]
theorem numL_be8 (x:Nat) (hx:x<18446744073709551616):numL (be8 x)=x:=by
 have hr:List.range 8=[0,1,2,3,4,5,6,7]:=rfl;unfold numL be8;rw[hr];simp only[List.map_cons,List.map_nil,List.foldl_cons,List.foldl_nil,UInt8.toNat_ofNat'];simp only[Nat.reduceMul,Nat.reduceSub,Nat.reducePow];omega
theorem be8_bt0 (x:Nat):bt (be8 x) 0=(x / 72057594037927936 % 256:Nat):=by
 unfold bt;rw[List.getD_eq_getElem?_getD,be8_get x 0 (by decide)];simp
def headLsn (h:List UInt8) (x:Nat):List UInt8:=be8 x++h.drop 8
theorem setLsn_mk {R:List Rw} (H:PageOf h R) (h0:0<=x) (h1:x<=9223372036854775807) :
  setLsnL (mkP h R) x=mkP (headLsn h x.toNat) R/\PageOf (headLsn h x.toNat) R/\numL ((headLsn h x.toNat).take 8)=x.toNat/\(bt (headLsn h x.toNat) 8)=bt h 8/\bt (headLsn h x.toNat) 9=bt h 9:=by
 have hl:=H.hl;have h8:bt (headLsn h x.toNat) 8=bt h 8:=by
  unfold headLsn;rw[bt_right' (i:=0) (by rw[be8_len])];unfold bt;simp[List.getD_eq_getElem?_getD]
 have h9:bt (headLsn h x.toNat) 9=bt h 9:=by
  unfold headLsn;rw[bt_right' (i:=1) (by rw[be8_len])];unfold bt;simp[List.getD_eq_getElem?_getD]
 refine⟨?_,⟨?_,?_,?_,H.fit,H.ok,H.up⟩,?_,h8,h9⟩
 ·unfold setLsnL;rw[if_pos ⟨by rw[behind_mk H];omega,h0⟩];unfold mkP headLsn;simp only[List.append_assoc];rw[List.drop_append_of_le_length (by omega)]
 ·unfold headLsn;simp[be8_len,hl]
 ·unfold headLsn;rw[bt_left (by rw[be8_len];omega),be8_bt0];omega
 ·rw[h8];exact H.h8
 ·unfold headLsn;rw[List.take_append_of_le_length (by rw[be8_len];omega),List.take_of_length_le (by rw[be8_len];omega),numL_be8 _ (by omega)]
theorem setLsn_no (p:List UInt8) (h:x<0):setLsnL p x=p:=by
 unfold setLsnL;rw[if_neg (by omega)]
theorem bt_set (l:List UInt8) (i j:Nat) (v:UInt8) (h:i<l.length):bt (l.set i v) j=if i=j then (v.toNat:Int) else bt l j:=by
 unfold bt;rw[List.getD_eq_getElem?_getD,List.getElem?_set];by_cases e:i=j
 ·rw[if_pos e,if_pos e,if_pos (by omega)];rfl
 ·rw[if_neg e,if_neg e,List.getD_eq_getElem?_getD]
def headNext (h:List UInt8) (x:Nat):List UInt8:=(h.set 8 (UInt8.ofNat (x / 256))).set 9 (UInt8.ofNat x)
theorem setNext_mk {R:List Rw} (H:PageOf h R) (h0:0<=x) (h1:x<8192) :
  setNextL (mkP h R) x=mkP (headNext h x.toNat) R/\PageOf (headNext h x.toNat) R/\numL ((headNext h x.toNat).take 8)=numL (h.take 8)/\(bt (headNext h x.toNat) 8).toNat*256+(bt (headNext h x.toNat) 9).toNat=x.toNat:=by
 have hl:=H.hl;have hb:∀ j,bt (headNext h x.toNat) j=if 9=j then ((UInt8.ofNat x.toNat).toNat:Int) else if 8=j then ((UInt8.ofNat (x.toNat / 256)).toNat:Int) else bt h j:=fun j=>by
  unfold headNext;rw[bt_set _ _ _ _ (by simp[hl]),bt_set _ _ _ _ (by omega)]
 have hb8:bt (headNext h x.toNat) 8=(x.toNat / 256:Nat):=by
  rw[hb,if_neg (by omega),if_pos rfl,UInt8.toNat_ofNat',Nat.mod_eq_of_lt (by omega)]
 have hb9:bt (headNext h x.toNat) 9=(x.toNat % 256:Nat):=by
  rw[hb,if_pos rfl,UInt8.toNat_ofNat']
 refine⟨?_,⟨?_,?_,?_,H.fit,H.ok,H.up⟩,?_,?_⟩
 ·unfold setNextL;rw[if_pos ⟨by rw[behind_mk H];omega,h0,h1⟩];unfold mkP headNext;simp only[List.append_assoc];rw[List.set_append_left _ _ (by omega),List.set_append_left _ _ (by simp;omega)]
 ·unfold headNext;simp[hl]
 ·rw[hb,if_neg (by omega),if_neg (by omega)];exact H.h0
 ·rw[hb8];omega
 ·unfold headNext;rw[List.take_set_of_le (by omega),List.take_set_of_le (by omega)]
 ·rw[hb8,hb9];omega
theorem setNext_no (p:List UInt8) (h:¬ (0<=x/\x<8192)):setNextL p x=p:=by
 unfold setNextL;rw[if_neg (by omega)]
end
end Go.Proofs.YtohlkkannjifmaaGreatDoor
