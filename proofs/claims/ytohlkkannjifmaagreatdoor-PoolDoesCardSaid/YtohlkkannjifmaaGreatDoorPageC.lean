import Derived.Test.YtohlkkannjifmaaGreatDoorProg
import GoSem.PinnedTables
import GoSem.Claim
import GoSem.ClaimJoined
import GoSem.ClaimMapViews
import Derived.JoinedTies
import Derived.KernelRfl
import Derived.WalkKit
import Derived.WalkSpells
import Derived.WalkLawsBesides
import Derived.Deep.QuietTactic
import Derived.BigQuiet
import Derived.Handy
import Derived.Deep.Light
import Derived.Lib.Hide
import Derived.Lib.Bytealg
import Derived.Lib.Bytes
import Derived.RangeFuncFrom
import Derived.RangeFuncBound
import Derived.RangeFuncCalls
import Derived.RangeFuncLeaves
import Derived.Shelf.Abstract
import Derived.Shelf.RegionOpen
import Derived.OwnWalkIn
import Derived.TacticsInMore
import Derived.LoopNIn
import Derived.LoopIn
namespace Go.Proofs.YtohlkkannjifmaaGreatDoor
section
open Go.RowKit
theorem φ {p:Prop} (h:p):Go.RowKit.Hid p:=h
variable {k l:List UInt8} {B c i j n:Nat} {a:Option Addr} {w:World}
def bt (l:List UInt8) (i:Nat):Int:=((l.getD i 0).toNat:Int)
theorem bt_bd (l:List UInt8) (i:Nat):0<=bt l i/\bt l i<256:=by
 unfold bt;have:=(l.getD i 0).toNat_lt;omega
theorem bt_inj (h:bt l i=bt k j):l.getD i 0=k.getD j 0:=by
 unfold bt at h;exact UInt8.toNat_inj.1 (by omega)
structure RB (B:Nat) (w:World) (a:Option Addr) (n c:Nat) (l:List UInt8):Prop where
 len:n=l.length
 le:n<=c
 mx:c<=9223372036854775807
 lm:n<=140737488355328
 at_:0<c->∃ b o,a=some ⟨b,o,none⟩/\b<B/\∀ i,i<n->w.cell? ⟨b,o+i,none⟩=some (.int .u8 (bt l i))
theorem RB.below {w':World} (h:RB B w a n c l) (hb:Below B w w'):RB B w' a n c l :=
 ⟨h.len,h.le,h.mx,h.lm,fun hc=>by
  obtain⟨b,o,rfl,hB,hcell⟩:=h.at_ hc;exact⟨b,o,rfl,hB,fun i hi=>(hb.cell (p:=⟨b,o+i,none⟩) hB).trans (hcell i hi)⟩⟩
theorem RB.mono {B':Nat} (h:RB B w a n c l) (hb:B<=B'):RB B' w a n c l :=
 ⟨h.len,h.le,h.mx,h.lm,fun hc=>by
  obtain⟨b,o,rfl,hB,hcell⟩:=h.at_ hc;exact⟨b,o,rfl,by omega,hcell⟩⟩
theorem RB.drewN (h:RB B w a n c l) (q:Nat):RB B (w.drewN q) a n c l :=
 ⟨h.len,h.le,h.mx,h.lm,fun hc=>by
  obtain⟨b,o,rfl,hB,hcell⟩:=h.at_ hc;exact⟨b,o,rfl,hB,fun i hi=>by rw[<- hcell i hi];simp[go_sem]⟩⟩
theorem quiet_same {P:Program} {f:FuncId} {args:Array Value} {v:Value}
  (h:Calls P f args (w.drewN n) fun e w'=>e=.returned v/\w.drewN n=w'):Calls P f args (w.drewN n) fun e w''=>e=.returned v/\∃ m,w''=w.drewN m :=
 h.mono fun _ _ ⟨he,hm⟩=>⟨he,n,hm.symm⟩
theorem bt_sub {m:Nat} (h:j<m):bt ((l.drop i).take m) j=bt l (i+j):=by
 unfold bt;simp[h]
def RetB (B:Nat) (w:World) (l:List UInt8) (e:Ending):Prop:=∃ a n c,e=.returned (.slice a n c)/\RB B w a n c l
theorem RB.sub {b o:Nat} (h:RB B w (some ⟨b,o,none⟩) n c l) (i m:Nat) (hm:i+m<=n) :
  RB B w (some ⟨b,o+i,none⟩) m (c-i) ((l.drop i).take m):=by
 have hl:=h.len;have hle:=h.le;have hmx:=h.mx;have hlm:=h.lm;refine⟨by simp;omega,by omega,by omega,by omega,fun hc=>?_⟩;obtain⟨b',o',he,hB,hcell⟩:=h.at_ (by omega)
 cases he
 refine⟨b,o+i,rfl,hB,fun j hj=>?_⟩;rw[bt_sub hj,<- hcell (i+j) (by omega),Nat.add_assoc]
theorem RB.take (h:RB B w a n c l) (m:Nat) (hm:m<=n):RB B w a m c (l.take m):=by
 have hl:=h.len;have hle:=h.le;have hmx:=h.mx;have hlm:=h.lm;refine⟨by simp;omega,by omega,by omega,by omega,fun hc=>?_⟩;obtain⟨b',o',he,hB,hcell⟩:=h.at_ (by omega);refine⟨b',o',he,hB,fun j hj=>?_⟩;have:=bt_sub (l:=l) (i:=0) (m:=m) hj;simp only[List.drop_zero,Nat.zero_add] at this;rw[this];exact hcell j (by omega)
theorem RB.emp (a:Option Addr):RB B w a 0 0 []:=⟨rfl,Nat.le_refl _,by omega,by omega,fun h=>absurd h (by omega)⟩
def eqB (l k:List UInt8):Bool:=decide (l=k)
theorem eqB_self (l:List UInt8):eqB l l=true:=by simp[eqB]
theorem eqB_ne (h:l≠k):eqB l k=false:=by simp[eqB,h]
end
section
open Go.RowKit
variable {l:List UInt8} {B c n:Nat} {a:Option Addr} {P:Program} {w:World}
def bv (x:UInt8):Value:=.int .u8 (x.toNat:Int)
theorem bv_getD (l:List UInt8) (i:Nat) (h:i<l.length):(l.map bv)[i]? = some (.int .u8 (bt l i)):=by
 simp[bv,bt,List.getElem?_eq_getElem h]
theorem RB.cells {b o:Nat} (h:RB B w (some ⟨b,o,none⟩) n c l) :
  ∀ j v,(l.map bv)[j]? = some v->w.cell? ((⟨b,o,none⟩:Addr).add j)=some v:=by
 intro j v hj;have hjl:j<l.length:=by
  rcases Nat.lt_or_ge j l.length with h|h
  ·exact h
  ·simp[List.getElem?_eq_none (show (l.map bv).length<=j by simpa using h)] at hj
 rw[bv_getD l j hjl] at hj
 cases hj
 have hl:=h.len;have hle:=h.le;obtain⟨b',o',he,-,hc⟩:=h.at_ (by omega)
 cases he
 have hplain:(⟨b,o,none⟩:Addr).add j=⟨b,o+j,none⟩:=by unfold Addr.add;split<;>simp_all
 rw[hplain];exact hc j (by omega)
theorem ofNums (l:List UInt8):strOfNums (l.map fun x=>(x.toNat:Int))=⟨l.toArray⟩:=by
 unfold strOfNums
 congr 1
 simp only[List.map_map]
 congr 1
 refine (List.map_congr_left fun x _=>?_).trans (List.map_id l);simp
theorem run_conv (h:RB B w a n c l) (src e dst:TypeId)
  (hs:P.underlying src=some (.slice e)) (he:P.underlying e=some (.int .u8)) (hd:P.underlying dst=some .string) :
  (convert src dst (.slice a n c)).run P w=.ok (.string ⟨l.toArray⟩) w:=by
 have hl:=h.len;by_cases h0:n=0
 ·obtain rfl:l=[]:=List.eq_nil_of_length_eq_zero (by omega)
  cases a with
  | none=>rw[run_convert_bytes_nil w src e hs he n c dst hd];rfl
  | some a =>
   subst h0;have hl:(loadCells a 0).run P w=.ok (([]:List Int).map (Value.int .u8)).toArray w:=by
    simpa using run_loadCells_list (P:=P) w a [] (by simp)
   rw[run_convert_bytes_string w src dst e _ 0 c hs he hd,run_bytesToString w _ 0 c [] hl];rfl
 ·have hle:=h.le;obtain⟨b,o,rfl,hB,hc⟩:=h.at_ (by omega);rw[run_convert_bytes_arg w src e hs he b o n c (l.map fun x=>(x.toNat:Int)) (by simp[hl]) (fun i hi=>?_) dst hd,ofNums];rw[hc i hi];have hi':i<l.length:=by omega
  simp[bt,List.getD,List.getElem?_eq_getElem hi']
theorem run_loadBytes {P:Program} (w:World) (b:Nat):∀ (l:List UInt8) (o:Nat) (acc:ByteArray),(∀ i,i<l.length->w.cell? ⟨b,o+i,none⟩=some (.int .u8 (bt l i))) ->
  (Extern.Bytes.loadBytes ⟨b,o,none⟩ l.length acc).run P w=.ok ⟨acc.data++l.toArray⟩ w
 | [],o,acc,_=>by simp[Extern.Bytes.loadBytes,Sem.run_pure]
 | x::l,o,acc,h=>by
  have h0:=h 0 (by simp);have hx:bt (x::l) 0=(x.toNat:Int):=rfl;rw[hx] at h0;have ih:=run_loadBytes (P:=P) w b l (o+1) (acc.push (UInt8.ofNat (x.toNat:Int).toNat)) (fun i hi=>by
   have:=h (i+1) (by simp;omega);rw[show o+1+i=o+(i+1) by omega,this];rfl)
  have hadd:(⟨b,o,none⟩:Addr).add 1=⟨b,o+1,none⟩:=rfl;simp only[Nat.add_zero] at h0;have hload:(load ⟨b,o,none⟩:Sem Value).run P w=.ok (.int .u8 (x.toNat:Int)) w:=by simp[load,Sem.run,h0]
  simp only[List.length_cons,Extern.Bytes.loadBytes,Sem.run_bind,hload,Result.andThen,hadd];refine Eq.trans ih ?_
  congr 1
  simp
theorem run_bytesOf (h:RB B w a n c l) :
  (Extern.Bytes.bytesOf (.slice a n c)).run P w=.ok ⟨l.toArray⟩ w:=by
 have hl:=h.len;by_cases h0:n=0
 ·obtain rfl:l=[]:=List.eq_nil_of_length_eq_zero (by omega);subst h0
  cases a with
  | none=>rfl
  | some a=>rfl
 ·have hle:=h.le;obtain⟨b,o,rfl,hB,hc⟩:=h.at_ (by omega);subst hl;have:=run_loadBytes (P:=P) w b l o .empty hc;simpa [Extern.Bytes.bytesOf] using this
theorem run_compare {C:Nat} {b:Option Addr} {m d:Nat} {k:List UInt8} (hl:RB B w a n c l) (hk:RB C w b m d k) :
  (Extern.BytealgCompare.compare #[.slice a n c,.slice b m d]).run P w=.ok (.int .i64 (Lib.compareBytes l k)) w:=by
 change Sem.run P (do pure (goInt (Extern.BytealgCompare.cmp (<- Extern.Bytes.bytesOf (.slice a n c)) (<- Extern.Bytes.bytesOf (.slice b m d))))) w=_;simp only[Sem.run_bind,run_bytesOf hl,run_bytesOf hk,Sem.run_pure,Result.andThen];rw[Lib.cmp_eq];rfl
end
section
set_option maxHeartbeats 4000000
set_option maxRecDepth 100000
open Go.RowKit
theorem key_any (B:Nat) (a:Option Addr) (n c:Nat) (l:List UInt8) (i k:Nat) (w:World) (hp:RB B w a n c l) (hk:bt l i=k) (hi:i+2+k<=n) :
  Calls Tryz.prog 84 #[.slice a n c,.int .i64 i] w fun e w'=>RetB B w ((l.drop (i+2)).take k) e/\w=w':=by
 have hle:=hp.le;have hmx:=hp.mx;have hlm:=hp.lm;obtain⟨b,o,rfl,hB,hcell⟩:=hp.at_ (by omega);have g:=hcell i (by omega);have hb:=bt_bd l i;rw[hk] at g hb;clear hcell hk;have hs:=hp.sub (i+2) k hi;go_enter Tryz.func84,Tryz.ntmps84;go_wp2
 ·go_ret;obtain rfl:k=0:=by omega
  exact⟨⟨_,_,_,rfl,by simpa using RB.emp _⟩,rfl⟩
 ·go_ret;exact⟨⟨_,_,_,rfl,hs⟩,rfl⟩
theorem key_pos (B:Nat) (b o n c:Nat) (l:List UInt8) (i k:Nat) (w:World) (hp:RB B w (some ⟨b,o,none⟩) n c l) (hk:bt l i=k) (hi:i+2+k<=n) (h1:1<=k) :
  Calls Tryz.prog 84 #[.slice (some ⟨b,o,none⟩) n c,.int .i64 i] w fun e w'=>e=.returned (.slice (some ⟨b,o+(i+2),none⟩) k (c-(i+2)))/\w=w':=by
 have hle:=hp.le;have hmx:=hp.mx;have hlm:=hp.lm;obtain⟨b',o',he,hB,hcell⟩:=hp.at_ (by omega)
 cases he
 have g:=hcell i (by omega);have hb:=bt_bd l i;rw[hk] at g hb;clear hcell hk;have hne:¬ c=i+2:=by omega
 go_enter Tryz.func84,Tryz.ntmps84;go_wp2;go_ret;refine⟨?_,rfl⟩;show Ending.returned (.slice _ (i+2+k-(i+2)) _)=_;rw[Nat.add_sub_cancel_left]
theorem value_any (B:Nat) (a:Option Addr) (n c:Nat) (l:List UInt8) (i k j:Nat) (w:World) (hp:RB B w a n c l) (hk:bt l i=k) (hi:i+2+k<=j) (hj:j<=n) :
  Calls Tryz.prog 69 #[.slice a n c,.int .i64 i,.int .i64 j] w fun e w'=>RetB B w ((l.drop (i+2+k)).take (j-(i+2+k))) e/\w=w':=by
 have hle:=hp.le;have hmx:=hp.mx;have hlm:=hp.lm;obtain⟨b,o,rfl,hB,hcell⟩:=hp.at_ (by omega);have g:=hcell i (by omega);have hb:=bt_bd l i;rw[hk] at g hb;clear hcell hk;have hs:=hp.sub (i+2+k) (j-(i+2+k)) (by omega);go_enter Tryz.func69,Tryz.ntmps69;go_wp2
 ·go_ret;obtain rfl:j=i+2+k:=by omega
  exact⟨⟨_,_,_,rfl,by simpa using RB.emp _⟩,rfl⟩
 ·go_ret;exact⟨⟨_,_,_,rfl,hs⟩,rfl⟩
theorem value_pos (B:Nat) (b o n c:Nat) (l:List UInt8) (i k j:Nat) (w:World) (hp:RB B w (some ⟨b,o,none⟩) n c l) (hk:bt l i=k) (hi:i+2+k<j) (hj:j<=n) :
  Calls Tryz.prog 69 #[.slice (some ⟨b,o,none⟩) n c,.int .i64 i,.int .i64 j] w fun e w'=>e=.returned (.slice (some ⟨b,o+(i+2+k),none⟩) (j-(i+2+k)) (c-(i+2+k)))/\w=w':=by
 have hle:=hp.le;have hmx:=hp.mx;have hlm:=hp.lm;obtain⟨b',o',he,hB,hcell⟩:=hp.at_ (by omega)
 cases he
 have g:=hcell i (by omega);have hb:=bt_bd l i;rw[hk] at g hb;clear hcell hk;have hne:¬ c=i+2+k:=by omega
 go_enter Tryz.func69,Tryz.ntmps69;go_wp2;go_ret;exact⟨rfl,rfl⟩
theorem beq_toList (l k:List UInt8):((ByteArray.mk l.toArray).toList == (ByteArray.mk k.toArray).toList)=eqB l k:=by
 simp only[ByteArray.toList_mk];by_cases h:l=k
 ·subst h;simp[eqB_self]
 ·rw[eqB_ne h];simpa using h
theorem Equal_any (B C:Nat) (a b:Option Addr) (n c m d:Nat) (l k:List UInt8) (w:World) (hl:RB B w a n c l) (hk:RB C w b m d k) :
  Calls Tryz.prog 68 #[.slice a n c,.slice b m d] w fun e w'=>e=.returned (.bool (eqB l k))/\w=w':=by
 have k1:=run_conv (P:=Tryz.prog) hl 27 5 9 Tryz.underlying27 Tryz.underlying5 Tryz.underlying9;have k2:=run_conv (P:=Tryz.prog) hk 27 5 9 Tryz.underlying27 Tryz.underlying5 Tryz.underlying9;have k3:=beq_toList l k;obtain⟨sl,hsl⟩:∃ s,s=ByteArray.mk l.toArray:=⟨_,rfl⟩
 obtain⟨sk,hsk⟩:∃ s,s=ByteArray.mk k.toArray:=⟨_,rfl⟩
 rw[<- hsl] at k1 k3;rw[<- hsk] at k2 k3;clear hsl hsk;go_enter Tryz.func68,Tryz.ntmps68;go_wp2;go_ret;exact⟨rfl,rfl⟩
theorem Compare_any (B C:Nat) (a b:Option Addr) (n c m d:Nat) (l k:List UInt8) (w:World) (hl:RB B w a n c l) (hk:RB C w b m d k) :
  Calls Tryz.prog 119 #[.slice a n c,.slice b m d] w fun e w'=>e=.returned (.int .i64 (Lib.compareBytes l k))/\w=w':=by
 go_enter Tryz.func119,Tryz.ntmps119;go_wp2;rw[run_callFunc_extern Tryz.func170 (by kernel_rfl) (by kernel_rfl) (by kernel_rfl) (e:=Extern.BytealgCompare.compare) (by kernel_rfl),run_compare hl hk];simp only[Result.andThen];rw[Oper.upon_value];go_wp2;go_ret;exact⟨rfl,rfl⟩
end
section
set_option maxHeartbeats 1000000
set_option maxRecDepth 100000
open Go.RowKit
def tl (x:UInt8):List UInt8->List UInt8
 | []=>[]
 | y::l=>if y=x then tl x l else y::l
def tr (x:UInt8) (l:List UInt8):List UInt8:=(tl x l.reverse).reverse
theorem tl_len (x:UInt8) (l:List UInt8):(tl x l).length<=l.length:=by
 induction l with
 | nil=>simp[tl]
 | cons y l ih=>unfold tl;split<;>simp<;>omega
theorem tl_drop (x:UInt8) (l:List UInt8) (j:Nat) (hj:j<l.length) (h:bt l j=x.toNat):tl x (l.drop j)=tl x (l.drop (j+1)):=by
 rw[List.drop_eq_getElem_cons hj];have:l[j]=x:=by
  unfold bt at h;rw[List.getD_eq_getElem?_getD,List.getElem?_eq_getElem hj,Option.getD_some] at h;exact UInt8.toNat_inj.1 (by omega)
 conv=>lhs;unfold tl
 rw[if_pos this]
theorem tl_stop (x:UInt8) (l:List UInt8) (j:Nat) (hj:j<l.length) (h:bt l j≠x.toNat):tl x (l.drop j)=l.drop j:=by
 rw[List.drop_eq_getElem_cons hj];have:l[j]≠x:=by
  unfold bt at h;rw[List.getD_eq_getElem?_getD,List.getElem?_eq_getElem hj,Option.getD_some] at h;intro e;exact h (by rw[e])
 conv=>lhs;unfold tl
 rw[if_neg this]
theorem tr_take (x:UInt8) (l:List UInt8) (j:Nat) (hj:j<l.length) (h:bt l j=x.toNat):tr x (l.take (j+1))=tr x (l.take j):=by
 have:l[j]=x:=by
  unfold bt at h;rw[List.getD_eq_getElem?_getD,List.getElem?_eq_getElem hj,Option.getD_some] at h;exact UInt8.toNat_inj.1 (by omega)
 unfold tr;rw[List.take_succ_eq_append_getElem hj,List.reverse_append];simp[tl,this]
theorem tr_stop (x:UInt8) (l:List UInt8) (j:Nat) (hj:j<l.length) (h:bt l j≠x.toNat):tr x (l.take (j+1))=l.take (j+1):=by
 have:l[j]≠x:=by
  unfold bt at h;rw[List.getD_eq_getElem?_getD,List.getElem?_eq_getElem hj,Option.getD_some] at h;intro e;exact h (by rw[e])
 unfold tr;rw[List.take_succ_eq_append_getElem hj,List.reverse_append];simp[tl,this]
def lenOf:Value->Nat | .slice _ m _=>m|_=>0
theorem trimRight_any (B:Nat) (a:Option Addr) (n c:Nat) (l:List UInt8) (x:UInt8) (w:World) (hl:RB B w a n c l) :
  Calls Tryz.prog 172 #[.slice a n c,.int .u8 x.toNat] w fun e w'=>e=.returned (.slice a (tr x l).length c)/\w=w':=by
 have hle:=hl.le;have hmx:=hl.mx;have hlm:=hl.lm;have hln:=hl.len;have Hln:=φ hln;clear hln;obtain⟨X,hX⟩:∃ X:Nat,X=x.toNat:=⟨_,rfl⟩
 have HX:=φ hX;rw[<- hX];clear hX;go_enter Tryz.func172,Tryz.ntmps172;go_wp2;go_loop [0] (fun s=>∃ (m:Nat),s=.slice a m c/\m<=n/\Hid (tr x l=tr x (l.take m))) (fun s=>lenOf s)
 case atStart=>exact⟨n,rfl,Nat.le_refl _,by show _=_;rw[Hln.out,List.take_length]⟩
 case round =>
  obtain⟨m,rfl,hj,ht⟩:=hrel;by_cases hm:0<m
  ·obtain⟨b,o,rfl,hB,hc⟩:=hl.at_ (by omega);obtain⟨m,rfl⟩:∃ m',m=m' + 1:=⟨m-1,by omega⟩
   have g:=hc m (by omega);clear hc;have hs:=hl.take (m+1) (by omega);go_wp2
   ·go_round
    case rel =>
     have e:bt l m=X:=(by simpa using ‹(bt l m == (X:Int))=true›);exact⟨m,rfl,by omega,by show _=_;rw[ht.out,tr_take x l m (by rw[<- Hln.out];omega) (by rw[e,HX.out])]⟩
    case measure=>simp[lenOf]
   ·go_ret;have e:bt l m≠X:=(by simpa using ‹(bt l m == (X:Int))=false›);refine⟨?_,rfl⟩;have hlen:=hs.len;rw[ht.out,tr_stop x l m (by rw[<- Hln.out];omega) (by rw[<- HX.out];exact e),<- hlen];rfl
  ·obtain rfl:m=0:=by omega
   have hs:=hl.take 0 (by omega);go_wp2;go_ret;exact⟨by rw[ht.out];rfl,rfl⟩
theorem tr_take_eq (x:UInt8) (l:List UInt8):tr x l=l.take (tr x l).length:=by
 unfold tr;obtain⟨r,hr⟩:∃ r,r=l.reverse:=⟨_,rfl⟩
 have:l=r.reverse:=by simp[hr]
 subst this;simp only[List.reverse_reverse,List.length_reverse];clear hr
 induction r with
 | nil=>simp[tl]
 | cons y r ih =>
  unfold tl;split
  ·rw[List.reverse_cons,List.take_append_of_le_length (by have:=tl_len x r;simpa using this)];exact ih
  ·rw[List.take_of_length_le (by simp)]
def tlV (a:Option Addr) (n c k:Nat):Value :=
 match a with
 | some ⟨b,o,_⟩=>if k=0 then .slice none 0 0 else .slice (some ⟨b,o+(n-k),none⟩) k (c-(n-k))
 | none=>.slice none 0 0
theorem tlV_zero (a:Option Addr) (n c:Nat):tlV a n c 0=.slice none 0 0:=by unfold tlV;split<;>rfl
theorem tlV_len (a:Option Addr) (n c k:Nat) (h:0<k->a≠none):∃ a' c',tlV a n c k=.slice a' k c':=by
 unfold tlV;split
 ·split
  ·exact⟨none,0,by rw[‹k=0›]⟩
  ·exact⟨_,_,rfl⟩
 ·have:k=0:=by
   rcases Nat.eq_zero_or_pos k with h0|h0
   ·exact h0
   ·exact absurd rfl (h h0)
  exact⟨none,0,by rw[this]⟩
theorem trimLeft_any (B:Nat) (a:Option Addr) (n c:Nat) (l:List UInt8) (x:UInt8) (w:World) (hl:RB B w a n c l) :
  Calls Tryz.prog 171 #[.slice a n c,.int .u8 x.toNat] w fun e w'=>e=.returned (tlV a n c (tl x l).length)/\w=w':=by
 have hle:=hl.le;have hmx:=hl.mx;have hlm:=hl.lm;have hln:=hl.len;have Hln:=φ hln;clear hln;obtain⟨X,hX⟩:∃ X:Nat,X=x.toNat:=⟨_,rfl⟩
 have HX:=φ hX;rw[<- hX];clear hX;go_enter Tryz.func171,Tryz.ntmps171;go_wp2;go_loop [0] (fun s=>∃ (j m c':Nat) (a':Option Addr),s=.slice a' m c'/\Hid (j+m=n)/\Hid (tl x l=tl x (l.drop j))/\Hid (0<m->c'=c-j/\∃ b o,a=some ⟨b,o,none⟩/\a'=some ⟨b,o+j,none⟩)) (fun s=>lenOf s)
 case atStart =>
  refine⟨0,n,c,a,rfl,Nat.zero_add _,rfl,fun hn=>⟨rfl,?_⟩⟩;obtain⟨b,o,h,-⟩:=hl.at_ (by omega);exact⟨b,o,h,h⟩
 case round =>
  obtain⟨j,m,c',a',rfl,hj,ht,hr⟩:=hrel;by_cases hm:0<m
  ·obtain⟨hc',b,o,rfl,ha'⟩:=hr.out hm;have hjm:=hj.out;obtain⟨b',o',he,hB,hc⟩:=hl.at_ (by omega)
   cases he
   have g:=hc j (by omega);clear hc;subst hc' ha';have hjn:j+m<=c:=by omega
   clear hjm;go_wp2
   ·have e:bt l j=X:=(by simpa using ‹(bt l j == (X:Int))=true›);go_round
    case rel =>
     have hlen:=Hln.out;have hjm:=hj.out;refine⟨j+1,m-1,c-j-1,_,rfl,by show _=_;omega,by show _=_;rw[ht.out,tl_drop x l j (by omega) (by rw[e,HX.out])],?_⟩;intro hm1;refine⟨by omega,b,o,rfl,?_⟩;rw[if_neg (by omega)];rfl
    case measure=>simp[lenOf];omega
   ·go_ret;have e:bt l j≠X:=(by simpa using ‹(bt l j == (X:Int))=false›);have hlen:=Hln.out;have hjm:=hj.out;refine⟨?_,rfl⟩;rw[ht.out,tl_stop x l j (by omega) (by rw[<- HX.out];exact e),List.length_drop];simp only[tlV];rw[if_neg (by omega),show n-(l.length-j)=j by omega,show l.length-j=m by omega];rfl
  ·obtain rfl:m=0:=by omega
   have hlen:=Hln.out;have hjm:=hj.out;have:l.drop j=[]:=List.eq_nil_of_length_eq_zero (by rw[List.length_drop];omega);have Hd:=φ this;clear this hlen hjm;go_wp2;go_ret;refine⟨?_,rfl⟩;rw[ht.out,Hd.out];exact congrArg Ending.returned (tlV_zero a n c).symm
def trimLen (l:List UInt8):Nat:=(tl 0 (tr 0 l)).length
theorem Trim_any (B:Nat) (a:Option Addr) (n c:Nat) (l:List UInt8) (w:World) (hl:RB B w a n c l) :
  Calls Tryz.prog 120 #[.slice a n c,.string ⟨#[0]⟩] w fun e w'=>(∃ a' c',e=.returned (.slice a' (trimLen l) c'))/\∃ q,w'=w.drewN q:=by
 have hle:=hl.le;have hmx:=hl.mx;have hlm:=hl.lm;have hln:=hl.len;by_cases h0:n=0
 ·subst h0;obtain rfl:l=[]:=List.eq_nil_of_length_eq_zero hln.symm;clear hln;go_enter Tryz.func120,Tryz.ntmps120;go_wp2;go_ret;exact⟨⟨none,0,rfl⟩,0,rfl⟩
 ·have hn0:((n:Int) == 0)=false:=by simp;omega
  have htr:RB B w a (tr 0 l).length c (tr 0 l):=by
   have h:=tr_take_eq 0 l;have hle:(tr 0 l).length<=n:=by have:=tl_len 0 l.reverse;unfold tr;simp at this ⊢;omega
   rw[h];have:=hl.take (tr 0 l).length hle
   rwa [<- h] at this ⊢
  obtain⟨b,o,hab,-⟩:=hl.at_ (by omega);have hfin:=tlV_len a (tr 0 l).length c (trimLen l) (fun _ h=>by rw[hab] at h;cases h);have Hfin:=φ hfin;clear hfin hab;have Hln:=φ hln;clear hln;go_enter Tryz.func120,Tryz.ntmps120;go_wp2_with fail;go_quiet ((first|(go_at_call 172;exact quiet_same (trimRight_any B a n c l 0 _ (hl.drewN _)))|(go_at_call 171;exact quiet_same (trimLeft_any B a _ c _ 0 _ (htr.drewN _)))));go_wp2;go_ret;obtain⟨a',c',h⟩:=Hfin.out;exact⟨⟨a',c',by rw[<- h];rfl⟩,_,rfl⟩
end
section
open Go.RowKit Go.Shelf
variable {a:Act} {Q:Exit->Act->World->Prop} {N b id k l₀ n o:Nat} {S:Nat->Prop} {P:Program} {T:TypeId} {v:Value} {A B W W' w:World}
def noDefer (l:List Oper):Bool:=l.all fun o=>match o.op with | .defer _=>false|_=>true
theorem noDefer_spec {l:List Oper} (h:noDefer l=true) {o:Oper} (ho:o∈l) (c:Call):o.op≠.defer c:=by
 intro e;have:=List.all_eq_true.1 h o ho;rw[e] at this
 cases this
def okPost (R:Act->World->Prop):Exit->Act->World->Prop
 | .normal,a,w=>R a w
 | _,_,_=>False
theorem wpOpsIn_of_wpOps {P:Program} {n l₀:Nat} {ops:Array Oper} {Q:Exit->Act->World->Prop} {R:Act->World->Prop} (hnd:noDefer ops.toList=true) (hR:∀ a w,R a w->Q .normal a w) :
  ∀ (l:List Nat) (a:Act) (w:World),wpOps P ops (okPost R) l a w->wpOpsIn (Fence.wide.inRound l₀) n P ops Q l a w
 | [],a,w,h=>hR a w h
 | i::rest,a,w,h=>by
  have ih:=wpOpsIn_of_wpOps (P:=P) (n:=n) (l₀:=l₀) (Q:=Q) hnd hR rest;simp only[wpOps,wpOpsIn] at h ⊢
  cases ho:ops[i]? with
  | none=>simp only[ho] at h ⊢;exact ih a w h
  | some o =>
   simp only[ho] at h ⊢;by_cases hw:Region.wanted o (yielded ops a.tmps)=true
   ·simp only[hw,if_true] at h ⊢;rcases h with h|⟨_,a0,w0,hq⟩
    case inr=>exact hq.elim
    have hno:∀ c,o.op≠.defer c:=fun c=>noDefer_spec hnd (by
     obtain⟨hlt,he⟩:=Array.getElem?_eq_some_iff.1 ho;rw[<- he];exact Array.getElem_mem_toList hlt) c
    refine⟨fun _ _=>trivial,?_⟩;have hs:o.semAt (Fence.wide.inRound l₀).round a.eval=execOp a.eval o:=Oper.semAt_some l₀ _ o hno;rw[hs];unfold Oper.wp at h;generalize (execOp a.eval o).run P w=r at h
    cases r with
    | halt x w' =>
     cases x with
     | panic v=>exact h.elim
     | _=>exact h.elim
    | ok x w' =>
     cases x with
     | value v=>exact ih _ _ h
     | skip=>exact ih _ _ h
     | defer d=>exact ih _ _ h
     | enter f args =>
      refine⟨fun h0=>by simp[Fence.wide] at h0,CallsIn.inRound l₀ (callsIn_wide.2 ?_)⟩;refine Calls.mono h fun e w'' he=>?_
      cases e with
      | returned v=>exact ih _ _ he
      | panicked c=>exact he.elim
      | outgrown=>obtain⟨a0,w0,hq⟩:=he;exact hq.elim
     | row row args =>
      refine⟨fun h0=>by simp[Fence.wide] at h0,?_⟩;intro c cs hroom;obtain⟨v,w2,hR2,hst⟩:=h c cs;exact⟨v,w2,ih _ _ hR2,stepsIn_wide.2 hst⟩
     | _=>exact h.elim
   ·simp only[hw,if_false,Bool.false_eq_true] at h ⊢;exact⟨fun _ _=>trivial,ih _ _ h⟩
theorem round_region {ops:Array Oper} (hm:P.follows .mixedOrders=true) (hnd:noDefer ops.toList=true)
  (h:wpAny P .any ops (okPost (Q .normal)) ops.size (Array.replicate ops.size false) a { w with drawn:=w.drawn+1 }):(Code.region id ops true).wpIn (Fence.wide.inRound l₀) n P Q a w :=
 wpIn_region_draw fun t=>by
  simp only[Region.schedule,hm,Bool.true_or,if_true];exact wpOpsIn_of_wpOps hnd (fun _ _ h=>h) _ _ _ (wpAny_sound ops.size t _ a _ h)
theorem round_quiet_lit {l:List Oper} (hm:P.follows .mixedOrders=true) (hB:Region.lexB .any l.toArray=true) (hnd:noDefer l=true)
  (h:wpQuiet P l.toArray (fun w'=>∃ n,w'=w.drewN n) (fun a'=>∀ w',(∃ n,w'=w.drewN n)->Q .normal a' w') l a):(Code.region id l.toArray true).wpIn (Fence.wide.inRound l₀) n P Q a w:=by
 simp only[Region.lexB,Bool.and_eq_true] at hB;refine round_region hm (by simpa using hnd) (wpAny_of_quiet (C:=fun w'=>∃ n,w'=w.drewN n) (Q':=okPost (Q .normal)) (Q:=fun a'=>∀ w',(∃ n,w'=w.drewN n)->Q .normal a' w') (fun _ w' hw' h=>h w' hw') _ _ _ _ ⟨1,rfl⟩ ?_);have:=wpAnyQ_lex (P:=P) (C:=fun w'=>∃ n,w'=w.drewN n) (md:=.any) hB.1 l.toArray.toList 0 (Array.replicate l.toArray.size false) a (by simp) (by simpa using hB.2) (by simpa using h);simpa using this
def KpS (S:Nat->Prop) (W W':World):Prop:=∀ k,S k->W'.heap[k]? = W.heap[k]?
theorem KpS.trans {C:World} (h:KpS S A B) (k:KpS S B C):KpS S A C:=fun i hi=>(k i hi).trans (h i hi)
theorem KpS.refl (S:Nat->Prop) (A:World):KpS S A A:=fun _ _=>rfl
theorem KpS.cell (h:KpS S A B) (hb:S b):B.cell? ⟨b,o,none⟩=A.cell? ⟨b,o,none⟩:=World.cell?_of_block (w:=A) (h b hb)
theorem KpS.obj (hS:∀ k,S k->k<w.heap.size) (W:World) (l:Nat) (o o':Obj) (hl:w.heap.size<=l) (_:W.heap[l]? = some o) (_:o.isCells=false) (_:o.isWalk=false):KpS S W (W.putObj l o') :=
 fun k hk=>World.putObj_heap_other (fun e=>by have:=hS k hk;omega)
theorem KpS.rb (h:KpS S A B) {c:Nat} {l:List UInt8} (hb:S b) (hr:RB N A (some ⟨b,o,none⟩) n c l):RB N B (some ⟨b,o,none⟩) n c l :=
 ⟨hr.len,hr.le,hr.mx,hr.lm,fun hc=>by
  obtain⟨b',o',he,hB,hcell⟩:=hr.at_ hc
  cases he
  exact⟨b,o,rfl,hB,fun i hi=>(h.cell hb).trans (hcell i hi)⟩⟩
def Box (W:World) (k:Nat) (T:TypeId) (v:Value):Prop:=W.heap[k]? = some (.cells #[v] T (0,0))
theorem Box.cell (h:Box W k T v):W.cell? ⟨k,0,none⟩=some v:=by
 unfold Box at h;simp[World.cell?,h]
theorem Box.frozen (h:Box W k T v):W.frozen? ⟨k,0,none⟩=false:=by
 unfold Box at h;simp[World.frozen?,h]
theorem Box.lt (h:Box W k T v):k<W.heap.size:=(Array.getElem?_eq_some_iff.1 h).1
theorem Box.below {B:Nat} (h:Box W k T v) (hb:Below B W W') (hk:k<B):Box W' k T v:=(hb.block k hk).trans h
theorem Box.set (h:Box W k T v) (u:Value):Box (W.setCell ⟨k,0,none⟩ u) k T u:=by
 unfold Box at h ⊢;obtain⟨hlt,he⟩:=Array.getElem?_eq_some_iff.1 h;simp[World.setCell,Array.getElem?_modify,h]
theorem Box.other (h:Box W k T v) {j:Nat} (hj:j≠k) (u:Value):Box (W.setCell ⟨j,o,none⟩ u) k T v:=by
 unfold Box at h ⊢;rw[<- h];exact Below.heap_setCell W ⟨j,o,none⟩ u k (fun e=>hj e.symm)
theorem Box.drewN (h:Box W k T v) (q:Nat):Box (W.drewN q) k T v:=h
theorem Box.drew (h:Box W k T v):Box W.drew k T v:=h
theorem heap_drew {D:Nat} {o:Option Obj} (h:W.heap[D]? = o):W.drew.heap[D]? = o:=h
theorem Box.new (W:World) (T:TypeId) (v:Value):Box (W.alloc (.cells #[v] T)) W.heap.size T v:=heap_alloc_new W _
theorem Box.alloc (h:Box W k T v) (o:Obj):Box (W.alloc o) k T v:=(Below.heap_alloc W o k h.lt).trans h
theorem ownFrom_of_below {β:Type} {B:Nat} {I:β->World->Prop} (h:∀ s W W',I s W->B<=W.heap.size->Below B W W'->I s W') (hB:∀ s W,I s W->B<=W.heap.size):OwnFrom B I :=
 fun s W W' row hs hg hr=>h s W W' hs (hB s W hs) (by
  have hB:=hB s W hs;exact⟨hg.os,hg.tape,hg.output,hg.size,fun k hk=>hg.block k (by omega) (fun e=>by have:=(hr k e.symm).1;omega)⟩)
theorem ko_drewN (W:World) (q:Nat):KeepsOthers W (W.drewN q):=⟨Nat.le_refl _,fun _ _ h _=>h⟩
theorem ko_set (W:World) (q:Nat) (a:Addr) (v:Value):KeepsOthers W ((W.drewN q).setCell a v):=(ko_drewN W q).trans (KeepsOthers.setCell _ _ _)
theorem KpS.drewN (S:Nat->Prop) (W:World) (q:Nat):KpS S W (W.drewN q):=fun _ _=>rfl
theorem KpS.setCell (h:KpS S W W') {a:Addr} (ha:¬ S a.block) (v:Value):KpS S W (W'.setCell a v) :=
 fun k hk=>(Below.heap_setCell W' a v k (fun e=>ha (e ▸ hk))).trans (h k hk)
theorem δ {B:Nat} {a:World} (h:Below B a w) (n:Nat):Below B a (w.drewN n):=h.trans ⟨rfl,rfl,rfl,Nat.le_refl _,fun _ _=>rfl⟩
theorem size_setCell' (W:World) (a:Addr) (v:Value):(W.setCell a v).heap.size=W.heap.size:=by simp[World.setCell]
def boxes (w:World):List (Value×TypeId)->World
 | []=>w
 | x::r=>boxes (w.alloc (.cells #[x.1] x.2)) r
theorem boxes_spec:∀ (l:List (Value×TypeId)) (w:World),Below w.heap.size w (boxes w l)/\(boxes w l).heap.size=w.heap.size+l.length/\∀ i x,l[i]? = some x->Box (boxes w l) (w.heap.size+i) x.2 x.1
 | [],w=>⟨Below.refl _ _,rfl,fun i x h=>by simp at h⟩
 | y::r,w=>by
  obtain⟨h1,h2,h3⟩:=boxes_spec r (w.alloc (.cells #[y.1] y.2));rw[World.size_alloc] at h1 h2 h3;have hb:Below w.heap.size w (boxes (w.alloc (.cells #[y.1] y.2)) r):=((Below.refl _ w).alloc (Nat.le_refl _) _).trans (h1.mono (by omega));refine⟨hb,by show (boxes (w.alloc (.cells #[y.1] y.2)) r).heap.size=_;rw[h2];simp;omega,fun i x h=>?_⟩
  cases i with
  | zero =>
   cases h
   exact (Box.new w y.2 y.1).below h1 (by omega)
  | succ i =>
   have:=h3 i x (by simpa using h)
   rwa [show w.heap.size+1+i=w.heap.size+(i+1) by omega] at this
theorem wpIn_boxes {F:Fence} {c:Code} (w:World) (l:List (Value×TypeId)) (hW:boxes w l=W)
  (h:∀ w1,Below w.heap.size w w1->w1.heap.size=w.heap.size+l.length->(∀ i x,l[i]? = some x->Box w1 (w.heap.size+i) x.2 x.1)->c.wpIn F n P Q a w1):c.wpIn F n P Q a W:=by
 obtain⟨h1,h2,h3⟩:=boxes_spec l w;rw[<- hW];exact h _ h1 h2 h3
theorem range_law {α:Type} {g:Operand} {ps:Array Tmp} {assign body:Code}
  (h1:1<=n) {gf:Nat} {lb:Array Value} (hg:a.eval g=.func (.func gf) #[] lb) (eg:∀ args w,(callFunc gf args).run P w=.ok (.enter gf args) w)
  {encs:α->Array Value} {Sf Sp:List α->Prop} (hseq:SeqStopsK Fence.wide (n-1) P gf lb encs (KpS S) Sf Sp N w) (hS:∀ k,S k->k<w.heap.size) (hps:∀ x,(encs x).size=ps.size)
  (I:List α->World->Prop) (Ix:Code->List α->World->Prop) (hI:OwnFrom w.heap.size I) (hIx:∀ c,OwnFrom w.heap.size (Ix c)) (h0:I [] w)
  (h:∃ a₁:α->Act,
   (∀ (l:Nat) (x:α) (W:World) (K:Act->World->Prop),K (a₁ x) W ->
    assign.wpIn (Fence.wide.inRound l) (n-1-1) P (Exit.then K (fun _ _ _=>False)) { tmps:=(ps.zip (encs x)).foldl (fun t (p,v)=>t.setIfInBounds p v) a.tmps,defers:=[] } W) /\
   (∀ (l:Nat) (pre:List α) (x:α) (W:World),I pre W->pre.length<N->body.wpIn (Fence.wide.inRound l) (n-1-1) P (ownPostK (KpS S) I Ix (pre++[x]) W) (a₁ x) W) /\
   (∀ (D:Nat) (xs:List α) (W:World),w.heap.size<=D->Sf xs->I xs W->W.heap[D]? = some (.deferred (some []))->Q .normal { a with defers:={ target:=.collected D,args:=#[] }::a.defers } W) /\
   (∀ (D:Nat) (c:Code) (pre:List α) (W:World),w.heap.size<=D->Sp pre->Ix c pre W->W.heap[D]? = some (.deferred (some []))->c.wpIn Fence.wide n P Q { a with defers:={ target:=.collected D,args:=#[] }::a.defers } W)) :
  (Code.rangeFunc g ps assign body).wpIn Fence.wide n P Q a w:=by
 obtain⟨a₁,ha,hb,hd,hs⟩:=h;exact wpIn_rangeFunc_ownF rfl h1 hg trivial eg hseq KpS.trans (KpS.obj hS) (Below.refl _ _) hps I Ix hI hIx h0 a₁ ha hb hd hs
end
section
set_option maxHeartbeats 2000000
set_option maxRecDepth 100000
open Go.RowKit Go.Shelf
variable {p:List UInt8} {i:Nat}
attribute [local go_sem] Oper.semAt_some
def endOf (p:List UInt8) (i:Nat):Nat:=if i+2<=p.length then i+2+(bt p i).toNat+(bt p (i+1)).toNat else p.length+1
def scan (p:List UInt8):Nat->Nat->List (Nat×Nat)
 | 0,_=>[]
 | c+1,i=>(i,endOf p i)::(if p.length<endOf p i then [] else scan p c (endOf p i))
abbrev El (L:List UInt8) (P:Nat×Nat->Prop):={ x:Nat×Nat // (11<=x.1/\x.1<=L.length/\x.2=endOf L x.1)/\P x }
theorem endOf_in (h:i+2<=p.length):endOf p i=i+2+(bt p i).toNat+(bt p (i+1)).toNat:=if_pos h
theorem endOf_out (h:¬ i+2<=p.length):endOf p i=p.length+1:=if_neg h
theorem endOf_ge (p:List UInt8) (i:Nat) (h:i<=p.length):i<endOf p i:=by
 unfold endOf;split<;>omega
theorem endOf_le (p:List UInt8) (i:Nat):endOf p i<=p.length+510:=by
 have:=bt_bd p i;have:=bt_bd p (i+1);unfold endOf;split<;>omega
theorem each1_in (n:Nat) (hn:1<=n) (l Bs N b o m c:Nat) (L:List UInt8) (P:Nat×Nat->Prop) (hP:∀ x∈scan L (bt L 10).toNat 11,P x) (S:Nat->Prop) (hSb:S b) (hSB:S Bs) (hm:11<=m) (J Jx:List (El L P)->World->Prop)
  (hJd:∀ pre W q,J pre W->J pre (W.drewN q))
  (hY:∀ pre (x:El L P) W,J pre W->pre.length<(scan L (bt L 10).toNat 11).length->YieldAt Fence.wide (n-1) Tryz.prog l #[.int .i64 (x.1.1:Int),.int .i64 (x.1.2:Int)] W fun e W' =>
   (e=.returned (.bool true)/\J (pre++[x]) W'/\KpS S W W')∨(e=.returned (.bool false)/\Jx (pre++[x]) W'))
  (W:World) (hBs:W.cell? ⟨Bs,0,none⟩=some (.slice (some ⟨b,o,none⟩) m c)) (hr:RB N W (some ⟨b,o,none⟩) m c L) (h0:J [] W) :
  CallsIn Fence.wide n Tryz.prog 131 #[.func (.yield l) #[] #[],.pointer (some ⟨Bs,0,none⟩)] W fun e W'=>(∃ v,e=.returned v) /\
   ((∃ ys,ys.map (·.1)=scan L (bt L 10).toNat 11/\J ys W')∨(∃ pre,pre.map (·.1) <+: scan L (bt L 10).toNat 11/\Jx pre W')):=by
 have hle:=hr.le;have hmx:=hr.mx;have hlm:=hr.lm;have hln:=hr.len;obtain⟨cnt,hcnt⟩:∃ cnt:Nat,bt L 10=cnt:=⟨(bt L 10).toNat,by have:=bt_bd L 10;omega⟩
 have hcb:=bt_bd L 10;obtain⟨b',o',he,hB,hcell⟩:=hr.at_ (by omega)
 cases he
 have g10:=hcell 10 (by omega);rw[hcnt] at g10 hcb hY hP ⊢;simp only[Int.toNat_natCast] at hY hP ⊢;have HP:=φ hP;clear hP;have Hln:=φ hln;clear hln;have Hcell:=φ hcell;clear hcell;have Hcnt:=φ hcnt;clear hcnt;refine callsIn_of_wp Tryz.func131 rfl trivial ?_ rfl;simp only[Tryz.ntmps131,List.size_toArray,List.length_cons,List.length_nil,Nat.reduceAdd,Nat.reduceSub,Array.replicate_succ,Array.replicate_zero,List.push_toArray,List.append_toArray,List.nil_append,List.cons_append]
 gi_wp2
 gi_loopw [3,4,8] (fun p _ i wr=>∃ (j q:Nat) (pre:List (El L P)),p=.int .i64 q/\i=.int .u8 j/\j<=cnt/\11<=q/\q<=m/\Hid (scan L cnt 11=pre.map (·.1)++scan L (cnt-j) q)/\J pre wr/\Hid (KpS S W wr))
  (fun _ _ i _=>cnt-(intOf i).toNat)
 case atStart=>exact⟨0,11,[],rfl,rfl,Nat.zero_le _,Nat.le_refl _,hm,rfl,h0,KpS.refl _ _⟩
 case round =>
  obtain⟨j,q,pre,rfl,rfl,hj,hq11,hq,hsc,hJ,hK⟩:=hrel;have hBs':=(hK.out.cell (o:=0) hSB).trans hBs;by_cases hlt:j<cnt
  ·obtain⟨z,hz⟩:∃ z,z=endOf L q:=⟨_,rfl⟩
   have hzq:=endOf_ge L q (by rw[<- Hln.out];exact hq);have hzm:=endOf_le L q;rw[<- hz] at hzq hzm;rw[<- Hln.out] at hzm;have hsc':scan L cnt 11=(pre.map (·.1)++[(q,z)])++(if m<z then [] else scan L (cnt-(j+1)) z):=by
    rw[hsc.out,show cnt-j=(cnt-(j+1))+1 by omega,List.append_assoc]
    congr 1
    simp only[scan,<- hz,Hln.out];rfl
   have hlen:pre.length<(scan L cnt 11).length:=by rw[hsc'];simp only[List.length_append,List.length_map,List.length_singleton];omega
   have Hsc:=φ hsc';clear hsc' hsc;obtain⟨xe,hxe⟩:∃ xe:El L P,xe.1=(q,z):=⟨⟨(q,z),⟨hq11,by rw[<- Hln.out];exact hq,hz⟩,HP.out _ (by rw[Hsc.out];simp)⟩,rfl⟩
   have Hxe:=φ hxe;clear hxe;by_cases h2:q+2<=m
   ·obtain⟨x,hx⟩:∃ x:Nat,bt L q=x:=⟨(bt L q).toNat,by have:=bt_bd L q;omega⟩
    obtain⟨y,hy'⟩:∃ y:Nat,bt L (q+1)=y:=⟨(bt L (q+1)).toNat,by have:=bt_bd L (q+1);omega⟩
    have gx:=(hK.out.cell (o:=o+q) hSb).trans (Hcell.out q (by omega));have gy:=(hK.out.cell (o:=o+(q+1)) hSb).trans (Hcell.out (q+1) (by omega));have hxb:=bt_bd L q;have hyb:=bt_bd L (q+1);rw[hx] at gx hxb;rw[hy'] at gy hyb;have hzz:z=q+2+x+y:=(by rw[hz,endOf_in (by rw[<- Hln.out];exact h2),hx,hy'];rfl);clear hx hy' hz;subst hzz
    gi_wp2
    refine wpIn_wide.2 ?_;go_quiet (fail);obtain⟨fn,tmps,assign,body,hy,hR⟩:=hY pre xe (wr.drewN nq) (hJd _ _ _ hJ) hlen;have ez:(((q,q+2+x+y):Nat×Nat).2:Int)=(q:Int)+2+x+y:=(by show ((q+2+x+y:Nat):Int)=_;omega);rw[Hxe.out,ez] at hy;clear ez;dsimp only at hy
    gi_wp2
    refine hR.mono ?_;rintro e W3 (⟨rfl,hJ3,hk3⟩|⟨rfl,hJx3⟩)
    ·have hK3:KpS S W W3:=hK.out.trans hk3;have hBs3:=(hK3.cell (o:=0) hSB).trans hBs
     gi_wp2
     ·have hgt:m<q+2+x+y:=(by omega);refine bodyPost_ret (results_none rfl _ _ _) rfl ?_;refine⟨⟨_,rfl⟩,.inl ⟨pre++[xe],?_,hJ3⟩⟩;rw[List.map_append,List.map_singleton,Hxe.out,Hsc.out,if_pos hgt,List.append_nil]
     ·have hgt:¬ m<q+2+x+y:=(by omega);go_roundw
      case rel =>
       refine⟨j+1,q+2+x+y,pre++[xe],congrArg (Value.int .i64) (by omega),by go_num,by omega,by omega,by omega,?_,hJ3,hK3⟩;show _=_;rw[List.map_append,List.map_singleton,Hxe.out,Hsc.out,if_neg hgt]
      case measure=>simp[intOf];omega
    ·gi_wp2
     refine bodyPost_ret (results_none rfl _ _ _) rfl ?_;refine⟨⟨_,rfl⟩,.inr ⟨pre++[xe],?_,hJx3⟩⟩;rw[List.map_append,List.map_singleton,Hxe.out,Hsc.out];exact List.prefix_append _ _
   ·have hzz:z=m+1:=(by rw[hz,endOf_out (by rw[<- Hln.out];exact h2),<- Hln.out]);clear hz;subst hzz;obtain⟨fn,tmps,assign,body,hy,hR⟩:=hY pre xe wr hJ hlen;have ez:(((q,m+1):Nat×Nat).2:Int)=(m:Int)+1:=(by show ((m+1:Nat):Int)=_;omega);rw[Hxe.out,ez] at hy;clear ez;dsimp only at hy
    gi_wp2
    refine hR.mono ?_;rintro e W3 (⟨rfl,hJ3,hk3⟩|⟨rfl,hJx3⟩)
    ·have hK3:KpS S W W3:=hK.out.trans hk3;have hBs3:=(hK3.cell (o:=0) hSB).trans hBs
     gi_wp2
     refine bodyPost_ret (results_none rfl _ _ _) rfl ?_;refine⟨⟨_,rfl⟩,.inl ⟨pre++[xe],?_,hJ3⟩⟩;rw[List.map_append,List.map_singleton,Hxe.out,Hsc.out,if_pos (Nat.lt_succ_self m),List.append_nil]
    ·gi_wp2
     refine bodyPost_ret (results_none rfl _ _ _) rfl ?_;refine⟨⟨_,rfl⟩,.inr ⟨pre++[xe],?_,hJx3⟩⟩;rw[List.map_append,List.map_singleton,Hxe.out,Hsc.out];exact List.prefix_append _ _
  ·have hcj:cnt-j=0:=by omega
   have hge:cnt<=j:=by omega
   gi_wp2
   go_end0;refine⟨⟨_,rfl⟩,.inl ⟨pre,?_,hJ⟩⟩;rw[hsc.out,hcj,scan,List.append_nil]
theorem each_any (a:Option Addr) (n c:Nat) (w:World) :
  Calls Tryz.prog 82 #[.slice a n c] w fun e w'=>e=.returned (.func (.func 131) #[] #[.pointer (some ⟨w.heap.size,0,none⟩)])/\w.alloc (.cells #[.slice a n c] 27)=w':=by
 go_enter Tryz.func82,Tryz.ntmps82;go_wp2;go_ret;exact⟨rfl,rfl⟩
theorem each_stops (n:Nat) (hn:1<=n) (Bs N b o m c:Nat) (L:List UInt8) (P:Nat×Nat->Prop) (hP:∀ x∈scan L (bt L 10).toNat 11,P x) (S:Nat->Prop) (hSb:S b) (hSB:S Bs) (hm:11<=m) (w:World) (hS:∀ k,S k->k<w.heap.size)
  (hBs:w.cell? ⟨Bs,0,none⟩=some (.slice (some ⟨b,o,none⟩) m c)) (hr:RB N w (some ⟨b,o,none⟩) m c L) :
  SeqStopsK Fence.wide n Tryz.prog 131 #[.pointer (some ⟨Bs,0,none⟩)] (fun x:El L P=>#[Value.int .i64 (x.1.1:Int),.int .i64 (x.1.2:Int)]) (KpS S)
   (fun ys=>ys.map (·.1)=scan L (bt L 10).toNat 11) (fun pre=>pre.map (·.1) <+: scan L (bt L 10).toNat 11) (scan L (bt L 10).toNat 11).length w:=by
 intro l J Jx W hW hJ hJx hY h0;have hK:KpS S w W:=fun k hk=>hW.block k (hS k hk)
 refine each1_in n hn l Bs N b o m c L P hP S hSb hSB hm J Jx (fun pre W1 q hj=>?_) hY W ((hK.cell (o:=0) hSB).trans hBs) (hK.rb hSb hr) h0;exact hJ pre W1 (W1.drewN q) none hj ⟨rfl,rfl,rfl,Nat.le_refl _,fun _ _ _=>rfl⟩ (fun r e=>by cases e)
end
end Go.Proofs.YtohlkkannjifmaaGreatDoor
