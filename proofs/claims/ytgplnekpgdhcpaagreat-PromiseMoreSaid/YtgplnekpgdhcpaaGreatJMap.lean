/- The walk of Join's comparison; the sort of the call's own parts. storeman/kit.Within: its walk. The walks of slices.Grow from nothing and of slices.Concat, at parts. The map of sums, as it reads, and the list that rises. -/
import Derived.Test.YtgplnekpgdhcpaaGreatQEnds
import Derived.Test.YtgplnekpgdhcpaaGreatJShelf
import Derived.Shelf.SlSortCmp.NoneTotal
import Derived.Test.YtgplnekpgdhcpaaGreatKCheck
import Derived.Test.YtgplnekpgdhcpaaGreatKDeep
import Derived.Test.YtgplnekpgdhcpaaGreatKMap
import Derived.Sort.OwnSorted
import Derived.Sort.KeysCollected
import Derived.Shelf.SlIter.Collect
import Derived.Shelf.Spec.SlicesGrow
import Derived.Test.YtgplnekpgdhcpaaGreatJPure
import Derived.Maps.Views
namespace Go.Proofs.YtgplnekpgdhcpaaGreat
open Go.RowKit Go.Shelf Go.Sort Go.Lib
set_option maxHeartbeats 1000000 in
theorem cmp_any (x y:Pt) (W:World):Calls Tryz.prog 134 #[.agg #[encStr x.1,.int .i64 x.2],.agg #[encStr y.1,.int .i64 y.2]] W fun e w'=>e = .returned (.int .i64 (cfP x y))/\∃ q os',w'=grow (W.drewN q) os':=by
 have hcon:=fun W'=>Tryz.strings_Compare ⟨x.1.toArray⟩ ⟨y.1.toArray⟩ W'
 have e:Lib.compareBytes x.1.toArray.toList y.1.toArray.toList=cfP x y:=rfl
 rw[e] at hcon
 clear e
 generalize cfP x y=r at hcon ⊢
 go_enter Tryz.func134,Tryz.ntmps134
 go_wp2_with (go_at_call 135;refine (hcon _).mono ?_;rintro e w' ⟨rfl,rfl⟩)
 go_ret
 exact⟨rfl,0,_,by rw[alloc_eq_grow,alloc_eq_grow,grow_grow];rfl⟩
theorem ltP (x y:Pt):ltOf cfP x y=decide (x.1 < y.1):=cfP_lt x y
theorem swoP:SWO (ltOf cfP) where
 irrefl x:=by rw[ltP];exact decide_eq_false (List.lt_irrefl _)
 trans x y z h1 h2:=by
  rw[ltP] at *
  exact decide_eq_true (List.lt_trans (of_decide_eq_true h1) (of_decide_eq_true h2))
 ntrans x y z h1 h2:=by
  rw[ltP] at *
  have e1:=List.not_lt.1 (of_decide_eq_false h1)
  have e2:=List.not_lt.1 (of_decide_eq_false h2)
  exact decide_eq_false (List.not_lt.2 (List.le_trans e2 e1))
theorem flat_cells (d:Array Pt):flatK encP 2 d=(cellsP d.toList).toArray:=by
 have hlen:=cellsP_len d.toList
 refine ext_get! (by simp[hlen]) fun t ht=>?_
 have ht':t < d.size * 2:=by simpa using ht
 rw[get_flatK _ _ _ _ ht']
 have hat:=cellsP_at d.toList (t / 2) (by simp;omega)
 have e:d[t / 2]! = d.toList.getD (t / 2) default:=by
  rw[getElem!_pos d (t / 2) (by omega),List.getD_eq_getElem?_getD,List.getElem?_eq_getElem (by simp;omega)]
  simp
 rw[e]
 obtain⟨p,hp⟩:∃ p,p=d.toList.getD (t / 2) default:=⟨_,rfl⟩
 rw[<- hp] at hat ⊢
 rcases (show t=t / 2 * 2∨t=t / 2 * 2+1 by omega) with h | h
 ·have e1:(cellsP d.toList).toArray[t]! = encStr p.1:=by
   have:=hat.1
   rw[<- h] at this
   simp[this]
  rw[e1,show t % 2=0 by omega];rfl
 ·have e1:(cellsP d.toList).toArray[t]! = .int .i64 p.2:=by
   have:=hat.2
   rw[<- h] at this
   simp[this]
  rw[e1,show t % 2=1 by omega];rfl
theorem OP.holds {base g cap:Nat} {w:World} {P:List Pt} (h:OP base w (.slice (some ⟨g,0,none⟩) P.length cap) P):HoldsK encP 2 w g 0 P.toArray:=by
 obtain⟨h1,⟨h2,-⟩ | ⟨g',cap',cur,hv,hg,hh,hle,hcap,hsz,htk⟩⟩:=h
 ·cases h2
 ·cases hv
  intro j hj
  rw[flat_cells] at hj ⊢
  simp only[List.size_toArray] at hj
  rw[cellsP_len] at hj
  simp only[World.cell?,World.frozen?,hh,Nat.zero_add]
  have e:(cellsP P).toArray[j]! = cur.toList[j]!:=by
   have e2:=congrArg (fun l:List Value=>l[j]?) htk
   simp only[List.getElem?_take] at e2
   rw[if_pos (by simpa using hj)] at e2
   simp[<- e2]
  simp only[id,Option.isSome_none,Bool.false_eq_true,if_false]
  refine⟨?_,by simp⟩
  rw[e]
  have:j < cur.size:=by rw[hsz];omega
  simp[this]
theorem OP.sorted {base g cap:Nat} {w:World} {P:List Pt} (h:OP base w (.slice (some ⟨g,0,none⟩) P.length cap) P) {d:Array Pt} (hd:d.size=P.length) (n:Nat) (os:Array Obj) :
  OP base (sortWorldK encP 2 w g 0 n d os) (.slice (some ⟨g,0,none⟩) P.length cap) d.toList/\Below base w (sortWorldK encP 2 w g 0 n d os):=by
 obtain⟨h1,⟨h2,-⟩ | ⟨g',cap',cur,hv,hg,hh,hle,hcap,hsz,htk⟩⟩:=h
 ·cases h2
 ·cases hv
  have hlt:=(Array.getElem?_eq_some_iff.1 hh).1
  have hsz':(putRowK encP 2 (Sort.ahead w n) g 0 d).heap.size=w.heap.size:=size_putRowK encP 2 (Sort.ahead w n) g 0 d
  have hheap:(sortWorldK encP 2 w g 0 n d os).heap=(w.heap.modify g (onCells (putCells id 0 (flatK encP 2 d)))) ++ os:=rfl
  have hnew:(sortWorldK encP 2 w g 0 n d os).heap[g]? = some (.cells (putCells id 0 (flatK encP 2 d) cur) 74 (0,0)):=by
   rw[hheap,Array.getElem?_append_left (by simpa using hlt),Array.getElem?_modify,if_pos rfl,hh]
   first | done | rfl
  refine⟨⟨by rw[cellsP_len],.inr ⟨g,cap,_,by simp[hd],hg,hnew,by simpa [hd] using hle,hcap,by simp[putCells,hsz],?_⟩⟩,?_⟩
  ·apply List.ext_getElem?
   intro j
   have hlen:=cellsP_len d.toList
   rw[List.getElem?_take]
   have hdl:d.toList.length=P.length:=by simpa using hd
   by_cases hj:j < d.toList.length * 2
   ·rw[if_pos hj]
    have hjc:j < cur.size:=by rw[hsz];omega
    rw[flat_cells]
    simp only[putCells,Array.getElem?_toList,Array.getElem?_mapIdx]
    rw[Array.getElem?_eq_getElem hjc]
    simp only[Option.map_some,Nat.zero_le,true_and,Nat.zero_add,List.size_toArray]
    rw[if_pos (by rw[hlen];exact hj)]
    rw[List.getElem?_eq_getElem (by rw[hlen];exact hj)]
    simp
    rw[List.getElem?_eq_getElem (by rw[hlen];simpa using hj)]
    rfl
   ·rw[if_neg hj,List.getElem?_eq_none (by rw[hlen];omega)]
  ·refine⟨rfl,rfl,rfl,?_,fun k hk=>?_⟩
   ·rw[hheap];simp
   ·rw[hheap,Array.getElem?_append_left (by simp;omega),Array.getElem?_modify,if_neg (by omega)]
set_option maxHeartbeats 1000000 in
theorem sort_any (base g cap:Nat) (P S:List Pt) (w:World) (h:OP base w (.slice (some ⟨g,0,none⟩) P.length cap) P) (hu:Up S) (hp:P.Perm S) (hlen:P.length < 4611686018427387904) :
  Calls Tryz.prog 133 #[.slice (some ⟨g,0,none⟩) P.length cap,.func (.func 134) #[] #[]] w fun e w'=>e = .returned (.tuple #[])/\OP base w' (.slice (some ⟨g,0,none⟩) P.length cap) S/\Below base w w':=by
 have eg:∀ args w,(callFunc 134 args).run Tryz.prog w = .ok (.enter 134 args) w:=enters_of Tryz.func134 (by kernel_rfl) rfl
 have hlt:=(h.ge g rfl).2
 have hcon:=AnyQ.slices_SortFunc Tryz.sortP 2 Tryz.isAgg74 Tryz.sizeOf74 encP (fun _=>rfl) (fun x v hv=>by simp[encP] at hv;rcases hv with rfl | rfl <;> rfl) cfP swoP 134 #[] g 0 cap P.toArray w eg (fun _ _ _ _ x y=>cmp_any x y _) h.holds hlt (by simpa using hlen)
 simp only[List.size_toArray] at hcon
 refine hcon.mono fun e w' ⟨he,d',n,os,hperm,hsort,hw⟩=>⟨he,?_⟩
 have hsz:d'.size=P.length:=by simpa using hperm.1
 have e1:d'.toList=S:=hu.sorted_in (d:=P.toArray) ltP (by simpa using hperm) (by simpa using hsort) (by simpa using hp)
 have:=h.sorted hsz n os
 rw[e1] at this
 rw[hw]
 exact this
end Go.Proofs.YtgplnekpgdhcpaaGreat
namespace Go.Proofs.YtgplnekpgdhcpaaGreat
open Go.RowKit Go.Maps
structure Sound (X:List It):Prop where
 len:X.length<=60
 ok:∀ i,i < X.length->okIt X i=true
 fnd:∀ i,i < X.length->∀ k,k < (X.getD i default).ps.length->((X.getD i default).ps.getD k default).1∈codes X
 rnd:∀ c∈codes X,tellX X c≠0
 dp:∀ c∈codes X,tellX X c<=8
theorem sound_of {X:List It} (h:chkE X=0):Sound X:=by
 unfold chkE at h
 split at h
 ·cases h
 ·rename_i h1
  split at h
  ·cases h
  ·rename_i h2
   split at h
   ·cases h
   ·rename_i h3
    split at h
    ·cases h
    ·rename_i h4
     split at h
     ·cases h
     ·rename_i h5
      have a2:allOk X=true:=by cases e:allOk X with | true=>rfl | false=>exact absurd e h2
      have a3:found X=true:=by cases e:found X with | true=>rfl | false=>exact absurd e h3
      refine⟨by omega,of_decide_eq_true a2,of_decide_eq_true a3,fun c hc e=>h4 ?_,fun c hc=>?_⟩
      ·obtain⟨i,hi,-,rfl⟩:=there hc
       exact decide_eq_true ⟨i,hi,e⟩
      ·obtain⟨i,hi,-,rfl⟩:=there hc
       apply Classical.byContradiction
       intro hn
       exact h5 (decide_eq_true ⟨i,hi,by omega⟩)
theorem Sound.nd {X:List It} (h:Sound X):(codes X).Nodup:=codes_nodup h.ok
theorem Sound.kids {X:List It} (h:Sound X):∀ c∈codes X,∀ p∈kidsX X c,p∈codes X:=found_kids h.nd h.fnd
theorem Sound.ne {X:List It} (h:Sound X):∀ x∈X,x.code≠[]:=code_ne h.ok
theorem Sound.k8 {X:List It} (h:Sound X):∀ c∈codes X,(kidsX X c).length<=8:=fun c hc=>by
 obtain⟨i,hi,-,rfl⟩:=there hc
 rw[kids_cd h.nd hi,List.length_map]
 have h1:=(okIt_parts (h.ok i hi)).2.2
 unfold okShape at h1
 split at h1
 ·omega
 ·rw[Bool.and_eq_true,decide_eq_true_eq] at h1
  exact h1.1.2
end Go.Proofs.YtgplnekpgdhcpaaGreat
namespace Go.Proofs.YtgplnekpgdhcpaaGreat
open Go.RowKit Go.Shelf Go.Lib
theorem grow_any (n:Nat) (w:World) (hn:n<=1048576) :
  Calls Tryz.prog 159 #[.slice none 0 0,.int .i64 n] w fun e w'=>∃ a c,e = .returned (.slice a 0 c)/\OP w.heap.size w' (.slice a 0 c) []/\Below w.heap.size w w':=by
 rcases Nat.eq_zero_or_pos n with rfl | h0
 ·have h:=Any8.slices_Grow_room Tryz.growP none 0 0 0 w (by omega) (by omega) (by omega) (by omega)
  exact h.mono fun e w' ⟨he,hw⟩=>⟨none,0,he,hw ▸ OP.nil _ _,hw ▸ Below.refl _ _⟩
 ·obtain⟨i0,hi,hz0,hz1,hz2⟩:=info_parts Tryz.infoPart
  have h:=Any8.slices_Grow_grow Tryz.growP i0 _ hi hz0 (by rw[hz1];decide) none 0 0 n [] w (by omega) (by omega) (by rw[hz2];omega) (by omega) (by simp) (fun _=>rfl) (fun a ha=>by cases ha)
  refine h.mono fun e w' ⟨he,hw⟩=>⟨_,_,he,?_,?_⟩
  ·have hG:0+n<=grownCap w (0+n) 0 74:=grownCap_ge w _ _ _
   have hm:grownCap w (0+n) 0 74<=maxLen:=grownCap_le_maxLen w (0+n) 0 _ (by unfold maxLen;omega)
   rw[hw]
   refine⟨rfl,.inr ⟨w.heap.size,_,_,rfl,Nat.le_refl _,heap_alloc_new w.drew _,Nat.zero_le _,hm,?_,by simp[cellsP]⟩⟩
   simp only[Array.size_append,List.size_toArray,size_zeroCells,List.length_nil]
   have e:((Value.agg #[.string ByteArray.empty,.int .i64 0]).cells).size=2:=rfl
   rw[e]
   change 0+(0+n - 0) * 2+(grownCap w (0+n) 0 74 - (0+n)) * 2=grownCap w (0+n) 0 74 * 2
   omega
  ·rw[hw]
   exact ((Below.refl _ _).drew).alloc (Nat.le_refl _) _
structure PV where
 a:Option Addr
 n:Nat
 c:Nat
 P:List Pt
instance:Inhabited PV:=⟨⟨none,0,0,[]⟩⟩
def flatV (V:List PV):List Pt:=V.flatMap (·.P)
structure RV (B:Nat) (w:World) (a:Option Addr) (n c:Nat) (V:List PV):Prop where
 len:n=V.length
 le:n<=c
 mx:c<=9223372036854775807
 at_:0 < c->∃ b o,a=some ⟨b,o,none⟩/\b < B/\∀ i,i < n->w.cell? ⟨b,o+i,none⟩=some (.slice (V.getD i default).a (V.getD i default).n (V.getD i default).c)
 each:∀ i,i < n->RP B w (V.getD i default).a (V.getD i default).n (V.getD i default).c (V.getD i default).P
theorem RV.below {B:Nat} {w w':World} {a:Option Addr} {n c:Nat} {V:List PV} (h:RV B w a n c V) (hb:Below B w w'):RV B w' a n c V:=by
 refine⟨h.len,h.le,h.mx,fun hc=>?_,fun i hi=>(h.each i hi).below hb⟩
 obtain⟨b,o,e,hB,hcell⟩:=h.at_ hc
 exact⟨b,o,e,hB,fun i hi=>(hb.cell hB).trans (hcell i hi)⟩
theorem flatV_take {V:List PV} {i:Nat} (h:i < V.length):flatV (V.take (i+1))=flatV (V.take i) ++ (V.getD i default).P:=by
 unfold flatV
 rw[List.take_succ_eq_append_getElem h,List.flatMap_append,List.getD_eq_getElem?_getD,List.getElem?_eq_getElem h]
 simp
theorem flatV_le (V:List PV) (i:Nat):(flatV (V.take i)).length<=(flatV V).length:=by
 conv=>rhs;rw[<- List.take_append_drop i V]
 unfold flatV
 rw[List.flatMap_append,List.length_append]
 omega
set_option maxHeartbeats 2000000 in
theorem Concat_any (B:Nat) (a:Option Addr) (n c:Nat) (V:List PV) (w:World) (hl:RV B w a n c V) (hB:B<=w.heap.size) (htot:(flatV V).length<=1048576) :
  Calls Tryz.prog 131 #[.slice a n c] w fun e w'=>∃ a' c',e = .returned (.slice a' (flatV V).length c')/\OP w.heap.size w' (.slice a' (flatV V).length c') (flatV V)/\Below w.heap.size w w':=by
 have hle:=hl.le;have hmx:=hl.mx
 have Hln:=Lib.hid hl.len
 have HR:=Lib.hid hl
 have hle2:=flatV_le V
 have Hle:=Lib.hid hle2
 clear hle2 hl
 go_enter Tryz.func131,Tryz.ntmps131
 go_wp2_with (fail)
 go_loop [3,11] (fun s t=>∃ (i m:Nat),s = .int .i64 m/\t = .int .i64 i/\i<=n/\m<=1048576/\Hid (m=(flatV (V.take i)).length)) (fun _ t=>n - (intOf t).toNat)
 case atStart=>exact⟨0,0,rfl,rfl,by omega,by omega,Lib.hid (by simp[flatV])⟩
 case round =>
  obtain⟨i,m,rfl,rfl,hi,hm,ht⟩:=hrel
  by_cases hin:i < n
  ·obtain⟨b,o,rfl,hbB,hc⟩:=HR.out.at_ (by omega)
   have g:=hc i hin
   have hp:=HR.out.each i hin
   have hf:=flatV_take (V:=V) (i:=i) (by have:=Hln.out;omega)
   have hf2:=Hle.out (i+1)
   have hpl:=hp.len
   have hple:=hp.le
   have hpmx:=hp.mx
   clear hc hp
   generalize V.getD i default=p at g hf hpl hple hpmx
   obtain⟨pa,pn,pc,P⟩:=p
   simp only at g hpl hple hpmx
   have hm2:m+pn<=1048576:=by have:=ht.out;rw[hf,List.length_append] at hf2;simp only at hf2;omega
   have ht2:=Lib.hid (show m+pn=(flatV (V.take (i+1))).length by rw[hf,List.length_append,<- ht.out];simp only;omega)
   have hw1:=wrap_in (x:=(m:Int)+(pn:Int)) (by omega) (by omega)
   clear hf hf2 hpl
   go_wp2_with (fail)
   go_round
   case rel=>exact⟨i+1,m+pn,by simp,by simp,by omega,hm2,ht2⟩
   case measure=>simp[intOf];omega
  ·have ei:i=V.length:=by have:=Hln.out;omega
   have HM:=Lib.hid (show m=(flatV V).length by rw[ht.out,ei,List.take_length])
   have hg:=fun w=>grow_any m w hm
   go_wp2_with (go_at_call 159;refine (hg _).mono ?_;rintro e w1 ⟨a1,c1,rfl,ho1,hb1⟩)
   have Ho1:=Lib.hid ho1
   have Hb1:=Lib.hid hb1
   clear ho1 hb1 hg ei
   go_loopw [6,27] (fun s t wr=>∃ (j:Nat) (a':Option Addr) (c':Nat),s = .slice a' (flatV (V.take j)).length c'/\t = .int .i64 j/\j<=n/\Hid (OP w.heap.size wr (.slice a' (flatV (V.take j)).length c') (flatV (V.take j)))/\Hid (Below w.heap.size w wr)) (fun _ t _=>n - (intOf t).toNat)
   case atStart=>exact⟨0,a1,c1,by simp[flatV],rfl,by omega,by simpa [flatV] using Ho1,Hb1⟩
   case round =>
    obtain⟨j,a2,c2,rfl,rfl,hj,ho2,hb2⟩:=hrel
    by_cases hjn:j < n
    ·have hRw:=HR.out.below (hb2.out.mono hB)
     obtain⟨b,o,rfl,hbB,hc⟩:=hRw.at_ (by omega)
     have g:=hc j hjn
     have hp:=hRw.each j hjn
     have hf:=flatV_take (V:=V) (i:=j) (by have:=Hln.out;omega)
     have hf2:=Hle.out (j+1)
     have hpl:=hp.len
     have hple:=hp.le
     have hpmx:=hp.mx
     have HP:=Lib.hid hp
     clear hc hp hRw
     have hq0:=Hle.out j
     generalize V.getD j default=p at g hf hpl hple hpmx HP
     obtain⟨pa,pn,pc,P⟩:=p
     simp only at g hpl hple hpmx HP hf
     have hlen:(flatV (V.take j)).length+P.length<=1048576:=by rw[hf,List.length_append] at hf2;omega
     have Hf:=Lib.hid hf
     subst hpl
     generalize flatV (V.take j)=Q at Hf ho2 hlen
     clear hf hf2 hq0
     go_wp2_with (at_builtin;refine wpList_append_parts rfl _ _ rfl w.heap.size (.slice a2 Q.length c2) Q P rfl ho2.out pa pc rfl HP.out.src hb2.out.size (by omega) ?_;intro a3 c3 w3 ho3 hg3)
     go_round
     case rel =>
      refine⟨j+1,a3,c3,?_,by simp,by omega,?_,Lib.hid (hb2.out.grown hg3 hb2.out.size (fun k hk=>(ho2.out.ge k hk).1))⟩
      ·rw[Hf.out,List.length_append]
      ·rw[Hf.out];exact Lib.hid ho3
     case measure=>simp[intOf];omega
    ·have ej:j=V.length:=by have:=Hln.out;omega
     have ef:flatV (V.take j)=flatV V:=by rw[ej,List.take_length]
     rw[ef] at ho2 ⊢
     go_wp2_with (fail)
     go_ret
     exact⟨a2,c2,rfl,ho2.out,hb2.out⟩
end Go.Proofs.YtgplnekpgdhcpaaGreat
namespace Go.Proofs.YtgplnekpgdhcpaaGreat
open Go.Maps
def MapIs {H:Type} (D:DataW H) (S:List Pt):Prop:=IsMap D/\(∀ k,D.atKey (.string k) (.lit (.int .i64 0)) = .lit (.int .i64 (sumAt S k)))/\∀ k,Maps.has D (.string k)=true↔k∈S.map (·.1)
theorem MapIs.start {H:Type}:MapIs (.map []:DataW H) []:=⟨isMap_empty,fun k=>rfl,fun k=>by simp[Maps.has]⟩
theorem MapIs.put {H:Type} {D:DataW H} {S:List Pt} (h:MapIs D S) (hu:Up S) (k:List UInt8) (n:Int):MapIs (D.put (.string k) (.lit (.int .i64 n))) (setAt S k n):=by
 obtain⟨h1,h2,h3⟩:=h
 have hk:WideAt.IsKeyLit (.string k):=by trivial
 refine⟨h1.put _ _,fun k'=>?_,fun k'=>?_⟩
 ·rw[sumAt_set k n k' hu]
  by_cases e:k'=k
  ·subst e
   rw[if_pos rfl,atKey_put_same h1 hk]
  ·rw[if_neg e,atKey_put_other (fun e2=>e (by cases e2;rfl)),h2]
 ·rw[keys_set]
  by_cases e:k'=k
  ·subst e
   simp[has_put_same h1 hk]
  ·rw[has_put_other (fun e2=>e (by cases e2;rfl)),h3]
   simp[e]
def Got {H:Type} (D:DataW H) (S:List Pt) (left:Lit->Bool) (out:List Pt):Prop:=Collected D left (out.map (·.1))/\∀ p∈out,p.2=sumAt S p.1
theorem Got.start {H:Type} (D:DataW H) (S:List Pt):Got D S (Maps.has D) []:=⟨Collected.start D,fun p hp=>by cases hp⟩
theorem Got.step {H:Type} {D:DataW H} {S:List Pt} {left:Lit->Bool} {out:List Pt} (h:Got D S left out) (hD:MapIs D S) {x:List UInt8} {c:Int} (hl:left (.string x)=true) (hat:∀ zd,D.atKey (.string x) zd = .lit (.int .i64 c)) :
  Got D S (fun z=>left z && !z.sameKey (.string x)) (out ++ [(x,c)]):=by
 have e:c=sumAt S x:=by
  have h1:=hat (.lit (.int .i64 0))
  rw[hD.2.1 x] at h1
  cases h1;rfl
 refine⟨?_,fun p hp=>?_⟩
 ·rw[List.map_append]
  exact h.1.step hl hat
 ·rcases List.mem_append.1 hp with hp | hp
  ·exact h.2 p hp
  ·rw[List.mem_singleton.1 hp];exact e
theorem Got.done {H:Type} {D:DataW H} {S:List Pt} {left:Lit->Bool} {out:List Pt} (h:Got D S left out) (hD:MapIs D S) (hu:Up S) (hl:∀ kl,left kl=false):out.Perm S:=by
 refine hu.perm h.1.1 (fun k=>?_) h.2
 rw[h.1.2 k,hl,<- hD.2.2 k]
 simp
end Go.Proofs.YtgplnekpgdhcpaaGreat
