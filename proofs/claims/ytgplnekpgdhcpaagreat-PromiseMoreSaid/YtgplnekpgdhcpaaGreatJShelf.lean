/- slices.SortStableFunc at api.Lot: slices.symMergeCmpFunc. (Printed by gen/sorts.py.) The blocks of the library's stable sort: plain Lean. The library's functions that the walks reach, laid at this program: bits.Len, Mul64, strings.Compare, slices.SortFunc, slices.Grow (written by the kit's lay-shelf.mjs and lay-plain.mjs). -/
import Derived.Test.YtgplnekpgdhcpaaGreatQSmLB
import Derived.Test.YtgplnekpgdhcpaaGreatQSmLC
import Derived.Test.YtgplnekpgdhcpaaGreatQMerge
import Derived.Shelf.Small.Bits
import Derived.Shelf.Small.Strs
import Derived.Shelf.Small.Wraps
import Derived.Shelf.Strconv.Itoa0
import Derived.Shelf.Sort.Plain
import Derived.Shelf.Bits.Mul64
import Derived.Shelf.Slices.CompactI
import Derived.Shelf.Slices.CompactS
import Derived.Shelf.Slices.SearchI
import Derived.Shelf.Slices.Cells
import Derived.Shelf.Slices.In.SortNone
import Derived.Shelf.SlSortCmp.Insertion
import Derived.Shelf.SlSortCmp.Insertion1
import Derived.Shelf.SlSortCmp.InsertionK
import Derived.Shelf.SlSortCmp.NoneTotal
import Derived.Shelf.SlSortCmp.Whole1
import Derived.Shelf.Lays8
import Derived.Shelf.SlLaysF0
import Derived.Shelf.Lays2
import Derived.Shelf.SlLaysF
import Derived.Shelf.SlLaysH0
import Derived.Test.YtgplnekpgdhcpaaGreatProg
namespace Go.Proofs.YtgplnekpgdhcpaaGreat
open Go.Proofs Go.Shelf Go.RowKit Go.Lib Go.Sort
section
variable {P:Program} {α:Type} [Inhabited α]
theorem symMergeL (k:Nat) (L:StL P k) (enc:α->List Value) (cf:α->α->Int) (T:α->α->Bool) (hT:SWO T) (g:Nat) (cb:Array Value) (blk off cap sz:Nat) (d0:Array α) (w0:World)
  (eg:∀ args w,(callFunc g args).run P w = .ok (.enter g args) w) (hcmp:CmpLays P g cb enc k cf blk off d0.size w0) (R:RowK enc k w0 blk off d0) (h0:d0.size=sz) (hsz:sz < 4611686018427387904) :
  ∀ (N a m b:Nat) (d:Array α) (w:World),b<=N+a->d.size=sz->SWK enc k w0 blk off d w->a < m->m < b->b<=sz->SM (ltOf cf) T a m b d ->
  Calls P 178 #[.slice (some ⟨blk,off,none⟩) sz cap,.int .i64 a,.int .i64 m,.int .i64 b,.func (.func g) #[] cb] w fun e w'=>e = .returned (.tuple #[])/\∃ d',d'.size=sz/\SWK enc k w0 blk off d' w'/\PermIn a b d d'/\SortedIn T a b d'
 | 0,a,m,b,d,w,hN,hs,S,ham,hmb,hb,hSM=>by omega
 | N+1,a,m,b,d,w,hN,hs,S,ham,hmb,hb,hSM=>by
  by_cases h1:m=a+1
  ·exact symMergeLA k L enc cf T hT g cb blk off cap sz d0 w0 eg hcmp R h0 hsz a m b d w hs S ham hmb hb hSM h1
  ·by_cases h2:b=m+1
   ·exact symMergeLB k L enc cf T hT g cb blk off cap sz d0 w0 eg hcmp R h0 hsz a m b d w hs S ham hmb hb hSM (by omega) h2
   ·exact symMergeLC k L enc cf T hT g cb blk off cap sz d0 w0 eg hcmp R h0 hsz a m b d w hs S ham hmb hb hSM (by omega) (by omega) N hN (symMergeL k L enc cf T hT g cb blk off cap sz d0 w0 eg hcmp R h0 hsz N)
end
end Go.Proofs.YtgplnekpgdhcpaaGreat
namespace Go.Proofs.YtgplnekpgdhcpaaGreat
open Go.Sort
section
variable {α:Type} [Inhabited α] {lt T:α->α->Bool}
def Compat (lt T:α->α->Bool) (a b:Nat) (d:Array α):Prop:=∀ i j,a<=i->i < j->j < b->lt d[j]! d[i]! = T d[j]! d[i]!
theorem insInner_same (a:Nat):∀ (j:Nat) (d:Array α),j < d.size->(∀ p,a<=p->p < j->lt d[j]! d[p]! = T d[j]! d[p]!)->insInner lt a j d=insInner T a j d
 | 0,d,_,_=>by unfold insInner;rfl
 | j+1,d,hj,h=>by
  unfold insInner
  by_cases ha:a<=j
  ·rw[h j ha (by omega)]
   split
   ·refine insInner_same a j _ (by rw[swp_size];omega) fun p h1 h2=>?_
    rw[swp_at d hj (by omega),swp_at d hj (by omega),if_neg (by omega),if_pos rfl,if_neg (by omega),if_neg (by omega)]
    exact h p h1 (by omega)
   ·rfl
  ·rw[show decide (j+1 > a)=false from decide_eq_false (by omega)]
   simp
theorem insOuter_same (hT:SWO T) (a b:Nat) (d:Array α) (hb:b<=d.size) (hc:Compat lt T a b d):∀ (n i:Nat) (dk:Array α),b - i=n->a < i->i<=b->PermIn a i d dk->SortedIn T a i dk->insOuter lt a b i dk=insOuter T a b i dk
 | 0,i,dk,hn,hai,hib,hp,hs=>by
  rw[insOuter,if_neg (by omega),insOuter,if_neg (by omega)]
 | n+1,i,dk,hn,hai,hib,hp,hs=>by
  have hlt:i < b:=by omega
  have hsz:=hp.1
  have e:insInner lt a i dk=insInner T a i dk:=by
   refine insInner_same a i dk (by omega) fun p h1 h2=>?_
   rw[hp.2.1 i (.inr (Nat.le_refl _))]
   exact permIn_all d dk a i (fun v=>lt d[i]! v=T d[i]! v) (by omega) hp (fun q h3 h4=>hc q i h3 h4 hlt) p h1 h2
  rw[insOuter.eq_1 lt a b i dk,if_pos hlt,insOuter.eq_1 T a b i dk,if_pos hlt,e]
  have h1:=insInner_spec hT swp_permIn permIn_refl permIn_trans a (i+1) i (by omega) i dk (by omega) (Nat.le_refl _) (by omega) ⟨fun p q hap hpq hqi _ hq=>hs p q hap hpq (by omega),fun q h1 h2=>by omega⟩
  exact insOuter_same hT a b d hb hc n (i+1) _ (by omega) (by omega) (by omega) (permIn_trans _ _ _ _ _ (permIn_mono _ _ _ _ _ _ (Nat.le_refl _) (by omega) (by omega) hp) h1.1) h1.2
theorem ins_block (hT:SWO T) {a b:Nat} {d:Array α} (hab:a<=b) (hb:b<=d.size) (hc:Compat lt T a b d):PermIn a b d (insertionSort lt d a b)/\SortedIn T a b (insertionSort lt d a b):=by
 have e:insertionSort lt d a b=insertionSort T d a b:=by
  unfold insertionSort
  by_cases h:a+1<=b
  ·exact insOuter_same hT a b d hb hc _ (a+1) d rfl (by omega) h (permIn_refl _ _ _) (fun i j h1 h2 h3=>by omega)
  ·rw[insOuter,if_neg (by omega),insOuter,if_neg (by omega)]
 rw[e]
 exact insertionSort_holds hT d a b hab hb
def Good (T:α->α->Bool) (d dk:Array α) (a b:Nat):Prop:=(dk.extract a b).toList.Perm (d.extract a b).toList/\SortedIn T a b dk
theorem Good.congr {d dk dk':Array α} {a b:Nat} (h:Good T d dk a b) (hb:b<=dk.size) (hs:dk'.size=dk.size) (he:∀ x,a<=x->x < b->dk'[x]! = dk[x]!):Good T d dk' a b:=by
 obtain⟨h1,h2⟩:=h
 refine⟨?_,fun i j k1 k2 k3=>?_⟩
 ·rw[extract_toList dk' a b (by omega)]
  rw[extract_toList dk a b hb] at h1
  have:(List.range' a (b - a)).map (fun i=>dk'[i]!)=(List.range' a (b - a)).map (fun i=>dk[i]!):=List.map_congr_left fun x hx=>by
   rw[List.mem_range'_1] at hx
   exact he x hx.1 (by omega)
  rw[this]
  exact h1
 ·rw[he i (by omega) (by omega),he j (by omega) k3]
  exact h2 i j k1 k2 k3
theorem Good.mem {d dk:Array α} {a b:Nat} (h:Good T d dk a b) (hb:b<=dk.size) (hb2:b<=d.size) {x:Nat} (h1:a<=x) (h2:x < b):∃ y,a<=y/\y < b/\dk[x]! = d[y]!:=by
 obtain⟨h3,-⟩:=h
 rw[extract_toList dk a b hb,extract_toList d a b hb2] at h3
 have:dk[x]!∈(List.range' a (b - a)).map (fun i=>dk[i]!):=List.mem_map.2 ⟨x,List.mem_range'_1.2 ⟨h1,by omega⟩,rfl⟩
 obtain⟨y,hy,e⟩:=List.mem_map.1 (h3.mem_iff.1 this)
 rw[List.mem_range'_1] at hy
 exact⟨y,hy.1,by omega,e.symm⟩
theorem extract_split (d:Array α) {a m b:Nat} (h1:a<=m) (h2:m<=b) (hb:b<=d.size):(d.extract a b).toList=(d.extract a m).toList ++ (d.extract m b).toList:=by
 rw[extract_toList d a b hb,extract_toList d a m (by omega),extract_toList d m b hb,<- List.map_append,show b - a=(m - a)+(b - m) by omega]
 congr 1
 have:=List.range'_append (s:=a) (m:=m - a) (n:=b - m) (step:=1)
 rw[Nat.one_mul,show a+(m - a)=m by omega] at this
 exact this.symm
theorem Good.sm {d dk:Array α} {a m b:Nat} (h1:Good T d dk a m) (h2:Good T d dk m b) (hc:Compat lt T a b d) (hb:b<=dk.size) (hb2:b<=d.size):SM lt T a m b dk :=
 ⟨h1.2,h2.2,fun i j k1 k2 k3 k4=>by
  obtain⟨x,x1,x2,x3⟩:=h1.mem (by omega) (by omega) k1 k2
  obtain⟨y,y1,y2,y3⟩:=h2.mem hb hb2 k3 k4
  rw[x3,y3]
  exact hc x y x1 (by omega) y2⟩
theorem Good.merged {d dk dk':Array α} {a m b:Nat} (h1:Good T d dk a m) (h2:Good T d dk m b) (ham:a<=m) (hmb:m<=b) (hb:b<=dk.size) (hb2:b<=d.size) (hp:PermIn a b dk dk') (hs:SortedIn T a b dk'):Good T d dk' a b:=by
 refine⟨hp.2.2.trans ?_,hs⟩
 rw[extract_split dk ham hmb hb,extract_split d ham hmb hb2]
 exact h1.1.append h2.1
structure First (T:α->α->Bool) (d dk:Array α) (bs p:Nat):Prop where
 size:dk.size=d.size
 done:∀ q,q < p->Good T d dk (q * bs) (q * bs+bs)
 rest:∀ x,p * bs<=x->dk[x]! = d[x]!
structure All (T:α->α->Bool) (d dk:Array α) (bs:Nat):Prop where
 size:dk.size=d.size
 done:∀ q,q * bs < d.size->Good T d dk (q * bs) (min (q * bs+bs) d.size)
theorem mul_lt {q p bs:Nat} (h:q < p):q * bs+bs<=p * bs:=by
 have:=Nat.mul_le_mul_right bs (show q+1<=p from h)
 rwa [Nat.add_mul,Nat.one_mul] at this
theorem good_start (T:α->α->Bool) (d:Array α) {dk dk':Array α} {a b:Nat} (he:∀ x,a<=x->dk[x]! = d[x]!) (hs:dk.size=d.size) (hb:b<=d.size) (hp:PermIn a b dk dk') (hso:SortedIn T a b dk'):Good T d dk' a b:=by
 refine⟨hp.2.2.trans ?_,hso⟩
 rw[extract_toList dk a b (by omega),extract_toList d a b hb]
 have:(List.range' a (b - a)).map (fun i=>dk[i]!)=(List.range' a (b - a)).map (fun i=>d[i]!):=List.map_congr_left fun x hx=>by
  rw[List.mem_range'_1] at hx
  exact he x hx.1
 rw[this]
theorem First.start (T:α->α->Bool) (d:Array α) (bs:Nat):First T d d bs 0:=⟨rfl,fun q h=>by omega,fun _ _=>rfl⟩
theorem First.compat {d dk:Array α} {bs p a b:Nat} (h:First T d dk bs p) (hc:Compat lt T 0 d.size d) (ha:p * bs<=a) (hb:b<=d.size):Compat lt T a b dk:=fun i j h1 h2 h3=>by
 rw[h.rest i (by omega),h.rest j (by omega)]
 exact hc i j (Nat.zero_le _) h2 (by omega)
theorem First.step {d dk dk':Array α} {bs p:Nat} (h:First T d dk bs p) (hb:p * bs+bs<=d.size) (hp:PermIn (p * bs) (p * bs+bs) dk dk') (hs:SortedIn T (p * bs) (p * bs+bs) dk'):First T d dk' bs (p+1):=by
 refine⟨hp.1.trans h.size,fun q hq=>?_,fun x hx=>?_⟩
 ·rcases Nat.lt_or_ge q p with hlt | hge
  ·have:=mul_lt (bs:=bs) hlt
   exact (h.done q hlt).congr (by rw[h.size];omega) hp.1 fun x h1 h2=>hp.2.1 x (.inl (by omega))
  ·rw[show q=p by omega]
   exact good_start T d h.rest h.size hb hp hs
 ·rw[Nat.add_mul,Nat.one_mul] at hx
  rw[hp.2.1 x (.inr hx)]
  exact h.rest x (by omega)
theorem First.all {d dk dk':Array α} {bs p:Nat} (h:First T d dk bs p) (h1:p * bs<=d.size) (h2:d.size < p * bs+bs) (hp:PermIn (p * bs) d.size dk dk') (hs:SortedIn T (p * bs) d.size dk'):All T d dk' bs:=by
 refine⟨hp.1.trans h.size,fun q hq=>?_⟩
 rcases Nat.lt_or_ge q p with hlt | hge
 ·have:=mul_lt (bs:=bs) hlt
  rw[show min (q * bs+bs) d.size=q * bs+bs by omega]
  exact (h.done q hlt).congr (by rw[h.size];omega) hp.1 fun x h3 h4=>hp.2.1 x (.inl (by omega))
 ·have hqp:q=p:=by
   rcases Nat.lt_or_ge p q with h5 | h5
   ·have:=mul_lt (bs:=bs) h5;omega
   ·omega
  subst hqp
  rw[show min (q * bs+bs) d.size=d.size by omega]
  exact good_start T d h.rest h.size (Nat.le_refl _) hp hs
structure Pairs (T:α->α->Bool) (d dk:Array α) (bs p:Nat):Prop where
 size:dk.size=d.size
 done:∀ q,q < p->Good T d dk (q * (2 * bs)) (q * (2 * bs)+2 * bs)
 rest:∀ q,p * (2 * bs)<=q * bs->q * bs < d.size->Good T d dk (q * bs) (min (q * bs+bs) d.size)
theorem All.pairs {d dk:Array α} {bs:Nat} (h:All T d dk bs):Pairs T d dk bs 0:=⟨h.size,fun q h=>by omega,fun q _ h2=>h.done q h2⟩
theorem Pairs.first {d dk:Array α} {bs p:Nat} (h:Pairs T d dk bs p) (hbs:0 < bs) (hb:p * (2 * bs)+bs<=d.size):Good T d dk (p * (2 * bs)) (p * (2 * bs)+bs):=by
 have e:p * (2 * bs)=(2 * p) * bs:=by rw[Nat.mul_left_comm,Nat.mul_assoc]
 have:=h.rest (2 * p) (by rw[e];exact Nat.le_refl _) (by rw[<- e];omega)
 rw[<- e,show min (p * (2 * bs)+bs) d.size=p * (2 * bs)+bs by omega] at this
 exact this
theorem Pairs.last {d dk:Array α} {bs p:Nat} (h:Pairs T d dk bs p) (hbs:0 < bs) (hb:p * (2 * bs)+bs < d.size):Good T d dk (p * (2 * bs)+bs) (min (p * (2 * bs)+2 * bs) d.size):=by
 have e:p * (2 * bs)+bs=(2 * p+1) * bs:=by rw[Nat.add_mul,Nat.one_mul,Nat.mul_assoc,Nat.mul_left_comm]
 have:=h.rest (2 * p+1) (by rw[<- e];omega) (by rw[<- e];omega)
 rw[<- e,show min (p * (2 * bs)+bs+bs) d.size=min (p * (2 * bs)+2 * bs) d.size by omega] at this
 exact this
theorem Pairs.step {d dk dk':Array α} {bs p:Nat} (h:Pairs T d dk bs p) (hbs:0 < bs) (hb:p * (2 * bs)+2 * bs<=d.size) (hp:PermIn (p * (2 * bs)) (p * (2 * bs)+2 * bs) dk dk') (hs:SortedIn T (p * (2 * bs)) (p * (2 * bs)+2 * bs) dk'):Pairs T d dk' bs (p+1):=by
 refine⟨hp.1.trans h.size,fun q hq=>?_,fun q h1 h2=>?_⟩
 ·rcases Nat.lt_or_ge q p with hlt | hge
  ·have:=mul_lt (bs:=2 * bs) hlt
   exact (h.done q hlt).congr (by rw[h.size];omega) hp.1 fun x h3 h4=>hp.2.1 x (.inl (by omega))
  ·rw[show q=p by omega]
   have k:=h.last hbs (by omega)
   rw[show min (p * (2 * bs)+2 * bs) d.size=p * (2 * bs)+2 * bs by omega] at k
   exact (h.first hbs (by omega)).merged k (by omega) (by omega) (by rw[h.size];exact hb) hb hp hs
 ·rw[Nat.add_mul,Nat.one_mul] at h1
  exact (h.rest q (by omega) h2).congr (by rw[h.size];omega) hp.1 fun x h3 h4=>hp.2.1 x (.inr (by omega))
theorem all_of {d dk:Array α} {B p:Nat} (hsz:dk.size=d.size) (hd:∀ q,q < p->Good T d dk (q * B) (q * B+B)) (h1:p * B<=d.size) (h2:d.size < p * B+B) (hg:p * B < d.size->Good T d dk (p * B) d.size):All T d dk B:=by
 refine⟨hsz,fun q hq=>?_⟩
 rcases Nat.lt_or_ge q p with hlt | hge
 ·have:=mul_lt (bs:=B) hlt
  rw[show min (q * B+B) d.size=q * B+B by omega]
  exact hd q hlt
 ·have hqp:q=p:=by
   rcases Nat.lt_or_ge p q with h5 | h5
   ·have:=mul_lt (bs:=B) h5;omega
   ·omega
  subst hqp
  rw[show min (q * B+B) d.size=d.size by omega]
  exact hg hq
theorem Pairs.end1 {d dk:Array α} {bs p:Nat} (h:Pairs T d dk bs p) (hbs:0 < bs) (h1:p * (2 * bs)<=d.size) (h2:d.size<=p * (2 * bs)+bs):All T d dk (2 * bs) :=
 all_of h.size h.done h1 (by omega) fun hlt=>by
  have e:p * (2 * bs)=(2 * p) * bs:=by rw[Nat.mul_left_comm,Nat.mul_assoc]
  have:=h.rest (2 * p) (by rw[e];exact Nat.le_refl _) (by rw[<- e];exact hlt)
  rw[<- e,show min (p * (2 * bs)+bs) d.size=d.size by omega] at this
  exact this
theorem Pairs.end2 {d dk dk':Array α} {bs p:Nat} (h:Pairs T d dk bs p) (hbs:0 < bs) (h1:p * (2 * bs)+bs < d.size) (h2:d.size < p * (2 * bs)+2 * bs) (hp:PermIn (p * (2 * bs)) d.size dk dk') (hs:SortedIn T (p * (2 * bs)) d.size dk'):All T d dk' (2 * bs) :=
 all_of (hp.1.trans h.size) (fun q hq=>by
  have:=mul_lt (bs:=2 * bs) hq
  exact (h.done q hq).congr (by rw[h.size];omega) hp.1 fun x h3 h4=>hp.2.1 x (.inl (by omega))) (by omega) h2 fun _=>by
  have k:=h.last hbs h1
  rw[show min (p * (2 * bs)+2 * bs) d.size=d.size by omega] at k
  exact (h.first hbs (by omega)).merged k (by omega) (by omega) (by rw[h.size];exact Nat.le_refl _) (Nat.le_refl _) hp hs
theorem All.end_ {d dk:Array α} {bs:Nat} (h:All T d dk bs) (hb:d.size<=bs):PermIn 0 d.size d dk/\SortedIn T 0 d.size dk:=by
 rcases Nat.eq_zero_or_pos d.size with h0 | h0
 ·rw[h0]
  refine⟨⟨h.size,fun i _=>?_,?_⟩,fun i j h1 h2 h3=>by omega⟩
  ·rw[getElem!_neg dk i (by have:=h.size;omega),getElem!_neg d i (by omega)]
  ·rw[extract_toList dk 0 0 (by omega),extract_toList d 0 0 (by omega)]
   exact List.Perm.refl _
 ·have:=h.done 0 (by omega)
  rw[Nat.zero_mul,Nat.zero_add,show min bs d.size=d.size by omega] at this
  refine⟨⟨h.size,fun i hi=>?_,this.1⟩,this.2⟩
  have hi2:d.size<=i:=by omega
  rw[getElem!_neg dk i (by have:=h.size;omega),getElem!_neg d i (by omega)]
end
end Go.Proofs.YtgplnekpgdhcpaaGreat
namespace Go.Proofs.YtgplnekpgdhcpaaGreat
open Go.Proofs Go.Shelf
def Tryz.lays213_ren:Go.Shelf.Ren:=⟨fun | 213=>162 | 265=>190 | n=>n,fun | 9=>9 | 3=>3 | n=>n,fun | n=>n⟩
open Go.RowKit in
def Tryz.lays106_ren:Go.Shelf.Ren:=⟨fun | 106=>135 | 213=>162 | 265=>190 | n=>n,fun | 9=>9 | 3=>3 | n=>n,fun | n=>n⟩
theorem Tryz.lays106:Go.Proofs.Lays.n106 Tryz.prog Tryz.lays106_ren:={
 mixed:=by kernel_rfl
 f106:=Tryz.func135.trans (congrArg some (by kernel_rfl))
 f213:=Tryz.func162.trans (congrArg some (by kernel_rfl))
 f265:=Tryz.func190.trans (congrArg some (by kernel_rfl))
 t3:=Tryz.underlying3
 a3:=Tryz.isAgg3
 z3:=Tryz.sizeOf3
 v3:=Tryz.zeroValue3
 t9:=Tryz.underlying9
 a9:=Tryz.isAgg9
 z9:=Tryz.sizeOf9
 v9:=Tryz.zeroValue9 }
open Go.RowKit in
theorem Tryz.strings_Compare (a b:ByteArray) (w:World) :
  Calls Tryz.prog 135 #[.string a,.string b] w fun e w'=>e = .returned (.int .i64 (Lib.compareBytes a.data.toList b.data.toList))/\w'=w:=Any.strings_Compare Tryz.lays106 a b w
def Tryz.lays215_ren:Go.Shelf.Ren:=⟨fun | 215=>128 | n=>n,fun | 3=>3 | 4=>4 | n=>n,fun | n=>n⟩
open Go.RowKit in
open Go.RowKit in
def Tryz.lays189_ren:Go.Shelf.Ren:=⟨fun | 189=>164 | 125=>119 | 257=>192 | 128=>154 | 129=>155 | 294=>200 | 295=>201 | 296=>202 | 297=>203 | 298=>204 | 299=>205 | 216=>206 | 300=>207 | 301=>208 | 328=>212 | 329=>172 | 330=>173 | 331=>213 | 332=>214 | 215=>128 | 343=>215 | n=>n,fun | 28=>119 | 3=>3 | 46=>148 | 0=>0 | 51=>183 | 53=>164 | 4=>4 | 183=>176 | 182=>175 | 131=>68 | 5=>5 | 9=>9 | 218=>196 | 222=>200 | 228=>213 | 229=>214 | n=>n,fun | n=>n⟩
theorem Tryz.lays189:Go.Proofs.Lays.n189 Tryz.prog Tryz.lays189_ren:={
 mixed:=by kernel_rfl
 f125:=Tryz.func119.trans (congrArg some (by kernel_rfl))
 f128:=Tryz.func154.trans (congrArg some (by kernel_rfl))
 f129:=Tryz.func155.trans (congrArg some (by kernel_rfl))
 f189:=Tryz.func164.trans (congrArg some (by kernel_rfl))
 f215:=Tryz.func128.trans (congrArg some (by kernel_rfl))
 f216:=Tryz.func206.trans (congrArg some (by kernel_rfl))
 f257:=Tryz.func192.trans (congrArg some (by kernel_rfl))
 f294:=Tryz.func200.trans (congrArg some (by kernel_rfl))
 f295:=Tryz.func201.trans (congrArg some (by kernel_rfl))
 f296:=Tryz.func202.trans (congrArg some (by kernel_rfl))
 f297:=Tryz.func203.trans (congrArg some (by kernel_rfl))
 f298:=Tryz.func204.trans (congrArg some (by kernel_rfl))
 f299:=Tryz.func205.trans (congrArg some (by kernel_rfl))
 f300:=Tryz.func207.trans (congrArg some (by kernel_rfl))
 f301:=Tryz.func208.trans (congrArg some (by kernel_rfl))
 f328:=Tryz.func212.trans (congrArg some (by kernel_rfl))
 f329:=Tryz.func172.trans (congrArg some (by kernel_rfl))
 f330:=Tryz.func173.trans (congrArg some (by kernel_rfl))
 f331:=Tryz.func213.trans (congrArg some (by kernel_rfl))
 f332:=Tryz.func214.trans (congrArg some (by kernel_rfl))
 f343:=Tryz.func215.trans (congrArg some (by kernel_rfl))
 t0:=Tryz.underlying0
 a0:=Tryz.isAgg0
 z0:=Tryz.sizeOf0
 v0:=Tryz.zeroValue0
 t3:=Tryz.underlying3
 a3:=Tryz.isAgg3
 z3:=Tryz.sizeOf3
 v3:=Tryz.zeroValue3
 t4:=Tryz.underlying4
 a4:=Tryz.isAgg4
 z4:=Tryz.sizeOf4
 v4:=Tryz.zeroValue4
 t5:=Tryz.underlying5
 a5:=Tryz.isAgg5
 z5:=Tryz.sizeOf5
 v5:=Tryz.zeroValue5
 t9:=Tryz.underlying9
 a9:=Tryz.isAgg9
 z9:=Tryz.sizeOf9
 v9:=Tryz.zeroValue9
 t28:=Tryz.underlying119
 a28:=Tryz.isAgg119
 z28:=Tryz.sizeOf119
 v28:=Tryz.zeroValue119
 t46:=Tryz.underlying148
 a46:=Tryz.isAgg148
 z46:=Tryz.sizeOf148
 v46:=Tryz.zeroValue148
 t51:=Tryz.underlying183
 a51:=Tryz.isAgg183
 z51:=Tryz.sizeOf183
 v51:=Tryz.zeroValue183
 t53:=Tryz.underlying164
 a53:=Tryz.isAgg164
 z53:=Tryz.sizeOf164
 v53:=Tryz.zeroValue164
 t131:=Tryz.underlying68
 a131:=Tryz.isAgg68
 z131:=Tryz.sizeOf68
 v131:=Tryz.zeroValue68
 t182:=Tryz.underlying175
 a182:=Tryz.isAgg175
 z182:=Tryz.sizeOf175
 v182:=Tryz.zeroValue175
 t183:=Tryz.underlying176
 a183:=Tryz.isAgg176
 z183:=Tryz.sizeOf176
 v183:=Tryz.zeroValue176
 t218:=Tryz.underlying196
 a218:=Tryz.isAgg196
 z218:=Tryz.sizeOf196
 v218:=Tryz.zeroValue196
 t222:=Tryz.underlying200
 a222:=Tryz.isAgg200
 z222:=Tryz.sizeOf200
 v222:=Tryz.zeroValue200
 t228:=Tryz.underlying213
 a228:=Tryz.isAgg213
 z228:=Tryz.sizeOf213
 v228:=Tryz.zeroValue213
 t229:=Tryz.underlying214
 a229:=Tryz.isAgg214
 z229:=Tryz.sizeOf214
 v229:=Tryz.zeroValue214 }
open Go.Sort Go.RowKit in
theorem Tryz.slices_Sort_int (blk off cap:Nat) (zs:List Int) (w:World) (hH:Holds (Value.int .i64) w blk off zs.toArray) (hblk:blk < w.heap.size) (hsz:zs.length < 4611686018427387904) :
  Calls Tryz.prog 164 #[.slice (some ⟨blk,off,none⟩) zs.length cap] w fun e w' =>
   e = .returned (.tuple #[])/\∃ n os,w'=grow (putRow (Value.int .i64) (Sort.ahead w n) blk off (zs.mergeSort fun x y=>decide (x<=y)).toArray) os:=Any.slices_Sort_int Tryz.lays189 blk off cap zs w hH hblk hsz
def Tryz.lays190_ren:Go.Shelf.Ren:=⟨fun | 190=>86 | 125=>119 | 258=>118 | 128=>154 | 129=>155 | 302=>145 | 303=>146 | 304=>147 | 305=>148 | 306=>149 | 307=>150 | 308=>151 | 309=>152 | 310=>153 | 333=>171 | 329=>172 | 330=>173 | 334=>174 | 335=>175 | 336=>176 | 344=>194 | n=>n,fun | 31=>43 | 9=>9 | 3=>3 | 46=>148 | 0=>0 | 51=>183 | 53=>164 | 4=>4 | 183=>176 | 182=>175 | 131=>68 | 5=>5 | 218=>196 | 222=>200 | 228=>213 | 229=>214 | n=>n,fun | n=>n⟩
theorem Tryz.lays190:Go.Proofs.Lays.n190 Tryz.prog Tryz.lays190_ren:={
 mixed:=by kernel_rfl
 f125:=Tryz.func119.trans (congrArg some (by kernel_rfl))
 f128:=Tryz.func154.trans (congrArg some (by kernel_rfl))
 f129:=Tryz.func155.trans (congrArg some (by kernel_rfl))
 f190:=Tryz.func86.trans (congrArg some (by kernel_rfl))
 f258:=Tryz.func118.trans (congrArg some (by kernel_rfl))
 f302:=Tryz.func145.trans (congrArg some (by kernel_rfl))
 f303:=Tryz.func146.trans (congrArg some (by kernel_rfl))
 f304:=Tryz.func147.trans (congrArg some (by kernel_rfl))
 f305:=Tryz.func148.trans (congrArg some (by kernel_rfl))
 f306:=Tryz.func149.trans (congrArg some (by kernel_rfl))
 f307:=Tryz.func150.trans (congrArg some (by kernel_rfl))
 f308:=Tryz.func151.trans (congrArg some (by kernel_rfl))
 f309:=Tryz.func152.trans (congrArg some (by kernel_rfl))
 f310:=Tryz.func153.trans (congrArg some (by kernel_rfl))
 f329:=Tryz.func172.trans (congrArg some (by kernel_rfl))
 f330:=Tryz.func173.trans (congrArg some (by kernel_rfl))
 f333:=Tryz.func171.trans (congrArg some (by kernel_rfl))
 f334:=Tryz.func174.trans (congrArg some (by kernel_rfl))
 f335:=Tryz.func175.trans (congrArg some (by kernel_rfl))
 f336:=Tryz.func176.trans (congrArg some (by kernel_rfl))
 f344:=Tryz.func194.trans (congrArg some (by kernel_rfl))
 t0:=Tryz.underlying0
 a0:=Tryz.isAgg0
 z0:=Tryz.sizeOf0
 v0:=Tryz.zeroValue0
 t3:=Tryz.underlying3
 a3:=Tryz.isAgg3
 z3:=Tryz.sizeOf3
 v3:=Tryz.zeroValue3
 t4:=Tryz.underlying4
 a4:=Tryz.isAgg4
 z4:=Tryz.sizeOf4
 v4:=Tryz.zeroValue4
 t5:=Tryz.underlying5
 a5:=Tryz.isAgg5
 z5:=Tryz.sizeOf5
 v5:=Tryz.zeroValue5
 t9:=Tryz.underlying9
 a9:=Tryz.isAgg9
 z9:=Tryz.sizeOf9
 v9:=Tryz.zeroValue9
 t31:=Tryz.underlying43
 a31:=Tryz.isAgg43
 z31:=Tryz.sizeOf43
 v31:=Tryz.zeroValue43
 t46:=Tryz.underlying148
 a46:=Tryz.isAgg148
 z46:=Tryz.sizeOf148
 v46:=Tryz.zeroValue148
 t51:=Tryz.underlying183
 a51:=Tryz.isAgg183
 z51:=Tryz.sizeOf183
 v51:=Tryz.zeroValue183
 t53:=Tryz.underlying164
 a53:=Tryz.isAgg164
 z53:=Tryz.sizeOf164
 v53:=Tryz.zeroValue164
 t131:=Tryz.underlying68
 a131:=Tryz.isAgg68
 z131:=Tryz.sizeOf68
 v131:=Tryz.zeroValue68
 t182:=Tryz.underlying175
 a182:=Tryz.isAgg175
 z182:=Tryz.sizeOf175
 v182:=Tryz.zeroValue175
 t183:=Tryz.underlying176
 a183:=Tryz.isAgg176
 z183:=Tryz.sizeOf176
 v183:=Tryz.zeroValue176
 t218:=Tryz.underlying196
 a218:=Tryz.isAgg196
 z218:=Tryz.sizeOf196
 v218:=Tryz.zeroValue196
 t222:=Tryz.underlying200
 a222:=Tryz.isAgg200
 z222:=Tryz.sizeOf200
 v222:=Tryz.zeroValue200
 t228:=Tryz.underlying213
 a228:=Tryz.isAgg213
 z228:=Tryz.sizeOf213
 v228:=Tryz.zeroValue213
 t229:=Tryz.underlying214
 a229:=Tryz.isAgg214
 z229:=Tryz.sizeOf214
 v229:=Tryz.zeroValue214 }
open Go.Sort Go.RowKit in
theorem Tryz.slices_Sort_string (blk off cap:Nat) (ss:List (List UInt8)) (w:World) (hH:Holds encStr w blk off ss.toArray) (hblk:blk < w.heap.size) (hsz:ss.length < 4611686018427387904) :
  Calls Tryz.prog 86 #[.slice (some ⟨blk,off,none⟩) ss.length cap] w fun e w' =>
   e = .returned (.tuple #[])/\∃ n os,w'=grow (putRow encStr (Sort.ahead w n) blk off (ss.mergeSort fun x y=>decide (x<=y)).toArray) os:=Any.slices_Sort_string Tryz.lays190 blk off cap ss w hH hblk hsz
def Tryz.lays264_ren:Go.Shelf.Ren:=⟨fun | 264=>136 | n=>n,fun | 53=>164 | 46=>148 | n=>n,fun | n=>n⟩
theorem Tryz.lays264:Go.Proofs.Lays.n264 Tryz.prog Tryz.lays264_ren:={
 mixed:=by kernel_rfl
 f264:=Tryz.func136.trans (congrArg some (by kernel_rfl))
 t46:=Tryz.underlying148
 a46:=Tryz.isAgg148
 z46:=Tryz.sizeOf148
 v46:=Tryz.zeroValue148
 t53:=Tryz.underlying164
 a53:=Tryz.isAgg164
 z53:=Tryz.sizeOf164
 v53:=Tryz.zeroValue164 }
open Go.RowKit Go.Lib in
theorem Tryz.bits_Mul64 (x y:Nat) (hx:x < 18446744073709551616) (hy:y < 18446744073709551616) (w:World) :
  Calls Tryz.prog 136 #[.int .u64 x,.int .u64 y] w fun e w'=>e = .returned (.tuple #[.int .u64 ((x * y / 18446744073709551616:Nat):Int),.int .u64 ((x * y % 18446744073709551616:Nat):Int)])/\w'=w:=Any.bits_Mul64 Tryz.lays264 x y hx hy w
def Tryz.laysNm220_ren:Go.Shelf.Ren:=⟨fun | 20=>165 | n=>n,fun | 22=>119 | 3=>3 | 4=>4 | 0=>0 | n=>n,fun | n=>n⟩
theorem Tryz.laysNm220:Go.Proofs.Lays2.n20 Tryz.prog Tryz.laysNm220_ren:={
 mixed:=by kernel_rfl
 f20:=Tryz.func165.trans (congrArg some (by kernel_rfl))
 t0:=Tryz.underlying0
 a0:=Tryz.isAgg0
 z0:=Tryz.sizeOf0
 v0:=Tryz.zeroValue0
 t3:=Tryz.underlying3
 a3:=Tryz.isAgg3
 z3:=Tryz.sizeOf3
 v3:=Tryz.zeroValue3
 t4:=Tryz.underlying4
 a4:=Tryz.isAgg4
 z4:=Tryz.sizeOf4
 v4:=Tryz.zeroValue4
 t22:=Tryz.underlying119
 a22:=Tryz.isAgg119
 z22:=Tryz.sizeOf119
 v22:=Tryz.zeroValue119
 i3:=by kernel_rfl }
open Go.RowKit Go.Lib Go.Sort in
open Go.RowKit Go.Lib Go.Sort in
open Go.RowKit Go.Lib Go.Sort in
def Tryz.lays194_ren:Go.Shelf.Ren:=⟨fun | 194=>87 | n=>n,fun | 31=>43 | 9=>9 | 3=>3 | 4=>4 | 0=>0 | n=>n,fun | n=>n⟩
theorem Tryz.lays194:Go.Proofs.Lays.n194 Tryz.prog Tryz.lays194_ren:={
 mixed:=by kernel_rfl
 f194:=Tryz.func87.trans (congrArg some (by kernel_rfl))
 t0:=Tryz.underlying0
 a0:=Tryz.isAgg0
 z0:=Tryz.sizeOf0
 v0:=Tryz.zeroValue0
 t3:=Tryz.underlying3
 a3:=Tryz.isAgg3
 z3:=Tryz.sizeOf3
 v3:=Tryz.zeroValue3
 t4:=Tryz.underlying4
 a4:=Tryz.isAgg4
 z4:=Tryz.sizeOf4
 v4:=Tryz.zeroValue4
 t9:=Tryz.underlying9
 a9:=Tryz.isAgg9
 z9:=Tryz.sizeOf9
 v9:=Tryz.zeroValue9
 t31:=Tryz.underlying43
 a31:=Tryz.isAgg43
 z31:=Tryz.sizeOf43
 v31:=Tryz.zeroValue43 }
open Go.RowKit Go.Lib Go.Sort in
open Go.RowKit Go.Lib Go.Sort in
theorem Tryz.slices_Compact_string (blk off cap:Nat) (zs:List (List UInt8)) (w:World) (hH:Holds encStr w blk off zs.toArray) (hsz:zs.length<=9223372036854775807) (hcap:zs.length<=cap) :
  Calls Tryz.prog 87 #[.slice (some ⟨blk,off,none⟩) zs.length cap] w fun e w'=>e = .returned (.slice (some ⟨blk,off,none⟩) (Lib.compact zs).length cap)/\∃ q,w'=putRow encStr (Sort.ahead w q) blk off (Lib.compact zs ++ List.replicate (zs.length - (Lib.compact zs).length) []).toArray:=Any.slices_Compact_string Tryz.lays194 blk off cap zs w hH hsz hcap
open Go.RowKit Go.Lib Go.Sort in
def Tryz.laysNm237_ren:Go.Shelf.Ren:=⟨fun | 37=>128 | n=>n,fun | 3=>3 | 4=>4 | n=>n,fun | n=>n⟩
theorem Tryz.laysNm237:Go.Proofs.Lays2.n37 Tryz.prog Tryz.laysNm237_ren:={
 mixed:=by kernel_rfl
 f37:=Tryz.func128.trans (congrArg some (by kernel_rfl))
 t3:=Tryz.underlying3
 a3:=Tryz.isAgg3
 z3:=Tryz.sizeOf3
 v3:=Tryz.zeroValue3
 t4:=Tryz.underlying4
 a4:=Tryz.isAgg4
 z4:=Tryz.sizeOf4
 v4:=Tryz.zeroValue4 }
open Go.RowKit Go.Lib in
theorem Tryz.cmp_isNaN_int2 (x:Int) (w:World) :
  Calls Tryz.prog 128 #[.int .i64 x] w fun e w'=>e = .returned (.bool false)/\w'=w:=Any.cmp_isNaN_int2 Tryz.laysNm237 x w
open Go.RowKit Go.Lib in
open Go.RowKit Go.Lib Go.Sort in
theorem Tryz.slices_Compact_int_cells (b off n c:Nat) (zs:List Int) (w:World) (hz:n<=zs.length) (hbig:n<=9223372036854775807) (hcap:n<=c) (hc:∀ j,j < zs.length->w.cell? ⟨b,off+j,none⟩=some (.int .i64 (zs.getD j 0))) (hf:∀ j,j < n->w.frozen? ⟨b,off+j,none⟩=false) :
  Calls Tryz.prog 165 #[.slice (some ⟨b,off,none⟩) n c] w fun e w'=>e = .returned (.slice (some ⟨b,off,none⟩) (Lib.compact (zs.take n)).length c)/\∃ q,w'=(w.drewN q).setCells b off ((Lib.compact (zs.take n) ++ List.replicate (n - (Lib.compact (zs.take n)).length) 0).map (Value.int .i64)):=Any.slices_Compact_int_cells Tryz.laysNm220 b off n c zs w hz hbig hcap hc hf
open Go.RowKit Go.Lib Go.Sort in
open Go.RowKit Go.Sort in
open Go.RowKit Go.Sort in
def Tryz.laysSlF20_f179_ren:Go.Shelf.Ren:=⟨fun | 20=>179 | n=>n,fun | 24=>3 | 22=>119 | 3=>3 | 25=>45 | 4=>4 | 0=>0 | n=>n,fun | n=>n⟩
theorem Tryz.laysSlF20_f179:Go.Proofs.SlLaysF.n20 Tryz.prog Tryz.laysSlF20_f179_ren:={
 mixed:=by kernel_rfl
 f20:=⟨Tryz.f179.name,by decide,Tryz.func179.trans (congrArg some (by kernel_rfl))⟩
 t0:=Tryz.underlying0
 a0:=Tryz.isAgg0
 z0:=Tryz.sizeOf0
 v0:=Tryz.zeroValue0
 t3:=Tryz.underlying3
 a3:=Tryz.isAgg3
 z3:=Tryz.sizeOf3
 v3:=Tryz.zeroValue3
 t4:=Tryz.underlying4
 a4:=Tryz.isAgg4
 z4:=Tryz.sizeOf4
 v4:=Tryz.zeroValue4
 t22:=Tryz.underlying119
 a22:=Tryz.isAgg119
 z22:=Tryz.sizeOf119
 v22:=Tryz.zeroValue119
 a24:=Tryz.isAgg3
 z24:=Tryz.sizeOf3
 t25:=Tryz.underlying45
 a25:=Tryz.isAgg45
 z25:=Tryz.sizeOf45
 v25:=Tryz.zeroValue45 }
open Go.RowKit Go.Lib Go.Sort in
open Go.RowKit Go.Lib Go.Sort in
def Tryz.laysSlF020_f179_ren:Go.Shelf.Ren:=⟨fun | 20=>179 | n=>n,fun | 24=>3 | 22=>119 | 3=>3 | 25=>45 | 4=>4 | 0=>0 | n=>n,fun | n=>n⟩
theorem Tryz.laysSlF020_f179:Go.Proofs.SlLaysF0.n20 Tryz.prog Tryz.laysSlF020_f179_ren:={
 mixed:=by kernel_rfl
 f20:=⟨Tryz.f179.name,by decide,Tryz.func179.trans (congrArg some (by kernel_rfl))⟩
 t0:=Tryz.underlying0
 a0:=Tryz.isAgg0
 z0:=Tryz.sizeOf0
 v0:=Tryz.zeroValue0
 t3:=Tryz.underlying3
 a3:=Tryz.isAgg3
 z3:=Tryz.sizeOf3
 v3:=Tryz.zeroValue3
 t4:=Tryz.underlying4
 a4:=Tryz.isAgg4
 z4:=Tryz.sizeOf4
 v4:=Tryz.zeroValue4
 t22:=Tryz.underlying119
 a22:=Tryz.isAgg119
 z22:=Tryz.sizeOf119
 v22:=Tryz.zeroValue119
 t25:=Tryz.underlying45
 a25:=Tryz.isAgg45
 z25:=Tryz.sizeOf45
 v25:=Tryz.zeroValue45 }
open Go.RowKit Go.Lib Go.Sort in
def Tryz.sortP_ren:Go.Shelf.Ren:=⟨fun | 6=>133 | 15=>119 | 14=>161 | 28=>154 | 29=>155 | 20=>182 | 21=>183 | 22=>184 | 23=>185 | 24=>186 | 25=>187 | 26=>188 | 27=>189 | 46=>197 | 47=>172 | 48=>173 | 49=>198 | 50=>199 | 57=>211 | n=>n,fun | 22=>64 | 24=>74 | 25=>163 | 3=>3 | 39=>148 | 0=>0 | 53=>183 | 55=>164 | 4=>4 | 46=>176 | 45=>175 | 50=>68 | 5=>5 | 9=>9 | 66=>196 | 70=>200 | 76=>213 | 77=>214 | n=>n,fun | n=>n⟩
theorem Tryz.sortP:Go.Proofs.SlLaysF0.n6 Tryz.prog Tryz.sortP_ren:={
 mixed:=by kernel_rfl
 f6:=⟨Tryz.f133.name,by decide,Tryz.func133.trans (congrArg some (by kernel_rfl))⟩
 f14:=⟨Tryz.f161.name,by decide,Tryz.func161.trans (congrArg some (by kernel_rfl))⟩
 f15:=Tryz.func119.trans (congrArg some (by kernel_rfl))
 f20:=⟨Tryz.f182.name,by decide,Tryz.func182.trans (congrArg some (by kernel_rfl))⟩
 f21:=⟨Tryz.f183.name,by decide,Tryz.func183.trans (congrArg some (by kernel_rfl))⟩
 f22:=⟨Tryz.f184.name,by decide,Tryz.func184.trans (congrArg some (by kernel_rfl))⟩
 f23:=⟨Tryz.f185.name,by decide,Tryz.func185.trans (congrArg some (by kernel_rfl))⟩
 f24:=⟨Tryz.f186.name,by decide,Tryz.func186.trans (congrArg some (by kernel_rfl))⟩
 f25:=⟨Tryz.f187.name,by decide,Tryz.func187.trans (congrArg some (by kernel_rfl))⟩
 f26:=⟨Tryz.f188.name,by decide,Tryz.func188.trans (congrArg some (by kernel_rfl))⟩
 f27:=⟨Tryz.f189.name,by decide,Tryz.func189.trans (congrArg some (by kernel_rfl))⟩
 f28:=Tryz.func154.trans (congrArg some (by kernel_rfl))
 f29:=Tryz.func155.trans (congrArg some (by kernel_rfl))
 f46:=⟨Tryz.f197.name,by decide,Tryz.func197.trans (congrArg some (by kernel_rfl))⟩
 f47:=Tryz.func172.trans (congrArg some (by kernel_rfl))
 f48:=Tryz.func173.trans (congrArg some (by kernel_rfl))
 f49:=⟨Tryz.f198.name,by decide,Tryz.func198.trans (congrArg some (by kernel_rfl))⟩
 f50:=⟨Tryz.f199.name,by decide,Tryz.func199.trans (congrArg some (by kernel_rfl))⟩
 f57:=⟨Tryz.f211.name,by decide,Tryz.func211.trans (congrArg some (by kernel_rfl))⟩
 t0:=Tryz.underlying0
 a0:=Tryz.isAgg0
 z0:=Tryz.sizeOf0
 v0:=Tryz.zeroValue0
 t3:=Tryz.underlying3
 a3:=Tryz.isAgg3
 z3:=Tryz.sizeOf3
 v3:=Tryz.zeroValue3
 t4:=Tryz.underlying4
 a4:=Tryz.isAgg4
 z4:=Tryz.sizeOf4
 v4:=Tryz.zeroValue4
 t5:=Tryz.underlying5
 a5:=Tryz.isAgg5
 z5:=Tryz.sizeOf5
 v5:=Tryz.zeroValue5
 t9:=Tryz.underlying9
 a9:=Tryz.isAgg9
 z9:=Tryz.sizeOf9
 v9:=Tryz.zeroValue9
 t22:=Tryz.underlying64
 a22:=Tryz.isAgg64
 z22:=Tryz.sizeOf64
 v22:=Tryz.zeroValue64
 t25:=Tryz.underlying163
 a25:=Tryz.isAgg163
 z25:=Tryz.sizeOf163
 v25:=Tryz.zeroValue163
 t39:=Tryz.underlying148
 a39:=Tryz.isAgg148
 z39:=Tryz.sizeOf148
 v39:=Tryz.zeroValue148
 t45:=Tryz.underlying175
 a45:=Tryz.isAgg175
 z45:=Tryz.sizeOf175
 v45:=Tryz.zeroValue175
 t46:=Tryz.underlying176
 a46:=Tryz.isAgg176
 z46:=Tryz.sizeOf176
 v46:=Tryz.zeroValue176
 t50:=Tryz.underlying68
 a50:=Tryz.isAgg68
 z50:=Tryz.sizeOf68
 v50:=Tryz.zeroValue68
 t53:=Tryz.underlying183
 a53:=Tryz.isAgg183
 z53:=Tryz.sizeOf183
 v53:=Tryz.zeroValue183
 t55:=Tryz.underlying164
 a55:=Tryz.isAgg164
 z55:=Tryz.sizeOf164
 v55:=Tryz.zeroValue164
 t66:=Tryz.underlying196
 a66:=Tryz.isAgg196
 z66:=Tryz.sizeOf196
 v66:=Tryz.zeroValue196
 t70:=Tryz.underlying200
 a70:=Tryz.isAgg200
 z70:=Tryz.sizeOf200
 v70:=Tryz.zeroValue200
 t76:=Tryz.underlying213
 a76:=Tryz.isAgg213
 z76:=Tryz.sizeOf213
 v76:=Tryz.zeroValue213
 t77:=Tryz.underlying214
 a77:=Tryz.isAgg214
 z77:=Tryz.sizeOf214
 v77:=Tryz.zeroValue214 }
def Tryz.growP_ren:Go.Shelf.Ren:=⟨fun | 4=>159 | n=>n,fun | 22=>64 | 25=>74 | 3=>3 | 4=>4 | 9=>9 | 20=>20 | 0=>0 | n=>n,fun | n=>n⟩
theorem Tryz.growP:Go.Proofs.Lays8.n4 Tryz.prog Tryz.growP_ren:={
 mixed:=by kernel_rfl
 f4:=⟨Tryz.f159.name,by decide,Tryz.func159.trans (congrArg some (by kernel_rfl))⟩
 t0:=Tryz.underlying0
 a0:=Tryz.isAgg0
 z0:=Tryz.sizeOf0
 v0:=Tryz.zeroValue0
 t3:=Tryz.underlying3
 a3:=Tryz.isAgg3
 z3:=Tryz.sizeOf3
 v3:=Tryz.zeroValue3
 t4:=Tryz.underlying4
 a4:=Tryz.isAgg4
 z4:=Tryz.sizeOf4
 v4:=Tryz.zeroValue4
 t9:=Tryz.underlying9
 a9:=Tryz.isAgg9
 z9:=Tryz.sizeOf9
 v9:=Tryz.zeroValue9
 t20:=Tryz.underlying20
 a20:=Tryz.isAgg20
 z20:=Tryz.sizeOf20
 v20:=Tryz.zeroValue20
 t22:=Tryz.underlying64
 a22:=Tryz.isAgg64
 z22:=Tryz.sizeOf64
 v22:=Tryz.zeroValue64 }
def Tryz.insL_ren:Go.Shelf.Ren:=⟨fun | 20=>177 | n=>n,fun | 24=>50 | 22=>23 | 3=>3 | 25=>150 | 4=>4 | 0=>0 | n=>n,fun | n=>n⟩
theorem Tryz.insL:Go.Proofs.SlLaysF0.n20 Tryz.prog Tryz.insL_ren:={
 mixed:=by kernel_rfl
 f20:=⟨Tryz.f177.name,by decide,Tryz.func177.trans (congrArg some (by kernel_rfl))⟩
 t0:=Tryz.underlying0
 a0:=Tryz.isAgg0
 z0:=Tryz.sizeOf0
 v0:=Tryz.zeroValue0
 t3:=Tryz.underlying3
 a3:=Tryz.isAgg3
 z3:=Tryz.sizeOf3
 v3:=Tryz.zeroValue3
 t4:=Tryz.underlying4
 a4:=Tryz.isAgg4
 z4:=Tryz.sizeOf4
 v4:=Tryz.zeroValue4
 t22:=Tryz.underlying23
 a22:=Tryz.isAgg23
 z22:=Tryz.sizeOf23
 v22:=Tryz.zeroValue23
 t25:=Tryz.underlying150
 a25:=Tryz.isAgg150
 z25:=Tryz.sizeOf150
 v25:=Tryz.zeroValue150 }
def Tryz.insM_ren:Go.Shelf.Ren:=⟨fun | 20=>126 | n=>n,fun | 24=>29 | 22=>24 | 3=>3 | 25=>91 | 4=>4 | 0=>0 | n=>n,fun | n=>n⟩
theorem Tryz.insM:Go.Proofs.SlLaysF0.n20 Tryz.prog Tryz.insM_ren:={
 mixed:=by kernel_rfl
 f20:=⟨Tryz.f126.name,by decide,Tryz.func126.trans (congrArg some (by kernel_rfl))⟩
 t0:=Tryz.underlying0
 a0:=Tryz.isAgg0
 z0:=Tryz.sizeOf0
 v0:=Tryz.zeroValue0
 t3:=Tryz.underlying3
 a3:=Tryz.isAgg3
 z3:=Tryz.sizeOf3
 v3:=Tryz.zeroValue3
 t4:=Tryz.underlying4
 a4:=Tryz.isAgg4
 z4:=Tryz.sizeOf4
 v4:=Tryz.zeroValue4
 t22:=Tryz.underlying24
 a22:=Tryz.isAgg24
 z22:=Tryz.sizeOf24
 v22:=Tryz.zeroValue24
 t25:=Tryz.underlying91
 a25:=Tryz.isAgg91
 z25:=Tryz.sizeOf91
 v25:=Tryz.zeroValue91 }
end Go.Proofs.YtgplnekpgdhcpaaGreat
