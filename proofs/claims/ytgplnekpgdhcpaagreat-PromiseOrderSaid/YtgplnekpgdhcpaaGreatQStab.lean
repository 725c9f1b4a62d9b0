/- slices.SortStableFunc at api.Lot: slices.symMergeCmpFunc. (Printed by gen/sorts.py.) The blocks of the library's stable sort: plain Lean. -/
import Derived.Test.YtgplnekpgdhcpaaGreatQSmLB
import Derived.Test.YtgplnekpgdhcpaaGreatQSmLC
import Derived.Test.YtgplnekpgdhcpaaGreatQMerge
namespace Go.Proofs.YtgplnekpgdhcpaaGreat
open Go.Proofs Go.Shelf Go.RowKit Go.Lib Go.Sort
section
variable {P:Program} {α:Type} [Inhabited α]
theorem symMergeL (k:Nat) (L:StL P k) (enc:α->List Value) (cf:α->α->Int) (T:α->α->Bool) (hT:SWO T) (g:Nat) (cb:Array Value) (blk off cap sz:Nat) (d0:Array α) (w0:World)
  (eg:∀ args w,(callFunc g args).run P w = .ok (.enter g args) w) (hcmp:CmpLays P g cb enc k cf blk off d0.size w0) (R:RowK enc k w0 blk off d0) (h0:d0.size=sz) (hsz:sz < 4611686018427387904) :
  ∀ (N a m b:Nat) (d:Array α) (w:World),b<=N+a->d.size=sz->SWK enc k w0 blk off d w->a < m->m < b->b<=sz->SM (ltOf cf) T a m b d ->
  Calls P 178 #[.slice (some ⟨blk,off,none⟩) sz cap,.int .i64 a,.int .i64 m,.int .i64 b,.func (.func g) #[] cb] w fun e w'=>e = .returned (.tuple #[])/\∃ d',d'.size=sz/\SWK enc k w0 blk off d' w'/\PermIn a b d d'/\SortedIn T a b d'
 | 0,a,m,b,d,w,hN,hs,S,ham,hmb,hb,hSM=>by omega
 | N+1,a,m,b,d,w,hN,hs,S,ham,hmb,hb,hSM=>by
  by_cases h1:m=a+1
  ·exact symMergeLA k L enc cf T hT g cb blk off cap sz d0 w0 eg hcmp R h0 hsz a m b d w hs S ham hmb hb hSM h1
  ·by_cases h2:b=m+1
   ·exact symMergeLB k L enc cf T hT g cb blk off cap sz d0 w0 eg hcmp R h0 hsz a m b d w hs S ham hmb hb hSM (by omega) h2
   ·exact symMergeLC k L enc cf T hT g cb blk off cap sz d0 w0 eg hcmp R h0 hsz a m b d w hs S ham hmb hb hSM (by omega) (by omega) N hN (symMergeL k L enc cf T hT g cb blk off cap sz d0 w0 eg hcmp R h0 hsz N)
end
end Go.Proofs.YtgplnekpgdhcpaaGreat
namespace Go.Proofs.YtgplnekpgdhcpaaGreat
open Go.Sort
section
variable {α:Type} [Inhabited α] {lt T:α->α->Bool}
def Compat (lt T:α->α->Bool) (a b:Nat) (d:Array α):Prop:=∀ i j,a<=i->i < j->j < b->lt d[j]! d[i]! = T d[j]! d[i]!
theorem insInner_same (a:Nat):∀ (j:Nat) (d:Array α),j < d.size->(∀ p,a<=p->p < j->lt d[j]! d[p]! = T d[j]! d[p]!)->insInner lt a j d=insInner T a j d
 | 0,d,_,_=>by unfold insInner;rfl
 | j+1,d,hj,h=>by
  unfold insInner
  by_cases ha:a<=j
  ·rw[h j ha (by omega)]
   split
   ·refine insInner_same a j _ (by rw[swp_size];omega) fun p h1 h2=>?_
    rw[swp_at d hj (by omega),swp_at d hj (by omega),if_neg (by omega),if_pos rfl,if_neg (by omega),if_neg (by omega)]
    exact h p h1 (by omega)
   ·rfl
  ·rw[show decide (j+1 > a)=false from decide_eq_false (by omega)]
   simp
theorem insOuter_same (hT:SWO T) (a b:Nat) (d:Array α) (hb:b<=d.size) (hc:Compat lt T a b d):∀ (n i:Nat) (dk:Array α),b - i=n->a < i->i<=b->PermIn a i d dk->SortedIn T a i dk->insOuter lt a b i dk=insOuter T a b i dk
 | 0,i,dk,hn,hai,hib,hp,hs=>by
  rw[insOuter,if_neg (by omega),insOuter,if_neg (by omega)]
 | n+1,i,dk,hn,hai,hib,hp,hs=>by
  have hlt:i < b:=by omega
  have hsz:=hp.1
  have e:insInner lt a i dk=insInner T a i dk:=by
   refine insInner_same a i dk (by omega) fun p h1 h2=>?_
   rw[hp.2.1 i (.inr (Nat.le_refl _))]
   exact permIn_all d dk a i (fun v=>lt d[i]! v=T d[i]! v) (by omega) hp (fun q h3 h4=>hc q i h3 h4 hlt) p h1 h2
  rw[insOuter.eq_1 lt a b i dk,if_pos hlt,insOuter.eq_1 T a b i dk,if_pos hlt,e]
  have h1:=insInner_spec hT swp_permIn permIn_refl permIn_trans a (i+1) i (by omega) i dk (by omega) (Nat.le_refl _) (by omega) ⟨fun p q hap hpq hqi _ hq=>hs p q hap hpq (by omega),fun q h1 h2=>by omega⟩
  exact insOuter_same hT a b d hb hc n (i+1) _ (by omega) (by omega) (by omega) (permIn_trans _ _ _ _ _ (permIn_mono _ _ _ _ _ _ (Nat.le_refl _) (by omega) (by omega) hp) h1.1) h1.2
theorem ins_block (hT:SWO T) {a b:Nat} {d:Array α} (hab:a<=b) (hb:b<=d.size) (hc:Compat lt T a b d):PermIn a b d (insertionSort lt d a b)/\SortedIn T a b (insertionSort lt d a b):=by
 have e:insertionSort lt d a b=insertionSort T d a b:=by
  unfold insertionSort
  by_cases h:a+1<=b
  ·exact insOuter_same hT a b d hb hc _ (a+1) d rfl (by omega) h (permIn_refl _ _ _) (fun i j h1 h2 h3=>by omega)
  ·rw[insOuter,if_neg (by omega),insOuter,if_neg (by omega)]
 rw[e]
 exact insertionSort_holds hT d a b hab hb
def Good (T:α->α->Bool) (d dk:Array α) (a b:Nat):Prop:=(dk.extract a b).toList.Perm (d.extract a b).toList/\SortedIn T a b dk
theorem Good.congr {d dk dk':Array α} {a b:Nat} (h:Good T d dk a b) (hb:b<=dk.size) (hs:dk'.size=dk.size) (he:∀ x,a<=x->x < b->dk'[x]! = dk[x]!):Good T d dk' a b:=by
 obtain⟨h1,h2⟩:=h
 refine⟨?_,fun i j k1 k2 k3=>?_⟩
 ·rw[extract_toList dk' a b (by omega)]
  rw[extract_toList dk a b hb] at h1
  have:(List.range' a (b - a)).map (fun i=>dk'[i]!)=(List.range' a (b - a)).map (fun i=>dk[i]!):=List.map_congr_left fun x hx=>by
   rw[List.mem_range'_1] at hx
   exact he x hx.1 (by omega)
  rw[this]
  exact h1
 ·rw[he i (by omega) (by omega),he j (by omega) k3]
  exact h2 i j k1 k2 k3
theorem Good.mem {d dk:Array α} {a b:Nat} (h:Good T d dk a b) (hb:b<=dk.size) (hb2:b<=d.size) {x:Nat} (h1:a<=x) (h2:x < b):∃ y,a<=y/\y < b/\dk[x]! = d[y]!:=by
 obtain⟨h3,-⟩:=h
 rw[extract_toList dk a b hb,extract_toList d a b hb2] at h3
 have:dk[x]!∈(List.range' a (b - a)).map (fun i=>dk[i]!):=List.mem_map.2 ⟨x,List.mem_range'_1.2 ⟨h1,by omega⟩,rfl⟩
 obtain⟨y,hy,e⟩:=List.mem_map.1 (h3.mem_iff.1 this)
 rw[List.mem_range'_1] at hy
 exact⟨y,hy.1,by omega,e.symm⟩
theorem extract_split (d:Array α) {a m b:Nat} (h1:a<=m) (h2:m<=b) (hb:b<=d.size):(d.extract a b).toList=(d.extract a m).toList ++ (d.extract m b).toList:=by
 rw[extract_toList d a b hb,extract_toList d a m (by omega),extract_toList d m b hb,<- List.map_append,show b - a=(m - a)+(b - m) by omega]
 congr 1
 have:=List.range'_append (s:=a) (m:=m - a) (n:=b - m) (step:=1)
 rw[Nat.one_mul,show a+(m - a)=m by omega] at this
 exact this.symm
theorem Good.sm {d dk:Array α} {a m b:Nat} (h1:Good T d dk a m) (h2:Good T d dk m b) (hc:Compat lt T a b d) (hb:b<=dk.size) (hb2:b<=d.size):SM lt T a m b dk :=
 ⟨h1.2,h2.2,fun i j k1 k2 k3 k4=>by
  obtain⟨x,x1,x2,x3⟩:=h1.mem (by omega) (by omega) k1 k2
  obtain⟨y,y1,y2,y3⟩:=h2.mem hb hb2 k3 k4
  rw[x3,y3]
  exact hc x y x1 (by omega) y2⟩
theorem Good.merged {d dk dk':Array α} {a m b:Nat} (h1:Good T d dk a m) (h2:Good T d dk m b) (ham:a<=m) (hmb:m<=b) (hb:b<=dk.size) (hb2:b<=d.size) (hp:PermIn a b dk dk') (hs:SortedIn T a b dk'):Good T d dk' a b:=by
 refine⟨hp.2.2.trans ?_,hs⟩
 rw[extract_split dk ham hmb hb,extract_split d ham hmb hb2]
 exact h1.1.append h2.1
structure First (T:α->α->Bool) (d dk:Array α) (bs p:Nat):Prop where
 size:dk.size=d.size
 done:∀ q,q < p->Good T d dk (q * bs) (q * bs+bs)
 rest:∀ x,p * bs<=x->dk[x]! = d[x]!
structure All (T:α->α->Bool) (d dk:Array α) (bs:Nat):Prop where
 size:dk.size=d.size
 done:∀ q,q * bs < d.size->Good T d dk (q * bs) (min (q * bs+bs) d.size)
theorem mul_lt {q p bs:Nat} (h:q < p):q * bs+bs<=p * bs:=by
 have:=Nat.mul_le_mul_right bs (show q+1<=p from h)
 rwa [Nat.add_mul,Nat.one_mul] at this
theorem good_start (T:α->α->Bool) (d:Array α) {dk dk':Array α} {a b:Nat} (he:∀ x,a<=x->dk[x]! = d[x]!) (hs:dk.size=d.size) (hb:b<=d.size) (hp:PermIn a b dk dk') (hso:SortedIn T a b dk'):Good T d dk' a b:=by
 refine⟨hp.2.2.trans ?_,hso⟩
 rw[extract_toList dk a b (by omega),extract_toList d a b hb]
 have:(List.range' a (b - a)).map (fun i=>dk[i]!)=(List.range' a (b - a)).map (fun i=>d[i]!):=List.map_congr_left fun x hx=>by
  rw[List.mem_range'_1] at hx
  exact he x hx.1
 rw[this]
theorem First.start (T:α->α->Bool) (d:Array α) (bs:Nat):First T d d bs 0:=⟨rfl,fun q h=>by omega,fun _ _=>rfl⟩
theorem First.compat {d dk:Array α} {bs p a b:Nat} (h:First T d dk bs p) (hc:Compat lt T 0 d.size d) (ha:p * bs<=a) (hb:b<=d.size):Compat lt T a b dk:=fun i j h1 h2 h3=>by
 rw[h.rest i (by omega),h.rest j (by omega)]
 exact hc i j (Nat.zero_le _) h2 (by omega)
theorem First.step {d dk dk':Array α} {bs p:Nat} (h:First T d dk bs p) (hb:p * bs+bs<=d.size) (hp:PermIn (p * bs) (p * bs+bs) dk dk') (hs:SortedIn T (p * bs) (p * bs+bs) dk'):First T d dk' bs (p+1):=by
 refine⟨hp.1.trans h.size,fun q hq=>?_,fun x hx=>?_⟩
 ·rcases Nat.lt_or_ge q p with hlt | hge
  ·have:=mul_lt (bs:=bs) hlt
   exact (h.done q hlt).congr (by rw[h.size];omega) hp.1 fun x h1 h2=>hp.2.1 x (.inl (by omega))
  ·rw[show q=p by omega]
   exact good_start T d h.rest h.size hb hp hs
 ·rw[Nat.add_mul,Nat.one_mul] at hx
  rw[hp.2.1 x (.inr hx)]
  exact h.rest x (by omega)
theorem First.all {d dk dk':Array α} {bs p:Nat} (h:First T d dk bs p) (h1:p * bs<=d.size) (h2:d.size < p * bs+bs) (hp:PermIn (p * bs) d.size dk dk') (hs:SortedIn T (p * bs) d.size dk'):All T d dk' bs:=by
 refine⟨hp.1.trans h.size,fun q hq=>?_⟩
 rcases Nat.lt_or_ge q p with hlt | hge
 ·have:=mul_lt (bs:=bs) hlt
  rw[show min (q * bs+bs) d.size=q * bs+bs by omega]
  exact (h.done q hlt).congr (by rw[h.size];omega) hp.1 fun x h3 h4=>hp.2.1 x (.inl (by omega))
 ·have hqp:q=p:=by
   rcases Nat.lt_or_ge p q with h5 | h5
   ·have:=mul_lt (bs:=bs) h5;omega
   ·omega
  subst hqp
  rw[show min (q * bs+bs) d.size=d.size by omega]
  exact good_start T d h.rest h.size (Nat.le_refl _) hp hs
structure Pairs (T:α->α->Bool) (d dk:Array α) (bs p:Nat):Prop where
 size:dk.size=d.size
 done:∀ q,q < p->Good T d dk (q * (2 * bs)) (q * (2 * bs)+2 * bs)
 rest:∀ q,p * (2 * bs)<=q * bs->q * bs < d.size->Good T d dk (q * bs) (min (q * bs+bs) d.size)
theorem All.pairs {d dk:Array α} {bs:Nat} (h:All T d dk bs):Pairs T d dk bs 0:=⟨h.size,fun q h=>by omega,fun q _ h2=>h.done q h2⟩
theorem Pairs.first {d dk:Array α} {bs p:Nat} (h:Pairs T d dk bs p) (hbs:0 < bs) (hb:p * (2 * bs)+bs<=d.size):Good T d dk (p * (2 * bs)) (p * (2 * bs)+bs):=by
 have e:p * (2 * bs)=(2 * p) * bs:=by rw[Nat.mul_left_comm,Nat.mul_assoc]
 have:=h.rest (2 * p) (by rw[e];exact Nat.le_refl _) (by rw[<- e];omega)
 rw[<- e,show min (p * (2 * bs)+bs) d.size=p * (2 * bs)+bs by omega] at this
 exact this
theorem Pairs.last {d dk:Array α} {bs p:Nat} (h:Pairs T d dk bs p) (hbs:0 < bs) (hb:p * (2 * bs)+bs < d.size):Good T d dk (p * (2 * bs)+bs) (min (p * (2 * bs)+2 * bs) d.size):=by
 have e:p * (2 * bs)+bs=(2 * p+1) * bs:=by rw[Nat.add_mul,Nat.one_mul,Nat.mul_assoc,Nat.mul_left_comm]
 have:=h.rest (2 * p+1) (by rw[<- e];omega) (by rw[<- e];omega)
 rw[<- e,show min (p * (2 * bs)+bs+bs) d.size=min (p * (2 * bs)+2 * bs) d.size by omega] at this
 exact this
theorem Pairs.step {d dk dk':Array α} {bs p:Nat} (h:Pairs T d dk bs p) (hbs:0 < bs) (hb:p * (2 * bs)+2 * bs<=d.size) (hp:PermIn (p * (2 * bs)) (p * (2 * bs)+2 * bs) dk dk') (hs:SortedIn T (p * (2 * bs)) (p * (2 * bs)+2 * bs) dk'):Pairs T d dk' bs (p+1):=by
 refine⟨hp.1.trans h.size,fun q hq=>?_,fun q h1 h2=>?_⟩
 ·rcases Nat.lt_or_ge q p with hlt | hge
  ·have:=mul_lt (bs:=2 * bs) hlt
   exact (h.done q hlt).congr (by rw[h.size];omega) hp.1 fun x h3 h4=>hp.2.1 x (.inl (by omega))
  ·rw[show q=p by omega]
   have k:=h.last hbs (by omega)
   rw[show min (p * (2 * bs)+2 * bs) d.size=p * (2 * bs)+2 * bs by omega] at k
   exact (h.first hbs (by omega)).merged k (by omega) (by omega) (by rw[h.size];exact hb) hb hp hs
 ·rw[Nat.add_mul,Nat.one_mul] at h1
  exact (h.rest q (by omega) h2).congr (by rw[h.size];omega) hp.1 fun x h3 h4=>hp.2.1 x (.inr (by omega))
theorem all_of {d dk:Array α} {B p:Nat} (hsz:dk.size=d.size) (hd:∀ q,q < p->Good T d dk (q * B) (q * B+B)) (h1:p * B<=d.size) (h2:d.size < p * B+B) (hg:p * B < d.size->Good T d dk (p * B) d.size):All T d dk B:=by
 refine⟨hsz,fun q hq=>?_⟩
 rcases Nat.lt_or_ge q p with hlt | hge
 ·have:=mul_lt (bs:=B) hlt
  rw[show min (q * B+B) d.size=q * B+B by omega]
  exact hd q hlt
 ·have hqp:q=p:=by
   rcases Nat.lt_or_ge p q with h5 | h5
   ·have:=mul_lt (bs:=B) h5;omega
   ·omega
  subst hqp
  rw[show min (q * B+B) d.size=d.size by omega]
  exact hg hq
theorem Pairs.end1 {d dk:Array α} {bs p:Nat} (h:Pairs T d dk bs p) (hbs:0 < bs) (h1:p * (2 * bs)<=d.size) (h2:d.size<=p * (2 * bs)+bs):All T d dk (2 * bs) :=
 all_of h.size h.done h1 (by omega) fun hlt=>by
  have e:p * (2 * bs)=(2 * p) * bs:=by rw[Nat.mul_left_comm,Nat.mul_assoc]
  have:=h.rest (2 * p) (by rw[e];exact Nat.le_refl _) (by rw[<- e];exact hlt)
  rw[<- e,show min (p * (2 * bs)+bs) d.size=d.size by omega] at this
  exact this
theorem Pairs.end2 {d dk dk':Array α} {bs p:Nat} (h:Pairs T d dk bs p) (hbs:0 < bs) (h1:p * (2 * bs)+bs < d.size) (h2:d.size < p * (2 * bs)+2 * bs) (hp:PermIn (p * (2 * bs)) d.size dk dk') (hs:SortedIn T (p * (2 * bs)) d.size dk'):All T d dk' (2 * bs) :=
 all_of (hp.1.trans h.size) (fun q hq=>by
  have:=mul_lt (bs:=2 * bs) hq
  exact (h.done q hq).congr (by rw[h.size];omega) hp.1 fun x h3 h4=>hp.2.1 x (.inl (by omega))) (by omega) h2 fun _=>by
  have k:=h.last hbs h1
  rw[show min (p * (2 * bs)+2 * bs) d.size=d.size by omega] at k
  exact (h.first hbs (by omega)).merged k (by omega) (by omega) (by rw[h.size];exact Nat.le_refl _) (Nat.le_refl _) hp hs
theorem All.end_ {d dk:Array α} {bs:Nat} (h:All T d dk bs) (hb:d.size<=bs):PermIn 0 d.size d dk/\SortedIn T 0 d.size dk:=by
 rcases Nat.eq_zero_or_pos d.size with h0 | h0
 ·rw[h0]
  refine⟨⟨h.size,fun i _=>?_,?_⟩,fun i j h1 h2 h3=>by omega⟩
  ·rw[getElem!_neg dk i (by have:=h.size;omega),getElem!_neg d i (by omega)]
  ·rw[extract_toList dk 0 0 (by omega),extract_toList d 0 0 (by omega)]
   exact List.Perm.refl _
 ·have:=h.done 0 (by omega)
  rw[Nat.zero_mul,Nat.zero_add,show min bs d.size=d.size by omega] at this
  refine⟨⟨h.size,fun i hi=>?_,this.1⟩,this.2⟩
  have hi2:d.size<=i:=by omega
  rw[getElem!_neg dk i (by have:=h.size;omega),getElem!_neg d i (by omega)]
end
end Go.Proofs.YtgplnekpgdhcpaaGreat
