/- least.spans$1: what the iterator hands to its loop. -/
import Derived.Test.YtgplnekpgdhcpaaGreatQSpans
import Derived.RangeFuncOwn
import Derived.Test.YtgplnekpgdhcpaaGreatTxA
namespace Go.Proofs.YtgplnekpgdhcpaaGreat
open Go.RowKit Go.Sort Go.Shelf
attribute [local go_sem] Oper.semAt_some
def KpC (A B:World):Prop:=A.heap.size<=B.heap.size/\∀ (k:Nat) (o:Obj),A.heap[k]? = some o->o.isCells=true->B.heap[k]? = some o
theorem KpC.refl (A:World):KpC A A:=⟨Nat.le_refl _,fun _ _ h _=>h⟩
theorem KpC.trans {A B C:World} (h:KpC A B) (k:KpC B C):KpC A C:=⟨Nat.le_trans h.1 k.1,fun i o h1 h2=>k.2 i o (h.2 i o h1 h2) h2⟩
theorem KpC.below {A B:World} (h:Below A.heap.size A B):KpC A B:=⟨h.size,fun i _o h1 _=>(h.block i (Array.getElem?_eq_some_iff.1 h1).1).trans h1⟩
def KpD (m:Nat) (A B:World):Prop:=KpC A B/\KeepsFrom m A B
theorem yieldAt_wide {P:Program} {a b l:Nat} {args:Array Value} {W:World} {R:Ending->World->Prop} (h:YieldAt Fence.wide a P l args W R):YieldAt Fence.wide b P l args W R:=by
 obtain⟨fn,tmps,assign,body,h1,h2,h3⟩:=h
 exact⟨fn,tmps,assign,body,h1,h2,fun c cs _=>h3 c cs (fun d hd=>by cases hd)⟩
def spanE:(Int×Int)×Bool->Array Value:=fun x=>#[.agg #[.int .i64 x.1.1,.int .i64 x.1.2],.bool x.2]
def spanD (L:List LotV) (lo hi:Int):List Int:=Lib.compact ((([lo,hi+1] ++ L.flatMap (endsOf lo hi)).mergeSort fun x y=>decide (x<=y)))
def spansL (L:List LotV) (W:List WantV) (P:List Pt) (lo hi:Int):List ((Int×Int)×Bool):=if max lo 0<=min hi 4000 then (pairsI (spanD L (max lo 0) (min hi 4000))).map fun p=>(p,hadB L W P p.1) else []
theorem range_ownE {P:Program} {n:Nat} {α:Type} {g:Operand} {ps:Array Tmp} {assign body:Code} {Q:Exit->Act->World->Prop} {a:Act} {w:World}
  (h1:1<=n) {gf:Nat} {lb:Array Value} (hg:a.eval g = .func (.func gf) #[] lb) (eg:∀ args w,(callFunc gf args).run P w = .ok (.enter gf args) w)
  {encs:α->Array Value} {Kp:World->World->Prop} {S Sp:List α->Prop} {N:Nat} (hseq:SeqO Fence.wide (n - 1) P gf lb encs Kp S Sp N (w.heap.size+2) w)
  (hKt:∀ {A B C:World},Kp A B->Kp B C->Kp A C) (hKb:∀ (W:World) (l:Nat) (o o':Obj),l=w.heap.size+1->W.heap[l]? = some o->o.isCells=false->o.isWalk=false->Kp W (W.putObj l o')) (hps:∀ x,(encs x).size=ps.size)
  (I:List α->World->Prop) (Ix:Code->List α->World->Prop) (hI:OwnFrom w.heap.size I) (hIx:∀ c,OwnFrom w.heap.size (Ix c)) (h0:I [] w)
  (h:∃ a₁:α->Act,
   (∀ (l:Nat) (x:α) (W:World) (K:Act->World->Prop),K (a₁ x) W ->
    assign.wpIn (Fence.wide.inRound l) (n - 1 - 1) P (Exit.then K (fun _ _ _=>False)) { tmps:=(ps.zip (encs x)).foldl (fun t (p,v)=>t.setIfInBounds p v) a.tmps,defers:=[] } W) /\
   (∀ (l:Nat) (pre:List α) (x:α) (W:World),I pre W->pre.length < N->body.wpIn (Fence.wide.inRound l) (n - 1 - 1) P (ownPostG w.heap.size Kp I Ix (pre ++ [x]) W) (a₁ x) W) /\
   (∀ (D:Nat) (xs:List α) (W:World),w.heap.size<=D->S xs->I xs W->W.heap[D]? = some (.deferred (some []))->Q .normal { a with defers:={ target:=.collected D,args:=#[] } :: a.defers } W) /\
   (∀ (D:Nat) (c:Code) (pre:List α) (W:World),w.heap.size<=D->Sp pre->Ix c pre W->W.heap[D]? = some (.deferred (some []))->c.wpIn Fence.wide n P Q { a with defers:={ target:=.collected D,args:=#[] } :: a.defers } W)) :
  (Code.rangeFunc g ps assign body).wpIn Fence.wide n P Q a w:=by
 obtain⟨a₁,ha,hb,hd,hs⟩:=h
 exact range_own rfl h1 hg trivial eg hseq hKt hKb (Below.refl _ _) hps I Ix hI hIx h0 a₁ ha hb hd hs
theorem KpC.put {W:World} {l:Nat} {o:Obj} (o':Obj) (h:W.heap[l]? = some o) (hc:o.isCells=false):KpC W (W.putObj l o'):=by
 refine⟨by simp[World.putObj],fun k o2 h2 h3=>?_⟩
 by_cases e:k=l
 ·subst e
  rw[h] at h2
  cases h2
  rw[hc] at h3
  cases h3
 ·exact (World.putObj_heap_other e).trans h2
theorem KpC.grown {V A B:World} {row:Option Nat} (h:KpC V A) (hg:A.grownBy B row) (hr:∀ r,row=some r->V.heap.size<=r/\∃ o:Obj,A.heap[r]? = some o/\o.isCells=false):KpC V B:=by
 refine⟨Nat.le_trans h.1 hg.size,fun k o h1 h2=>?_⟩
 have h3:=h.2 k o h1 h2
 exact (hg.block k (Array.getElem?_eq_some_iff.1 h3).1 (fun e=>by have:=(hr k e.symm).1;have:=(Array.getElem?_eq_some_iff.1 h1).1;omega)).trans h3
theorem KpC.cell {A B:World} (h:KpC A B) {b o:Nat} {v:Value} (hc:A.cell? ⟨b,o,none⟩=some v):B.cell? ⟨b,o,none⟩=some v:=by
 obtain⟨ob,h1,h2⟩:=cells_of_cell hc
 rw[<- hc]
 exact World.cell?_of_block ((h.2 _ _ h1 h2).trans h1.symm)
theorem In.keepC {α:Type} [Inhabited α] {E:El α} {B:Nat} {w w':World} {a:Option Addr} {n c:Nat} {X:List α} (h:E.In B w a n c X) (hk:KpC w w'):E.In B w' a n c X:=by
 refine⟨h.len,h.le,h.mx,h.fine,fun hc=>?_⟩
 obtain⟨b,o,e,hB,hcell⟩:=h.at_ hc
 refine⟨b,o,e,hB,fun i hi j hj=>?_⟩
 have h1:=hcell i hi j hj
 have hlen:=E.len (X.getD i default)
 rw[List.getElem?_eq_getElem (by omega)] at h1 ⊢
 exact hk.cell h1
theorem SpB.keepC {w w':World} {s:Nat} {la wa pa:Option Addr} {n c n2 c2 n3 c3:Nat} {lo hi:Int} (h:SpB w s la wa pa n c n2 c2 n3 c3 lo hi) (hk:KpC w w'):SpB w' s la wa pa n c n2 c2 n3 c3 lo hi :=
 ⟨hk.2 _ _ h.lots rfl,hk.2 _ _ h.wants rfl,hk.2 _ _ h.more rfl,hk.2 _ _ h.fr rfl,hk.2 _ _ h.un rfl⟩
theorem spanD_facts {L:List LotV} {lo hi:Int} (h0:0<=lo) (h1:lo<=hi) (h2:hi<=4000):(spanD L lo hi).Pairwise (· < ·)/\(∀ x,x∈spanD L lo hi↔x=lo∨x=hi+1∨∃ l∈L,x∈endsOf lo hi l)/\(∀ x∈spanD L lo hi,0<=x/\x<=4001):=by
 obtain⟨a,b⟩:=compact_sorted ([lo,hi+1] ++ L.flatMap (endsOf lo hi))
 have hm:∀ x,x∈spanD L lo hi↔x=lo∨x=hi+1∨∃ l∈L,x∈endsOf lo hi l:=fun x=>by
  refine (b x).trans ?_
  simp only[List.mem_append,List.mem_cons,List.not_mem_nil,or_false,List.mem_flatMap,or_assoc]
 refine⟨a,hm,fun x hx=>?_⟩
 rcases (hm x).1 hx with rfl | rfl | ⟨l,hl,h⟩
 ·omega
 ·omega
 ·unfold endsOf at h
  split at h
  ·simp only[List.mem_cons,List.not_mem_nil,or_false] at h
   rcases h with rfl | rfl <;> omega
  ·cases h
theorem spanD_len (L:List LotV) (lo hi:Int):1<=(spanD L lo hi).length/\(spanD L lo hi).length<=2+2 * L.length:=by
 constructor
 ·have:lo∈spanD L lo hi:=(compact_sorted ([lo,hi+1] ++ L.flatMap (endsOf lo hi))).2 lo |>.2 (by simp)
  exact List.length_pos_of_mem this
 ·refine Nat.le_trans (compact_length_leI _) ?_
  rw[List.length_mergeSort,List.length_append]
  have:=flatEnds_len lo hi L
  simp only[List.length_cons,List.length_nil]
  omega
theorem pairsI_mem:∀ (L:List Int) (x:Int×Int),x∈pairsI L->x.1∈L
 | a :: b :: r,x,h=>by
  simp only[pairsI,List.mem_cons] at h
  rcases h with rfl | h
  ·exact List.mem_cons_self
  ·exact List.mem_cons_of_mem _ (pairsI_mem (b :: r) x h)
 | [_],x,h=>by simp[pairsI] at h
 | [],x,h=>by simp[pairsI] at h
set_option maxRecDepth 100000 in
set_option maxHeartbeats 2000000 in
theorem spans_seq (n:Nat) (hn:5<=n) (B s:Nat) (la wa pa:Option Addr) (n1 c1 n2 c2 n3 c3:Nat) (L:List LotV) (Wn:List WantV) (P:List Pt) (lo hi:Int) (w:World) (hb:SpB w s la wa pa n1 c1 n2 c2 n3 c3 lo hi) (hl:lotE.In B w la n1 c1 L) (hw:wantE.In B w wa n2 c2 Wn) (hp:ptE.In B w pa n3 c3 P) (hB:B<=w.heap.size) (h1:n1<=400000) (h2:n2<=100000000) (h3:n3<=100000000) :
  SeqO Fence.wide n Tryz.prog 137 #[.pointer (some ⟨s+3,0,none⟩),.pointer (some ⟨s+4,0,none⟩),.pointer (some ⟨s,0,none⟩),.pointer (some ⟨s+1,0,none⟩),.pointer (some ⟨s+2,0,none⟩)] spanE (KpD (w.heap.size+2)) (fun xs=>xs=spansL L Wn P lo hi) (fun pre=>pre <+: spansL L Wn P lo hi) (spansL L Wn P lo hi).length (w.heap.size+2) w:=by
 intro l J Jx W hW hJ hJx hY h0
 show CallsIn Fence.wide n Tryz.prog 137 #[.func (.yield l) #[] #[],.pointer (some ⟨s+3,0,none⟩),.pointer (some ⟨s+4,0,none⟩),.pointer (some ⟨s,0,none⟩),.pointer (some ⟨s+1,0,none⟩),.pointer (some ⟨s+2,0,none⟩)] W _
 obtain⟨O,hO⟩:∃ O:Obj,O = .cells #[.func (.yield l) #[] #[]] 167:=⟨_,rfl⟩
 have bO:Below W.heap.size W (W.alloc O):=(Below.refl _ W).alloc (Nat.le_refl _) O
 have hbW:SpB (W.alloc O) s la wa pa n1 c1 n2 c2 n3 c3 lo hi:=by
  obtain⟨k0,k1,k2,k3,k4⟩:=hb
  have go:∀ (k:Nat) (o:Obj),w.heap[k]? = some o->(W.alloc O).heap[k]? = some o:=fun k o h=>((hW.trans (bO.mono hW.size)).block k (Array.getElem?_eq_some_iff.1 h).1).trans h
  exact⟨go _ _ k0,go _ _ k1,go _ _ k2,go _ _ k3,go _ _ k4⟩
 obtain⟨e0,e1,e2,e3,e4⟩:=hbW.cells
 have HbW:=Lib.hid hbW
 have HY:=Lib.hid hY
 rw[hO] at e0 e1 e2 e3 e4
 clear hY hbW hb
 refine callsIn_of_wp_marks Tryz.func137 rfl trivial ?_ rfl
 simp only[Tryz.ntmps137,List.size_toArray,List.length_cons,List.length_nil,Nat.reduceAdd,Nat.reduceSub,Array.replicate_succ,Array.replicate_zero,List.push_toArray,List.append_toArray,List.nil_append,List.cons_append]
 obtain⟨V0,hV0⟩:∃ V0,V0=W.alloc O:=⟨_,rfl⟩
 have hJ0:∀ q,J [] (V0.drewN q):=fun q=>by
  rw[hV0]
  exact hJ [] (W.alloc O) _ none (hJ.alloc O h0) ⟨rfl,rfl,rfl,Nat.le_refl _,fun _ _ _=>rfl⟩ (fun r e=>by cases e)
 have hBV:Below w.heap.size w V0:=by rw[hV0];exact hW.trans (bO.mono hW.size)
 have HlV:=Lib.hid (fun q=>((hl.below (hBV.mono hB)).below (w':=V0.drewN q) ⟨rfl,rfl,rfl,Nat.le_refl _,fun _ _=>rfl⟩))
 rw[hO] at hV0
 have HJ0:=Lib.hid hJ0
 have HV0:=Lib.hid hV0
 have HBV:=Lib.hid hBV
 have hsz0:V0.heap.size=W.heap.size+1:=by rw[hV0,World.size_alloc]
 have Hsz0:=Lib.hid hsz0
 have HWs:=Lib.hid hW.size
 clear hJ0 hV0 hBV hsz0 bO
 by_cases hlh:max lo 0<=min hi 4000
 ·have hgt:¬ (min hi 4000 < max lo 0):=by omega
  have HE:=Lib.hid (fun q=>endsF_any B la n1 c1 L (max lo 0) (min hi 4000) (V0.drewN q) (HlV.out q) (by show B<=V0.heap.size;have:=Hsz0.out;have:=HWs.out;omega) (by omega) (by omega) hlh (by omega))
  gi_wp2
  refine region_tail (Wd.wide _ _) 5 (by kernel_rfl) (by kernel_rfl) (fun w'=>∃ q,w'=(W.alloc (.cells #[.func (.yield l) #[] #[]] 167)).drewN q) ⟨1,rfl⟩ (fun a'=>a' = ?A) ?h ?t
  case h =>
   simp only[muteT,List.take_succ_cons,List.take_zero,List.drop_succ_cons,List.drop_zero,List.map_cons,List.map_nil,List.cons_append,List.nil_append]
   repeat (first | refine wpQuiet_mute ?_ | go_big_quiet_step (fail))
   refine wpQuiet_nil ?_
   rfl
  case t =>
   rintro _ w' ⟨q,rfl⟩ rfl
   simp only[List.drop_succ_cons,List.drop_zero]
   gi_wp2_with (refine⟨trivial,fun _=>(by omega),?_⟩;rw[<- HV0.out];refine CallsIn.mono (callsIn_wide.2 (HE.out q)) ?_;rintro e V ⟨g,cc,rfl,⟨D,hD,hbx,hDc,hDl⟩,hg1,hg2,hg3,hV⟩)
   have hDs:(Lib.compact ((([max lo 0,min hi 4000+1] ++ L.flatMap (endsOf (max lo 0) (min hi 4000))).mergeSort fun x y=>decide (x<=y))))=spanD L (max lo 0) (min hi 4000):=rfl
   rw[hDs] at hD
   clear hDs
   have hDk:1<=D.length/\D.length<=1000000/\∀ x∈pairsI D,0<=x.1/\x.1<=4001:=by
    obtain⟨-,-,k3⟩:=spanD_facts (L:=L) (lo:=max lo 0) (hi:=min hi 4000) (by omega) (by omega) (by omega)
    obtain⟨k4,k5⟩:=spanD_len L (max lo 0) (min hi 4000)
    rw[hD]
    have:=(HlV.out q).len
    exact⟨k4,by omega,fun x hx=>k3 _ (pairsI_mem _ _ hx)⟩
   obtain⟨hD1,hD2,hD3⟩:=hDk
   have hzq:(V0.drewN q).heap.size=V0.heap.size:=rfl
   have Hgo:Hid (∃ o:Obj,V.heap[g]? = some o/\o.isCells=true):=Lib.hid (cells_of_cell (hDl 0 (by omega)))
   have Hbo:Hid (∃ o:Obj,V.heap[(V0.drewN q).heap.size+1]? = some o/\o.isCells=true):=Lib.hid (cells_of_cell hbx)
   have HNL:Hid ((pairsI D).length=(spansL L Wn P lo hi).length):=Lib.hid (by unfold spansL;rw[if_pos (by omega),<- hD,List.length_map])
   have HVw:Hid (w.heap.size+2<=V.heap.size):=Lib.hid (by have:=HWs.out;have:=Hsz0.out;omega)
   refine range_ownE (α:=ElE fun x=>0<=x.1/\x.1<=4001) (by omega) (gf:=166) (lb:=#[.pointer (some ⟨(V0.drewN q).heap.size+1,0,none⟩)]) rfl (enters_of Tryz.func166 (by kernel_rfl) rfl)
    (ends_seq (n - 1) (V.heap.size+2) (by omega) ((V0.drewN q).heap.size+1) g cc D _ hD3 (fun k=>k=g∨k=(V0.drewN q).heap.size+1) (.inl rfl) (.inr rfl) ⟨hD1,hD2⟩ hDc V hg2 hg3 hbx hDl (KpE fun k=>k=g∨k=(V0.drewN q).heap.size+1) (fun A B h=>h))
    ?hKt ?hKb (fun _=>rfl)
    (fun pre U=>J (pre.map fun e=>(e.1,hadB L Wn P e.1.1)) U/\KpC V U)
    (fun cd pre U=>cd = .ret/\Jx (pre.map fun e=>(e.1,hadB L Wn P e.1.1)) U)
    ?hI ?hIx ?h0 ?_
   case hKt=>exact fun h k=>KpE.trans h k
   case hKb =>
    intro U k o o' hk h1 h2 h3 i hi
    exact World.putObj_heap_other (by rcases hi with rfl | rfl <;> omega)
   case hI =>
    rintro pre A A' row ⟨k1,k2⟩ hg hr
    exact⟨hJ _ _ _ row k1 hg (fun r e=>⟨by have:=(hr r e).1;have:=HWs.out;have:=hV.size;have:=Hsz0.out;omega,(hr r e).2⟩),k2.grown hg hr⟩
   case hIx =>
    rintro cd pre A A' row ⟨k1,k2⟩ hg hr
    exact⟨k1,hJx _ _ _ row k2 hg (fun r e=>⟨by have:=(hr r e).1;have:=HWs.out;have:=hV.size;have:=Hsz0.out;omega,(hr r e).2⟩)⟩
   case h0=>exact⟨hJ _ _ _ none (HJ0.out q) ⟨hV.os,hV.tape,hV.output,hV.size,fun k hk _=>hV.block k hk⟩ (fun r e=>by cases e),KpC.refl _⟩
   apply Exists.intro
   refine⟨?assign,?body,?done,?stop⟩
   case assign =>
    intro l2 x U K hK
    gi_wp2
    exact hK
   case body =>
    rintro l2 pre x U ⟨hJU,hKU⟩ hlen
    dsimp only
    have hK1:KpC (W.alloc O) V:=⟨by rw[hO,<- HV0.out];exact hV.size,fun k o h1 _=>by
     rw[hO,<- HV0.out] at h1
     exact (hV.block k (Array.getElem?_eq_some_iff.1 h1).1).trans h1⟩
    have hK2:KpC w U:=KpC.trans (KpC.trans (by rw[hO,<- HV0.out];exact KpC.below HBV.out) hK1) hKU
    obtain⟨-,-,-,-,-⟩:=(HbW.out.keepC (KpC.trans hK1 hKU)).cells
    obtain⟨u3,u4,u5,-,-⟩:=(HbW.out.keepC (KpC.trans hK1 hKU)).cells
    have u6:U.cell? ⟨W.heap.size,0,none⟩=some (.func (.yield l) #[] #[]):=KpC.cell (KpC.trans hK1 hKU) (by unfold World.cell?;rw[heap_alloc_new,hO];rfl)
    have f3:∀ y:BelowW U,y.v.cell? ⟨s,0,none⟩=some (.slice la n1 c1):=fun y=>KpC.cell (KpC.below y.h) u3
    have f4:∀ y:BelowW U,y.v.cell? ⟨s+1,0,none⟩=some (.slice wa n2 c2):=fun y=>KpC.cell (KpC.below y.h) u4
    have f5:∀ y:BelowW U,y.v.cell? ⟨s+2,0,none⟩=some (.slice pa n3 c3):=fun y=>KpC.cell (KpC.below y.h) u5
    have f6:∀ y:BelowW U,y.v.cell? ⟨W.heap.size,0,none⟩=some (.func (.yield l) #[] #[]):=fun y=>KpC.cell (KpC.below y.h) u6
    have hBU:∀ y:BelowW U,B<=y.v.heap.size:=fun y=>by have:=y.h.size;have:=hK2.1;omega
    have hmk:∀ y:BelowW U,Calls Tryz.prog 139 #[.slice la n1 c1,.slice wa n2 c2,.slice pa n3 c3,.int .i64 x.1.1] y.v fun e w'=>e = .returned (.bool (hadB L Wn P x.1.1))/\Below y.v.heap.size y.v w':=fun y=>had_any B la wa pa n1 c1 n2 c2 n3 c3 L Wn P x.1.1 y.v (In.keepC hl (KpC.trans hK2 (KpC.below y.h))) (In.keepC hw (KpC.trans hK2 (KpC.below y.h))) (In.keepC hp (KpC.trans hK2 (KpC.below y.h))) (hBU y) (by omega) h2 h3 x.2
    have HYU:=Lib.hid (fun (y:BelowW U)=>yieldAt_wide (b:=n - 1 - 1 - 1) (HY.out (pre.map fun e=>(e.1,hadB L Wn P e.1.1)) (x.1,hadB L Wn P x.1.1) y.v (hJ _ _ _ none hJU ⟨y.h.os,y.h.tape,y.h.output,y.h.size,fun k hk _=>y.h.block k hk⟩ (fun r e=>by cases e)) (by rw[List.length_map];exact Nat.lt_of_lt_of_eq hlen HNL.out)))
    have keepU:∀ (y:BelowW U) (Z:World),KeepsFrom (w.heap.size+2) y.v Z->KeepsFrom V.heap.size U Z:=fun y Z hk=>⟨Nat.le_trans y.h.size hk.size,fun k o e1 e2 e3=>hk.same k o (by have:=HVw.out;omega) ((y.h.block k (Array.getElem?_eq_some_iff.1 e2).1).trans e2) e3⟩
    clear u3 u4 u5 u6 hK1 hBU
    gi_wp2
    refine region_tail (Wd.round l2 _ _) 9 (by kernel_rfl) (by kernel_rfl) (fun w'=>∃ y:BelowW U,w'=y.v) ⟨⟨_,(Below.refl _ U).drew⟩,rfl⟩ (fun a'=>a' = ?A2) ?h2 ?t2
    case h2 =>
     simp only[muteT,List.take_succ_cons,List.take_zero,List.drop_succ_cons,List.drop_zero,List.map_cons,List.map_nil,List.cons_append,List.nil_append]
     repeat (first | refine wpQuiet_mute ?_ | go_big_quiet_step ((go_at_call 139;exact below_call (hmk _))))
     refine wpQuiet_nil ?_
     rfl
    case t2 =>
     rintro _ w' ⟨y,rfl⟩ rfl
     simp only[List.drop_succ_cons,List.drop_zero]
     obtain⟨fn,tmps,assign,body,hy,hR⟩:=HYU.out y
     unfold spanE at hy
     dsimp only at hy
     have hR2:RoundIn (Fence.wide.inRound l2) (n - 1 - 1 - 1) Tryz.prog l fn tmps assign body y.v _:=hR
     gi_wp2
     refine⟨fun _=>by omega,hR2.mono ?_⟩
     rintro e W3 (⟨rfl,hJ3,hk3⟩ | ⟨rfl,hJx3,hk3⟩)
     ·have hkf:=Lib.hid hk3
      have hJf:=Lib.hid hJ3
      clear hk3 hJ3
      gi_wp2
      refine⟨keepU y _ hkf.out.2,fun k hk=>?_,?_,KpC.trans hKU (KpC.trans (KpC.below y.h) hkf.out.1)⟩
      ·obtain⟨o,k1,k2⟩:∃ o:Obj,V.heap[k]? = some o/\o.isCells=true:=by
        rcases hk with rfl | rfl
        ·exact Hgo.out
        ·exact Hbo.out
       have k3:=hKU.2 k o k1 k2
       rw[k3]
       exact (KpC.trans (KpC.below y.h) hkf.out.1).2 k o k3 k2
      ·rw[List.map_append]
       exact hJf.out
     ·have hkf:=Lib.hid hk3
      have hJf:=Lib.hid hJx3
      clear hk3 hJx3
      gi_wp2
      refine⟨keepU y _ hkf.out,rfl,?_⟩
      rw[List.map_append]
      exact hJf.out
   case done =>
    rintro Dd xs U _ hxs ⟨hJU,hKU⟩ hd
    have hfin:(xs.map fun e=>(e.1,hadB L Wn P e.1.1))=spansL L Wn P lo hi:=by
     unfold spansL
     rw[if_pos (by omega),<- hD,<- hxs,List.map_map]
     rfl
    rw[hfin] at hJU
    have hJP:=hJ.putObj (.deferred none) hJU (by have:=HWs.out;have:=hV.size;have:=Hsz0.out;omega) hd rfl
    have HJP:=Lib.hid hJP
    clear hfin hJP hJU hKU
    gi_wp2
    refine⟨by simp,.inl ⟨_,_,rfl,run_takeDeferred hd,?_⟩⟩
    exact⟨_,results_none rfl _ _ _,⟨_,rfl⟩,.inl ⟨_,rfl,HJP.out⟩⟩
   case stop =>
    rintro Dd c pre U _ hxs ⟨rfl,hJU⟩ hd
    have hfin:(pre.map fun e=>(e.1,hadB L Wn P e.1.1)) <+: spansL L Wn P lo hi:=by
     unfold spansL
     rw[if_pos (by omega),<- hD]
     have h4:=hxs.map (fun p:Int×Int=>(p,hadB L Wn P p.1))
     rwa [List.map_map] at h4
    have hJP:=hJx.putObj (.deferred none) hJU (by have:=HWs.out;have:=hV.size;have:=Hsz0.out;omega) hd rfl
    have HJP:=Lib.hid hJP
    have Hfin:=Lib.hid hfin
    clear hfin hJP hJU
    gi_wp2
    refine⟨by simp,.inl ⟨_,_,rfl,run_takeDeferred hd,?_⟩⟩
    exact⟨_,results_none rfl _ _ _,⟨_,rfl⟩,.inr ⟨_,Hfin.out,HJP.out⟩⟩
 ·have hgt:min hi 4000 < max lo 0:=by omega
  gi_wp2
  refine region_tail (Wd.wide _ _) 5 (by kernel_rfl) (by kernel_rfl) (fun w'=>∃ q,w'=(W.alloc (.cells #[.func (.yield l) #[] #[]] 167)).drewN q) ⟨1,rfl⟩ (fun a'=>a' = ?A) ?h ?t
  case h =>
   simp only[muteT,List.take_succ_cons,List.take_zero,List.drop_succ_cons,List.drop_zero,List.map_cons,List.map_nil,List.cons_append,List.nil_append]
   repeat (first | refine wpQuiet_mute ?_ | go_big_quiet_step (fail))
   refine wpQuiet_nil ?_
   rfl
  case t =>
   rintro _ w' ⟨q,rfl⟩ rfl
   simp only[List.drop_succ_cons,List.drop_zero]
   gi_wp2
   refine⟨_,results_none rfl _ _ _,?_⟩
   refine⟨⟨_,rfl⟩,.inl ⟨[],?_,?_⟩⟩
   ·unfold spansL;rw[if_neg (by omega)]
   ·rw[<- HV0.out];exact HJ0.out q
end Go.Proofs.YtgplnekpgdhcpaaGreat
