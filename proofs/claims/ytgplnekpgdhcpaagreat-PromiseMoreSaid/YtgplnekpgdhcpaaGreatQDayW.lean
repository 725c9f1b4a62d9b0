/- range_own, where the loop's variables may be boxes. least.Day: its walk. -/
import Derived.Test.YtgplnekpgdhcpaaGreatJPure
import Derived.RangeFuncNested
import Derived.Test.YtgplnekpgdhcpaaGreatQLineOk
namespace Go.Proofs.YtgplnekpgdhcpaaGreat
open Go.RowKit
theorem range_ownX {α:Type} {F:Fence} {n:Nat} {P:Program} {g:Operand} {ps:Array Tmp} {assign body:Code} {Q:Exit->Act->World->Prop} {a:Act} {w:World}
  (hro:F.round=none) (h1:1<=n) {gf:Nat} {lb:Array Value} (hg:a.eval g = .func (.func gf) #[] lb) (hFg:F.fn gf) (eg:∀ args w,(callFunc gf args).run P w = .ok (.enter gf args) w)
  {encs:α->Array Value} {Kp:World->World->Prop} {S Sp:List α->Prop} {N:Nat} {w0:World} (hseq:SeqO F (n - 1) P gf lb encs Kp S Sp N (w.heap.size+2) w0)
  (hKt:∀ {A B C:World},Kp A B->Kp B C->Kp A C) (hKb:∀ (W:World) (l:Nat) (o o':Obj),l=w.heap.size+1->W.heap[l]? = some o->o.isCells=false->o.isWalk=false->Kp W (W.putObj l o')) (hb0:Below w0.heap.size w0 w) (hps:∀ x,(encs x).size=ps.size)
  (I:List α->World->Prop) (Ix:Code->List α->World->Prop) (hI:OwnFrom w.heap.size I) (hIx:∀ c,OwnFrom w.heap.size (Ix c)) (h0:I [] w) (Ax:α->Act->World->Prop) (hAx:∀ x a',OwnFrom w.heap.size (fun (_:Unit) W=>Ax x a' W))
  (hassign:∀ (l:Nat) (pre:List α) (x:α) (W:World) (K:Act->World->Prop),I pre W->(∀ a' W',KeepsFrom w.heap.size W W'->Kp W W'->I pre W'->Ax x a' W'->K a' W') ->
   assign.wpIn (F.inRound l) (n - 1 - 1) P (Exit.then K (fun _ _ _=>False)) { tmps:=(ps.zip (encs x)).foldl (fun t (p,v)=>t.setIfInBounds p v) a.tmps,defers:=[] } W)
  (hbody:∀ (l:Nat) (pre:List α) (x:α) (a':Act) (W:World),I pre W->Ax x a' W->pre.length < N->body.wpIn (F.inRound l) (n - 1 - 1) P (ownPostG w.heap.size Kp I Ix (pre ++ [x]) W) a' W)
  (hdone:∀ (D:Nat) (xs:List α) (W:World),w.heap.size<=D->S xs->I xs W->W.heap[D]? = some (.deferred (some []))->Q .normal { a with defers:={ target:=.collected D,args:=#[] } :: a.defers } W)
  (hstop:∀ (D:Nat) (c:Code) (pre:List α) (W:World),w.heap.size<=D->Sp pre->Ix c pre W->W.heap[D]? = some (.deferred (some []))->c.wpIn F n P Q { a with defers:={ target:=.collected D,args:=#[] } :: a.defers } W) :
  (Code.rangeFunc g ps assign body).wpIn F n P Q a w:=by
 refine wpIn_rangeFunc ?_
 intro fn hfn
 rw[hro]
 obtain⟨m,hm⟩:∃ m,m=w.heap.size:=⟨_,rfl⟩
 obtain⟨st,hst⟩:∃ st:LoopState->Option Code->Loop,st=fun s j=>{ state:=s,pending:=j,fn,tmps:=a.tmps,params:=ps,assign,body,defers:=w.heap.size }:=⟨_,rfl⟩
 obtain⟨V,hV⟩:∃ V,V=(w.alloc (.deferred (some []))).alloc (.loop (st .ready none)):=⟨_,rfl⟩
 have hVs:V.heap.size=m+2:=by rw[hV,World.size_alloc,World.size_alloc,hm]
 have hVl:V.heap[m+1]? = some (.loop (st .ready none)):=by
  have:=World.alloc_heap_new (w.alloc (.deferred (some []))) (.loop (st .ready none))
  rw[World.size_alloc] at this
  rw[hV,hm];exact this
 have hVd:V.heap[m]? = some (.deferred (some [])):=by
  rw[hV,hm];exact (Below.heap_alloc _ _ _ (by rw[World.size_alloc];omega)).trans (World.alloc_heap_new w _)
 have hVI:I [] V:=by rw[hV];exact hI.alloc _ (hI.alloc _ h0)
 have hVb:Below w0.heap.size w0 V:=by
  rw[hV];exact hb0.trans ((((Below.refl _ w).alloc (Nat.le_refl _) _).alloc (by rw[World.size_alloc];omega) _).mono hb0.size)
 rw[<- hm] at hI hIx hAx hassign
 have far:∀ {A B:World} {row:Option Nat} {k:Nat} {o:Obj},k < m+2->A.grownBy B row->(∀ r,row=some r->V.heap.size<=r/\∃ o:Obj,A.heap[r]? = some o/\o.isCells=false)->A.heap[k]? = some o->B.heap[k]? = some o:=fun hk hg' hr ho =>
  (hg'.block _ (Array.getElem?_eq_some_iff.1 ho).1 (fun e=>by have:=(hr _ e.symm).1;omega)).trans ho
 have near:∀ {A:World} {row:Option Nat},(∀ r,row=some r->V.heap.size<=r/\∃ o:Obj,A.heap[r]? = some o/\o.isCells=false)->∀ r,row=some r->m<=r/\∃ o:Obj,A.heap[r]? = some o/\o.isCells=false:=fun hr r e=>⟨by have:=(hr r e).1;omega,(hr r e).2⟩
 refine⟨m+1,[{ target:=.collected m,args:=#[] }],V,{ target:=.fn (.func gf) lb,args:=#[.func (.yield (m+1)) #[] #[]] },V,gf,#[.func (.yield (m+1)) #[] #[]] ++ lb,V,?_,?_,?_,?_,fun _=>h1,?_⟩
 ·rw[hV,hst,hm];exact run_enterLoop_outer _ _ _ _ _
 ·simp only[resolve,hg]
  simp[go_sem]
 ·intro f' hf';simp[Target.leads] at hf';subst hf';exact hFg
 ·simp[invoke,go_sem,eg]
 ·refine (hseq (m+1) (fun pre W=>I pre W/\W.heap[m+1]? = some (.loop (st .ready none))/\W.heap[m]? = some (.deferred (some [])))
   (fun pre W=>∃ c,Ix c pre W/\W.heap[m+1]? = some (.loop (st .done (some c)))/\W.heap[m]? = some (.deferred (some []))) V hVb
   (fun s A B row hs hg' hr=>⟨hI s A B row hs.1 hg' (near hr),far (by omega) hg' hr hs.2.1,far (by omega) hg' hr hs.2.2⟩)
   (fun s A B row hs hg' hr=>by
    obtain⟨c,k1,k2,k3⟩:=hs
    exact⟨c,hIx c s A B row k1 hg' (near hr),far (by omega) hg' hr k2,far (by omega) hg' hr k3⟩) ?_ ⟨hVI,hVl,hVd⟩).mono ?_
  ·rintro pre x W ⟨hi,hl,hd⟩ hlen
   have hlt:m+1 < W.heap.size:=(Array.getElem?_eq_some_iff.1 hl).1
   have hy:=run_yield (P:=P) (args:=encs x) hl (by rw[hst];exact hps x)
   rw[hst] at hy
   refine⟨fn,_,assign,body,hy,roundIn_of_wpIn hfn (hassign _ pre x W _ hi fun a' W' hkW hKW hi' hax=>⟨_,run_beginRound (hkW.same _ _ (by omega) hl rfl) (by rw[hst]),?_⟩)⟩
   have hl':=hkW.same _ _ (by omega) hl rfl
   have hd':=hkW.same _ _ (Nat.le_refl _) hd rfl
   have hlt':m+1 < W'.heap.size:=(Array.getElem?_eq_some_iff.1 hl').1
   obtain⟨U,hU⟩:∃ U,U=W'.putObj (m+1) (.loop { st .ready none with state:=.busy }):=⟨_,rfl⟩
   rw[<- hU]
   have hUl:U.heap[m+1]? = some (.loop { st .ready none with state:=.busy }):=by rw[hU];exact World.putObj_heap_same hlt'
   have hUd:U.heap[m]? = some (.deferred (some [])):=by rw[hU];exact (World.putObj_heap_other (by omega)).trans hd'
   have hUk:Kp W U:=by rw[hU];exact hKt hKW (hKb _ _ _ _ (by omega) hl' rfl rfl)
   have hUi:I pre U:=by rw[hU];exact hI.putObj _ hi' (by omega) hl' rfl
   have hUa:Ax x a' U:=by rw[hU];exact (hAx x a').putObj (s:=()) _ hax (by omega) hl' rfl
   refine wpIn_mono (hbody _ pre x a' U hUi hUa hlen) ?_
   have last:∀ (j:Option Code) (Z:World),KeepsFrom m U Z->(Instr.endRound (m+1) j).run P Z = .ok (.bool j.isNone) (Z.putObj (m+1) (.loop (st (if j.isNone then .ready else .done) j)))/\Z.heap[m+1]? = some (.loop { st .ready none with state:=.busy }) /\
     (Z.putObj (m+1) (.loop (st (if j.isNone then .ready else .done) j))).heap[m+1]? = some (.loop (st (if j.isNone then .ready else .done) j))/\(Z.putObj (m+1) (.loop (st (if j.isNone then .ready else .done) j))).heap[m]? = some (.deferred (some [])):=fun j Z hk=>by
    have hz:=hk.same _ _ (by omega) hUl rfl
    have he:=run_endRound (P:=P) j hz
    rw[hst] at he ⊢
    refine⟨he,?_,World.putObj_heap_same (Array.getElem?_eq_some_iff.1 hz).1,(World.putObj_heap_other (by omega)).trans (hk.same _ _ (Nat.le_refl _) hUd rfl)⟩
    rw[hst] at hz;exact hz
   have keep:∀ (Z:World) (o':Obj),KeepsFrom m U Z->KeepsFrom (w.heap.size+2) W (Z.putObj (m+1) o'):=fun Z o' hk=>⟨by
     have h1:U.heap.size=W'.heap.size:=by rw[hU];simp[World.putObj]
     have h4:=hkW.size
     have h2:(Z.putObj (m+1) o').heap.size=Z.heap.size:=by simp[World.putObj]
     have h3:=hk.size
     omega,fun k o hk1 hk2 hk3=>by
     have h1:U.heap[k]? = some o:=by rw[hU];exact (World.putObj_heap_other (by omega)).trans (hkW.same k o (by omega) hk2 hk3)
     exact (World.putObj_heap_other (by omega)).trans (hk.same k o (by omega) h1 hk3)⟩
   rintro e a3 Z hp
   rw[<- hm] at hp
   cases e with
   | normal =>
    obtain⟨k1,k2,k3⟩:=hp
    obtain⟨q1,q2,q3,q4⟩:=last none Z k1
    exact⟨_,_,q1,.inl ⟨rfl,⟨hI.putObj _ k3 (by omega) q2 rfl,q3,q4⟩,hKt (hKt hUk k2) (hKb _ _ _ _ (by omega) q2 rfl rfl)⟩⟩
   | ret =>
    obtain⟨k1,k3⟩:=hp
    obtain⟨q1,q2,q3,q4⟩:=last (some .ret) Z k1
    exact⟨_,_,q1,.inr ⟨rfl,⟨.ret,(hIx _).putObj _ k3 (by omega) q2 rfl,q3,q4⟩,keep _ _ k1⟩⟩
   | exit id =>
    obtain⟨k1,k3⟩:=hp
    obtain⟨q1,q2,q3,q4⟩:=last (some (.exit id)) Z k1
    exact⟨_,_,q1,.inr ⟨rfl,⟨.exit id,(hIx _).putObj _ k3 (by omega) q2 rfl,q3,q4⟩,keep _ _ k1⟩⟩
   | goto t =>
    obtain⟨k1,k3⟩:=hp
    obtain⟨q1,q2,q3,q4⟩:=last (some (.goto t)) Z k1
    exact⟨_,_,q1,.inr ⟨rfl,⟨.goto t,(hIx _).putObj _ k3 (by omega) q2 rfl,q3,q4⟩,keep _ _ k1⟩⟩
   | panic ch=>exact hp.elim
   | outgrown=>exact hp.elim
  ·rintro e Z ⟨⟨v,rfl⟩,(⟨xs,hS,hi,hl,hd⟩ | ⟨pre,hSp,c,hi,hl,hd⟩)⟩
   ·exact⟨none,_,by have:=run_endLoop (P:=P) hl (by rw[hst];simp);rw[hst] at this;exact this,hdone _ xs _ (by omega) hS (hI.putObj _ hi (by omega) hl rfl) ((World.putObj_heap_other (by omega)).trans hd)⟩
   ·exact⟨some c,_,by have:=run_endLoop (P:=P) hl (by rw[hst];simp);rw[hst] at this;exact this,hstop _ c pre _ (by omega) hSp ((hIx c).putObj _ hi (by omega) hl rfl) ((World.putObj_heap_other (by omega)).trans hd)⟩
theorem ownFrom_of_belowX {β:Type} {B:Nat} {I:β->World->Prop} (h:∀ s W W',I s W->B<=W.heap.size->Below B W W'->I s W') (hB:∀ s W,I s W->B<=W.heap.size):OwnFrom B I :=
 fun s W W' row hs hg hr=>h s W W' hs (hB s W hs) (by
  have hB:=hB s W hs
  exact⟨hg.os,hg.tape,hg.output,hg.size,fun k hk=>hg.block k (by omega) (fun e=>by have:=(hr k e.symm).1;omega)⟩)
theorem range_ownXE {P:Program} {n:Nat} {α:Type} {g:Operand} {ps:Array Tmp} {assign body:Code} {Q:Exit->Act->World->Prop} {a:Act} {w:World}
  (h1:1<=n) {gf:Nat} {lb:Array Value} (hg:a.eval g = .func (.func gf) #[] lb) (eg:∀ args w,(callFunc gf args).run P w = .ok (.enter gf args) w)
  {encs:α->Array Value} {Kp:World->World->Prop} {S Sp:List α->Prop} {N:Nat} (hseq:SeqO Fence.wide (n - 1) P gf lb encs Kp S Sp N (w.heap.size+2) w)
  (hKt:∀ {A B C:World},Kp A B->Kp B C->Kp A C) (hKb:∀ (W:World) (l:Nat) (o o':Obj),l=w.heap.size+1->W.heap[l]? = some o->o.isCells=false->o.isWalk=false->Kp W (W.putObj l o')) (hps:∀ x,(encs x).size=ps.size)
  (I:List α->World->Prop) (Ix:Code->List α->World->Prop) (hI:OwnFrom w.heap.size I) (hIx:∀ c,OwnFrom w.heap.size (Ix c)) (h0:I [] w) (Ax:α->Act->World->Prop) (hAx:∀ x a',OwnFrom w.heap.size (fun (_:Unit) W=>Ax x a' W))
  (hassign:∀ (l:Nat) (pre:List α) (x:α) (W:World) (K:Act->World->Prop),I pre W->(∀ a' W',KeepsFrom w.heap.size W W'->Kp W W'->I pre W'->Ax x a' W'->K a' W') ->
   assign.wpIn (Fence.wide.inRound l) (n - 1 - 1) P (Exit.then K (fun _ _ _=>False)) { tmps:=(ps.zip (encs x)).foldl (fun t (p,v)=>t.setIfInBounds p v) a.tmps,defers:=[] } W)
  (hbody:∀ (l:Nat) (pre:List α) (x:α) (a':Act) (W:World),I pre W->Ax x a' W->pre.length < N->body.wpIn (Fence.wide.inRound l) (n - 1 - 1) P (ownPostG w.heap.size Kp I Ix (pre ++ [x]) W) a' W)
  (hdone:∀ (D:Nat) (xs:List α) (W:World),w.heap.size<=D->S xs->I xs W->W.heap[D]? = some (.deferred (some []))->Q .normal { a with defers:={ target:=.collected D,args:=#[] } :: a.defers } W)
  (hstop:∀ (D:Nat) (c:Code) (pre:List α) (W:World),w.heap.size<=D->Sp pre->Ix c pre W->W.heap[D]? = some (.deferred (some []))->c.wpIn Fence.wide n P Q { a with defers:={ target:=.collected D,args:=#[] } :: a.defers } W) :
  (Code.rangeFunc g ps assign body).wpIn Fence.wide n P Q a w :=
 range_ownX rfl h1 hg trivial eg hseq hKt hKb (Below.refl _ _) hps I Ix hI hIx h0 Ax hAx hassign hbody hdone hstop
end Go.Proofs.YtgplnekpgdhcpaaGreat
namespace Go.Proofs.YtgplnekpgdhcpaaGreat
open Go.RowKit Go.Sort Go.Shelf
attribute [local go_sem] Oper.semAt_some
set_option maxRecDepth 100000 in
set_option maxHeartbeats 2000000 in
theorem day_any (B:Nat) (la wa pa:Option Addr) (n1 c1 n2 c2 n3 c3:Nat) (L:List LotV) (Wn:List WantV) (P:List Pt) (lo hi:Int) (w:World) (hl:lotE.In B w la n1 c1 L) (hw:wantE.In B w wa n2 c2 Wn) (hp:ptE.In B w pa n3 c3 P) (hB:B<=w.heap.size) (h1:n1<=400000) (h2:n2<=100000000) (h3:n3<=100000000) :
  Calls Tryz.prog 68 #[.slice la n1 c1,.slice wa n2 c2,.slice pa n3 c3,.int .i64 lo,.int .i64 hi] w fun e w'=>e = .returned (.tuple #[.int .i64 ((dayOf (spansL L Wn P lo hi)).getD 0),.bool (dayOf (spansL L Wn P lo hi)).isSome])/\Below w.heap.size w w':=by
 obtain⟨A,hA⟩:∃ A,A=(w.alloc (.cells #[.int .i64 0] 3)).alloc (.cells #[.bool false] 4):=⟨_,rfl⟩
 have bA1:Below w.heap.size w (w.alloc (.cells #[.int .i64 0] 3)):=(Below.refl _ w).alloc (Nat.le_refl _) _
 have bA:Below w.heap.size w A:=by rw[hA];exact bA1.alloc (by rw[World.size_alloc];omega) _
 have sA:A.heap.size=w.heap.size+2:=by rw[hA,World.size_alloc,World.size_alloc]
 have a0:A.heap[w.heap.size]? = some (.cells #[.int .i64 0] 3):=by
  rw[hA]
  have h:=((Below.refl _ (w.alloc (.cells #[.int .i64 0] 3))).alloc (Nat.le_refl _) (.cells #[.bool false] 4)).block w.heap.size (by rw[World.size_alloc];omega)
  rw[h]
  exact heap_alloc_new w _
 have a1:A.heap[w.heap.size+1]? = some (.cells #[.bool false] 4):=by
  rw[hA]
  have h:=heap_alloc_new (w.alloc (.cells #[.int .i64 0] 3)) (.cells #[.bool false] 4)
  rwa [World.size_alloc] at h
 have HA:=Lib.hid hA
 have HS:=Lib.hid (spans_any la wa pa n1 c1 n2 c2 n3 c3 lo hi A)
 have HsA:=Lib.hid sA
 have H0:=Lib.hid (And.intro a0 (And.intro a1 bA))
 clear hA bA1 bA sA a0 a1
 refine (callsIn_wide (n:=8)).1 ?_
 refine callsIn_of_wp_marks Tryz.func68 rfl trivial ?_ rfl
 simp only[Tryz.ntmps68,List.size_toArray,List.length_cons,List.length_nil,Nat.reduceAdd,Nat.reduceSub,Array.replicate_succ,Array.replicate_zero,List.push_toArray,List.append_toArray,List.nil_append,List.cons_append]
 gi_wp2_with (refine⟨trivial,?_⟩;rw[<- HA.out];refine CallsIn.mono (callsIn_wide.2 HS.out) ?_;rintro e V ⟨rfl,hS,hV,hVs⟩)
 have HIn:=Lib.hid (And.intro ((hl.below (H0.out.2.2.mono hB)).below (hV.mono (by have:=HsA.out;omega))) (And.intro ((hw.below (H0.out.2.2.mono hB)).below (hV.mono (by have:=HsA.out;omega))) ((hp.below (H0.out.2.2.mono hB)).below (hV.mono (by have:=HsA.out;omega)))))
 have v0:=(hV.block w.heap.size (by have:=HsA.out;omega)).trans H0.out.1
 have v1:=(hV.block (w.heap.size+1) (by have:=HsA.out;omega)).trans H0.out.2.1
 have bV:Below w.heap.size w V:=H0.out.2.2.trans (hV.mono (by have:=HsA.out;omega))
 have HVs:Hid (V.heap.size=w.heap.size+7):=Lib.hid (by rw[hVs,HsA.out])
 clear hVs
 refine range_ownXE (α:=(Int×Int)×Bool) (by omega) (gf:=137) (lb:=#[.pointer (some ⟨A.heap.size+3,0,none⟩),.pointer (some ⟨A.heap.size+4,0,none⟩),.pointer (some ⟨A.heap.size,0,none⟩),.pointer (some ⟨A.heap.size+1,0,none⟩),.pointer (some ⟨A.heap.size+2,0,none⟩)]) rfl (enters_of Tryz.func137 (by kernel_rfl) rfl)
  (spans_seq 7 (by omega) B A.heap.size la wa pa n1 c1 n2 c2 n3 c3 L Wn P lo hi V hS HIn.out.1 HIn.out.2.1 HIn.out.2.2 (by have:=bV.size;omega) h1 h2 h3) ?hKt ?hKb (fun _=>rfl)
  (fun pre U=>(∀ e∈pre,e.2=false)/\U.heap[w.heap.size]? = some (.cells #[.int .i64 0] 3)/\U.heap[w.heap.size+1]? = some (.cells #[.bool false] 4)/\Below w.heap.size w U/\V.heap.size<=U.heap.size)
  (fun cd pre U=>cd = .ret/\(∃ pre' d x,pre=pre' ++ [((d,x),true)]/\(∀ e∈pre',e.2=false)/\U.heap[w.heap.size]? = some (.cells #[.int .i64 d] 3)/\U.heap[w.heap.size+1]? = some (.cells #[.bool true] 4))/\Below w.heap.size w U/\V.heap.size<=U.heap.size)
  ?hI ?hIx ?h0
  (fun x a' U=>∃ b,V.heap.size<=b/\U.heap[b]? = some (.cells #[.int .i64 x.1.1,.int .i64 x.1.2] 48)/\a' = { tmps:=#[.slice la n1 c1,.slice wa n2 c2,.slice pa n3 c3,.int .i64 lo,.int .i64 hi,undef,undef,undef,undef,undef,.pointer (some ⟨w.heap.size,0,none⟩),.pointer (some ⟨w.heap.size+1,0,none⟩),.pointer (some ⟨b,0,none⟩),.bool x.2,.slice la n1 c1,.slice wa n2 c2,.slice pa n3 c3,.int .i64 lo,.int .i64 hi,.func (.func 137) #[] #[.pointer (some ⟨A.heap.size+3,0,none⟩),.pointer (some ⟨A.heap.size+4,0,none⟩),.pointer (some ⟨A.heap.size,0,none⟩),.pointer (some ⟨A.heap.size+1,0,none⟩),.pointer (some ⟨A.heap.size+2,0,none⟩)],.agg #[.int .i64 x.1.1,.int .i64 x.1.2],.bool x.2,undef,undef,undef],defers:=[] })
  ?hAx ?assign ?body ?done ?stop
 case hKt=>exact fun h k=>⟨KpC.trans h.1 k.1,⟨Nat.le_trans h.2.size k.2.size,fun i o e1 e2 e3=>k.2.same i o e1 (h.2.same i o e1 e2 e3) e3⟩⟩
 case hKb =>
  intro U k o o' hk e1 e2 _
  exact⟨KpC.put o' e1 e2,⟨by simp[World.putObj],fun i o2 e3 e4 _=>(World.putObj_heap_other (by omega)).trans e4⟩⟩
 case hI =>
  refine ownFrom_of_belowX (fun pre U U' h hB hb=>?_) (fun pre U h=>h.2.2.2.2)
  obtain⟨k1,k2,k3,k4,k5⟩:=h
  have:=HVs.out
  exact⟨k1,(hb.block _ (by omega)).trans k2,(hb.block _ (by omega)).trans k3,k4.trans (hb.mono (by omega)),Nat.le_trans k5 hb.size⟩
 case hIx =>
  intro cd
  refine ownFrom_of_belowX (fun pre U U' h hB hb=>?_) (fun pre U h=>h.2.2.2)
  obtain⟨k0,⟨pre',d,x,k1,k2,k3,k4⟩,k5,k6⟩:=h
  have:=HVs.out
  exact⟨k0,⟨pre',d,x,k1,k2,(hb.block _ (by omega)).trans k3,(hb.block _ (by omega)).trans k4⟩,k5.trans (hb.mono (by omega)),Nat.le_trans k6 hb.size⟩
 case h0=>exact⟨fun e he=>(by cases he),v0,v1,bV,Nat.le_refl _⟩
 case hAx =>
  rintro x a' s' U U' row ⟨b,k1,k2,k3⟩ hg hr
  refine⟨b,k1,(hg.block b (Array.getElem?_eq_some_iff.1 k2).1 (fun e=>?_)).trans k2,k3⟩
  obtain⟨-,o,e1,e2⟩:=hr b e.symm
  rw[k2] at e1
  cases e1
  cases e2
 case assign =>
  rintro l2 pre ⟨⟨xa,xb⟩,xh⟩ U K ⟨k1,k2,k3,k4,k5⟩ hK
  have HK:=Lib.hid hK
  have bU:Below U.heap.size U (U.alloc (.cells #[.int .i64 xa,.int .i64 xb] 48)):=(Below.refl _ U).alloc (Nat.le_refl _) _
  have HbU:=Lib.hid bU
  have HI2:=Lib.hid (And.intro k1 (And.intro k2 (And.intro k3 (And.intro k4 k5))))
  clear hK bU k1 k2 k3 k4 k5
  unfold spanE
  gi_wp2
  obtain⟨k1,k2,k3,k4,k5⟩:=HI2.out
  have hb:=HbU.out
  have:=HVs.out
  refine HK.out _ _ ⟨hb.size,fun k o _ e1 _=>(hb.block k (Array.getElem?_eq_some_iff.1 e1).1).trans e1⟩ ⟨KpC.below hb,⟨hb.size,fun k o _ e1 _=>(hb.block k (Array.getElem?_eq_some_iff.1 e1).1).trans e1⟩⟩ ⟨k1,(hb.block _ (by omega)).trans k2,(hb.block _ (by omega)).trans k3,k4.trans (hb.mono (by omega)),Nat.le_trans k5 hb.size⟩ ⟨U.heap.size,k5,heap_alloc_new _ _,rfl⟩
 case body =>
  rintro l2 pre ⟨⟨xa,xb⟩,xh⟩ a' U ⟨k1,k2,k3,k4,k5⟩ ⟨b,hb1,hb2,rfl⟩ hlen
  dsimp only at hb2 ⊢
  have g0:U.cell? ⟨b,0,none⟩=some (.int .i64 xa):=by unfold World.cell?;rw[hb2];rfl
  have c0:U.cell? ⟨w.heap.size,0,none⟩=some (.int .i64 0):=by unfold World.cell?;rw[k2];rfl
  have c1':U.cell? ⟨w.heap.size+1,0,none⟩=some (.bool false):=by unfold World.cell?;rw[k3];rfl
  have d0:U.frozen? ⟨w.heap.size,0,none⟩=false:=by unfold World.frozen?;rw[k2];simp
  have d1:U.frozen? ⟨w.heap.size+1,0,none⟩=false:=by unfold World.frozen?;rw[k3];simp
  have HK:=Lib.hid (And.intro k1 (And.intro k2 (And.intro k3 (And.intro k4 k5))))
  clear k1 k2 k3 k4 k5 hb2 hb1 hlen
  cases xh with
  | false =>
   gi_wp2
   obtain⟨k1,k2,k3,k4,k5⟩:=HK.out
   refine⟨⟨Nat.le_refl _,fun _ _ _ h _=>h⟩,⟨KpC.refl _,⟨Nat.le_refl _,fun _ _ _ h _=>h⟩⟩,fun e he=>?_,k2,k3,k4,k5⟩
   rcases List.mem_append.1 he with he | he
   ·exact k1 e he
   ·rw[List.mem_singleton.1 he]
  | true =>
   gi_wp2
   obtain⟨k1,k2,k3,k4,k5⟩:=HK.out
   have:=HVs.out
   refine⟨⟨by rw[size_setCellI,size_setCellI];exact Nat.le_refl _,fun k o e1 e2 _=>?_⟩,rfl,⟨pre,xa,xb,rfl,k1,?_,?_⟩,below_set (below_set k4 _ _ _ (Nat.le_refl _)) _ _ _ (by omega),by rw[size_setCellI,size_setCellI];exact k5⟩
   ·rw[setCell_block _ _ _ _ (by omega),setCell_block _ _ _ _ (by omega)]
    exact e2
   ·rw[setCell_block _ _ _ _ (by omega),heap_setCell_same _ _ 0 _ _ _ k2]
    rfl
   ·rw[heap_setCell_same _ _ 0 _ _ _ ((setCell_block _ _ _ _ (by omega)).trans k3)]
    rfl
 case done =>
  rintro Dd xs U hDd hxs ⟨k1,k2,k3,k4,k5⟩ hd
  have hdn:dayOf (spansL L Wn P lo hi)=none:=dayOf_none (by rw[<- hxs];exact k1)
  have Hdn:=Lib.hid hdn
  have c0:U.cell? ⟨w.heap.size,0,none⟩=some (.int .i64 0):=by unfold World.cell?;rw[k2];rfl
  have c1':U.cell? ⟨w.heap.size+1,0,none⟩=some (.bool false):=by unfold World.cell?;rw[k3];rfl
  have d0:U.frozen? ⟨w.heap.size,0,none⟩=false:=by unfold World.frozen?;rw[k2];simp
  have d1:U.frozen? ⟨w.heap.size+1,0,none⟩=false:=by unfold World.frozen?;rw[k3];simp
  obtain⟨U2,hU2⟩:∃ U2,U2=(U.setCell ⟨w.heap.size,0,none⟩ (.int .i64 0)).setCell ⟨w.heap.size+1,0,none⟩ (.bool false):=⟨_,rfl⟩
  have hv:=HVs.out
  have hd2:U2.heap[Dd]? = some (.deferred (some [])):=by rw[hU2,setCell_block _ _ _ _ (by omega),setCell_block _ _ _ _ (by omega)];exact hd
  have m0:U2.heap[w.heap.size]? = some (.cells #[.int .i64 0] 3):=by
   rw[hU2,setCell_block _ _ _ _ (by omega),heap_setCell_same _ _ 0 _ _ _ k2]
   rfl
  have m1:U2.heap[w.heap.size+1]? = some (.cells #[.bool false] 4):=by
   rw[hU2,heap_setCell_same _ _ 0 _ _ _ ((setCell_block _ _ _ _ (by omega)).trans k3)]
   rfl
  have mb:Below w.heap.size w U2:=by rw[hU2];exact below_set (below_set k4 _ _ _ (Nat.le_refl _)) _ _ _ (by omega)
  have HU2:=Lib.hid hU2
  have HM:=Lib.hid (And.intro hd2 (And.intro m0 (And.intro m1 mb)))
  clear hdn k1 k2 k3 k4 k5 hd hxs hv hU2 hd2 m0 m1 mb
  gi_wp2
  obtain⟨hd2,m0,m1,mb⟩:=HM.out
  rw[<- HU2.out]
  refine⟨by simp,.inl ⟨_,_,rfl,run_takeDeferred hd2,?_⟩⟩
  have hv:=HVs.out
  have p0:(U2.putObj Dd (.deferred none)).cell? ⟨w.heap.size,0,none⟩=some (.int .i64 0):=by have q:(U2.putObj Dd (.deferred none)).heap[w.heap.size]? = U2.heap[w.heap.size]?:=World.putObj_heap_other (by omega);unfold World.cell?;rw[q,m0];rfl
  have p1:(U2.putObj Dd (.deferred none)).cell? ⟨w.heap.size+1,0,none⟩=some (.bool false):=by have q:(U2.putObj Dd (.deferred none)).heap[w.heap.size+1]? = U2.heap[w.heap.size+1]?:=World.putObj_heap_other (by omega);unfold World.cell?;rw[q,m1];rfl
  refine⟨.tuple #[.int .i64 0,.bool false],?_,by rw[Hdn.out];rfl,⟨mb.os,mb.tape,mb.output,by have:=mb.size;simpa [World.putObj] using this,fun k hk=>(World.putObj_heap_other (by omega)).trans (mb.block k hk)⟩⟩
  simp[results,Tryz.f68,go_sem,p0,p1]
 case stop =>
  rintro Dd cd pre U hDd hxs ⟨rfl,⟨pre',d,x,rfl,k1,k2,k3⟩,k4,k5⟩ hd
  have hdn:dayOf (spansL L Wn P lo hi)=some d:=dayOf_some hxs k1
  have Hdn:=Lib.hid hdn
  have HM:=Lib.hid (And.intro hd (And.intro k2 (And.intro k3 k4)))
  clear hdn hxs k1 k2 k3 k4 k5 hd
  gi_wp2
  obtain⟨hd2,m0,m1,mb⟩:=HM.out
  refine⟨by simp,.inl ⟨_,_,rfl,run_takeDeferred hd2,?_⟩⟩
  have hv:=HVs.out
  have p0:(U.putObj Dd (.deferred none)).cell? ⟨w.heap.size,0,none⟩=some (.int .i64 d):=by have q:(U.putObj Dd (.deferred none)).heap[w.heap.size]? = U.heap[w.heap.size]?:=World.putObj_heap_other (by omega);unfold World.cell?;rw[q,m0];rfl
  have p1:(U.putObj Dd (.deferred none)).cell? ⟨w.heap.size+1,0,none⟩=some (.bool true):=by have q:(U.putObj Dd (.deferred none)).heap[w.heap.size+1]? = U.heap[w.heap.size+1]?:=World.putObj_heap_other (by omega);unfold World.cell?;rw[q,m1];rfl
  refine⟨.tuple #[.int .i64 d,.bool true],?_,by rw[Hdn.out];rfl,⟨mb.os,mb.tape,mb.output,by have:=mb.size;simpa [World.putObj] using this,fun k hk=>(World.putObj_heap_other (by omega)).trans (mb.block k hk)⟩⟩
  simp[results,Tryz.f68,go_sem,p0,p1]
end Go.Proofs.YtgplnekpgdhcpaaGreat
