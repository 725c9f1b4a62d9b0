import Derived.Test.YtohlkkannjifmaaGreatDoorORec3
import Derived.Test.YtohlkkannjifmaaGreatDoorORec7
namespace Go.Proofs.YtohlkkannjifmaaGreatDoor
set_option maxHeartbeats 8000000
set_option maxRecDepth 100000
open Go.RowKit
variable {a:Act} {Q:Exit->Act->World->Prop} {L:LK} {b d k l p:Nat} {U:Nat->Prop} {o:Oper} {e t:TypeId} {sv tv v:Value} {W w w1:World}
theorem wpList_append_bytes_at {ops:Array Oper} {rest:List Oper} (hgd:o.guard=none) (s x:Operand)
  (ho:o.op=.call { callee:=.builtin .append,args:=#[s,x],argTypes:=#[27,27] })
  (base B:Nat) (v:Value) (l:List UInt8) (hs:a.eval s=v) (hown:OB base w v l) (sa:Option Addr) (m c:Nat) (k:List UInt8) (hx:a.eval x=.slice sa m c) (hsrc:RB B w sa m c k) (hk:0<k.length)
  (hlen:l.length+k.length<=140737488355328) (hbase:base<=w.heap.size)
  (h:∀ v' w',OB base w' v' (l++k)->w.grownBy w' v.ownBlock->(v'.ownBlock=v.ownBlock∨v'.ownBlock=some w.heap.size)->wpList Tryz.prog ops Q rest (a.put o.dst v') w'):wpList Tryz.prog ops Q (o::rest) a w:=by
 obtain⟨i0,hi,hz0,hz1,hz2⟩:=info_parts Tryz.infoU8;have hm:=hsrc.len;have hle:=hsrc.le;obtain⟨b,o',rfl,hB,hc⟩:=hsrc.at_ (by omega);refine wpList_append_own_at w hgd s x 27 ho base 5 i0 _ 1 1 Tryz.underlying27 hi hz0 hz1 hz2 rfl (by decide) v l.length (l.map bv) hs hown ⟨b,o',none⟩ m c (k.map bv) hx (by simp[hm]) hsrc.cells
  (fun u hu=>by obtain⟨y,_,rfl⟩:=List.mem_map.1 hu;rfl) (by simp only[maxLen];omega) (by omega) hbase ?_
 intro v' w' hown' hg _ hat;refine h v' w' ?_ hg hat;unfold OB;rw[List.length_append,List.map_append,<- hm];exact hown'
theorem wpList_append_one {ops:Array Oper} {rest:List Oper} (hgd:o.guard=none) (s x:Operand) {z:Value}
  (ho:o.op=.call { callee:=.builtin .append,args:=#[s,x],argTypes:=#[t,t] }) (ht:Tryz.prog.underlying t=some (.slice e)) (hinfo:(Tryz.prog.info? e).map (fun i=>(i.zero,i.size,i.bytes))=some (some z,1,8)) (hzs:z.cells.size=1)
  (v:Value) (n:Nat) (xs:List Value) (hs:a.eval s=v) (hown:w.ownsRow 0 e 1 v n xs) (g c:Nat) (u:Value) (hx:a.eval x=.slice (some ⟨g,0,none⟩) 1 c) (hu:w.cell? ⟨g,0,none⟩=some u) (h1:u.oneCell'=true) (hn:n<=1000000000)
  (h:∀ v' w',w'.ownsRow 0 e 1 v' (n+1) (xs++[u])->w.grownBy w' v.ownBlock->(v'.ownBlock=v.ownBlock∨v'.ownBlock=some w.heap.size)->wpList Tryz.prog ops Q rest (a.put o.dst v') w'):wpList Tryz.prog ops Q (o::rest) a w:=by
 obtain⟨i0,hi,hz0,hz1,hz2⟩:=info_parts hinfo;refine wpList_append_own_at w hgd s x t ho 0 e i0 z 1 8 ht hi hz0 hz1 hz2 hzs (by decide) v n xs hs hown ⟨g,0,none⟩ 1 c [u] hx rfl (fun j y hj=>?_) (fun y hy=>by rw[List.mem_singleton] at hy;subst hy;exact h1) (by simp only[maxLen];omega) (by omega) (Nat.zero_le _) fun v' w' h1 h2 _ h4=>h v' w' h1 h2 h4
 match j,hj with
 | 0,hj=>cases hj;exact hu
theorem info_psheet:(Tryz.prog.info? 100).map (fun i=>(i.zero,i.size,i.bytes))=some (some (.pointer none),1,8):=by kernel_rfl
theorem info_i64:(Tryz.prog.info? 2).map (fun i=>(i.zero,i.size,i.bytes))=some (some (.int .i64 0),1,8):=by kernel_rfl
theorem own_slice {n m:Nat} {xs:List Value} (h:w.ownsRow b e n v m xs):∃ a m c,v=.slice a m c:=by
 obtain⟨-,⟨rfl,h0⟩|⟨g',cap,cur,rfl,-⟩⟩:=h
 ·exact⟨none,0,0,rfl⟩
 ·exact⟨_,_,_,rfl⟩
def shObj (s:ShV) (v:Value):Obj:=.cells #[li s.num,li s.turn,li s.before,li s.used,v,li s.safe,.bool s.lost] 105 (0,0)
def logObj (L:LK) (d:Nat) (sv tv:Value):Obj:=.cells #[ptr d,li L.first,li L.count,li L.turn,li L.oldest,sv,tv] 109 (0,0)
theorem set_at {cs:Array Value} (h:w.heap[b]? = some (.cells cs t (0,0))) (i:Nat) (v:Value):(w.setCell ⟨b,i,none⟩ v).heap[b]? = some (.cells (cs.setIfInBounds i v) t (0,0)):=Lib.heap_setCell_same (i:=i) h v
theorem set_ne {i:Nat} (h:k≠b):(w.setCell ⟨b,i,none⟩ v).heap[k]? = w.heap[k]?:=Below.heap_setCell w ⟨b,i,none⟩ v k h
theorem alloc_old {o:Obj} (h:k<w.heap.size):(w.alloc o).heap[k]? = w.heap[k]?:=(Go.MapKept.heap_alloc _ _).2 _ h
theorem ξ {o:Obj} (h:w.heap[k]? = some o):k<w.heap.size:=(Array.getElem?_eq_some_iff.1 h).1
theorem size_set (w:World) (b i:Nat) (v:Value):(w.setCell ⟨b,i,none⟩ v).heap.size=w.heap.size:=by simp[World.setCell]
theorem app_mid {T:List (Nat×Value×ShV)} (h:LV W U l d k L sv tv T p v) (hg:W.grownBy w1 v.ownBlock) (v1:Value) (x:Int) :
  w1.heap[p]? = some (shObj L.last v)/\(w1.setCell ⟨p,4,none⟩ v1).heap[l]? = some (logObj L d sv tv)/\(w1.setCell ⟨p,4,none⟩ v1).heap[p]? = some (shObj L.last v1) /\
  ((w1.setCell ⟨p,4,none⟩ v1).alloc (.cells #[li x] 2)).heap[l]? = some (logObj L d sv tv)/\((w1.setCell ⟨p,4,none⟩ v1).alloc (.cells #[li x] 2)).heap[p]? = some (shObj L.last v1) /\
  ((w1.setCell ⟨p,4,none⟩ v1).alloc (.cells #[li x] 2)).ownsRow 0 2 1 tv L.lsns.length (L.lsns.map li):=by
 have hpl:p≠l:=fun e=>by have:=h.blk;rw[<- e] at this;exact tag_ne this h.lst.blk (by decide)
 have hp:w1.heap[p]? = some (shObj L.last v):=(hg.block p (ξ h.lst.blk) (fun e=>by obtain⟨c,hc⟩:=own_tag h.lst.body e.symm;exact tag_ne hc h.lst.blk (by decide))).trans h.lst.blk;have hl:w1.heap[l]? = some (logObj L d sv tv):=(hg.block l (ξ h.blk) (fun e=>by obtain⟨c,hc⟩:=own_tag h.lst.body e.symm;exact tag_ne hc h.blk (by decide))).trans h.blk;have hl2:(w1.setCell ⟨p,4,none⟩ v1).heap[l]? = some (logObj L d sv tv):=(set_ne (fun e=>hpl e.symm)).trans hl;have hp2:(w1.setCell ⟨p,4,none⟩ v1).heap[p]? = some (shObj L.last v1):=set_at hp 4 v1;refine⟨hp,hl2,hp2,(alloc_old (ξ hl2)).trans hl2,(alloc_old (ξ hp2)).trans hp2,?_⟩;refine ωK h.trow fun g hg'=>?_
 obtain⟨c,hc⟩:=own_tag h.trow hg';have hg1:w1.heap[g]? = W.heap[g]?:=hg.block g (ξ hc) (fun e=>by obtain⟨c',hc'⟩:=own_tag h.lst.body e.symm;exact tag_ne hc' hc (by decide));have hlt:g<w1.heap.size:=Nat.lt_of_lt_of_le (ξ hc) hg.size;rw[alloc_old (by rw[size_set];exact hlt),set_ne (fun e=>by subst e;exact tag_ne hc h.lst.blk (by decide)),hg1]
theorem app_end {w4:World} {T:List (Nat×Value×ShV)} {v1 tv':Value} {b:List UInt8} (h:LV W U l d k L sv tv T p v) (hg:W.grownBy w1 v.ownBlock) (ho:OB 0 w1 v1 (L.last.body++b))
  (ha:v1.ownBlock=v.ownBlock∨v1.ownBlock=some W.heap.size) (hg4:((w1.setCell ⟨p,4,none⟩ v1).alloc (.cells #[li L.end_] 2)).grownBy w4 tv.ownBlock) (ho4:w4.ownsRow 0 2 1 tv' (L.lsns.length+1) (L.lsns.map li++[li L.end_]))
  (ha4:tv'.ownBlock=tv.ownBlock∨tv'.ownBlock=some ((w1.setCell ⟨p,4,none⟩ v1).alloc (.cells #[li L.end_] 2)).heap.size) (hfit:L.last.body.length+b.length<=496) (hb0:0<b.length) :
  w4.heap[l]? = some (logObj L d sv tv)/\LogR (w4.setCell ⟨l,6,none⟩ tv') (fun i=>U i∨(W.heap.size<=i/\i<(w4.setCell ⟨l,6,none⟩ tv').heap.size)) l d (k+1) (L.grow b)/\Trn U W (w4.setCell ⟨l,6,none⟩ tv'):=by
 obtain⟨q1,q2,q3,q4,q5,q6⟩:=app_mid h hg v1 L.end_;have hs4:=hg4.size;have hs1:=hg.size;rw[World.size_alloc,size_set] at hs4;have hpl:p≠l:=fun e=>by have:=h.blk;rw[<- e] at this;exact tag_ne this h.lst.blk (by decide)
 have hne:∀ (i:Nat) (c:Array Value) (t:TypeId),((w1.setCell ⟨p,4,none⟩ v1).alloc (.cells #[li L.end_] 2)).heap[i]? = some (Obj.cells c t (0,0))->t≠2->w4.heap[i]? = ((w1.setCell ⟨p,4,none⟩ v1).alloc (.cells #[li L.end_] 2)).heap[i]?:=fun i c t hi ht =>
  hg4.block i (ξ hi) (fun e=>by obtain⟨c',hc'⟩:=own_tag q6 e.symm;exact tag_ne hi hc' ht)
 have hl4:w4.heap[l]? = some (logObj L d sv tv):=(hne l _ _ q4 (by decide)).trans q4;have hp4:w4.heap[p]? = some (shObj L.last v1):=(hne p _ _ q5 (by decide)).trans q5;have hT:Trn (fun i=>some i=v.ownBlock∨i=p∨some i=tv.ownBlock∨i=l) W (w4.setCell ⟨l,6,none⟩ tv'):=by
  have t1:Trn (fun i=>some i=v.ownBlock∨i=p∨some i=tv.ownBlock∨i=l) W w1:=(Trn.refl _ W).grown hg fun i e=>.inl (.inl e.symm)
  have t2:=(t1.set p 4 v1 (.inl (.inr (.inl rfl)))).alloc (.cells #[li L.end_] 2);have t3:=t2.grown hg4 fun i e=>.inl (.inr (.inr (.inl e.symm)))
  exact t3.set l 6 tv' (.inl (.inr (.inr (.inr rfl))))
 have hv:OB 0 (w4.setCell ⟨l,6,none⟩ tv') v1 (L.last.body++b):=ωK ho fun g hg'=>by
  obtain⟨c,hc⟩:=own_tag ho hg';have hlt:=ξ hc;have hgp:g≠p:=fun e=>by subst e;exact tag_ne hc q1 (by decide)
  have hgl:g≠l:=fun e=>by
   subst e;have:=q2;rw[set_ne (fun e=>hpl e.symm)] at this;exact tag_ne hc this (by decide)
  have h3:((w1.setCell ⟨p,4,none⟩ v1).alloc (.cells #[li L.end_] 2)).heap[g]? = some (.cells c 5 (0,0)):=by
   rw[alloc_old (by rw[size_set];exact hlt),set_ne hgp];exact hc
  rw[set_ne hgl,hne g _ _ h3 (by decide),h3,hc]
 have hlv:=h.grow b hT ((set_ne (fun e=>hpl e)).trans hp4) hv (by rcases ha with e|e;exact .inl e;exact .inr ⟨_,e,Nat.le_refl _⟩) (set_at hl4 6 tv') (ωK ho4 fun g hg'=>by
   obtain⟨c,hc⟩:=own_tag ho4 hg';exact set_ne (fun e=>by subst e;exact tag_ne hc hl4 (by decide))) (by
   rcases ha4 with e|e
   ·exact .inl e
   ·refine .inr ⟨_,e,?_⟩;rw[World.size_alloc,size_set];omega) hfit hb0
 refine⟨hl4,hlv.log,hT.mono fun i hi=>?_⟩;rcases hi with e|e|e|e
 ·exact .inl (h.uw i e.symm)
 ·subst e;exact .inl h.up
 ·exact .inl (h.ut i e.symm)
 ·subst e;exact .inl h.ul
theorem app_tail (U:Nat->Prop) (l d k:Nat) (L:LK) (sv tv:Value) (T:List (Nat×Value×ShV)) (p:Nat) (v:Value) (ab:Option Addr) (nb cb N:Nat) (b:List UInt8) (W:World) (R:Ending->World->Prop)
  (h:LV W U l d k L sv tv T p v) (hb:RB N W ab nb cb b) (hb0:0<b.length) (hfit:L.last.body.length+b.length<=496) (hk:k<=1000000000)
  (hR:∀ U' w',LogR w' U' l d (k+1) (L.grow b)->Trn U W w'->(∀ i,U' i->U i∨W.heap.size<=i)->R (.returned (.tuple #[li L.end_,.int .i64 0])) w') (s1 s2 s3 s4 s5 s7 s9 s10 s11 s12 s13 s14 s15 s16 s17 s18 s19 s20 s21 s22 s23 s24 s25 s26 s27 s28 s29 s30 s31 s32 s33 s34 s35 s36 s37 s38 s39 s40 s41 s42 s43 s44 s45 s46 s47 s48 s49 s50 s51 s52 s53 s54 s55 s56 s57 s58 s59 s60 s61 s62 s63 s64 s65 s66 s67 s68 s69 s70 s71 s72 s73 s74 s75 s76 s77 s78 s79 s80 s81 s82 s83 s84 s85 s86 s87 s88 s89 s90 s91 s92:Value)
  (C:Act->World->Prop) (hC:∀ a w,Code.wp Tryz.prog (dropQ 6 (Tryz.f11.body.getD .skip)) (bodyPost Tryz.prog Tryz.f11 R) a w->C a w) :
  Code.wp Tryz.prog (headQ (dropQ 5 (Tryz.f11.body.getD .skip))) (Exit.then C (bodyPost Tryz.prog Tryz.f11 R)) ⟨List.toArray ((.pointer (some ⟨l,0,none⟩))::s1::s2::s3::s4::s5::(.slice ab nb cb)::s7::(.pointer (some ⟨p,0,none⟩))::s9::s10::s11::s12::s13::s14::s15::s16::s17::s18::s19::s20::s21::s22::s23::s24::s25::s26::s27::s28::s29::s30::s31::s32::s33::s34::s35::s36::s37::s38::s39::s40::s41::s42::s43::s44::s45::s46::s47::s48::s49::s50::s51::s52::s53::s54::s55::s56::s57::s58::s59::s60::s61::s62::s63::s64::s65::s66::s67::s68::s69::s70::s71::s72::s73::s74::s75::s76::s77::s78::s79::s80::s81::s82::s83::s84::s85::s86::s87::s88::s89::s90::s91::s92::[]),[]⟩ W:=by
 have Hbd:=φ h.ok.end_bd;have hlk:=h.ok.lk;obtain⟨va,vc,rfl,hvr⟩:=h.lst.body.rb (by have:=h.ok.end_bd;omega);have HV:=φ h;have HBR:=φ hb;have HF:=φ hfit;have HRR:=φ hR;have c4:W.cell? ⟨p,4,none⟩=some (.slice va L.last.body.length vc):=by
  have:=h.lst.blk;simp[World.cell?,this]
 have HN:=φ (lsn_any W p _ L.last L.last.body.length h.lst Hbd.out.1 Hbd.out.2.1 (by omega) (by have:=Hbd.out;omega));have hvm:=hvr.mx;have hvl:=hvr.le;have HNB:Hid (nb=b.length):=φ hb.len;have hnb1:=hb.mx;have hnb2:=hb.le;have hpl:p≠l:=fun e=>by have:=h.blk;rw[<- e] at this;exact tag_ne this h.lst.blk (by decide)
 clear h hb hfit hR hvr;unfold ptr li at HN
 conv at hC=>enter [a,w,1,2];whnf
 conv=>arg 2;whnf
 go_wp2_with (first|(go_at_call 45;refine HN.out.mono ?_;rintro e w1 ⟨rfl,hw1⟩;replace hw1:=hw1.symm;subst hw1)|(at_builtin;refine wpList_append_bytes_at rfl _ _ rfl 0 N _ L.last.body rfl HV.out.lst.body _ _ _ b rfl HBR.out hb0 (by have:=HF.out;omega) (Nat.zero_le _) ?_;intro v1 w1 ho1 hg1 ha1;obtain⟨a1,m1,e1,rfl⟩:=own_slice ho1;obtain⟨q1,q2,q3,q4,q5,q6⟩:=app_mid HV.out hg1 _ L.end_;have O1:=φ ho1;have A1:=φ ha1;have G1:=φ hg1;have Q6:=φ q6;have f1:w1.frozen? ⟨p,4,none⟩=false:=(by simp[World.frozen?,q1,shObj]);have c1:w1.cell? ⟨p,4,none⟩=some (.slice va L.last.body.length vc):=(by simp[World.cell?,q1,shObj]);have c2:(w1.setCell ⟨p,4,none⟩ (.slice a1 m1 e1)).cell? ⟨l,6,none⟩=some tv:=cell_of_row _ _ 6 _ _ _ q2;clear q1 q2 q3 q4 q5 q6 ho1 hg1 ha1)|(at_builtin;refine wpList_append_one rfl _ _ rfl Tryz.underlying107 info_i64 rfl _ _ _ rfl Q6.out _ _ (li L.end_) rfl (by simp[go_sem,li,LK.end_]) rfl (by omega) ?_;intro v4 w4 ho4 hg4 ha4;obtain⟨a4,m4,e4,rfl⟩:=own_slice ho4;obtain⟨r1,r2,r3⟩:=app_end HV.out G1.out O1.out A1.out hg4 ho4 ha4 HF.out hb0;have f6:w4.frozen? ⟨l,6,none⟩=false:=(by simp[World.frozen?,r1,logObj]);have c6:w4.cell? ⟨l,6,none⟩=some tv:=(by simp[World.cell?,r1,logObj]);have R2:=φ r2;have R3:=φ r3;clear r1 r2 r3 ho4 hg4 ha4));exact HRR.out _ _ R2.out R3.out (fun i hi=>by rcases hi with h|h;exact .inl h;exact .inr h.1)
end Go.Proofs.YtohlkkannjifmaaGreatDoor
