/-  -/
import Derived.Test.YtgplnekpgdhcpaaGreatQBridge
import Derived.Test.YtgplnekpgdhcpaaGreatQFillW
import Derived.Lib.SlKept
import Derived.Shelf.SlSortCmp.KitK
import Derived.Test.YtgplnekpgdhcpaaGreatQWant
import Derived.Test.YtgplnekpgdhcpaaGreatQIdxWant
import Derived.Shelf.SlLaysF0
import Derived.Test.YtgplnekpgdhcpaaGreatQFill
import Derived.Test.YtgplnekpgdhcpaaGreatKFind
import Derived.Laws.StructEq
import Derived.Laws.OwnMore
import Derived.Laws.IdiomStrings
namespace Go.Proofs.YtgplnekpgdhcpaaGreat
section
open Go.RowKit Go.Sort Go.Lib Go.Shelf
theorem setCells_append (b:Nat):∀ (vs us:List Value) (o:Nat) (w:World),w.setCells b o (vs++us)=(w.setCells b o vs).setCells b (o+vs.length) us
 | [],us,o,w=>rfl
 | v::r,us,o,w=>by
  rw[List.cons_append,World.setCells,World.setCells,setCells_append b r us (o+1),List.length_cons,show o+1+r.length=o+(r.length+1) by omega]
section
variable {α:Type} [Inhabited α] {enc:α->List Value} {k:Nat}
theorem flatK_set (hk:∀ x,(enc x).length=k) (d:Array α) (i:Nat) (y:α) (hi:i<d.size):setMany (flatK enc k d) (i*k) (enc y)=flatK enc k (d.setIfInBounds i y):=by
 refine ext_get! (by simp) fun t ht=>?_
 have ht':t<d.size*k:=by simpa using ht
 have k0:0<k:=by
  rcases Nat.eq_zero_or_pos k with h|h
  ·subst h;simp at ht'
  ·exact h
 have htk:t / k<d.size:=Nat.div_lt_of_lt_mul (by rw[Nat.mul_comm];exact ht');rw[get_setMany _ _ _ t (by simpa using ht'),get_flatK _ _ _ t ht',get_flatK _ _ _ t (by simpa using ht'),hk];by_cases a:t / k=i
 ·have m:t-i*k=t % k:=by rw[<- a,Nat.mod_eq_sub_div_mul]
  rw[if_pos ((blk_iff k i t k0).2 a),m,a];simp[getElem!_pos,hi]
 ·rw[if_neg (fun h=>a ((blk_iff k i t k0).1 h)),getElem!_pos d _ htk,getElem!_pos (d.setIfInBounds i y) _ (by simpa using htk),Array.getElem_setIfInBounds_ne htk (Ne.symm a)]
variable {w0 W:World} {blk off:Nat} {dk:Array α}
theorem SWK_set (hk:∀ x,(enc x).length=k) (hb:blk<w0.heap.size) (h:SWK enc k w0 blk off dk W) (i:Nat) (hi:i<dk.size) (y:α):SWK enc k w0 blk off (dk.setIfInBounds i y) (W.setCells blk (off+i*k) (enc y)):=by
 obtain⟨n,os,rfl⟩:=h;refine⟨n,os,?_⟩;have b:i*k+k<=dk.size*k:=by
  have:=Nat.mul_le_mul_right k (show i+1<=dk.size from hi);rwa [Nat.add_mul,Nat.one_mul] at this
 unfold sortWorldK;rw[setCells_grow os blk _ _ _ (by rw[size_putRowK];exact hb)];unfold putRowK;rw[setCells_putRow _ _ _ _ _ _ (by rw[hk,size_flatK];exact b),flatK_set hk dk i y hi]
theorem SWK_lay (hk:∀ x,(enc x).length=k) (hb:blk<w0.heap.size):∀ (ys:List α) (dk:Array α) (W:World) (i:Nat),i+ys.length<=dk.size->SWK enc k w0 blk off dk W->SWK enc k w0 blk off (lay dk i ys) (W.setCells blk (off+i*k) (ys.flatMap enc))
 | [],dk,W,i,_,h=>h
 | y::r,dk,W,i,hi,h=>by
  have hl:i+(r.length+1)<=dk.size:=by simpa using hi
  rw[List.flatMap_cons,setCells_append,hk,lay,show off+i*k+k=off+(i+1)*k by rw[Nat.add_mul,Nat.one_mul];omega];exact SWK_lay hk hb r _ _ _ (by simp;omega) (SWK_set hk hb h i (by omega) y)
end
section
variable {α:Type} [Inhabited α] {E:El α}
theorem zeroCells_rep (x:α) (n:Nat):(Builtin.zeroCells (E.enc x).toArray n).toList=(List.replicate n x).flatMap E.enc:=by
 have hs:(E.enc x).toArray.size=E.k:=by simp[E.len]
 apply List.ext_getElem?;intro t;have hl:((List.replicate n x).flatMap E.enc).length=n*E.k:=by have:=E.cells_len (List.replicate n x);rw[List.length_replicate] at this;exact this
 by_cases ht:t<n*E.k
 ·have hk:=E.kpos;have hi:t / E.k<n:=Nat.div_lt_of_lt_mul (by rw[Nat.mul_comm];exact ht);have hm:t % E.k<E.k:=Nat.mod_lt _ hk;have hat:=E.cells_at (List.replicate n x) (t / E.k) (t % E.k) (by simpa using hi) hm;rw[Nat.div_add_mod' t E.k] at hat;have e2:(List.replicate n x).getD (t / E.k) default=x:=by simp[List.getD_eq_getElem?_getD,hi]
  rw[e2] at hat;show _=(E.cells (List.replicate n x))[t]?;rw[hat];have hl2:=E.len x;unfold Builtin.zeroCells;rw[hs];simp only[Array.getElem?_toList,Array.getElem?_map,Array.getElem?_range,ht,if_true,Option.map_some];rw[List.getElem?_eq_getElem (by omega),getElem!_pos _ _ (by simp;omega)];simp
 ·rw[List.getElem?_eq_none (by unfold Builtin.zeroCells;rw[hs];simp;omega),List.getElem?_eq_none (by rw[hl];omega)]
end
end
section
open Go.RowKit Go.Shelf
structure IxLine (P:Program):Prop where
 fI:P.funcs[61]? = some Tryz.f61
 t3:P.underlying 3=some (TypeDesc.int IntKind.i64)
 a3:∀ w,(isAgg 3).run P w=.ok false w
 z3:∀ w,(Go.sizeOf 3).run P w=.ok 1 w
 v3:∀ w,(zeroValue 3).run P w=.ok (Value.int IntKind.i64 0) w
 t4:P.underlying 4=some (TypeDesc.bool)
 a4:∀ w,(isAgg 4).run P w=.ok false w
 z4:∀ w,(Go.sizeOf 4).run P w=.ok 1 w
 v4:∀ w,(zeroValue 4).run P w=.ok (Value.bool false) w
 t22:P.underlying 24=some (TypeDesc.slice 29)
 a22:∀ w,(isAgg 24).run P w=.ok false w
 z22:∀ w,(Go.sizeOf 24).run P w=.ok 1 w
 v22:∀ w,(zeroValue 24).run P w=.ok (Value.slice none 0 0) w
 a25:∀ w,(isAgg 41).run P w=.ok false w
 z25:∀ w,(Go.sizeOf 41).run P w=.ok 1 w
 v25:∀ w,(zeroValue 41).run P w=.ok (Value.nilFunc) w
 aE:∀ w,(isAgg 29).run P w=.ok true w
 zE:∀ w,(Go.sizeOf 29).run P w=.ok 8 w
theorem ixLine_laid:IxLine Tryz.prog where
 fI:=Tryz.func61
 t3:=Tryz.underlying3
 a3:=Tryz.isAgg3
 z3:=Tryz.sizeOf3
 v3:=Tryz.zeroValue3
 t4:=Tryz.underlying4
 a4:=Tryz.isAgg4
 z4:=Tryz.sizeOf4
 v4:=Tryz.zeroValue4
 t22:=Tryz.underlying24
 a22:=Tryz.isAgg24
 z22:=Tryz.sizeOf24
 v22:=Tryz.zeroValue24
 a25:=Tryz.isAgg41
 z25:=Tryz.sizeOf41
 v25:=Tryz.zeroValue41
 aE:=Tryz.isAgg29
 zE:=Tryz.sizeOf29
section
variable {P:Program}
set_option maxHeartbeats 1000000 in
theorem indexLine_any (L:IxLine P) (p:LineV->Bool) (fn:Nat) (cb:Array Value) (eg:∀ args w,(callFunc fn args).run P w=.ok (.enter fn args) w) (B:Nat) (a:Option Addr) (n c:Nat) (X:List LineV) (w:World) (h:lineE.In B w a n c X) (hB:B<=w.heap.size)
  (hp:∀ (W:World) (x:LineV),Below w.heap.size w W->lineE.ok x->Calls P fn (#[.agg #[.int .i64 x.id,encStr x.item,.int .i64 x.qty,.int .i64 x.asked,.int .i64 x.rank,.int .u8 x.st,.int .i64 x.day,encStr x.code]]++cb) W fun e w'=>e=.returned (.bool (p x))/\Below W.heap.size W w') :
  Calls P 61 #[.slice a n c,.func (.func fn) #[] cb] w fun e w'=>e=.returned (.int .i64 (idxI p X))/\Below w.heap.size w w':=by
 generalize hr:idxI p X=r;have HQ:=Lib.hid hr;clear hr;have hle:=h.le;have hmx:=h.mx;have Hln:=Lib.hid h.len;have H:=Lib.hid h;have HP:=Lib.hid hp;clear h hp;have t3:=L.t3;have a3:=L.a3;have z3:=L.z3;have v3:=L.v3;have t4:=L.t4;have a4:=L.a4;have z4:=L.z4;have v4:=L.v4;have t22:=L.t22;have a22:=L.a22;have z22:=L.z22;have v22:=L.v22;have a25:=L.a25;have z25:=L.z25;have v25:=L.v25;have aE:=L.aE;have zE:=L.zE;have u3:=run_underlying L.t3;have u4:=run_underlying L.t4;have u22:=run_underlying L.t22;have FG:=L.fI;go_enter FG,Tryz.ntmps61;go_wp2_with (fail);go_loopw [8] (fun i wr=>∃ j:Nat,j<=n/\i=.int .i64 j/\Hid (∀ k,k<j->p (X.getD k default)=false)/\Hid (Below w.heap.size w wr)) (fun i _=>n-(intOf i).toNat)
 case atStart=>exact⟨0,Nat.zero_le _,rfl,Lib.hid (fun k hk=>absurd hk (Nat.not_lt_zero _)),Lib.hid (Below.refl _ _)⟩
 case round =>
  obtain⟨j,hj,rfl,hno,Hb⟩:=hrel;by_cases hlt:j<n
  ·obtain⟨b,o,rfl,-,hc⟩:=lineE_at (H.out.below (Hb.out.mono hB)) (by omega);obtain⟨g0,g1,g2,g3,g4,g5,g6,g7⟩:=hc j hlt;have hok:=H.out.ok_at hlt;clear hc;have HC:=Lib.hid (HP.out wr (X.getD j default) Hb.out hok);clear hok
   cases hpx:p (X.getD j default) with
   | true =>
    have hX:=Lib.hid (idxI_some (by rw[<- Hln.out];exact hlt) hno.out hpx);rw[hpx] at HC;clear hpx;generalize X.getD j default=x at g0 g1 g2 g3 g4 g5 g6 g7 HC;obtain⟨x_id,x_item,x_qty,x_asked,x_rank,x_st,x_day,x_code⟩:=x;simp only at g0 g1 g2 g3 g4 g5 g6 g7 HC;go_wp2_with (go_at_fn fn;refine HC.out.mono ?_;rintro e w9 ⟨rfl,hb9⟩);go_ret;exact⟨by rw[<- HQ.out,hX.out];rfl,Hb.out.trans (hb9.mono Hb.out.size)⟩
   | false =>
    have hX:=Lib.hid (hpx);rw[hpx] at HC;clear hpx;have Hno:=Lib.hid (idx_more hno.out hX.out);clear hX;generalize X.getD j default=x at g0 g1 g2 g3 g4 g5 g6 g7 HC;obtain⟨x_id,x_item,x_qty,x_asked,x_rank,x_st,x_day,x_code⟩:=x;simp only at g0 g1 g2 g3 g4 g5 g6 g7 HC;go_wp2_with (go_at_fn fn;refine HC.out.mono ?_;rintro e w9 ⟨rfl,hb9⟩;have B9:=Lib.hid (Hb.out.trans (hb9.mono Hb.out.size));clear hb9);go_roundw
    case rel=>exact⟨j+1,by omega,by go_num,Hno,B9⟩
    case measure=>simp[intOf];omega
  ·have hge:j=n:=by omega
   have hnn:=Lib.hid (idxI_none (by rw[<- Hln.out,<- hge];exact hno.out));go_wp2_with (fail);go_ret;exact⟨by rw[<- HQ.out,hnn.out];rfl,Hb.out⟩
end
end
section
open Go.RowKit Go.Sort Go.Shelf
def FlPost (w:World) (L:List LotV) (W:List WantV) (e:Ending) (w':World):Prop:=Below w.heap.size w w'/\match fillX L W with
 | none=>e=.returned (.tuple #[.slice none 0 0,.bool false])
 | some (U,_)=>∃ v,e=.returned (.tuple #[v,.bool true])/\useE.Own w.heap.size w' v U
set_option maxHeartbeats 2000000 in
theorem fits_any (B:Nat) (a a2:Option Addr) (n c n2 c2:Nat) (L:List LotV) (W:List WantV) (w:World) (hl:lotE.In B w a n c L) (hw:wantE.In B w a2 n2 c2 W) (hB:B<=w.heap.size) (hn:n<=100000000) :
  Calls Tryz.prog 22 #[.slice a n c,.slice a2 n2 c2] w fun e w'=>e=.returned (.bool (fillX L W).isSome)/\Below w.heap.size w w':=by
 have HF:=Lib.hid (fill_any B a a2 n c n2 c2 L W w hl hw hB hn);have hle:=hl.le;have hmx:=hl.mx;have hle2:=hw.le;have hmx2:=hw.mx;clear hl hw;unfold FillPost at HF;generalize fillX L W=R at HF ⊢
 cases R with
 | none =>
  simp only at HF;go_enter Tryz.func22,Tryz.ntmps22;go_wp2_with (go_at_call 53;refine HF.out.mono ?_;rintro e w9 ⟨hb9,rfl⟩);go_ret;exact⟨rfl,hb9⟩
 | some p =>
  obtain⟨U,f⟩:=p;simp only at HF;go_enter Tryz.func22,Tryz.ntmps22;go_wp2_with (go_at_call 53;refine HF.out.mono ?_;rintro e w9 ⟨hb9,v,mb,cnt,rfl,ho9,hm9,hc9⟩;obtain⟨va,vc,hv,-,-,-⟩:=ho9.form;subst hv);go_ret;exact⟨rfl,hb9⟩
end
section
open Go.RowKit Go.Shelf
theorem El.In.drop {α:Type} [Inhabited α] {E:El α} {B:Nat} {w:World} {b o n c:Nat} {X:List α} (h:E.In B w (some ⟨b,o,none⟩) n c X) (m:Nat) (hm:m<=n):E.In B w (some ⟨b,o+m*E.k,none⟩) (n-m) (c-m) (X.drop m):=by
 refine⟨by rw[List.length_drop];have:=h.len;omega,by have:=h.le;omega,by have:=h.mx;omega,fun x hx=>h.fine x (List.mem_of_mem_drop hx),fun hc=>?_⟩;obtain⟨b',o',e,hB,hcell⟩:=h.at_ (by omega)
 cases e
 refine⟨b,_,rfl,hB,fun i hi j hj=>?_⟩;have:=hcell (m+i) (by omega) j hj;rw[Nat.add_mul] at this;rw[show o+m*E.k+i*E.k+j=o+(m*E.k+i*E.k)+j by omega,this,List.getD_eq_getElem?_getD,List.getD_eq_getElem?_getD,List.getElem?_drop]
theorem El.In.sliced {α:Type} [Inhabited α] {E:El α} {B:Nat} {w:World} {b o n c:Nat} {X:List α} (h:E.In B w (some ⟨b,o,none⟩) n c X) (l:Nat) (hl:l<=n) (_hn:0<n):E.In B w (if c=l then some ⟨b,o,none⟩ else some ((⟨b,o,none⟩:Addr).add (l*E.k))) (n-l) (c-l) (X.drop l):=by
 by_cases hc:c=l
 ·rw[if_pos hc];have e:n-l=0:=by have:=h.le;omega
  have e2:X.drop l=[]:=List.drop_eq_nil_of_le (by have:=h.len;have:=h.le;omega);rw[e,e2,hc,Nat.sub_self];exact⟨rfl,Nat.le_refl _,by omega,fun x hx=>(by cases hx),fun hc=>absurd hc (Nat.lt_irrefl _)⟩
 ·rw[if_neg hc];have e:(⟨b,o,none⟩:Addr).add (l*E.k)=⟨b,o+l*E.k,none⟩:=by unfold Addr.add;split<;>simp_all
  rw[e];exact h.drop l hl
def stObj (now nl nx:Int) (v1 v2 v3:Value):Obj:=.cells #[.int .i64 now,.int .i64 nl,.int .i64 nx,v1,v2,v3] 26
theorem stObj_cells {w:World} {p:Nat} {now nl nx:Int} {v1 v2 v3:Value} (h:w.heap[p]? = some (stObj now nl nx v1 v2 v3)):w.cell? ⟨p,0,none⟩=some (.int .i64 now)/\w.cell? ⟨p,1,none⟩=some (.int .i64 nl)/\w.cell? ⟨p,2,none⟩=some (.int .i64 nx)/\w.cell? ⟨p,3,none⟩=some v1/\w.cell? ⟨p,4,none⟩=some v2/\w.cell? ⟨p,5,none⟩=some v3:=by
 unfold stObj at h;refine⟨?_,?_,?_,?_,?_,?_⟩<;>(unfold World.cell?;rw[h];rfl)
end
section
open Go.RowKit Go.Sort Go.Lib Go.Shelf
theorem below_alloc (w:World) (o:Obj):Below w.heap.size w (w.alloc o):=(Below.refl _ w).alloc (Nat.le_refl _) o
end
section
open Go.RowKit Go.Sort Go.Lib Go.Shelf
theorem st_frozen {w:World} {p:Nat} {now nl nx:Int} {v1 v2 v3:Value} (h:w.heap[p]? = some (stObj now nl nx v1 v2 v3)) (k:Nat):w.frozen? ⟨p,k,none⟩=false:=by
 unfold stObj at h;unfold World.frozen?;rw[h];simp
theorem setCell_block (w:World) (p k:Nat) (v:Value) {b:Nat} (hb:b≠p):(w.setCell ⟨p,k,none⟩ v).heap[b]? = w.heap[b]?:=by
 rw[setCell_eq];simp[mapBlock,Array.getElem?_modify,Ne.symm hb]
theorem below_set {B:Nat} {w w1:World} (h:Below B w w1) (p k:Nat) (v:Value) (hp:B<=p):Below B w (w1.setCell ⟨p,k,none⟩ v) :=
 ⟨h.os,h.tape,h.output,by rw[setCell_eq];simpa [mapBlock] using h.size,fun b hb=>by rw[setCell_block _ _ _ _ (by omega)];exact h.block b hb⟩
end
section
open Go.RowKit
def eqP (p q:Pt):Bool:=decide (p.1=q.1) && decide (p.2=q.2)
theorem eqP_iff {p q:Pt}:eqP p q=true↔p=q:=by
 unfold eqP;rw[Bool.and_eq_true,decide_eq_true_eq,decide_eq_true_eq];exact⟨fun h=>Prod.ext h.1 h.2,fun h=>by rw[h];exact⟨rfl,rfl⟩⟩
theorem eqPart (x y:List UInt8) (u v:Int) (w:World):(Op.equalIn 10000 74 (.agg #[encStr x,.int .i64 u]) (.agg #[encStr y,.int .i64 v])).run Tryz.prog w=.ok (eqP (x,u) (y,v)) w:=by
 have u2:=Tryz.underlying2;have a2:=Tryz.isAgg2;have z2:=Tryz.sizeOf2;have u9:=Tryz.underlying9;have a9:=Tryz.isAgg9;have z9:=Tryz.sizeOf9;have hS:Tryz.prog.underlying 74=some (.struct (Tryz.prog.fieldsOf 74)):=by kernel_rfl
 have hp:Tryz.prog.stoodInHeld 74=false:=by kernel_rfl
 rw[show (10000:Nat)=9999+1 from rfl,run_equalIn_agg w 9999 74 _ _ hS hp];simp only[Program.fieldsOf,Tryz.underlying74];go_simp;unfold eqP;by_cases h1:x=y<;>by_cases h2:u=v<;>simp[h1,h2]
theorem takeP_succ {P Q:List Pt} {k:Nat} (hk:k<P.length) (hk2:k<Q.length) (h:P.take k=Q.take k) (he:P.getD k default=Q.getD k default):P.take (k+1)=Q.take (k+1):=by
 rw[List.take_succ_eq_append_getElem hk,List.take_succ_eq_append_getElem hk2,h];simp only[List.getD,List.getElem?_eq_getElem hk,List.getElem?_eq_getElem hk2,Option.getD_some] at he;rw[he]
set_option maxHeartbeats 4000000 in
theorem SameParts_any (B:Nat) (a b:Option Addr) (n m c d:Nat) (P Q:List Pt) (w:World) (hp:RP B w a n c P) (hq:RP B w b m d Q) :
  Calls Tryz.prog 109 #[.slice a n c,.slice b m d] w fun e w'=>e=.returned (.bool (decide (P=Q)))/\∃ q,w'=w.drewN q:=by
 have hle:=hp.le;have hmx:=hp.mx;have hle2:=hq.le;have hmx2:=hq.mx;have Hln:=Lib.hid hp.len;have Hln2:=Lib.hid hq.len;by_cases hnm:n=m
 ·subst hnm;go_enter Tryz.func109,Tryz.ntmps109;go_wp2_with (fail);go_loopw [5] (fun i wr=>∃ j:Nat,j<=n/\i=.int .i64 j/\Hid (P.take j=Q.take j)/\∃ q,wr=w.drewN q) (fun i _=>n-(intOf i).toNat)
  case atStart=>exact⟨0,Nat.zero_le _,rfl,Lib.hid rfl,0,rfl⟩
  case round =>
   obtain⟨j,hj,rfl,ht,q,rfl⟩:=hrel;by_cases hlt:j<n
   ·obtain⟨b1,o1,rfl,-,hc1⟩:=hp.at_ (by omega);obtain⟨b2,o2,rfl,-,hc2⟩:=hq.at_ (by omega);obtain⟨g1,g2⟩:=hc1 j hlt;obtain⟨k1,k2⟩:=hc2 j hlt;clear hc1 hc2;have Hsucc:=Lib.hid (fun he=>takeP_succ (by rw[<- Hln.out];exact hlt) (by rw[<- Hln2.out];exact hlt) ht.out he);have Hno:=Lib.hid (show P.getD j default≠Q.getD j default->decide (P=Q)=false from fun hne=>decide_eq_false fun e=>hne (by rw[e]));generalize P.getD j default=p at g1 g2 Hsucc Hno;generalize Q.getD j default=p' at k1 k2 Hsucc Hno;obtain⟨x,u⟩:=p;obtain⟨y,v⟩:=p';simp only at g1 g2 k1 k2
    cases he:eqP (x,u) (y,v) with
    | true =>
     have Hs:=Lib.hid (Hsucc.out (eqP_iff.1 he));have heq:∀ w,(Op.equalIn 10000 74 (.agg #[encStr x,.int .i64 u]) (.agg #[encStr y,.int .i64 v])).run Tryz.prog w=.ok true w:=fun w=>by rw[eqPart,he]
     clear he Hno;go_wp2_with (fail);go_quiet (fail);go_wp2_with (fail);go_roundw
     case rel=>exact⟨j+1,by omega,by go_num,Hs,_,rfl⟩
     case measure=>simp[intOf];omega
    | false =>
     have Hn:=Lib.hid (Hno.out (fun e=>by rw[eqP_iff.2 e] at he;cases he));have heq:∀ w,(Op.equalIn 10000 74 (.agg #[encStr x,.int .i64 u]) (.agg #[encStr y,.int .i64 v])).run Tryz.prog w=.ok false w:=fun w=>by rw[eqPart,he]
     clear he Hsucc;go_wp2_with (fail);go_quiet (fail);go_wp2_with (fail);go_ret;rw[Hn.out];exact⟨rfl,_,World.drewN_drewN _ _ _⟩
   ·have hge:n<=j:=(by omega);go_wp2_with (fail);go_ret;have:P=Q:=by
     have:=ht.out
     rwa [List.take_of_length_le (by rw[<- Hln.out];exact hge),List.take_of_length_le (by rw[<- Hln2.out];exact hge)] at this
    rw[decide_eq_true this];exact⟨rfl,_,rfl⟩
 ·have hne:decide (P=Q)=false:=decide_eq_false fun e=>hnm (by rw[Hln.out,Hln2.out,e])
  rw[hne];go_enter Tryz.func109,Tryz.ntmps109;go_wp2_with (fail);go_ret;exact⟨rfl,0,rfl⟩
end
section
open Go.RowKit
def mkPt (k i:Nat):Pt:=([],(markN k i:Int))
theorem markPart_any (k i:Nat) (w:World) (hk:k<=1000000) (hi:i<=1000000000) :
  Calls Tryz.prog 129 #[.int .i64 k,.int .i64 i] w fun e w'=>e=.returned (.agg #[.string ⟨#[]⟩,.int .i64 (markN k i:Nat)])/\Below w.heap.size w w':=by
 have HM:=Lib.hid (fun W=>mark_any k i W hk hi);have hm:=markN_bd k i hk hi;generalize markN k i=m at HM hm;have hw:=wrap_in (x:=(m:Int)) (by omega) (by omega);have HB:=Lib.hid (fun c:Array Value=>(Below.refl w.heap.size w).alloc (Nat.le_refl _) (.cells c 74));have HB2:=Lib.hid (fun (c:Array Value) (v:Value)=>((Below.refl w.heap.size w).alloc (Nat.le_refl _) (.cells c 74)).setCell (p:=⟨w.heap.size,1,none⟩) (Nat.le_refl _) v);go_enter Tryz.func129,Tryz.ntmps129;go_wp2_with (go_at_call 96;refine (HM.out _).mono ?_;rintro e w' ⟨rfl,rfl⟩);go_returns;exact⟨rfl,by first|exact HB.out _|exact HB2.out _ _⟩
theorem OP.form {base:Nat} {W:World} {v:Value} {l:List Pt} (h:OP base W v l) (hv:v≠.slice none 0 0):∃ g c,v=.slice (some ⟨g,0,none⟩) l.length c/\l.length<=c/\c<=9223372036854775807:=by
 obtain⟨e,⟨h1,-⟩|⟨g,cap,cur,h1,-,-,h3,h4,-⟩⟩:=h
 ·exact absurd h1 hv
 ·exact⟨g,cap,h1,h3,by simpa [maxLen] using h4⟩
theorem run_append_parts2 {w:World} {base:Nat} {v:Value} {P Q:List Pt} (h:OP base w v P) (ty:TypeId) (sa:Option Addr) (c:Nat) (hsrc:0<Q.length->∃ ad,sa=some ad/\∀ j u,(cellsP Q)[j]? = some u->w.cell? (ad.add j)=some u)
  (hbase:base<=w.heap.size) (hsize:(P.length+Q.length)*24<=140737488355328) (hv:v≠.slice none 0 0) :
  ∃ g c' w',(Builtin.append_ #[64,64] ty #[v,.slice sa Q.length c]).run Tryz.prog w=.ok (.slice (some ⟨g,0,none⟩) (P.length+Q.length) c') w'/\(P.length+Q.length<=c'/\c'<=9223372036854775807)/\OP base w' (.slice (some ⟨g,0,none⟩) (P.length+Q.length) c') (P++Q)/\w.grownBy w' v.ownBlock:=by
 obtain⟨i0,hi,hz0,hz1,hz2⟩:=info_parts Tryz.infoPart;by_cases h0:Q.length=0
 ·obtain rfl:Q=[]:=List.eq_nil_of_length_eq_zero h0;obtain⟨g,vc,rfl,hle,hmx⟩:=h.form hv;have hrun:=run_append_nothing (P:=Tryz.prog) w 64 ty 74 i0 Tryz.underlying64 hi (some ⟨g,0,none⟩) sa P.length vc c hle;exact⟨g,vc,w,hrun,⟨by simpa using hle,hmx⟩,by simpa using h,⟨rfl,rfl,rfl,Nat.le_refl _,fun _ _ _=>rfl⟩⟩
 ·obtain⟨ad,rfl,hcell⟩:=hsrc (by omega);obtain⟨v',w',hrun,hown,hg,hn⟩:=run_append_own (P:=Tryz.prog) w base 64 ty 74 i0 _ 2 24 Tryz.underlying64 hi hz0 hz1 hz2 rfl (by decide) v P.length (cellsP P) h ad Q.length c (cellsP Q) (cellsP_len Q) hcell
   cellsP_one (by simp only[maxLen];omega) hsize hbase
  have ho:OP base w' v' (P++Q):=by
   unfold OP;rw[List.length_append,cellsP_append];exact hown
  obtain⟨g,vc,rfl,hle,hmx⟩:=ho.form (fun e=>hv (hn.1 e).1);rw[List.length_append] at hrun hle ho;exact⟨g,vc,w',hrun,⟨hle,hmx⟩,ho,hg⟩
theorem wpList_append_parts2 {w:World} {ops:Array Oper} {rest:List Oper} {o:Oper} {a:Act} {K:Exit->Act->World->Prop} (hgd:o.guard=none) (s x:Operand)
  (ho:o.op=.call { callee:=.builtin .append,args:=#[s,x],argTypes:=#[64,64] }) (base g0 n0 c0:Nat) (P R:List Pt) (hs:a.eval s=.slice (some ⟨g0,0,none⟩) n0 c0) (h:OP base w (.slice (some ⟨g0,0,none⟩) n0 c0) P) (sa:Option Addr) (m c:Nat)
  (hx:a.eval x=.slice sa m c) (hm:m=R.length) (hsrc:0<R.length->∃ ad,sa=some ad/\∀ j u,(cellsP R)[j]? = some u->w.cell? (ad.add j)=some u) (hbase:base<=w.heap.size) (hsize:(P.length+R.length)*24<=140737488355328)
  (hK:∀ g' c' w',(n0+m<=c'/\c'<=9223372036854775807)->OP base w' (.slice (some ⟨g',0,none⟩) (n0+m) c') (P++R)->w.grownBy w' (some g0)->wpList Tryz.prog ops K rest (a.put o.dst (.slice (some ⟨g',0,none⟩) (n0+m) c')) w'):wpList Tryz.prog ops K (o::rest) a w:=by
 subst hm;have hn0:n0=P.length:=by
  obtain⟨g,vc,e,-⟩:=h.form (fun e=>by cases e)
  cases e;rfl
 subst hn0;obtain⟨g',c',w',hr,hc,hq,hg⟩:=run_append_parts2 h o.type sa c hsrc hbase hsize (fun e=>by cases e);refine wpList_plain hgd fun K' hK'=>?_
 unfold Oper.wp execOp;simp only[ho,resolve,invoke,builtin,Sem.run_bind,Sem.run_pure,Result.andThen_ok,List.map_toArray,List.map_cons,List.map_nil,hs,hx,hr];exact hK' _ _ (hK g' c' w' hc hq hg)
theorem wpList_append_partsF {w:World} {ops:Array Oper} {rest:List Oper} {o:Oper} {a:Act} {K:Exit->Act->World->Prop} (hgd:o.guard=none) (s x:Operand)
  (ho:o.op=.call { callee:=.builtin .append,args:=#[s,x],argTypes:=#[64,64] }) (base g0 n0 c0:Nat) (P R:List Pt) (hs:a.eval s=.slice (some ⟨g0,0,none⟩) n0 c0) (h:OP base w (.slice (some ⟨g0,0,none⟩) n0 c0) P) (sa:Option Addr) (m c:Nat)
  (hx:a.eval x=.slice sa m c) (hm:m=R.length) (hsrc:0<R.length->∃ ad,sa=some ad/\∀ j u,(cellsP R)[j]? = some u->w.cell? (ad.add j)=some u) (hroom:n0+m<=c0)
  (hK:∀ w',OP base w' (.slice (some ⟨g0,0,none⟩) (n0+m) c0) (P++R)->w.grownBy w' (some g0)->wpList Tryz.prog ops K rest (a.put o.dst (.slice (some ⟨g0,0,none⟩) (n0+m) c0)) w'):wpList Tryz.prog ops K (o::rest) a w:=by
 subst hm;obtain⟨i0,hi,hz0,hz1,hz2⟩:=info_parts Tryz.infoPart;have hn0:n0=P.length:=by
  obtain⟨e,⟨h1,-⟩|⟨g,cap,cur,h1,-⟩⟩:=h
  ·cases h1
  ·cases h1;simp
 subst hn0;have hrun:∃ w',(Builtin.append_ #[64,64] o.type #[.slice (some ⟨g0,0,none⟩) P.length c0,.slice sa R.length c]).run Tryz.prog w=.ok (.slice (some ⟨g0,0,none⟩) (P.length+R.length) c0) w'/\OP base w' (.slice (some ⟨g0,0,none⟩) (P.length+R.length) c0) (P++R)/\w.grownBy w' (some g0):=by
  by_cases h0:R.length=0
  ·obtain rfl:R=[]:=List.eq_nil_of_length_eq_zero h0;exact⟨w,run_append_nothing (P:=Tryz.prog) w 64 o.type 74 i0 Tryz.underlying64 hi (some ⟨g0,0,none⟩) sa P.length c0 c (by omega),by simpa using h,⟨rfl,rfl,rfl,Nat.le_refl _,fun _ _ _=>rfl⟩⟩
  ·obtain⟨ad,rfl,hcell⟩:=hsrc (by omega);obtain⟨w',hr,hown,hg⟩:=run_append_fits (P:=Tryz.prog) w base 64 o.type 74 i0 2 Tryz.underlying64 hi hz1 g0 P.length c0 (cellsP P) (by simpa [OP] using h) ad R.length c (cellsP R) (cellsP_len R) hcell cellsP_one hroom;refine⟨w',hr,?_,hg⟩;unfold OP;rw[List.length_append,cellsP_append];exact hown
 obtain⟨w',hr,ho2,hg⟩:=hrun;refine wpList_plain hgd fun K' hK'=>?_
 unfold Oper.wp execOp;simp only[ho,resolve,invoke,builtin,Sem.run_bind,Sem.run_pure,Result.andThen_ok,List.map_toArray,List.map_cons,List.map_nil,hs,hx,hr];exact hK' _ _ (hK w' ho2 hg)
theorem one_part (W:World) (p:Pt) (t:TypeId):∀ j u,(cellsP [p])[j]? = some u->(W.alloc (.cells #[encStr p.1,.int .i64 p.2] t)).cell? ((⟨W.heap.size,0,none⟩:Addr).add j)=some u:=by
 intro j u hu;have e:(⟨W.heap.size,0,none⟩:Addr).add j=⟨W.heap.size,0+j,none⟩:=by unfold Addr.add;split<;>simp_all
 rw[e];simp only[World.cell?,(Go.MapKept.heap_alloc W _).1];simpa [cellsP,encP] using hu
def lentP:List Pt:=(List.range 12).map fun i=>mkPt 1 i
theorem lentP_len:lentP.length=12:=by simp[lentP]
theorem lentP_at (j:Nat) (h:j<12):lentP[j]'(by rw[lentP_len];exact h)=mkPt 1 j:=by simp[lentP]
theorem lentP_take (j:Nat) (h:j<12):lentP.take (j+1)=lentP.take j++[mkPt 1 j]:=by
 rw[List.take_succ_eq_append_getElem (by rw[lentP_len];exact h),lentP_at j h]
set_option maxHeartbeats 2000000 in
set_option maxRecDepth 100000 in
theorem LentParts_any (N:Nat) (a:Option Addr) (n c:Nat) (L:List Pt) (w:World) (hr:RP N w a n c L) (hN:N<=w.heap.size) (hs:n*24<=140737488355328) :
  Calls Tryz.prog 94 #[.slice a n c] w fun e w'=>(∃ g c',e=.returned (.slice (some ⟨g,0,none⟩) n c')/\(n+12<=c'/\c'<=9223372036854775807)/\OP w.heap.size w' (.slice (some ⟨g,0,none⟩) (n+12) c') (L++lentP))/\Below w.heap.size w w':=by
 obtain⟨i0,hi,hz0,hz1,hz2⟩:=info_parts Tryz.infoPart;have hln:=hr.len;have hle:=hr.le;have hmx:=hr.mx;have Hln:=Lib.hid hln;have Hr:=Lib.hid hr;have Hi:=Lib.hid hi;have Hz0:=Lib.hid hz0;have Hz1:=Lib.hid hz1;have hb0:i0.bytes*(n+12)<=281474976710656:=by rw[hz2];omega
 have Hb0:=Lib.hid hb0;clear hi hz0 hz1 hz2 hr hln hb0;go_enter Tryz.func94,Tryz.ntmps94;go_wp2_with (first
  | (refine wpList_make_own _ rfl _ _ 64 rfl w.heap.size 74 i0 _ 2 Tryz.underlying64 Hi.out Hz0.out Hz1.out .i64 .i64 _ (n+12) rfl rfl (by omega) Hb0.out (by simp only[maxLen];omega) (Nat.le_refl _) ?_;intro w1 hown1 hg1;have O1:Hid (OP w.heap.size w1 (.slice (some ⟨w.heap.size,0,none⟩) 0 (n+12)) []):=Lib.hid hown1;have B1:Hid (Below w.heap.size w w1):=Lib.hid ((Below.refl _ w).grown hg1 (Nat.le_refl _) (fun r e=>by cases e));clear hown1 hg1)
  | (at_builtin;refine wpList_append_partsF rfl _ _ rfl w.heap.size w.heap.size 0 (n+12) [] L rfl O1.out _ _ _ rfl Hln.out (Hr.out.below (B1.out.mono hN)).src (by omega) ?_;intro w2 hown2 hg2))
 rw[List.nil_append,Nat.zero_add] at hown2;have O2:=Lib.hid hown2;have B2:Hid (Below w.heap.size w w2):=Lib.hid (B1.out.grown hg2 B1.out.size (fun r e=>by cases e;exact Nat.le_refl _));clear hown2 hg2
 try rw[Nat.zero_add]
 go_wp2_with (fail);go_loopw [3,4] (fun v i wr=>∃ (j:Nat),j<=12/\i=.int .i64 j/\v=.slice (some ⟨w.heap.size,0,none⟩) (n+j) (n+12)/\Hid (OP w.heap.size wr (.slice (some ⟨w.heap.size,0,none⟩) (n+j) (n+12)) (L++lentP.take j))/\Hid (Below w.heap.size w wr)) (fun _ i _=>12-(intOf i).toNat)
 case atStart=>exact⟨0,by omega,rfl,rfl,by simpa using O2,B2⟩
 case round =>
  obtain⟨j,hj,rfl,rfl,Ho,Hb⟩:=hrel;by_cases hlt:j<12
  ·have HM:=Lib.hid (fun W=>markPart_any 1 j W (by omega) (by omega));have hsz:=Hb.out.size;have htk:=lentP_take j hlt;unfold mkPt at htk;obtain⟨m,hm⟩:∃ m,m=markN 1 j:=⟨_,rfl⟩
   rw[<- hm] at HM htk;have Htk:=Lib.hid htk;clear hm htk;go_wp2_with (first|(go_at_call 129;refine (HM.out _).mono ?_;rintro e wm ⟨rfl,hbm⟩;have O3:=Lib.hid ((Ho.out.below hbm).below ((Below.refl _ wm).alloc (Nat.le_refl _) (.cells #[.string ⟨#[]⟩,.int .i64 (m:Int)] 74)));have Bm:=Lib.hid (Hb.out.trans (hbm.mono hsz));clear hbm)|(at_builtin;refine wpList_append_partsF rfl _ _ rfl w.heap.size w.heap.size (n+j) (n+12) (L++lentP.take j) [([],(m:Int))] rfl O3.out _ 1 _ rfl rfl (fun _=>⟨_,rfl,one_part _ ([],(m:Int)) _⟩) (by omega) ?_;intro w4 hown4 hg4));have O4:=Lib.hid (show OP w.heap.size w4 (.slice (some ⟨w.heap.size,0,none⟩) (n+(j+1)) (n+12)) (L++lentP.take (j+1)) from by rw[Htk.out,<- List.append_assoc];exact hown4);have B4:Hid (Below w.heap.size w w4):=Lib.hid ((Bm.out.alloc Bm.out.size _).grown hg4 (by have:=Bm.out.size;simp;omega) (fun r e=>by cases e;exact Nat.le_refl _));clear hown4 hg4;go_roundw
   case rel=>exact⟨j+1,by omega,by go_num,by go_num,O4,B4⟩
   case measure=>simp[intOf];omega
  ·have hge:j=12:=by omega
   subst hge;go_wp2_with (fail);go_ret;refine⟨⟨w.heap.size,n+12,rfl,⟨Nat.le_refl _,by omega⟩,?_⟩,Hb.out⟩;have h:=Ho.out;rw[List.take_of_length_le (Nat.le_of_eq lentP_len)] at h;exact h
end
section
open Go.RowKit
theorem takeT_succ {P Q:List (List UInt8)} {k:Nat} (hk:k<P.length) (hk2:k<Q.length) (h:P.take k=Q.take k) (he:P.getD k []=Q.getD k []):P.take (k+1)=Q.take (k+1):=by
 rw[List.take_succ_eq_append_getElem hk,List.take_succ_eq_append_getElem hk2,h];simp only[List.getD,List.getElem?_eq_getElem hk,List.getElem?_eq_getElem hk2,Option.getD_some] at he;rw[he]
set_option maxHeartbeats 4000000 in
theorem SameTexts_any (B:Nat) (a b:Option Addr) (n m c d:Nat) (P Q:List (List UInt8)) (w:World) (hp:RT B w a n c P) (hq:RT B w b m d Q) :
  Calls Tryz.prog 110 #[.slice a n c,.slice b m d] w fun e w'=>e=.returned (.bool (decide (P=Q)))/\∃ q,w'=w.drewN q:=by
 have hle:=hp.le;have hmx:=hp.mx;have hle2:=hq.le;have hmx2:=hq.mx;have Hln:=Lib.hid hp.len;have Hln2:=Lib.hid hq.len;by_cases hnm:n=m
 ·subst hnm;go_enter Tryz.func110,Tryz.ntmps110;go_wp2_with (fail);go_loopw [5] (fun i wr=>∃ j:Nat,j<=n/\i=.int .i64 j/\Hid (P.take j=Q.take j)/\∃ q,wr=w.drewN q) (fun i _=>n-(intOf i).toNat)
  case atStart=>exact⟨0,Nat.zero_le _,rfl,Lib.hid rfl,0,rfl⟩
  case round =>
   obtain⟨j,hj,rfl,ht,q,rfl⟩:=hrel;by_cases hlt:j<n
   ·obtain⟨b1,o1,rfl,-,hc1⟩:=hp.at_ (by omega);obtain⟨b2,o2,rfl,-,hc2⟩:=hq.at_ (by omega);have g1:=hc1 j hlt;have k1:=hc2 j hlt;clear hc1 hc2;have Hsucc:=Lib.hid (fun he=>takeT_succ (by rw[<- Hln.out];exact hlt) (by rw[<- Hln2.out];exact hlt) ht.out he);have Hno:=Lib.hid (show P.getD j []≠Q.getD j []->decide (P=Q)=false from fun hne=>decide_eq_false fun e=>hne (by rw[e]));generalize P.getD j []=x at g1 Hsucc Hno;generalize Q.getD j []=y at k1 Hsucc Hno;unfold encStr at g1 k1;by_cases he:x=y
    ·have Hs:=Lib.hid (Hsucc.out he);subst he;clear Hno;go_wp2_with (fail);go_quiet (fail);go_wp2_with (fail);go_roundw
     case rel=>exact⟨j+1,by omega,by go_num,Hs,_,rfl⟩
     case measure=>simp[intOf];omega
    ·have Hn:=Lib.hid (Hno.out he);have hf:(x == y)=false:=(by simpa using he);have hf2:(x != y)=true:=(by simpa using he);clear Hsucc;go_wp2_with (fail);go_quiet (fail);go_wp2_with (fail);go_ret;rw[Hn.out];exact⟨rfl,_,World.drewN_drewN _ _ _⟩
   ·have hge:n<=j:=(by omega);go_wp2_with (fail);go_ret;have:P=Q:=by
     have:=ht.out
     rwa [List.take_of_length_le (by rw[<- Hln.out];exact hge),List.take_of_length_le (by rw[<- Hln2.out];exact hge)] at this
    rw[decide_eq_true this];exact⟨rfl,_,rfl⟩
 ·have hne:decide (P=Q)=false:=decide_eq_false fun e=>hnm (by rw[Hln.out,Hln2.out,e])
  rw[hne];go_enter Tryz.func110,Tryz.ntmps110;go_wp2_with (fail);go_ret;exact⟨rfl,0,rfl⟩
end
section
open Go.RowKit
theorem conv8 (w:World) (a b c d e f g h:UInt8):(convert 187 9 (.slice (some ⟨w.heap.size,0,none⟩) 8 8)).run Tryz.prog (w.alloc (.cells #[.int .u8 a.toNat,.int .u8 b.toNat,.int .u8 c.toNat,.int .u8 d.toNat,.int .u8 e.toNat,.int .u8 f.toNat,.int .u8 g.toNat,.int .u8 h.toNat] 5))=.ok (.string ⟨#[a,b,c,d,e,f,g,h]⟩) (w.alloc (.cells #[.int .u8 a.toNat,.int .u8 b.toNat,.int .u8 c.toNat,.int .u8 d.toNat,.int .u8 e.toNat,.int .u8 f.toNat,.int .u8 g.toNat,.int .u8 h.toNat] 5)):=by
 refine run_convert_bytes_back (P:=Tryz.prog) _ _ _ 5 ⟨w.heap.size,0,none⟩ 8 [a,b,c,d,e,f,g,h] Tryz.underlying187 Tryz.underlying5 Tryz.underlying9 fun j hj=>?_
 have e1:(⟨w.heap.size,0,none⟩:Addr).add j=⟨w.heap.size,j,none⟩:=by unfold Addr.add;split<;>simp_all
 rw[e1,World.cell?_alloc_new];have hj8:j<8:=hj;obtain rfl|rfl|rfl|rfl|rfl|rfl|rfl|rfl:j=0∨j=1∨j=2∨j=3∨j=4∨j=5∨j=6∨j=7:=by omega
 all_goals rfl
def mkTx (i:Nat):List UInt8:=[35,1,0,0,47,UInt8.ofNat i,0,0]
set_option maxHeartbeats 4000000 in
set_option maxRecDepth 100000 in
theorem markText_any (i:Nat) (w:World) (hi:i<12) :
  Calls Tryz.prog 130 #[.int .i64 1,.int .i64 i] w fun e w'=>e=.returned (encStr (mkTx i))/\Below w.heap.size w w':=by
 have HB:=Lib.hid (fun c:Array Value=>(Below.refl w.heap.size w).alloc (Nat.le_refl _) (.cells c 5));obtain rfl|rfl|rfl|rfl|rfl|rfl|rfl|rfl|rfl|rfl|rfl|rfl:i=0∨i=1∨i=2∨i=3∨i=4∨i=5∨i=6∨i=7∨i=8∨i=9∨i=10∨i=11:=by omega
 ·have hcv:(convert 187 9 (.slice (some ⟨w.heap.size,0,none⟩) 8 8)).run Tryz.prog (w.alloc (.cells #[.int .u8 35,.int .u8 1,.int .u8 0,.int .u8 0,.int .u8 47,.int .u8 0,.int .u8 0,.int .u8 0] 5))=.ok (.string ⟨#[35,1,0,0,47,0,0,0]⟩) (w.alloc (.cells #[.int .u8 35,.int .u8 1,.int .u8 0,.int .u8 0,.int .u8 47,.int .u8 0,.int .u8 0,.int .u8 0] 5)):=conv8 w 35 1 0 0 47 0 0 0;go_enter Tryz.func130,Tryz.ntmps130;go_wp2_with (fail);go_ret;exact⟨rfl,HB.out _⟩
 ·have hcv:(convert 187 9 (.slice (some ⟨w.heap.size,0,none⟩) 8 8)).run Tryz.prog (w.alloc (.cells #[.int .u8 35,.int .u8 1,.int .u8 0,.int .u8 0,.int .u8 47,.int .u8 1,.int .u8 0,.int .u8 0] 5))=.ok (.string ⟨#[35,1,0,0,47,1,0,0]⟩) (w.alloc (.cells #[.int .u8 35,.int .u8 1,.int .u8 0,.int .u8 0,.int .u8 47,.int .u8 1,.int .u8 0,.int .u8 0] 5)):=conv8 w 35 1 0 0 47 1 0 0;go_enter Tryz.func130,Tryz.ntmps130;go_wp2_with (fail);go_ret;exact⟨rfl,HB.out _⟩
 ·have hcv:(convert 187 9 (.slice (some ⟨w.heap.size,0,none⟩) 8 8)).run Tryz.prog (w.alloc (.cells #[.int .u8 35,.int .u8 1,.int .u8 0,.int .u8 0,.int .u8 47,.int .u8 2,.int .u8 0,.int .u8 0] 5))=.ok (.string ⟨#[35,1,0,0,47,2,0,0]⟩) (w.alloc (.cells #[.int .u8 35,.int .u8 1,.int .u8 0,.int .u8 0,.int .u8 47,.int .u8 2,.int .u8 0,.int .u8 0] 5)):=conv8 w 35 1 0 0 47 2 0 0;go_enter Tryz.func130,Tryz.ntmps130;go_wp2_with (fail);go_ret;exact⟨rfl,HB.out _⟩
 ·have hcv:(convert 187 9 (.slice (some ⟨w.heap.size,0,none⟩) 8 8)).run Tryz.prog (w.alloc (.cells #[.int .u8 35,.int .u8 1,.int .u8 0,.int .u8 0,.int .u8 47,.int .u8 3,.int .u8 0,.int .u8 0] 5))=.ok (.string ⟨#[35,1,0,0,47,3,0,0]⟩) (w.alloc (.cells #[.int .u8 35,.int .u8 1,.int .u8 0,.int .u8 0,.int .u8 47,.int .u8 3,.int .u8 0,.int .u8 0] 5)):=conv8 w 35 1 0 0 47 3 0 0;go_enter Tryz.func130,Tryz.ntmps130;go_wp2_with (fail);go_ret;exact⟨rfl,HB.out _⟩
 ·have hcv:(convert 187 9 (.slice (some ⟨w.heap.size,0,none⟩) 8 8)).run Tryz.prog (w.alloc (.cells #[.int .u8 35,.int .u8 1,.int .u8 0,.int .u8 0,.int .u8 47,.int .u8 4,.int .u8 0,.int .u8 0] 5))=.ok (.string ⟨#[35,1,0,0,47,4,0,0]⟩) (w.alloc (.cells #[.int .u8 35,.int .u8 1,.int .u8 0,.int .u8 0,.int .u8 47,.int .u8 4,.int .u8 0,.int .u8 0] 5)):=conv8 w 35 1 0 0 47 4 0 0;go_enter Tryz.func130,Tryz.ntmps130;go_wp2_with (fail);go_ret;exact⟨rfl,HB.out _⟩
 ·have hcv:(convert 187 9 (.slice (some ⟨w.heap.size,0,none⟩) 8 8)).run Tryz.prog (w.alloc (.cells #[.int .u8 35,.int .u8 1,.int .u8 0,.int .u8 0,.int .u8 47,.int .u8 5,.int .u8 0,.int .u8 0] 5))=.ok (.string ⟨#[35,1,0,0,47,5,0,0]⟩) (w.alloc (.cells #[.int .u8 35,.int .u8 1,.int .u8 0,.int .u8 0,.int .u8 47,.int .u8 5,.int .u8 0,.int .u8 0] 5)):=conv8 w 35 1 0 0 47 5 0 0;go_enter Tryz.func130,Tryz.ntmps130;go_wp2_with (fail);go_ret;exact⟨rfl,HB.out _⟩
 ·have hcv:(convert 187 9 (.slice (some ⟨w.heap.size,0,none⟩) 8 8)).run Tryz.prog (w.alloc (.cells #[.int .u8 35,.int .u8 1,.int .u8 0,.int .u8 0,.int .u8 47,.int .u8 6,.int .u8 0,.int .u8 0] 5))=.ok (.string ⟨#[35,1,0,0,47,6,0,0]⟩) (w.alloc (.cells #[.int .u8 35,.int .u8 1,.int .u8 0,.int .u8 0,.int .u8 47,.int .u8 6,.int .u8 0,.int .u8 0] 5)):=conv8 w 35 1 0 0 47 6 0 0;go_enter Tryz.func130,Tryz.ntmps130;go_wp2_with (fail);go_ret;exact⟨rfl,HB.out _⟩
 ·have hcv:(convert 187 9 (.slice (some ⟨w.heap.size,0,none⟩) 8 8)).run Tryz.prog (w.alloc (.cells #[.int .u8 35,.int .u8 1,.int .u8 0,.int .u8 0,.int .u8 47,.int .u8 7,.int .u8 0,.int .u8 0] 5))=.ok (.string ⟨#[35,1,0,0,47,7,0,0]⟩) (w.alloc (.cells #[.int .u8 35,.int .u8 1,.int .u8 0,.int .u8 0,.int .u8 47,.int .u8 7,.int .u8 0,.int .u8 0] 5)):=conv8 w 35 1 0 0 47 7 0 0;go_enter Tryz.func130,Tryz.ntmps130;go_wp2_with (fail);go_ret;exact⟨rfl,HB.out _⟩
 ·have hcv:(convert 187 9 (.slice (some ⟨w.heap.size,0,none⟩) 8 8)).run Tryz.prog (w.alloc (.cells #[.int .u8 35,.int .u8 1,.int .u8 0,.int .u8 0,.int .u8 47,.int .u8 8,.int .u8 0,.int .u8 0] 5))=.ok (.string ⟨#[35,1,0,0,47,8,0,0]⟩) (w.alloc (.cells #[.int .u8 35,.int .u8 1,.int .u8 0,.int .u8 0,.int .u8 47,.int .u8 8,.int .u8 0,.int .u8 0] 5)):=conv8 w 35 1 0 0 47 8 0 0;go_enter Tryz.func130,Tryz.ntmps130;go_wp2_with (fail);go_ret;exact⟨rfl,HB.out _⟩
 ·have hcv:(convert 187 9 (.slice (some ⟨w.heap.size,0,none⟩) 8 8)).run Tryz.prog (w.alloc (.cells #[.int .u8 35,.int .u8 1,.int .u8 0,.int .u8 0,.int .u8 47,.int .u8 9,.int .u8 0,.int .u8 0] 5))=.ok (.string ⟨#[35,1,0,0,47,9,0,0]⟩) (w.alloc (.cells #[.int .u8 35,.int .u8 1,.int .u8 0,.int .u8 0,.int .u8 47,.int .u8 9,.int .u8 0,.int .u8 0] 5)):=conv8 w 35 1 0 0 47 9 0 0;go_enter Tryz.func130,Tryz.ntmps130;go_wp2_with (fail);go_ret;exact⟨rfl,HB.out _⟩
 ·have hcv:(convert 187 9 (.slice (some ⟨w.heap.size,0,none⟩) 8 8)).run Tryz.prog (w.alloc (.cells #[.int .u8 35,.int .u8 1,.int .u8 0,.int .u8 0,.int .u8 47,.int .u8 10,.int .u8 0,.int .u8 0] 5))=.ok (.string ⟨#[35,1,0,0,47,10,0,0]⟩) (w.alloc (.cells #[.int .u8 35,.int .u8 1,.int .u8 0,.int .u8 0,.int .u8 47,.int .u8 10,.int .u8 0,.int .u8 0] 5)):=conv8 w 35 1 0 0 47 10 0 0;go_enter Tryz.func130,Tryz.ntmps130;go_wp2_with (fail);go_ret;exact⟨rfl,HB.out _⟩
 ·have hcv:(convert 187 9 (.slice (some ⟨w.heap.size,0,none⟩) 8 8)).run Tryz.prog (w.alloc (.cells #[.int .u8 35,.int .u8 1,.int .u8 0,.int .u8 0,.int .u8 47,.int .u8 11,.int .u8 0,.int .u8 0] 5))=.ok (.string ⟨#[35,1,0,0,47,11,0,0]⟩) (w.alloc (.cells #[.int .u8 35,.int .u8 1,.int .u8 0,.int .u8 0,.int .u8 47,.int .u8 11,.int .u8 0,.int .u8 0] 5)):=conv8 w 35 1 0 0 47 11 0 0;go_enter Tryz.func130,Tryz.ntmps130;go_wp2_with (fail);go_ret;exact⟨rfl,HB.out _⟩
end
end Go.Proofs.YtgplnekpgdhcpaaGreat
