import Derived.Test.YtohlkkannjifmaaGreatDoorODsk2
import Derived.StillTailTactics
import Derived.Laws.Cover3
import Derived.Test.YtohlkkannjifmaaGreatDoorOLog3
namespace Go.Proofs.YtohlkkannjifmaaGreatDoor
section
set_option maxHeartbeats 1000000
set_option maxRecDepth 100000
open Go.RowKit
theorem RB.range {B:Nat} {w:World} {b o n c:Nat} {l:List UInt8} (h:RB B w (some ⟨b,o,none⟩) n c l) (hc:0<c):w.rangeAt b o (cellsB l).toList:=fun j v hj=>by
 obtain⟨b',o',e,hB,hcell⟩:=h.at_ hc
 cases e
 have hl:=h.len;unfold cellsB at hj;have hjl:j<l.length:=by
  have:=(List.getElem?_eq_some_iff.1 hj).1;simpa using this
 rw[hcell j (by omega),<- hj];simp only[List.getElem?_map,List.getElem?_eq_getElem hjl,Option.map_some,bt,bv,List.getD_eq_getElem?_getD,Option.getD_some]
theorem still_load_run {op:Oper} {a:Act} {w:World} {K:Act->Prop} {t:TypeId} {p v:Value} (hrun:(Instr.loadAt t p).run Tryz.prog w=.ok v w) (x:Operand) (ho:op.op=.load t x) (hx:a.eval x=p) (h:K (a.put op.dst v)):op.still Tryz.prog a w K:=by
 unfold Oper.still execOp;simp only[ho,hx,Sem.run_bind,Sem.run_pure,Result.andThen_ok,hrun];exact⟨rfl,h⟩
theorem DiskR.putMap {w w2:World} {d s o k ks ko:Nat} {K:DK} (h:DiskR w d s o k K) (i:Int) (l:List UInt8) (hl:l.length=512) {f f':Int->Value} {g g':Int->Bool} (h0:ks+ko<=k) (h1:MH w s ks (arrV zB) f g) (h2:∀ i,f i=arrV (K.sf i))
  (hm:MH w2 o (ko+1) (arrV zB) (updV f' i (arrV l)) (fun x=>if x=i then true else g' x)) (hg:w.drew.grownBy w2 (some o)) (hg':∀ j,(K.op j).isSome=g' j) (hf':∀ j l,K.op j=some l->f' j=arrV l):DiskR w2 d s o (k+1) (K.put i l):=by
 refine⟨(hg.block d (h.lt (.inl rfl)) (fun e=>by cases e;exact h.od rfl)).trans h.blk,⟨ks,ko+1,f,g,_,_,by omega,h1.block (hg.block s (h.lt (.inr (.inl rfl))) (fun e=>by cases e;exact h.so rfl)),h2,hm,fun j=>?_,fun j l' e=>?_⟩,h.ok.put i hl,h.sd,h.od,h.so⟩
 ·show (if j=i then some l else K.op j).isSome=_;by_cases e:j=i
  ·rw[if_pos e,if_pos e];rfl
  ·rw[if_neg e,if_neg e];exact hg' j
 ·have e':(if j=i then some l else K.op j)=some l':=e;unfold updV;by_cases e2:j=i
  ·rw[if_pos e2] at e' ⊢;cases e';rfl
  ·rw[if_neg e2] at e' ⊢;exact hf' j l' e'
theorem dwrite_any (d s o k B:Nat) (K:DK) (i:Int) (a:Option Addr) (n c:Nat) (l:List UInt8) (w:World) (h:DiskR w d s o k K) (hb:RB B w a n c l) (hi1:-9223372036854775808<=i) (hi2:i<=9223372036854775807) (hk:k<9223372036854775807) :
  Calls Tryz.prog 116 #[.pointer (some ⟨d,0,none⟩),.int .i64 i,.slice a n c] w fun e w' =>
   e=.returned (.int .i64 (K.write i l).1)/\DiskR w' d s o (k+1) (K.write i l).2/\Trn (DB d s o) w w':=by
 have HM:=φ (may_any d s o k K i w h);have H:=φ h;have hl:=hb.len;by_cases hm:K.may i=0
 ·by_cases h5:l.length=512
  ·have hn:n=512:=by omega
   subst hn;obtain⟨b,off,rfl,hbB,-⟩:=hb.at_ (by have:=hb.le;omega);have e3:K.write i l=(if (K.put i l).crash.down then 8 else 0,(K.put i l).crash):=by
    unfold DK.write;rw[if_neg (by omega),if_neg (by omega)]
   rw[e3];obtain⟨r,hr8⟩:∃ r:Int,r=(if (K.put i l).crash.down then 8 else 0):=⟨_,rfl⟩
   rw[<- hr8];have HR:=φ hr8;clear hr8;have c2:w.drew.cell? ⟨d,2,none⟩=some (.map (some o)):=h.cell (i:=2) rfl;have hr:=hb.range (by have:=hb.le;omega);have hld:=run_loadAt_mid (P:=Tryz.prog) w.drew b off 163 (cellsB l).toList (.array 512 5) ((World.rangeAt_drew ..).2 hr) Tryz.underlying163 rfl (by rw[Array.length_toList,cellsB_size,h5];exact size_sector);simp only[Array.toArray_toList] at hld;have hat:(Instr.arrayAt 163 (.slice (some ⟨b,off,none⟩) 512 c)).run Tryz.prog w.drew=.ok (.pointer (some ⟨b,off,none⟩)) w.drew:=run_arrayAt _ _ _ _ _ _ _ Tryz.underlying163 (Nat.le_refl _);rw[hm] at HM;clear h hb hm hr hl e3;go_enter Tryz.func116,Tryz.ntmps116;go_upto_region 6 with (first|(go_at_call 80;refine HM.out.mono ?_;rintro e w1 ⟨rfl,hw1⟩;replace hw1:=hw1.symm;subst hw1));refine wp_region_still_tail 8 (by kernel_rfl) (by kernel_rfl) ?_;simp only[List.take_succ_cons,List.take_zero,List.drop_succ_cons,List.drop_zero];change wpStill _ _ (World.drew _) _ _ _
   iterate 7 still_step
   refine wpStill_step (fun K hK=>?_);rw[if_pos (by rfl)];refine still_load_run hld _ rfl rfl (hK _ ?_);clear hK K;refine wpStill_nil ?_;obtain⟨ks,ko,f,g,f',g',h0,hms,hf,hmo,hg',hf'⟩:=H.out.mm;refine wpList_put_mh rfl _ _ _ _ rfl Tryz.underlying148 (hmo.block (w':=w.drew) rfl) (by omega) i (arrV l) rfl rfl rfl hi1 hi2 ?_;intro w2 hm2 hg2;have D2:=φ (H.out.putMap i l h5 h0 hms hf hm2 hg2 hg' hf');have T2:=φ (((Trn.refl (DB d s o) w).drew).grown hg2 (fun j e=>by cases e;exact .inl (.inr (.inr rfl))));have HC:=φ (crash_any d s o (k+1) _ w2 D2.out);clear hm2 hg2 hms hf hmo hg' hf' h0 HM c2 hld H;obtain⟨dn,hdn⟩:∃ dn,dn=(K.put i l).crash.down:=⟨_,rfl⟩
   rw[<- hdn] at HC;have HD:=φ hdn;clear hdn
   cases dn with
   | true =>
    go_wp2_with (go_at_call 118;refine HC.out.mono ?_;rintro e w3 ⟨rfl,hd3,ht3⟩;have D3:=φ hd3;have T3:=φ (T2.out.trans ht3 (fun j e=>.inl (.inl e)));clear hd3 ht3);go_ret;exact⟨by rw[HR.out,<- HD.out];rfl,D3.out,T3.out⟩
   | false =>
    go_wp2_with (go_at_call 118;refine HC.out.mono ?_;rintro e w3 ⟨rfl,hd3,ht3⟩;have D3:=φ hd3;have T3:=φ (T2.out.trans ht3 (fun j e=>.inl (.inl e)));clear hd3 ht3);go_ret;exact⟨by rw[HR.out,<- HD.out];rfl,D3.out,T3.out⟩
  ·have e3:K.write i l=(2,K):=by
    unfold DK.write;rw[if_neg (by omega),if_pos h5]
   rw[e3];have e5:((n:Int) == 512)=false:=by simp;omega
   rw[hm] at HM;clear h hb hm hl e3;go_enter Tryz.func116,Tryz.ntmps116;go_wp2_with (go_at_call 80;refine HM.out.mono ?_;rintro e w1 ⟨rfl,hw1⟩;replace hw1:=hw1.symm;subst hw1);go_ret;exact⟨rfl,H.out.mono (by omega),Trn.refl _ _⟩
 ·have e3:K.write i l=(K.may i,K):=by
   unfold DK.write;rw[if_pos hm]
  rw[e3];have e0:(K.may i == 0)=false:=by simpa using hm
  clear hm h hl hb e3;generalize K.may i=m at *;go_enter Tryz.func116,Tryz.ntmps116;go_wp2_with (go_at_call 80;refine HM.out.mono ?_;rintro e w1 ⟨rfl,hw1⟩;replace hw1:=hw1.symm;subst hw1);go_ret;exact⟨rfl,H.out.mono (by omega),Trn.refl _ _⟩
end
section
set_option maxHeartbeats 1000000
set_option maxRecDepth 100000
open Go.RowKit
def SyncR (w0 w:World) (d s o r k:Nat) (K:DK):Prop :=
 w.heap[d]? = some (.cells #[.int .i64 K.n,.map (some s),.map (some o),.int .i64 K.armed,.bool K.down] 150 (0,0))/\Trn (DB d s o) w0 w/\w0.heap.size<=r /\
 ∃ ks ko cnt f f' g g' lf,ks+cnt<=k/\MH w s ks (arrV zB) f g/\MR w o r ko (arrV zB) f' g' lf cnt/\(∀ i,(K.op i).isSome=g' i)/\(∀ i l,K.op i=some l->f' i=arrV l)/\(∀ i,lf i=true->g' i=true) /\
  ∀ i,f i=arrV (if lf i then K.sf i else K.latest i)
theorem load_sec {W:World} {g:Nat} {l:List UInt8} (h:W.heap[g]? = some (.cells (cellsB l) 163 (0,0))) (hl:l.length=512):(Instr.loadAt 163 (.pointer (some ⟨g,0,none⟩))).run Tryz.prog W=.ok (arrV l) W:=by
 simp only[Instr.loadAt,Instr.sureAddr,Sem.run_bind,Sem.run_pure,Result.andThen];exact run_loadVar_row W g _ _ (cellsB l) (0,0) _ h Tryz.underlying163 rfl (by rw[cellsB_size,hl];exact size_sector)
theorem sync_round (w w3:World) (d s o _r:Nat) (K:DK) (l:List UInt8) (hl:l.length=512) (hb:w3.heap[d]? = some (.cells #[.int .i64 K.n,.map (some s),.map (some o),.int .i64 K.armed,.bool K.down] 150 (0,0))) (ht:Trn (DB d s o) w w3) :
  (Instr.storeAt 163 (.pointer (some ⟨w3.heap.size,0,none⟩)) (arrV l)).run Tryz.prog (w3.alloc (.cells (cellsB zB) 163))=.ok () (w3.alloc (.cells (cellsB l) 163)) /\
  (w3.alloc (.cells (cellsB l) 163)).drew.cell? ⟨d,1,none⟩=some (.map (some s)) /\
  (Instr.loadAt 163 (.pointer (some ⟨w3.heap.size,0,none⟩))).run Tryz.prog (w3.alloc (.cells (cellsB l) 163)).drew=.ok (arrV l) (w3.alloc (.cells (cellsB l) 163)).drew /\
  (w3.alloc (.cells (cellsB l) 163)).drew.heap[d]? = some (.cells #[.int .i64 K.n,.map (some s),.map (some o),.int .i64 K.armed,.bool K.down] 150 (0,0)) /\
  (∀ i,i<w3.heap.size->(w3.alloc (.cells (cellsB l) 163)).drew.heap[i]? = w3.heap[i]?)/\Trn (DB d s o) w (w3.alloc (.cells (cellsB l) 163)).drew:=by
 have hd:=(Array.getElem?_eq_some_iff.1 hb).1;have hh:∀ i,i<w3.heap.size->(w3.alloc (.cells (cellsB l) 163)).drew.heap[i]? = w3.heap[i]?:=fun i hi=>(Go.MapKept.heap_alloc w3 _).2 i hi
 have hb':=(hh d hd).trans hb;exact⟨run_storeAt_new (P:=Tryz.prog) w3 163 (cellsB zB) (cellsB l) (by rw[cellsB_size,hl];exact size_sector) (by rw[cellsB_size,cellsB_size,zB_len,hl]) (one_cellsB l),by simp[World.cell?,hb'],
  load_sec (heap_alloc_last w3 _) hl,hb',hh,(ht.alloc _).drew⟩
theorem SyncR.cells {w0 w:World} {d s o r k:Nat} {K:DK} (h:SyncR w0 w d s o r k K):w.cell? ⟨d,1,none⟩=some (.map (some s))/\w.cell? ⟨d,2,none⟩=some (.map (some o)):=by
 have hb:=h.1;constructor<;>simp[World.cell?,hb]
theorem sync_loop (d s o k:Nat) (K:DK) (w:World) (h:DiskR w d s o k K) (hk:k<9223372036854775807) (hm:K.may 0=0) (hn:K.crash.down=false) :
  Calls Tryz.prog 63 #[.pointer (some ⟨d,0,none⟩)] w fun e w'=>e=.returned (.int .i64 0)/\DiskR w' d s o k K.crash.shut/\Trn (DB d s o) w w':=by
 have Hlt:=φ (fun i (hi:DB d s o i)=>h.lt hi);have HM:=φ (may_any d s o k K 0 w h);have HC:=φ (crash_any d s o k K w h);rw[hm] at HM;rw[hn] at HC;have hz:=zero_sector;clear hm hn;simp only[arrV] at hz;go_enter Tryz.func63,Tryz.ntmps63;go_upto_region 6 with (first|(go_at_call 80;refine HM.out.mono ?_;rintro e w1 ⟨rfl,hw1⟩;replace hw1:=hw1.symm;subst hw1)|(go_at_call 118;refine HC.out.mono ?_;rintro e w1 ⟨rfl,hd1,ht1⟩;have D1:=φ hd1;have T1:=φ (ht1.mono (T:=DB d s o) fun i e=>.inl (.inl e));clear hd1 ht1));obtain⟨K1,hK1⟩:∃ K1,K1=K.crash:=⟨_,rfl⟩
 rw[<- hK1] at D1;have HK:=φ hK1;clear hK1;have c2:w1.cell? ⟨d,2,none⟩=some (.map (some o)):=D1.out.cell (i:=2) rfl;obtain⟨ks,ko,f,g,f',g',h0,hms,hf,hmo,hg',hf'⟩:=D1.out.mm;have HMs:=φ hms;have Hf:=φ hf;have HMo:=φ hmo;have Hg':=φ hg';have Hf':=φ hf';clear hms hf hmo hg' hf' HM HC h;go_wp2_with (first|(at_range;refine wpList_range_mh rfl _ _ rfl Tryz.underlying148 HMo.out rfl ?_;intro w2 cnt hc2 hr2 hg2 hs2));have HS:Hid (SyncR w w2 d s o w1.heap.size k K1):=φ ⟨(hg2.block d (D1.out.lt (.inl rfl)) (by simp)).trans D1.out.blk,T1.out.grown hg2 (by simp),T1.out.size,ks,ko,cnt,f,f',g,g',g',by omega,HMs.out.block (hg2.block s (D1.out.lt (.inr (.inl rfl))) (by simp)),hr2,Hg'.out,Hf'.out,fun _ h=>h,fun i=>by
  rw[Hf.out i]
  cases hgi:g' i with
  | true=>rfl
  | false =>
   have:=Hg'.out i;rw[hgi] at this;rw[if_neg (by simp)];unfold DK.latest;have e9:K1.op i=none:=by simpa using this
   rw[e9];rfl⟩
 clear hc2 hr2 hg2 hs2 HMs Hf HMo Hg' Hf' h0;generalize w1.heap.size=r at *;have Hdo:=φ (⟨D1.out.sd,D1.out.od,D1.out.so⟩:s≠d/\o≠d/\s≠o);have Hok:=φ D1.out.ok;clear D1 T1 c2;clear w1;go_frame;go_loopw [] (fun wr=>Hid (SyncR w wr d s o r k K1)) (fun wr=>wr.rangeLeft o r)
 case atStart=>exact HS
 case round =>
  obtain⟨hb,ht,hr0,ks,ko,cnt,f,f',g,g',lf,hkc,hms,hmr,hg',hf',hlf,hf⟩:=hrel.out;have c2:=hrel.out.cells.2;rcases hmr.next 0 with ⟨hl,hrun⟩|⟨x,w3,cnt3,hx1,hx2,hlx,hrun,hr3,hlt,hg3,hs3,hen⟩
  ·obtain⟨w4,hcl,hmc,hgc⟩:=hmr.mh.clear Tryz.underlying148 0;have HT:=φ (ht.grown hgc (fun j e=>by cases e;exact .inl (.inr (.inr rfl))));have HD:Hid (DiskR w4 d s o k K1.shut):=φ ⟨(hgc.block d (by have:=(Array.getElem?_eq_some_iff.1 hb).1;exact this) (fun e=>by cases e;exact Hdo.out.2.1 rfl)).trans hb,⟨ks,0,f,g,_,_,by omega,hms.block (hgc.block s hms.lt (fun e=>by cases e;exact Hdo.out.2.2 rfl)),fun i=>by rw[hf i,hl i];rfl,hmc,fun i=>rfl,fun i l e=>by cases e⟩,Hok.out.shut,Hdo.out.1,Hdo.out.2.1,Hdo.out.2.2⟩;clear hb ht hr0 hkc hms hmr hg' hf' hlf hf hl hmc hgc hrel;go_wp2_with (fail);go_ret;exact⟨rfl,by rw[<- HK.out];exact HD.out,HT.out⟩
  ·obtain⟨l,hl⟩:∃ l,K1.op x=some l:=Option.isSome_iff_exists.1 (by rw[hg'];exact hlf x hlx);have hfx:=hf' x l hl;have hl5:=Hok.out.ol x l hl;rw[hfx] at hrun hen;have hdS:=Hlt.out d (.inl rfl);have hsS:=Hlt.out s (.inr (.inl rfl));have hoS:=Hlt.out o (.inr (.inr rfl));have hw3:=ht.size;obtain⟨hst,hc1,hld,hW4,hg4,hT4⟩:=sync_round w w3 d s o r K1 l hl5 ((hg3.block d (by omega) (fun e=>by cases e;omega)).trans hb) (ht.grown hg3 (fun j e=>by cases e;exact .inr hr0));have hm4:MH (w3.alloc (.cells (cellsB l) 163)).drew s ks (arrV zB) f g:=(hms.block (hg3.block s (by omega) (fun e=>by cases e;omega))).block (hg4 s (by omega));have hr4:MR (w3.alloc (.cells (cellsB l) 163)).drew o r ko (arrV zB) f' g' (fun i=>lf i && !decide (i=x)) cnt3:=hr3.alloc _;have Hm4:=φ hm4;have Hr4:=φ hr4;have HW4:=φ hW4;have HT4:=φ hT4;have Hn:=φ (⟨hkc,hlt,hmr.left_eq,hg',hf',hlf,hf,hl⟩:ks+cnt<=k/\cnt3<cnt/\wr.rangeLeft o r=cnt/\(∀ i,(K1.op i).isSome=g' i)/\(∀ i l,K1.op i=some l->f' i=arrV l)/\(∀ i,lf i=true->g' i=true)/\(∀ i,f i=arrV (if lf i then K1.sf i else K1.latest i))/\K1.op x=some l);clear hkc hlt hmr hg' hf' hlf hf hl hm4 hr4 hW4 hT4 hg4 hms hr3 hg3 hs3 hrel hb ht hfx hl5 hlx hw3 c2;simp only[arrV] at hrun hen hst hld;go_upto_region 9 with (first|refine wpList_store_run hst rfl _ _ rfl rfl rfl ?_);refine wp_region_still_tail 6 (by kernel_rfl) (by kernel_rfl) ?_;simp only[List.take_succ_cons,List.take_zero,List.drop_succ_cons,List.drop_zero];change wpStill _ _ (World.drew _) _ _ _
   iterate 5 still_step
   refine wpStill_step (fun K hK=>?_);rw[if_pos (by rfl)];refine still_load_run hld _ rfl rfl (hK _ ?_);clear hK K;refine wpStill_nil ?_;refine wpList_put_mh rfl _ _ _ _ rfl Tryz.underlying148 Hm4.out (by have:=Hn.out.1;omega) x (arrV l) rfl rfl rfl hx1 hx2 ?_;intro w5 hm5 hg5;have HN:Hid (SyncR w w5 d s o r k K1/\w5.rangeLeft o r<wr.rangeLeft o r):=φ (by
    obtain⟨n1,n2,n3,n4,n5,n6,n7,n8⟩:=Hn.out;have hr5:=Hr4.out.kept hg5 (fun e=>Hdo.out.2.2 (Option.some.inj e).symm) (fun e=>by cases e;omega);have hdl:d<(w3.alloc (.cells (cellsB l) 163)).drew.heap.size:=(Array.getElem?_eq_some_iff.1 HW4.out).1;refine⟨⟨(hg5.block d hdl (fun e=>by cases e;exact Hdo.out.1 rfl)).trans HW4.out,HT4.out.grown hg5 (fun j e=>by cases e;exact .inl (.inr (.inl rfl))),hr0,ks+1,ko,cnt3,_,f',_,g',_,by omega,hm5,hr5,n4,n5,fun i hi=>n6 i (by simp only[Bool.and_eq_true] at hi;exact hi.1),fun i=>?_⟩,by rw[hr5.left_eq,n3];exact n2⟩;by_cases e:i=x
    ·subst e;have e2:K1.latest i=l:=(by unfold DK.latest;rw[n8];rfl);simp[updV,e2]
    ·simp only[updV,if_neg e,n7 i,decide_eq_false e,Bool.not_false,Bool.and_true])
   clear hm5 hg5 hrun hen hst hc1 hld Hm4 Hr4 HW4 HT4 Hn;go_wp2_with (fail);go_roundw
   case rel=>exact⟨_,_,_,_,_,_,_,_,_,_,_,_,_,φ HN.out.1,rfl⟩
   case measure=>exact HN.out.2
theorem sync_any (d s o k:Nat) (K:DK) (w:World) (h:DiskR w d s o k K) (hk:k<9223372036854775807) :
  Calls Tryz.prog 63 #[.pointer (some ⟨d,0,none⟩)] w fun e w'=>e=.returned (.int .i64 K.sync.1)/\DiskR w' d s o k K.sync.2/\Trn (DB d s o) w w':=by
 have HM:=φ (may_any d s o k K 0 w h);by_cases hm:K.may 0=0
 ·cases hn:K.crash.down with
  | false =>
   have e:K.sync=(0,K.crash.shut):=by unfold DK.sync;rw[if_neg (by omega),hn];rfl
   rw[e];exact sync_loop d s o k K w h hk hm hn
  | true =>
   have e:K.sync=(8,K.crash):=by unfold DK.sync;rw[if_neg (by omega),hn];rfl
   rw[e];have HC:=φ (crash_any d s o k K w h);rw[hn] at HC;rw[hm] at HM;clear e hn hm h;go_enter Tryz.func63,Tryz.ntmps63;go_wp2_with (first|(go_at_call 80;refine HM.out.mono ?_;rintro e w1 ⟨rfl,hw1⟩;replace hw1:=hw1.symm;subst hw1)|(go_at_call 118;refine HC.out.mono ?_;rintro e w1 ⟨rfl,hd1,ht1⟩;have D1:=φ hd1;have T1:=φ (ht1.mono (T:=DB d s o) fun i e=>.inl (.inl e));clear hd1 ht1));go_ret;exact⟨rfl,D1.out,T1.out⟩
 ·have e:K.sync=(K.may 0,K):=by unfold DK.sync;rw[if_pos hm]
  rw[e];have H:=φ h;have e0:(K.may 0 == 0)=false:=by simpa using hm
  clear hm h e;generalize K.may 0=m at *;go_enter Tryz.func63,Tryz.ntmps63;go_wp2_with (go_at_call 80;refine HM.out.mono ?_;rintro e w1 ⟨rfl,hw1⟩;replace hw1:=hw1.symm;subst hw1);go_ret;exact⟨rfl,H.out,Trn.refl _ _⟩
end
section
open Go.RowKit
variable {L:LK} {d i k l:Nat} {P:Nat->Nat} {U:Nat->Prop} {V:Nat->Value} {s':ShV} {sv tv:Value} {w w':World}
structure LF (w:World) (U:Nat->Prop) (l d k:Nat) (L:LK) (sv tv:Value) (P:Nat->Nat) (V:Nat->Value):Prop where
 blk:w.heap[l]? = some (logObj L d sv tv)
 srow:w.ownsRow 0 100 1 sv L.sheets.length ((List.range L.sheets.length).map fun i=>ptr (P i))
 trow:w.ownsRow 0 2 1 tv L.lsns.length (L.lsns.map li)
 sh:∀ i,i<L.sheets.length->ShR w (P i) (V i) (L.sheets.getD i sh0)
 inj:∀ i j,i<L.sheets.length->j<L.sheets.length->i<j->P i≠P j/\∀ b,(V i).ownBlock=some b->(V j).ownBlock≠some b
 ul:U l
 us:∀ b,sv.ownBlock=some b->U b
 ut:∀ b,tv.ownBlock=some b->U b
 ux:∀ i,i<L.sheets.length->U (P i)
 uv:∀ i,i<L.sheets.length->∀ b,(V i).ownBlock=some b->U b
 lt:∀ i,U i->i<w.heap.size
 ok:L.Ok k
theorem LF.of (h:LogR w U l d k L):∃ sv tv P V,LF w U l d k L sv tv P V:=by
 obtain⟨sv,tv,T,h1,h2,h3,h4,h5,h6,h7,h8,h9,h10,h11⟩:=h.mm;have hn:L.sheets.length=T.length:=by rw[h1];simp
 have hg:∀ i (hi:i<T.length),T.getD i (0,.bool false,sh0)=T[i]:=fun i hi=>by rw[List.getD_eq_getElem?_getD,List.getElem?_eq_getElem hi];rfl
 refine⟨sv,tv,fun i=>(T.getD i (0,.bool false,sh0)).1,fun i=>(T.getD i (0,.bool false,sh0)).2.1,⟨h2,?_,h4,fun i hi=>?_,fun i j hi hj hij=>?_,h7,h8,h9,fun i hi=>?_,fun i hi=>?_,h.lt,h.ok⟩⟩
 ·rw[hn];have e:(List.range T.length).map (fun i=>ptr (T.getD i (0,.bool false,sh0)).1)=T.map fun x=>ptr x.1:=by
   apply List.ext_getElem
   ·simp
   ·intro i h1 h2;have hi:i<T.length:=(by simpa using h2);simp only[List.getElem_map,List.getElem_range,hg i hi]
  rw[e];exact h3
 ·rw[hn] at hi;have e:L.sheets.getD i sh0=T[i].2.2:=by
   rw[h1,List.getD_eq_getElem?_getD,List.getElem?_map,List.getElem?_eq_getElem hi];rfl
  rw[e,hg i hi];exact h5 _ (List.getElem_mem hi)
 ·rw[hn] at hi hj;simp only[hg i hi,hg j hj];exact List.pairwise_iff_getElem.1 h6 i j hi hj hij
 ·rw[hn] at hi;simp only[hg i hi];exact h10 _ (List.getElem_mem hi)
 ·rw[hn] at hi;simp only[hg i hi];exact h11 _ (List.getElem_mem hi)
theorem LF.log (h:LF w U l d k L sv tv P V):LogR w U l d k L:=by
 refine⟨⟨sv,tv,(List.range L.sheets.length).map fun i=>(P i,V i,L.sheets.getD i sh0),?_,h.blk,?_,h.trow,fun x hx=>?_,?_,h.ul,h.us,h.ut,fun x hx=>?_,fun x hx=>?_⟩,h.lt,h.ok⟩
 ·apply List.ext_getElem
  ·simp
  ·intro i h1 h2;simp only[List.getElem_map,List.getElem_range,List.getD_eq_getElem?_getD,List.getElem?_eq_getElem h1,Option.getD_some]
 ·have:=h.srow;rw[List.length_map,List.length_range,List.map_map];exact this
 ·obtain⟨i,hi,rfl⟩:=List.mem_map.1 hx;exact h.sh i (List.mem_range.1 hi)
 ·rw[List.pairwise_iff_getElem];intro i j hi hj hij;simp only[List.length_map,List.length_range] at hi hj;simp only[List.getElem_map,List.getElem_range];exact h.inj i j hi hj hij
 ·obtain⟨i,hi,rfl⟩:=List.mem_map.1 hx;exact h.ux i (List.mem_range.1 hi)
 ·obtain⟨i,hi,rfl⟩:=List.mem_map.1 hx;exact h.uv i (List.mem_range.1 hi)
theorem LF.keep (h:LF w U l d k L sv tv P V) (hb:∀ i,U i->w'.heap[i]? = w.heap[i]?) (hs:w.heap.size<=w'.heap.size):LF w' U l d k L sv tv P V :=
 ⟨(hb l h.ul).trans h.blk,ωK h.srow fun g e=>hb g (h.us g e),ωK h.trow fun g e=>hb g (h.ut g e),fun i hi=>⟨(hb _ (h.ux i hi)).trans (h.sh i hi).blk,ωK (h.sh i hi).body fun g e=>hb g (h.uv i hi g e)⟩,h.inj,h.ul,h.us,h.ut,h.ux,h.uv,fun i hi=>Nat.lt_of_lt_of_le (h.lt i hi) hs,h.ok⟩
def LK.setSh (L:LK) (i:Nat) (s:ShV):LK:={ L with sheets:=L.sheets.set i s }
theorem getD_set {α:Type} (l:List α) (i j:Nat) (x d:α) (hi:i<l.length):(l.set i x).getD j d=if j=i then x else l.getD j d:=by
 rw[List.getD_eq_getElem?_getD,List.getElem?_set];by_cases e:i=j
 ·subst e;rw[if_pos rfl,if_pos hi,if_pos rfl];rfl
 ·rw[if_neg e,if_neg (fun h=>e h.symm),List.getD_eq_getElem?_getD]
theorem LF.inj' (h:LF w U l d k L sv tv P V) {j:Nat} (hi:i<L.sheets.length) (hj:j<L.sheets.length) (hne:i≠j):P i≠P j:=by
 rcases Nat.lt_or_ge i j with h1|h1
 ·exact (h.inj i j hi hj h1).1
 ·exact ((h.inj j i hj hi (by omega)).1).symm
theorem LF.set (h:LF w U l d k L sv tv P V) (hi:i<L.sheets.length) (hb:s'.body=(L.sheets.getD i sh0).body)
  (hp:w'.heap[P i]? = some (shObj s' (V i))) (ho:∀ g,U g->g≠P i->w'.heap[g]? = w.heap[g]?) (hs:w.heap.size<=w'.heap.size) (hok:(L.setSh i s').Ok k):LF w' U l d k (L.setSh i s') sv tv P V:=by
 have hlen:(L.setSh i s').sheets.length=L.sheets.length:=by unfold LK.setSh;simp
 have htag:∀ g c t,w.heap[g]? = some (Obj.cells c t (0,0))->t≠105->g≠P i:=fun g c t hg ht e=>by subst e;exact tag_ne hg (h.sh i hi).blk ht
 refine⟨?_,?_,?_,fun j hj=>?_,fun a b ha hb hab=>h.inj a b (by omega) (by omega) hab,h.ul,h.us,h.ut,fun j hj=>h.ux j (by omega),fun j hj=>h.uv j (by omega),fun g hg=>Nat.lt_of_lt_of_le (h.lt g hg) hs,hok⟩
 ·exact (ho l h.ul (htag _ _ _ h.blk (by decide))).trans h.blk
 ·rw[hlen];exact ωK h.srow fun g e=>by
   obtain⟨c,hc⟩:=own_tag h.srow e;exact ho g (h.us g e) (htag _ _ _ hc (by decide))
 ·exact ωK h.trow fun g e=>by
   obtain⟨c,hc⟩:=own_tag h.trow e;exact ho g (h.ut g e) (htag _ _ _ hc (by decide))
 ·rw[hlen] at hj;have e1:(L.setSh i s').sheets.getD j sh0=if j=i then s' else L.sheets.getD j sh0:=getD_set _ _ _ _ _ hi;have hbody:∀ q,q<L.sheets.length->OB 0 w' (V q) (L.sheets.getD q sh0).body:=fun q hq=>ωK (h.sh q hq).body fun g e=>by
   obtain⟨c,hc⟩:=own_tag (h.sh q hq).body e;exact ho g (h.uv q hq g e) (htag _ _ _ hc (by decide))
  rw[e1];by_cases e:j=i
  ·subst e;rw[if_pos rfl];exact⟨hp,by rw[hb];exact hbody j hj⟩
  ·rw[if_neg e];exact⟨(ho _ (h.ux j hj) (fun e2=>h.inj' hj hi e e2)).trans (h.sh j hj).blk,hbody j hj⟩
theorem LF.get (h:LF w U l d k L sv tv P V) :
  ∃ g cap,sv=.slice (some ⟨g,0,none⟩) L.sheets.length cap/\L.sheets.length<=cap/\cap<=9223372036854775807/\L.sheets.length<=8191/\∀ i,i<L.sheets.length->w.cell? ⟨g,i,none⟩=some (ptr (P i)):=by
 have hcs:=h.srow;obtain⟨-,⟨-,h0⟩|⟨g,cap,cur,rfl,-,-,hle,hcm,-⟩⟩:=h.srow
 ·exact absurd (List.eq_nil_of_length_eq_zero h0) h.ok.ne
 refine⟨g,cap,rfl,hle,by simpa [maxLen] using hcm,by have:=h.ok.ct;have:=h.ok.c2;omega,fun i hi=>?_⟩;have h12:=hcs.cells (g:=g) rfl i (ptr (P i)) (by rw[List.getElem?_map,List.getElem?_range hi];rfl);rw[Addr.add_mid,Nat.zero_add] at h12;exact h12
def LK.turned (L:LK) (i:Nat):LK:=L.setSh i { L.sheets.getD i sh0 with turn:=L.turn }
theorem LK.Ok.setSh (h:L.Ok k) (hi:i<L.sheets.length) (h1:s'.num=(L.sheets.getD i sh0).num) (h2:s'.body=(L.sheets.getD i sh0).body) (h3:0<=s'.safe/\s'.safe<=s'.body.length)
  (h4:0<=s'.turn/\s'.turn<2147483648) (h5:s'.before=(L.sheets.getD i sh0).before) (h6:s'.safe<s'.body.length->(L.sheets.getD i sh0).safe<(L.sheets.getD i sh0).body.length):(L.setSh i s').Ok k:=by
 have hmem:∀ s∈(L.setSh i s').sheets,s=s'∨s∈L.sheets:=fun s hs=>by
  rcases List.mem_or_eq_of_mem_set hs with h|h
  ·exact .inr h
  ·exact .inl h
 have hg:=getD_mem L.sheets sh0 i hi;have hend:(L.setSh i s').end_=L.end_:=by
  have hc:CoreEq (L.setSh i s') L:=⟨rfl,rfl,by
   apply List.ext_getElem
   ·simp[LK.setSh]
   ·intro j a b;simp only[LK.setSh,List.getElem_map,List.getElem_set];split
    ·next e =>
     subst e;rw[h1,h2,List.getD_eq_getElem?_getD,List.getElem?_eq_getElem hi];rfl
    ·rfl,rfl⟩
  exact hc.end_
 obtain⟨m,m1,m2,m3⟩:=h.num;refine⟨?_,⟨m,m1,m2,fun j s hj=>?_⟩,fun s hs=>?_,h.f1,h.f2,h.c1,h.c2,h.t1,h.t2,?_,h.lk,h.so,?_,fun hw=>?_,fun s hs=>?_⟩
 ·intro e;have:=congrArg List.length e;simp only[LK.setSh,List.length_set,List.length_nil] at this;omega
 ·simp only[LK.setSh,List.getElem?_set] at hj;split at hj
  ·next e =>
   subst e
   cases hj
   rw[h1];exact m3 i _ (by rw[List.getD_eq_getElem?_getD,List.getElem?_eq_getElem hi];rfl)
  ·exact m3 j s hj
 ·rcases hmem s hs with rfl|hs
  ·exact⟨by rw[h2];exact (h.len _ hg).1,h3⟩
  ·exact h.len s hs
 ·show (((L.sheets.set i s').length:Nat):Int)<=L.count-1;rw[List.length_set];exact h.ct
 ·rw[hend];exact h.sb
 ·obtain⟨s,hs,hlt⟩:=hw;rcases hmem s hs with rfl|hs
  ·exact h.wk ⟨_,hg,h6 hlt⟩
  ·exact h.wk ⟨s,hs,hlt⟩
 ·rcases hmem s hs with rfl|hs
  ·have:=h.hd _ hg;rw[h5];omega
  ·exact h.hd s hs
theorem LK.Ok.turned (h:L.Ok k) (hi:i<L.sheets.length):(L.turned i).Ok k :=
 h.setSh hi rfl rfl (h.len _ (getD_mem L.sheets sh0 i hi)).2 ⟨by have:=h.t1;show 0<=L.turn;omega,h.t2⟩ rfl id
theorem LK.Ok.numAt (h:L.Ok k) (hi:i<L.sheets.length):0<=(L.sheets.getD i sh0).num/\(L.sheets.getD i sh0).num<=2251799813693440:=by
 obtain⟨m,m1,m2,m3⟩:=h.num;have:=m3 i (L.sheets.getD i sh0) (by rw[List.getD_eq_getElem?_getD,List.getElem?_eq_getElem hi];rfl);have h1:=h.ct;have h2:=h.c2;omega
end
section
set_option maxRecDepth 100000
open Go.RowKit
theorem sector_any (w:World) (U:Nat->Prop) (l d k:Nat) (L:LK) (x:Int) (h:LogR w U l d k L) (h1:0<=x) (_h2:x<=2251799813693440) :
  Calls Tryz.prog 71 #[ptr l,li x] w fun e w'=>e=.returned (li (L.sector x))/\w'=w.drew:=by
 obtain⟨g,cap,tv,T,p,v,hb,-⟩:=h.view;have c1:w.cell? ⟨l,1,none⟩=some (.int .i64 L.first):=by simp[World.cell?,hb,li]
 have c2:w.cell? ⟨l,2,none⟩=some (.int .i64 L.count):=by simp[World.cell?,hb,li]
 have hc1:=h.ok.c1;have hc2:=h.ok.c2;have hf1:=h.ok.f1;have hf2:=h.ok.f2;have hm1:0<=x.tmod L.count:=Int.tmod_nonneg _ h1;have hm2:x.tmod L.count<L.count:=Int.tmod_lt_of_pos _ (by omega);have e0:IntKind.i64.wrap (x.tmod L.count)=x.tmod L.count:=IntWalk.i64_in _ (by omega);have e1:IntKind.i64.wrap (L.first+x.tmod L.count)=L.first+x.tmod L.count:=IntWalk.i64_in _ (by omega)
 have e2:(L.count == 0)=false:=by simp;omega
 have e3:¬ L.count=0:=by omega
 unfold LK.sector ptr li;clear h hb;generalize L.first=f at *
 generalize L.count=c at *;go_enter Tryz.func71,Tryz.ntmps71;go_wp2_with (fail);go_still (by kernel_rfl);go_wp2_with (fail);go_ret;exact⟨rfl,rfl⟩
end
section
set_option maxHeartbeats 4000000
set_option maxRecDepth 100000
open Go.RowKit
theorem χ {w:World} {b i:Nat} {v:Value} (h:w.cell? ⟨b,i,none⟩=some v):b<w.heap.size:=by
 unfold World.cell? at h;split at h
 ·next e=>exact ξ e
 ·cases h
def wrB (L:LK) (s:ShV):List UInt8:=({ s with turn:=L.turn }:ShV).bytes
def WrP (U:Nat->Prop) (l k:Nat) (L:LK) (d ds do_ kd:Nat) (D:DK) (sv tv:Value) (P:Nat->Nat) (V:Nat->Value) (i:Nat) (w:World) (e:Ending) (w':World):Prop :=
 e=.returned (.int .i64 (if (L.sheets.getD i sh0).wants then (D.write (L.sector (L.sheets.getD i sh0).num) (wrB L (L.sheets.getD i sh0))).1 else 0)) /\
 LF w' U l d k (if (L.sheets.getD i sh0).wants then L.turned i else L) sv tv P V /\
 DiskR w' d ds do_ (kd+1) (if (L.sheets.getD i sh0).wants then (D.write (L.sector (L.sheets.getD i sh0).num) (wrB L (L.sheets.getD i sh0))).2 else D)/\Trn (fun g=>U g∨DB d ds do_ g) w w'
theorem mem_of_getD_false {a b:Bool} (h:(!a || b)=false):a=true/\b=false:=by cases a<;>cases b<;>simp_all
theorem write_no (U:Nat->Prop) (l k:Nat) (L:LK) (d ds do_ kd:Nat) (D:DK) (sv tv:Value) (P:Nat->Nat) (V:Nat->Value) (i:Nat) (w:World) (h:LF w U l d k L sv tv P V) (hD:DiskR w d ds do_ kd D) (hi:i<L.sheets.length) (hw:(L.sheets.getD i sh0).wants=false) :
  Calls Tryz.prog 62 #[.pointer (some ⟨l,0,none⟩),.pointer (some ⟨P i,0,none⟩)] w (WrP U l k L d ds do_ kd D sv tv P V i w):=by
 unfold WrP;rw[hw];have hs:=h.sh i hi;have hbl:=h.ok.len _ (getD_mem L.sheets sh0 i hi);obtain⟨va,vc,hve,hvr⟩:=hs.body.rb (by omega);have c4:w.cell? ⟨P i,4,none⟩=some (.slice va (L.sheets.getD i sh0).body.length vc):=by rw[<- hve];exact cell_of_row _ _ 4 _ _ _ hs.blk
 have c5:w.cell? ⟨P i,5,none⟩=some (.int .i64 (L.sheets.getD i sh0).safe):=cell_of_row _ _ 5 _ _ _ hs.blk;have c6:w.cell? ⟨P i,6,none⟩=some (.bool (L.sheets.getD i sh0).lost):=cell_of_row _ _ 6 _ _ _ hs.blk;unfold ShV.wants at hw;obtain⟨hw1,hw2⟩:=mem_of_getD_false hw;have e1:((L.sheets.getD i sh0).safe == ((L.sheets.getD i sh0).body.length:Int))=true:=by simpa using hw1
 rw[hw2] at c6;have hv1:=hvr.mx;have hv2:=hvr.le;have H:=φ h;have HD:=φ hD;clear hw hw1 hw2 hs hve hvr h hD;generalize L.sheets.getD i sh0=s at *;go_enter Tryz.func62,Tryz.ntmps62;go_upto_region 1 with (fail);go_still (by kernel_rfl);go_wp2_with (fail);go_ret;exact⟨by simp,H.out.keep (fun _ _=>rfl) (Nat.le_refl _),(HD.out.keep (w':=w.drew) fun _ _=>rfl).mono (Nat.le_succ _),(Trn.refl _ w).drew⟩
theorem write_yes (U:Nat->Prop) (l k:Nat) (L:LK) (d ds do_ kd:Nat) (D:DK) (sv tv:Value) (P:Nat->Nat) (V:Nat->Value) (i:Nat) (w:World) (h:LF w U l d k L sv tv P V) (hD:DiskR w d ds do_ kd D) (hne:∀ g,DB d ds do_ g->¬ U g) (hi:i<L.sheets.length) (hw:(L.sheets.getD i sh0).wants=true) (hkd:kd<=1000000000) :
  Calls Tryz.prog 62 #[.pointer (some ⟨l,0,none⟩),.pointer (some ⟨P i,0,none⟩)] w (WrP U l k L d ds do_ kd D sv tv P V i w):=by
 unfold WrP;rw[hw];simp only[if_true];have hs:=h.sh i hi;have hbl:=h.ok.len _ (getD_mem L.sheets sh0 i hi);have hnum:=h.ok.numAt hi;have hhd:=h.ok.hd _ (getD_mem L.sheets sh0 i hi);obtain⟨va,vc,hve,hvr⟩:=hs.body.rb (by omega);have c4:w.cell? ⟨P i,4,none⟩=some (.slice va (L.sheets.getD i sh0).body.length vc):=by rw[<- hve];exact cell_of_row _ _ 4 _ _ _ hs.blk
 have c5:w.cell? ⟨P i,5,none⟩=some (.int .i64 (L.sheets.getD i sh0).safe):=cell_of_row _ _ 5 _ _ _ hs.blk;have c6:w.cell? ⟨P i,6,none⟩=some (.bool (L.sheets.getD i sh0).lost):=cell_of_row _ _ 6 _ _ _ hs.blk;have c1:w.cell? ⟨P i,1,none⟩=some (.int .i64 (L.sheets.getD i sh0).turn):=cell_of_row _ _ 1 _ _ _ hs.blk;have f1:w.frozen? ⟨P i,1,none⟩=false:=by simp[World.frozen?,hs.blk]
 have l3:w.cell? ⟨l,3,none⟩=some (.int .i64 L.turn):=cell_of_row _ _ 3 _ _ _ h.blk;have hv1:=hvr.mx;have hv2:=hvr.le
 -- the world behind the mark
 have hP1:(w.setCell ⟨P i,1,none⟩ (li L.turn)).heap[P i]? = some (shObj { L.sheets.getD i sh0 with turn:=L.turn } (V i)):=set_at hs.blk 1 (li L.turn);have hL1:LF (w.setCell ⟨P i,1,none⟩ (li L.turn)) U l d k (L.turned i) sv tv P V:=h.set hi rfl hP1 (fun g _ hg=>set_ne hg) (by rw[size_set];exact Nat.le_refl _) (h.ok.turned hi);have hD1:DiskR (w.setCell ⟨P i,1,none⟩ (li L.turn)) d ds do_ kd D:=hD.keep fun g hg=>set_ne (fun e=>hne g hg (by rw[e];exact h.ux i hi))
 obtain⟨w1,hw1⟩:∃ w1,w1=w.setCell ⟨P i,1,none⟩ (li L.turn):=⟨_,rfl⟩
 have hT1:Trn (fun g=>U g∨DB d ds do_ g) w w1:=by rw[hw1];exact (Trn.refl _ w).set _ _ _ (.inl (.inl (h.ux i hi)))
 rw[<- hw1] at hP1 hL1 hD1;have hsh1:ShR w1 (P i) (V i) { L.sheets.getD i sh0 with turn:=L.turn }:=by
  have:=hL1.sh i (by simpa [LK.turned,LK.setSh] using hi);have e:(L.turned i).sheets.getD i sh0={ L.sheets.getD i sh0 with turn:=L.turn }:=by
   rw[show (L.turned i).sheets=L.sheets.set i _ from rfl,getD_set _ _ _ _ _ hi,if_pos rfl]
  rwa [e] at this
 have k0:w1.cell? ⟨P i,0,none⟩=some (.int .i64 (L.sheets.getD i sh0).num):=cell_of_row _ _ 0 _ _ _ hP1;have m0:w1.cell? ⟨l,0,none⟩=some (.pointer (some ⟨d,0,none⟩)):=cell_of_row _ _ 0 _ _ _ hL1.blk;have HSe:Hid (∀ W,W.heap=w1.heap->Calls Tryz.prog 71 #[.pointer (some ⟨l,0,none⟩),.int .i64 (L.sheets.getD i sh0).num] W fun e w'=>e=.returned (.int .i64 (L.sector (L.sheets.getD i sh0).num))/\w'=W.drew):=φ fun W hW=>sector_any W U l d k (L.turned i) _ (hL1.keep (fun g _=>by rw[hW]) (by rw[hW];exact Nat.le_refl _)).log hnum.1 hnum.2
 have HSb:Hid (∀ W,W.heap=w1.heap->Calls Tryz.prog 117 #[.pointer (some ⟨P i,0,none⟩)] W fun e w'=>∃ v',e=.returned v'/\OB W.heap.size w' v' (wrB L (L.sheets.getD i sh0))/\Below W.heap.size W w'):=φ fun W hW=>sbytes_any W (P i) (V i) _ ⟨by rw[hW];exact hsh1.blk,ωK hsh1.body fun g _=>by rw[hW]⟩ hbl.1 hnum (by have:=h.ok.t1;have:=h.ok.t2;exact⟨by show 0<=L.turn;omega,by show L.turn<_;omega⟩) hhd.2.2
 have hsec:-9223372036854775808<=L.sector (L.sheets.getD i sh0).num/\L.sector (L.sheets.getD i sh0).num<=9223372036854775807:=by
  have h1:=h.ok.c1;have h2:=h.ok.c2;have h3:=h.ok.f1;have h4:=h.ok.f2;have hm1:0<=(L.sheets.getD i sh0).num.tmod L.count:=Int.tmod_nonneg _ hnum.1;have hm2:(L.sheets.getD i sh0).num.tmod L.count<L.count:=Int.tmod_lt_of_pos _ (by omega);unfold LK.sector;omega
 have hlen:(wrB L (L.sheets.getD i sh0)).length=512:=ShV.bytes_len (s:={ L.sheets.getD i sh0 with turn:=L.turn }) hbl.1;have HDW:Hid (∀ W W',W.heap=w1.heap->Below W.heap.size W W'->∀ a c,RB W'.heap.size W' a 512 c (wrB L (L.sheets.getD i sh0))->Calls Tryz.prog 116 #[.pointer (some ⟨d,0,none⟩),.int .i64 (L.sector (L.sheets.getD i sh0).num),.slice a 512 c] W' fun e w' =>
   e=.returned (.int .i64 (D.write (L.sector (L.sheets.getD i sh0).num) (wrB L (L.sheets.getD i sh0))).1)/\DiskR w' d ds do_ (kd+1) (D.write (L.sector (L.sheets.getD i sh0).num) (wrB L (L.sheets.getD i sh0))).2/\Trn (DB d ds do_) W' w'):=φ fun W W' hW hb a c hr =>
  dwrite_any d ds do_ kd W'.heap.size D _ a 512 c _ W' (hD1.keep fun g hg=>(hb.block g (by rw[hW];exact hD1.lt hg)).trans (by rw[hW])) hr hsec.1 hsec.2 (by omega)
 have HL1:=φ hL1;have HNE:=φ hne;have HPu:=φ (h.ux i hi);have HPl:Hid (P i<w1.heap.size):=φ (hL1.lt _ (h.ux i hi));have HT1:=φ hT1;have HLen:=φ hlen;have HlD:=φ fun g (hg:DB d ds do_ g)=>hD1.lt hg
 have hq:((L.sheets.getD i sh0).safe == ((L.sheets.getD i sh0).body.length:Int))=false∨(((L.sheets.getD i sh0).safe == ((L.sheets.getD i sh0).body.length:Int))=true/\(L.sheets.getD i sh0).lost=true):=by
  unfold ShV.wants at hw
  cases h1:(L.sheets.getD i sh0).lost with
  | true=>cases h2:((L.sheets.getD i sh0).safe == ((L.sheets.getD i sh0).body.length:Int)) with
   | true=>exact .inr ⟨rfl,rfl⟩
   | false=>exact .inl rfl
  | false =>
   rw[h1] at hw;refine .inl ?_;simpa using hw
 clear hw hs hve hvr h hD hP1 hL1 hD1 hT1 hsh1 hne hlen hsec hhd;generalize D.write (L.sector (L.sheets.getD i sh0).num) (wrB L (L.sheets.getD i sh0))=res at *;generalize wrB L (L.sheets.getD i sh0)=bs at *;generalize L.sector (L.sheets.getD i sh0).num=sec at *;have HTu:Hid (LF w1 U l d k (L.turned i) sv tv P V):=HL1;generalize L.turned i=L1 at *;generalize L.sheets.getD i sh0=s at *;generalize ht:L.turn=tn at *;have HW1:Hid (w1=w.setCell ⟨P i,1,none⟩ (.int .i64 tn)):=φ hw1;clear hw1 ht;generalize hlo:s.lost=lo at *;generalize hsa:s.safe=sa at *;generalize hbo:s.body.length=bn at *;generalize hnu:s.num=sn at *;clear hlo hsa hbo hnu;rcases hq with e2|⟨e2,e3⟩
 rotate_left
 rw[e3] at c6;clear e3
 all_goals
  go_enter Tryz.func62,Tryz.ntmps62;go_upto_region 1 with (fail);go_still (by kernel_rfl);go_upto_region 4 with (fail);rw[<- HW1.out];go_region_held3 (fun w'=>w'.cell? ⟨l,0,none⟩=some (.pointer (some ⟨d,0,none⟩))/\w'.cell? ⟨P i,0,none⟩=some (.int .i64 sn)) (first|go_keep|exact⟨by assumption,by assumption⟩) (first|(go_at_call 71;refine (HSe.out w1.drew.drew rfl).mono ?_;rintro e w2 ⟨rfl,hw2⟩;subst hw2)|(go_at_call 117;refine (HSb.out w1.drew.drew.drew rfl).mono ?_;rintro e w3 ⟨v3,rfl,ho3,hb3⟩;obtain⟨a3,d3,rfl,hr3⟩:=ho3.rb (by have:=HLen.out;omega);rw[HLen.out] at hr3;have HDw:=φ (HDW.out w1.drew.drew.drew w3 rfl hb3 a3 d3 hr3);have B3:=φ hb3;have m3:w3.cell? ⟨l,0,none⟩=some (.pointer (some ⟨d,0,none⟩)):=(hb3.cell (p:=⟨l,0,none⟩) (HL1.out.lt l HL1.out.ul)).trans m0;have k3:w3.cell? ⟨P i,0,none⟩=some (.int .i64 sn):=(hb3.cell (p:=⟨P i,0,none⟩) HPl.out).trans k0;rw[HLen.out];clear ho3 hb3 hr3)|(go_at_call 116;refine HDw.out.mono ?_;rintro e w4 ⟨rfl,hd4,ht4⟩;have D4:=φ hd4;have T4:=φ ht4;have m4:w4.cell? ⟨l,0,none⟩=some (.pointer (some ⟨d,0,none⟩)):=(World.cell?_of_block (w:=w3) (ht4.block l (χ m3) (fun h=>HNE.out l h HL1.out.ul))).trans m3;have k4:w4.cell? ⟨P i,0,none⟩=some (.int .i64 sn):=(World.cell?_of_block (w:=w3) (ht4.block (P i) (χ k3) (fun h=>HNE.out _ h HPu.out))).trans k3;clear hd4 ht4));go_wp2_with (fail);go_ret;refine⟨rfl,HL1.out.keep (fun g hg=>(T4.out.block g (Nat.lt_of_lt_of_le (HL1.out.lt g hg) B3.out.size) (fun h=>HNE.out g h hg)).trans (B3.out.block g (HL1.out.lt g hg))) (Nat.le_trans B3.out.size T4.out.size),D4.out,?_⟩;exact ((HT1.out.drew.drew.drew).below B3.out HT1.out.size).then (T4.out.mono fun g hg=>.inl (.inr hg))
theorem lwrite_any (U:Nat->Prop) (l k:Nat) (L:LK) (d ds do_ kd:Nat) (D:DK) (sv tv:Value) (P:Nat->Nat) (V:Nat->Value) (i:Nat) (w:World) (h:LF w U l d k L sv tv P V) (hD:DiskR w d ds do_ kd D) (hne:∀ g,DB d ds do_ g->¬ U g) (hi:i<L.sheets.length) (hkd:kd<=1000000000) :
  Calls Tryz.prog 62 #[.pointer (some ⟨l,0,none⟩),.pointer (some ⟨P i,0,none⟩)] w (WrP U l k L d ds do_ kd D sv tv P V i w):=by
 cases hw:(L.sheets.getD i sh0).wants with
 | false=>exact write_no U l k L d ds do_ kd D sv tv P V i w h hD hi hw
 | true=>exact write_yes U l k L d ds do_ kd D sv tv P V i w h hD hne hi hw hkd
end
end Go.Proofs.YtohlkkannjifmaaGreatDoor
