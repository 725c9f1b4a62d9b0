/-  -/
import Derived.Test.YtgplnekpgdhcpaaGreatQWant
import Derived.Laws.OwnMore
import Derived.Test.YtgplnekpgdhcpaaGreatQFill
import Derived.Test.YtgplnekpgdhcpaaGreatKFind
namespace Go.Proofs.YtgplnekpgdhcpaaGreat
section
open Go.RowKit Go.Sort Go.Lib Go.Shelf
set_option maxRecDepth 100000 in
theorem sortStableN_none (p:Option Addr) (cap:Nat) (fv:Value) (w:World):Calls Tryz.prog 123 #[.slice p 0 cap,fv] w fun e w'=>e=.returned (.tuple #[])/\w'=w:=by
 have HI:=Lib.hid (AnyF.insertionSortCmpFunc_none Tryz.laysSlF020_f179 p cap fv w);have HS:Hid (Calls Tryz.prog 157 #[.slice p 0 cap,.int .i64 0,fv] w fun e w'=>e=.returned (.tuple #[])/\w'=w):=by
  refine Lib.hid ?_;go_enter Tryz.func157,Tryz.ntmps157;go_wp2_with (fail);go_loopw [7,8] (fun s7 s8 wr=>s7=.int .i64 0/\s8=.int .i64 20/\w=wr) (fun _ _ _=>0)
  case atStart=>exact⟨rfl,rfl,rfl⟩
  case round =>
   obtain⟨rfl,rfl,rfl⟩:=hrel;go_wp2_with (go_at_call 179;refine HI.out.mono ?_;rintro e w9 ⟨rfl,rfl⟩);go_loopw [6] (fun s6 wr=>s6=.int .i64 20/\w9=wr) (fun _ _=>0)
   case atStart=>exact⟨rfl,rfl⟩
   case round =>
    obtain⟨rfl,rfl⟩:=hrel;go_wp2_with (fail);go_end0;exact⟨rfl,rfl⟩
 go_enter Tryz.func123,Tryz.ntmps123;go_wp2_with (go_at_call 157;refine HS.out.mono ?_;rintro e w9 ⟨rfl,rfl⟩);go_end0;exact⟨rfl,rfl⟩
theorem dayCmp_any (V:World) (bx b o n c i j:Nat) (di dj:Int) (hi:i<n) (hj:j<n) (hs:V.cell? ⟨bx,0,none⟩=some (.slice (some ⟨b,o,none⟩) n c)) (h1:V.cell? ⟨b,o+i*3+1,none⟩=some (.int .i64 di)) (h2:V.cell? ⟨b,o+j*3+1,none⟩=some (.int .i64 dj)) (b1:0<=di) (b2:di<=4000) (b3:0<=dj) (b4:dj<=4000) :
  Calls Tryz.prog 124 #[.int .i64 i,.int .i64 j,.pointer (some ⟨bx,0,none⟩)] V fun e w'=>e=.returned (.int .i64 (di-dj))/\∃ q,w'=V.drewN q:=by
 have hw:IntKind.i64.wrap (di-dj)=di-dj:=wrap_in (by omega) (by omega);go_enter Tryz.func124,Tryz.ntmps124;go_wp2_with (fail);go_quiet (fail);go_wp2_with (fail);go_ret;exact⟨rfl,_,rfl⟩
def ltPD (W:List WantV) (N:Nat) (x y:Fin N):Bool:=decide ((W.getD x.1 default).day<(W.getD y.1 default).day∨((W.getD x.1 default).day=(W.getD y.1 default).day/\x.1<y.1))
theorem swoPD (W:List WantV) (N:Nat):SWO (ltPD W N) where
 irrefl x:=by unfold ltPD;exact decide_eq_false (by omega)
 trans x y z h1 h2:=by
  unfold ltPD at *;have h1:=of_decide_eq_true h1;have h2:=of_decide_eq_true h2;exact decide_eq_true (by omega)
 ntrans x y z h1 h2:=by
  unfold ltPD at *;have h1:=of_decide_eq_false h1;have h2:=of_decide_eq_false h2;exact decide_eq_false (by omega)
def dayC (W:List WantV) (N:Nat) (x y:Fin N):Int:=(W.getD x.1 default).day-(W.getD y.1 default).day
def encFin (N:Nat) (x:Fin N):Value:=.int .i64 (x.1:Nat)
theorem ltPD_leD {W:List WantV} {N:Nat} {x y:Fin N} (h:ltPD W N y x=false):leD W x.1 y.1=true:=by
 unfold ltPD at h;have h:=of_decide_eq_false h;unfold leD;simp only[Bool.or_eq_true,Bool.and_eq_true,decide_eq_true_eq];omega
theorem cell_sortWorld {α:Type} [Inhabited α] (enc:α->Value) (w:World) (blk off m:Nat) (dk:Array α) (os:Array Obj) {b o:Nat} (hb:b≠blk) (hl:b<w.heap.size):(sortWorld enc w blk off m dk os).cell? ⟨b,o,none⟩=w.cell? ⟨b,o,none⟩:=by
 have h:(sortWorld enc w blk off m dk os).heap[b]? = w.heap[b]?:=by
  unfold sortWorld;rw[grow_old _ _ (by simpa [putRow,mapBlock,Go.Sort.ahead] using hl)];simp[putRow,mapBlock,Go.Sort.ahead,Array.getElem?_modify,Ne.symm hb]
 unfold World.cell?;simp only[h]
set_option maxRecDepth 100000 in
theorem sortPlaces (base g bx B c2:Nat) (a2:Option Addr) (N c:Nat) (W:List WantV) (w:World) (hN:N+1<=20000)
  (h:w.ownsRow base 3 1 (.slice (some ⟨g,0,none⟩) (N+1) c) (N+1) ((List.finRange (N+1)).map (encFin (N+1)))) (hw:wantE.In B w a2 (N+1) c2 W) (hd:∀ x∈W,0<=x.day/\x.day<=4000) (hbx:w.cell? ⟨bx,0,none⟩=some (.slice a2 (N+1) c2)) (hbl:bx<w.heap.size) (hb1:bx≠g) (hBg:B<=g) :
  Calls Tryz.prog 123 #[.slice (some ⟨g,0,none⟩) (N+1) c,.func (.func 124) #[] #[.pointer (some ⟨bx,0,none⟩)]] w fun e w'=>e=.returned (.tuple #[])/\w'.ownsRow base 3 1 (.slice (some ⟨g,0,none⟩) (N+1) c) (N+1) ((dayO W).map fun i=>.int .i64 (i:Nat))/\OnlyB g w w':=by
 have hlt:=(Tx.rows_ge h g rfl).2;have hWl:=hw.len;obtain⟨g',cap,e0,-,-,-,-,-,hH⟩:=holds_of_ownsRow h (by simp);injection e0 with e1 e2 e3
 injection e1 with e1
 injection e1 with e1
 subst e1;subst e3;have hsz:(List.finRange (N+1)).toArray.size=N+1:=by simp
 have hat:∀ i (hi:i<N+1),(List.finRange (N+1)).toArray[i]! = ⟨i,hi⟩:=fun i hi=>by
  rw[getElem!_pos _ i (by simpa using hi)];simp
 have R:Row1 (encFin (N+1)) w g 0 (List.finRange (N+1)).toArray:=⟨fun _=>rfl,hH,hlt⟩
 obtain⟨b,o,ha2,hbB,hcell⟩:=wantE_at hw (by have:=hw.le;omega);subst ha2;have hday:∀ i,i<N+1->0<=(W.getD i default).day/\(W.getD i default).day<=4000:=fun i hi=>by
  rw[List.getD_eq_getElem?_getD,List.getElem?_eq_getElem (by omega)];exact hd _ (List.getElem_mem _)
 refine (sortStableN (encFin (N+1)) (dayC W (N+1)) (ltPD W (N+1)) (swoPD W (N+1)) 124 #[.pointer (some ⟨bx,0,none⟩)] g 0 c (N+1) (List.finRange (N+1)).toArray w (enters_of Tryz.func124 (by kernel_rfl) rfl) (fun m os dk _ x y=>?_) R hsz (by omega) (SW.start hH) (fun i j _ hij hj=>?_)).mono ?_
 ·have hv:=hday x.1 x.2;have hv2:=hday y.1 y.2;have:=dayCmp_any (sortWorld (encFin (N+1)) w g 0 m dk os) bx b o (N+1) c2 x.1 y.1 (W.getD x.1 default).day (W.getD y.1 default).day x.2 y.2
   (by rw[cell_sortWorld _ _ _ _ _ _ _ hb1 hbl];exact hbx) (by rw[cell_sortWorld _ _ _ _ _ _ _ (by omega) (by omega)];exact (hcell x.1 x.2).2.1) (by rw[cell_sortWorld _ _ _ _ _ _ _ (by omega) (by omega)];exact (hcell y.1 y.2).2.1) hv.1 hv.2 hv2.1 hv2.2
  refine Calls.mono (by simpa [encFin] using this) ?_;rintro e w' ⟨rfl,q,rfl⟩;exact⟨rfl,q,#[],by rw[grow_empty]⟩
 ·rw[hsz] at hj;rw[hat i (by omega),hat j hj];unfold ltOf dayC ltPD
  congr 1
  apply propext;simp only;omega
 ·rintro e w' ⟨rfl,d',h1,h2,h3,h4⟩;obtain⟨q1,q2⟩:=own_sorted1 h h2 h1;refine⟨rfl,?_,q2⟩;have hp:=permIn_list (d:=(List.finRange (N+1)).toArray) (d':=d') (by rw[hsz];exact h3);have hs:=sortedIn_list h1 h4;have e:d'.toList.map (fun x:Fin (N+1)=>x.1)=dayO W:=by
   refine dayO_only ?_ ?_
   ·have:=hp.map (fun x:Fin (N+1)=>x.1);rw[show ((List.finRange (N+1)).toArray.toList.map fun x:Fin (N+1)=>x.1)=List.range W.length by rw[<- hWl];exact List.ext_getElem (by simp) (fun i h1 h2=>by simp)] at this;exact this
   ·rw[List.pairwise_map];exact hs.imp fun {x y} hxy=>ltPD_leD hxy
  have e2:d'.toList.map (encFin (N+1))=(dayO W).map fun i=>Value.int .i64 (i:Nat):=by
   rw[<- e,List.map_map];rfl
  rw[<- e2];exact q1
theorem row_next {n j:Nat} (hj:j<n):(((List.range j).map fun i=>Value.int .i64 (i:Nat))++List.replicate (n-j) (Value.int .i64 0)).set j (Value.int .i64 (j:Nat))=((List.range (j+1)).map fun i=>Value.int .i64 (i:Nat))++List.replicate (n-(j+1)) (Value.int .i64 0):=by
 rw[List.set_append_right _ _ (by simp),List.range_succ,List.map_append,List.append_assoc]
 congr 1
 rw[List.length_map,List.length_range,Nat.sub_self,show n-j=(n-(j+1))+1 by omega,List.replicate_succ];rfl
theorem intInfo:(Tryz.prog.info? 3).map (fun i=>(i.zero,i.size,i.bytes))=some (some (.int .i64 0),1,8):=by kernel_rfl
set_option maxHeartbeats 2000000 in
set_option maxRecDepth 100000 in
theorem days_any (B:Nat) (a2:Option Addr) (n2 c2:Nat) (W:List WantV) (w:World) (hw:wantE.In B w a2 n2 c2 W) (hB:B<=w.heap.size) (hn:n2<=20000) (hd:∀ x∈W,0<=x.day/\x.day<=4000) :
  Calls Tryz.prog 89 #[.slice a2 n2 c2] w fun e w'=>(∃ g,e=.returned (.slice (some ⟨g,0,none⟩) n2 n2)/\w'.ownsRow w.heap.size 3 1 (.slice (some ⟨g,0,none⟩) n2 n2) n2 ((dayO W).map fun i=>.int .i64 (i:Nat)))/\Below w.heap.size w w':=by
 obtain⟨i0,hi,hz0,hz1,hz2⟩:=info_parts intInfo;have hle:=hw.le;have hmx:=hw.mx;have Hln:=Lib.hid hw.len;have HW:=Lib.hid hw;have HD:=Lib.hid hd;obtain⟨W1,hW1⟩:∃ V,V=w.alloc (.cells #[.slice a2 n2 c2] 35):=⟨_,rfl⟩
 have hs1:W1.heap.size=w.heap.size+1:=by rw[hW1,World.size_alloc]
 have hb1:Below w.heap.size w W1:=by rw[hW1];exact (Below.refl _ w).alloc (Nat.le_refl _) _
 have hbx:W1.cell? ⟨w.heap.size,0,none⟩=some (.slice a2 n2 c2):=by rw[hW1];simp
 obtain⟨W2,hrun,hown,hgrow⟩:=run_make_full (P:=Tryz.prog) (w:=W1) W1.heap.size 119 3 i0 (.int .i64 0) 1 Tryz.underlying119 hi hz0 hz1 .i64 .i64 n2 (by rw[hz2];omega) (by simp only[maxLen];omega) (Nat.le_refl _);rw[show (Value.int .i64 0).cells=#[.int .i64 0] from rfl,Nat.mul_one,toList_madeCells_one] at hown;obtain⟨gb,hgb⟩:∃ g,g=W1.heap.size:=⟨_,rfl⟩
 rw[<- hgb] at hown hrun;have B2:Hid (Below W1.heap.size W1 W2):=Lib.hid ((Below.refl _ W1).grown hgrow (Nat.le_refl _) (fun r e=>by cases e));have O2:=Lib.hid hown;have HB1:=Lib.hid hb1;have HW1:=Lib.hid hW1;have HS1:=Lib.hid hs1;have HBX:=Lib.hid hbx;have HGB:=Lib.hid hgb;clear hi hz0 hz1 hz2 hw hd hown hgrow hb1 hs1;go_enter Tryz.func89,Tryz.ntmps89;go_upto_region 1 with (fail);rw[<- HW1.out];clear hW1;clear hgb;go_wp2_with (fail);clear hrun hbx;go_loopw [10] (fun s10 wr=>∃ j:Nat,s10=.int .i64 j/\j<=n2/\Hid (wr.ownsRow gb 3 1 (.slice (some ⟨gb,0,none⟩) n2 n2) n2 (((List.range j).map fun i=>Value.int .i64 (i:Nat))++List.replicate (n2-j) (Value.int .i64 0)))/\Hid (Below W1.heap.size W1 wr)) (fun s10 _=>n2-(intOf s10).toNat)
 case atStart=>exact⟨0,by go_num,Nat.zero_le _,by simpa using O2,B2⟩
 case round =>
  clear O2 B2;obtain⟨j,rfl,hj,HO,HB⟩:=hrel;by_cases hlt:j<n2
  ·have hc:=HO.out.cellAt j (by omega);have hf:=HO.out.frozenAt j;obtain⟨u,hu⟩:∃ u,(((List.range j).map fun i=>Value.int .i64 (i:Nat))++List.replicate (n2-j) (Value.int .i64 0))[j]? = some u:=⟨_,List.getElem?_eq_getElem (by simp;omega)⟩
   rw[hu] at hc;clear hu;have HN:=Lib.hid (HO.out.stored j (.int .i64 (j:Nat)));have hrn:=Lib.hid (row_next hlt);go_wp2_with (fail);go_roundw
   case rel=>exact⟨j+1,by go_num,by omega,Lib.hid (by rw[<- hrn.out];exact HN.out.1),Lib.hid (HB.out.grown HN.out.2 HB.out.size (fun k e=>by cases e;rw[HGB.out];exact Nat.le_refl _))⟩
   case measure=>simp[intOf];omega
  ·have hge:j=n2:=by omega
   subst hge;by_cases h0:j=0
   ·subst h0;have HNo:=Lib.hid (sortStableN_none (some ⟨gb,0,none⟩) 0 (.func (.func 124) #[] #[.pointer (some ⟨w.heap.size,0,none⟩)]) wr);go_wp2_with (go_at_call 123;refine HNo.out.mono ?_;rintro e w9 ⟨rfl,rfl⟩);go_ret;refine⟨⟨gb,rfl,?_⟩,HB1.out.trans (HB.out.mono (by rw[HS1.out];exact Nat.le_succ _))⟩;have hW0:W=[]:=List.eq_nil_of_length_eq_zero Hln.out.symm;have e:(dayO W).map (fun i=>Value.int .i64 (i:Nat))=[]:=by
     apply List.eq_nil_of_length_eq_zero;rw[List.length_map,dayO_len,hW0];rfl
    rw[e];have:=HO.out;simp only[List.range_zero,List.map_nil,List.nil_append,Nat.sub_self,List.replicate_zero] at this;exact Tx.rows_mono this (by rw[HGB.out,HS1.out];exact Nat.le_succ _)
   ·obtain⟨N,rfl⟩:∃ N,j=N+1:=⟨j-1,by omega⟩
    have e0:((List.range (N+1)).map fun i=>Value.int .i64 (i:Nat))++List.replicate (N+1-(N+1)) (Value.int .i64 0)=(List.finRange (N+1)).map (encFin (N+1)):=by
     rw[Nat.sub_self,List.replicate_zero,List.append_nil];exact List.ext_getElem (by simp) (fun i h1 h2=>by simp[encFin])
    have HO2:=HO.out;rw[e0] at HO2;have HS:=Lib.hid (sortPlaces gb gb w.heap.size B c2 a2 N (N+1) W wr hn HO2 (HW.out.below ((HB1.out.mono hB).trans (HB.out.mono (by rw[HS1.out];omega)))) HD.out (by rw[HB.out.cell (p:=⟨w.heap.size,0,none⟩) (by show w.heap.size<_;rw[HS1.out];omega)];exact HBX.out) (by have:=HB.out.size;rw[HS1.out] at this;omega) (by rw[HGB.out,HS1.out];omega) (by rw[HGB.out,HS1.out];omega));clear HO2 e0;go_wp2_with (go_at_call 123;refine HS.out.mono ?_;rintro e w9 ⟨rfl,hr9,ho9⟩);go_ret;exact⟨⟨gb,rfl,Tx.rows_mono hr9 (by rw[HGB.out,HS1.out];exact Nat.le_succ _)⟩,below_only (HB1.out.trans (HB.out.mono (by rw[HS1.out];exact Nat.le_succ _))) ho9 (Nat.le_refl _) (by rw[HGB.out,HS1.out];exact Nat.le_succ _)⟩
end
section
open Go.RowKit
def elig (item:List UInt8) (day:Int) (f:Int->Int) (l:LotV):Bool:=decide (0<f l.id) && (decide (l.item=item) && hasW l.fr l.un day)
theorem elig_iff {item:List UInt8} {day:Int} {f:Int->Int} {l:LotV}:elig item day f l=true↔0<f l.id/\l.item=item/\hasW l.fr l.un day=true:=by
 unfold elig;simp only[Bool.and_eq_true,decide_eq_true_eq]
def ofItem (L:List LotV) (item:List UInt8):List LotV:=(srt L).filter fun l=>decide (l.item=item)
theorem ofItem_mem {L:List LotV} {item:List UInt8} {l:LotV}:l∈ofItem L item↔l∈L/\l.item=item:=by
 unfold ofItem;rw[List.mem_filter,(srt_perm L).mem_iff,decide_eq_true_eq]
theorem not_elig {item:List UInt8} {day:Int} {f:Int->Int} {a:LotV} (h0:0<=f a.id) (hi:a.item=item) (h:elig item day f a=false):f a.id=0∨hasW a.fr a.un day=false:=by
 unfold elig at h;simp only[Bool.and_eq_false_iff,decide_eq_false_iff_not] at h;rcases h with h|h|h
 ·exact .inl (by omega)
 ·exact absurd hi h
 ·exact .inr h
theorem pass_no {L:List LotV} {item:List UInt8} {day at_:Int} {f:Int->Int} {need:Int} (hn:0<=need) (hf:∀ a∈L,0<=f a.id) (h:∀ a∈L,elig item day f a=false):pass day at_ (ofItem L item) f need=([],f,need) :=
 pass_none hn fun a ha=>by
  obtain⟨h1,h2⟩:=ofItem_mem.1 ha;exact not_elig (hf a h1) h2 (h a h1)
theorem pass_least {L:List LotV} {item:List UInt8} {day at_:Int} {f:Int->Int} {need:Int} {k:LotV} (hid:(L.map (·.id)).Nodup) (hn:0<need) (hf:∀ a∈L,0<=f a.id) (hk:k∈L) (he:elig item day f k=true) (hm:∀ a∈L,elig item day f a=true->leL k a=true) :
  pass day at_ (ofItem L item) f need=(⟨at_,k.id,min need (f k.id)⟩::(pass day at_ (ofItem L item) (upd f k.id (f k.id-min need (f k.id))) (need-min need (f k.id))).1,(pass day at_ (ofItem L item) (upd f k.id (f k.id-min need (f k.id))) (need-min need (f k.id))).2):=by
 obtain⟨h1,h2,h3⟩:=elig_iff.1 he;obtain⟨A,B,hAB⟩:=List.append_of_mem (ofItem_mem.2 ⟨hk,h2⟩);have hs:(ofItem L item).Pairwise fun a b=>leL a b=true:=(srt_sorted L).sublist List.filter_sublist
 have hnd:((ofItem L item).map (·.id)).Nodup:=by
  have:((srt L).map (·.id)).Nodup:=((srt_perm L).map _).nodup_iff.2 hid;exact this.sublist (List.filter_sublist.map _)
 rw[hAB] at hs hnd ⊢;refine pass_step hn (fun a ha=>?_) h1 h3;obtain⟨m1,m2⟩:=ofItem_mem.1 (show a∈ofItem L item by rw[hAB];exact List.mem_append_left _ ha);refine not_elig (hf a m1) m2 ?_
 cases hea:elig item day f a with
 | false=>rfl
 | true =>
  exfalso
  have l1:=hm a m1 hea;have l2:=(List.pairwise_append.1 hs).2.2 a ha k List.mem_cons_self;have hid2:a.id=k.id:=by
   unfold leL at l1 l2;simp only[Bool.or_eq_true,Bool.and_eq_true,decide_eq_true_eq] at l1 l2;omega
  rw[List.map_append,List.map_cons,List.nodup_append] at hnd;exact hnd.2.2 a.id (List.mem_map_of_mem ha) k.id List.mem_cons_self hid2
theorem left0_of {L:List LotV} (hid:(L.map (·.id)).Nodup) {l:LotV} (hl:l∈L):left0 L l.id=l.qty:=by
 unfold left0
 induction L with
 | nil=>cases hl
 | cons x L ih =>
  rw[List.map_cons,List.nodup_cons] at hid;rw[List.find?_cons];rcases List.mem_cons.1 hl with rfl|hl
  ·simp
  ·have:x.id≠l.id:=fun e=>hid.1 (by rw[e];exact List.mem_map_of_mem hl)
   simp only[this,decide_false];exact ih hid.2 hl
theorem mayB_iff {L:List LotV} {W:List WantV}:mayB L W=true↔L.length<=300/\W.length<=20000/\(∀ l∈L,lotOk l=true)/\(L.map (·.id)).Nodup/\(∀ w∈W,wantOk w=true):=by
 unfold mayB idsOk;simp only[Bool.and_eq_true,decide_eq_true_eq,List.all_eq_true,and_assoc]
theorem lotOk_iff {l:LotV}:lotOk l=true↔1<=l.id/\okCode l.item=true/\0<=l.fr/\l.fr<l.un/\l.un<=4001/\1<=l.qty/\l.qty<=1073741824:=by
 unfold lotOk;simp only[Bool.and_eq_true,decide_eq_true_eq,and_assoc]
theorem wantOk_iff {w:WantV}:wantOk w=true↔okCode w.item=true/\0<=w.day/\w.day<=4000/\1<=w.qty/\w.qty<=1125899906842624:=by
 unfold wantOk;simp only[Bool.and_eq_true,decide_eq_true_eq,and_assoc]
end
section
open Go.RowKit
def winB (fr un:Int):Bool:=decide (0<=fr) && decide (fr<=un) && decide (un<=4001)
theorem winB_yes {fr un:Int} (h0:0<=fr) (h1:fr<=un) (h2:un<=4001):winB fr un=true:=by unfold winB;simp[h0,h1,h2]
theorem winB_no {fr un:Int} (h:¬ (0<=fr/\fr<=un/\un<=4001)):winB fr un=false:=by
 unfold winB;simp only[Bool.and_eq_false_iff,decide_eq_false_iff_not];omega
theorem winB_iff {fr un:Int}:winB fr un=true↔0<=fr/\fr<=un/\un<=4001:=by
 unfold winB;simp only[Bool.and_eq_true,decide_eq_true_eq,and_assoc]
theorem winRight_any (fr un:Int) (w:World):Calls Tryz.prog 113 #[.agg #[.int .i64 fr,.int .i64 un]] w fun e w'=>e=.returned (.bool (winB fr un))/\Below w.heap.size w w':=by
 have HB:=Lib.hid (fun c:Array Value=>(Below.refl w.heap.size w).alloc (Nat.le_refl _) (.cells c 48));by_cases h0:0<=fr
 ·by_cases h1:fr<=un
  ·by_cases h2:un<=4001
   ·have E:=Lib.hid (winB_yes h0 h1 h2);go_enter Tryz.func113,Tryz.ntmps113;go_wp2_with (fail);go_ret;exact⟨by rw[E.out];rfl,HB.out _⟩
   ·have E:=Lib.hid (winB_no (fr:=fr) (un:=un) (fun h=>h2 h.2.2));go_enter Tryz.func113,Tryz.ntmps113;go_wp2_with (fail);go_ret;exact⟨by rw[E.out];rfl,HB.out _⟩
  ·have E:=Lib.hid (winB_no (fr:=fr) (un:=un) (fun h=>h1 h.2.1));go_enter Tryz.func113,Tryz.ntmps113;go_wp2_with (fail);go_ret;exact⟨by rw[E.out];rfl,HB.out _⟩
 ·have E:=Lib.hid (winB_no (fr:=fr) (un:=un) (fun h=>h0 h.1));go_enter Tryz.func113,Tryz.ntmps113;go_wp2_with (fail);go_ret;exact⟨by rw[E.out];rfl,HB.out _⟩
theorem hasW_eq (fr un day:Int):hasW fr un day=(winB fr un && (decide (fr<=day) && decide (day<un))):=by
 unfold hasW winB;simp only[Bool.and_assoc]
set_option maxHeartbeats 1000000 in
theorem winHas_any (fr un day:Int) (w:World):Calls Tryz.prog 82 #[.agg #[.int .i64 fr,.int .i64 un],.int .i64 day] w fun e w'=>e=.returned (.bool (hasW fr un day))/\Below w.heap.size w w':=by
 generalize hr:hasW fr un day=r;have HQ:=Lib.hid hr;clear hr;have HR:=Lib.hid (fun W=>winRight_any fr un W);have HB:=Lib.hid ((Below.refl w.heap.size w).alloc (Nat.le_refl _) (.cells #[.int .i64 fr,.int .i64 un] 48));have HC:Hid ((w.alloc (.cells #[.int .i64 fr,.int .i64 un] 48)).cell? ⟨w.heap.size,0,none⟩=some (.int .i64 fr)/\(w.alloc (.cells #[.int .i64 fr,.int .i64 un] 48)).cell? ⟨w.heap.size,1,none⟩=some (.int .i64 un)):=Lib.hid ⟨by simp,by simp⟩
 cases hb:winB fr un with
 | true =>
  rw[hb] at HR;by_cases h1:fr<=day
  ·by_cases h2:day<un
   ·have E:=Lib.hid (show hasW fr un day=true by rw[hasW_eq,hb];simp[h1,h2]);clear hb;go_enter Tryz.func82,Tryz.ntmps82;go_wp2_with (go_at_call 113;refine (HR.out _).mono ?_;rintro e w9 ⟨rfl,hb⟩;have c0:=(hb.cell (p:=⟨w.heap.size,0,none⟩) (by simp)).trans (HC.out.1);have c1:=(hb.cell (p:=⟨w.heap.size,1,none⟩) (by simp)).trans (HC.out.2);have B9:=Lib.hid (HB.out.trans (hb.mono (by simp))));go_ret;exact⟨by rw[<- HQ.out,E.out];first|rfl|simp[*],B9.out⟩
   ·have E:=Lib.hid (show hasW fr un day=false by rw[hasW_eq,hb];simp[h2]);clear hb;go_enter Tryz.func82,Tryz.ntmps82;go_wp2_with (go_at_call 113;refine (HR.out _).mono ?_;rintro e w9 ⟨rfl,hb⟩;have c0:=(hb.cell (p:=⟨w.heap.size,0,none⟩) (by simp)).trans (HC.out.1);have c1:=(hb.cell (p:=⟨w.heap.size,1,none⟩) (by simp)).trans (HC.out.2);have B9:=Lib.hid (HB.out.trans (hb.mono (by simp))));go_ret;exact⟨by rw[<- HQ.out,E.out];first|rfl|simp[*],B9.out⟩
  ·have E:=Lib.hid (show hasW fr un day=false by rw[hasW_eq,hb];simp[h1]);clear hb;go_enter Tryz.func82,Tryz.ntmps82;go_wp2_with (go_at_call 113;refine (HR.out _).mono ?_;rintro e w9 ⟨rfl,hb⟩;have c0:=(hb.cell (p:=⟨w.heap.size,0,none⟩) (by simp)).trans (HC.out.1);have c1:=(hb.cell (p:=⟨w.heap.size,1,none⟩) (by simp)).trans (HC.out.2);have B9:=Lib.hid (HB.out.trans (hb.mono (by simp))));go_ret;exact⟨by rw[<- HQ.out,E.out];first|rfl|simp[*],B9.out⟩
 | false =>
  rw[hb] at HR;have E:=Lib.hid (show hasW fr un day=false by rw[hasW_eq,hb];simp);clear hb;go_enter Tryz.func82,Tryz.ntmps82;go_wp2_with (go_at_call 113;refine (HR.out _).mono ?_;rintro e w9 ⟨rfl,hb⟩;have c0:=(hb.cell (p:=⟨w.heap.size,0,none⟩) (by simp)).trans (HC.out.1);have c1:=(hb.cell (p:=⟨w.heap.size,1,none⟩) (by simp)).trans (HC.out.2);have B9:=Lib.hid (HB.out.trans (hb.mono (by simp))));go_ret;exact⟨by rw[<- HQ.out,E.out];first|rfl|simp[*],B9.out⟩
theorem lotOk_yes {id:Int} {item:List UInt8} {fr un qty:Int} {arr:Bool} (h0:0<id) (hk:okCode item=true) (hw:winB fr un=true) (h1:fr<un) (h2:0<qty) (h3:qty<=1073741824):lotOk ⟨id,item,fr,un,qty,arr⟩=true:=by
 have:=winB_iff.1 hw;exact lotOk_iff.2 ⟨by show 1<=id;omega,hk,this.1,h1,this.2.2,by show 1<=qty;omega,h3⟩
theorem lotOk_no {id:Int} {item:List UInt8} {fr un qty:Int} {arr:Bool} (h:¬ (0<id/\okCode item=true/\winB fr un=true/\fr<un/\0<qty/\qty<=1073741824)):lotOk ⟨id,item,fr,un,qty,arr⟩=false:=by
 cases hl:lotOk ⟨id,item,fr,un,qty,arr⟩ with
 | false=>rfl
 | true =>
  obtain⟨k1,k2,k3,k4,k5,k6,k7⟩:=lotOk_iff.1 hl;simp only at k1 k2 k3 k4 k5 k6 k7;exact absurd ⟨by omega,k2,winB_iff.2 ⟨k3,by omega,k5⟩,k4,by omega,k7⟩ h
set_option maxHeartbeats 2000000 in
theorem lotRight_any (x:LotV) (hx:x.item.length<=9223372036854775807) (w:World):Calls Tryz.prog 111 #[x.val] w fun e w'=>e=.returned (.bool (lotOk x))/\Below w.heap.size w w':=by
 generalize hr:lotOk x=r;have HQ:=Lib.hid hr;clear hr;obtain⟨id,item,fr,un,qty,arr⟩:=x;have HK:=Lib.hid (fun W=>cRight_any item hx W);have HR:=Lib.hid (fun W=>winRight_any fr un W);clear hx;unfold LotV.val encStr;simp only;have HB:=Lib.hid ((Below.refl w.heap.size w).alloc (Nat.le_refl _) (.cells #[.int .i64 id,.string ⟨item.toArray⟩,.int .i64 fr,.int .i64 un,.int .i64 qty,.bool arr] 50));have HX:Hid (∀ W,Below (w.alloc (.cells #[.int .i64 id,.string ⟨item.toArray⟩,.int .i64 fr,.int .i64 un,.int .i64 qty,.bool arr] 50)).heap.size (w.alloc (.cells #[.int .i64 id,.string ⟨item.toArray⟩,.int .i64 fr,.int .i64 un,.int .i64 qty,.bool arr] 50)) W->W.cell? ⟨w.heap.size,0,none⟩=some (.int .i64 id)/\W.cell? ⟨w.heap.size,1,none⟩=some (.string ⟨item.toArray⟩)/\W.cell? ⟨w.heap.size,2,none⟩=some (.int .i64 fr)/\W.cell? ⟨w.heap.size,3,none⟩=some (.int .i64 un)/\W.cell? ⟨w.heap.size,4,none⟩=some (.int .i64 qty)):=Lib.hid fun W h=>⟨(h.cell (p:=⟨w.heap.size,0,none⟩) (by simp)).trans (by simp),(h.cell (p:=⟨w.heap.size,1,none⟩) (by simp)).trans (by simp),(h.cell (p:=⟨w.heap.size,2,none⟩) (by simp)).trans (by simp),(h.cell (p:=⟨w.heap.size,3,none⟩) (by simp)).trans (by simp),(h.cell (p:=⟨w.heap.size,4,none⟩) (by simp)).trans (by simp)⟩
 by_cases h0:0<id
 ·cases hk:okCode item with
  | true =>
   rw[hk] at HK
   cases hw:winB fr un with
   | true =>
    rw[hw] at HR;by_cases h1:fr<un
    ·by_cases h2:0<qty
     ·by_cases h3:qty<=1073741824
      ·have E:=Lib.hid (lotOk_yes (arr:=arr) h0 hk hw h1 h2 h3);clear hk hw;go_enter Tryz.func111,Tryz.ntmps111;go_wp2_with (first|(go_at_call 52;refine (HK.out _).mono ?_;rintro e w8 ⟨rfl,hb8⟩;obtain⟨g1,g2,g3,g4,g5⟩:=HX.out w8 hb8;have B8:=Lib.hid (HB.out.trans (hb8.mono (by simp)));have HX8:=Lib.hid (fun W (h:Below w8.heap.size w8 W)=>HX.out W (hb8.trans (h.mono hb8.size))))|(go_at_call 113;refine (HR.out _).mono ?_;rintro e w9 ⟨rfl,hb9⟩;obtain⟨k1,k2,k3,k4,k5⟩:=HX8.out w9 hb9;have B9:=Lib.hid (B8.out.trans (hb9.mono B8.out.size))));go_ret;exact⟨by rw[<- HQ.out,E.out];first|rfl|simp[*],B9.out⟩
      ·have E:=Lib.hid (lotOk_no (id:=id) (item:=item) (fr:=fr) (un:=un) (qty:=qty) (arr:=arr) (fun h=>h3 h.2.2.2.2.2));clear hk hw;go_enter Tryz.func111,Tryz.ntmps111;go_wp2_with (first|(go_at_call 52;refine (HK.out _).mono ?_;rintro e w8 ⟨rfl,hb8⟩;obtain⟨g1,g2,g3,g4,g5⟩:=HX.out w8 hb8;have B8:=Lib.hid (HB.out.trans (hb8.mono (by simp)));have HX8:=Lib.hid (fun W (h:Below w8.heap.size w8 W)=>HX.out W (hb8.trans (h.mono hb8.size))))|(go_at_call 113;refine (HR.out _).mono ?_;rintro e w9 ⟨rfl,hb9⟩;obtain⟨k1,k2,k3,k4,k5⟩:=HX8.out w9 hb9;have B9:=Lib.hid (B8.out.trans (hb9.mono B8.out.size))));go_ret;exact⟨by rw[<- HQ.out,E.out];first|rfl|simp[*],B9.out⟩
     ·have E:=Lib.hid (lotOk_no (id:=id) (item:=item) (fr:=fr) (un:=un) (qty:=qty) (arr:=arr) (fun h=>h2 h.2.2.2.2.1));clear hk hw;go_enter Tryz.func111,Tryz.ntmps111;go_wp2_with (first|(go_at_call 52;refine (HK.out _).mono ?_;rintro e w8 ⟨rfl,hb8⟩;obtain⟨g1,g2,g3,g4,g5⟩:=HX.out w8 hb8;have B8:=Lib.hid (HB.out.trans (hb8.mono (by simp)));have HX8:=Lib.hid (fun W (h:Below w8.heap.size w8 W)=>HX.out W (hb8.trans (h.mono hb8.size))))|(go_at_call 113;refine (HR.out _).mono ?_;rintro e w9 ⟨rfl,hb9⟩;obtain⟨k1,k2,k3,k4,k5⟩:=HX8.out w9 hb9;have B9:=Lib.hid (B8.out.trans (hb9.mono B8.out.size))));go_ret;exact⟨by rw[<- HQ.out,E.out];first|rfl|simp[*],B9.out⟩
    ·have E:=Lib.hid (lotOk_no (id:=id) (item:=item) (fr:=fr) (un:=un) (qty:=qty) (arr:=arr) (fun h=>h1 h.2.2.2.1));clear hk hw;go_enter Tryz.func111,Tryz.ntmps111;go_wp2_with (first|(go_at_call 52;refine (HK.out _).mono ?_;rintro e w8 ⟨rfl,hb8⟩;obtain⟨g1,g2,g3,g4,g5⟩:=HX.out w8 hb8;have B8:=Lib.hid (HB.out.trans (hb8.mono (by simp)));have HX8:=Lib.hid (fun W (h:Below w8.heap.size w8 W)=>HX.out W (hb8.trans (h.mono hb8.size))))|(go_at_call 113;refine (HR.out _).mono ?_;rintro e w9 ⟨rfl,hb9⟩;obtain⟨k1,k2,k3,k4,k5⟩:=HX8.out w9 hb9;have B9:=Lib.hid (B8.out.trans (hb9.mono B8.out.size))));go_ret;exact⟨by rw[<- HQ.out,E.out];first|rfl|simp[*],B9.out⟩
   | false =>
    rw[hw] at HR;have E:=Lib.hid (lotOk_no (id:=id) (item:=item) (fr:=fr) (un:=un) (qty:=qty) (arr:=arr) (fun h=>by rw[hw] at h;cases h.2.2.1));clear hk hw;go_enter Tryz.func111,Tryz.ntmps111;go_wp2_with (first|(go_at_call 52;refine (HK.out _).mono ?_;rintro e w8 ⟨rfl,hb8⟩;obtain⟨g1,g2,g3,g4,g5⟩:=HX.out w8 hb8;have B8:=Lib.hid (HB.out.trans (hb8.mono (by simp)));have HX8:=Lib.hid (fun W (h:Below w8.heap.size w8 W)=>HX.out W (hb8.trans (h.mono hb8.size))))|(go_at_call 113;refine (HR.out _).mono ?_;rintro e w9 ⟨rfl,hb9⟩;obtain⟨k1,k2,k3,k4,k5⟩:=HX8.out w9 hb9;have B9:=Lib.hid (B8.out.trans (hb9.mono B8.out.size))));go_ret;exact⟨by rw[<- HQ.out,E.out];first|rfl|simp[*],B9.out⟩
  | false =>
   rw[hk] at HK;have E:=Lib.hid (lotOk_no (id:=id) (item:=item) (fr:=fr) (un:=un) (qty:=qty) (arr:=arr) (fun h=>by rw[hk] at h;cases h.2.1));clear hk;go_enter Tryz.func111,Tryz.ntmps111;go_wp2_with (first|(go_at_call 52;refine (HK.out _).mono ?_;rintro e w8 ⟨rfl,hb8⟩;obtain⟨g1,g2,g3,g4,g5⟩:=HX.out w8 hb8;have B8:=Lib.hid (HB.out.trans (hb8.mono (by simp)));have HX8:=Lib.hid (fun W (h:Below w8.heap.size w8 W)=>HX.out W (hb8.trans (h.mono hb8.size))))|(go_at_call 113;refine (HR.out _).mono ?_;rintro e w9 ⟨rfl,hb9⟩;obtain⟨k1,k2,k3,k4,k5⟩:=HX8.out w9 hb9;have B9:=Lib.hid (B8.out.trans (hb9.mono B8.out.size))));go_ret;exact⟨by rw[<- HQ.out,E.out];first|rfl|simp[*],B8.out⟩
 ·have E:=Lib.hid (lotOk_no (id:=id) (item:=item) (fr:=fr) (un:=un) (qty:=qty) (arr:=arr) (fun h=>h0 h.1));go_enter Tryz.func111,Tryz.ntmps111;go_wp2_with (first|(go_at_call 52;refine (HK.out _).mono ?_;rintro e w8 ⟨rfl,hb8⟩;obtain⟨g1,g2,g3,g4,g5⟩:=HX.out w8 hb8;have B8:=Lib.hid (HB.out.trans (hb8.mono (by simp)));have HX8:=Lib.hid (fun W (h:Below w8.heap.size w8 W)=>HX.out W (hb8.trans (h.mono hb8.size))))|(go_at_call 113;refine (HR.out _).mono ?_;rintro e w9 ⟨rfl,hb9⟩;obtain⟨k1,k2,k3,k4,k5⟩:=HX8.out w9 hb9;have B9:=Lib.hid (B8.out.trans (hb9.mono B8.out.size))));go_ret;exact⟨by rw[<- HQ.out,E.out];first|rfl|simp[*],HB.out⟩
def WantV.val (x:WantV):Value:=.agg #[encStr x.item,.int .i64 x.day,.int .i64 x.qty]
theorem wantOk_yes {item:List UInt8} {day qty:Int} (hk:okCode item=true) (h0:¬ day<0) (h1:¬ 4000<day) (h2:¬ qty<1) (h3:okA qty=true):wantOk ⟨item,day,qty⟩=true:=by
 have:=okA_iff.1 h3;exact wantOk_iff.2 ⟨hk,by show 0<=day;omega,by show day<=4000;omega,by show 1<=qty;omega,this.2⟩
theorem wantOk_no {item:List UInt8} {day qty:Int} (h:¬ (okCode item=true/\¬ day<0/\¬ 4000<day/\¬ qty<1/\okA qty=true)):wantOk ⟨item,day,qty⟩=false:=by
 cases hl:wantOk ⟨item,day,qty⟩ with
 | false=>rfl
 | true =>
  obtain⟨k1,k2,k3,k4,k5⟩:=wantOk_iff.1 hl;simp only at k1 k2 k3 k4 k5;exact absurd ⟨k1,by omega,by omega,by omega,okA_iff.2 ⟨by omega,k5⟩⟩ h
set_option maxHeartbeats 2000000 in
theorem wantBad_any (x:WantV) (hx:x.item.length<=9223372036854775807) (w:World):Calls Tryz.prog 112 #[x.val] w fun e w'=>e=.returned (.bool (!wantOk x))/\Below w.heap.size w w':=by
 generalize hr:(!wantOk x)=r;have HQ:=Lib.hid hr;clear hr;obtain⟨item,day,qty⟩:=x;have HK:=Lib.hid (fun W=>cRight_any item hx W);have HR:=Lib.hid (fun W=>Right_any qty W);clear hx;unfold WantV.val encStr;simp only;have HB:=Lib.hid ((Below.refl w.heap.size w).alloc (Nat.le_refl _) (.cells #[.string ⟨item.toArray⟩,.int .i64 day,.int .i64 qty] 71));have HX:Hid (∀ W,Below (w.alloc (.cells #[.string ⟨item.toArray⟩,.int .i64 day,.int .i64 qty] 71)).heap.size (w.alloc (.cells #[.string ⟨item.toArray⟩,.int .i64 day,.int .i64 qty] 71)) W->W.cell? ⟨w.heap.size,1,none⟩=some (.int .i64 day)/\W.cell? ⟨w.heap.size,2,none⟩=some (.int .i64 qty)):=Lib.hid fun W h=>⟨(h.cell (p:=⟨w.heap.size,1,none⟩) (by simp)).trans (by simp),(h.cell (p:=⟨w.heap.size,2,none⟩) (by simp)).trans (by simp)⟩
 cases hk:okCode item with
 | true =>
  rw[hk] at HK;by_cases h0:day<0
  ·have E:=Lib.hid (show (!wantOk ⟨item,day,qty⟩)=true by rw[wantOk_no (fun h=>h.2.1 h0)];rfl);clear hk;go_enter Tryz.func112,Tryz.ntmps112;go_wp2_with (first|(go_at_call 52;refine (HK.out _).mono ?_;rintro e w8 ⟨rfl,hb8⟩;obtain⟨g1,g2⟩:=HX.out w8 hb8;have B8:=Lib.hid (HB.out.trans (hb8.mono (by simp))))|(go_at_call 97;refine (HR.out _).mono ?_;rintro e w9 ⟨rfl,rfl⟩));go_ret;exact⟨by rw[<- HQ.out,E.out];first|rfl|simp[*],B8.out⟩
  ·by_cases h1:4000<day
   ·have E:=Lib.hid (show (!wantOk ⟨item,day,qty⟩)=true by rw[wantOk_no (fun h=>h.2.2.1 h1)];rfl);clear hk;go_enter Tryz.func112,Tryz.ntmps112;go_wp2_with (first|(go_at_call 52;refine (HK.out _).mono ?_;rintro e w8 ⟨rfl,hb8⟩;obtain⟨g1,g2⟩:=HX.out w8 hb8;have B8:=Lib.hid (HB.out.trans (hb8.mono (by simp))))|(go_at_call 97;refine (HR.out _).mono ?_;rintro e w9 ⟨rfl,rfl⟩));go_ret;exact⟨by rw[<- HQ.out,E.out];first|rfl|simp[*],B8.out⟩
   ·by_cases h2:qty<1
    ·have E:=Lib.hid (show (!wantOk ⟨item,day,qty⟩)=true by rw[wantOk_no (fun h=>h.2.2.2.1 h2)];rfl);clear hk;go_enter Tryz.func112,Tryz.ntmps112;go_wp2_with (first|(go_at_call 52;refine (HK.out _).mono ?_;rintro e w8 ⟨rfl,hb8⟩;obtain⟨g1,g2⟩:=HX.out w8 hb8;have B8:=Lib.hid (HB.out.trans (hb8.mono (by simp))))|(go_at_call 97;refine (HR.out _).mono ?_;rintro e w9 ⟨rfl,rfl⟩));go_ret;exact⟨by rw[<- HQ.out,E.out];first|rfl|simp[*],B8.out⟩
    ·cases h3:okA qty with
     | true =>
      rw[h3] at HR;have E:=Lib.hid (show (!wantOk ⟨item,day,qty⟩)=false by rw[wantOk_yes hk h0 h1 h2 h3];rfl);clear hk h3;go_enter Tryz.func112,Tryz.ntmps112;go_wp2_with (first|(go_at_call 52;refine (HK.out _).mono ?_;rintro e w8 ⟨rfl,hb8⟩;obtain⟨g1,g2⟩:=HX.out w8 hb8;have B8:=Lib.hid (HB.out.trans (hb8.mono (by simp))))|(go_at_call 97;refine (HR.out _).mono ?_;rintro e w9 ⟨rfl,rfl⟩));go_ret;exact⟨by rw[<- HQ.out,E.out];first|rfl|simp[*],B8.out⟩
     | false =>
      rw[h3] at HR;have E:=Lib.hid (show (!wantOk ⟨item,day,qty⟩)=true by rw[wantOk_no (fun h=>by rw[h3] at h;cases h.2.2.2.2)];rfl);clear hk h3;go_enter Tryz.func112,Tryz.ntmps112;go_wp2_with (first|(go_at_call 52;refine (HK.out _).mono ?_;rintro e w8 ⟨rfl,hb8⟩;obtain⟨g1,g2⟩:=HX.out w8 hb8;have B8:=Lib.hid (HB.out.trans (hb8.mono (by simp))))|(go_at_call 97;refine (HR.out _).mono ?_;rintro e w9 ⟨rfl,rfl⟩));go_ret;exact⟨by rw[<- HQ.out,E.out];first|rfl|simp[*],B8.out⟩
 | false =>
  rw[hk] at HK;have E:=Lib.hid (show (!wantOk ⟨item,day,qty⟩)=true by rw[wantOk_no (fun h=>by rw[hk] at h;cases h.1)];rfl);clear hk;go_enter Tryz.func112,Tryz.ntmps112;go_wp2_with (first|(go_at_call 52;refine (HK.out _).mono ?_;rintro e w8 ⟨rfl,hb8⟩;obtain⟨g1,g2⟩:=HX.out w8 hb8;have B8:=Lib.hid (HB.out.trans (hb8.mono (by simp))))|(go_at_call 97;refine (HR.out _).mono ?_;rintro e w9 ⟨rfl,rfl⟩));go_ret;exact⟨by rw[<- HQ.out,E.out];first|rfl|simp[*],B8.out⟩
end
end Go.Proofs.YtgplnekpgdhcpaaGreat
