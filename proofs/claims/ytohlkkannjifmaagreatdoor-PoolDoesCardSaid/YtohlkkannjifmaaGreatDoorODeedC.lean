import Derived.Test.YtohlkkannjifmaaGreatDoorOBegM
namespace Go.Proofs.YtohlkkannjifmaaGreatDoor
section
open Go.RowKit Go.Shelf
variable {i mb:Nat} {Mr:Nat->Prop} {vs:Value} {w9:World}
theorem z512_len:z512.length=512:=List.length_replicate
def zb512:Array Value:=(z512.map bv).toArray
theorem make512 (W:World):(Instr.makeSlice 27 (.int .i64 512) (.int .i64 512)).run Tryz.prog W=.ok (.slice (some ⟨W.heap.size,0,none⟩) 512 512) (W.alloc (.cells zb512 5)):=by
 obtain⟨i0,hi,hz0,hz1,hz2⟩:=info_parts Tryz.infoU8;have hmk:=run_make (P:=Tryz.prog) W 27 5 i0 _ Tryz.underlying27 hi hz0 .i64 .i64 512 512 (by decide) (by decide) (by rw[hz2];decide) (by decide);have e1:(512:Int).toNat=512:=rfl;rw[e1] at hmk;rw[hmk];have e:madeCells (Value.int .u8 0).cells (512*i0.size)=zb512:=by
  apply Array.ext';rw[hz1];unfold zb512 z512;rw[List.map_replicate,Nat.mul_one];exact toList_madeCells_one _ _
 rw[e]
def pgW1 (w:World):World:=w.alloc (.cells zb512 5)
def pgW2 (w:World):World:=(pgW1 w).alloc (.cells #[.slice (some ⟨w.heap.size,0,none⟩) 512 512] 74)
def pgW3 (w:World):World:=(((w.alloc (.cells zb512 5)).alloc (.cells #[.slice (some ⟨w.heap.size,0,none⟩) 512 512] 74)).alloc (.cells #[.slice (some ⟨w.heap.size+1,0,none⟩) 1 1] 75)).drew
theorem pgW3_eq (w:World):pgW3 w=((pgW2 w).alloc (.cells #[.slice (some ⟨w.heap.size+1,0,none⟩) 1 1] 75)).drew:=rfl
theorem pgW1_size (w:World):(pgW1 w).heap.size=w.heap.size+1:=by unfold pgW1;rw[World.size_alloc]
theorem pgW2_size (w:World):(pgW2 w).heap.size=w.heap.size+2:=by unfold pgW2;rw[World.size_alloc,pgW1_size]
theorem pgW3_size (w:World):(pgW3 w).heap.size=w.heap.size+3:=by
 rw[pgW3_eq];show ((pgW2 w).alloc _).heap.size=_;rw[World.size_alloc,pgW2_size]
theorem pgW3_below (w:World):Below w.heap.size w (pgW3 w):=by
 rw[pgW3_eq];unfold pgW2 pgW1;exact ((((Below.refl _ w).alloc (Nat.le_refl _) _).alloc (by rw[World.size_alloc];exact Nat.le_succ _) _).alloc (by rw[World.size_alloc,World.size_alloc];exact Nat.le_trans (Nat.le_succ _) (Nat.le_succ _)) _).drew
theorem pg_src (w:World):∀ j u,(slE.cells [(some ⟨w.heap.size+1,0,none⟩,1,1)])[j]? = some u->(pgW3 w).cell? ((⟨w.heap.size+2,0,none⟩:Addr).add j)=some u:=by
 have h:=Ek.one_lit (E:=slE) (pgW2 w) (some ⟨w.heap.size+1,0,none⟩,1,1) #[.slice (some ⟨w.heap.size+1,0,none⟩) 1 1] 75 rfl;rw[pgW2_size] at h;exact h
theorem page_cell {w:World} {X:List SlAt} {A:Nat->List VerAt} (h:ModE w Mr mb i (fun j=>V0 j) vs (.slice none 0 0) X A []) (hg:(pgW3 w).grownBy w9 vs.ownBlock):w9.cell? ⟨mb,0,none⟩=some vs/\w9.frozen? ⟨mb,0,none⟩=false:=by
 have mlt:=ξ h.blk;have vm:vs.ownBlock≠some mb:=h.vrow.ne_model (by decide) h.blk;have hb:=(hg.block mb (by rw[pgW3_size];omega) (fun e=>vm e.symm)).trans (((pgW3_below w).block mb mlt).trans h.blk);unfold modelObj at hb;exact⟨cell_of_row _ _ 0 _ _ _ hb,by simp[World.frozen?,hb]⟩
theorem page_step {wr:World} {g c:Nat} {X:List SlAt} {A:Nat->List VerAt} (h:ModE wr Mr mb i (fun j=>V0 j) vs (.slice none 0 0) X A [])
  (hrow:slE.Own 0 w9 (.slice (some ⟨g,0,none⟩) (i+1) c) (X++[(some ⟨wr.heap.size+1,0,none⟩,1,1)])) (hg:(pgW3 wr).grownBy w9 vs.ownBlock) (hgg:vs.ownBlock=some g∨g=(pgW3 wr).heap.size) :
  ModE (w9.setCell ⟨mb,0,none⟩ (.slice (some ⟨g,0,none⟩) (i+1) c)) (fun b=>Mr b∨b=wr.heap.size) mb (i+1) (fun j=>V0 j) (.slice (some ⟨g,0,none⟩) (i+1) c) (.slice none 0 0) (X++[(some ⟨wr.heap.size+1,0,none⟩,1,1)]) (fun j=>if j=i then [(some ⟨wr.heap.size,0,none⟩,512)] else A j) []:=by
 have s1:=pgW1_size wr;have s2:=pgW2_size wr;have s3:=pgW3_size wr;have hb:=pgW3_below wr;have hsz:=hg.size;have vlt:∀ k,vs.ownBlock=some k->k<wr.heap.size:=fun k e=>(Tx.rows_ge h.vrow k e).2
 have K:∀ k,k<(pgW3 wr).heap.size->vs.ownBlock≠some k->w9.heap[k]? = (pgW3 wr).heap[k]?:=fun k k0 k1=>hg.block k k0 (fun e=>k1 e.symm)
 have h23:Below (pgW2 wr).heap.size (pgW2 wr) (pgW3 wr):=by rw[pgW3_eq];exact ((Below.refl _ _).alloc (Nat.le_refl _) _).drew
 have h12:Below (pgW1 wr).heap.size (pgW1 wr) (pgW2 wr):=by unfold pgW2;exact (Below.refl _ _).alloc (Nat.le_refl _) _
 have r1:RB (pgW1 wr).heap.size (pgW1 wr) (some ⟨wr.heap.size,0,none⟩) 512 512 z512:=by
  have h:=lit_rb wr z512 (0,0) (by rw[z512_len];decide);rw[z512_len] at h;exact h
 have r2:verE.Own 0 (pgW2 wr) (.slice (some ⟨wr.heap.size+1,0,none⟩) 1 1) [(some ⟨wr.heap.size,0,none⟩,512)]:=by
  have:=Ek.Own.lit (E:=verE) (base:=0) (pgW1 wr) [(some ⟨wr.heap.size,0,none⟩,512)] #[.slice (some ⟨wr.heap.size,0,none⟩) 512 512] rfl (Nat.zero_le _) (by show (1:Nat)<=1000;decide);rw[s1] at this;exact this
 refine h.page wr.heap.size (wr.heap.size+1) g c hrow (fun k k0 k1=>(K k (by omega) k1).trans (hb.block k k0)) (by omega) ?_ ⟨Nat.le_refl _,by omega⟩ (by omega) (by omega) ?_ ?_ ?_ ?_
 ·rcases hgg with h1|h1
  ·exact .inl h1
  ·exact .inr (by omega)
 ·rcases hgg with h1|h1
  ·have:=vlt g h1;omega
  ·omega
 ·rcases hgg with h1|h1
  ·have:=vlt g h1;omega
  ·omega
 ·have r1':=(((r1.below h12).mono h12.size).below h23).mono h23.size;refine (RB.of_block r1' fun b o s e _ _=>?_).mono hsz;have e':wr.heap.size=b:=congrArg Addr.block (Option.some.inj e);exact K b (by omega) (fun e=>by have:=vlt _ e;omega)
 ·refine Tx.rows_keep (r2.below h23) fun k e=>?_
  have e':wr.heap.size+1=k:=Option.some.inj e;subst e';exact K _ (by omega) (fun e=>by have:=vlt _ e;omega)
end
section
set_option maxHeartbeats 8000000
set_option maxRecDepth 100000
open Go.RowKit Go.Shelf
theorem take_mem_succ {b:List UInt8} {X:List (List UInt8)} {k:Nat} (h:k<X.length):decide (b∈X.take (k+1))=(decide (b∈X.take k) || decide (b=X.getD k [])):=by
 rw[List.take_succ_eq_append_getElem h,List.getD_eq_getElem?_getD,List.getElem?_eq_getElem h,<- Bool.decide_or];exact decide_eq_decide.2 (by rw[List.mem_append,List.mem_singleton];rfl)
theorem DS.verAt {base:Nat} {w:World} {gb mb n K d l p:Nat} {s:StP} {m:MdP} (h:DS base w gb mb n K d l p s m) {i k:Nat} (hi:i<n) (hk:k<(m.V i).length) :
  ∃ vg vc pg pc a c,m.vs=.slice (some ⟨vg,0,none⟩) n vc/\n<=vc/\vc<=9223372036854775807/\w.cell? ⟨vg,i,none⟩=some (.slice (some ⟨pg,0,none⟩) (m.V i).length pc)/\(m.V i).length<=pc/\pc<=9223372036854775807/\w.cell? ⟨pg,k,none⟩=some (.slice a 512 c)/\RB w.heap.size w a 512 c ((m.V i).getD k []):=by
 obtain⟨vg,vc,e1,e2,e3,e4,c1⟩:=h.mod.at_ hi;obtain⟨pg,pc,f1,f2,f3,f4,f5⟩:=h.mod.ver hi (by omega);rw[f1] at c1;exact⟨vg,vc,pg,pc,_,_,e1,e2,e3,c1,f2,f3,f5 k hk,h.mod.byt i hi k hk⟩
theorem stands_any (base gb mb n K d l p:Nat) (s:StP) (m:MdP) (w:World) (h:DS base w gb mb n K d l p s m) (hV:s.V=m.V) (hl:LastV m.V s.c n) (hK:K<=100000000) :
  Calls Tryz.prog 30 #[.pointer (some ⟨gb,0,none⟩),.pointer (some ⟨mb,0,none⟩)] w fun e w'=>e=.returned (.bool true)/\Below w.heap.size w w':=by
 have hn1:=h.n1;have H:=φ h;have HV:=φ hV;have HL:=φ hl;have HK:=φ hK;obtain⟨vg,vc,hvs,hv1,hv2,-,-⟩:=h.mod.at_ (i:=0) (by omega);have HVs:=φ hvs;clear h hV hl hK hvs;go_enter Tryz.func30,Tryz.ntmps30;go_wp2_with (fail);go_loopw [5] (fun s5 wr=>∃ j:Nat,j<=n/\s5=.int .i64 j/\Hid (Below w.heap.size w wr)) (fun s5 _=>n-(intOf s5).toNat)
 case atStart=>exact⟨0,Nat.zero_le _,rfl,φ (Below.refl _ _)⟩
 case round =>
  obtain⟨j,hj,rfl,HB⟩:=hrel;obtain⟨W,rfl⟩:∃ z,z=wr:=⟨_,rfl⟩
  have hd:=H.out.below HB.out;obtain⟨k0,k1,k2,k3,k4⟩:=hd.cells;rw[HVs.out] at k3;by_cases hlt:j<n
  ·have HJ:=φ hlt;have HRd:=φ (hd.dread (i:=(j:Int)) ⟨by omega,by omega⟩);have hds:=hd.std.dsk (j:Int) (by omega) (by rw[hd.cnt];omega);rw[hd.fst,HV.out] at hds;have hlen:(s.D.latest (40+(j:Int))).length=512:=hd.rig.well.up.ok.latest _;obtain⟨b,hb⟩:∃ b,b=s.D.latest (40+(j:Int)):=⟨_,rfl⟩
   rw[<- hb] at HRd hds hlen;have HM:=φ hds.1;have HLen:=φ hlen;have t1:decide ((lsnL b:Int) ≥ s.L.safe)=false:=decide_eq_false (by have:=hds.2;omega);clear hds hb hlen hd;go_upto_region 5 with (go_at_call 34;(with_reducible refine HRd.out.mono ?_);rintro e w1 ⟨v,rfl,ho,hd1,hb1⟩;obtain⟨va,vcap,rfl,hrb⟩:=ho.rb (by have:=HLen.out;omega);rw[HLen.out] at hrb;have HB1:=φ hb1;have HD1:=φ hd1;obtain⟨j0,j1,j2,j3,j4⟩:=hd1.cells;have HR1:=φ hrb;clear ho hd1 hb1 hrb);rw[HLen.out];clear k0 k1 k2 k3 k4 HRd;have HLs:=φ (Lsn_any w1.drew.heap.size va 512 vcap b w1.drew (HR1.out.below (Below.refl _ w1).drew) (Nat.le_refl _));go_region_held3 (fun w'=>w'.cell? ⟨gb,1,none⟩=some (.pointer (some ⟨l,0,none⟩))) (first|assumption|go_keep) (first|(go_at_call 32;(with_reducible refine HLs.out.mono ?_);rintro e w2 ⟨rfl,hb2⟩;have HB2:=φ hb2;have hd2:=HD1.out.drew.below hb2;obtain⟨i0,i1,i2,i3,i4⟩:=hd2.cells;have HSf:=φ (hd2.rig.safe (by have:=HK.out;omega));have HD2:=φ hd2;clear hb2 hd2)|(go_at_call 59;(with_reducible refine HSf.out.mono ?_);rintro e w3 ⟨rfl,q,rfl⟩));go_upto_region 7 with (fail);generalize hw4:World.drewN w2 _=w4;have hb4:Below W.heap.size W w4:=by rw[<- hw4];exact δ ((HB1.out.drew).trans (HB2.out.mono HB1.out.size)) _
   have hr4:RB w4.heap.size w4 va 512 vcap b:=by
    have:=(HR1.out.below ((Below.refl _ w1).drew.trans HB2.out)).mono HB2.out.size;rw[<- hw4];exact (this.below (δ (Below.refl _ _) _))
   have HB4:=φ hb4;have HR4:=φ hr4;have HD4:=φ ((H.out.below HB.out).below hb4);clear hw4 hb4 hr4 HLs HSf HD2 HD1 HR1 HB1 HB2 j0 j1 j2 j3 j4 i0 i1 i2 i3 i4 t1;obtain⟨len,hle⟩:∃ len,len=(m.V (j:Int)).length:=⟨_,rfl⟩
   have HLe:=φ hle;have hvK:=HD4.out.vl (j:Int);have HVK:Hid (len<=100000000):=φ (by have:=HK.out;omega);clear hle hvK;go_wp2_with (fail);go_loopw [8,9] (fun s8 s9 wr=>∃ k:Nat,k<=len/\s9=.int .i64 k/\s8=.bool (decide (b∈(m.V (j:Int)).take k))/\Hid (Below w4.heap.size w4 wr)) (fun _ s9 _=>len-(intOf s9).toNat)
   case atStart=>exact⟨0,Nat.zero_le _,rfl,by simp,φ (Below.refl _ _)⟩
   case round =>
    obtain⟨k,hk,rfl,rfl,Hb⟩:=hrel;obtain⟨X,rfl⟩:∃ z,z=wr:=⟨_,rfl⟩
    have hdx:=HD4.out.below Hb.out;by_cases hkl:k<len
    ·obtain⟨vg',vc',pg,pc,xa,xc,evs,-,-,q1,q2,q3,q4,hrx⟩:=hdx.verAt (i:=j) (k:=k) HJ.out (by have:=HLe.out;omega);have evv:=HVs.out.symm.trans evs
     cases evv
     obtain⟨k0,k1,k2,k3,k4⟩:=hdx.cells;rw[HVs.out] at k3;rw[<- HLe.out] at q1 q2;have HSb:=φ (SameBytes_any X.heap.size va xa 512 vcap 512 xc b ((m.V (j:Int)).getD k []) X ((HR4.out.below Hb.out).mono Hb.out.size) hrx);have hts:=take_mem_succ (b:=b) (X:=m.V (j:Int)) (k:=k) (by have:=HLe.out;omega);have HTs:=φ hts;have hv:=HVK.out;have hj9:=HJ.out;clear hdx hrx evs hts
     cases hf:decide (b∈(m.V (j:Int)).take k) with
     | true =>
      rw[hf] at HTs;go_wp2_with (fail);go_roundw
      case rel=>exact⟨k+1,by omega,by go_num,by rw[HTs.out];rfl,Hb⟩
      case measure=>simp[intOf];omega
     | false =>
      rw[hf] at HTs;go_wp2_with (go_at_call 14;(with_reducible refine HSb.out.mono ?_);rintro e w5 ⟨rfl,q,rfl⟩);go_roundw
      case rel=>exact⟨k+1,by omega,by go_num,by rw[HTs.out,List.getD_eq_getElem?_getD,Bool.false_or];rfl,φ (δ Hb.out _)⟩
      case measure=>simp[intOf];omega
    ·have hke:k=len:=(by omega);obtain⟨vg',vc',pg,pc,evs,-,-,-,q1,-,q2,q3,-,-,hal⟩:=hdx.row (i:=j) HJ.out (lastV_pos HL.out (by omega) (by have:=HJ.out;omega));have evv:=HVs.out.symm.trans evs
     cases evv
     obtain⟨k0,k1,k2,k3,k4⟩:=hdx.cells;rw[HVs.out] at k3;rw[hal,<- HLe.out] at q1 q2;have hf:decide (b∈(m.V (j:Int)).take k)=true:=(by rw[hke,HLe.out,List.take_length];exact decide_eq_true HM.out);rw[hf];subst hke;have hv:=HVK.out;have hj9:=HJ.out;have HBx:Hid (Below w.heap.size w X):=φ (HB.out.trans ((HB4.out.trans (Hb.out.mono HB4.out.size)).mono HB.out.size));clear hdx evs hal hf;go_wp2_with (fail);go_roundw
     case rel=>exact⟨j+1,by omega,by go_num,HBx⟩
     case measure=>simp[intOf];omega
  ·have hjn:j=n:=by omega
   subst hjn;clear hd hlt;go_wp2_with (fail);go_ret;exact⟨rfl,HB.out⟩
end
section
set_option maxHeartbeats 8000000
set_option maxRecDepth 100000
open Go.RowKit Go.Shelf
def pickF (x n:Int):Int:=if x.tmod n<0 then x.tmod n+n else x.tmod n
theorem pickF_rng (x n:Int) (hn:1<=n):0<=pickF x n/\pickF x n<n:=by
 have h1:=Int.lt_tmod_of_pos x (show (0:Int)<n by omega);have h2:=Int.tmod_lt_of_pos x (show (0:Int)<n by omega);unfold pickF;split<;>omega
theorem pick_is (x n:Int) (w:World) (_h0:-9223372036854775808<=x/\x<=9223372036854775807) (hn:1<=n/\n<=140737488355328) :
  Calls Tryz.prog 9 #[.int .i64 x,.int .i64 n] w fun e w'=>e=.returned (.int .i64 (pickF x n))/\w=w':=by
 have hm:-n<x.tmod n/\x.tmod n<n:=⟨Int.lt_tmod_of_pos x (by omega),Int.tmod_lt_of_pos x (by omega)⟩
 obtain⟨hm1,hm2⟩:=hm;have hne:¬ n=0:=by omega
 have hw0:=wrap_in (x:=x.tmod n) (by omega) (by omega);have hw1:=wrap_in (x:=x.tmod n+n) (by omega) (by omega);have hpf:pickF x n=if x.tmod n<0 then x.tmod n+n else x.tmod n:=rfl;obtain⟨m,hmm⟩:∃ m,m=x.tmod n:=⟨_,rfl⟩
 rw[<- hmm] at hm1 hm2 hw0 hw1 hpf;have hmm':=hmm.symm;clear hmm;by_cases hneg:m<0
 ·rw[if_pos hneg] at hpf;have Hk:=φ hpf;clear hpf;go_enter Tryz.func9,Tryz.ntmps9;go_wp2;go_ret;exact⟨by rw[Hk.out];rfl,rfl⟩
 ·rw[if_neg hneg] at hpf;have Hk:=φ hpf;clear hpf;go_enter Tryz.func9,Tryz.ntmps9;go_wp2;go_ret;exact⟨by rw[Hk.out];rfl,rfl⟩
def deedVal (d:DeedV):Value:=.agg #[.int .i64 d.kind,.int .i64 d.page,.int .i64 d.r.lsn,.int .i64 d.r.work,.int .i64 d.r.prev,.int .i64 d.r.next,.int .u8 d.r.kind,.int .i64 d.r.page,.slice d.ka d.r.key.length d.kc,.slice d.oa d.r.old.length d.oc,.slice d.na d.r.new.length d.nc,.slice d.da d.r.dirty.length d.dc,.slice d.pa d.r.opn.length d.pc,.int .i64 d.n,.bool d.odd]
def DeedG (base gb mb n K d l p:Nat) (s:StP) (w:World) (e:Ending) (w':World):Prop:=e=.returned (.bool true)/\∃ s' m',DS base w' gb mb n (K+60000) d l p s' m'/\LastV m'.V s'.c n/\s'.V=m'.V/\s'.P.most=s.P.most/\Below base w w'
theorem deed_force (base gb mb n K d l p:Nat) (s:StP) (m:MdP) (x:DeedV) (w:World) (h:DS base w gb mb n K d l p s m) (hl:LastV m.V s.c n) (hV:s.V=m.V) (hx:DeedI w.heap.size w x) (hK:K<=80000000) (hk:pickF x.kind 8=7) :
  Calls Tryz.prog 29 #[.pointer (some ⟨gb,0,none⟩),.pointer (some ⟨mb,0,none⟩),deedVal x] w (DeedG base gb mb n K d l p s w):=by
 have hn1:=h.n1;obtain⟨vg,vc,hvs,hv1,hv2,-,-⟩:=h.mod.at_ (i:=0) (by omega);have HVs:=φ hvs;obtain⟨w1,hw1⟩:∃ w1,w1=w.alloc (.cells #[.int .i64 x.kind,.int .i64 x.page,.int .i64 x.r.lsn,.int .i64 x.r.work,.int .i64 x.r.prev,.int .i64 x.r.next,.int .u8 x.r.kind,.int .i64 x.r.page,.slice x.ka x.r.key.length x.kc,.slice x.oa x.r.old.length x.oc,.slice x.na x.r.new.length x.nc,.slice x.da x.r.dirty.length x.dc,.slice x.pa x.r.opn.length x.pc,.int .i64 x.n,.bool x.odd] 35):=⟨_,rfl⟩
 obtain⟨rb,hrb⟩:∃ rb,rb=w.heap.size:=⟨_,rfl⟩
 have hB1:Below w.heap.size w w1:=by rw[hw1];exact (Below.refl _ w).alloc (Nat.le_refl _) _
 have hd1:=h.below hB1;have hb1:w1.heap[rb]? = some (.cells #[.int .i64 x.kind,.int .i64 x.page,.int .i64 x.r.lsn,.int .i64 x.r.work,.int .i64 x.r.prev,.int .i64 x.r.next,.int .u8 x.r.kind,.int .i64 x.r.page,.slice x.ka x.r.key.length x.kc,.slice x.oa x.r.old.length x.oc,.slice x.na x.r.new.length x.nc,.slice x.da x.r.dirty.length x.dc,.slice x.pa x.r.opn.length x.pc,.int .i64 x.n,.bool x.odd] 35 (0,0)):=by rw[hw1,hrb];exact heap_alloc_new w _
 have HB1:Hid (Below base w w1):=φ (hB1.mono h.bs);have c0:w1.cell? ⟨rb,0,none⟩=some (.int .i64 x.kind):=cell_of_row _ _ 0 _ _ _ hb1;have c1:w1.cell? ⟨rb,1,none⟩=some (.int .i64 x.page):=cell_of_row _ _ 1 _ _ _ hb1;obtain⟨k0,k1,k2,k3,k4⟩:=hd1.cells;rw[hvs] at k3;have HPk:Hid (∀ W,Calls Tryz.prog 9 #[.int .i64 x.kind,.int .i64 8] W fun e w'=>e=.returned (.int .i64 7)/\W=w'):=φ fun W=>by
  have:=pick_is x.kind 8 W hx.kind (by omega)
  rwa [hk] at this
 have HL:=φ hl;have HV:=φ hV;have HK:=φ hK;have HD1:=φ hd1;have Hw1:=φ hw1;have Hrb:=φ hrb;clear h hl hV hx hK hk hw1 hrb hB1 hd1 hb1 hvs;unfold deedVal;go_enter Tryz.func29,Tryz.ntmps29;go_upto_region 1 with (fail);rw[<- Hw1.out,<- Hrb.out];by_cases p0:0<=x.page
 ·have t1:decide (x.page ≥ 0)=true:=decide_eq_true p0;obtain⟨dd,t2⟩:∃ dd,decide (x.page<(n:Int))=dd:=⟨_,rfl⟩
  go_big_quiet (fail);go_upto_region 2 with (fail);generalize hW:World.drewN w1 _=w2;have hd2:DS base w2 gb mb n K d l p s m:=by rw[<- hW];exact HD1.out.drewN _
  have HB2:Hid (Below base w w2):=φ (by rw[<- hW];exact δ HB1.out _);have e0:w2.cell? ⟨rb,0,none⟩=some (.int .i64 x.kind):=by rw[<- hW];exact c0
  have HFo:=φ (hd2.force (by have:=HK.out;omega));clear hW k0 k1 k2 k3 k4 c0 c1;obtain⟨k0,k1,k2,k3,k4⟩:=hd2.cells;clear hd2;go_wp2_with (first
   | (go_at_call 9;(with_reducible refine (HPk.out _).mono ?_);rintro e w3 ⟨rfl,hw3⟩;subst hw3)
   | (go_at_call 20;(with_reducible refine HFo.out.mono ?_);rintro e w4 ⟨s4,rfl,hd4,hs4,hb4,-⟩;have HD4:=φ hd4;have HS4:=φ hs4;have HB4:Hid (Below base w w4):=φ (HB2.out.trans hb4);clear hd4 hs4 hb4))
  go_ret;exact⟨rfl,s4,m,HD4.out.mono (by omega),by rw[HS4.out.c];exact HL.out,by rw[HS4.out.V];exact HV.out,HS4.out.most,HB4.out⟩
 ·have t1:decide (x.page ≥ 0)=false:=decide_eq_false p0;go_big_quiet (fail);go_upto_region 2 with (fail);generalize hW:World.drewN w1 _=w2;have hd2:DS base w2 gb mb n K d l p s m:=by rw[<- hW];exact HD1.out.drewN _
  have HB2:Hid (Below base w w2):=φ (by rw[<- hW];exact δ HB1.out _);have e0:w2.cell? ⟨rb,0,none⟩=some (.int .i64 x.kind):=by rw[<- hW];exact c0
  have HFo:=φ (hd2.force (by have:=HK.out;omega));clear hW k0 k1 k2 k3 k4 c0 c1;obtain⟨k0,k1,k2,k3,k4⟩:=hd2.cells;clear hd2;go_wp2_with (first
   | (go_at_call 9;(with_reducible refine (HPk.out _).mono ?_);rintro e w3 ⟨rfl,hw3⟩;subst hw3)
   | (go_at_call 20;(with_reducible refine HFo.out.mono ?_);rintro e w4 ⟨s4,rfl,hd4,hs4,hb4,-⟩;have HD4:=φ hd4;have HS4:=φ hs4;have HB4:Hid (Below base w w4):=φ (HB2.out.trans hb4);clear hd4 hs4 hb4))
  go_ret;exact⟨rfl,s4,m,HD4.out.mono (by omega),by rw[HS4.out.c];exact HL.out,by rw[HS4.out.V];exact HV.out,HS4.out.most,HB4.out⟩
end
section
set_option maxHeartbeats 8000000
set_option maxRecDepth 100000
open Go.RowKit Go.Shelf
theorem deed_read (base gb mb n K d l p:Nat) (s:StP) (m:MdP) (x:DeedV) (w:World) (h:DS base w gb mb n K d l p s m) (hl:LastV m.V s.c n) (hV:s.V=m.V) (hx:DeedI w.heap.size w x) (hK:K<=80000000) (hk:pickF x.kind 8=0) :
  Calls Tryz.prog 29 #[.pointer (some ⟨gb,0,none⟩),.pointer (some ⟨mb,0,none⟩),deedVal x] w (DeedG base gb mb n K d l p s w):=by
 have hn1:=h.n1;obtain⟨vg,vc,hvs,hv1,hv2,-,-⟩:=h.mod.at_ (i:=0) (by omega);have HVs:=φ hvs;obtain⟨w1,hw1⟩:∃ w1,w1=w.alloc (.cells #[.int .i64 x.kind,.int .i64 x.page,.int .i64 x.r.lsn,.int .i64 x.r.work,.int .i64 x.r.prev,.int .i64 x.r.next,.int .u8 x.r.kind,.int .i64 x.r.page,.slice x.ka x.r.key.length x.kc,.slice x.oa x.r.old.length x.oc,.slice x.na x.r.new.length x.nc,.slice x.da x.r.dirty.length x.dc,.slice x.pa x.r.opn.length x.pc,.int .i64 x.n,.bool x.odd] 35):=⟨_,rfl⟩
 obtain⟨rb,hrb⟩:∃ rb,rb=w.heap.size:=⟨_,rfl⟩
 have hB1:Below w.heap.size w w1:=by rw[hw1];exact (Below.refl _ w).alloc (Nat.le_refl _) _
 have hd1:=h.below hB1;have hb1:w1.heap[rb]? = some (.cells #[.int .i64 x.kind,.int .i64 x.page,.int .i64 x.r.lsn,.int .i64 x.r.work,.int .i64 x.r.prev,.int .i64 x.r.next,.int .u8 x.r.kind,.int .i64 x.r.page,.slice x.ka x.r.key.length x.kc,.slice x.oa x.r.old.length x.oc,.slice x.na x.r.new.length x.nc,.slice x.da x.r.dirty.length x.dc,.slice x.pa x.r.opn.length x.pc,.int .i64 x.n,.bool x.odd] 35 (0,0)):=by rw[hw1,hrb];exact heap_alloc_new w _
 have HB1:Hid (Below base w w1):=φ (hB1.mono h.bs);have c0:w1.cell? ⟨rb,0,none⟩=some (.int .i64 x.kind):=cell_of_row _ _ 0 _ _ _ hb1;have c1:w1.cell? ⟨rb,1,none⟩=some (.int .i64 x.page):=cell_of_row _ _ 1 _ _ _ hb1;obtain⟨k0,k1,k2,k3,k4⟩:=hd1.cells;rw[hvs] at k3;have HPk:Hid (∀ W,Calls Tryz.prog 9 #[.int .i64 x.kind,.int .i64 8] W fun e w'=>e=.returned (.int .i64 0)/\W=w'):=φ fun W=>by
  have:=pick_is x.kind 8 W hx.kind (by omega)
  rwa [hk] at this
 have HXp:=φ hx.page;have HL:=φ hl;have HV:=φ hV;have HK:=φ hK;have HD1:=φ hd1;have Hw1:=φ hw1;have Hrb:=φ hrb;have HRb:Hid (¬ s.S rb):=φ (fun hS=>by have:=h.lt (.inl hS);omega);clear h hl hV hx hK hk hw1 hrb hB1 hd1 hb1 hvs;unfold deedVal;go_enter Tryz.func29,Tryz.ntmps29;go_upto_region 1 with (fail);rw[<- Hw1.out,<- Hrb.out];by_cases p0:0<=x.page
 ·have t1:decide (x.page ≥ 0)=true:=decide_eq_true p0;by_cases p1:x.page<(n:Int)
  ·have t2:decide (x.page<(n:Int))=true:=decide_eq_true p1;go_big_quiet (fail);go_upto_region 2 with (fail);generalize hW:World.drewN w1 _=w2;have hd2:DS base w2 gb mb n K d l p s m:=by rw[<- hW];exact HD1.out.drewN _
   have HB2:Hid (Below base w w2):=φ (by rw[<- hW];exact δ HB1.out _);have e0:w2.cell? ⟨rb,0,none⟩=some (.int .i64 x.kind):=by rw[<- hW];exact c0
   have e1:w2.cell? ⟨rb,1,none⟩=some (.int .i64 x.page):=by rw[<- hW];exact c1
   clear hW k0 k1 k2 k3 k4 c0 c1;obtain⟨k0,k1,k2,k3,k4⟩:=hd2.cells;have HD2:=φ hd2;clear hd2;go_upto_region 4 with (first
    | (go_at_call 9;(with_reducible refine (HPk.out _).mono ?_);rintro e w3 ⟨rfl,hw3⟩;subst hw3))
   have HRd:=φ (HD2.out.drew.read (i:=x.page) ⟨p0,p1⟩ (by have:=HK.out;omega));have HLn:Hid ((s.c x.page).length=512):=φ (HD2.out.rig.pg x.page p0 (by rw[HD2.out.cnt];exact p1)).2.len;have HPp:=φ (And.intro p0 p1);go_region_held3 (fun w'=>w'.cell? ⟨gb,2,none⟩=some (.pointer (some ⟨p,0,none⟩))/\w'.cell? ⟨rb,1,none⟩=some (.int .i64 x.page)) (first|go_keep|exact⟨by assumption,by assumption⟩) (first|(go_at_call 13;(with_reducible refine HRd.out.mono ?_);rintro e w4 ⟨s4,v,rfl,ho,hd4,hs4,hb4,hm4⟩;obtain⟨va,vcap,rfl,hrb⟩:=ho.rb (by have:=HLn.out;omega);rw[HLn.out] at hrb;have HR4:=φ hrb;have f1:w4.cell? ⟨rb,1,none⟩=some (.int .i64 x.page):=(World.cell?_of_block (w:=w2) (hm4.trn.block rb (χ e1) HRb.out)).trans e1;obtain⟨j0,j1,j2,j3,j4⟩:=hd4.cells;have HD4:=φ hd4;have HS4:=φ hs4;have HB4:Hid (Below base w w4):=φ (HB2.out.trans ((Below.refl _ w2).drew.trans hb4));have HNw:=φ (hd4.now HL.out (by have:=HK.out;omega) (i:=x.page) HPp.out);clear ho hrb hd4 hs4 hb4 hm4));rw[HLn.out];clear HRd e0 e1 k0 k1 k2 k3 k4;go_wp2_with (first
    | (go_at_call 33;(with_reducible refine HNw.out.mono ?_);rintro e w5 ⟨⟨na,nc,rfl,hrn⟩,q,rfl⟩;have HSb:=φ (SameBytes_any w4.heap.size va na 512 vcap 512 nc (s.c x.page) (s.c x.page) (w4.drewN q) (HR4.out.below (δ (Below.refl _ _) q)) (hrn.below (δ (Below.refl _ _) q)));rw[eqB_self] at HSb;clear hrn)
    | (go_at_call 14;(with_reducible refine HSb.out.mono ?_);rintro e w6 ⟨rfl,q2,rfl⟩))
   go_ret;exact⟨rfl,s4,m,(HD4.out.mono (by omega)).below (δ (Below.refl _ _) _),by rw[HS4.out.c];exact HL.out,by rw[HS4.out.V];exact HV.out,HS4.out.most,δ HB4.out _⟩
  ·have t2:decide (x.page<(n:Int))=false:=decide_eq_false p1;go_big_quiet (fail);go_upto_region 2 with (fail);generalize hW:World.drewN w1 _=w2;have hd2:DS base w2 gb mb n K d l p s m:=by rw[<- hW];exact HD1.out.drewN _
   have HB2:Hid (Below base w w2):=φ (by rw[<- hW];exact δ HB1.out _);have e0:w2.cell? ⟨rb,0,none⟩=some (.int .i64 x.kind):=by rw[<- hW];exact c0
   have e1:w2.cell? ⟨rb,1,none⟩=some (.int .i64 x.page):=by rw[<- hW];exact c1
   clear hW k0 k1 k2 k3 k4 c0 c1;obtain⟨k0,k1,k2,k3,k4⟩:=hd2.cells;have HD2:=φ hd2;clear hd2;go_upto_region 4 with (first
    | (go_at_call 9;(with_reducible refine (HPk.out _).mono ?_);rintro e w3 ⟨rfl,hw3⟩;subst hw3))
   have HRd:=φ (HD2.out.drew.rig.read_no (n:=x.page) (by rw[HD2.out.cnt];rw[t2,Bool.and_false]));go_region_held3 (fun w'=>w'.cell? ⟨gb,2,none⟩=some (.pointer (some ⟨p,0,none⟩))/\w'.cell? ⟨rb,1,none⟩=some (.int .i64 x.page)) (first|go_keep|exact⟨by assumption,by assumption⟩) (first|(go_at_call 13;(with_reducible refine HRd.out.mono ?_);rintro e w4 ⟨rfl,q,rfl⟩));go_wp2_with (fail);go_ret;exact⟨rfl,s,m,(HD2.out.mono (by omega)).below (δ (Below.refl _ _) _),HL.out,HV.out,rfl,δ HB2.out _⟩
 ·have t1:decide (x.page ≥ 0)=false:=decide_eq_false p0;go_big_quiet (fail);go_upto_region 2 with (fail);generalize hW:World.drewN w1 _=w2;have hd2:DS base w2 gb mb n K d l p s m:=by rw[<- hW];exact HD1.out.drewN _
  have HB2:Hid (Below base w w2):=φ (by rw[<- hW];exact δ HB1.out _);have e0:w2.cell? ⟨rb,0,none⟩=some (.int .i64 x.kind):=by rw[<- hW];exact c0
  have e1:w2.cell? ⟨rb,1,none⟩=some (.int .i64 x.page):=by rw[<- hW];exact c1
  clear hW k0 k1 k2 k3 k4 c0 c1;obtain⟨k0,k1,k2,k3,k4⟩:=hd2.cells;have HD2:=φ hd2;clear hd2;go_upto_region 4 with (first
   | (go_at_call 9;(with_reducible refine (HPk.out _).mono ?_);rintro e w3 ⟨rfl,hw3⟩;subst hw3))
  have HRd:=φ (HD2.out.drew.rig.read_no (n:=x.page) (by rw[HD2.out.cnt];rw[decide_eq_false (show ¬ (0<=x.page) by omega),Bool.false_and]));go_region_held3 (fun w'=>w'.cell? ⟨gb,2,none⟩=some (.pointer (some ⟨p,0,none⟩))/\w'.cell? ⟨rb,1,none⟩=some (.int .i64 x.page)) (first|go_keep|exact⟨by assumption,by assumption⟩) (first|(go_at_call 13;(with_reducible refine HRd.out.mono ?_);rintro e w4 ⟨rfl,q,rfl⟩));go_wp2_with (fail);go_ret;exact⟨rfl,s,m,(HD2.out.mono (by omega)).below (δ (Below.refl _ _) _),HL.out,HV.out,rfl,δ HB2.out _⟩
end
section
open Go.RowKit Go.Shelf
theorem append_err (L:LK) (r:RecV):(L.append r).2.1=0∨(L.append r).2.1=4∨(L.append r).2.1=5:=by
 unfold LK.append;split
 ·exact .inr (.inl rfl)
 ·split
  ·exact .inl rfl
  ·split
   ·exact .inr (.inr rfl)
   ·exact .inl rfl
theorem append_lsn_ge {L:LK} {k:Nat} (h:L.Ok k) (r:RecV):0<=(L.append r).1:=by
 have hb:=h.end_bd;have he:L.end_=L.last.num*512+L.last.body.length+1:=rfl;have hs:L.sheet.end_=(L.last.num+1)*512+0+1:=by unfold LK.end_;rw[sheet_last];rfl
 unfold LK.append;split
 ·exact Int.le_refl _
 ·split
  ·show 0<=L.end_;omega
  ·split
   ·exact Int.le_refl _
   ·show 0<=L.sheet.end_;omega
end
end Go.Proofs.YtohlkkannjifmaaGreatDoor
