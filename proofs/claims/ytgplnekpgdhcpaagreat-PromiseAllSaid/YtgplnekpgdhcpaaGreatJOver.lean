/-  -/
import Derived.Test.YtgplnekpgdhcpaaGreatQRefA
import Derived.Test.YtgplnekpgdhcpaaGreatQFillQ
import Derived.Test.YtgplnekpgdhcpaaGreatKDepths
import Derived.Test.YtgplnekpgdhcpaaGreatKMark
import Derived.Test.YtgplnekpgdhcpaaGreatQWantsN
import Derived.Test.YtgplnekpgdhcpaaGreatQBridge
import Derived.Test.YtgplnekpgdhcpaaGreatKFind
import Derived.Test.YtgplnekpgdhcpaaGreatKPut
import Derived.Test.YtgplnekpgdhcpaaGreatKKeptI
namespace Go.Proofs.YtgplnekpgdhcpaaGreat
section
open Go.RowKit Go.Shelf
set_option maxHeartbeats 4000000 in
set_option maxRecDepth 100000 in
theorem rMay_any (B:Nat) (a a2:Option Addr) (n c n2 c2:Nat) (L:List LotV) (W:List WantV) (w:World) (hl:lotE.In B w a n c L) (hw:wantE.In B w a2 n2 c2 W) (hB:B<=w.heap.size) :
  Calls Tryz.prog 141 #[.slice a n c,.slice a2 n2 c2] w fun e w'=>e=.returned (.bool (mayB L W))/\Below w.heap.size w w':=by
 generalize hr:mayB L W=r;have HQ:=Lib.hid hr;clear hr;have hle:=hl.le;have hmx:=hl.mx;have hle2:=hw.le;have hmx2:=hw.mx;have Hln:=Lib.hid hl.len;have Hln2:=Lib.hid hw.len;have HL:=Lib.hid hl;have HW:=Lib.hid hw;have HR:=Lib.hid rlotRight_any;have HRW:=Lib.hid rwantRight_any;clear hl hw;by_cases h1:300<n
 ·have E:=Lib.hid (mayB_not (L:=L) (W:=W) (fun h=>by have:=Hln.out;omega));go_enter Tryz.func141,Tryz.ntmps141;go_wp2_with (fail);go_ret;exact⟨by rw[<- HQ.out,E.out];rfl,Below.refl _ _⟩
 ·by_cases h2:20000<n2
  ·have E:=Lib.hid (mayB_not (L:=L) (W:=W) (fun h=>by have:=Hln2.out;omega));go_enter Tryz.func141,Tryz.ntmps141;go_wp2_with (fail);go_ret;exact⟨by rw[<- HQ.out,E.out];rfl,Below.refl _ _⟩
  ·go_enter Tryz.func141,Tryz.ntmps141;go_wp2_with (fail);go_loopw [5] (fun s5 wr=>∃ j:Nat,s5=.int .i64 j/\j<=n/\Hid (lotsOk (L.take j))/\Hid (Below w.heap.size w wr)) (fun s5 _=>n-(intOf s5).toNat)
   case atStart=>exact⟨0,rfl,Nat.zero_le _,Lib.hid ⟨fun l hl=>by simp at hl,by simp⟩,Lib.hid (Below.refl _ _)⟩
   case round =>
    obtain⟨j,rfl,hj,HO,Hb⟩:=hrel;by_cases hlt:j<n
    ·obtain⟨b,o,rfl,hbB,hc⟩:=lotE_at (HL.out.below (Hb.out.mono hB)) (by omega);obtain⟨g0,g1,g2,g3,g4,g5⟩:=hc j hlt;have hwr:=Hb.out.size;have HID:Hid (∀ V,Below wr.heap.size wr V->∀ i,i<n->V.cell? ⟨b,o+i*6,none⟩=some (.int .i64 (L.getD i default).id)):=Lib.hid fun V hb i hi=>(hb.cell (p:=⟨b,o+i*6,none⟩) (by show b<_;omega)).trans (hc i hi).1
     have hok:=Lib.hid (HL.out.ok_at hlt);clear hc;have hjL:=Lib.hid (show j<L.length by rw[<- Hln.out];exact hlt);have Hmore:=Lib.hid (lotsOk_more hjL.out HO.out);have Hno1:=Lib.hid (lotsOk_no1 hjL.out);have Hno2:=Lib.hid (lotsOk_no2 hjL.out);have HJD:=Lib.hid (fun (V:World) (hb:Below wr.heap.size wr V)=>HID.out V hb j hlt);have HTK:=Lib.hid (show (L.take j).length=j by rw[List.length_take];have:=hjL.out;omega);have HTI:=Lib.hid (show ∀ i,i<j->(L.take j).getD i default=L.getD i default from fun i hi=>by rw[List.getD_eq_getElem?_getD,List.getD_eq_getElem?_getD,List.getElem?_take,if_pos hi]);generalize L.getD j default=x at g0 g1 g2 g3 g4 g5 hok Hmore Hno1 Hno2 HJD;have hit:=hok.out.2.1;obtain⟨id,item,fr,un,qty,arr⟩:=x;simp only at g0 g1 g2 g3 g4 g5 hit;unfold encStr at g1;have HRx:=Lib.hid (HR.out ⟨id,item,fr,un,qty,arr⟩ hit wr);unfold LotV.val encStr at HRx;simp only at HRx;clear hit
     cases hlo:lotOk ⟨id,item,fr,un,qty,arr⟩ with
     | false =>
      rw[hlo] at HRx;have E:=Lib.hid (mayB_not (L:=L) (W:=W) (fun h=>Hno1.out hlo h.2.2));clear hlo;go_wp2_with (go_at_call 168;refine HRx.out.mono ?_;rintro e w9 ⟨rfl,hb9⟩;have B9:=Lib.hid (Hb.out.trans (hb9.mono Hb.out.size)));go_ret;exact⟨by rw[<- HQ.out,E.out];rfl,B9.out⟩
     | true =>
      rw[hlo] at HRx;have HLO:=Lib.hid hlo;clear hlo;go_wp2_with (go_at_call 168;refine HRx.out.mono ?_;rintro e w9 ⟨rfl,hb9⟩;have B9:=Lib.hid hb9;clear hb9);clear g0 g1 g2 g3 g4 g5;go_loopw [6] (fun s6 wk=>∃ k:Nat,s6=.int .i64 k/\k<=j/\Hid (∀ i,i<k->(L.getD i default).id≠id)/\Hid (Below wr.heap.size wr wk)) (fun s6 _=>j-(intOf s6).toNat)
      case atStart=>exact⟨0,rfl,Nat.zero_le _,Lib.hid (fun i hi=>absurd hi (Nat.not_lt_zero _)),B9⟩
      case round =>
       clear B9;obtain⟨k,rfl,hk,HN,Hbk⟩:=hrel;by_cases hlk:k<j
       ·have f0:=HID.out _ Hbk.out k (by omega);have f1:=HJD.out _ Hbk.out;have hkn:k<n:=(by omega);by_cases he:(L.getD k default).id=id
        ·have E:=Lib.hid (mayB_not (L:=L) (W:=W) (fun h=>Hno2.out (List.any_eq_true.2 ⟨(L.take j).getD k default,by rw[List.getD_eq_getElem?_getD,List.getElem?_eq_getElem (by rw[HTK.out];exact hlk)];exact List.getElem_mem _,by rw[HTI.out k hlk];exact decide_eq_true he⟩) h.2.2));rw[he] at f0;clear he;go_wp2_with (fail);go_quiet (fail);go_wp2_with (fail);go_ret;exact⟨by rw[<- HQ.out,E.out];rfl,(Hb.out.trans (Hbk.out.mono Hb.out.size)).trans ⟨rfl,rfl,rfl,Nat.le_refl _,fun _ _=>rfl⟩⟩
        ·have HN2:Hid (∀ i,i<k+1->(L.getD i default).id≠id):=Lib.hid (fun i hi=>by
          by_cases e:i=k
          ·rw[e];exact he
          ·exact HN.out i (by omega))
         generalize (L.getD k default).id=idk at f0 he;go_wp2_with (fail);go_quiet (fail);go_wp2_with (fail);go_roundw
         case rel=>exact⟨k+1,by go_num,by omega,HN2,Lib.hid (Hbk.out.trans ⟨rfl,rfl,rfl,Nat.le_refl _,fun _ _=>rfl⟩)⟩
         case measure=>simp[intOf];omega
       ·obtain rfl:k=j:=by omega
        have HO2:=Lib.hid (Hmore.out HLO.out (by
         rw[List.any_eq_false];intro l hl;obtain⟨i,hi,rfl⟩:=List.mem_iff_getElem.1 hl;have hik:i<k:=(by rw[HTK.out] at hi;exact hi);have e1:=HTI.out i hik;rw[List.getD_eq_getElem?_getD,List.getElem?_eq_getElem hi] at e1;have e2:=HN.out i hik;simp only[Option.getD_some] at e1;rw[e1];simpa using e2))
        go_wp2_with (fail);go_roundw
        case rel=>exact⟨k+1,by go_num,by omega,HO2,Lib.hid (Hb.out.trans (Hbk.out.mono Hb.out.size))⟩
        case measure=>simp[intOf];omega
    ·obtain rfl:j=n:=by omega
     have hlo:=Lib.hid (show lotsOk L by have:=HO.out;rwa [List.take_of_length_le (by have:=Hln.out;omega)] at this);have E:=Lib.hid (mayB_eq (by have:=Hln.out;omega) (by have:=Hln2.out;omega) hlo.out:mayB L W=_);obtain⟨wb,hwb⟩:∃ V,V=wr:=⟨_,rfl⟩
     rw[<- hwb] at Hb ⊢;clear hwb;go_wp2_with (fail);go_loopw [7] (fun s7 wk=>∃ k:Nat,s7=.int .i64 k/\k<=n2/\Hid (∀ x∈W.take k,wantOk x=true)/\Hid (Below w.heap.size w wk)) (fun s7 _=>n2-(intOf s7).toNat)
     case atStart=>exact⟨0,rfl,Nat.zero_le _,Lib.hid (fun x hx=>by simp at hx),Hb⟩
     case round =>
      clear Hb;obtain⟨k,rfl,hk,HK,Hb⟩:=hrel;by_cases hlk:k<n2
      ·obtain⟨b,o,rfl,hbB,hc⟩:=wantE_at (HW.out.below (Hb.out.mono hB)) (by omega);obtain⟨g0,g1,g2⟩:=hc k hlk;have hkW:=Lib.hid (show k<W.length by rw[<- Hln2.out];exact hlk);have hok:=Lib.hid (HW.out.ok_at hlk);have HT:=Lib.hid (show W.take (k+1)=W.take k++[W.getD k default] by rw[List.take_succ_eq_append_getElem hkW.out,List.getD_eq_getElem?_getD,List.getElem?_eq_getElem hkW.out];rfl);have HM:=Lib.hid (show W.getD k default∈W by rw[List.getD_eq_getElem?_getD,List.getElem?_eq_getElem hkW.out];exact List.getElem_mem _);clear hc;generalize W.getD k default=x at g0 g1 g2 hok HT HM;have hit:=hok.out.1;obtain⟨item,day,qty⟩:=x;simp only at g0 g1 g2 hit;unfold encStr at g0;have HRx:=Lib.hid (HRW.out ⟨item,day,qty⟩ hit wr);unfold WantV.val encStr at HRx;simp only at HRx;clear hit
       cases hlo:wantOk ⟨item,day,qty⟩ with
       | false =>
        rw[hlo] at HRx;have E2:=Lib.hid (show mayB L W=false from by rw[E.out,List.any_eq_true.2 ⟨_,HM.out,by rw[hlo];rfl⟩];rfl);clear hlo;go_wp2_with (go_at_call 169;refine HRx.out.mono ?_;rintro e w9 ⟨rfl,hb9⟩;have B9:=Lib.hid (Hb.out.trans (hb9.mono Hb.out.size)));go_ret;exact⟨by rw[<- HQ.out,E2.out];rfl,B9.out⟩
       | true =>
        rw[hlo] at HRx;have HK2:Hid (∀ x∈W.take (k+1),wantOk x=true):=Lib.hid (fun x hx=>by
         rw[HT.out] at hx;rcases List.mem_append.1 hx with h|h
         ·exact HK.out x h
         ·rw[List.mem_singleton.1 h];exact hlo)
        clear hlo;go_wp2_with (go_at_call 169;refine HRx.out.mono ?_;rintro e w9 ⟨rfl,hb9⟩;have B9:=Lib.hid (Hb.out.trans (hb9.mono Hb.out.size)));go_roundw
        case rel=>exact⟨k+1,by go_num,by omega,HK2,B9⟩
        case measure=>simp[intOf];omega
      ·obtain rfl:k=n2:=by omega
       have E2:=Lib.hid (show mayB L W=true from by
        rw[E.out,List.any_eq_false.2 fun x hx=>by
         have:=HK.out x (by rw[List.take_of_length_le (by have:=Hln2.out;omega)];exact hx);rw[this];decide]
        rfl)
       go_wp2_with (fail);go_ret;exact⟨by rw[<- HQ.out,E2.out];rfl,Hb.out⟩
end
section
open Go.RowKit
def VF (W:World) (g n:Nat) (t:TypeId) (f:Nat->Value):Prop:=W.heap[g]? = some (.cells ((List.range n).map f).toArray t (0,0))
section
variable {W W':World} {g n:Nat} {t:TypeId} {f:Nat->Value}
theorem VF.lt (h:VF W g n t f):g<W.heap.size:=(Array.getElem?_eq_some_iff.1 h).1
theorem VF.cell (h:VF W g n t f) {i:Nat} (hi:i<n):W.cell? ⟨g,i,none⟩=some (f i):=by
 have h':W.heap[g]? = _:=h;unfold World.cell?;rw[h'];simp[hi]
theorem VF.frozen (h:VF W g n t f) (i:Nat):W.frozen? ⟨g,i,none⟩=false:=by
 have h':W.heap[g]? = _:=h;simp[World.frozen?,h']
def setV (f:Nat->Value) (i:Nat) (v:Value):Nat->Value:=fun j=>if j=i then v else f j
theorem VF.set (h:VF W g n t f) (i:Nat) (v:Value):VF (W.setCell ⟨g,i,none⟩ v) g n t (setV f i v):=by
 have hb:W.heap[g]? = _:=h;show (W.heap.modify g _)[g]? = _;rw[Array.getElem?_modify,if_pos rfl,hb];simp only[Option.map_some,Option.isSome_none,Bool.false_eq_true,if_false]
 congr 2
 apply Array.ext';simp only[Array.toList_setIfInBounds];apply List.ext_getElem?;intro k;rw[List.getElem?_set];by_cases hk:k<n
 ·by_cases e:i=k
  ·subst e;simp[setV,hk]
  ·simp[setV,e,Ne.symm e,hk]
 ·simp[hk];intro e1;omega
theorem VF.block (h:VF W g n t f) (hb:W'.heap[g]? = W.heap[g]?):VF W' g n t f:=hb.trans h
theorem VF.below (h:VF W g n t f) (hb:Below W.heap.size W W'):VF W' g n t f:=h.block (hb.block g h.lt)
theorem VF.congr {f':Nat->Value} (h:VF W g n t f) (he:∀ i,i<n->f i=f' i):VF W g n t f':=by
 have h':W.heap[g]? = _:=h;unfold VF;rw[h']
 congr 3
 exact List.map_congr_left fun i hi=>he i (List.mem_range.1 hi)
end
theorem run_make_vf {P:Program} (s e:TypeId) (z:Value) (bytes:Nat) (hu:P.underlying s=some (.slice e)) (hi:(P.info? e).map (fun i=>(i.zero,i.size,i.bytes))=some (some z,1,bytes)) (hz:z.cells=#[z]) (hb:bytes<=100) (n:Nat) (hn:n<=1000000000) (W:World) :
  ∃ cs,(Instr.makeSlice s (.int .i64 (n:Int)) (.int .i64 (n:Int))).run P W=.ok (.slice (some ⟨W.heap.size,0,none⟩) n n) (W.alloc (.cells cs e))/\VF (W.alloc (.cells cs e)) W.heap.size n e (fun _=>z):=by
 obtain⟨i0,hi,hz0,hz1,hz2⟩:=info_parts hi;have hmk:=run_make (P:=P) W s e i0 _ hu hi hz0 .i64 .i64 (n:Int) (n:Int) (by omega) (Int.le_refl _) (by
  rw[hz2];have h3:bytes*n<=100*1000000000:=Nat.mul_le_mul hb hn;have h4:((bytes*n:Nat):Int)<=((100*1000000000:Nat):Int):=Int.ofNat_le.2 h3;rw[Int.natCast_mul] at h4;omega) (by omega)
 rw[Int.toNat_natCast] at hmk;refine⟨_,hmk,?_⟩;unfold VF;rw[heap_alloc_new]
 congr 2
 apply Array.ext';rw[hz1,Nat.mul_one,hz];have h:(madeCells #[z] n).toList=List.replicate n z:=toList_madeCells_one _ _;rw[h];simp[List.map_const']
end
section
open Go.RowKit
theorem leD_refl (W:List WantV) (i:Nat):leD W i i=true:=by have:=leD_total W i i;simpa using this
def Cho (W:List WantV) (j i:Nat) (x:Int):Prop:=(x=-1/\∀ y,y<i->y∈(dayO W).take j)∨∃ k:Nat,x=k/\k<i/\k ∉ (dayO W).take j/\∀ y,y<i->y ∉ (dayO W).take j->leD W k y=true
theorem Cho.start (W:List WantV) (j:Nat):Cho W j 0 (-1):=.inl ⟨rfl,fun _y hy=>absurd hy (Nat.not_lt_zero _)⟩
theorem lt_succ {i y:Nat} (h:y<i+1):y<i∨y=i:=by omega
theorem Cho.was {W:List WantV} {j i:Nat} {x:Int} (h:Cho W j i x) (hd:i∈(dayO W).take j):Cho W j (i+1) x:=by
 rcases h with ⟨h1,h2⟩|⟨k,h1,h2,h3,h4⟩
 ·exact .inl ⟨h1,fun y hy=>(lt_succ hy).elim (h2 y) (fun e=>by rw[e];exact hd)⟩
 ·exact .inr ⟨k,h1,by omega,h3,fun y hy hn=>(lt_succ hy).elim (fun hy=>h4 y hy hn) (fun e=>absurd hd (by rw[<- e];exact hn))⟩
theorem Cho.first {W:List WantV} {j i:Nat} (h:Cho W j i (-1)) (hd:i ∉ (dayO W).take j):Cho W j (i+1) i:=by
 rcases h with ⟨h1,h2⟩|⟨k,h1,h2,h3,h4⟩
 ·exact .inr ⟨i,rfl,by omega,hd,fun y hy hn=>(lt_succ hy).elim (fun hy=>absurd (h2 y hy) hn) (fun e=>by rw[e];exact leD_refl W i)⟩
 ·omega
theorem Cho.sooner {W:List WantV} {j i k:Nat} (h:Cho W j i k) (hd:i ∉ (dayO W).take j) (hl:(W.getD i default).day<(W.getD k default).day):Cho W j (i+1) i:=by
 rcases h with ⟨h1,h2⟩|⟨k',h1,h2,h3,h4⟩
 ·omega
 ·obtain rfl:k=k':=by omega
  refine .inr ⟨i,rfl,by omega,hd,fun y hy hn=>(lt_succ hy).elim (fun hy=>leD_trans W i k y ?_ (h4 y hy hn)) (fun e=>by rw[e];exact leD_refl W i)⟩;unfold leD;rw[decide_eq_true hl,Bool.true_or]
theorem Cho.stay {W:List WantV} {j i k:Nat} (h:Cho W j i k) (hl:¬ (W.getD i default).day<(W.getD k default).day):Cho W j (i+1) k:=by
 rcases h with ⟨h1,h2⟩|⟨k',h1,h2,h3,h4⟩
 ·omega
 ·obtain rfl:k=k':=by omega
  refine .inr ⟨k,rfl,by omega,h3,fun y hy hn=>(lt_succ hy).elim (fun hy=>h4 y hy hn) (fun e=>?_)⟩;rw[e];unfold leD;simp only[Bool.or_eq_true,Bool.and_eq_true,decide_eq_true_eq];omega
theorem Cho.form {W:List WantV} {j i:Nat} {x:Int} (h:Cho W j i x):x=-1∨∃ k:Nat,x=k/\k<i:=by
 rcases h with ⟨h1,-⟩|⟨k,h1,h2,-⟩
 ·exact .inl h1
 ·exact .inr ⟨k,h1,h2⟩
theorem Cho.done {W:List WantV} {j:Nat} {x:Int} (h:Cho W j W.length x) (hj:j<W.length):∃ k:Nat,x=k/\k<W.length/\(dayO W)[j]? = some k:=by
 rcases h with ⟨h1,h2⟩|⟨k,h1,h2,h3,h4⟩
 ·exfalso
  have hl:=dayO_len W;have hjj:j<(dayO W).length:=by omega
  have hin:=h2 _ (dayO_mem.1 (List.getElem_mem hjj));have hnd:=dayO_nodup W;rw[<- List.take_append_drop j (dayO W),List.drop_eq_getElem_cons hjj] at hnd;exact (List.nodup_append.1 hnd).2.2 _ hin _ List.mem_cons_self rfl
 ·exact⟨k,h1,h2,dayO_next hj h2 h3 h4⟩
def Chk (L:List LotV) (item:List UInt8) (day:Int) (f:Int->Int) (i:Nat) (x:Int):Prop:=(x=-1/\∀ a,a<i->elig item day f (L.getD a default)=false)∨∃ k:Nat,x=k/\k<i/\elig item day f (L.getD k default)=true/\∀ a,a<i->elig item day f (L.getD a default)=true->leL (L.getD k default) (L.getD a default)=true
section
variable {L:List LotV} {item:List UInt8} {day:Int} {f:Int->Int} {i k:Nat} {x:Int}
theorem Chk.start:Chk L item day f 0 (-1):=.inl ⟨rfl,fun _y hy=>absurd hy (Nat.not_lt_zero _)⟩
theorem Chk.no (h:Chk L item day f i x) (he:elig item day f (L.getD i default)=false):Chk L item day f (i+1) x:=by
 rcases h with ⟨h1,h2⟩|⟨k,h1,h2,h3,h4⟩
 ·exact .inl ⟨h1,fun y hy=>(lt_succ hy).elim (h2 y) (fun e=>by rw[e];exact he)⟩
 ·exact .inr ⟨k,h1,by omega,h3,fun y hy hn=>(lt_succ hy).elim (fun hy=>h4 y hy hn) (fun e=>by rw[e,he] at hn;cases hn)⟩
theorem leL_refl (a:LotV):leL a a=true:=by have:=leL_total a a;simpa using this
theorem Chk.first (h:Chk L item day f i (-1)) (he:elig item day f (L.getD i default)=true):Chk L item day f (i+1) i:=by
 rcases h with ⟨h1,h2⟩|⟨k,h1,h2,h3,h4⟩
 ·exact .inr ⟨i,rfl,by omega,he,fun y hy hn=>(lt_succ hy).elim (fun hy=>by rw[h2 y hy] at hn;cases hn) (fun e=>by rw[e];exact leL_refl _)⟩
 ·omega
theorem Chk.less (h:Chk L item day f i k) (he:elig item day f (L.getD i default)=true) (hl:cmpL (L.getD i default) (L.getD k default)<0):Chk L item day f (i+1) i:=by
 have h9:=cmpL_lt.1 hl;rcases h with ⟨h1,h2⟩|⟨k',h1,h2,h3,h4⟩
 ·omega
 ·obtain rfl:k=k':=by omega
  have ht:=leL_total (L.getD i default) (L.getD k default);rw[h9,Bool.or_false] at ht;exact .inr ⟨i,rfl,by omega,he,fun y hy hn=>(lt_succ hy).elim (fun hy=>leL_trans _ _ _ ht (h4 y hy hn)) (fun e=>by rw[e];exact leL_refl _)⟩
theorem Chk.stay (h:Chk L item day f i k) (hl:¬ cmpL (L.getD i default) (L.getD k default)<0):Chk L item day f (i+1) k:=by
 have h9:leL (L.getD k default) (L.getD i default)=true:=by
  cases h:leL (L.getD k default) (L.getD i default) with
  | true=>rfl
  | false=>exact absurd (cmpL_lt.2 h) hl
 rcases h with ⟨h1,h2⟩|⟨k',h1,h2,h3,h4⟩
 ·omega
 ·obtain rfl:k=k':=by omega
  exact .inr ⟨k,rfl,by omega,h3,fun y hy hn=>(lt_succ hy).elim (fun hy=>h4 y hy hn) (fun e=>by rw[e];exact h9)⟩
theorem Chk.form (h:Chk L item day f i x):x=-1∨∃ k:Nat,x=k/\k<i:=by
 rcases h with ⟨h1,-⟩|⟨k,h1,h2,-⟩
 ·exact .inl h1
 ·exact .inr ⟨k,h1,h2⟩
theorem mem_getD {a:LotV} (h:a∈L):∃ i,i<L.length/\L.getD i default=a:=by
 obtain⟨i,hi,rfl⟩:=List.mem_iff_getElem.1 h;exact⟨i,hi,by rw[List.getD_eq_getElem?_getD,List.getElem?_eq_getElem hi];rfl⟩
end
theorem pass_len (day at_:Int):∀ (A:List LotV) (f:Int->Int) (need:Int),(pass day at_ A f need).1.length<=A.length
 | [],f,need=>Nat.le_refl _
 | l::C,f,need=>by
  rw[pass_cons];split
  ·have:=pass_len day at_ C f need;simp only[List.length_cons];omega
  ·have:=pass_len day at_ C (upd f l.id (f l.id-min need (f l.id))) (need-min need (f l.id));simp only[List.length_cons];omega
theorem ofItem_len (L:List LotV) (item:List UInt8):(ofItem L item).length<=L.length:=by
 unfold ofItem;have:=List.length_filter_le (fun l:LotV=>decide (l.item=item)) (srt L);rw[(srt_perm L).length_eq] at this;exact this
def LeftOk (L:List LotV) (f:Int->Int):Prop:=∀ a∈L,0<=f a.id/\f a.id<=1073741824
structure FN (L:List LotV) (item:List UInt8) (day at_:Int) (OUT:List UseV) (R:(Int->Int)×Int) (f:Int->Int) (U:List UseV) (need:Int):Prop where
 ok:LeftOk L f
 nn:0<=need
 out:U++(pass day at_ (ofItem L item) f need).1=OUT
 res:(pass day at_ (ofItem L item) f need).2=R
section
variable {L:List LotV} {item:List UInt8} {day at_:Int} {OUT:List UseV} {R:(Int->Int)×Int} {f:Int->Int} {U:List UseV} {need:Int}
theorem FN.none (h:FN L item day at_ OUT R f U need) (hp:0<need) (hc:Chk L item day f L.length (-1)):0<R.2:=by
 rcases hc with ⟨-,h2⟩|⟨k,h1,-⟩
 ·have:=pass_no (at_:=at_) h.nn (fun a ha=>(h.ok a ha).1) (fun a ha=>by
   obtain⟨i,hi,rfl⟩:=mem_getD ha;exact h2 i hi)
  have h3:=h.res;rw[this] at h3;rw[<- h3];exact hp
 ·omega
theorem FN.done (h:FN L item day at_ OUT R f U 0):U=OUT/\R=(f,0):=by
 have hz:pass day at_ (ofItem L item) f 0=([],f,0):=pass_zero fun a ha=>(h.ok a (ofItem_mem.1 ha).1).1
 have h1:=h.out;have h2:=h.res;rw[hz] at h1 h2;rw[List.append_nil] at h1;exact⟨h1,h2.symm⟩
theorem FN.step (h:FN L item day at_ OUT R f U need) (hid:(L.map (·.id)).Nodup) (hp:0<need) {k:Nat} (hk:k<L.length) (hc:Chk L item day f L.length k) :
  (0<min need (f (L.getD k default).id))/\FN L item day at_ OUT R (upd f (L.getD k default).id (f (L.getD k default).id-min need (f (L.getD k default).id))) (U++[⟨at_,(L.getD k default).id,min need (f (L.getD k default).id)⟩]) (need-min need (f (L.getD k default).id)):=by
 rcases hc with ⟨h1,-⟩|⟨k',h1,h2,h3,h4⟩
 ·omega
 ·obtain rfl:k=k':=by omega
  have hm:L.getD k default∈L:=by rw[List.getD_eq_getElem?_getD,List.getElem?_eq_getElem hk];exact List.getElem_mem _
  have hl:=pass_least (at_:=at_) hid hp (fun a ha=>(h.ok a ha).1) hm h3 (fun a ha he=>by
   obtain⟨i,hi,rfl⟩:=mem_getD ha;exact h4 i hi he)
  have hpos:=(elig_iff.1 h3).1;have hup:=(h.ok _ hm).2;have ho:=h.out;have hr:=h.res;rw[hl] at ho hr;refine⟨by omega,fun a ha=>?_,by omega,by rw[List.append_assoc];exact ho,hr⟩;have:=h.ok a ha;unfold upd;split
  ·omega
  ·exact this
theorem FN.len (h:FN L item day at_ OUT R f U need):U.length<=OUT.length:=by
 have:=congrArg List.length h.out;rw[List.length_append] at this;omega
end
structure FS (L:List LotV) (W:List WantV) (j:Nat) (f:Int->Int) (U:List UseV):Prop where
 ok:LeftOk L f
 len:U.length<=j*L.length
 is:fillF (srt L) W ((dayO W).drop j) f U=fillF (srt L) W (dayO W) (left0 L) []
section
variable {L:List LotV} {W:List WantV} {j:Nat} {f:Int->Int} {U:List UseV}
theorem FS.start (hm:mayB L W=true):FS L W 0 (left0 L) []:=by
 obtain⟨m1,m2,m3,m4,m5⟩:=mayB_iff.1 hm;refine⟨fun a ha=>?_,Nat.zero_le _,rfl⟩;rw[left0_of m4 ha];have:=lotOk_iff.1 (m3 a ha);omega
theorem FS.want (h:FS L W j f U) {x:Nat} (_hx:(dayO W)[j]? = some x) (hq:0<=(W.getD x default).qty) :
  FN L (W.getD x default).item (W.getD x default).day x (U++(pass (W.getD x default).day x (ofItem L (W.getD x default).item) f (W.getD x default).qty).1) (pass (W.getD x default).day x (ofItem L (W.getD x default).item) f (W.getD x default).qty).2 f U (W.getD x default).qty:=⟨h.ok,hq,rfl,rfl⟩
theorem drop_some {α:Type} {l:List α} {j:Nat} {x:α} (h:l[j]? = some x):l.drop j=x::l.drop (j+1):=by
 obtain⟨hj,rfl⟩:=List.getElem?_eq_some_iff.1 h;exact List.drop_eq_getElem_cons hj
theorem take_some {α:Type} {l:List α} {j:Nat} {x:α} (h:l[j]? = some x):l.take (j+1)=l.take j++[x]:=by
 obtain⟨hj,rfl⟩:=List.getElem?_eq_some_iff.1 h;exact List.take_succ_eq_append_getElem hj
theorem FS.eq (h:FS L W j f U) {x:Nat} (hx:(dayO W)[j]? = some x):fillF (srt L) W (dayO W) (left0 L) []=if 0<(pass (W.getD x default).day x (ofItem L (W.getD x default).item) f (W.getD x default).qty).2.2 then none else fillF (srt L) W ((dayO W).drop (j+1)) (pass (W.getD x default).day x (ofItem L (W.getD x default).item) f (W.getD x default).qty).2.1 (U++(pass (W.getD x default).day x (ofItem L (W.getD x default).item) f (W.getD x default).qty).1):=by
 rw[<- h.is,drop_some hx];rfl
theorem FS.none (h:FS L W j f U) {x:Nat} (hx:(dayO W)[j]? = some x) (hp:0<(pass (W.getD x default).day x (ofItem L (W.getD x default).item) f (W.getD x default).qty).2.2):fillF (srt L) W (dayO W) (left0 L) []=none:=by
 rw[h.eq hx,if_pos hp]
theorem FS.next (h:FS L W j f U) {x:Nat} (hx:(dayO W)[j]? = some x) {f':Int->Int} {U':List UseV} (hok:LeftOk L f') (h1:U'=U++(pass (W.getD x default).day x (ofItem L (W.getD x default).item) f (W.getD x default).qty).1) (h2:(pass (W.getD x default).day x (ofItem L (W.getD x default).item) f (W.getD x default).qty).2=(f',0)):FS L W (j+1) f' U':=by
 refine⟨hok,?_,?_⟩
 ·have e1:=pass_len (W.getD x default).day x (ofItem L (W.getD x default).item) f (W.getD x default).qty;have e2:=ofItem_len L (W.getD x default).item;have e3:=h.len;rw[h1,List.length_append,Nat.add_mul,Nat.one_mul];omega
 ·rw[h.eq hx,h2,if_neg (Int.lt_irrefl _),h1]
theorem FS.done (h:FS L W j f U) (hj:j=W.length):fillF (srt L) W (dayO W) (left0 L) []=some (U,f):=by
 rw[<- h.is,List.drop_of_length_le (by rw[dayO_len];omega)];rfl
end
structure FO (w:World) (gl gd:Nat) (n n2:Nat) (L:List LotV) (W:List WantV) (j:Nat) (f:Int->Int) (U:List UseV) (v:Value) (wr:World):Prop where
 left:VF wr gl n 2 (fun i=>.int .i64 (f (L.getD i default).id))
 done:VF wr gd n2 4 (fun i=>.bool (decide (i∈(dayO W).take j)))
 lt:gl<gd
 lo:w.heap.size<=gl
 own:useE.Own (gd+1) wr v U
 below:Below w.heap.size w wr
section
variable {w:World} {gl gd n n2:Nat} {L:List LotV} {W:List WantV} {j:Nat} {f:Int->Int} {U:List UseV} {v:Value} {wr wk:World}
theorem FO.blw (h:FO w gl gd n n2 L W j f U v wr) (hb:Below wr.heap.size wr wk):FO w gl gd n n2 L W j f U v wk:=⟨h.left.below hb,h.done.below hb,h.lt,h.lo,h.own.below hb,h.below.trans (hb.mono h.below.size)⟩
theorem FO.mark (h:FO w gl gd n n2 L W j f U v wr) {x:Nat} (hx:(dayO W)[j]? = some x):FO w gl gd n n2 L W (j+1) f U v (wr.setCell ⟨gd,x,none⟩ (.bool true)):=by
 have hlt:=h.lt;have hlo:=h.lo;refine⟨h.left.block (setCell_block _ _ _ _ (by omega)),(h.done.set x (.bool true)).congr fun i _=>?_,h.lt,h.lo,h.own.keep fun b e=>setCell_block _ _ _ _ (by have:=(h.own.ge b e).1;omega),below_set h.below _ _ _ (by omega)⟩;unfold setV;rw[take_some hx];split
 ·rename_i e;simp[e]
 ·rename_i e;simp[e]
theorem FO.take (h:FO w gl gd n n2 L W j f U v wr) (hid:(L.map (·.id)).Nodup) (hn:n=L.length) {k:Nat} (hk:k<n) (t:Int):FO w gl gd n n2 L W j (upd f (L.getD k default).id t) U v (wr.setCell ⟨gl,k,none⟩ (.int .i64 t)):=by
 have hlt:=h.lt;have hlo:=h.lo;refine⟨(h.left.set k (.int .i64 t)).congr fun i hi=>?_,h.done.block (setCell_block _ _ _ _ (by omega)),h.lt,h.lo,h.own.keep fun b e=>setCell_block _ _ _ _ (by have:=(h.own.ge b e).1;omega),below_set h.below _ _ _ (by omega)⟩;unfold setV upd;have hkl:k<L.length:=by omega
 have hil:i<L.length:=by omega
 have e:∀ a,a<L.length->(L.map (·.id))[a]? = some (L.getD a default).id:=fun a ha=>by
  rw[List.getElem?_map,List.getElem?_eq_getElem ha,List.getD_eq_getElem?_getD,List.getElem?_eq_getElem ha];rfl
 by_cases hik:i=k
 ·rw[if_pos hik,hik,if_pos rfl]
 ·rw[if_neg hik,if_neg];intro h2;exact hik ((List.getElem?_inj (by rw[List.length_map];exact hil) hid).1 (by rw[e i hil,e k hkl,h2]))
theorem FO.app (h:FO w gl gd n n2 L W j f U v wr) {U':List UseV} {v':Value} (ho:useE.Own (gd+1) wk v' U') (hg:wr.grownBy wk v.ownBlock) (hs:gd<wr.heap.size):FO w gl gd n n2 L W j f U' v' wk:=by
 have hlt:=h.lt;have hlo:=h.lo;have hb:∀ b,b<=gd->wk.heap[b]? = wr.heap[b]?:=fun b hb=>hg.block b (by omega) (fun e=>by have:=(h.own.ge b e.symm).1;omega)
 exact⟨h.left.block (hb gl (by omega)),h.done.block (hb gd (Nat.le_refl _)),h.lt,h.lo,ho,h.below.grown hg h.below.size (fun k e=>by have:=(h.own.ge k e).1;omega)⟩
end
end
section
open Go.RowKit
def leaves (X:List It):Nat->List UInt8->Int->List Pt
 | 0,_,_=>[]
 | k+1,c,q=>if (partsX X c).length=0 then [(c,q)] else (partsX X c).flatMap fun p=>leaves X k p.1 (q*p.2)
theorem leaves_leaf {X:List It} {k:Nat} {c:List UInt8} {q:Int} (h:(partsX X c).length=0):leaves X (k+1) c q=[(c,q)]:=by
 show (if _ then _ else _)=_;rw[if_pos h]
theorem leaves_kit {X:List It} {k:Nat} {c:List UInt8} {q:Int} (h:(partsX X c).length≠0):leaves X (k+1) c q=(partsX X c).flatMap fun p=>leaves X k p.1 (q*p.2):=by
 show (if _ then _ else _)=_;rw[if_neg h]
theorem Sound.parts {X:List It} (hs:Sound X) {c:List UInt8} (hc:c∈codes X):∀ p∈partsX X c,p.1∈codes X/\1<=p.2/\p.2<=1073741824:=fun p hp=>by
 refine⟨hs.kids c hc p.1 (by rw[kids_parts];exact List.mem_map.2 ⟨p,hp,rfl⟩),?_⟩;obtain⟨i,hi,-,rfl⟩:=there hc;have hsh:=(okIt_parts (hs.ok i hi)).2.2;unfold partsX at hp;rw[itF_cd hs.nd hi] at hp;have hp:p∈(X.getD i default).ps:=hp;obtain⟨k,hk,rfl⟩:=List.getElem_of_mem hp;unfold okShape at hsh;rw[if_neg (by omega),Bool.and_eq_true,decide_eq_true_eq,decide_eq_true_eq] at hsh;have h1:=hsh.2 k hk;unfold okPart at h1;rw[Bool.and_eq_true,decide_eq_true_eq,decide_eq_true_eq,List.getD_eq_getElem?_getD,List.getElem?_eq_getElem hk] at h1;exact h1.1
theorem hgt_parts {X:List It} {k:Nat} {c:List UInt8} {d:Nat} (h:hgt (kidsX X) (k+1) c=some d):∀ p∈partsX X c,∃ d',hgt (kidsX X) k p.1=some d':=fun p hp=>by
 rw[hgt_succ] at h;obtain⟨d',h1,-⟩:=(foldH_some h).2 p.1 (by rw[kids_parts];exact List.mem_map.2 ⟨p,hp,rfl⟩);exact⟨d',h1⟩
theorem leaves_ge {X:List It} (hs:Sound X):∀ (k:Nat) {c:List UInt8} {q:Int},c∈codes X->1<=q->∀ p∈leaves X k c q,q<=p.2/\p.1∈codes X/\(partsX X p.1).length=0
 | 0,_,_,_,_,p,hp=>by cases hp
 | k+1,c,q,hc,hq,p,hp=>by
  by_cases h0:(partsX X c).length=0
  ·rw[leaves_leaf h0,List.mem_singleton] at hp;subst hp;exact⟨Int.le_refl _,hc,h0⟩
  ·rw[leaves_kit h0,List.mem_flatMap] at hp;obtain⟨r,hr,hp⟩:=hp;obtain⟨h1,h2,-⟩:=hs.parts hc r hr;have hqr:q<=q*r.2:=by
    have:=Int.mul_le_mul_of_nonneg_left h2 (show 0<=q by omega);omega
   obtain⟨h3,h4,h5⟩:=leaves_ge hs k h1 (show 1<=q*r.2 by omega) p hp;exact⟨by omega,h4,h5⟩
theorem leaves_some {X:List It}:∀ (k:Nat) {c:List UInt8} {q:Int} {d:Nat},hgt (kidsX X) k c=some d->∃ p,p∈leaves X k c q
 | 0,_,_,_,h=>by cases h
 | k+1,c,q,d,h=>by
  by_cases h0:(partsX X c).length=0
  ·exact⟨(c,q),by rw[leaves_leaf h0];simp⟩
  ·rw[leaves_kit h0];obtain⟨r,hr⟩:∃ r,r∈partsX X c:=by
    cases hp:partsX X c with
    | nil=>rw[hp] at h0;exact absurd rfl h0
    | cons r l=>exact⟨r,by simp⟩
   obtain⟨d',hd'⟩:=hgt_parts h r hr;obtain⟨p,hp⟩:=leaves_some k (q:=q*r.2) hd';exact⟨p,List.mem_flatMap.2 ⟨r,hr,hp⟩⟩
theorem joinL_big {S L:List Pt} (hS:Up S) {p:Pt} (hp:p∈L) (hb:mostA<p.2):joinL S L=none:=by
 cases h:joinL S L with
 | none=>rfl
 | some R =>
  have h1:=((joinL_iff hS).1 (by rw[h];rfl)).1 p hp;have:=okA_iff.1 h1;unfold mostA at hb;omega
theorem times_fine {a b:Int} (ha:1<=a) (hb:1<=b) (hb2:b<=1073741824) (ha2:a<=mostA):timesA a b=if a*b<=mostA then some (a*b) else none:=by
 unfold timesA;unfold mostA at ha2;rw[okA_iff.2 (by omega),okA_iff.2 (by omega)];simp
theorem put_list {f:List Pt->List UInt8->Int->Option (List Pt)} {g:Pt->List Pt} {q:Int}:∀ {L:List Pt} {S:List Pt},Up S->(∀ p∈L,∀ S',Up S'->putStep f q (some S') p=joinL S' (g p))->L.foldl (putStep f q) (some S)=joinL S (L.flatMap g)
 | [],S,_,_=>rfl
 | p::L,S,hS,h=>by
  rw[List.foldl_cons,List.flatMap_cons,joinL_append,h p (List.mem_cons_self ..) S hS]
  cases hj:joinL S (g p) with
  | none=>exact put_none f q L
  | some S'=>exact put_list (joinL_up hS hj) fun r hr=>h r (List.mem_cons_of_mem _ hr)
theorem putL_leaves {X:List It} (hs:Sound X):∀ (k:Nat) {c:List UInt8} {q:Int} {d:Nat} {S:List Pt},c∈codes X->hgt (kidsX X) k c=some d->1<=q->q<=mostA->Up S->putL X k S c q=joinL S (leaves X k c q)
 | 0,_,_,_,_,_,h,_,_,_=>by cases h
 | k+1,c,q,d,S,hc,h,hq,hq2,hS=>by
  by_cases h0:(partsX X c).length=0
  ·rw[leaves_leaf h0];show (if _ then _ else _)=_;rw[if_pos h0]
  ·rw[leaves_kit h0];show (if _ then _ else _)=_;rw[if_neg h0];refine put_list hS fun p hp S' hS'=>?_
   obtain⟨h1,h2,h3⟩:=hs.parts hc p hp;obtain⟨d',hd'⟩:=hgt_parts h p hp;have hge:1<=q*p.2:=by
    have:=Int.mul_le_mul_of_nonneg_left h2 (show 0<=q by omega);omega
   show (timesA q p.2).bind (fun n=>putL X k S' p.1 n)=_;rw[times_fine hq h2 h3 hq2];by_cases hle:q*p.2<=mostA
   ·rw[if_pos hle];exact putL_leaves hs k h1 hd' hge hle hS'
   ·rw[if_neg hle];obtain⟨r,hr⟩:=leaves_some (X:=X) k (q:=q*p.2) hd';have:=(leaves_ge hs k h1 hge r hr).1;exact (joinL_big hS' hr (by omega)).symm
theorem way_head {α:Type} {kids:α->List α} {a b c:α} (h:b∈kids a) (w:Way kids b c):Way kids a c:=by
 induction w with
 | one hb=>exact .more (.one h) hb
 | more _ hc ih=>exact .more ih hc
theorem in_step {X:List It} {c p s:List UInt8} (h:p∈kidsX X c) (hi:inX X p s):inX X c s:=by
 rcases hi with rfl|hw
 ·exact .inr (.one h)
 ·exact .inr (way_head h hw)
theorem leaves_in {X:List It}:∀ (k:Nat) {c:List UInt8} {q:Int},∀ p∈leaves X k c q,inX X c p.1
 | 0,_,_,p,hp=>by cases hp
 | k+1,c,q,p,hp=>by
  by_cases h0:(partsX X c).length=0
  ·rw[leaves_leaf h0,List.mem_singleton] at hp;subst hp;exact .inl rfl
  ·rw[leaves_kit h0,List.mem_flatMap] at hp;obtain⟨r,hr,hp⟩:=hp;have hk:r.1∈kidsX X c:=by rw[kids_parts];exact List.mem_map.2 ⟨r,hr,rfl⟩
   exact in_step hk (leaves_in k p hp)
end
section
open Go.RowKit
theorem tot_nn (s:List UInt8):∀ {L:List Pt},(∀ p∈L,0<=p.2)->0<=tot s L
 | [],_=>Int.le_refl _
 | p::L,h=>by
  have h1:=tot_nn s fun r hr=>h r (List.mem_cons_of_mem p hr)
  have h2:=h p (List.mem_cons_self ..);show 0<=(if p.1=s then p.2 else 0)+tot s L;split<;>omega
theorem tot_le:∀ {L:List Pt} {p:Pt},(∀ p∈L,0<=p.2)->p∈L->p.2<=tot p.1 L
 | r::L,p,h,hp=>by
  have hL:∀ x∈L,0<=x.2:=fun x hx=>h x (List.mem_cons_of_mem r hx)
  have h2:=h r (List.mem_cons_self ..);show p.2<=(if r.1=p.1 then r.2 else 0)+tot p.1 L;rcases List.mem_cons.1 hp with rfl|hp
  ·rw[if_pos rfl];have:=tot_nn p.1 hL;omega
  ·have:=tot_le hL hp;split<;>omega
theorem tot_flat (s:List UInt8) (g:Pt->List Pt):∀ {L:List Pt} {p:Pt},(∀ p∈L,∀ r∈g p,0<=r.2)->p∈L->tot s (g p)<=tot s (L.flatMap g)
 | r::L,p,h,hp=>by
  have hL:∀ x∈L,∀ y∈g x,0<=y.2:=fun x hx=>h x (List.mem_cons_of_mem r hx)
  rw[List.flatMap_cons,tot_append];rcases List.mem_cons.1 hp with rfl|hp
  ·have:=tot_nn s (L:=L.flatMap g) fun y hy=>by
    obtain⟨x,hx,hy⟩:=List.mem_flatMap.1 hy;exact hL x hx y hy
   omega
  ·have:=tot_flat s g hL hp;have:=tot_nn s (h r (List.mem_cons_self ..));omega
theorem end_leaves {X:List It} (hs:Sound X) {c:List UInt8} (hc:c∈codes X) {q:Int} (h1:1<=q) (h2:q<=mostA):endL X c q=joinL [] (leaves X 8 c q):=putL_leaves hs 8 hc (hs.hgt8 hc) h1 h2 Up.nil
theorem leaves_nn {X:List It} (hs:Sound X) {c:List UInt8} (hc:c∈codes X) {q:Int} (h1:1<=q):∀ p∈leaves X 8 c q,0<=p.2:=fun p hp=>by
 have:=(leaves_ge hs 8 hc h1 p hp).1;omega
theorem end_up {X:List It} (hs:Sound X) {c:List UInt8} (hc:c∈codes X) {q:Int} (h1:1<=q) (h2:q<=mostA) {S:List Pt} (h:endL X c q=some S):Up S/\(∀ s,sumAt S s=tot s (leaves X 8 c q))/\∀ s,s∈S.map (·.1)↔s∈(leaves X 8 c q).map (·.1):=by
 rw[end_leaves hs hc h1 h2] at h;refine⟨joinL_up Up.nil h,fun s=>?_,fun s=>?_⟩
 ·rw[joinL_sum Up.nil h s];show 0+_=_;omega
 ·rw[joinL_keys h s];simp
theorem end_mem {X:List It} (hs:Sound X) {c:List UInt8} (hc:c∈codes X) {q:Int} (h1:1<=q) (h2:q<=mostA) {S:List Pt} (hS:endL X c q=some S):∀ p∈S,1<=p.2/\p.1∈codes X/\(partsX X p.1).length=0/\p.1∈withinL X c:=fun p hp=>by
 obtain⟨u1,s1,k1⟩:=end_up hs hc h1 h2 hS;obtain⟨r,hr,e⟩:=List.mem_map.1 ((k1 p.1).1 (List.mem_map.2 ⟨p,hp,rfl⟩));obtain⟨g1,g2,g3⟩:=leaves_ge hs 8 hc h1 r hr;have g4:=tot_le (leaves_nn hs hc h1) hr;have g5:=leaves_in 8 r hr;rw[e] at g2 g3 g4 g5;rw[<- s1,u1.sum_mem hp] at g4;exact⟨by omega,g2,g3,mem_within.2 ⟨g2,g5⟩⟩
end
section
open Go.RowKit
structure XC (W:World) (g:Nat) (x:It):Prop where
 at_:W.heap[g]? = some (.cells #[encStr x.code,.int .i64 x.life,.slice x.pa x.ps.length x.pc,.slice x.oa x.os.length x.oc] 87)
theorem XC.lt {W:World} {g:Nat} {x:It} (h:XC W g x):g<W.heap.size:=(Array.getElem?_eq_some_iff.1 h.at_).1
theorem XC.below {W W':World} {g:Nat} {x:It} {b:Nat} (h:XC W g x) (hb:Below b W W') (hg:g<b):XC W' g x:=⟨(hb.block g hg).trans h.at_⟩
theorem XC.cells {W:World} {g:Nat} {x:It} (h:XC W g x):W.cell? ⟨g,0,none⟩=some (encStr x.code)/\W.cell? ⟨g,1,none⟩=some (.int .i64 x.life)/\W.cell? ⟨g,2,none⟩=some (.slice x.pa x.ps.length x.pc):=by
 refine⟨?_,?_,?_⟩<;>(unfold World.cell?;rw[h.at_];rfl)
theorem fine_ps {X:List It} {S:List Pt} (hok:∀ x∈X,x.code.length<=9223372036854775807) (h:PS X S):Fine S:=fun p hp=>by
 refine⟨?_,?_⟩
 ·obtain⟨y,hy,hye⟩:=List.mem_map.1 (h.sub p hp);rw[<- hye];exact hok y hy
 ·have:=okA_iff.1 (h.up.2 p hp);omega
theorem code_le {X:List It} (h:∀ x∈X,x.code.length<=9223372036854775807) {c:List UInt8} (hc:c∈codes X):c.length<=9223372036854775807:=by
 obtain⟨x,hx,rfl⟩:=List.mem_map.1 hc;exact h x hx
end
section
theorem setAt_found:∀ {S:List Pt} {x:List UInt8} {at_:Nat} (n:Int),at_<S.length->(∀ j,j<at_->(S.getD j default).1<x)->(S.getD at_ default).1=x->setAt S x n=S.set at_ (x,n)/\sumAt S x=(S.getD at_ default).2
 | [],x,at_,n,h,_,_=>by simp at h
 | p::S,x,0,n,_,_,he=>by
  have he':p.1=x:=he;have hlt:¬ p.1<x:=fun h=>by rw[he'] at h;exact List.lt_irrefl _ h
  unfold setAt sumAt;rw[if_neg hlt,if_pos he',if_pos he'];exact⟨rfl,rfl⟩
 | p::S,x,at_+1,n,h,hl,he=>by
  have h0:p.1<x:=hl 0 (by omega);have ih:=setAt_found (S:=S) (x:=x) (at_:=at_) n (by simpa using h) (fun j hj=>hl (j+1) (by omega)) he;have hne:¬ p.1=x:=fun e=>by rw[e] at h0;exact List.lt_irrefl _ h0
  unfold setAt sumAt;rw[if_pos h0,if_neg hne,ih.1,ih.2];exact⟨rfl,rfl⟩
theorem setAt_ins:∀ {S:List Pt} {x:List UInt8} {at_:Nat} (n:Int),Up S->at_<=S.length->(∀ j,j<at_->(S.getD j default).1<x)->(at_<S.length->x<(S.getD at_ default).1)->setAt S x n=S.take at_++(x,n)::S.drop at_/\sumAt S x=0
 | [],x,at_,n,_,h,_,_=>by
  obtain rfl:at_=0:=by simpa using h
  exact⟨rfl,rfl⟩
 | p::S,x,0,n,hu,_,_,hg=>by
  have h0:x<p.1:=hg (by simp);have hlt:¬ p.1<x:=fun h=>lt_asymm' h h0
  have hne:¬ p.1=x:=fun e=>by rw[e] at h0;exact List.lt_irrefl _ h0
  have hno:x ∉ S.map (·.1):=fun hk=>by
   obtain⟨q,hq,e⟩:=List.mem_map.1 hk;have h1:=(List.pairwise_cons.1 hu.1).1 q hq;have e':q.1=x:=e;rw[e'] at h1;exact lt_asymm' h1 h0
  unfold setAt sumAt;rw[if_neg hlt,if_neg hne,if_neg hne,sumAt_none hno];exact⟨rfl,rfl⟩
 | p::S,x,at_+1,n,hu,h,hl,hg=>by
  have h0:p.1<x:=hl 0 (by omega);have ih:=setAt_ins (S:=S) (x:=x) (at_:=at_) n hu.tail (by simpa using h) (fun j hj=>hl (j+1) (by omega)) (fun hh=>hg (by simpa using hh));have hne:¬ p.1=x:=fun e=>by rw[e] at h0;exact List.lt_irrefl _ h0
  unfold setAt sumAt;rw[if_pos h0,if_neg hne,ih.1,ih.2];exact⟨rfl,rfl⟩
theorem ins_at (S:List Pt) (x:List UInt8) (at_:Nat) (h:at_<=S.length):(S.take at_++[(x,0)]++S.drop at_).length=S.length+1/\(S.take at_++[(x,0)]++S.drop at_).getD at_ default=(x,0)/\∀ n:Int,(S.take at_++[(x,0)]++S.drop at_).set at_ (x,n)=S.take at_++(x,n)::S.drop at_:=by
 have hl:(S.take at_).length=at_:=by rw[List.length_take];omega
 refine⟨by simp;omega,?_,fun n=>?_⟩
 ·rw[List.append_assoc,List.getD_eq_getElem?_getD,List.getElem?_append_right (by omega),hl,Nat.sub_self];simp
 ·rw[List.append_assoc,List.set_append_right _ _ (by omega),hl,Nat.sub_self];simp
end
section
open Go.RowKit
theorem RP.drop {B:Nat} {w:World} {b o n c:Nat} {P:List Pt} (h:RP B w (some ⟨b,o,none⟩) n c P) {k:Nat} (hk:k<=n):RP B w (some ⟨b,if k=c then o else o+k*2,none⟩) (n-k) (c-k) (P.drop k):=by
 refine⟨by rw[List.length_drop,<- h.len],by have:=h.le;omega,by have:=h.mx;omega,fun p hp=>h.fine p (List.mem_of_mem_drop hp),fun hc=>?_⟩;obtain⟨b',o',e,hB,hcell⟩:=h.at_ (by omega)
 cases e
 have hne:k≠c:=by omega
 rw[if_neg hne];refine⟨b,o+k*2,rfl,hB,fun i hi=>?_⟩;have:=hcell (k+i) (by omega);have e2:(P.drop k).getD i default=P.getD (k+i) default:=by
  rw[List.getD_eq_getElem?_getD,List.getElem?_drop,List.getD_eq_getElem?_getD]
 rw[e2,show o+k*2+i*2=o+(k+i)*2 by omega];exact this
theorem RP.drop' {B:Nat} {w:World} {b o n c:Nat} {P:List Pt} (h:RP B w (some ⟨b,o,none⟩) n c P) {k:Nat} (hk:k<=n):RP B w (if c=k then some ⟨b,o,none⟩ else some ⟨b,o+k*2,none⟩) (n-k) (c-k) (P.drop k):=by
 have:=h.drop hk;rw[show (if c=k then some (⟨b,o,none⟩:Addr) else some ⟨b,o+k*2,none⟩)=some ⟨b,if k=c then o else o+k*2,none⟩ by
  by_cases e:c=k
  ·rw[if_pos e,if_pos e.symm]
  ·rw[if_neg e,if_neg (fun e2=>e e2.symm)]]
 exact this
end
section
open Go.RowKit
theorem OP.at_ {base g n c:Nat} {w:World} {P:List Pt} (h:OP base w (.slice (some ⟨g,0,none⟩) n c) P) {i:Nat} (hi:i<P.length) :
  (w.cell? ⟨g,i*2,none⟩=some (encStr (P.getD i default).1)/\w.cell? ⟨g,i*2+1,none⟩=some (.int .i64 (P.getD i default).2))/\w.frozen? ⟨g,i*2,none⟩=false/\w.frozen? ⟨g,i*2+1,none⟩=false:=by
 obtain⟨h1,⟨h2,-⟩|⟨g',cap,cur,hv,hg,hh,hle,hcap,hsz,htk⟩⟩:=h
 ·cases h2
 ·cases hv
  have hat:=cellsP_at P i hi;rw[<- htk] at hat;rw[List.getElem?_take,if_pos (by omega),List.getElem?_take,if_pos (by omega)] at hat;refine⟨?_,?_,?_⟩
  ·simp only[World.cell?,hh,Option.isSome_none,Bool.false_eq_true,if_false];simpa using hat
  ·simp[World.frozen?,hh]
  ·simp[World.frozen?,hh]
theorem OP.some_len {base g n c:Nat} {w:World} {P:List Pt} (h:OP base w (.slice (some ⟨g,0,none⟩) n c) P):n=P.length/\n<=c/\c<=9223372036854775807:=by
 obtain⟨g',vc,e,hle,hmx⟩:=h.form (fun e=>by cases e)
 cases e
 exact⟨rfl,hle,hmx⟩
end
end Go.Proofs.YtgplnekpgdhcpaaGreat
