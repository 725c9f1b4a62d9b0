/-  -/
import Derived.Test.YtgplnekpgdhcpaaGreatJOver
import Derived.Test.YtgplnekpgdhcpaaGreatKPut
import Derived.Deep.DeepCutAuto
namespace Go.Proofs.YtgplnekpgdhcpaaGreat
open Go.RowKit
theorem OP.made {W:World} {base:Nat} (hb:base<=W.heap.size):OP base (W.alloc (.cells #[] 74)) (.slice (some ⟨W.heap.size,0,none⟩) 0 0) []:=by
 have h:=World.ownsRow_made (e:=74) (size:=2) W #[] 0 (Nat.le_refl _) (by simp) rfl;obtain⟨e,⟨h1,-⟩|⟨g,cap,cur,hv,hg,r⟩⟩:=h
 ·cases h1
 ·exact⟨rfl,.inr ⟨g,cap,cur,hv,Nat.le_trans hb hg,r⟩⟩
theorem flatV_drop {V:List PV} {i:Nat} (h:i<V.length):flatV (V.drop i)=(V.getD i default).P++flatV (V.drop (i+1)):=by
 unfold flatV;rw[List.drop_eq_getElem_cons h,List.flatMap_cons,List.getD_eq_getElem?_getD,List.getElem?_eq_getElem h];rfl
theorem joinL_step {P R S:List Pt} {k:Nat} (h:k<P.length):joinL S (P.drop k++R)=match addA (sumAt S (P.getD k default).1) (P.getD k default).2 with|none=>none|some n=>joinL (setAt S (P.getD k default).1 n) (P.drop (k+1)++R):=by
 rw[List.drop_eq_getElem_cons h,List.cons_append,joinL_cons,List.getD_eq_getElem?_getD,List.getElem?_eq_getElem h];rfl
theorem cellsP_setQ:∀ (P:List Pt) (i:Nat) (x:List UInt8) (m:Int),i<P.length->(P.getD i default).1=x->cellsP (P.set i (x,m))=(cellsP P).set (i*2+1) (.int .i64 m)
 | [],i,x,m,h,_=>by simp at h
 | q::P,0,x,m,_,hx=>by
  have hx':q.1=x:=hx;simp[cellsP,encP,hx']
 | q::P,i+1,x,m,h,hx=>by
  have ih:=cellsP_setQ P i x m (by simpa using h) hx;have e:∀ (r:Pt) (R:List Pt),cellsP (r::R)=encStr r.1::Value.int .i64 r.2::cellsP R:=fun r R=>rfl
  rw[List.set_cons_succ,e,e,ih,show (i+1)*2=i*2+1+1 by omega];simp
theorem OP.setQ {base g n c:Nat} {w:World} {P:List Pt} (h:OP base w (.slice (some ⟨g,0,none⟩) n c) P) {i:Nat} (hi:i<P.length) {x:List UInt8} (hx:(P.getD i default).1=x) (m:Int) :
  OP base (w.setCell ⟨g,i*2+1,none⟩ (.int .i64 m)) (.slice (some ⟨g,0,none⟩) n c) (P.set i (x,m)):=by
 obtain⟨h1,⟨h2,-⟩|⟨g',cap,cur,hv,hg,hh,hle,hcap,hsz,htk⟩⟩:=h
 ·cases h2
 ·cases hv
  have e2:=heap_setCell_same w g (i*2+1) cur 74 (.int .i64 m) hh;refine⟨by rw[cellsP_len],.inr ⟨g,_,_,by rw[List.length_set],hg,e2,by rw[List.length_set];exact hle,hcap,by simp[hsz],?_⟩⟩;rw[cellsP_setQ P i x m hi hx,List.length_set,<- htk];simp only[Array.toList_setIfInBounds];rw[List.take_set]
theorem drewN_below (w:World) (q:Nat) (B:Nat):Below B w (w.drewN q):=⟨rfl,rfl,rfl,Nat.le_refl _,fun _ _=>rfl⟩
set_option maxHeartbeats 8000000 in
set_option maxRecDepth 100000 in
theorem rJoin_any (B:Nat) (a:Option Addr) (n c:Nat) (V:List PV) (w:World) (hl:RV B w a n c V) (hB:B<=w.heap.size) (htot:(flatV V).length<=1048576) :
  Calls Tryz.prog 105 #[.slice a n c] w fun e w'=>JoinPost w (joinL [] (flatV V)) e w':=by
 have hle:=hl.le;have hmx:=hl.mx;have Hln:=Lib.hid hl.len;have HR:=Lib.hid hl;have Htot:=Lib.hid htot;obtain⟨T,hT⟩:∃ T,T=joinL [] (flatV V):=⟨_,rfl⟩
 rw[<- hT];have HT:=Lib.hid hT;clear hl hT htot;go_enter Tryz.func105,Tryz.ntmps105;go_wp2_with (fail);go_loopw [4,5] (fun s4 s5 wr=>∃ (i:Nat) (S:List Pt) (ao:Option Addr) (co:Nat),s5=.int .i64 i/\i<=n/\s4=.slice ao S.length co/\Hid (T=joinL S (flatV (V.drop i)))/\Hid (Up S/\Fine S)/\Hid (S.length<=(flatV (V.take i)).length)/\Hid (OP w.heap.size wr (.slice ao S.length co) S)/\Hid (Below w.heap.size w wr)) (fun _ s5 _=>n-(intOf s5).toNat)
 case atStart=>exact⟨0,[],none,0,rfl,by omega,rfl,HT,Lib.hid ⟨Up.nil,fun p hp=>by cases hp⟩,Lib.hid (by simp),Lib.hid (OP.nil _ _),Lib.hid (Below.refl _ _)⟩
 case round =>
  obtain⟨i,S,ao,co,rfl,hi,rfl,ht,hup,hSl,ho,hb⟩:=hrel;by_cases hin:i<n
  ·have hR2:=HR.out.below (hb.out.mono hB);obtain⟨b,o,rfl,hbB,hc⟩:=hR2.at_ (by omega);have g:=hc i hin;have hp:=hR2.each i hin;have hfd:=flatV_drop (V:=V) (i:=i) (by have:=Hln.out;omega);have hft:=flatV_take (V:=V) (i:=i) (by have:=Hln.out;omega);have hfl:=flatV_le V (i+1);clear hc hR2;have Hcell:=Lib.hid (fun (W:World) (hW:Below w.heap.size w W)=>by
    obtain⟨b',o',e',-,hc'⟩:=(HR.out.below (hW.mono hB)).at_ (show 0<c by omega)
    cases e'
    exact (⟨hc' i hin,(HR.out.below (hW.mono hB)).each i hin⟩:_/\_))
   generalize V.getD i default=pv at g hp hfd hft Hcell;obtain⟨pa,pn,pc,P⟩:=pv;simp only at g hp hfd hft Hcell;have hpl:=hp.len;have hple:=hp.le;have hpmx:=hp.mx;have Hpl:=Lib.hid hpl;have Hft:=Lib.hid hft;have Hfl:=Lib.hid hfl;rw[hfd] at ht;obtain⟨R,hR⟩:∃ R,R=flatV (V.drop (i+1)):=⟨_,rfl⟩
   rw[<- hR] at ht;have HRR:=Lib.hid hR;clear hR;clear hfd hft hfl hpl hp;go_wp2_with (fail);go_loopw [4,6] (fun s4 s6 wr=>∃ (k:Nat) (S:List Pt) (ao:Option Addr) (co:Nat),s6=.int .i64 k/\k<=pn/\s4=.slice ao S.length co/\Hid (T=joinL S (P.drop k++R))/\Hid (Up S/\Fine S)/\Hid (S.length<=(flatV (V.take i)).length+k)/\Hid (OP w.heap.size wr (.slice ao S.length co) S)/\Hid (Below w.heap.size w wr)) (fun _ s6 _=>pn-(intOf s6).toNat)
   case atStart=>exact⟨0,S,ao,co,rfl,by omega,rfl,ht,hup,hSl,ho,hb⟩
   case round =>
    clear ht hup hSl ho hb g;rename_i S0 ao0 co0;obtain⟨k,S,ao,co,rfl,hk,rfl,ht,hup,hSl,ho,hb⟩:=hrel;obtain⟨g,hp⟩:=Hcell.out wr hb.out;by_cases hkn:k<pn
    ·obtain⟨b2,o2,rfl,-,hc2⟩:=hp.at_ (by omega);obtain⟨g1,g2⟩:=hc2 k hkn;have hfin:=hp.fine.at_ (i:=k) (by have:=Hpl.out;omega);have hst:=joinL_step (S:=S) (P:=P) (R:=R) (k:=k) (by have:=Hpl.out;omega);generalize P.getD k default=p at g1 g2 hfin hst;obtain⟨x,q⟩:=p;simp only at g1 g2 hfin hst;rw[<- ht.out] at hst;have Hst:=Lib.hid hst;clear hc2 hst ht hp;have hb1:=hb.out.alloc hb.out.size (.cells #[encStr x,.int .i64 q] 74);have ho1:=ho.out.below ((Below.refl _ wr).alloc (Nat.le_refl _) (.cells #[encStr x,.int .i64 q] 74));obtain⟨m0,m1⟩:=box2 (Below.refl _ (wr.alloc (.cells #[encStr x,.int .i64 q] 74)));have hsz1:(wr.alloc (.cells #[encStr x,.int .i64 q] 74)).heap.size=wr.heap.size+1:=(by simp);go_wp2_with (fail);obtain⟨z,hz⟩:∃ z,z=wr.heap.size:=⟨_,rfl⟩
     rw[<- hz] at m0 m1 hsz1 ⊢;have hzb:w.heap.size<=z:=(by have:=hb.out.size;omega);generalize wr.alloc (.cells #[encStr x,.int .i64 q] 74)=W1 at hb1 ho1 m0 m1 hsz1 ⊢;have HB1:=Lib.hid hb1;have HO1:=Lib.hid ho1;have Hz1:=Lib.hid hsz1;clear hb1 ho1 hsz1 hz g1 g2 g hb ho;go_loopw [8] (fun s8 wx=>∃ at_:Nat,s8=.int .i64 at_/\at_<=S.length/\Hid (∀ j,j<at_->(S.getD j default).1<x)/\∃ qq,wx=W1.drewN qq) (fun s8 _=>S.length-(intOf s8).toNat)
     case atStart=>exact⟨0,rfl,by omega,Lib.hid (fun j hj=>by omega),0,rfl⟩
     case round =>
      obtain⟨at_,rfl,hat,hall,qq,rfl⟩:=hrel;have hSmall:S.length<=1048576:=by
       have h1:=hSl.out;have h2:=Hft.out;have h3:=Hfl.out;have h4:=Htot.out;have h5:=Hpl.out;rw[h2,List.length_append] at h3;omega
      have hsome:at_<S.length->∃ g,ao=some ⟨g,0,none⟩:=fun h=>by
       obtain⟨h1,⟨hv,h2⟩|⟨g,cap,cur,hv,-⟩⟩:=HO1.out
       ·omega
       ·cases hv;exact⟨g,rfl⟩
      by_cases hgo:at_<S.length/\(S.getD at_ default).1<x
      ·obtain⟨hlen,hlt⟩:=hgo;obtain⟨go_,rfl⟩:=hsome hlen;obtain⟨⟨c0,c1⟩,f0,f1⟩:=HO1.out.at_ hlen;have hcl:=HO1.out.some_len;obtain⟨-,hcl1,hcl2⟩:=hcl;have hless:Op.bytesLess (S.getD at_ default).1 x=true:=(by rw[less_iff];exact decide_eq_true hlt);have Hall2:=Lib.hid (show ∀ j,j<at_+1->(S.getD j default).1<x from fun j hj=>by
        rcases (show j<at_∨j=at_ by omega) with h|h
        ·exact hall.out j h
        ·rw[h];exact hlt)
       have hd:decide ((at_:Int)<(S.length:Int))=true:=decide_eq_true (by omega);generalize (S.getD at_ default).1=y at c0 hless;clear hlt hsome;go_wp2_with (fail);go_big_quiet (fail);go_wp2_with (fail);go_roundw
       case rel=>exact⟨at_+1,by go_num,by omega,Hall2,_,rfl⟩
       case measure=>simp[intOf];omega
      ·have Hgo:=Lib.hid hgo;have Hsome:=Lib.hid hsome;clear hgo hsome;go_upto_region 10 with (fail);go_cut [47] (fun t wx=>t=.bool false/\∃ q1,wx=W1.drewN q1)
       case first =>
        by_cases hlen:at_<S.length
        ·obtain⟨go_,rfl⟩:=Hsome.out hlen;obtain⟨⟨c0,c1⟩,f0,f1⟩:=HO1.out.at_ hlen;obtain⟨-,hcl1,hcl2⟩:=HO1.out.some_len;have hless:Op.bytesLess (S.getD at_ default).1 x=false:=(by rw[less_iff];exact decide_eq_false (fun h=>Hgo.out ⟨hlen,h⟩));have hd:decide ((at_:Int)<(S.length:Int))=true:=decide_eq_true (by omega);generalize (S.getD at_ default).1=y at c0 hless;go_big_quiet (fail);go_wp2_with (fail);go_meet;exact⟨rfl,_,World.drewN_drewN _ _ _⟩
        ·have hd:decide ((at_:Int)<(S.length:Int))=false:=decide_eq_false (by omega);go_big_quiet (fail);go_wp2_with (fail);go_meet;exact⟨rfl,_,World.drewN_drewN _ _ _⟩
       case rest =>
        obtain⟨rfl,q1,rfl⟩:=hcut;obtain⟨ins,hins⟩:∃ ins:Bool,ins=!(decide (at_<S.length) && decide ((S.getD at_ default).1=x)):=⟨_,rfl⟩
        have Hins:=Lib.hid hins;clear hins;go_upto_region 12 with (fail);go_cut [63] (fun t wx=>t=.bool ins/\∃ q2,wx=W1.drewN q2)
        case first =>
         by_cases hlen:at_<S.length
         ·obtain⟨go_,rfl⟩:=Hsome.out hlen;obtain⟨⟨c0,c1⟩,f0,f1⟩:=HO1.out.at_ hlen;obtain⟨-,hcl1,hcl2⟩:=HO1.out.some_len;have hne:((at_:Int) == (S.length:Int))=false:=(by simp;omega);by_cases hx:(S.getD at_ default).1=x
          ·have hi0:ins=false:=(by rw[Hins.out,decide_eq_true hlen,decide_eq_true hx];rfl);rw[hx] at c0;subst hi0;clear hx;go_big_quiet (fail);go_wp2_with (fail);go_meet;exact⟨rfl,_,World.drewN_drewN _ _ _⟩
          ·have hi0:ins=true:=(by rw[Hins.out,decide_eq_true hlen,decide_eq_false hx];rfl);have hxx:((S.getD at_ default).1 == x)=false:=(by simpa using hx);generalize (S.getD at_ default).1=y at c0 hx hxx;subst hi0;go_big_quiet (fail);go_wp2_with (fail);go_meet;exact⟨rfl,_,World.drewN_drewN _ _ _⟩
         ·have hi0:ins=true:=(by rw[Hins.out,decide_eq_false hlen];rfl);have hne:((at_:Int) == (S.length:Int))=true:=(by simp;omega);subst hi0;go_big_quiet (fail);go_wp2_with (fail);go_meet;exact⟨rfl,_,World.drewN_drewN _ _ _⟩
        case rest =>
         obtain⟨rfl,q2,rfl⟩:=hcut;go_upto_if 63 with (fail);have hb2:=HB1.out.trans (drewN_below W1 q2 w.heap.size);have ho2:=HO1.out.below (drewN_below W1 q2 _);have hz2:(W1.drewN q2).heap.size=z+1:=Hz1.out;have m2:(W1.drewN q2).cell? ⟨z,0,none⟩=some (encStr x):=m0;have m3:(W1.drewN q2).cell? ⟨z,1,none⟩=some (.int .i64 q):=m1;generalize W1.drewN q2=W2 at hb2 ho2 hz2 m2 m3 ⊢;have HB2:=Lib.hid hb2;have HO2:=Lib.hid ho2;have Hz2:=Lib.hid hz2;clear hb2 ho2 hz2 HB1 HO1 m0 m1 Hz1;go_cut [4,9] (fun s4 _ wx=>∃ (g1 c1:Nat) (S1:List Pt),s4=.slice (some ⟨g1,0,none⟩) S1.length c1/\Hid (OP w.heap.size wx (.slice (some ⟨g1,0,none⟩) S1.length c1) S1)/\Hid (at_<S1.length/\S1.getD at_ default=(x,sumAt S x)/\∀ m,S1.set at_ (x,m)=setAt S x m)/\Hid (S1.length<=S.length+1)/\Hid (Below (z+1) W2 wx))
         case first =>
          cases ins with
          | false =>
           have hc:=Hins.out;have hlx:at_<S.length/\(S.getD at_ default).1=x:=by
            have h1:(decide (at_<S.length) && decide ((S.getD at_ default).1=x))=true:=by
             cases hh:(decide (at_<S.length) && decide ((S.getD at_ default).1=x)) with
             | true=>rfl
             | false=>rw[hh] at hc;cases hc
            rw[Bool.and_eq_true,decide_eq_true_eq,decide_eq_true_eq] at h1;exact h1
           obtain⟨go_,rfl⟩:=Hsome.out hlx.1;have Hres:=Lib.hid (show at_<S.length/\S.getD at_ default=(x,sumAt S x)/\∀ m,S.set at_ (x,m)=setAt S x m from
            ⟨hlx.1,Prod.ext hlx.2 (setAt_found 0 hlx.1 hall.out hlx.2).2.symm,fun m=>(setAt_found m hlx.1 hall.out hlx.2).1.symm⟩)
           clear hc hlx;go_wp2_with (fail);go_meet;exact⟨go_,co,S,rfl,HO2,Hres,Lib.hid (Nat.le_succ _),Lib.hid (Below.refl _ _)⟩
          | true =>
           have hnf:at_<S.length->x<(S.getD at_ default).1:=fun h=>by
            have h1:¬ (S.getD at_ default).1<x:=fun h2=>Hgo.out ⟨h,h2⟩
            rcases lt_or h1 with h3|h3
            ·have hc:=Hins.out;rw[decide_eq_true h,decide_eq_true h3] at hc
             cases hc
            ·exact h3
           have hia:=ins_at S x at_ hat;have Hres:=Lib.hid (show at_<(S.take at_++[(x,0)]++S.drop at_).length/\(S.take at_++[(x,0)]++S.drop at_).getD at_ default=(x,sumAt S x)/\∀ m,(S.take at_++[(x,0)]++S.drop at_).set at_ (x,m)=setAt S x m from
            ⟨by rw[hia.1];omega,by rw[hia.2.1,(setAt_ins 0 hup.out.1 hat hall.out hnf).2],fun m=>by rw[hia.2.2 m,(setAt_ins m hup.out.1 hat hall.out hnf).1]⟩)
           have Hl1:=Lib.hid hia.1;clear hnf hia;obtain⟨ao',co',e',r⟩:=HO2.out.rp hup.out.2
           cases e'
           have Hr:=Lib.hid r;have hrl:=r.le;have hrm:=r.mx;clear r;have q5:(at_:Int)<=(S.length:Int):=(by omega);have q6:(S.length:Int)<=(co:Int):=(by omega);have q7:(0:Int)<=(at_:Int):=(by omega);have q8:(at_:Int)<=(co:Int):=(by omega);have Hb30:=Lib.hid (fun (w3:World) (hg3:(W2.alloc (.cells #[] 74)).grownBy w3 (some W2.heap.size))=>((Below.refl W2.heap.size W2).alloc (Nat.le_refl _) (.cells #[] 74)).grown hg3 (by simp) (fun k hk=>by cases hk;exact Nat.le_refl _));have hta:(S.take at_).length=at_:=(by rw[List.length_take];omega);have Hta:=Lib.hid hta;clear hta;rcases (show co=at_∨¬ co=at_ by omega) with hca|hca
           ·have e1:at_=S.length:=(by omega);have e2:co=S.length:=(by omega);subst e1;subst e2;have Hres2:=Lib.hid (show S.length<(S++[(x,0)]).length/\(S++[(x,0)]).getD S.length default=(x,sumAt S x)/\∀ m,(S++[(x,0)]).set S.length (x,m)=setAt S x m from by
             have:=Hres.out;rw[List.take_length,List.drop_length,List.append_nil] at this;exact this)
            cases ao with
            | none =>
             have hS0:S=[]:=by
              obtain⟨e1,⟨hv,h2⟩|⟨g,cap,cur,hv,-⟩⟩:=HO2.out
              ·exact List.eq_nil_of_length_eq_zero h2
              ·cases hv
             subst hS0;have Hres3:=Lib.hid (show 0<([]++[(x,0)]:List Pt).length/\([]++[(x,0)]:List Pt).getD 0 default=(x,sumAt [] x)/\∀ m,([]++[(x,0)]:List Pt).set 0 (x,m)=setAt [] x m from Hres2.out);clear Hres2 Hres;simp only[List.length_nil] at *;have hsrc1:0<([]:List Pt).length->∃ ad:Addr,(none:Option Addr)=some ad/\∀ j u,(cellsP [])[j]? = some u->(W2.alloc (.cells #[] 74)).cell? (ad.add j)=some u:=fun h=>by simp at h
             go_upto_region 14 with (at_builtin;go_loud (refine wpList_append_parts2 rfl _ _ rfl (z+1) W2.heap.size 0 0 [] [] rfl (OP.made (Nat.le_of_eq Hz2.out.symm)) _ _ _ rfl rfl hsrc1 (by have:=Hz2.out;simp;omega) (by simp) ?_;intro g3 c3 w3 hc3 ho3 hg3));have hb3:=Hb30.out w3 hg3;have n0:=(hb3.cell (p:=⟨z,0,none⟩) (by show z<W2.heap.size;have:=Hz2.out;omega)).trans m2;have HO3:=Lib.hid (show OP (z+1) w3 (.slice (some ⟨g3,0,none⟩) 0 c3) [] from by simpa using ho3);have Hb3:=Lib.hid hb3;have hk3:=(HO3.out.ge g3 rfl).1;have hk32:=(HO3.out.ge g3 rfl).2;clear ho3 hg3 hb3;go_upto_region 15 with (at_builtin;go_loud (refine wpList_append_parts2 rfl _ _ rfl (z+1) g3 0 c3 [] [(x,0)] rfl (HO3.out.below ((Below.refl _ w3).alloc (Nat.le_refl _) _)) _ 1 _ rfl rfl (fun _=>⟨_,rfl,one_part _ (x,0) _⟩) (by simp;omega) (by simp) ?_;intro g4 c4 w4 hc4 ho4 hg4));have HO4:=Lib.hid ho4;have Hb4:=Lib.hid (show Below W2.heap.size W2 w4 from (Hb3.out.alloc Hb3.out.size (.cells #[encStr x,.int .i64 0] 74)).grown hg4 (by have:=Hb3.out.size;simp;omega) (fun k hk=>by cases hk;have:=Hz2.out;omega));have hk4:=(HO4.out.ge g4 rfl).1;have hk42:=(HO4.out.ge g4 rfl).2;clear ho4 hg4 hsrc1;have hsrc3:0<([]:List Pt).length->∃ ad:Addr,(none:Option Addr)=some ad/\∀ j u,(cellsP [])[j]? = some u->w4.cell? (ad.add j)=some u:=fun h=>by simp at h
             go_wp2_with (at_builtin;go_loud (refine wpList_append_parts2 rfl _ _ rfl (z+1) g4 1 c4 [(x,0)] [] rfl HO4.out _ _ _ rfl rfl hsrc3 (by omega) (by simp) ?_;intro g5 c5 w5 hc5 ho5 hg5));have Hb5:=Lib.hid (show Below W2.heap.size W2 w5 from Hb4.out.grown hg5 (by have:=Hb4.out.size;omega) (fun k hk=>by cases hk;have:=Hz2.out;omega));go_meet;exact⟨g5,c5,[(x,0)],by simp,Lib.hid (by simpa using ho5.mono (by omega)),Hres3,Lib.hid (by simp),Lib.hid (by have h:=Hb5.out;rw[Hz2.out] at h;exact h)⟩
            | some ad =>
             obtain⟨g0,rfl⟩:∃ g,ad=⟨g,0,none⟩:=by
              obtain⟨e1,⟨hv,h2⟩|⟨g,cap,cur,hv,-⟩⟩:=HO2.out
              ·cases hv
              ·cases hv;exact⟨g,rfl⟩
             go_upto_region 14 with (at_builtin;refine wpList_append_parts2 rfl _ _ rfl (z+1) W2.heap.size 0 0 [] (S) rfl (OP.made (Nat.le_of_eq Hz2.out.symm)) _ _ _ rfl rfl (Hr.out.below ((Below.refl _ W2).alloc (Nat.le_refl _) _)).src (by have:=Hz2.out;simp;omega) (by simp;omega) ?_;intro g3 c3 w3 hc3 ho3 hg3);have hb3:=Hb30.out w3 hg3;have n0:=(hb3.cell (p:=⟨z,0,none⟩) (by show z<W2.heap.size;have:=Hz2.out;omega)).trans m2;have HO3:=Lib.hid (show OP (z+1) w3 (.slice (some ⟨g3,0,none⟩) S.length c3) (S) from by simpa using ho3);have Hb3:=Lib.hid hb3;have hk3:=(HO3.out.ge g3 rfl).1;have hk32:=(HO3.out.ge g3 rfl).2;clear ho3 hg3 hb3;go_upto_region 15 with (at_builtin;refine wpList_append_parts2 rfl _ _ rfl (z+1) g3 S.length c3 (S) [(x,0)] rfl (HO3.out.below ((Below.refl _ w3).alloc (Nat.le_refl _) _)) _ 1 _ rfl rfl (fun _=>⟨_,rfl,one_part _ (x,0) _⟩) (by simp;omega) (by simp;omega) ?_;intro g4 c4 w4 hc4 ho4 hg4);have HO4:=Lib.hid ho4;have Hb4:=Lib.hid (show Below W2.heap.size W2 w4 from (Hb3.out.alloc Hb3.out.size (.cells #[encStr x,.int .i64 0] 74)).grown hg4 (by have:=Hb3.out.size;simp;omega) (fun k hk=>by cases hk;have:=Hz2.out;omega));have hk4:=(HO4.out.ge g4 rfl).1;have hk42:=(HO4.out.ge g4 rfl).2;clear ho4 hg4;have hsrc3:0<([]:List Pt).length->∃ ad:Addr,(some ⟨g0,0,none⟩:Option Addr)=some ad/\∀ j u,(cellsP [])[j]? = some u->w4.cell? (ad.add j)=some u:=fun h=>by simp at h
             go_wp2_with (at_builtin;go_loud (refine wpList_append_parts2 rfl _ _ rfl (z+1) g4 (S.length+1) c4 (S++[(x,0)]) ([]) rfl HO4.out _ _ _ rfl (by simp) hsrc3 (by omega) (by simp;omega) ?_;intro g5 c5 w5 hc5 ho5 hg5));have Hb5:=Lib.hid (show Below W2.heap.size W2 w5 from Hb4.out.grown hg5 (by have:=Hb4.out.size;omega) (fun k hk=>by cases hk;have:=Hz2.out;omega));go_meet;exact⟨g5,c5,S++[(x,0)],by simp,Lib.hid (by simpa using ho5.mono (by omega)),Hres2,Lib.hid (by simp),Lib.hid (by have h:=Hb5.out;rw[Hz2.out] at h;exact h)⟩
           ·have hs2:∃ g,ao=some ⟨g,0,none⟩:=by
             rcases (show at_<S.length∨at_=S.length by omega) with h|h
             ·exact Hsome.out h
             ·obtain⟨e1,⟨hv,h2⟩|⟨g,cap,cur,hv,-⟩⟩:=HO2.out
              ·injection hv with e1 e2 e3;omega
              ·cases hv;exact⟨g,rfl⟩
            obtain⟨g0,rfl⟩:=hs2;go_upto_region 14 with (at_builtin;refine wpList_append_parts2 rfl _ _ rfl (z+1) W2.heap.size 0 0 [] (S.take at_) rfl (OP.made (Nat.le_of_eq Hz2.out.symm)) _ _ _ rfl Hta.out.symm ((Hr.out.take hat).below ((Below.refl _ W2).alloc (Nat.le_refl _) _)).src (by have:=Hz2.out;simp;omega) (by have:=Hta.out;simp;omega) ?_;intro g3 c3 w3 hc3 ho3 hg3);have hb3:=Hb30.out w3 hg3;have n0:=(hb3.cell (p:=⟨z,0,none⟩) (by show z<W2.heap.size;have:=Hz2.out;omega)).trans m2;have HO3:=Lib.hid (show OP (z+1) w3 (.slice (some ⟨g3,0,none⟩) at_ c3) (S.take at_) from by simpa using ho3);have Hb3:=Lib.hid hb3;have hk3:=(HO3.out.ge g3 rfl).1;have hk32:=(HO3.out.ge g3 rfl).2;clear ho3 hg3 hb3;go_upto_region 15 with (at_builtin;refine wpList_append_parts2 rfl _ _ rfl (z+1) g3 at_ c3 (S.take at_) [(x,0)] rfl (HO3.out.below ((Below.refl _ w3).alloc (Nat.le_refl _) _)) _ 1 _ rfl rfl (fun _=>⟨_,rfl,one_part _ (x,0) _⟩) (by simp;omega) (by have:=Hta.out;simp;omega) ?_;intro g4 c4 w4 hc4 ho4 hg4);have HO4:=Lib.hid ho4;have Hb4:=Lib.hid (show Below W2.heap.size W2 w4 from (Hb3.out.alloc Hb3.out.size (.cells #[encStr x,.int .i64 0] 74)).grown hg4 (by have:=Hb3.out.size;simp;omega) (fun k hk=>by cases hk;have:=Hz2.out;omega));have hk4:=(HO4.out.ge g4 rfl).1;have hk42:=(HO4.out.ge g4 rfl).2;clear ho4 hg4;have hsrc3:=((Hr.out.below Hb4.out).drop' hat).src;simp only[if_neg hca,Nat.zero_add] at hsrc3;go_wp2_with (at_builtin;go_loud (refine wpList_append_parts2 rfl _ _ rfl (z+1) g4 (at_+1) c4 (S.take at_++[(x,0)]) (S.drop at_) rfl HO4.out _ _ _ rfl (by rw[List.length_drop]) hsrc3 (by omega) (by have:=Hta.out;simp;omega) ?_;intro g5 c5 w5 hc5 ho5 hg5));have Hb5:=Lib.hid (show Below W2.heap.size W2 w5 from Hb4.out.grown hg5 (by have:=Hb4.out.size;omega) (fun k hk=>by cases hk;have:=Hz2.out;omega));go_meet;exact⟨g5,c5,S.take at_++[(x,0)]++S.drop at_,by rw[Hl1.out,show at_+1+(S.length-at_)=S.length+1 by omega],Lib.hid (by rw[Hl1.out,show S.length+1=at_+1+(S.length-at_) by omega];exact ho5.mono (by omega)),Hres,Lib.hid (by rw[Hl1.out];exact Nat.le_refl _),Lib.hid (by have h:=Hb5.out;rw[Hz2.out] at h;exact h)⟩
         case rest =>
          obtain⟨g1,c1,S1,rfl,ho3,hres,hl3,hb3⟩:=hcut;obtain⟨⟨d0,d1⟩,f0,f1⟩:=ho3.out.at_ hres.out.1;rw[hres.out.2.1] at d0 d1;simp only at d0 d1;obtain⟨-,hs3,hs4⟩:=ho3.out.some_len;have n0:=(hb3.out.cell (p:=⟨z,0,none⟩) (by show z<z+1;omega)).trans m2;have n1:=(hb3.out.cell (p:=⟨z,1,none⟩) (by show z<z+1;omega)).trans m3;have hal:at_<S1.length:=hres.out.1;have hsum:=okA_iff.1 (hup.out.1.sum_ok x);have hadd:=fun W=>rAdd_any (sumAt S x) q W (by omega) hfin.2
          have Hb9:=Lib.hid (HB2.out.trans (hb3.out.mono (by omega)));obtain⟨A,hA⟩:∃ A,A=addA (sumAt S x) q:=⟨_,rfl⟩
          rw[<- hA] at hadd Hst;obtain⟨sv,hsv⟩:∃ sv,sv=sumAt S x:=⟨_,rfl⟩
          rw[<- hsv] at hadd d1 hsum;have Hsv:=Lib.hid hsv;clear hsv m2 m3
          cases A with
          | none =>
           simp only[ansV,Option.isSome_none] at hadd;clear hA;go_wp2_with (fail);go_big_quiet ((go_at_call 140;exact (hadd _).mono fun _ _ h=>⟨h.1,_,h.2.symm⟩));go_wp2_with (fail);go_ret2;rw[Hst.out];exact⟨Hb9.out.trans (drewN_below _ _ _),rfl⟩
          | some m =>
           simp only[ansV,Option.isSome_some] at hadd;have hm:=okA_iff.1 (addA_some hA.symm).2.2.1;have Hm:=Lib.hid (addA_some hA.symm);clear hA;go_wp2_with (fail);go_big_quiet ((go_at_call 140;exact (hadd _).mono fun _ _ h=>⟨h.1,_,h.2.symm⟩));have hx3:(S1.getD at_ default).1=x:=(by rw[hres.out.2.1]);have Hb10:=Lib.hid (fun (nq:Nat)=>(Hb9.out.trans (drewN_below _ nq w.heap.size)).setCell (p:=⟨g1,at_*2+1,none⟩) (show w.heap.size<=g1 by have:=(ho3.out.ge g1 rfl).1;omega) (.int .i64 m));have Hset:Hid (S1.set at_ (x,m)=setAt S x m):=Lib.hid (hres.out.2.2 m);have Ho10:=Lib.hid (fun (nq:Nat)=>by
            have h:=(ho3.out.below (drewN_below _ nq _)).setQ hal hx3 m;rw[Hset.out] at h;exact h)
           have Hfs:Hid (Fine (setAt S x m)):=Lib.hid fun p hp=>by
            rcases mem_setAt hp with rfl|hp
            ·exact⟨hfin.1,by omega,by omega⟩
            ·exact hup.out.2 p hp
           have Hls:Hid ((setAt S x m).length<=(flatV (V.take i)).length+(k+1)):=Lib.hid (by
            have h1:=setAt_len S x m;have h2:=hSl.out;omega)
           go_wp2_with (fail);go_roundw
           case rel =>
            exact⟨k+1,setAt S x m,some ⟨g1,0,none⟩,c1,by go_num,by omega,by rw[<- Hset.out,List.length_set],Lib.hid Hst.out,Lib.hid ⟨hup.out.1.set x Hm.out.2.2.1,Hfs.out⟩,Hls,Lib.hid (by rw[show (setAt S x m).length=S1.length by rw[<- Hset.out,List.length_set]];exact Ho10.out _),Lib.hid (Hb10.out _)⟩
           case measure=>simp[intOf];omega
    ·have ek:k=P.length:=(by have:=Hpl.out;omega);have ht2:=Lib.hid (show T=joinL S (flatV (V.drop (i+1))) by rw[ht.out,ek,List.drop_length,List.nil_append,HRR.out]);have hsl2:=Lib.hid (show S.length<=(flatV (V.take (i+1))).length by have:=hSl.out;rw[Hft.out,List.length_append];omega);go_wp2_with (fail);go_roundw
     case rel=>exact⟨i+1,S,ao,co,by go_num,by omega,rfl,ht2,hup,hsl2,ho,hb⟩
     case measure=>simp[intOf];omega
  ·have ei:i=V.length:=by have:=Hln.out;omega
   have hfin:T=some S:=by rw[ht.out,ei,List.drop_length];rfl
   have Hfin:=Lib.hid hfin;clear hfin ht ei;go_wp2_with (fail);go_ret2;rw[Hfin.out];exact⟨hb.out,ao,co,rfl,ho.out⟩
end Go.Proofs.YtgplnekpgdhcpaaGreat
