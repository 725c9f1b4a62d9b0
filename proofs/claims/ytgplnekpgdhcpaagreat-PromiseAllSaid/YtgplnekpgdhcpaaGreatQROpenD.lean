/-  -/
import Derived.Test.YtgplnekpgdhcpaaGreatQRRow
import Derived.Test.YtgplnekpgdhcpaaGreatKMark
import Derived.Test.YtgplnekpgdhcpaaGreatQBridge
namespace Go.Proofs.YtgplnekpgdhcpaaGreat
open Go.RowKit Go.Sort Go.Lib Go.Shelf
theorem add_zeroL (g k:Nat):(⟨g,0,none⟩:Addr).add k=⟨g,k,none⟩:=by unfold Addr.add;split<;>simp_all
theorem own_nil_or {base:Nat} {w:World} {va:Option Addr} {vn vc:Nat} {X:List LineV} (h:lineE.Own base w (.slice va vn vc) X):(va=none/\vn=0/\vc=0/\X=[])∨∃ g,va=some ⟨g,0,none⟩:=by
 obtain⟨h1,⟨h2,h3⟩|⟨g,cap,cur,hv,-⟩⟩:=h
 ·injection h2 with e1 e2 e3
  exact .inl ⟨e1,e2,e3,List.eq_nil_of_length_eq_zero h3⟩
 ·injection hv with e1 e2 e3
  exact .inr ⟨g,e1⟩
theorem keep_succ {N:List LineV} {j:Nat} (hj:j<N.length):(N.take (j+1)).filter keepR=(N.take j).filter keepR++(if (N.getD j default).st=1 then [N.getD j default] else []):=by
 rw[List.take_succ_eq_append_getElem hj,List.filter_append,List.getD_eq_getElem?_getD,List.getElem?_eq_getElem hj];simp only[Option.getD_some,List.filter_cons,List.filter_nil,keepR,decide_eq_true_eq]
def RoP (w:World) (N:List LineV) (e:Ending) (w':World):Prop:=(∃ a c Y,e=.returned (.slice a Y.length c)/\lineE.Own w.heap.size w' (.slice a Y.length c) Y/\Y.Perm (N.filter keepR)/\Y.Pairwise fun a b=>leK a b=true)/\Below w.heap.size w w'
set_option maxHeartbeats 8000000 in
set_option maxRecDepth 100000 in
theorem rOpen_any (B:Nat) (a:Option Addr) (n c:Nat) (N:List LineV) (w:World) (h:lineE.In B w a n c N) (hB:B<=w.heap.size) (hn:n<=10000000) :
  Calls Tryz.prog 48 #[.slice a n c] w fun e w'=>RoP w N e w':=by
 have hle:=h.le;have hmx:=h.mx;have Hln:=Lib.hid h.len;have H:=Lib.hid h;clear h;go_enter Tryz.func48,Tryz.ntmps48;go_wp2_with (fail);go_loopw [3,4] (fun s3 s4 wr=>∃ (i:Nat) (va:Option Addr) (vn vc:Nat) (O:List LineV),s3=.slice va vn vc/\s4=.int .i64 i/\i<=n/\vn<=i/\Hid (vn=O.length)/\Hid (lineE.Own w.heap.size wr (.slice va vn vc) O)/\Hid (O.Perm ((N.take i).filter keepR)/\O.Pairwise fun a b=>leK a b=true)/\Hid (Below w.heap.size w wr)) (fun _ s4 _=>n-(intOf s4).toNat)
 case atStart=>exact⟨0,none,0,0,[],rfl,rfl,Nat.zero_le _,Nat.le_refl _,Lib.hid rfl,Lib.hid (El.Own.nil _ _ _),Lib.hid ⟨by simp,List.Pairwise.nil⟩,Lib.hid (Below.refl _ _)⟩
 case round =>
  obtain⟨i,va,vn,vc,O,rfl,rfl,hi,hvi,HL,HO,HS,Hb⟩:=hrel;obtain⟨wo,rfl⟩:∃ z,z=wr:=⟨_,rfl⟩
  by_cases hlt:i<n
  ·obtain⟨b,o,rfl,hbB,hc⟩:=lineE_at (H.out.below (Hb.out.mono hB)) (by omega);obtain⟨g0,g1,g2,g3,g4,g5,g6,g7⟩:=hc i hlt;have Hsucc:=Lib.hid (keep_succ (N:=N) (j:=i) (by have:=Hln.out;omega));have HOK:Hid (∀ x∈O,okLine x):=Lib.hid (fun x hx=>H.out.fine x (List.mem_of_mem_take (List.mem_filter.1 (HS.out.1.mem_iff.1 hx)).1));clear hc;obtain⟨X0,hX0⟩:∃ x,x=N.getD i default:=⟨_,rfl⟩
   rw[<- hX0] at g0 g1 g2 g3 g4 g5 g6 g7 Hsucc;clear hX0;obtain⟨id,item,qty,asked,rank,st,day,code⟩:=X0;simp only at g0 g1 g2 g3 g4 g5 g6 g7 Hsucc;simp only[encStr] at g1 g7;have hbW:b<w.heap.size:=Nat.lt_of_lt_of_le hbB hB;have hwo:=Hb.out.size;by_cases hs:st=1
   ·subst hs;have HS2:Hid ((N.take (i+1)).filter keepR=(N.take i).filter keepR++[⟨id,item,qty,asked,rank,1,day,code⟩]):=Lib.hid (by rw[Hsucc.out,if_pos rfl]);clear Hsucc;rcases own_nil_or HO.out with ⟨rfl,rfl,rfl,rfl⟩|⟨g,rfl⟩
    ·have HC:Hid (∀ k,0<=k->k<([]:List LineV).length->cmpR ⟨id,item,qty,asked,rank,1,day,code⟩ (([]:List LineV).getD k default)<0):=Lib.hid (fun k _ h=>absurd h (Nat.not_lt_zero _));have HZ:Hid ((0:Nat)=0∨¬ cmpR ⟨id,item,qty,asked,rank,1,day,code⟩ (([]:List LineV).getD (0-1) default)<0):=Lib.hid (.inl rfl);have HINS:=Lib.hid (ins_sorted (x:=⟨id,item,qty,asked,rank,1,day,code⟩) (p:=0) HS.out.2 (Nat.zero_le _) HC.out HZ.out);have HPRM:=Lib.hid (ins_perm (x:=⟨id,item,qty,asked,rank,1,day,code⟩) (p:=0) HS.out.1);clear HC HZ;go_wp2_with (fail);go_loopw [5] (fun s5 wi=>s5=.int .i64 0/\Hid (Below wo.heap.size wo wi)) (fun _ _=>0)
     case atStart=>exact⟨rfl,Lib.hid (Below.refl _ _)⟩
     case round =>
      obtain⟨rfl,Hbi⟩:=hrel;have hgt:¬ ((0:Int) > 0):=(by decide);go_upto_region 7 with (fail);refine wp_region_below wr (by kernel_rfl) (by kernel_rfl) (Below.refl _ _) ?_
      repeat (go_big_quiet_step (fail))
      refine wpQuiet_nil ?_;intro _ hw';obtain⟨y,hw''⟩:=hw';subst hw''
      skip
      have Hbi2:=Lib.hid (Hbi.out.trans (y.h.mono Hbi.out.size));clear Hbi;obtain⟨wi,hwi⟩:∃ z,z=y.v:=⟨_,rfl⟩
      rw[<- hwi] at Hbi2 ⊢;clear hwi;have Hbi:=Hbi2;have hsz:=Hbi.out.size;have HB0:=Lib.hid (Hb.out.trans (Hbi.out.mono Hb.out.size));have HTK:Hid ((([]:List LineV).take (0)).length=0/\(([]:List LineV).drop (0)).length=0/\0<=10000000):=Lib.hid ⟨by rw[List.length_take];have:=HL.out;simp,by rw[List.length_drop];have:=HL.out;simp,by omega⟩;have HCL:Hid (∀ V,Below wi.heap.size wi V->V.cell? ⟨b,o+i*8,none⟩=some (.int .i64 id)/\V.cell? ⟨b,o+i*8+1,none⟩=some (.string ⟨item.toArray⟩)/\V.cell? ⟨b,o+i*8+2,none⟩=some (.int .i64 qty)/\V.cell? ⟨b,o+i*8+3,none⟩=some (.int .i64 asked)/\V.cell? ⟨b,o+i*8+4,none⟩=some (.int .i64 rank)/\V.cell? ⟨b,o+i*8+5,none⟩=some (.int .u8 1)/\V.cell? ⟨b,o+i*8+6,none⟩=some (.int .i64 day)/\V.cell? ⟨b,o+i*8+7,none⟩=some (.string ⟨code.toArray⟩)):=Lib.hid fun V hb=>by
       have hq:=Hbi.out.trans (hb.mono Hbi.out.size);refine⟨?_,?_,?_,?_,?_,?_,?_,?_⟩
       ·exact (hq.cell (p:=⟨b,o+i*8,none⟩) (by show b<_;omega)).trans g0
       ·exact (hq.cell (p:=⟨b,o+i*8+1,none⟩) (by show b<_;omega)).trans g1
       ·exact (hq.cell (p:=⟨b,o+i*8+2,none⟩) (by show b<_;omega)).trans g2
       ·exact (hq.cell (p:=⟨b,o+i*8+3,none⟩) (by show b<_;omega)).trans g3
       ·exact (hq.cell (p:=⟨b,o+i*8+4,none⟩) (by show b<_;omega)).trans g4
       ·exact (hq.cell (p:=⟨b,o+i*8+5,none⟩) (by show b<_;omega)).trans g5
       ·exact (hq.cell (p:=⟨b,o+i*8+6,none⟩) (by show b<_;omega)).trans g6
       ·exact (hq.cell (p:=⟨b,o+i*8+7,none⟩) (by show b<_;omega)).trans g7
      have hl0:Hid (lineE.Own wi.heap.size (wi.alloc (.cells #[] 29)) (.slice (some ⟨wi.heap.size,0,none⟩) 0 0) []):=Lib.hid (World.ownsRow_lit (e:=29) (size:=lineE.k) wi #[] 0 (Nat.le_refl _) (Nat.zero_le _) (by simp));have hbl:=Lib.hid (below_allocL wi (.cells #[] 29));have HIN:Hid (∀ V,Below wi.heap.size wi V->lineE.In V.heap.size V none 0 0 (([]:List LineV).take 0)/\lineE.In V.heap.size V none 0 0 (([]:List LineV).drop 0)):=Lib.hid fun V hb=>⟨El.In.nil _ _,El.In.nil _ _⟩
      clear g0 g1 g2 g3 g4 g5 g6 g7;go_upto_region 10 with (at_builtin;refine wpList_appendN lineE rfl _ _ rfl wi.heap.size (some ⟨wi.heap.size,0,none⟩) 0 0 [] (([]:List LineV).take (0)) (0) HTK.out.1.symm rfl rfl hl0.out none 0 rfl (HIN.out _ hbl.out).1.src hbl.out.size (by have:=HTK.out.2.2;omega) ?_;intro a1 c1 w1 ho1 hb1;have O1:Hid (lineE.Own wi.heap.size w1 (.slice a1 (0+(0)) c1) (([]:List LineV).take (0))):=Lib.hid ho1;have B1:=Lib.hid (hbl.out.trans hb1);obtain⟨m0,m1,m2,m3,m4,m5,m6,m7⟩:=HCL.out w1 (hbl.out.trans hb1);clear ho1 hb1)
      skip
      skip
      have OA:Hid (lineE.Own wi.heap.size (w1.alloc (.cells #[.int .i64 id,.string ⟨item.toArray⟩,.int .i64 qty,.int .i64 asked,.int .i64 rank,.int .u8 1,.int .i64 day,.string ⟨code.toArray⟩] 29)) (.slice a1 (0) c1) (([]:List LineV).take (0))):=Lib.hid (O1.out.below (below_allocL _ _));have BA:Hid (Below wi.heap.size wi (w1.alloc (.cells #[.int .i64 id,.string ⟨item.toArray⟩,.int .i64 qty,.int .i64 asked,.int .i64 rank,.int .u8 1,.int .i64 day,.string ⟨code.toArray⟩] 29))):=Lib.hid (B1.out.trans ((below_allocL _ _).mono B1.out.size));go_upto_region 11 with (at_builtin;refine El.wpList_append1 lineE rfl _ _ rfl wi.heap.size (.slice a1 (0) c1) (([]:List LineV).take (0)) ⟨id,item,qty,asked,rank,1,day,code⟩ (0+1) (by rw[HTK.out.1]) rfl OA.out _ 1 rfl (lineE_lit _ ⟨id,item,qty,asked,rank,1,day,code⟩ _) BA.out.size (by rw[HTK.out.1];have:=HTK.out.2.2;omega) ?_;intro g2 c2 w2 ho2 hg2 hgg2;have O2:=Lib.hid ho2;have B2:=Lib.hid (BA.out.grown hg2 BA.out.size (fun k e=>(OA.out.ge k e).1));clear ho2 hg2 hgg2);go_wp2_with (at_builtin;refine wpList_appendN lineE rfl _ _ rfl wi.heap.size (some ⟨g2,0,none⟩) (0+1) c2 (([]:List LineV).take (0)++[⟨id,item,qty,asked,rank,1,day,code⟩]) (([]:List LineV).drop (0)) 0 HTK.out.2.1.symm (by rw[List.length_append,HTK.out.1];rfl) rfl O2.out none 0 rfl (HIN.out _ B2.out).2.src B2.out.size (by have:=HTK.out.2.2;omega) ?_;intro a3 c3 w3 ho3 hb3;have O3:=Lib.hid ho3;have B3:=Lib.hid (B2.out.trans hb3);clear ho3 hb3);go_roundw
      case rel =>
       refine⟨i+1,a3,_,c3,([]:List LineV).take (0)++[⟨id,item,qty,asked,rank,1,day,code⟩]++([]:List LineV).drop (0),rfl,by go_num,by omega,by omega,Lib.hid ?_,Lib.hid (O3.out.mono HB0.out.size),Lib.hid ⟨by rw[HS2.out];exact HPRM.out,HINS.out⟩,Lib.hid (HB0.out.trans (B3.out.mono HB0.out.size))⟩;rw[List.length_append,List.length_append,HTK.out.1,HTK.out.2.1];rfl
      case measure=>simp[intOf];omega
    ·obtain⟨-,hvle,hvmx,hgb,hgl,hown⟩:=HO.out.cell;have HOW:=Lib.hid hown;clear hown;have HCM:=Lib.hid (fun (y:LineV) (V:World)=>rCompare_any ⟨id,item,qty,asked,rank,1,day,code⟩ y V);go_wp2_with (fail);go_loopw [5] (fun s5 wi=>∃ p:Nat,s5=.int .i64 p/\p<=vn/\Hid (∀ k,p<=k->k<O.length->cmpR ⟨id,item,qty,asked,rank,1,day,code⟩ (O.getD k default)<0)/\Hid (Below wo.heap.size wo wi)) (fun s5 _=>(intOf s5).toNat)
     case atStart=>exact⟨vn,rfl,Nat.le_refl _,Lib.hid (fun k h1 h2=>by have:=HL.out;omega),Lib.hid (Below.refl _ _)⟩
     case round =>
      obtain⟨p,rfl,hp,HC,Hbi⟩:=hrel;by_cases hp0:0<p
      ·obtain⟨q,rfl⟩:∃ q,p=q+1:=⟨p-1,by omega⟩
       have hwbi:=Hbi.out.size;have c0:=HOW.out q (by omega) 0 (by decide);have c1:=HOW.out q (by omega) 1 (by decide);have c2:=HOW.out q (by omega) 2 (by decide);have c3:=HOW.out q (by omega) 3 (by decide);have c4:=HOW.out q (by omega) 4 (by decide);have c5:=HOW.out q (by omega) 5 (by decide);have c6:=HOW.out q (by omega) 6 (by decide);have c7:=HOW.out q (by omega) 7 (by decide);have HGQ:Hid (O.getD (q+1-1) default=O.getD q default):=Lib.hid (by rw[Nat.add_sub_cancel]);have HCMq:=Lib.hid (HCM.out (O.getD q default));obtain⟨Y,hY⟩:∃ y,y=O.getD q default:=⟨_,rfl⟩
       have HY:=Lib.hid hY;rw[<- hY] at c0 c1 c2 c3 c4 c5 c6 c7 HCMq HGQ;clear hY;obtain⟨y1,y2,y3,y4,y5,y6,y7,y8⟩:=Y;unfold LineV.val encStr at HCMq;simp only at HCMq;simp only[show lineE.k=8 from rfl] at c0 c1 c2 c3 c4 c5 c6 c7;have f0:∀ y:BelowW wr,y.v.cell? ⟨b,o+i*8,none⟩=some (.int .i64 id):=fun y=>((Hbi.out.trans (y.h.mono hwbi)).cell (p:=⟨b,o+i*8,none⟩) (by show b<_;omega)).trans g0
       have f1:∀ y:BelowW wr,y.v.cell? ⟨b,o+i*8+1,none⟩=some (.string ⟨item.toArray⟩):=fun y=>((Hbi.out.trans (y.h.mono hwbi)).cell (p:=⟨b,o+i*8+1,none⟩) (by show b<_;omega)).trans g1
       have f2:∀ y:BelowW wr,y.v.cell? ⟨b,o+i*8+2,none⟩=some (.int .i64 qty):=fun y=>((Hbi.out.trans (y.h.mono hwbi)).cell (p:=⟨b,o+i*8+2,none⟩) (by show b<_;omega)).trans g2
       have f3:∀ y:BelowW wr,y.v.cell? ⟨b,o+i*8+3,none⟩=some (.int .i64 asked):=fun y=>((Hbi.out.trans (y.h.mono hwbi)).cell (p:=⟨b,o+i*8+3,none⟩) (by show b<_;omega)).trans g3
       have f4:∀ y:BelowW wr,y.v.cell? ⟨b,o+i*8+4,none⟩=some (.int .i64 rank):=fun y=>((Hbi.out.trans (y.h.mono hwbi)).cell (p:=⟨b,o+i*8+4,none⟩) (by show b<_;omega)).trans g4
       have f5:∀ y:BelowW wr,y.v.cell? ⟨b,o+i*8+5,none⟩=some (.int .u8 1):=fun y=>((Hbi.out.trans (y.h.mono hwbi)).cell (p:=⟨b,o+i*8+5,none⟩) (by show b<_;omega)).trans g5
       have f6:∀ y:BelowW wr,y.v.cell? ⟨b,o+i*8+6,none⟩=some (.int .i64 day):=fun y=>((Hbi.out.trans (y.h.mono hwbi)).cell (p:=⟨b,o+i*8+6,none⟩) (by show b<_;omega)).trans g6
       have f7:∀ y:BelowW wr,y.v.cell? ⟨b,o+i*8+7,none⟩=some (.string ⟨code.toArray⟩):=fun y=>((Hbi.out.trans (y.h.mono hwbi)).cell (p:=⟨b,o+i*8+7,none⟩) (by show b<_;omega)).trans g7
       have e0:∀ y:BelowW wr,y.v.cell? ⟨g,q*8,none⟩=some (.int .i64 y1):=fun y=>((Hbi.out.trans (y.h.mono hwbi)).cell (p:=⟨g,q*8,none⟩) (by show g<_;omega)).trans c0
       have e1:∀ y:BelowW wr,y.v.cell? ⟨g,q*8+1,none⟩=some (.string ⟨y2.toArray⟩):=fun y=>((Hbi.out.trans (y.h.mono hwbi)).cell (p:=⟨g,q*8+1,none⟩) (by show g<_;omega)).trans c1
       have e2:∀ y:BelowW wr,y.v.cell? ⟨g,q*8+2,none⟩=some (.int .i64 y3):=fun y=>((Hbi.out.trans (y.h.mono hwbi)).cell (p:=⟨g,q*8+2,none⟩) (by show g<_;omega)).trans c2
       have e3:∀ y:BelowW wr,y.v.cell? ⟨g,q*8+3,none⟩=some (.int .i64 y4):=fun y=>((Hbi.out.trans (y.h.mono hwbi)).cell (p:=⟨g,q*8+3,none⟩) (by show g<_;omega)).trans c3
       have e4:∀ y:BelowW wr,y.v.cell? ⟨g,q*8+4,none⟩=some (.int .i64 y5):=fun y=>((Hbi.out.trans (y.h.mono hwbi)).cell (p:=⟨g,q*8+4,none⟩) (by show g<_;omega)).trans c4
       have e5:∀ y:BelowW wr,y.v.cell? ⟨g,q*8+5,none⟩=some (.int .u8 y6):=fun y=>((Hbi.out.trans (y.h.mono hwbi)).cell (p:=⟨g,q*8+5,none⟩) (by show g<_;omega)).trans c5
       have e6:∀ y:BelowW wr,y.v.cell? ⟨g,q*8+6,none⟩=some (.int .i64 y7):=fun y=>((Hbi.out.trans (y.h.mono hwbi)).cell (p:=⟨g,q*8+6,none⟩) (by show g<_;omega)).trans c6
       have e7:∀ y:BelowW wr,y.v.cell? ⟨g,q*8+7,none⟩=some (.string ⟨y8.toArray⟩):=fun y=>((Hbi.out.trans (y.h.mono hwbi)).cell (p:=⟨g,q*8+7,none⟩) (by show g<_;omega)).trans c7
       have hq1:IntKind.i64.wrap ((q:Int)+1-1)=(q:Int):=(by rw[wrap_in (by omega) (by omega)];omega);have hq2:(q:Int)+1 > 0:=(by omega);have hq3:(0:Int)<=(q:Int):=(by omega);have hq4:(q:Int)<(vn:Int):=(by omega);have hi0:(0:Int)<=(i:Int):=(by omega);have hi1:(i:Int)<(n:Int):=(by omega);clear c0 c1 c2 c3 c4 c5 c6 c7;have HSG:=Lib.hid (show cmpR ⟨id,item,qty,asked,rank,1,day,code⟩ (O.getD q default)=cmpR ⟨id,item,qty,asked,rank,1,day,code⟩ ⟨y1,y2,y3,y4,y5,y6,y7,y8⟩ by rw[HY.out]);obtain⟨sg,hsg⟩:∃ s,s=cmpR ⟨id,item,qty,asked,rank,1,day,code⟩ ⟨y1,y2,y3,y4,y5,y6,y7,y8⟩:=⟨_,rfl⟩
       rw[<- hsg] at HCMq HSG;clear hsg;by_cases hneg:sg<0
       ·have HC2:Hid (∀ k,q<=k->k<O.length->cmpR ⟨id,item,qty,asked,rank,1,day,code⟩ (O.getD k default)<0):=Lib.hid (fun k h1 h2=>by
         by_cases e:k=q
         ·rw[e,HSG.out];exact hneg
         ·exact HC.out k (by omega) h2)
        go_upto_region 7 with (fail);refine wp_region_below wr (by kernel_rfl) (by kernel_rfl) (Below.refl _ _) ?_
        repeat (go_big_quiet_step ((go_at_call 79;exact below_call (HCMq.out _))))
        refine wpQuiet_nil ?_;intro _ hw';obtain⟨y,hw''⟩:=hw';subst hw'';clear f0 f1 f2 f3 f4 f5 f6 f7 e0 e1 e2 e3 e4 e5 e6 e7;go_wp2_with (fail);go_roundw
        case rel=>exact⟨q,by go_num,by omega,HC2,Lib.hid (Hbi.out.trans (y.h.mono Hbi.out.size))⟩
        case measure=>simp[intOf];try omega
       ·have HZ:Hid (q+1=0∨¬ cmpR ⟨id,item,qty,asked,rank,1,day,code⟩ (O.getD (q+1-1) default)<0):=Lib.hid (.inr (by rw[Nat.add_sub_cancel,HSG.out];exact hneg));have HINS:=Lib.hid (ins_sorted (x:=⟨id,item,qty,asked,rank,1,day,code⟩) (p:=q+1) HS.out.2 (by have:=HL.out;omega) HC.out HZ.out);have HPRM:=Lib.hid (ins_perm (x:=⟨id,item,qty,asked,rank,1,day,code⟩) (p:=q+1) HS.out.1);clear HC HZ;go_upto_region 7 with (fail);refine wp_region_below wr (by kernel_rfl) (by kernel_rfl) (Below.refl _ _) ?_
        repeat (go_big_quiet_step ((go_at_call 79;exact below_call (HCMq.out _))))
        refine wpQuiet_nil ?_;intro _ hw';obtain⟨y,hw''⟩:=hw';subst hw'';clear f0 f1 f2 f3 f4 f5 f6 f7 e0 e1 e2 e3 e4 e5 e6 e7;have Hbi2:=Lib.hid (Hbi.out.trans (y.h.mono Hbi.out.size));clear Hbi;obtain⟨wi,hwi⟩:∃ z,z=y.v:=⟨_,rfl⟩
        rw[<- hwi] at Hbi2 ⊢;clear hwi;have Hbi:=Hbi2;have hsz:=Hbi.out.size;have HB0:=Lib.hid (Hb.out.trans (Hbi.out.mono Hb.out.size));have HTK:Hid ((O.take (q+1)).length=q+1/\(O.drop (q+1)).length=(vn-(q+1))/\vn<=10000000):=Lib.hid ⟨by rw[List.length_take];have:=HL.out;omega,by rw[List.length_drop];have:=HL.out;omega,by omega⟩;have HCL:Hid (∀ V,Below wi.heap.size wi V->V.cell? ⟨b,o+i*8,none⟩=some (.int .i64 id)/\V.cell? ⟨b,o+i*8+1,none⟩=some (.string ⟨item.toArray⟩)/\V.cell? ⟨b,o+i*8+2,none⟩=some (.int .i64 qty)/\V.cell? ⟨b,o+i*8+3,none⟩=some (.int .i64 asked)/\V.cell? ⟨b,o+i*8+4,none⟩=some (.int .i64 rank)/\V.cell? ⟨b,o+i*8+5,none⟩=some (.int .u8 1)/\V.cell? ⟨b,o+i*8+6,none⟩=some (.int .i64 day)/\V.cell? ⟨b,o+i*8+7,none⟩=some (.string ⟨code.toArray⟩)):=Lib.hid fun V hb=>by
         have hq:=Hbi.out.trans (hb.mono Hbi.out.size);refine⟨?_,?_,?_,?_,?_,?_,?_,?_⟩
         ·exact (hq.cell (p:=⟨b,o+i*8,none⟩) (by show b<_;omega)).trans g0
         ·exact (hq.cell (p:=⟨b,o+i*8+1,none⟩) (by show b<_;omega)).trans g1
         ·exact (hq.cell (p:=⟨b,o+i*8+2,none⟩) (by show b<_;omega)).trans g2
         ·exact (hq.cell (p:=⟨b,o+i*8+3,none⟩) (by show b<_;omega)).trans g3
         ·exact (hq.cell (p:=⟨b,o+i*8+4,none⟩) (by show b<_;omega)).trans g4
         ·exact (hq.cell (p:=⟨b,o+i*8+5,none⟩) (by show b<_;omega)).trans g5
         ·exact (hq.cell (p:=⟨b,o+i*8+6,none⟩) (by show b<_;omega)).trans g6
         ·exact (hq.cell (p:=⟨b,o+i*8+7,none⟩) (by show b<_;omega)).trans g7
        have hl0:Hid (lineE.Own wi.heap.size (wi.alloc (.cells #[] 29)) (.slice (some ⟨wi.heap.size,0,none⟩) 0 0) []):=Lib.hid (World.ownsRow_lit (e:=29) (size:=lineE.k) wi #[] 0 (Nat.le_refl _) (Nat.zero_le _) (by simp));have hbl:=Lib.hid (below_allocL wi (.cells #[] 29));have HIN:Hid (∀ V,Below wi.heap.size wi V->lineE.In V.heap.size V (some ⟨g,0,none⟩) (q+1) vc (O.take (q+1))/\lineE.In V.heap.size V (if vc=q+1 then some ⟨g,0,none⟩ else some ((⟨g,0,none⟩:Addr).add ((q+1)*8))) (vn-(q+1)) (vc-(q+1)) (O.drop (q+1))):=Lib.hid fun V hb=>by
         have hOV:=HO.out.below (Hbi.out.trans (hb.mono Hbi.out.size));obtain⟨a9,c9,e9,hin⟩:=hOV.in_ HOK.out;injection e9 with e1 e2 e3
         subst e1;subst e3;rw[<- HL.out] at hin;exact⟨hin.take (q+1) (by omega),hin.sliced (q+1) (by omega) (by omega)⟩
        clear g0 g1 g2 g3 g4 g5 g6 g7;go_upto_region 10 with (at_builtin;refine wpList_appendN lineE rfl _ _ rfl wi.heap.size (some ⟨wi.heap.size,0,none⟩) 0 0 [] (O.take (q+1)) (q+1) HTK.out.1.symm rfl rfl hl0.out (some ⟨g,0,none⟩) vc rfl (HIN.out _ hbl.out).1.src hbl.out.size (by have:=HTK.out.2.2;omega) ?_;intro a1 c1 w1 ho1 hb1;have O1:Hid (lineE.Own wi.heap.size w1 (.slice a1 (0+(q+1)) c1) (O.take (q+1))):=Lib.hid ho1;have B1:=Lib.hid (hbl.out.trans hb1);obtain⟨m0,m1,m2,m3,m4,m5,m6,m7⟩:=HCL.out w1 (hbl.out.trans hb1);clear ho1 hb1);rw[Nat.zero_add] at O1
        try rw[Nat.zero_add]
        have OA:Hid (lineE.Own wi.heap.size (w1.alloc (.cells #[.int .i64 id,.string ⟨item.toArray⟩,.int .i64 qty,.int .i64 asked,.int .i64 rank,.int .u8 1,.int .i64 day,.string ⟨code.toArray⟩] 29)) (.slice a1 (q+1) c1) (O.take (q+1))):=Lib.hid (O1.out.below (below_allocL _ _));have BA:Hid (Below wi.heap.size wi (w1.alloc (.cells #[.int .i64 id,.string ⟨item.toArray⟩,.int .i64 qty,.int .i64 asked,.int .i64 rank,.int .u8 1,.int .i64 day,.string ⟨code.toArray⟩] 29))):=Lib.hid (B1.out.trans ((below_allocL _ _).mono B1.out.size));go_upto_region 11 with (at_builtin;refine El.wpList_append1 lineE rfl _ _ rfl wi.heap.size (.slice a1 (q+1) c1) (O.take (q+1)) ⟨id,item,qty,asked,rank,1,day,code⟩ (q+1+1) (by rw[HTK.out.1]) rfl OA.out _ 1 rfl (lineE_lit _ ⟨id,item,qty,asked,rank,1,day,code⟩ _) BA.out.size (by rw[HTK.out.1];have:=HTK.out.2.2;omega) ?_;intro g2 c2 w2 ho2 hg2 hgg2;have O2:=Lib.hid ho2;have B2:=Lib.hid (BA.out.grown hg2 BA.out.size (fun k e=>(OA.out.ge k e).1));clear ho2 hg2 hgg2);by_cases hvc:vc=q+1
        ·have hvn:vn=q+1:=(by omega);subst hvc;subst hvn;have HD0:Hid ((O.drop (q+1)).length=0):=Lib.hid (by have:=HTK.out.2.1;omega);go_wp2_with (at_builtin;refine wpList_appendN lineE rfl _ _ rfl wi.heap.size (some ⟨g2,0,none⟩) (q+1+1) c2 (O.take (q+1)++[⟨id,item,qty,asked,rank,1,day,code⟩]) (O.drop (q+1)) 0 HD0.out.symm (by rw[List.length_append,HTK.out.1];rfl) rfl O2.out (some ⟨g,0,none⟩) 0 rfl (fun h=>absurd HD0.out (by omega)) B2.out.size (by have:=HTK.out.2.2;omega) ?_;intro a3 c3 w3 ho3 hb3;have O3:=Lib.hid ho3;have B3:=Lib.hid (B2.out.trans hb3);clear ho3 hb3);go_roundw
         case rel =>
          refine⟨i+1,a3,_,c3,O.take (q+1)++[⟨id,item,qty,asked,rank,1,day,code⟩]++O.drop (q+1),rfl,by go_num,by omega,by omega,Lib.hid ?_,Lib.hid (O3.out.mono HB0.out.size),Lib.hid ⟨by rw[HS2.out];exact HPRM.out,HINS.out⟩,Lib.hid (HB0.out.trans (B3.out.mono HB0.out.size))⟩;rw[List.length_append,List.length_append,HTK.out.1,HD0.out];rfl
         case measure=>simp[intOf];omega
        ·skip
         go_wp2_with (at_builtin;refine wpList_appendN lineE rfl _ _ rfl wi.heap.size (some ⟨g2,0,none⟩) (q+1+1) c2 (O.take (q+1)++[⟨id,item,qty,asked,rank,1,day,code⟩]) (O.drop (q+1)) (vn-(q+1)) HTK.out.2.1.symm (by rw[List.length_append,HTK.out.1];rfl) rfl O2.out (some ⟨g,(q+1)*8,none⟩) (vc-(q+1)) rfl (by have h:=(HIN.out _ B2.out).2;rw[if_neg hvc,add_zeroL] at h;exact h.src) B2.out.size (by have:=HTK.out.2.2;omega) ?_;intro a3 c3 w3 ho3 hb3;have O3:=Lib.hid ho3;have B3:=Lib.hid (B2.out.trans hb3);clear ho3 hb3);go_roundw
         case rel =>
          refine⟨i+1,a3,_,c3,O.take (q+1)++[⟨id,item,qty,asked,rank,1,day,code⟩]++O.drop (q+1),rfl,by go_num,by omega,by omega,Lib.hid ?_,Lib.hid (O3.out.mono HB0.out.size),Lib.hid ⟨by rw[HS2.out];exact HPRM.out,HINS.out⟩,Lib.hid (HB0.out.trans (B3.out.mono HB0.out.size))⟩;rw[List.length_append,List.length_append,HTK.out.1,HTK.out.2.1];rfl
         case measure=>simp[intOf];omega
      ·obtain rfl:p=0:=by omega
       have HZ:Hid ((0:Nat)=0∨¬ cmpR ⟨id,item,qty,asked,rank,1,day,code⟩ (O.getD (0-1) default)<0):=Lib.hid (.inl rfl);have HINS:=Lib.hid (ins_sorted (x:=⟨id,item,qty,asked,rank,1,day,code⟩) (p:=0) HS.out.2 (Nat.zero_le _) HC.out HZ.out);have HPRM:=Lib.hid (ins_perm (x:=⟨id,item,qty,asked,rank,1,day,code⟩) (p:=0) HS.out.1);clear HC HZ;have hgt:¬ ((0:Int) > 0):=(by decide);go_upto_region 7 with (fail);refine wp_region_below wr (by kernel_rfl) (by kernel_rfl) (Below.refl _ _) ?_
       repeat (go_big_quiet_step (fail))
       refine wpQuiet_nil ?_;intro _ hw';obtain⟨y,hw''⟩:=hw';subst hw''
       skip
       have Hbi2:=Lib.hid (Hbi.out.trans (y.h.mono Hbi.out.size));clear Hbi;obtain⟨wi,hwi⟩:∃ z,z=y.v:=⟨_,rfl⟩
       rw[<- hwi] at Hbi2 ⊢;clear hwi;have Hbi:=Hbi2;have hsz:=Hbi.out.size;have HB0:=Lib.hid (Hb.out.trans (Hbi.out.mono Hb.out.size));have HTK:Hid ((O.take (0)).length=0/\(O.drop (0)).length=vn/\vn<=10000000):=Lib.hid ⟨by rw[List.length_take];have:=HL.out;omega,by rw[List.length_drop];have:=HL.out;omega,by omega⟩;have HCL:Hid (∀ V,Below wi.heap.size wi V->V.cell? ⟨b,o+i*8,none⟩=some (.int .i64 id)/\V.cell? ⟨b,o+i*8+1,none⟩=some (.string ⟨item.toArray⟩)/\V.cell? ⟨b,o+i*8+2,none⟩=some (.int .i64 qty)/\V.cell? ⟨b,o+i*8+3,none⟩=some (.int .i64 asked)/\V.cell? ⟨b,o+i*8+4,none⟩=some (.int .i64 rank)/\V.cell? ⟨b,o+i*8+5,none⟩=some (.int .u8 1)/\V.cell? ⟨b,o+i*8+6,none⟩=some (.int .i64 day)/\V.cell? ⟨b,o+i*8+7,none⟩=some (.string ⟨code.toArray⟩)):=Lib.hid fun V hb=>by
        have hq:=Hbi.out.trans (hb.mono Hbi.out.size);refine⟨?_,?_,?_,?_,?_,?_,?_,?_⟩
        ·exact (hq.cell (p:=⟨b,o+i*8,none⟩) (by show b<_;omega)).trans g0
        ·exact (hq.cell (p:=⟨b,o+i*8+1,none⟩) (by show b<_;omega)).trans g1
        ·exact (hq.cell (p:=⟨b,o+i*8+2,none⟩) (by show b<_;omega)).trans g2
        ·exact (hq.cell (p:=⟨b,o+i*8+3,none⟩) (by show b<_;omega)).trans g3
        ·exact (hq.cell (p:=⟨b,o+i*8+4,none⟩) (by show b<_;omega)).trans g4
        ·exact (hq.cell (p:=⟨b,o+i*8+5,none⟩) (by show b<_;omega)).trans g5
        ·exact (hq.cell (p:=⟨b,o+i*8+6,none⟩) (by show b<_;omega)).trans g6
        ·exact (hq.cell (p:=⟨b,o+i*8+7,none⟩) (by show b<_;omega)).trans g7
       have hl0:Hid (lineE.Own wi.heap.size (wi.alloc (.cells #[] 29)) (.slice (some ⟨wi.heap.size,0,none⟩) 0 0) []):=Lib.hid (World.ownsRow_lit (e:=29) (size:=lineE.k) wi #[] 0 (Nat.le_refl _) (Nat.zero_le _) (by simp));have hbl:=Lib.hid (below_allocL wi (.cells #[] 29));have HIN:Hid (∀ V,Below wi.heap.size wi V->lineE.In V.heap.size V (some ⟨g,0,none⟩) (0) vc (O.take (0))/\lineE.In V.heap.size V (some ⟨g,0,none⟩) vn vc (O.drop (0))):=Lib.hid fun V hb=>by
        have hOV:=HO.out.below (Hbi.out.trans (hb.mono Hbi.out.size));obtain⟨a9,c9,e9,hin⟩:=hOV.in_ HOK.out;injection e9 with e1 e2 e3
        subst e1;subst e3;rw[<- HL.out] at hin;exact⟨hin.take 0 (by omega),hin⟩
       clear g0 g1 g2 g3 g4 g5 g6 g7;go_upto_region 10 with (at_builtin;refine wpList_appendN lineE rfl _ _ rfl wi.heap.size (some ⟨wi.heap.size,0,none⟩) 0 0 [] (O.take (0)) (0) HTK.out.1.symm rfl rfl hl0.out (some ⟨g,0,none⟩) vc rfl (HIN.out _ hbl.out).1.src hbl.out.size (by have:=HTK.out.2.2;omega) ?_;intro a1 c1 w1 ho1 hb1;have O1:Hid (lineE.Own wi.heap.size w1 (.slice a1 (0+(0)) c1) (O.take (0))):=Lib.hid ho1;have B1:=Lib.hid (hbl.out.trans hb1);obtain⟨m0,m1,m2,m3,m4,m5,m6,m7⟩:=HCL.out w1 (hbl.out.trans hb1);clear ho1 hb1)
       skip
       skip
       have OA:Hid (lineE.Own wi.heap.size (w1.alloc (.cells #[.int .i64 id,.string ⟨item.toArray⟩,.int .i64 qty,.int .i64 asked,.int .i64 rank,.int .u8 1,.int .i64 day,.string ⟨code.toArray⟩] 29)) (.slice a1 (0) c1) (O.take (0))):=Lib.hid (O1.out.below (below_allocL _ _));have BA:Hid (Below wi.heap.size wi (w1.alloc (.cells #[.int .i64 id,.string ⟨item.toArray⟩,.int .i64 qty,.int .i64 asked,.int .i64 rank,.int .u8 1,.int .i64 day,.string ⟨code.toArray⟩] 29))):=Lib.hid (B1.out.trans ((below_allocL _ _).mono B1.out.size));go_upto_region 11 with (at_builtin;refine El.wpList_append1 lineE rfl _ _ rfl wi.heap.size (.slice a1 (0) c1) (O.take (0)) ⟨id,item,qty,asked,rank,1,day,code⟩ (0+1) (by rw[HTK.out.1]) rfl OA.out _ 1 rfl (lineE_lit _ ⟨id,item,qty,asked,rank,1,day,code⟩ _) BA.out.size (by rw[HTK.out.1];have:=HTK.out.2.2;omega) ?_;intro g2 c2 w2 ho2 hg2 hgg2;have O2:=Lib.hid ho2;have B2:=Lib.hid (BA.out.grown hg2 BA.out.size (fun k e=>(OA.out.ge k e).1));clear ho2 hg2 hgg2);go_wp2_with (at_builtin;refine wpList_appendN lineE rfl _ _ rfl wi.heap.size (some ⟨g2,0,none⟩) (0+1) c2 (O.take (0)++[⟨id,item,qty,asked,rank,1,day,code⟩]) (O.drop (0)) vn HTK.out.2.1.symm (by rw[List.length_append,HTK.out.1];rfl) rfl O2.out (some ⟨g,0,none⟩) vc rfl (HIN.out _ B2.out).2.src B2.out.size (by have:=HTK.out.2.2;omega) ?_;intro a3 c3 w3 ho3 hb3;have O3:=Lib.hid ho3;have B3:=Lib.hid (B2.out.trans hb3);clear ho3 hb3);go_roundw
       case rel =>
        refine⟨i+1,a3,_,c3,O.take (0)++[⟨id,item,qty,asked,rank,1,day,code⟩]++O.drop (0),rfl,by go_num,by omega,by omega,Lib.hid ?_,Lib.hid (O3.out.mono HB0.out.size),Lib.hid ⟨by rw[HS2.out];exact HPRM.out,HINS.out⟩,Lib.hid (HB0.out.trans (B3.out.mono HB0.out.size))⟩;rw[List.length_append,List.length_append,HTK.out.1,HTK.out.2.1];rfl
       case measure=>simp[intOf];omega
   ·have HS2:Hid ((N.take (i+1)).filter keepR=(N.take i).filter keepR):=Lib.hid (by rw[Hsucc.out,if_neg hs,List.append_nil]);clear Hsucc;go_wp2_with (fail);go_roundw
    case rel=>exact⟨i+1,va,vn,vc,O,by first|rfl|trivial,by go_num,by omega,by omega,HL,HO,Lib.hid (by rw[HS2.out];exact HS.out),Hb⟩
    case measure=>simp[intOf];omega
  ·have ei:N.take i=N:=List.take_of_length_le (by have:=Hln.out;omega);have HE:=Lib.hid ei;clear ei;go_wp2_with (fail);go_ret;have h1:=HO.out;have h2:=HS.out;have h3:=HL.out;rw[HE.out] at h2;subst h3;exact⟨⟨_,_,O,rfl,h1,h2.1,h2.2⟩,Hb.out⟩
end Go.Proofs.YtgplnekpgdhcpaaGreat
