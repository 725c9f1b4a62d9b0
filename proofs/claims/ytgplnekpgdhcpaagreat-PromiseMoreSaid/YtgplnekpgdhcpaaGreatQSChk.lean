/- swap.Check: it ends and leaves all as it was, whatever it says. -/
import Derived.Test.YtgplnekpgdhcpaaGreatQLineOk
import Derived.Test.YtgplnekpgdhcpaaGreatKChkOne
import Derived.Test.YtgplnekpgdhcpaaGreatJShelf
import Derived.Sort.OwnSorted
import Derived.Deep.RegionHeld
namespace Go.Proofs.YtgplnekpgdhcpaaGreat
open Go.RowKit Go.Shelf Go.Sort
theorem txE_map (X:List (List UInt8)):txE.cells X=X.map encStr:=List.map_eq_flatMap.symm
theorem txE_row {base g n c:Nat} {w:World} {X:List (List UInt8)} (h:txE.Own base w (.slice (some ⟨g,0,none⟩) n c) X):w.ownsRow base 9 1 (.slice (some ⟨g,0,none⟩) n c) n (X.map encStr):=by
 obtain⟨hn,-⟩:=h.cell
 subst hn
 have h1:w.ownsRow base 9 1 (.slice (some ⟨g,0,none⟩) X.length c) X.length (txE.cells X):=h
 rwa [txE_map] at h1
theorem txE_own {base g n c:Nat} {w:World} {X:List (List UInt8)} (hn:n=X.length) (h:w.ownsRow base 9 1 (.slice (some ⟨g,0,none⟩) n c) n (X.map encStr)):txE.Own base w (.slice (some ⟨g,0,none⟩) n c) X:=by
 subst hn
 show w.ownsRow base 9 1 (.slice (some ⟨g,0,none⟩) X.length c) X.length (txE.cells X)
 rwa [txE_map]
theorem txE_holds {base g n c:Nat} {w:World} {X:List (List UInt8)} (h:txE.Own base w (.slice (some ⟨g,0,none⟩) n c) X):Holds encStr w g 0 X.toArray:=by
 obtain⟨hn,hle,hmx,-,hlt,hc⟩:=h.cell
 have hr:=txE_row h
 rcases hr.2 with ⟨h0,-⟩ | ⟨g',cap',cur,hv,-,hb,-,-,-,ht⟩
 ·cases h0
 ·obtain⟨e1,-,-⟩:=Value.slice.inj hv
  injection e1 with e1
  injection e1 with e1
  subst e1
  subst hn
  exact holds_of_block hb (by rw[Nat.mul_one] at ht;exact ht)
theorem compact_length_leS (zs:List (List UInt8)):(Lib.compact zs).length<=zs.length:=by
 unfold Lib.compact Lib.compactUpTo
 rw[List.length_map]
 exact Nat.le_trans (List.length_filter_le _ _) (by simp)
theorem sortTx_any (base g n c:Nat) (S:List (List UInt8)) (w:World) (h:txE.Own base w (.slice (some ⟨g,0,none⟩) n c) S) (hn:n<=4000000000000000000) :
  Calls Tryz.prog 86 #[.slice (some ⟨g,0,none⟩) n c] w fun e w'=>e = .returned (.tuple #[])/\∃ Z,txE.Own base w' (.slice (some ⟨g,0,none⟩) n c) Z/\w.grownBy w' (some g):=by
 have hr:=txE_row h
 have hH:=txE_holds h
 obtain⟨hl,hle,hmx,hbase,hlt,-⟩:=h.cell
 subst hl
 refine (Tryz.slices_Sort_string g 0 c S w hH hlt (by omega)).mono ?_
 rintro e w' ⟨rfl,nn,os,rfl⟩
 refine⟨rfl,S.mergeSort fun x y=>decide (x<=y),?_,grownBy_sorted _⟩
 rcases hr.2 with ⟨h0,-⟩ | ⟨g',cap',cur,hv,-,hb,h1,h2,h3,-⟩
 ·cases h0
 ·obtain⟨e1,-,e3⟩:=Value.slice.inj hv
  injection e1 with e1
  injection e1 with e1
  subst e1
  subst e3
  exact txE_own (by rw[List.length_mergeSort]) (ownsRow_sorted (by rw[List.length_mergeSort]) hbase hb h1 h2 h3)
theorem compactTx_any (base g n c:Nat) (S:List (List UInt8)) (w:World) (h:txE.Own base w (.slice (some ⟨g,0,none⟩) n c) S) :
  Calls Tryz.prog 87 #[.slice (some ⟨g,0,none⟩) n c] w fun e w'=>(∃ m,m<=n/\e = .returned (.slice (some ⟨g,0,none⟩) m c))/\w.grownBy w' (some g):=by
 have hH:=txE_holds h
 obtain⟨hl,hle,hmx,hbase,hlt,-⟩:=h.cell
 subst hl
 refine (Tryz.slices_Compact_string g 0 c S w hH (by omega) hle).mono ?_
 rintro e w' ⟨rfl,q,rfl⟩
 refine⟨⟨_,compact_length_leS S,rfl⟩,⟨rfl,rfl,rfl,by simp[putRow,mapBlock,Go.Sort.ahead],fun k hk hne=>?_⟩⟩
 have:g≠k:=fun e=>hne (by rw[e])
 simp[putRow,mapBlock,Go.Sort.ahead,Array.getElem?_modify,this]
def GBy (w w':World) (g:Nat):Prop:=w.grownBy w' (some g)
theorem gby_drew (w:World) (g:Nat):GBy w w.drew g:=⟨rfl,rfl,rfl,Nat.le_refl _,fun _ _ _=>rfl⟩
set_option maxHeartbeats 8000000 in
set_option maxRecDepth 100000 in
theorem swapCheck_any (B:Nat) (a:Option Addr) (n cp:Nat) (X:List It) (w:World) (hr:RI B w a n cp X) (hB:B<=w.heap.size) (hsz:∀ x∈X,x.os.length * 16<=140737488355328) :
  Calls Tryz.prog 51 #[.slice a n cp] w fun e w'=>(∃ v,e = .returned (.int .i64 v))/\Below w.heap.size w w':=by
 have hle:=hr.le
 have hmx:=hr.mx
 have hmk:=@run_makeMap Tryz.prog
 have HC:=Lib.hid (Check_any B a n cp X w hr hB)
 have HLN:=Lib.hid hr.len
 have HR:=Lib.hid (hr.mono hB)
 have HSZ:=Lib.hid hsz
 by_cases h60:60 < X.length
 ·have hv:=chk_long h60
  rw[hv] at HC
  clear hr hsz hv
  go_enter Tryz.func51,Tryz.ntmps51
  go_wp2_with (go_at_call 50;refine HC.out.mono ?_;rintro e w1 ⟨rfl,hb1⟩;have B1:=Lib.hid hb1;clear hb1)
  go_ret
  exact⟨⟨_,rfl⟩,B1.out⟩
 ·by_cases hc0:chkE X=0
  ·have hn60:n<=60:=by rw[HLN.out];omega
   rw[hc0] at HC
   clear hr hsz hc0 h60
   go_enter Tryz.func51,Tryz.ntmps51
   go_wp2_with (go_at_call 50;refine HC.out.mono ?_;rintro e w1 ⟨rfl,hb1⟩;have B1:=Lib.hid hb1;clear hb1)
   have hM0:=Lib.hid (MF.made w1 (.int .i64 0))
   have hB0:Hid (Below w.heap.size w (w1.alloc (.map #[] 0))):=Lib.hid (B1.out.alloc B1.out.size _)
   obtain⟨mb,hmb⟩:∃ m,m=w1.heap.size:=⟨_,rfl⟩
   rw[<- hmb] at hM0 ⊢
   have hmw:Hid (w.heap.size<=mb):=Lib.hid (by rw[hmb];exact B1.out.size)
   clear hmb
   go_loopw [20] (fun s20 wr=>∃ j:Nat,s20 = .int .i64 j/\j<=n/\Hid (∃ f:List UInt8->Nat,MF wr mb j (.int .i64 0) (fun s=>.int .i64 (f s:Int))/\∀ s,f s<=j)/\Hid (Below w.heap.size w wr)) (fun s20 _=>n - (intOf s20).toNat)
   case atStart=>exact⟨0,rfl,Nat.zero_le _,Lib.hid ⟨fun _=>0,hM0.out,fun _=>Nat.le_refl _⟩,hB0⟩
   case round =>
    obtain⟨j,rfl,hj,HM,Hb⟩:=hrel
    clear hM0 hB0
    by_cases hlt:j < n
    ·obtain⟨b,o,rfl,hbB,hok1,c0,c1,c2,c3⟩:=(HR.out.below Hb.out).item hlt
     have HOK:=Lib.hid hok1
     have hsj:=HSZ.out _ (getD_mem (by rw[<- HLN.out];exact hlt:j < X.length))
     clear hok1
     obtain⟨x,hx⟩:∃ x,x=X.getD j default:=⟨_,rfl⟩
     rw[<- hx] at c0 c1 c2 c3 HOK hsj
     clear hx
     obtain⟨f,hf,hfl⟩:=HM.out
     obtain⟨W1,hW1⟩:∃ V,V=wr.alloc (.cells #[encStr x.code,.int .i64 x.life,.slice x.pa x.ps.length x.pc,.slice x.oa x.os.length x.oc] 87):=⟨_,rfl⟩
     have bW1:Below wr.heap.size wr W1:=by rw[hW1];exact (Below.refl _ wr).alloc (Nat.le_refl _) _
     have hpc:W1.heap[wr.heap.size]? = some (.cells #[encStr x.code,.int .i64 x.life,.slice x.pa x.ps.length x.pc,.slice x.oa x.os.length x.oc] 87):=by rw[hW1];exact heap_alloc_new wr _
     obtain⟨q0,q1,q2,q3⟩:=four_at hpc
     have M1:=Lib.hid (hf.below bW1 hf.lt)
     have HB1:=Lib.hid (Hb.out.trans (bW1.mono Hb.out.size))
     have hgw:=Lib.hid hf.lt
     have HFL:=Lib.hid hfl
     have HT:=Lib.hid (RT.el HOK.out.rt)
     have HW1:=Lib.hid hW1
     have hp1:Hid (wr.heap.size < W1.heap.size):=Lib.hid (Array.getElem?_eq_some_iff.1 hpc).1
     have HSJ:=Lib.hid hsj
     obtain⟨k,hk⟩:∃ k,k=f x.code:=⟨_,rfl⟩
     have lk:(Instr.lookup 113 (.map (some mb)) (.string ⟨x.code.toArray⟩) false).run Tryz.prog W1 = .ok (.int .i64 (k:Int)) W1:=by
      rw[hk]
      exact M1.out.look Tryz.underlying113 (zeroInt _) x.code HOK.out.code
     have HK:=Lib.hid hk
     have hk60:k<=60:=by rw[hk];have:=hfl x.code;omega
     have fk:IntKind.i64.wrap ((k:Int)+1)=((k+1:Nat):Int):=by rw[wrap_in (by omega) (by omega)];omega
     obtain⟨p,hp⟩:∃ p,p=wr.heap.size:=⟨_,rfl⟩
     rw[<- hp] at q0 q1 q2 q3 hp1 hgw
     obtain⟨m,hm⟩:∃ m,m=x.os.length+1:=⟨_,rfl⟩
     have HMM:=Lib.hid hm
     have HROW:=Lib.hid (fun (V:World) (hb:Below wr.heap.size wr V)=>row_any w.heap.size x.oa x.os.length x.oc x.os x.code V (HT.out.below (hb.mono Hb.out.size)) (Nat.le_trans Hb.out.size hb.size) HOK.out.code hsj)
     rw[<- hm] at HROW
     have HBW:=Lib.hid (bW1.trans (Below.refl _ _))
     have hm1:Hid (1<=m/\m<=4000000000000000000):=Lib.hid (by omega)
     unfold encStr at c0 q0 HW1
     have HP:=Lib.hid hp
     clear hf bW1 hW1 hpc hk hfl hm hsj HM
     go_upto_region 8 with (fail)
     rw[<- HW1.out,<- HP.out]
     clear hp c0 c1 c2 c3
     go_upto_region 11 with (first | (at_mapUpdate;refine wpList_put_mf rfl _ _ _ 113 rfl Tryz.underlying113 M1.out (by omega) x.code (.int .i64 ((k+1:Nat):Int)) rfl rfl rfl HOK.out.code (by intro e;injection e with _ e;omega) ?_;intro w2 hM2 hg2;have M2:=Lib.hid hM2;have z0:=hg2.cell q0 (by intro e;injection e with e;have:=hgw.out;simp only at e;omega);have z3:=hg2.cell q3 (by intro e;injection e with e;have:=hgw.out;simp only at e;omega);have hs2:=Lib.hid (Nat.lt_of_lt_of_le hp1.out hg2.size);have B2:=Lib.hid (HB1.out.grown hg2 HB1.out.size (fun r e=>by have:=Option.some.inj e;have:=hmw.out;omega));have BM2:Hid (Below mb wr w2):=Lib.hid ((HBW.out.mono (Nat.le_of_lt (by have:=hgw.out;have:=HP.out;omega))).grown hg2 (by have:=hgw.out;have:=hp1.out;omega) (fun r e=>by have:=Option.some.inj e;omega));have HR2:=Lib.hid (row_any w.heap.size x.oa x.os.length x.oc x.os x.code w2 (HT.out.below (BM2.out.mono hmw.out)) B2.out.size HOK.out.code HSJ.out);rw[<- HMM.out] at HR2;clear hM2 hg2 lk) | (go_at_call 56;refine HR2.out.mono ?_;rintro e w3 ⟨a3,d3,rfl,ho3,hb3⟩;obtain⟨g,rfl⟩:∃ g,a3=some ⟨g,0,none⟩:=(by obtain⟨a7,c7,e7,-,-,hg⟩:=ho3.form;obtain⟨g,hg⟩:=hg (by simp);exact⟨g,(Value.slice.inj e7).1.trans hg⟩);have O3:=Lib.hid ho3;have y3:=(hb3.cell (p:=⟨p,3,none⟩) hs2.out).trans z3;have M3:=Lib.hid (M2.out.below hb3 M2.out.lt);have B3:=Lib.hid (B2.out.trans (hb3.mono B2.out.size));have L3:=Lib.hid (Nat.lt_of_lt_of_le hs2.out hb3.size);clear ho3 hb3) | (go_at_call 86;refine (sortTx_any _ _ _ _ _ _ O3.out hm1.out.2).mono ?_;rintro e w4 ⟨rfl,Z,hz4,hg4⟩;have O4:=Lib.hid hz4;have hgp:=Lib.hid (O3.out.ge g rfl).1;have x3:=hg4.cell y3 (by intro e;injection e with e;have:=hgp.out;have:=hs2.out;simp only at e;omega);have M4:=Lib.hid (M3.out.kept hg4 (by intro e;injection e with e;have:=hgp.out;have:=M2.out.lt;omega));have B4:=Lib.hid (B3.out.grown hg4 B3.out.size (fun r e=>by have:=Option.some.inj e;have:=hgp.out;have:=B2.out.size;omega));have L4:=Lib.hid (Nat.lt_of_lt_of_le L3.out hg4.size);clear hz4 hg4))
     have hsm:(m<=d3/\d3<=9223372036854775807):=by obtain⟨-,q8,q9,-⟩:=O4.out.cell;exact⟨q8,q9⟩
     have HF2:Hid (∃ f':List UInt8->Nat,MF w4 mb (j+1) (.int .i64 0) (fun s=>.int .i64 (f' s:Int))/\∀ s,f' s<=j+1):=Lib.hid ⟨fun s=>if s=x.code then k+1 else f s,by
      have:=M4.out
      have e:(fun s=>Value.int .i64 (((if s=x.code then k+1 else f s:Nat)):Int))=setO (fun s=>Value.int .i64 (f s:Int)) x.code (.int .i64 ((k+1:Nat):Int)):=by
       funext s
       unfold setO
       split <;> rfl
      rw[e]
      exact this,fun s=>by
      have:=HFL.out s
      have:=HFL.out x.code
      have:=HK.out
      show (if s=x.code then k+1 else f s)<=j+1
      split <;> omega⟩
     clear q0 q1 q2 q3 z0 z3 y3
     have HBwr:=Lib.hid B4.out
     by_cases hm5:5 < m
     ·have t5:decide ((5:Int) < (m:Int))=true:=by simp;omega
      clear hm5
      refine wp_region_below w4 (by kernel_rfl) (by kernel_rfl) (Below.refl _ _) ?_
      repeat (go_big_quiet_step (fail))
      refine wpQuiet_nil ?_
      intro _ hw'
      obtain⟨y1,hw''⟩:=hw'
      subst hw''
      go_wp2_with (fail)
      go_ret
      exact⟨⟨_,rfl⟩,B4.out.trans (y1.h.mono B4.out.size)⟩
     ·have t5:decide ((5:Int) < (m:Int))=false:=by simp;omega
      have fm:IntKind.i64.wrap (1+(x.os.length:Int))=(m:Int):=by rw[wrap_in (by omega) (by have:=HMM.out;omega)];have:=HMM.out;omega
      have HCT:=Lib.hid (compactTx_any w.heap.size g m d3 Z w4.drew (O4.out.mono B2.out.size).drew)
      have hgw4:Hid (w.heap.size<=g/\p < g):=Lib.hid ⟨by have:=hgp.out;have:=B2.out.size;omega,by have:=hgp.out;have:=hs2.out;omega⟩
      clear hm5
      go_upto_region 11 with (fail)
      go_region_held3 (fun w'=>w'.cell? ⟨p,3,none⟩=some (.slice x.oa x.os.length x.oc)/\GBy w4 w' g) (first | exact⟨by assumption,gby_drew _ _⟩ | exact⟨by assumption,by assumption⟩ | go_keep) (first | (go_at_call 87;refine HCT.out.mono ?_;rintro e w5 ⟨⟨m5,hm5,rfl⟩,hg5⟩;have v3:=hg5.cell x3 (by intro e;injection e with e;have:=hgw4.out.2;simp only at e;omega);have G5:GBy w4 w5 g:=(gby_drew w4 g).trans hg5;obtain⟨bv,hbv⟩:∃ bv,((m5:Int) != (m:Int))=bv:=⟨_,rfl⟩;clear hg5))
      have B5:Hid (Below w.heap.size w w5):=Lib.hid (B4.out.grown G5 B4.out.size (fun r e=>by have:=Option.some.inj e;have:=hgw4.out.1;omega))
      have F5:Hid (∃ f':List UInt8->Nat,MF w5 mb (j+1) (.int .i64 0) (fun s=>.int .i64 (f' s:Int))/\∀ s,f' s<=j+1):=Lib.hid (by
       obtain⟨f',h1,h2⟩:=HF2.out
       exact⟨f',h1.kept G5 (by intro e;injection e with e;have:=hgw4.out.2;have:=hgw.out;omega),h2⟩)
      clear v3 x3 G5 hbv
      cases bv with
      | true =>
       go_wp2_with (fail)
       go_ret
       exact⟨⟨_,rfl⟩,B5.out⟩
      | false =>
       go_wp2_with (fail)
       go_roundw
       case rel=>exact⟨j+1,by go_num,by omega,F5,B5⟩
       case measure=>simp[intOf];omega
    ·have hjn:j=n:=by omega
     have HMn:Hid (∃ f:List UInt8->Nat,MF wr mb n (.int .i64 0) (fun s=>.int .i64 (f s:Int))):=Lib.hid (by obtain⟨f,h1,-⟩:=HM.out;exact⟨f,by rw[<- hjn];exact h1⟩)
     have t1:decide ((j:Int) < (n:Int))=false:=by simp;omega
     clear HM hjn
     obtain⟨wo,rfl⟩:∃ z,z=wr:=⟨_,rfl⟩
     go_wp2_with (fail)
     go_loopw [52] (fun s52 wq=>∃ i:Nat,s52 = .int .i64 i/\i<=n/\Hid (Below wo.heap.size wo wq)) (fun s52 _=>n - (intOf s52).toNat)
     case atStart=>exact⟨0,rfl,Nat.zero_le _,Lib.hid (Below.refl _ _)⟩
     case round =>
      obtain⟨i,rfl,hi,Hc⟩:=hrel
      obtain⟨wq,rfl⟩:∃ z,z=wr:=⟨_,rfl⟩
      clear t1 hlt
      have Hq:=Lib.hid (Hb.out.trans (Hc.out.mono Hb.out.size))
      by_cases hli:i < n
      ·obtain⟨b,o,rfl,hbB,hok1,c0,c1,c2,c3⟩:=(HR.out.below Hq.out).item hli
       have HT:=Lib.hid hok1.rt
       clear hok1
       generalize X.getD i default=x at c0 c1 c2 c3 HT
       obtain⟨xc,xl,xpa,xpc,xps,xoa,xoc,xos⟩:=x
       simp only at c0 c1 c2 c3 HT
       unfold encStr at c0
       obtain⟨W1,hW1⟩:∃ V,V=wq.alloc (.cells #[.string ⟨xc.toArray⟩,.int .i64 xl,.slice xpa xps.length xpc,.slice xoa xos.length xoc] 87):=⟨_,rfl⟩
       have bW1:Below wq.heap.size wq W1:=by rw[hW1];exact (Below.refl _ wq).alloc (Nat.le_refl _) _
       have hpc:W1.heap[wq.heap.size]? = some (.cells #[.string ⟨xc.toArray⟩,.int .i64 xl,.slice xpa xps.length xpc,.slice xoa xos.length xoc] 87):=by rw[hW1];exact heap_alloc_new wq _
       obtain⟨-,-,-,q3⟩:=four_at hpc
       have HT1:=Lib.hid (HT.out.below (bW1.mono Hq.out.size))
       have Ho1:=Lib.hid (Hc.out.trans (bW1.mono Hc.out.size))
       have hle2:=HT.out.le
       have hmx2:=HT.out.mx
       have HW1:=Lib.hid hW1
       clear hW1 bW1 hpc HT
       obtain⟨m,hm⟩:∃ m,m=xos.length:=⟨_,rfl⟩
       have HMM:=Lib.hid hm
       go_upto_region 17 with (fail)
       rw[<- HW1.out]
       rw[<- hm] at q3 hle2 ⊢
       clear hm c0 c1 c2 c3
       go_wp2_with (fail)
       clear q3
       go_loopw [59] (fun s59 wv=>∃ k:Nat,s59 = .int .i64 k/\k<=m/\wv=W1) (fun s59 _=>m - (intOf s59).toNat)
       case atStart=>exact⟨0,rfl,Nat.zero_le _,rfl⟩
       case round =>
        obtain⟨k,rfl,hk,rfl⟩:=hrel
        by_cases hlk:k < m
        ·obtain⟨b2,o2,rfl,hb2,hc⟩:=HT1.out.at_ (by omega)
         have d0:=hc k (by rw[<- HMM.out];exact hlk)
         have hfine:=HT1.out.fine (xos.getD k []) (by
          have:k < xos.length:=by rw[<- HMM.out];exact hlk
          rw[List.getD_eq_getElem?_getD,List.getElem?_eq_getElem this]
          exact List.getElem_mem this)
         generalize xos.getD k []=tx at d0 hfine
         unfold encStr at d0
         clear hc
         obtain⟨f,hf⟩:=HMn.out
         have lk:=(hf.below Ho1.out hf.lt).look Tryz.underlying113 (zeroInt _) tx hfine
         generalize f tx=ft at lk
         clear hf hfine
         by_cases hft:ft=0
         ·have e5:((ft:Int) == 0)=true:=by simp[hft]
          clear hft
          go_wp2_with (fail)
          go_ret
          exact⟨⟨_,rfl⟩,Hb.out.trans (Ho1.out.mono Hb.out.size)⟩
         ·have e5:((ft:Int) == 0)=false:=by simp[hft]
          clear hft
          go_wp2_with (fail)
          go_roundw
          case rel=>exact⟨k+1,by go_num,by omega,trivial⟩
          case measure=>simp[intOf];omega
        ·have t3:decide ((k:Int) < (m:Int))=false:=by simp;omega
         go_wp2_with (fail)
         go_roundw
         case rel=>exact⟨i+1,by go_num,by omega,Ho1⟩
         case measure=>simp[intOf];omega
      ·have t2:decide ((i:Int) < (n:Int))=false:=by simp;omega
       go_wp2_with (fail)
       go_ret
       exact⟨⟨_,rfl⟩,Hb.out.trans (Hc.out.mono Hb.out.size)⟩
  ·obtain⟨v,hv⟩:∃ v,v=chkE X:=⟨_,rfl⟩
   rw[<- hv] at HC hc0
   have e0:(v == 0)=false:=by simp[hc0]
   have e1:(v != 0)=true:=by simp[hc0]
   clear hr hsz hv h60
   go_enter Tryz.func51,Tryz.ntmps51
   go_wp2_with (go_at_call 50;refine HC.out.mono ?_;rintro e w1 ⟨rfl,hb1⟩;have B1:=Lib.hid hb1;clear hb1)
   go_ret
   exact⟨⟨_,rfl⟩,B1.out⟩
end Go.Proofs.YtgplnekpgdhcpaaGreat
