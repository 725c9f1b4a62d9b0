/- What PromiseOrder leans on: plain. What PromiseMore leans on: plain. storemanlaw10.with at one line: it is put in. -/
import Derived.Test.YtgplnekpgdhcpaaGreatQLineK
import Derived.Test.YtgplnekpgdhcpaaGreatQLRight
import Derived.Test.YtgplnekpgdhcpaaGreatQPromO
import Derived.Test.YtgplnekpgdhcpaaGreatQStM
import Derived.Test.YtgplnekpgdhcpaaGreatTxA
namespace Go.Proofs.YtgplnekpgdhcpaaGreat
open Go.RowKit
section
variable {parts:List UInt8->Int->Option (List (List UInt8×Int))} {row:List UInt8->List (List UInt8)} {L:List LotV} {now:Int} {right:LineV->Bool} {N:List LineV}
end
theorem repl_fine {X:List It} (hX:∀ x∈X,x.code.length<=9223372036854775807) {L:List LotV} {now:Int} {N:List LineV} (hN:∀ x∈N,okLine x):∀ x∈N.map (repl (openP (partsO X) (rowX X) L now N)),okLine x:=fun x hx=>by
 obtain⟨y,hy,rfl⟩:=List.mem_map.1 hx
 have hZ:∀ z∈openP (partsO X) (rowX X) L now N,okLine z:=prF_forall (Q:=okLine) (fun W l h=>promL_fine hX h) _ _ (fun l hl=>hN l (List.mem_filter.1 ((openX_perm N).mem_iff.1 hl)).1)
 unfold repl
 cases hf:(openP (partsO X) (rowX X) L now N).find? fun z=>decide (z.id=y.id) with
 | none=>exact hN y hy
 | some z=>exact hZ z (List.mem_of_find?_eq_some hf)
end Go.Proofs.YtgplnekpgdhcpaaGreat
namespace Go.Proofs.YtgplnekpgdhcpaaGreat
open Go.RowKit
section
variable {now:Int} {X:List It} {L:List LotV} {N:List LineV}
theorem openP_len (L:List LotV):(openP (partsO X) (rowX X) L now N).length=(openX N).length:=by
 have e1:=congrArg List.length (prF_ids (parts:=partsO X) (row:=rowX X) (L:=L) (now:=now) (openX N) [])
 rw[List.length_map,List.length_map] at e1
 exact e1
theorem openX_len:(openX N).length<=N.length:=by
 rw[(openX_perm N).length_eq]
 exact List.length_filter_le _ _
structure MoreS (A C:List LineV):Prop where
 id:(A.getD 0 default).id=(C.getD 0 default).id
 day:0<=(A.getD 0 default).day->0<=(C.getD 0 default).day/\((C.getD 0 default).code=(A.getD 0 default).code->(C.getD 0 default).day<=(A.getD 0 default).day)
theorem moreS {x:LotV} (hm:mayB (L ++ [x]) []=true) (h0:0 < (openX N).length):MoreS (openP (partsO X) (rowX X) L now N) (openP (partsO X) (rowX X) (L ++ [x]) now N):=by
 cases ho:openX N with
 | nil=>rw[ho] at h0;exact absurd h0 (by simp)
 | cons l R =>
  obtain⟨Z1,e1⟩:=openP_cons (parts:=partsO X) (row:=rowX X) (L:=L) (now:=now) ho
  obtain⟨Z2,e2⟩:=openP_cons (parts:=partsO X) (row:=rowX X) (L:=L ++ [x]) (now:=now) ho
  rw[e1,e2]
  refine⟨?_,fun h=>more_first hm h⟩
  show (promL (partsO X) (rowX X) L now [] l).id=(promL (partsO X) (rowX X) (L ++ [x]) now [] l).id
  rw[(promL_keys _ _).1,(promL_keys _ _).1]
theorem openP_fine {L:List LotV} (hX:∀ x∈X,x.code.length<=9223372036854775807) (hN:∀ x∈N,okLine x):∀ z∈openP (partsO X) (rowX X) L now N,okLine z:=prF_forall (Q:=okLine) (fun _W _l h=>promL_fine hX h) _ _ (fun l hl=>hN l (List.mem_filter.1 ((openX_perm N).mem_iff.1 hl)).1)
structure AllS (now:Int) (X:List It) (L:List LotV) (N Z P:List LineV):Prop where
 len:Z.length=N.length
 opn:openX Z=P
 ids:(Z.map (·.id)).Nodup
 fine:∀ x∈Z,okLine x
 pf:∀ x∈P,okLine x
 pl:P.length=(openX N).length
theorem allS (hnow:nowOk now=true) (hid:(N.map (·.id)).Nodup) (hr:N.all lineOk=true) (hX:∀ x∈X,x.code.length<=9223372036854775807) (hN:∀ x∈N,okLine x) (L:List LotV):AllS now X L N (allX (partsO X) (rowX X) lineOk L now N) (openP (partsO X) (rowX X) L now N):=by
 have e:=allX_form (parts:=partsO X) (row:=rowX X) (L:=L) hnow hid hr
 exact⟨by rw[e,List.length_map],by rw[e];exact open_all hid,by rw[e,map_ids];exact hid,by rw[e];exact repl_fine hX hN,openP_fine hX hN,openP_len L⟩
end
end Go.Proofs.YtgplnekpgdhcpaaGreat
namespace Go.Proofs.YtgplnekpgdhcpaaGreat
open Go.RowKit Go.Sort Go.Lib Go.Shelf
def WtP (w:World) (y:LineV) (e:Ending) (w':World):Prop:=(∃ a' c',e = .returned (.slice a' 1 c')/\lineE.Own w.heap.size w' (.slice a' 1 c') [y])/\Below w.heap.size w w'
theorem own_frozenW {base g n c:Nat} {w:World} {Y:List LineV} (h:lineE.Own base w (.slice (some ⟨g,0,none⟩) n c) Y) (t:Nat):w.frozen? ⟨g,t,none⟩=false:=own_frozenI h t
set_option maxHeartbeats 8000000 in
set_option maxRecDepth 100000 in
theorem with1_any (B:Nat) (a:Option Addr) (n c:Nat) (x:LineV) (id:Int) (item:List UInt8) (qty asked rank st day:Int) (code:List UInt8) (w:World) (h:lineE.In B w a n c [x]) (hB:B<=w.heap.size) (hid:x.id=id) :
  Calls Tryz.prog 27 #[.slice a n c,.agg #[.int .i64 id,.string ⟨item.toArray⟩,.int .i64 qty,.int .i64 asked,.int .i64 rank,.int .u8 st,.int .i64 day,.string ⟨code.toArray⟩]] w fun e w'=>WtP w ⟨id,item,qty,asked,rank,st,day,code⟩ e w':=by
 have hn:n=1:=h.len
 obtain⟨W0,hW0⟩:∃ V,V=w.alloc (lineObj id item qty asked rank st day code):=⟨_,rfl⟩
 have hB0:Below w.heap.size w W0:=by rw[hW0];exact below_allocL _ _
 have hp0:W0.heap[w.heap.size]? = some (lineObj id item qty asked rank st day code):=by rw[hW0];exact heap_alloc_new _ _
 have hs0:w.heap.size < W0.heap.size:=(Array.getElem?_eq_some_iff.1 hp0).1
 have HCL:=Lib.hid (CopyLines_any B a n c [x] W0 (h.below (hB0.mono hB)) (by omega))
 have HC:=Lib.hid (fun (V:World) (hb:V.heap[w.heap.size]? = some (lineObj id item qty asked rank st day code))=>lineObj_cells hb)
 have HB0:=Lib.hid hB0
 have HP0:=Lib.hid hp0
 have HS0:=Lib.hid hs0
 have HW0:Hid (w.alloc (lineObj id item qty asked rank st day code)=W0):=Lib.hid hW0.symm
 have HID:=Lib.hid hid
 have HN1:=Lib.hid hn
 have hn0:n<=1:=by omega
 unfold lineObj at HW0
 clear h hB hB0 hp0 hs0 hW0 hid hn
 go_enter Tryz.func27,Tryz.ntmps27
 go_upto_region 1 with (fail)
 have HW:=HW0.out
 simp only[List.toArray] at HW
 rw[HW]
 clear HW
 go_wp2_with (go_at_call 60;refine HCL.out.mono ?_;rintro e w1 ⟨⟨a1,c1,rfl,ho1⟩,hb1⟩;obtain⟨g,rfl⟩:∃ g,a1=some ⟨g,0,none⟩:=(by obtain⟨a7,c7,e7,-,-,hg⟩:=ho1.form;obtain⟨g,hg⟩:=hg (by simp);exact⟨g,(Value.slice.inj e7).1.trans hg⟩);have O1:=Lib.hid (ho1.mono HB0.out.size);have hg1:=Lib.hid (ho1.ge g rfl).1;have B1:=Lib.hid (HB0.out.trans (hb1.mono HB0.out.size));have P1:=Lib.hid ((hb1.block _ HS0.out).trans HP0.out);have hsz:=(And.intro (ho1.cell).2.1 (ho1.cell).2.2.1);obtain⟨hle1,hmx1⟩:=hsz;clear ho1 hb1)
 have A0:Hid (lineE.Own w.heap.size w1 (.slice (some ⟨g,0,none⟩) n c1) (if 0=0 then [x] else [⟨id,item,qty,asked,rank,st,day,code⟩])/\Below w.heap.size w w1/\w1.heap[w.heap.size]? = some (lineObj id item qty asked rank st day code)):=Lib.hid ⟨by rw[if_pos rfl];exact O1.out,B1.out,P1.out⟩
 go_loopw [6] (fun s6 wr=>∃ i:Nat,s6 = .int .i64 i/\i<=n/\Hid (lineE.Own w.heap.size wr (.slice (some ⟨g,0,none⟩) n c1) (if i=0 then [x] else [⟨id,item,qty,asked,rank,st,day,code⟩])/\Below w.heap.size w wr/\wr.heap[w.heap.size]? = some (lineObj id item qty asked rank st day code))) (fun s6 _=>n - (intOf s6).toNat)
 case atStart=>exact⟨0,rfl,Nat.zero_le _,A0⟩
 case round =>
  obtain⟨i,rfl,hi,HI⟩:=hrel
  obtain⟨wi,rfl⟩:∃ z,z=wr:=⟨_,rfl⟩
  clear A0
  by_cases hlt:i < n
  ·obtain⟨q1,q2,q3⟩:=HI.out
   have hi0:i=0:=by omega
   rw[if_pos hi0] at q1
   have Q1:=Lib.hid q1
   have Q2:=Lib.hid q2
   have Q3:=Lib.hid q3
   have c0:=(q1.cell).2.2.2.2.2 i hlt 0 (by decide)
   have e0:([x].getD i default)=x:=by rw[hi0];rfl
   rw[e0] at c0
   have c0':wi.cell? ⟨g,i * 8,none⟩=some (.int .i64 id):=by
    have:wi.cell? ⟨g,i * 8,none⟩=some (.int .i64 x.id):=c0
    rw[this,HID.out]
   obtain⟨l0,l1,l2,l3,l4,l5,l6,l7⟩:=HC.out wi q3
   have hgl:g < wi.heap.size:=(q1.ge g rfl).2
   have hpl:w.heap.size < wi.heap.size:=(Array.getElem?_eq_some_iff.1 q3).1
   have f0:∀ z:BelowW wi,z.v.cell? ⟨g,i * 8,none⟩=some (.int .i64 id):=fun z=>(z.h.cell (p:=⟨g,i * 8,none⟩) hgl).trans c0'
   have f1:∀ z:BelowW wi,z.v.cell? ⟨w.heap.size,0,none⟩=some (.int .i64 id):=fun z=>(z.h.cell (p:=⟨w.heap.size,0,none⟩) hpl).trans l0
   have hix0:(0:Int)<=(i:Int):=by omega
   have hix1:(i:Int) < (n:Int):=by omega
   have HI0:=Lib.hid hi0
   have HGL:=Lib.hid hgl
   have HPL:=Lib.hid hpl
   clear q1 q2 q3 c0 e0 c0' HI hi0 l0 l1 l2 l3 l4 l5 l6 l7 hgl hpl
   go_upto_region 5 with (fail)
   refine wp_region_below wi (by kernel_rfl) (by kernel_rfl) (Below.refl _ _) ?_
   repeat (go_big_quiet_step (fail))
   refine wpQuiet_nil ?_
   intro _ hw'
   obtain⟨y1,hw''⟩:=hw'
   subst hw''
   clear f0 f1
   have O2:=Lib.hid (Q1.out.below (y1.h.mono (Nat.le_refl _)))
   have P2:=Lib.hid ((y1.h.block _ HPL.out).trans Q3.out)
   have B2:=Lib.hid (Q2.out.trans (y1.h.mono Q2.out.size))
   obtain⟨l0,l1,l2,l3,l4,l5,l6,l7⟩:=HC.out y1.v P2.out
   have z0:y1.v.frozen? ⟨g,i * 8,none⟩=false:=own_frozenW O2.out _
   have z1:y1.v.frozen? ⟨g,i * 8+1,none⟩=false:=own_frozenW O2.out _
   have z2:y1.v.frozen? ⟨g,i * 8+2,none⟩=false:=own_frozenW O2.out _
   have z3:y1.v.frozen? ⟨g,i * 8+3,none⟩=false:=own_frozenW O2.out _
   have z4:y1.v.frozen? ⟨g,i * 8+4,none⟩=false:=own_frozenW O2.out _
   have z5:y1.v.frozen? ⟨g,i * 8+5,none⟩=false:=own_frozenW O2.out _
   have z6:y1.v.frozen? ⟨g,i * 8+6,none⟩=false:=own_frozenW O2.out _
   have z7:y1.v.frozen? ⟨g,i * 8+7,none⟩=false:=own_frozenW O2.out _
   have cc0:=(O2.out.cell).2.2.2.2.2 i hlt 0 (by decide)
   have cc1:=(O2.out.cell).2.2.2.2.2 i hlt 1 (by decide)
   have cc2:=(O2.out.cell).2.2.2.2.2 i hlt 2 (by decide)
   have cc3:=(O2.out.cell).2.2.2.2.2 i hlt 3 (by decide)
   have cc4:=(O2.out.cell).2.2.2.2.2 i hlt 4 (by decide)
   have cc5:=(O2.out.cell).2.2.2.2.2 i hlt 5 (by decide)
   have cc6:=(O2.out.cell).2.2.2.2.2 i hlt 6 (by decide)
   have cc7:=(O2.out.cell).2.2.2.2.2 i hlt 7 (by decide)
   simp only[show lineE.k=8 from rfl] at cc0 cc1 cc2 cc3 cc4 cc5 cc6 cc7
   have d0:y1.v.cell? ⟨g,i * 8,none⟩=some (.int .i64 ([x].getD i default).id):=cc0
   have d1:y1.v.cell? ⟨g,i * 8+1,none⟩=some (encStr ([x].getD i default).item):=cc1
   have d2:y1.v.cell? ⟨g,i * 8+2,none⟩=some (.int .i64 ([x].getD i default).qty):=cc2
   have d3:y1.v.cell? ⟨g,i * 8+3,none⟩=some (.int .i64 ([x].getD i default).asked):=cc3
   have d4:y1.v.cell? ⟨g,i * 8+4,none⟩=some (.int .i64 ([x].getD i default).rank):=cc4
   have d5:y1.v.cell? ⟨g,i * 8+5,none⟩=some (.int .u8 ([x].getD i default).st):=cc5
   have d6:y1.v.cell? ⟨g,i * 8+6,none⟩=some (.int .i64 ([x].getD i default).day):=cc6
   have d7:y1.v.cell? ⟨g,i * 8+7,none⟩=some (encStr ([x].getD i default).code):=cc7
   generalize [x].getD i default=xx at d0 d1 d2 d3 d4 d5 d6 d7
   clear cc0 cc1 cc2 cc3 cc4 cc5 cc6 cc7
   obtain⟨W2,hW2⟩:∃ V,V=put8L y1.v g i id item qty asked rank st day code:=⟨_,rfl⟩
   have O3:Hid (lineE.Own w.heap.size W2 (.slice (some ⟨g,0,none⟩) n c1) (if i+1=0 then [x] else [⟨id,item,qty,asked,rank,st,day,code⟩])):=Lib.hid (by
    rw[hW2,if_neg (by omega)]
    have:=own_set8 O2.out hlt id item qty asked rank st day code
    rw[HI0.out] at this ⊢
    exact this)
   have P3:Hid (W2.heap[w.heap.size]? = some (lineObj id item qty asked rank st day code)):=Lib.hid (by
    rw[hW2,put8L_block _ _ _ _ _ _ _ _ (by have:=hg1.out;have:=HS0.out;omega)]
    exact P2.out)
   have B3:Hid (Below w.heap.size w W2):=Lib.hid (by
    have hgw:=hg1.out
    have hw0:=HB0.out.size
    rw[hW2]
    unfold put8L
    exact below_set (below_set (below_set (below_set (below_set (below_set (below_set (below_set B2.out _ _ _ (by omega)) _ _ _ (by omega)) _ _ _ (by omega)) _ _ _ (by omega)) _ _ _ (by omega)) _ _ _ (by omega)) _ _ _ (by omega)) _ _ _ (by omega))
   unfold put8L at hW2
   go_upto_region 4 with (fail)
   rw[<- hW2]
   clear hW2 l0 l1 l2 l3 l4 l5 l6 l7 z0 z1 z2 z3 z4 z5 z6 z7 d0 d1 d2 d3 d4 d5 d6 d7
   go_wp2_with (fail)
   go_roundw
   case rel=>exact⟨i+1,by go_num,by omega,Lib.hid ⟨O3.out,B3.out,P3.out⟩⟩
   case measure=>simp[intOf];omega
  ·have hi1:i=1:=by have:=HN1.out;omega
   have t1:decide ((i:Int) < (n:Int))=false:=by simp;omega
   have E:Hid (lineE.Own w.heap.size wi (.slice (some ⟨g,0,none⟩) n c1) [⟨id,item,qty,asked,rank,st,day,code⟩]/\Below w.heap.size w wi):=Lib.hid (by
    obtain⟨q1,q2,-⟩:=HI.out
    rw[if_neg (by omega)] at q1
    exact⟨q1,q2⟩)
   clear HI hi1
   go_wp2_with (fail)
   go_ret
   refine⟨⟨some ⟨g,0,none⟩,c1,?_,?_⟩,E.out.2⟩
   ·rw[<- HN1.out];rfl
   ·rw[<- HN1.out];exact E.out.1
end Go.Proofs.YtgplnekpgdhcpaaGreat
