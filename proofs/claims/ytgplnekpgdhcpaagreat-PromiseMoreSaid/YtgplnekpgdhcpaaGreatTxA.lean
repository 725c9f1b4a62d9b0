/- What a code is: by the program, and by the document. Items in memory. The document's Find; what an item may be. What an item may be, by the document. Regions that draw their order, whose operations read what stands, and whose calls leave all that stands: one walk of the text's order. Lists of one type that lie apart, told by their cells: what stands while they are marked and grown. -/
import Derived.Test.YtgplnekpgdhcpaaGreatJPure
import Derived.Test.YtgplnekpgdhcpaaGreatQEnds
import Derived.Laws.RangeAny
import Derived.Deep.DeepCutAuto
import Derived.BigRegion
import Derived.Deep.Quiet
import Derived.Deep.QuietTactic
import Derived.Deep.RegionWith
import Derived.OwnWalk
namespace Go.Proofs.YtgplnekpgdhcpaaGreat
open Go.RowKit
def okAt (l:List UInt8) (i:Nat):Bool:=decide (65<=bt l i/\bt l i<=90) || (decide (0 < i) && (decide (48<=bt l i/\bt l i<=57) || decide (bt l i=45)))
def okCode (l:List UInt8):Bool:=decide (1<=l.length/\l.length<=12) && decide (∀ i,i < l.length->okAt l i=true)
theorem okCode_yes {l:List UInt8} (h1:1<=l.length) (h2:l.length<=12) (h:∀ i,i < l.length->okAt l i=true):okCode l=true:=by
 unfold okCode
 rw[decide_eq_true (And.intro h1 h2),decide_eq_true h];rfl
theorem okCode_len {l:List UInt8} (h:¬ (1<=l.length/\l.length<=12)):okCode l=false:=by
 unfold okCode
 rw[decide_eq_false h];rfl
theorem okCode_no {l:List UInt8} {i:Nat} (hi:i < l.length) (h:okAt l i=false):okCode l=false:=by
 unfold okCode
 rw[decide_eq_false (p:=∀ i,i < l.length->okAt l i=true) (fun k=>by rw[k i hi] at h;cases h),Bool.and_false]
theorem seven (x:Nat):(65<=x/\x<=90)∨(48<=x/\x<=57)∨x=45∨x < 45∨(45 < x/\x < 48)∨(57 < x/\x < 65)∨90 < x:=by omega
theorem okAt_nat (l:List UInt8) (i x:Nat) (hx:bt l i=(x:Int)):okAt l i=(decide (65<=x/\x<=90) || (decide (0 < i) && (decide (48<=x/\x<=57) || decide (x=45)))):=by
 unfold okAt
 rw[hx]
 congr 1
 ·exact decide_eq_decide.2 ⟨fun h=>by omega,fun h=>by omega⟩
 ·congr 1
  congr 1
  ·exact decide_eq_decide.2 ⟨fun h=>by omega,fun h=>by omega⟩
  ·exact decide_eq_decide.2 ⟨fun h=>by omega,fun h=>by omega⟩
theorem str_at (l:List UInt8) (i:Nat) (hi:i < l.length):∃ x:Nat,x < 256/\bt l i=(x:Int)/\∀ p,((⟨l.toArray⟩:ByteArray)[i]'p).toNat=x:=by
 refine⟨(l.getD i 0).toNat,(l.getD i 0).toNat_lt,rfl,fun p=>?_⟩
 show (l.toArray[i]'_).toNat=_
 rw[List.getD_eq_getElem?_getD,List.getElem?_eq_getElem hi]
 simp
set_option maxHeartbeats 1000000 in
set_option maxRecDepth 100000 in
theorem rCode_any (l:List UInt8) (hl:l.length<=9223372036854775807) (w:World):Calls Tryz.prog 69 #[.string ⟨l.toArray⟩] w fun e w'=>e = .returned (.bool (okCode l))/\w=w':=by
 have hsz:(⟨l.toArray⟩:ByteArray).size=l.length:=by simp[ByteArray.size]
 have hat:=Lib.hid (fun i hi=>str_at l i hi)
 obtain⟨s,hs⟩:∃ s:ByteArray,s=⟨l.toArray⟩:=⟨_,rfl⟩
 rw[<- hs] at hsz hat ⊢
 clear hs
 go_enter Tryz.func69,Tryz.ntmps69
 by_cases h1:l.length < 1
 ·have t1:decide ((l.length:Int) < 1)=true:=by simp;omega
  have he:=Lib.hid (okCode_len (l:=l) (by omega))
  clear h1
  go_wp2_with (fail)
  go_ret
  exact⟨by rw[he.out];rfl,rfl⟩
 ·have t1:decide ((l.length:Int) < 1)=false:=by simp;omega
  by_cases h2:12 < l.length
  ·have t2:decide ((12:Int) < (l.length:Int))=true:=by simp;omega
   have he:=Lib.hid (okCode_len (l:=l) (by omega))
   clear h1 h2
   go_wp2_with (fail)
   go_ret
   exact⟨by rw[he.out];rfl,rfl⟩
  ·have t2:decide ((12:Int) < (l.length:Int))=false:=by simp;omega
   have hy:=Lib.hid (fun h=>okCode_yes (l:=l) (by omega) (by omega) h)
   have H1:=Lib.hid h1
   have H2:=Lib.hid h2
   clear h1 h2
   go_wp2_with (fail)
   go_loopw [3] (fun s3 wr=>∃ i:Nat,s3 = .int .i64 i/\i<=l.length/\wr=w/\Hid (∀ j,j < i->okAt l j=true)) (fun s3 _=>l.length - (intOf s3).toNat)
   case atStart=>exact⟨0,rfl,by omega,rfl,Lib.hid (fun j hj=>absurd hj (Nat.not_lt_zero _))⟩
   case round =>
    obtain⟨i,rfl,hi,rfl,hok⟩:=hrel
    by_cases hin:i < l.length
    ·have t3:decide ((i:Int) < (l.length:Int))=true:=by simp;omega
     have i0:(0:Int)<=(i:Int):=by omega
     have i1:(i:Int) < (l.length:Int):=by omega
     have f1:IntKind.i64.wrap ((i:Int)+1)=((i+1:Nat):Int):=by rw[wrap_in (by omega) (by omega)];omega
     obtain⟨x,hx1,hx2,hx3⟩:=hat.out i hin
     have HI:=Lib.hid (okAt_nat l i x hx2)
     clear hx2
     rcases Nat.eq_zero_or_pos i with hz | hz
     all_goals have HZ:=Lib.hid hz
     all_goals (first | (have e6:((i:Int) == 0)=true:=by simp;omega) | (have e6:((i:Int) == 0)=false:=by simp;omega))
     all_goals clear hz
     all_goals (rcases seven x with hs7 | hs7 | hs7 | hs7 | hs7 | hs7 | hs7)
     all_goals have HS:=Lib.hid hs7
     all_goals (first | (have e1:decide ((65:Int)<=(x:Int))=true:=by simp;omega) | (have e1:decide ((65:Int)<=(x:Int))=false:=by simp;omega))
     all_goals (first | (have e2:decide ((x:Int)<=90)=true:=by simp;omega) | (have e2:decide ((x:Int)<=90)=false:=by simp;omega))
     all_goals (first | (have e3:decide ((48:Int)<=(x:Int))=true:=by simp;omega) | (have e3:decide ((48:Int)<=(x:Int))=false:=by simp;omega))
     all_goals (first | (have e4:decide ((x:Int)<=57)=true:=by simp;omega) | (have e4:decide ((x:Int)<=57)=false:=by simp;omega))
     all_goals (first | (have e5:((x:Int) == 45)=true:=by simp;omega) | (have e5:((x:Int) == 45)=false:=by simp;omega))
     all_goals clear hs7
     all_goals (first | (have ho:=Lib.hid (show okAt l i=true by rw[HI.out];have h1:=HS.out;have h2:=HZ.out;simp;omega)) | (have ho:=Lib.hid (show okAt l i=false by rw[HI.out];have h1:=HS.out;have h2:=HZ.out;simp;omega)))
     all_goals clear HS HZ HI
     all_goals go_wp2_with (fail)
     all_goals (first | (go_ret;exact⟨by rw[okCode_no hin ho.out];rfl,rfl⟩) | skip)
     all_goals go_roundw
     all_goals (first | exact⟨i+1,rfl,by omega,trivial,Lib.hid (fun j hj=>if e:j < i then hok.out j e else by rw[show j=i by omega];exact ho.out)⟩ | (simp only[intOf];omega))
    ·have t3:decide ((i:Int) < (l.length:Int))=false:=by simp;omega
     go_wp2_with (fail)
     go_ret
     exact⟨by rw[hy.out (fun j hj=>hok.out j (by omega))];rfl,rfl⟩
theorem next_rune (l:List UInt8) (i:Nat) (hi:i < l.length) (w:World):∃ x q:Nat,x<=2147483647/\(∀ ty,(Instr.next (.pointer (some ⟨w.heap.size,0,none⟩)) true ty).run Tryz.prog (w.iter ⟨l.toArray⟩ i) = .ok (.tuple #[.bool true,.int .i64 i,.int .i32 x]) (w.iter ⟨l.toArray⟩ q)) /\
  okAt l i=(decide (65<=x/\x<=90) || (decide (0 < i) && (decide (48<=x/\x<=57) || decide (x=45))))/\(x<=90->q=i+1):=by
 obtain⟨x,hx1,hx2,hx3⟩:=str_at l i hi
 have hsz:i < (⟨l.toArray⟩:ByteArray).size:=by simpa [ByteArray.size] using hi
 by_cases ha:x < 128
 ·refine⟨x,i+1,by omega,fun ty=>?_,okAt_nat l i x hx2,fun _=>rfl⟩
  have h:=run_next_ascii (P:=Tryz.prog) w ⟨l.toArray⟩ i ty hsz (by rw[hx3];exact ha)
  rw[hx3] at h
  exact h
 ·have hd:=decode_high ⟨l.toArray⟩ i hsz (by rw[hx3];omega)
  refine⟨(Utf8.decode ⟨l.toArray⟩ i).1,i+(Utf8.decode ⟨l.toArray⟩ i).2,decode_le _ _,fun ty=>run_next_any (P:=Tryz.prog) w ⟨l.toArray⟩ i ty hsz,?_,fun h=>by omega⟩
  rw[okAt_nat l i x hx2]
  have h1:=hd.1
  have e1:decide (65<=x/\x<=90)=false:=by simp;omega
  have e2:decide (48<=x/\x<=57)=false:=by simp;omega
  have e3:decide (x=45)=false:=by simp;omega
  generalize (Utf8.decode ⟨l.toArray⟩ i).1=y at h1 ⊢
  have e4:decide (65<=y/\y<=90)=false:=by simp;omega
  have e5:decide (48<=y/\y<=57)=false:=by simp;omega
  have e6:decide (y=45)=false:=by simp;omega
  rw[e1,e2,e3,e4,e5,e6]
set_option maxHeartbeats 1000000 in
set_option maxRecDepth 100000 in
theorem cRight_any (l:List UInt8) (hl:l.length<=9223372036854775807) (w:World):Calls Tryz.prog 52 #[.string ⟨l.toArray⟩] w fun e w'=>e = .returned (.bool (okCode l))/\Below w.heap.size w w':=by
 have hsz:(⟨l.toArray⟩:ByteArray).size=l.length:=by simp[ByteArray.size]
 have hnr:=Lib.hid (fun i hi=>next_rune l i hi w)
 have hend:=Lib.hid (fun (i:Nat) (h:¬ i < (⟨l.toArray⟩:ByteArray).size) ty=>run_next_end (P:=Tryz.prog) w ⟨l.toArray⟩ i ty h)
 have hne:Hid ((⟨l.toArray⟩:ByteArray).toList=l):=Lib.hid (by rw[ByteArray.toList_eq])
 have hbl:=Lib.hid (fun (q:Nat)=>(Below.refl w.heap.size w).alloc (Nat.le_refl _) (.stringIter ⟨l.toArray⟩ q))
 obtain⟨s,hs⟩:∃ s:ByteArray,s=⟨l.toArray⟩:=⟨_,rfl⟩
 rw[<- hs] at hsz hnr hend hne hbl ⊢
 clear hs
 go_enter Tryz.func52,Tryz.ntmps52
 go_wp2_with (fail)
 go_loopw [4] (fun _ wr=>∃ i:Nat,i<=l.length/\wr=w.iter s i/\Hid (∀ j,j < i->okAt l j=true)) (fun _ wr=>l.length - wr.iterPos w.heap.size)
 case atStart=>exact⟨0,by omega,rfl,Lib.hid (fun j hj=>absurd hj (Nat.not_lt_zero _))⟩
 case round =>
  obtain⟨i,hi,rfl,hok⟩:=hrel
  by_cases hin:i < l.length
  ·obtain⟨x,q,hx1,hnx,hI,hq⟩:=hnr.out i hin
   have HI:=Lib.hid hI
   have HQ:=Lib.hid hq
   clear hI hq
   rcases Nat.eq_zero_or_pos i with hz | hz
   all_goals have HZ:=Lib.hid hz
   all_goals (first | (have e6:decide ((0:Int) < (i:Int))=true:=by simp;omega) | (have e6:decide ((0:Int) < (i:Int))=false:=by simp;omega))
   all_goals (first | (have e7:decide (0 < i)=true:=by simp;omega) | (have e7:decide (0 < i)=false:=by simp;omega))
   all_goals clear hz
   all_goals (rcases seven x with hs7 | hs7 | hs7 | hs7 | hs7 | hs7 | hs7)
   all_goals have HS:=Lib.hid hs7
   all_goals (first | (have e1:decide ((65:Int)<=(x:Int))=true:=by simp;omega) | (have e1:decide ((65:Int)<=(x:Int))=false:=by simp;omega))
   all_goals (first | (have e2:decide ((x:Int)<=90)=true:=by simp;omega) | (have e2:decide ((x:Int)<=90)=false:=by simp;omega))
   all_goals (first | (have e3:decide ((48:Int)<=(x:Int))=true:=by simp;omega) | (have e3:decide ((48:Int)<=(x:Int))=false:=by simp;omega))
   all_goals (first | (have e4:decide ((x:Int)<=57)=true:=by simp;omega) | (have e4:decide ((x:Int)<=57)=false:=by simp;omega))
   all_goals (first | (have e5:((x:Int) == 45)=true:=by simp;omega) | (have e5:((x:Int) == 45)=false:=by simp;omega))
   all_goals clear hs7
   all_goals (first | (have ho:=Lib.hid (show okAt l i=true by rw[HI.out];have h1:=HS.out;have h2:=HZ.out;simp;omega)) | (have ho:=Lib.hid (show okAt l i=false by rw[HI.out];have h1:=HS.out;have h2:=HZ.out;simp;omega)))
   all_goals clear HI
   all_goals go_wp2_with (fail)
   all_goals (first | (go_ret;exact⟨by rw[okCode_no hin ho.out];rfl,hbl.out _⟩) | skip)
   all_goals go_roundw
   all_goals (have hqe:q=i+1:=HQ.out (by have:=HS.out;omega))
   all_goals subst hqe
   all_goals (first | (simp only[World.iterPos_iter];omega) | exact⟨i+1,by omega,rfl,Lib.hid (fun j hj=>if e:j < i then hok.out j e else by rw[show j=i by omega];exact ho.out)⟩)
  ·have hnx:=fun ty=>hend.out i (by omega) ty
   have hall:∀ j,j < l.length->okAt l j=true:=fun j hj=>hok.out j (by omega)
   have HA:=Lib.hid hall
   clear hall
   by_cases h0:l.length=0
   ·have hn:s.toList=[]:=by rw[hne.out];exact List.eq_nil_of_length_eq_zero h0
    have ho:=Lib.hid (okCode_len (l:=l) (by omega))
    clear h0
    go_wp2_with (fail)
    go_ret
    exact⟨by rw[ho.out];rfl,hbl.out _⟩
   ·have hn:s.toList.isEmpty=false:=by rw[hne.out];cases l with | nil=>exact absurd rfl h0 | cons a l=>rfl
    by_cases h12:l.length<=12
    ·have t1:decide ((l.length:Int)<=12)=true:=by simp;omega
     have ho:=Lib.hid (okCode_yes (by omega) h12 HA.out)
     clear h0 h12
     go_wp2_with (fail)
     go_ret
     exact⟨by rw[ho.out];rfl,hbl.out _⟩
    ·have t1:decide ((l.length:Int)<=12)=false:=by simp;omega
     have ho:=Lib.hid (okCode_len (l:=l) (by omega))
     clear h0 h12
     go_wp2_with (fail)
     go_ret
     exact⟨by rw[ho.out];rfl,hbl.out _⟩
end Go.Proofs.YtgplnekpgdhcpaaGreat
namespace Go.Proofs.YtgplnekpgdhcpaaGreat
open Go.RowKit
structure It where
 code:List UInt8
 life:Int
 pa:Option Addr
 pc:Nat
 ps:List Pt
 oa:Option Addr
 oc:Nat
 os:List (List UInt8)
instance:Inhabited It:=⟨⟨[],0,none,0,[],none,0,[]⟩⟩
def It.val (x:It):Value:=.agg #[encStr x.code,.int .i64 x.life,.slice x.pa x.ps.length x.pc,.slice x.oa x.os.length x.oc]
structure RT (B:Nat) (w:World) (a:Option Addr) (n c:Nat) (T:List (List UInt8)):Prop where
 len:n=T.length
 le:n<=c
 mx:c<=9223372036854775807
 fine:∀ t∈T,t.length<=9223372036854775807
 at_:0 < c->∃ b o,a=some ⟨b,o,none⟩/\b < B/\∀ i,i < n->w.cell? ⟨b,o+i,none⟩=some (encStr (T.getD i []))
theorem RT.below {B:Nat} {w w':World} {a:Option Addr} {n c:Nat} {T:List (List UInt8)} (h:RT B w a n c T) (hb:Below B w w'):RT B w' a n c T:=by
 refine⟨h.len,h.le,h.mx,h.fine,fun hc=>?_⟩
 obtain⟨b,o,e,hB,hcell⟩:=h.at_ hc
 exact⟨b,o,e,hB,fun i hi=>(hb.cell hB).trans (hcell i hi)⟩
theorem RT.mono {B B':Nat} {w:World} {a:Option Addr} {n c:Nat} {T:List (List UInt8)} (h:RT B w a n c T) (hb:B<=B'):RT B' w a n c T:=by
 refine⟨h.len,h.le,h.mx,h.fine,fun hc=>?_⟩
 obtain⟨b,o,e,hB,hcell⟩:=h.at_ hc
 exact⟨b,o,e,Nat.lt_of_lt_of_le hB hb,hcell⟩
structure ItOk (B:Nat) (w:World) (x:It):Prop where
 code:x.code.length<=9223372036854775807
 lo:-9223372036854775808<=x.life
 hi:x.life<=9223372036854775807
 rp:RP B w x.pa x.ps.length x.pc x.ps
 rt:RT B w x.oa x.os.length x.oc x.os
theorem ItOk.below {B:Nat} {w w':World} {x:It} (h:ItOk B w x) (hb:Below B w w'):ItOk B w' x:=⟨h.code,h.lo,h.hi,h.rp.below hb,h.rt.below hb⟩
theorem ItOk.mono {B B':Nat} {w:World} {x:It} (h:ItOk B w x) (hb:B<=B'):ItOk B' w x:=⟨h.code,h.lo,h.hi,h.rp.mono hb,h.rt.mono hb⟩
structure RI (B:Nat) (w:World) (a:Option Addr) (n c:Nat) (X:List It):Prop where
 len:n=X.length
 le:n<=c
 mx:c<=9223372036854775807
 ok:∀ x∈X,ItOk B w x
 at_:0 < c->∃ b o,a=some ⟨b,o,none⟩/\b < B/\∀ i,i < n->w.cell? ⟨b,o+i * 4,none⟩=some (encStr (X.getD i default).code)/\w.cell? ⟨b,o+i * 4+1,none⟩=some (.int .i64 (X.getD i default).life) /\
  w.cell? ⟨b,o+i * 4+2,none⟩=some (.slice (X.getD i default).pa (X.getD i default).ps.length (X.getD i default).pc)/\w.cell? ⟨b,o+i * 4+3,none⟩=some (.slice (X.getD i default).oa (X.getD i default).os.length (X.getD i default).oc)
theorem RI.below {B:Nat} {w w':World} {a:Option Addr} {n c:Nat} {X:List It} (h:RI B w a n c X) (hb:Below B w w'):RI B w' a n c X:=by
 refine⟨h.len,h.le,h.mx,fun x hx=>(h.ok x hx).below hb,fun hc=>?_⟩
 obtain⟨b,o,e,hB,hcell⟩:=h.at_ hc
 exact⟨b,o,e,hB,fun i hi=>⟨(hb.cell hB).trans (hcell i hi).1,(hb.cell hB).trans (hcell i hi).2.1,(hb.cell hB).trans (hcell i hi).2.2.1,(hb.cell hB).trans (hcell i hi).2.2.2⟩⟩
theorem RI.mono {B B':Nat} {w:World} {a:Option Addr} {n c:Nat} {X:List It} (h:RI B w a n c X) (hb:B<=B'):RI B' w a n c X:=by
 refine⟨h.len,h.le,h.mx,fun x hx=>(h.ok x hx).mono hb,fun hc=>?_⟩
 obtain⟨b,o,e,hB,hcell⟩:=h.at_ hc
 exact⟨b,o,e,Nat.lt_of_lt_of_le hB hb,hcell⟩
theorem getD_mem {α:Type} [Inhabited α] {X:List α} {i:Nat} (hi:i < X.length):X.getD i default∈X:=by
 rw[List.getD_eq_getElem?_getD,List.getElem?_eq_getElem hi];exact List.getElem_mem hi
theorem RI.item {B:Nat} {w:World} {a:Option Addr} {n c:Nat} {X:List It} (h:RI B w a n c X) {i:Nat} (hi:i < n):∃ b o,a=some ⟨b,o,none⟩/\b < B/\ItOk B w (X.getD i default) /\
  w.cell? ⟨b,o+i * 4,none⟩=some (encStr (X.getD i default).code)/\w.cell? ⟨b,o+i * 4+1,none⟩=some (.int .i64 (X.getD i default).life) /\
  w.cell? ⟨b,o+i * 4+2,none⟩=some (.slice (X.getD i default).pa (X.getD i default).ps.length (X.getD i default).pc)/\w.cell? ⟨b,o+i * 4+3,none⟩=some (.slice (X.getD i default).oa (X.getD i default).os.length (X.getD i default).oc):=by
 obtain⟨b,o,e,hB,hcell⟩:=h.at_ (by have:=h.le;omega)
 exact⟨b,o,e,hB,h.ok _ (getD_mem (by rw[<- h.len];exact hi)),hcell i hi⟩
theorem RP.part {B:Nat} {w:World} {a:Option Addr} {n c:Nat} {P:List Pt} (h:RP B w a n c P) {i:Nat} (hi:i < n):∃ b o,a=some ⟨b,o,none⟩/\b < B/\w.cell? ⟨b,o+i * 2,none⟩=some (encStr (P.getD i default).1)/\w.cell? ⟨b,o+i * 2+1,none⟩=some (.int .i64 (P.getD i default).2):=by
 obtain⟨b,o,e,hB,hcell⟩:=h.at_ (by have:=h.le;omega)
 exact⟨b,o,e,hB,hcell i hi⟩
def okPart (P:List Pt) (i:Nat):Bool:=decide (1<=(P.getD i default).2/\(P.getD i default).2<=1073741824) && decide (∀ k,k < i->(P.getD k default).1≠(P.getD i default).1)
def okShape (life:Int) (P:List Pt):Bool:=if P.length=0 then decide (1<=life/\life<=2000) else decide (life=0/\P.length<=8) && decide (∀ i,i < P.length->okPart P i=true)
theorem okShape_no {life:Int} {P:List Pt} {i:Nat} (hi:i < P.length) (h:okPart P i=false):okShape life P=false:=by
 unfold okShape
 rw[if_neg (by omega),decide_eq_false (p:=∀ i,i < P.length->okPart P i=true) (fun k=>by rw[k i hi] at h;cases h),Bool.and_false]
theorem okShape_yes {life:Int} {P:List Pt} (h0:P.length≠0) (h:∀ i,i < P.length->okPart P i=true):okShape life P=decide (life=0/\P.length<=8):=by
 unfold okShape
 rw[if_neg h0,decide_eq_true h,Bool.and_true]
end Go.Proofs.YtgplnekpgdhcpaaGreat
namespace Go.Proofs.YtgplnekpgdhcpaaGreat
open Go.RowKit
def fI (X:List It) (c:List UInt8):Int:=if X.findIdx (fun x=>decide (x.code=c)) < X.length then (X.findIdx (fun x=>decide (x.code=c)):Int) else -1
theorem fI_there {X:List It} {c:List UInt8} (h:∃ j,j < X.length/\(X.getD j default).code=c):∃ i,i < X.length/\fI X c=(i:Int)/\(X.getD i default).code=c:=by
 obtain⟨j,hj,hc⟩:=h
 have hlt:X.findIdx (fun x=>decide (x.code=c)) < X.length:=by
  rw[List.findIdx_lt_length]
  exact⟨_,getD_mem hj,decide_eq_true hc⟩
 refine⟨_,hlt,by unfold fI;rw[if_pos hlt],?_⟩
 have:=List.findIdx_getElem (w:=hlt)
 rw[List.getD_eq_getElem?_getD,List.getElem?_eq_getElem hlt]
 exact of_decide_eq_true this
end Go.Proofs.YtgplnekpgdhcpaaGreat
namespace Go.Proofs.YtgplnekpgdhcpaaGreat
open Go.RowKit
theorem okPart_qty {P:List Pt} {i:Nat} (h:¬ (1<=(P.getD i default).2/\(P.getD i default).2<=1073741824)):okPart P i=false:=by
 unfold okPart
 rw[decide_eq_false h,Bool.false_and]
theorem okPart_twice {P:List Pt} {i k:Nat} (hk:k < i) (h:(P.getD k default).1=(P.getD i default).1):okPart P i=false:=by
 unfold okPart
 rw[decide_eq_false (p:=∀ k,k < i->(P.getD k default).1≠(P.getD i default).1) (fun e=>e k hk h),Bool.and_false]
theorem okPart_yes {P:List Pt} {i:Nat} (h1:1<=(P.getD i default).2) (h2:(P.getD i default).2<=1073741824) (h:∀ k,k < i->(P.getD k default).1≠(P.getD i default).1):okPart P i=true:=by
 unfold okPart
 rw[decide_eq_true (And.intro h1 h2),decide_eq_true h];rfl
theorem box_cells (w:World) (x:It):(w.alloc (.cells #[encStr x.code,.int .i64 x.life,.slice x.pa x.ps.length x.pc,.slice x.oa x.os.length x.oc] 87)).cell? ⟨w.heap.size,1,none⟩=some (.int .i64 x.life)/\(w.alloc (.cells #[encStr x.code,.int .i64 x.life,.slice x.pa x.ps.length x.pc,.slice x.oa x.os.length x.oc] 87)).cell? ⟨w.heap.size,2,none⟩=some (.slice x.pa x.ps.length x.pc):=by
 have hh:=heap_alloc_new w (.cells #[encStr x.code,.int .i64 x.life,.slice x.pa x.ps.length x.pc,.slice x.oa x.os.length x.oc] 87)
 exact⟨by unfold World.cell?;rw[hh];rfl,by unfold World.cell?;rw[hh];rfl⟩
end Go.Proofs.YtgplnekpgdhcpaaGreat
namespace Go.Proofs.YtgplnekpgdhcpaaGreat
open Go.RowKit
structure BelowW (W:World) where
 v:World
 h:Below W.heap.size W v
instance (W:World):Nonempty (BelowW W):=⟨⟨W,Below.refl _ _⟩⟩
theorem wp_region_below {P:Program} {id:Nat} {Q:Exit->Act->World->Prop} {a:Act} {w:World} {l:List Oper} (W:World) (hm:P.follows .mixedOrders=true) (hB:Region.lexB .any l.toArray=true) (hW:Below W.heap.size W w)
  (h:wpQuiet P l.toArray (fun w'=>∃ x:BelowW W,w'=x.v) (fun a'=>∀ w',(∃ x:BelowW W,w'=x.v)->Q .normal a' w') l a):(Code.region id l.toArray true).wp P Q a w:=by
 simp only[Region.lexB,Bool.and_eq_true] at hB
 refine wp_region_any hm (wpAny_of_quiet (C:=fun w'=>∃ x:BelowW W,w'=x.v) (Q':=Q) (Q:=fun a'=>∀ w',(∃ x:BelowW W,w'=x.v)->Q .normal a' w') (fun _ w' hw' h=>h w' hw') _ _ _ _ ⟨⟨_,hW.drew⟩,rfl⟩ ?_)
 have:=wpAnyQ_lex (P:=P) (C:=fun w'=>∃ x:BelowW W,w'=x.v) (md:=.any) hB.1 l.toArray.toList 0 (Array.replicate l.toArray.size false) a (by simp) (by simpa using hB.2) (by simpa using h)
 simpa using this
theorem below_call {P:Program} {f:FuncId} {args:Array Value} {W:World} {x:BelowW W} {v:Value} (h:Calls P f args x.v fun e w'=>e = .returned v/\Below x.v.heap.size x.v w'):Calls P f args x.v fun e w'=>e = .returned v/\∃ y:BelowW W,w'=y.v :=
 h.mono fun _ w' ⟨he,hb⟩=>⟨he,⟨w',x.h.trans (hb.mono x.h.size)⟩,rfl⟩
end Go.Proofs.YtgplnekpgdhcpaaGreat
namespace Go.Proofs.YtgplnekpgdhcpaaGreat.Tx
open Go.RowKit
theorem rows_keep {base size n:Nat} {e:TypeId} {W W':World} {v:Value} {xs:List Value} (h:W.ownsRow base e size v n xs) (hk:∀ b,v.ownBlock=some b->W'.heap[b]? = W.heap[b]?):W'.ownsRow base e size v n xs:=by
 obtain⟨e1,h3 | ⟨g,cap,cur,hv,hg,hh,r⟩⟩:=h
 ·exact⟨e1,.inl h3⟩
 ·exact⟨e1,.inr ⟨g,cap,cur,hv,hg,(hk g (by rw[hv];rfl)).trans hh,r⟩⟩
theorem rows_ge {base size n:Nat} {e:TypeId} {W:World} {v:Value} {xs:List Value} (h:W.ownsRow base e size v n xs):∀ b,v.ownBlock=some b->base<=b/\b < W.heap.size:=by
 intro b hb
 obtain⟨e1,⟨h3,-⟩ | ⟨g,cap,cur,hv,hg,hh,r⟩⟩:=h
 ·rw[h3] at hb;cases hb
 ·rw[hv] at hb;cases hb
  exact⟨hg,(Array.getElem?_eq_some_iff.1 hh).1⟩
theorem rows_below {base size n:Nat} {e:TypeId} {W W':World} {v:Value} {xs:List Value} (h:W.ownsRow base e size v n xs) (hb:Below W.heap.size W W'):W'.ownsRow base e size v n xs:=rows_keep h (fun b e=>hb.block b (rows_ge h b e).2)
theorem rows_mono {B B' size n:Nat} {e:TypeId} {W:World} {v:Value} {xs:List Value} (h:W.ownsRow B e size v n xs) (hb:B'<=B):W.ownsRow B' e size v n xs:=by
 obtain⟨e1,h3 | ⟨g,cap,cur,hv,hg,r⟩⟩:=h
 ·exact⟨e1,.inl h3⟩
 ·exact⟨e1,.inr ⟨g,cap,cur,hv,Nat.le_trans hb hg,r⟩⟩
theorem rows_form {base size n:Nat} {e:TypeId} {W:World} {v:Value} {xs:List Value} (h:W.ownsRow base e size v n xs):∃ a c,v = .slice a n c/\n<=c/\c<=9223372036854775807/\(0 < n->∃ g,a=some ⟨g,0,none⟩):=by
 obtain⟨e1,⟨h3,h4⟩ | ⟨g,cap,cur,hv,hg,hh,hle,hcap,r⟩⟩:=h
 ·exact⟨none,0,by rw[h3,h4],by omega,by omega,fun h=>by omega⟩
 ·exact⟨_,cap,hv,hle,by simpa [maxLen] using hcap,fun _=>⟨g,rfl⟩⟩
theorem row_is {w:World} {base size n:Nat} {e:TypeId} {v:Value} {xs:List Value} (h:w.ownsRow base e size v n xs) {g:Nat} (hg:v.ownBlock=some g):∃ cur,w.heap[g]? = some (.cells cur e (0,0)):=by
 obtain⟨e1,⟨h3,-⟩ | ⟨g',cap,cur,hv,hg',hh,r⟩⟩:=h
 ·rw[h3] at hg;cases hg
 ·rw[hv] at hg;cases hg;exact⟨cur,hh⟩
theorem append_keepC {P:Program} {w:World} {base n m cs:Nat} {v:Value} {X Q:List Value} (t ty e:TypeId) (i0:TypeInfo) (z:Value) (hu:P.underlying t=some (.slice e)) (hi:P.info? e=some i0) (hz0:i0.zero=some z) (hz1:i0.size=cs) (hzc:z.cells.size=cs)
  (h:w.ownsRow base e cs v n X) (sa:Option Addr) (c:Nat) (hsrc:∃ ad,sa=some ad/\∀ j u,Q[j]? = some u->w.cell? (ad.add j)=some u) (hone:∀ u∈Q,u.oneCell'=true)
  (hQ:Q.length=m * cs) (hm:0 < m) (hbase:base<=w.heap.size) (hsize:(n+m) * i0.bytes<=140737488355328) (hcnt:n+m<=140737488355328) :
  ∃ g cap w',(Builtin.append_ #[t,t] ty #[v,.slice sa m c]).run P w = .ok (.slice (some ⟨g,0,none⟩) (n+m) cap) w'/\w'.ownsRow base e cs (.slice (some ⟨g,0,none⟩) (n+m) cap) (n+m) (X ++ Q)/\w'.ownsRow base e cs v n X /\
   w.grownBy w' v.ownBlock/\(v.ownBlock=some g∨g=w.heap.size):=by
 obtain⟨ad,rfl,hcell⟩:=hsrc
 have hlX:=h.1
 have hnews:Q.length=m * i0.size:=by rw[hz1];exact hQ
 have hall:(X ++ Q).length=(n+m) * cs:=by rw[List.length_append,hlX,hQ,Nat.add_mul]
 have grown:∀ old,old < n+m->(w.drew.alloc (.cells (X.toArray ++ Q.toArray ++ Builtin.zeroCells z.cells (grownCap w (n+m) old e - (n+m))) e)).ownsRow base e cs
   (.slice (some ⟨w.heap.size,0,none⟩) (n+m) (grownCap w (n+m) old e)) (n+m) (X ++ Q):=by
  intro old ho
  have hge:=grownCap_ge w (n+m) old e
  have hcm:grownCap w (n+m) old e<=maxLen:=grownCap_le_maxLen w (n+m) old e (by simp only[maxLen];omega)
  refine⟨hall,.inr ⟨w.heap.size,_,_,rfl,hbase,heap_alloc_new w.drew _,hge,hcm,?_,?_⟩⟩
  ·simp only[Array.size_append,List.size_toArray,size_zeroCells,hzc,hlX,hQ]
   rw[<- Nat.add_mul,<- Nat.add_mul]
   congr 1
   omega
  ·simp only[Array.toList_append]
   rw[<- hall]
   exact List.take_left
 have hkeep:∀ o,(w.drew.alloc o).ownsRow base e cs v n X:=fun o=>rows_below h ((Below.refl _ w).drew.alloc (Nat.le_refl _) o)
 have hgrw:∀ o row,w.grownBy (w.drew.alloc o) row:=fun o row=>⟨rfl,rfl,rfl,by simp,fun k hk _=>((Below.refl w.heap.size w).drew.alloc (Nat.le_refl _) o).block k hk⟩
 obtain⟨h1,⟨rfl,h0⟩ | ⟨g,cap,cur,rfl,hg,hh,hle,hcap,hcs,htk⟩⟩:=id h
 ·subst h0
  have hX:X=[]:=List.eq_nil_of_length_eq_zero (by rw[h1];simp)
  subst hX
  have hr:=run_append_nil (P:=P) w t ty e i0 _ hu hi hz0 ad m c Q hnews hcell hm (by omega) (by simp only[Nat.zero_add] at hsize;omega)
  have hgr:=grown 0 (by omega)
  simp only[Nat.zero_add,List.nil_append,Array.empty_append] at hgr ⊢
  exact⟨_,_,_,hr,hgr,World.ownsRow_nil _ _ _ _,hgrw _ _,.inr rfl⟩
 ·by_cases hroom:n+m<=cap
  ·have hfit:n * i0.size+Q.length<=cur.size:=by rw[hz1,hcs,hQ,<- Nat.add_mul];exact Nat.mul_le_mul_right _ hroom
   have hr:=run_append_room (P:=P) w t ty e i0 hu hi g n cap cur hh ad m c Q hnews hcell hone hroom hfit
   rw[hz1,htk] at hr
   have hnew:=setRow_heap w g cur (X ++ Q ++ cur.toList.drop (n * cs+Q.length)).toArray e (0,0) hh
   have hle2:n * cs+Q.length<=cap * cs:=by rw[hQ,<- Nat.add_mul];exact Nat.mul_le_mul_right _ hroom
   have hsz2:(X ++ Q ++ cur.toList.drop (n * cs+Q.length)).toArray.size=cap * cs:=by
    simp only[List.size_toArray,List.length_append,List.length_drop,Array.length_toList,hlX,hcs]
    omega
   refine⟨g,cap,_,hr,⟨hall,.inr ⟨g,cap,_,rfl,hg,hnew,hroom,hcap,hsz2,?_⟩⟩,⟨h1,.inr ⟨g,cap,_,rfl,hg,hnew,hle,hcap,hsz2,?_⟩⟩,⟨rfl,rfl,rfl,by simp,fun k _ hk=>setRow_other w g k _ (fun e=>hk (by simp[Value.ownBlock,e]))⟩,.inl rfl⟩
   ·rw[<- hall]
    exact List.take_left
   ·show (X ++ Q ++ _).take (n * cs)=X
    rw[List.append_assoc,<- hlX]
    exact List.take_left
  ·have holds:∀ j u,X[j]? = some u->w.cell? ((⟨g,0,none⟩:Addr).add j)=some u:=World.ownsRow.cells (g:=g) h rfl
   have hr:=run_append_grow (P:=P) w t ty e i0 _ hu hi hz0 ⟨g,0,none⟩ n cap X (by rw[hz1];exact hlX) holds ad m c Q hnews hcell (by omega) (by omega) (growslice_fits (by omega) hsize)
   exact⟨_,_,_,hr,grown cap (by omega),hkeep _,hgrw _ _,.inr rfl⟩
section
variable {e le:TypeId} {cs:Nat} {T:World->List Value->Nat->Nat->Prop} {B N K:Nat} {V:Nat->Value} {n I:Nat->Nat} {w w':World}
end
section
variable {e le:TypeId} {cs:Nat} {T:World->List Value->Nat->Nat->Prop} {B N M gb K k:Nat} {V:Nat->Value} {n I m J:Nat->Nat} {w w' w0:World}
end
structure Kp (S:Nat) (v:Value) (w w':World):Prop where
 size:S<=w'.heap.size
 block:∀ b,b < S->v.ownBlock≠some b->w'.heap[b]? = w.heap[b]?
end Go.Proofs.YtgplnekpgdhcpaaGreat.Tx
