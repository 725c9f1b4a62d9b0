import Derived.Test.YtohlkkannjifmaaGreatDoorOLogB
import Derived.Test.YtohlkkannjifmaaGreatDoorODsk2
import Derived.Laws.BitsLemmas
namespace Go.Proofs.YtohlkkannjifmaaGreatDoor
section
set_option maxHeartbeats 4000000
set_option maxRecDepth 100000
open Go.RowKit
variable {D Dj:DK} {L Lj:LK} {j:Nat}
structure WaR (L:LK) (D:DK) (j:Nat) (Lj:LK) (Dj:DK):Prop where
 eq:Lj={ L with sheets:=Lj.sheets }
 drop:Lj.sheets.drop j=L.sheets.drop j
 len:Lj.sheets.length=L.sheets.length
 all:writeAll L L.sheets D=((writeAll L (L.sheets.drop j) Dj).1,Lj.sheets.take j++(writeAll L (L.sheets.drop j) Dj).2.1,(writeAll L (L.sheets.drop j) Dj).2.2)
theorem WaR.start (L:LK) (D:DK):WaR L D 0 L D:=⟨rfl,rfl,rfl,by simp⟩
theorem WaR.at_ (h:WaR L D j Lj Dj) (hj:j<L.sheets.length):Lj.sheets.getD j sh0=L.sheets.getD j sh0/\L.sheets.drop j=L.sheets.getD j sh0::L.sheets.drop (j+1)/\Lj.sheets.drop (j+1)=L.sheets.drop (j+1):=by
 have h1:=h.drop;have hl:=h.len;have e1:=List.drop_eq_getElem_cons hj;have e2:=List.drop_eq_getElem_cons (l:=Lj.sheets) (i:=j) (by omega);rw[e1,e2] at h1;injection h1 with h2 h3
 refine⟨?_,?_,h3⟩
 ·rw[List.getD_eq_getElem?_getD,List.getElem?_eq_getElem (by omega),List.getD_eq_getElem?_getD,List.getElem?_eq_getElem hj,h2]
 ·rw[e1,List.getD_eq_getElem?_getD,List.getElem?_eq_getElem hj];rfl
theorem set_split {α:Type} (l:List α) (j:Nat) (x:α) (h:j<l.length):l.set j x=l.take j++x::l.drop (j+1):=List.set_eq_take_append_cons_drop .. |>.trans (if_pos h)
theorem WaR.same (h:WaR L D j Lj Dj) (hj:j<L.sheets.length) (hw:(L.sheets.getD j sh0).wants=false):WaR L D (j+1) Lj Dj:=by
 obtain⟨e1,e2,e3⟩:=h.at_ hj;refine⟨h.eq,e3,h.len,?_⟩;rw[h.all,e2]
 conv=>lhs;unfold writeAll
 rw[if_neg (by rw[hw];simp)];have hl:=h.len;have e4:Lj.sheets.take (j+1)=Lj.sheets.take j++[L.sheets.getD j sh0]:=by
  rw[List.take_succ_eq_append_getElem (by omega),<- e1,List.getD_eq_getElem?_getD,List.getElem?_eq_getElem (by omega)];rfl
 rw[e4];simp
theorem WaR.fields (h:WaR L D j Lj Dj):Lj.turn=L.turn/\Lj.first=L.first/\Lj.count=L.count:=by
 have e:=h.eq;refine⟨?_,?_,?_⟩<;>rw[e]
theorem WaR.wrote (h:WaR L D j Lj Dj) (hj:j<L.sheets.length) (hw:(L.sheets.getD j sh0).wants=true) (h0:(Dj.write (L.sector (L.sheets.getD j sh0).num) (wrB L (L.sheets.getD j sh0))).1=0) :
  WaR L D (j+1) (Lj.turned j) (Dj.write (L.sector (L.sheets.getD j sh0).num) (wrB L (L.sheets.getD j sh0))).2:=by
 obtain⟨e1,e2,e3⟩:=h.at_ hj;obtain⟨f1,f2,f3⟩:=h.fields;have hl:=h.len;have hs:(Lj.turned j).sheets=Lj.sheets.take j++{ L.sheets.getD j sh0 with turn:=L.turn }::Lj.sheets.drop (j+1):=by
  show Lj.sheets.set j _=_;rw[set_split _ _ _ (by omega),e1,f1]
 have hlen:(Lj.sheets.take j).length=j:=by rw[List.length_take];omega
 refine⟨?_,?_,?_,?_⟩
 ·show ({ Lj with sheets:=_ }:LK)=_;rw[h.eq];rfl
 ·rw[hs,List.drop_append,List.drop_of_length_le (by omega),hlen,List.nil_append,show j+1-j=1 by omega];exact e3
 ·show (Lj.sheets.set j _).length=_;rw[List.length_set];exact hl
 ·rw[h.all,e2,hs]
  conv=>lhs;unfold writeAll
  rw[if_pos hw];unfold wrB at h0 ⊢;have ht:∀ (x:ShV) (r:List ShV),(Lj.sheets.take j++x::r).take (j+1)=Lj.sheets.take j++[x]:=fun x r=>by
   rw[List.take_append,List.take_of_length_le (l:=Lj.sheets.take j) (by omega),hlen,show j+1-j=1 by omega];rfl
  rw[if_pos h0,ht];simp
theorem WaR.bad (h:WaR L D j Lj Dj) (hj:j<L.sheets.length) (hw:(L.sheets.getD j sh0).wants=true) (h0:(Dj.write (L.sector (L.sheets.getD j sh0).num) (wrB L (L.sheets.getD j sh0))).1≠0) :
  writeAll L L.sheets D=((Dj.write (L.sector (L.sheets.getD j sh0).num) (wrB L (L.sheets.getD j sh0))).1,(Lj.turned j).sheets,(Dj.write (L.sector (L.sheets.getD j sh0).num) (wrB L (L.sheets.getD j sh0))).2):=by
 obtain⟨e1,e2,e3⟩:=h.at_ hj;obtain⟨f1,f2,f3⟩:=h.fields;have hl:=h.len;have hs:(Lj.turned j).sheets=Lj.sheets.take j++{ L.sheets.getD j sh0 with turn:=L.turn }::Lj.sheets.drop (j+1):=by
  show Lj.sheets.set j _=_;rw[set_split _ _ _ (by omega),e1,f1]
 rw[h.all,e2,hs]
 conv=>lhs;unfold writeAll
 rw[if_pos hw];unfold wrB at h0 ⊢;rw[if_neg h0,e3]
theorem WaR.turnedEq (h:WaR L D j Lj Dj):Lj.turned j={ L with sheets:=(Lj.turned j).sheets }:=by
 show ({ Lj with sheets:=_ }:LK)=_;rw[h.eq];rfl
theorem WaR.done (h:WaR L D L.sheets.length Lj Dj):writeAll L L.sheets D=(0,Lj.sheets,Dj):=by
 have e:=h.all;rw[List.drop_of_length_le (Nat.le_refl _)] at e;rw[e];have hl:=h.len;simp[writeAll,<- hl]
structure F1P (U:Nat->Prop) (l k:Nat) (L:LK) (d ds do_ kd:Nat) (D:DK) (sv tv:Value) (P:Nat->Nat) (V:Nat->Value) (w w':World):Prop where
 lf:LF w' U l d k { L with sheets:=(writeAll L L.sheets D).2.1 } sv tv P V
 dk:DiskR w' d ds do_ (kd+L.sheets.length) (writeAll L L.sheets D).2.2
 tr:Trn (fun g=>U g∨DB d ds do_ g) w w'
theorem force1_any (U:Nat->Prop) (l k:Nat) (L:LK) (d ds do_ kd:Nat) (D:DK) (sv tv:Value) (P:Nat->Nat) (V:Nat->Value) (fb:Nat) (w:World) (h:LF w U l d k L sv tv P V) (hD:DiskR w d ds do_ kd D) (hne:∀ g,DB d ds do_ g->¬ U g) (hkd:kd+L.sheets.length<=1000000000)
  (hf:w.heap[fb]? = some (.cells #[ptr l] 41 (0,0))) (hfu:¬ U fb) (hfd:¬ DB d ds do_ fb) :
  Calls Tryz.prog 61 #[.pointer (some ⟨fb,0,none⟩)] w fun e w'=>e=.returned (.int .i64 (writeAll L L.sheets D).1)/\F1P U l k L d ds do_ kd D sv tv P V w w':=by
 obtain⟨g,cap,rfl,hle,hcp,hn8,hcell⟩:=h.get;have c0:w.cell? ⟨fb,0,none⟩=some (.pointer (some ⟨l,0,none⟩)):=cell_of_row _ _ 0 _ _ _ hf;have c5:w.cell? ⟨l,5,none⟩=some (.slice (some ⟨g,0,none⟩) L.sheets.length cap):=cell_of_row _ _ 5 _ _ _ h.blk;have HF:=φ hf;have HNU:=φ hfu;have HND:=φ hfd;have HNE:=φ hne;have H0:=φ h;have HD0:=φ hD;have HKd:=φ hkd;have HFl:Hid (fb<w.heap.size):=φ (ξ hf);obtain⟨n,hn⟩:∃ n,n=L.sheets.length:=⟨_,rfl⟩
 rw[<- hn] at c5 hle hn8;have HN:=φ hn;clear h hD hne hf hfu hfd hkd hcell hn;go_enter Tryz.func61,Tryz.ntmps61;go_wp2_with (fail);go_loopw [10] (fun i wr=>∃ j:Nat,j<=n/\i=.int .i64 j/\∃ Lj Dj,Hid (WaR L D j Lj Dj)/\Hid (LF wr U l d k Lj (.slice (some ⟨g,0,none⟩) L.sheets.length cap) tv P V)/\Hid (DiskR wr d ds do_ (kd+j) Dj)/\Hid (Trn (fun g=>U g∨DB d ds do_ g) w wr)) (fun i _=>n-(inOf i).toNat)
 case atStart=>exact⟨0,Nat.zero_le _,rfl,L,D,φ (WaR.start L D),H0,HD0,φ (Trn.refl _ _)⟩
 case round =>
  obtain⟨j,hj,rfl,Lj,Dj,HW,HL,HDj,HT⟩:=hrel;by_cases hlt:j<n
  ·have hjl:j<L.sheets.length:=by have:=HN.out;omega
   have hjl2:j<Lj.sheets.length:=by have:=HW.out.len;omega
   have d0:wr.cell? ⟨fb,0,none⟩=some (.pointer (some ⟨l,0,none⟩)):=(World.cell?_of_block (w:=w) (HT.out.block fb HFl.out (fun h=>by rcases h with h|h;exact HNU.out h;exact HND.out h))).trans c0;have gj:wr.cell? ⟨g,j,none⟩=some (.pointer (some ⟨P j,0,none⟩)):=by
    obtain⟨g',cap',e,-,-,-,hc⟩:=HL.out.get;obtain⟨ea,-,-⟩:=Value.slice.inj e
    cases ea
    exact hc j hjl2
   have HWr:=φ (lwrite_any U l k Lj d ds do_ (kd+j) Dj _ tv P V j wr HL.out HDj.out HNE.out hjl2 (by have:=HKd.out;omega));have f2:IntKind.i64.wrap ((j:Int)+1)=((j+1:Nat):Int):=by rw[IntWalk.i64_in _ (by omega)];omega
   obtain⟨z1,z2,z3⟩:=HW.out.at_ hjl;obtain⟨y1,y2,y3⟩:=HW.out.fields;have hwr:wrB Lj (Lj.sheets.getD j sh0)=wrB L (L.sheets.getD j sh0):=by unfold wrB;rw[z1,y1]
   have hse:Lj.sector (Lj.sheets.getD j sh0).num=L.sector (L.sheets.getD j sh0).num:=by unfold LK.sector;rw[z1,y2,y3]
   unfold WrP at HWr;rw[hwr,hse,z1] at HWr;clear z1 z2 z3 y1 y2 y3 hwr hse
   cases hw:(L.sheets.getD j sh0).wants with
   | false =>
    rw[hw] at HWr;simp only[Bool.false_eq_true,if_false] at HWr;have HW2:=φ (HW.out.same hjl hw);clear hw hjl hjl2;go_wp2_with (go_at_call 62;refine HWr.out.mono ?_;rintro e w2 ⟨rfl,hl2,hd2,ht2⟩;have L2:=φ hl2;have D2:=φ hd2;have T2:=φ (HT.out.then ht2);clear hl2 hd2 ht2);go_roundw
    case rel=>exact⟨j+1,by omega,by go_num,Lj,Dj,HW2,L2,D2,T2⟩
    case measure=>simp[inOf];omega
   | true =>
    rw[hw] at HWr;simp only[if_true] at HWr;by_cases h0:(Dj.write (L.sector (L.sheets.getD j sh0).num) (wrB L (L.sheets.getD j sh0))).1=0
    ·have HW2:=φ (HW.out.wrote hjl hw h0);rw[h0] at HWr;clear hw h0 hjl hjl2;generalize (Dj.write (L.sector (L.sheets.getD j sh0).num) (wrB L (L.sheets.getD j sh0))).2=D9 at *;generalize Lj.turned j=L9 at *;go_wp2_with (go_at_call 62;refine HWr.out.mono ?_;rintro e w2 ⟨rfl,hl2,hd2,ht2⟩;have L2:=φ hl2;have D2:=φ hd2;have T2:=φ (HT.out.then ht2);clear hl2 hd2 ht2);go_roundw
     case rel=>exact⟨j+1,by omega,by go_num,L9,D9,HW2,L2,D2,T2⟩
     case measure=>simp[inOf];omega
    ·have HB:=φ (HW.out.bad hjl hw h0);have HE:=φ HW.out.turnedEq;have e1:((Dj.write (L.sector (L.sheets.getD j sh0).num) (wrB L (L.sheets.getD j sh0))).1 == 0)=false:=(by simpa using h0);have HJ:=φ hjl;clear hw h0 hjl hjl2;generalize Dj.write (L.sector (L.sheets.getD j sh0).num) (wrB L (L.sheets.getD j sh0))=res at *;obtain⟨r1,D9⟩:=res;simp only at HWr HB e1;generalize Lj.turned j=L9 at *;go_wp2_with (go_at_call 62;refine HWr.out.mono ?_;rintro e w2 ⟨rfl,hl2,hd2,ht2⟩;have L2:=φ hl2;have D2:=φ hd2;have T2:=φ (HT.out.then ht2);clear hl2 hd2 ht2);go_ret;refine⟨by rw[HB.out];rfl,⟨?_,?_,T2.out⟩⟩
     ·rw[HB.out];have:=L2.out;rw[HE.out] at this;exact this
     ·rw[HB.out];exact D2.out.mono (by have:=HJ.out;omega)
  ·obtain rfl:j=n:=by omega
   have HDn:Hid (writeAll L L.sheets D=(0,Lj.sheets,Dj)):=φ (by have:=HW.out;rw[HN.out] at this;exact this.done);go_wp2_with (fail);go_ret;refine⟨by rw[HDn.out];rfl,⟨?_,?_,HT.out⟩⟩
   ·rw[HDn.out];have:=HL.out;rw[HW.out.eq] at this;exact this
   ·rw[HDn.out,<- HN.out];exact HDj.out
end
section
set_option maxHeartbeats 4000000
set_option maxRecDepth 100000
open Go.RowKit
variable {L Lj:LK} {j:Nat}
structure SuR (L:LK) (j:Nat) (Lj:LK):Prop where
 eq:Lj={ L with sheets:=Lj.sheets }
 sh:Lj.sheets=(L.sheets.take j).map ShV.sure++L.sheets.drop j
theorem SuR.len (h:SuR L j Lj):Lj.sheets.length=L.sheets.length:=by
 rw[h.sh];simp;omega
theorem SuR.at_ (h:SuR L j Lj) (hj:j<L.sheets.length):Lj.sheets.getD j sh0=L.sheets.getD j sh0:=by
 rw[h.sh,List.getD_eq_getElem?_getD,List.getElem?_append_right (by simp;omega),List.getElem?_drop,List.getD_eq_getElem?_getD]
 congr 2
 simp;omega
theorem SuR.step (h:SuR L j Lj) (hj:j<L.sheets.length):SuR L (j+1) (Lj.setSh j (L.sheets.getD j sh0).sure):=by
 have hl:=h.len;refine⟨?_,?_⟩
 ·show ({ Lj with sheets:=_ }:LK)=_;rw[h.eq];rfl
 ·show Lj.sheets.set j _=_;have hlen:((L.sheets.take j).map ShV.sure).length=j:=by rw[List.length_map,List.length_take];omega
  rw[h.sh,List.set_append_right _ _ (by omega),hlen,Nat.sub_self,List.drop_eq_getElem_cons hj,List.set_cons_zero,List.take_succ_eq_append_getElem hj,List.map_append,List.append_assoc];simp only[List.map_cons,List.map_nil,List.singleton_append];rw[List.getD_eq_getElem?_getD,List.getElem?_eq_getElem hj];rfl
theorem force2_any (U:Nat->Prop) (l d k:Nat) (L:LK) (sv tv:Value) (P:Nat->Nat) (V:Nat->Value) (fb:Nat) (w:World) (h:LF w U l d k L sv tv P V) (hf:w.heap[fb]? = some (.cells #[ptr l] 41 (0,0))) (_hfu:¬ U fb) :
  Calls Tryz.prog 64 #[.pointer (some ⟨fb,0,none⟩)] w fun e w'=>e=.returned (.int .i64 0)/\LF w' U l d k { L with sheets:=L.sheets.map ShV.sure } sv tv P V/\Trn U w w':=by
 obtain⟨g,cap,rfl,hle,hcp,hn8,hcell⟩:=h.get;have c0:w.cell? ⟨fb,0,none⟩=some (.pointer (some ⟨l,0,none⟩)):=cell_of_row _ _ 0 _ _ _ hf;have c5:w.cell? ⟨l,5,none⟩=some (.slice (some ⟨g,0,none⟩) L.sheets.length cap):=cell_of_row _ _ 5 _ _ _ h.blk;have H0:=φ h;obtain⟨n,hn⟩:∃ n,n=L.sheets.length:=⟨_,rfl⟩
 rw[<- hn] at c5 hle hn8;have HN:=φ hn;clear h hf _hfu hcell hn;go_enter Tryz.func64,Tryz.ntmps64;go_wp2_with (fail);go_loopw [9] (fun i wr=>∃ j:Nat,j<=n/\i=.int .i64 j/\∃ Lj,Hid (SuR L j Lj)/\Hid (LF wr U l d k Lj (.slice (some ⟨g,0,none⟩) L.sheets.length cap) tv P V)/\Hid (Trn U w wr)) (fun i _=>n-(inOf i).toNat)
 case atStart=>exact⟨0,Nat.zero_le _,rfl,L,φ ⟨rfl,by simp⟩,H0,φ (Trn.refl _ _)⟩
 case round =>
  obtain⟨j,hj,rfl,Lj,HW,HL,HT⟩:=hrel;by_cases hlt:j<n
  ·have hjl:j<L.sheets.length:=by have:=HN.out;omega
   have hjl2:j<Lj.sheets.length:=by have:=HW.out.len;omega
   have gj:wr.cell? ⟨g,j,none⟩=some (.pointer (some ⟨P j,0,none⟩)):=by
    obtain⟨g',cap',e,-,-,-,hc⟩:=HL.out.get;obtain⟨ea,-,-⟩:=Value.slice.inj e
    cases ea
    exact hc j hjl2
   have hs:=HL.out.sh j hjl2;rw[HW.out.at_ hjl] at hs;have hbl:=HL.out.ok.len _ (getD_mem Lj.sheets sh0 j hjl2);rw[HW.out.at_ hjl] at hbl;obtain⟨va,vc,hve,hvr⟩:=hs.body.rb (by omega);have k4:wr.cell? ⟨P j,4,none⟩=some (.slice va (L.sheets.getD j sh0).body.length vc):=by rw[<- hve];exact cell_of_row _ _ 4 _ _ _ hs.blk
   have k5:wr.cell? ⟨P j,5,none⟩=some (.int .i64 (L.sheets.getD j sh0).safe):=cell_of_row _ _ 5 _ _ _ hs.blk;have k6:wr.cell? ⟨P j,6,none⟩=some (.bool (L.sheets.getD j sh0).lost):=cell_of_row _ _ 6 _ _ _ hs.blk;have f5:wr.frozen? ⟨P j,5,none⟩=false:=by simp[World.frozen?,hs.blk]
   have f6:wr.frozen? ⟨P j,6,none⟩=false:=by simp[World.frozen?,hs.blk]
   have hv1:=hvr.mx;have hv2:=hvr.le;have hP1:((wr.setCell ⟨P j,5,none⟩ (.int .i64 (L.sheets.getD j sh0).body.length)).setCell ⟨P j,6,none⟩ (.bool false)).heap[P j]? = some (shObj (L.sheets.getD j sh0).sure (V j)):=set_at (set_at hs.blk 5 _) 6 _;have hL1:=HL.out.set (w':=((wr.setCell ⟨P j,5,none⟩ (.int .i64 (L.sheets.getD j sh0).body.length)).setCell ⟨P j,6,none⟩ (.bool false))) hjl2 (s':=(L.sheets.getD j sh0).sure) (by rw[HW.out.at_ hjl];rfl) hP1 (fun g _ hg=>(set_ne hg).trans (set_ne hg)) (by rw[size_set,size_set];exact Nat.le_refl _)
    (HL.out.ok.setSh hjl2 (by rw[HW.out.at_ hjl];rfl) (by rw[HW.out.at_ hjl];rfl) ⟨by simp[ShV.sure],by simp[ShV.sure]⟩ (by
     have:=HL.out.ok.hd _ (getD_mem Lj.sheets sh0 j hjl2);rw[HW.out.at_ hjl] at this;exact⟨this.1,this.2.1⟩) (by rw[HW.out.at_ hjl];rfl) (fun h=>absurd h (by simp[ShV.sure])))
   have HL1:=φ hL1;have HW1:=φ (HW.out.step hjl);have HT1:Hid (Trn U w ((wr.setCell ⟨P j,5,none⟩ (.int .i64 (L.sheets.getD j sh0).body.length)).setCell ⟨P j,6,none⟩ (.bool false))):=φ ((HT.out.set _ _ _ (.inl (HL.out.ux j hjl2))).set _ _ _ (.inl (HL.out.ux j hjl2)));have f2:IntKind.i64.wrap ((j:Int)+1)=((j+1:Nat):Int):=by rw[IntWalk.i64_in _ (by omega)];omega
   clear hs hve hvr hP1 hL1;generalize Lj.setSh j (L.sheets.getD j sh0).sure=L9 at *;generalize L.sheets.getD j sh0=s at *;go_wp2_with (fail);go_roundw
   case rel=>exact⟨j+1,by omega,by go_num,L9,HW1,HL1,HT1⟩
   case measure=>simp[inOf];omega
  ·obtain rfl:j=n:=by omega
   have HE:Hid (Lj={ L with sheets:=L.sheets.map ShV.sure }):=φ (by
    rw[HW.out.eq]
    congr 1
    rw[HW.out.sh,HN.out,List.take_of_length_le (Nat.le_refl _),List.drop_of_length_le (Nat.le_refl _),List.append_nil])
   go_wp2_with (fail);go_ret;exact⟨rfl,by rw[<- HE.out];exact HL.out,HT.out⟩
def fn1 (fb:Nat):Value:=.func (.func 61) #[] #[.pointer (some ⟨fb,0,none⟩)]
def fn2 (d:Nat):Value:=.func (.func 63) #[.pointer (some ⟨d,0,none⟩)] #[]
def fn3 (fb:Nat):Value:=.func (.func 64) #[] #[.pointer (some ⟨fb,0,none⟩)]
theorem each3_any (gs fb d:Nat) (S0 S1 S2 S3:World->Prop) (e1 e2:Int) (w:World)
  (hS:∀ W,(S0 W∨S1 W∨S2 W∨S3 W)->W.cell? ⟨gs,0,none⟩=some (fn1 fb)/\W.cell? ⟨gs,1,none⟩=some (fn2 d)/\W.cell? ⟨gs,2,none⟩=some (fn3 fb))
  (h1:∀ W,S0 W->Calls Tryz.prog 61 #[.pointer (some ⟨fb,0,none⟩)] W fun e w'=>e=.returned (.int .i64 e1)/\S1 w')
  (h2:∀ W,S1 W->e1=0->Calls Tryz.prog 63 #[.pointer (some ⟨d,0,none⟩)] W fun e w'=>e=.returned (.int .i64 e2)/\S2 w')
  (h3:∀ W,S2 W->e1=0->e2=0->Calls Tryz.prog 64 #[.pointer (some ⟨fb,0,none⟩)] W fun e w'=>e=.returned (.int .i64 0)/\S3 w') (h0:S0 w) :
  Calls Tryz.prog 60 #[.slice (some ⟨gs,0,none⟩) 3 3] w fun e w'=>(e1≠0/\e=.returned (.int .i64 e1)/\S1 w')∨(e1=0/\e2≠0/\e=.returned (.int .i64 e2)/\S2 w')∨(e1=0/\e2=0/\e=.returned (.int .i64 0)/\S3 w'):=by
 have HS:=φ hS;have H1:=φ h1;have H2:=φ h2;have H3:=φ h3;have H0:=φ h0;clear hS h1 h2 h3 h0;unfold fn1 fn2 fn3 at HS;go_enter Tryz.func60,Tryz.ntmps60;go_wp2_with (fail);go_loopw [8] (fun i wr=>∃ j:Nat,j<=3/\i=.int .i64 j/\Hid ((j=0/\S0 wr)∨(j=1/\e1=0/\S1 wr)∨(j=2/\e1=0/\e2=0/\S2 wr)∨(j=3/\e1=0/\e2=0/\S3 wr))) (fun i _=>3-(inOf i).toNat)
 case atStart=>exact⟨0,by omega,rfl,φ (.inl ⟨rfl,H0.out⟩)⟩
 case round =>
  obtain⟨j,hj,rfl,HC⟩:=hrel;rcases HC.out with ⟨rfl,hs⟩|⟨rfl,he1,hs⟩|⟨rfl,he1,he2,hs⟩|⟨rfl,he1,he2,hs⟩
  ·obtain⟨c0,-,-⟩:=HS.out wr (.inl hs);have HCa:=φ (H1.out wr hs);clear hs;by_cases he:e1=0
   ·have HE1:=φ he;rw[he] at HCa;clear he;go_wp2_with (go_at_call 61;refine HCa.out.mono ?_;rintro e w2 ⟨rfl,hs2⟩;have S2':=φ hs2;clear hs2);go_roundw
    case rel=>exact⟨1,by omega,by go_num,φ (.inr (.inl ⟨rfl,HE1.out,S2'.out⟩))⟩
    case measure=>simp[inOf]
   ·have HE1:Hid (e1≠0):=φ he;have q:(e1 == 0)=false:=(by simpa using he);clear he;go_wp2_with (go_at_call 61;refine HCa.out.mono ?_;rintro e w2 ⟨rfl,hs2⟩;have S2':=φ hs2;clear hs2);go_ret;exact .inl ⟨HE1.out,rfl,S2'.out⟩
  ·obtain⟨-,c1,-⟩:=HS.out wr (.inr (.inl hs));have HCa:=φ (H2.out wr hs he1);have HE1:=φ he1;clear hs he1;by_cases he:e2=0
   ·have HE2:=φ he;rw[he] at HCa;clear he;go_wp2_with (go_at_call 63;refine HCa.out.mono ?_;rintro e w2 ⟨rfl,hs2⟩;have S2':=φ hs2;clear hs2);go_roundw
    case rel=>exact⟨2,by omega,by go_num,φ (.inr (.inr (.inl ⟨rfl,HE1.out,HE2.out,S2'.out⟩)))⟩
    case measure=>simp[inOf]
   ·have HE2:Hid (e2≠0):=φ he;have q:(e2 == 0)=false:=(by simpa using he);clear he;go_wp2_with (go_at_call 63;refine HCa.out.mono ?_;rintro e w2 ⟨rfl,hs2⟩;have S2':=φ hs2;clear hs2);go_ret;exact .inr (.inl ⟨HE1.out,HE2.out,rfl,S2'.out⟩)
  ·obtain⟨-,-,c2⟩:=HS.out wr (.inr (.inr (.inl hs)));have HCa:=φ (H3.out wr hs he1 he2);have HE1:=φ he1;have HE2:=φ he2;clear hs he1 he2;go_wp2_with (go_at_call 64;refine HCa.out.mono ?_;rintro e w2 ⟨rfl,hs2⟩;have S2':=φ hs2;clear hs2);go_roundw
   case rel=>exact⟨3,by omega,by go_num,φ (.inr (.inr (.inr ⟨rfl,HE1.out,HE2.out,S2'.out⟩)))⟩
   case measure=>simp[inOf]
  ·have HE1:=φ he1;have HE2:=φ he2;have S3':=φ hs;clear hs he1 he2;go_wp2_with (fail);go_ret;exact .inr (.inr ⟨HE1.out,HE2.out,rfl,S3'.out⟩)
end
section
set_option maxHeartbeats 4000000
set_option maxRecDepth 100000
open Go.RowKit
structure FK (U:Nat->Prop) (d ds do_ fb gs l:Nat) (w W:World):Prop where
 box:W.heap[fb]? = some (.cells #[ptr l] 41 (0,0))
 fns:W.heap[gs]? = some (.cells #[fn1 fb,fn2 d,fn3 fb] 58 (0,0))
 tr:Trn (fun g=>U g∨DB d ds do_ g) w W
def NotSafe (L:LK):Prop:=¬ L.safe=L.end_
def ForceP (U:Nat->Prop) (l k d ds do_ kd:Nat) (x:Int×LK×DK) (w:World) (e:Ending) (w':World):Prop :=
 e=.returned (.int .i64 x.1)/\LogR w' U l d k x.2.1/\DiskR w' d ds do_ (kd+8192) x.2.2/\Trn (fun g=>U g∨DB d ds do_ g) w w'
theorem FK.next {U:Nat->Prop} {d ds do_ fb gs l:Nat} {w W W':World} (h:FK U d ds do_ fb gs l w W) (ht:Trn (fun g=>U g∨DB d ds do_ g) W W') (h1:¬ (U fb∨DB d ds do_ fb)) (h2:¬ (U gs∨DB d ds do_ gs)):FK U d ds do_ fb gs l w W' :=
 ⟨(ht.block fb (ξ h.box) h1).trans h.box,(ht.block gs (ξ h.fns) h2).trans h.fns,h.tr.then ht⟩
theorem force_each (U:Nat->Prop) (l k:Nat) (L:LK) (d ds do_ kd:Nat) (D:DK) (sv tv:Value) (P:Nat->Nat) (V:Nat->Value) (fb gs:Nat) (w W:World) (hK:FK U d ds do_ fb gs l w W) (hL:LF W U l d k L sv tv P V) (hD:DiskR W d ds do_ kd D) (hne:∀ g,DB d ds do_ g->¬ U g)
  (h1:¬ (U fb∨DB d ds do_ fb)) (h2:¬ (U gs∨DB d ds do_ gs)) (hs:¬ L.safe=L.end_) (hkd:kd<=900000000) (hn8:L.sheets.length<=8191) :
  Calls Tryz.prog 60 #[.slice (some ⟨gs,0,none⟩) 3 3] W (ForceP U l k d ds do_ kd (L.force D) w):=by
 have hFl:L.force D=if (writeAll L L.sheets D).1≠0 then ((writeAll L L.sheets D).1,{ L with sheets:=(writeAll L L.sheets D).2.1 },(writeAll L L.sheets D).2.2)
   else if ((writeAll L L.sheets D).2.2.sync).1≠0 then (((writeAll L L.sheets D).2.2.sync).1,{ L with sheets:=(writeAll L L.sheets D).2.1 },((writeAll L L.sheets D).2.2.sync).2)
   else (0,{ L with sheets:=(writeAll L L.sheets D).2.1.map ShV.sure },((writeAll L L.sheets D).2.2.sync).2):=by unfold LK.force;rw[if_neg hs]
 refine (each3_any gs fb d (fun X=>X=W) (fun X=>FK U d ds do_ fb gs l w X/\LF X U l d k { L with sheets:=(writeAll L L.sheets D).2.1 } sv tv P V/\DiskR X d ds do_ (kd+L.sheets.length) (writeAll L L.sheets D).2.2)
  (fun X=>FK U d ds do_ fb gs l w X/\LF X U l d k { L with sheets:=(writeAll L L.sheets D).2.1 } sv tv P V/\DiskR X d ds do_ (kd+L.sheets.length) ((writeAll L L.sheets D).2.2.sync).2)
  (fun X=>FK U d ds do_ fb gs l w X/\LF X U l d k { L with sheets:=(writeAll L L.sheets D).2.1.map ShV.sure } sv tv P V/\DiskR X d ds do_ (kd+L.sheets.length) ((writeAll L L.sheets D).2.2.sync).2)
  (writeAll L L.sheets D).1 ((writeAll L L.sheets D).2.2.sync).1 W ?_ ?_ ?_ ?_ rfl).mono ?_
 ·have key:∀ X,FK U d ds do_ fb gs l w X->X.cell? ⟨gs,0,none⟩=some (fn1 fb)/\X.cell? ⟨gs,1,none⟩=some (fn2 d)/\X.cell? ⟨gs,2,none⟩=some (fn3 fb):=fun X hX =>
   ⟨cell_of_row _ _ 0 _ _ _ hX.fns,cell_of_row _ _ 1 _ _ _ hX.fns,cell_of_row _ _ 2 _ _ _ hX.fns⟩
  rintro X (rfl|⟨hX,-⟩|⟨hX,-⟩|⟨hX,-⟩)
  ·exact key _ hK
  ·exact key _ hX
  ·exact key _ hX
  ·exact key _ hX
 ·rintro X rfl;refine (force1_any U l k L d ds do_ kd D sv tv P V fb X hL hD hne (by omega) hK.box (fun h=>h1 (.inl h)) (fun h=>h1 (.inr h))).mono ?_;rintro e w' ⟨he,hf⟩;exact⟨he,hK.next hf.tr h1 h2,hf.lf,hf.dk⟩
 ·rintro X ⟨a1,a2,a3⟩ -;refine (sync_any d ds do_ _ _ X a3 (by omega)).mono ?_;rintro e w' ⟨he,hd,ht⟩;exact⟨he,a1.next (ht.mono fun i hi=>.inl (.inr hi)) h1 h2,a2.keep (fun i hi=>ht.block i (a2.lt i hi) (fun h=>hne i h hi)) ht.size,hd⟩
 ·rintro X ⟨a1,a2,a3⟩ - -;refine (force2_any U l d k _ sv tv P V fb X a2 a1.box (fun h=>h1 (.inl h))).mono ?_;rintro e w' ⟨he,hf,ht⟩;exact⟨he,a1.next (ht.mono fun i hi=>.inl (.inl hi)) h1 h2,hf,a3.keep fun i hi=>ht.block i (a3.lt hi) (fun h=>hne i hi h)⟩
 ·rintro e w' (⟨b1,rfl,a1,a2,a3⟩|⟨b1,b2,rfl,a1,a2,a3⟩|⟨b1,b2,rfl,a1,a2,a3⟩)
  ·rw[hFl,if_pos b1];exact⟨rfl,a2.log,a3.mono (by omega),a1.tr⟩
  ·rw[hFl,if_neg (by omega),if_pos b2];exact⟨rfl,a2.log,a3.mono (by omega),a1.tr⟩
  ·rw[hFl,if_neg (by omega),if_neg (by omega)];exact⟨rfl,a2.log,a3.mono (by omega),a1.tr⟩
theorem force_any (U:Nat->Prop) (l k:Nat) (L:LK) (d ds do_ kd:Nat) (D:DK) (w:World) (h:LogR w U l d k L) (hD:DiskR w d ds do_ kd D) (hne:∀ g,DB d ds do_ g->¬ U g) (hkd:kd<=900000000) (hk:k<=1000000000) :
  Calls Tryz.prog 20 #[.pointer (some ⟨l,0,none⟩)] w (ForceP U l k d ds do_ kd (L.force D) w):=by
 have hbx:=(Below.refl w.heap.size w).alloc (Nat.le_refl _) (.cells #[.pointer (some ⟨l,0,none⟩)] 41);have hlog:∀ W,Below w.heap.size w W->LogR W U l d k L:=fun W hW=>h.keep (fun i hi=>hW.block i (h.lt i hi)) hW.size
 have HLog:=φ hlog;have HT:Hid (∀ W,Below w.heap.size w W->Calls Tryz.prog 41 #[.pointer (some ⟨l,0,none⟩)] W fun e w'=>e=.returned (.bool true)/\w'=W):=φ fun W hW=>lthere_any W l d (by obtain⟨sv,tv,P,V,hf⟩:=LF.of (hlog W hW);exact cell_of_row _ _ 0 _ _ _ hf.blk)
 have HSf:Hid (∀ W,Below w.heap.size w W->Calls Tryz.prog 59 #[.pointer (some ⟨l,0,none⟩)] W fun e w'=>e=.returned (.int .i64 L.safe)/\∃ q,w'=W.drewN q):=φ fun W hW=>safe_any W U l d k L (hlog W hW) hk
 have HEn:Hid (∀ W,Below w.heap.size w W->Calls Tryz.prog 47 #[.pointer (some ⟨l,0,none⟩)] W fun e w'=>e=.returned (.int .i64 L.end_)/\w'=W.drew):=φ fun W hW=>end_any W U l d k L (hlog W hW)
 have HB0:=φ hbx;have hc0:(w.alloc (.cells #[.pointer (some ⟨l,0,none⟩)] 41)).cell? ⟨w.heap.size,0,none⟩=some (.pointer (some ⟨l,0,none⟩)):=cell_of_row _ _ 0 _ _ _ (heap_alloc_last w _);by_cases hs:L.safe=L.end_
 ·have HF:Hid (L.force D=(0,L,D)):=φ (by unfold LK.force;rw[if_pos hs]);have HD:=φ hD;rw[HF.out];rw[hs] at HSf;have e1:(L.end_ == L.end_)=true:=by simp
  clear hs h hD hbx hlog;generalize L.end_=en at *;go_enter Tryz.func20,Tryz.ntmps20;go_upto_region 3 with (go_at_call 41;refine (HT.out _ HB0.out).mono ?_;rintro e w1 ⟨rfl,hw1⟩;subst hw1);go_region_held3 (fun w'=>w'.cell? ⟨w.heap.size,0,none⟩=some (.pointer (some ⟨l,0,none⟩))) (first|go_keep|assumption) (first|(go_at_call 59;refine (HSf.out _ HB0.out.drew).mono ?_;rintro e w2 ⟨rfl,q,hw2⟩;have B2:Hid (Below w.heap.size w w2):=φ (by rw[hw2];exact δ HB0.out.drew q);have c2:w2.cell? ⟨w.heap.size,0,none⟩=some (.pointer (some ⟨l,0,none⟩)):=(by rw[hw2];exact hc0);clear hw2)|(go_at_call 47;refine (HEn.out _ B2.out).mono ?_;rintro e w3 ⟨rfl,hw3⟩;subst hw3));go_wp2_with (fail);go_ret;exact⟨rfl,HLog.out _ B2.out.drew,(HD.out.keep fun i hi=>B2.out.drew.block i (HD.out.lt hi)).mono (by omega),(Trn.refl _ w).below B2.out.drew (Nat.le_refl _)⟩
 ·obtain⟨sv,tv,P,V,hf⟩:=LF.of h;have e1:(L.safe == L.end_)=false:=by simpa using hs
  have hn8:L.sheets.length<=8191:=by have:=hf.get;obtain⟨_,_,_,_,_,h8,_⟩:=this;exact h8
  have HLF:=φ hf;have HD:=φ hD;have HNE:=φ hne;have HS:Hid (NotSafe L):=φ hs;have H8:=φ hn8;clear hs h hD hbx hlog hf hn8 hne;obtain⟨res,hres⟩:∃ res,res=L.force D:=⟨_,rfl⟩
  rw[<- hres];have HRes:=φ hres;clear hres;generalize L.end_=en at *;generalize L.safe=sf at *;go_enter Tryz.func20,Tryz.ntmps20;go_upto_region 3 with (go_at_call 41;refine (HT.out _ HB0.out).mono ?_;rintro e w1 ⟨rfl,hw1⟩;subst hw1);go_region_held3 (fun w'=>w'.cell? ⟨w.heap.size,0,none⟩=some (.pointer (some ⟨l,0,none⟩))) (first|go_keep|assumption) (first|(go_at_call 59;refine (HSf.out _ HB0.out.drew).mono ?_;rintro e w2 ⟨rfl,q,hw2⟩;have B2:Hid (Below w.heap.size w w2):=φ (by rw[hw2];exact δ HB0.out.drew q);have c2:w2.cell? ⟨w.heap.size,0,none⟩=some (.pointer (some ⟨l,0,none⟩)):=(by rw[hw2];exact hc0);have X2:Hid (w2.heap[w.heap.size]? = some (.cells #[ptr l] 41 (0,0))):=φ (by rw[hw2];exact heap_alloc_last w _);clear hw2)|(go_at_call 47;refine (HEn.out _ B2.out).mono ?_;rintro e w3 ⟨rfl,hw3⟩;subst hw3));have V2:Hid (LF w2 U l d k L sv tv P V):=φ (HLF.out.keep (fun i hi=>B2.out.block i (HLF.out.lt i hi)) B2.out.size);have m0:w2.cell? ⟨l,0,none⟩=some (.pointer (some ⟨d,0,none⟩)):=cell_of_row _ _ 0 _ _ _ V2.out.blk;have hfns:(w2.drew.alloc (.cells #[fn1 w.heap.size,fn2 d,fn3 w.heap.size] 58)).heap[w2.heap.size]? = some (.cells #[fn1 w.heap.size,fn2 d,fn3 w.heap.size] 58 (0,0)):=heap_alloc_last w2.drew _;have hBa:=B2.out.drew.alloc B2.out.drew.size (.cells #[fn1 w.heap.size,fn2 d,fn3 w.heap.size] 58);have hlt2:=ξ X2.out;have HEa:=φ (force_each U l k L d ds do_ kd D sv tv P V w.heap.size w2.heap.size w (w2.drew.alloc (.cells #[fn1 w.heap.size,fn2 d,fn3 w.heap.size] 58)) ⟨(alloc_old (w:=w2.drew) hlt2).trans X2.out,hfns,(Trn.refl _ w).below hBa (Nat.le_refl _)⟩
   (HLF.out.keep (fun i hi=>hBa.block i (HLF.out.lt i hi)) hBa.size) (HD.out.keep fun i hi=>hBa.block i (HD.out.lt hi)) HNE.out (by
    rintro (h|h)
    ·have:=HLF.out.lt _ h;omega
    ·have:=HD.out.lt h;omega) (by
    rintro (h|h)
    ·have:=HLF.out.lt _ h;omega
    ·have:=HD.out.lt h;omega) HS.out hkd H8.out)
  rw[<- HRes.out] at HEa;unfold fn1 fn2 fn3 at HEa;clear hfns hBa hlt2;go_wp2_with (go_at_call 60;refine HEa.out.mono ?_;rintro e w5 h5;obtain⟨rfl,q1,q2,q3⟩:=h5;have Q1:=φ q1;have Q2:=φ q2;have Q3:=φ q3;clear q1 q2 q3);go_ret;exact⟨rfl,Q1.out,Q2.out,Q3.out⟩
end
section
set_option maxHeartbeats 1000000
set_option maxRecDepth 100000
open Go.RowKit
theorem OB.emp (B:Nat) (W:World) (hB:B<=W.heap.size):OB B (W.alloc (.cells #[] 5)) (.slice (some ⟨W.heap.size,0,none⟩) 0 0) [] :=
 ⟨rfl,.inr ⟨W.heap.size,0,#[],rfl,hB,heap_alloc_last W _,Nat.le_refl _,by decide,rfl,rfl⟩⟩
theorem rb_cellsB {W:World} {g:Nat} {l:List UInt8} {t:TypeId} (h:W.heap[g]? = some (.cells (cellsB l) t (0,0))) (hl:l.length=512):RB W.heap.size W (some ⟨g,0,none⟩) 512 512 l :=
 ⟨hl.symm,Nat.le_refl _,by omega,by omega,fun _=>⟨g,0,rfl,(Array.getElem?_eq_some_iff.1 h).1,fun i hi=>by
  have:=bv_getD l i (by omega);rw[Nat.zero_add,cell_of_row _ _ i (cellsB l) t (0,0) h];unfold cellsB;simpa using this⟩⟩
theorem dread_facts (w w2:World) (l:List UInt8) (hb:Below w.heap.size w w2) (hl:l.length=512) :
  OB w.heap.size ((w2.alloc (.cells (cellsB l) 163)).alloc (.cells #[] 5)) (.slice (some ⟨w2.heap.size+1,0,none⟩) 0 0) [] /\
  RB ((w2.alloc (.cells (cellsB l) 163)).alloc (.cells #[] 5)).heap.size ((w2.alloc (.cells (cellsB l) 163)).alloc (.cells #[] 5)) (some ⟨w2.heap.size,0,none⟩) 512 512 l /\
  Below w.heap.size w ((w2.alloc (.cells (cellsB l) 163)).alloc (.cells #[] 5)):=by
 have h1:=OB.emp w.heap.size (w2.alloc (.cells (cellsB l) 163)) (by rw[World.size_alloc];have:=hb.size;omega);rw[World.size_alloc] at h1;refine⟨h1,rb_cellsB (t:=163) ?_ hl,(hb.alloc hb.size _).alloc (by have:=hb.size;simp;omega) _⟩;rw[(Go.MapKept.heap_alloc _ _).2 _ (by rw[World.size_alloc];omega)];exact heap_alloc_last w2 _
theorem dread_any (d s o k:Nat) (K:DK) (i:Int) (w:World) (h:DiskR w d s o k K) (hi1:-9223372036854775808<=i) (hi2:i<=9223372036854775807) :
  Calls Tryz.prog 34 #[.pointer (some ⟨d,0,none⟩),.int .i64 i] w fun e w' =>
   (K.may i≠0/\e=.returned (.tuple #[.slice none 0 0,.int .i64 (K.may i)])/\w'=w)∨(K.may i=0/\∃ v,e=.returned (.tuple #[v,.int .i64 0])/\OB w.heap.size w' v (K.latest i)/\Below w.heap.size w w'):=by
 have HM:=φ (may_any d s o k K i w h);have HL:=φ (latest_any d s o k K i w h hi1 hi2);have hl:=h.ok.latest i;have hz:=zero_sector;by_cases hm:K.may i=0
 ·have hd:=h.lt (.inl rfl);rw[hm] at HM;have hcs:=cellsB_size (K.latest i);have hi0:(Tryz.prog.info? 163).map (·.size)=some (cellsB (K.latest i)).size:=by rw[hcs,hl];exact size_sector
  have hst:=φ fun W:World=>run_storeAt_new (P:=Tryz.prog) W 163 (cellsB zB) (cellsB (K.latest i)) hi0 (by rw[cellsB_size,zB_len,hcs,hl]) (one_cellsB _)
  have Hl:=φ hl;have Hm:=φ hm;clear h hm hl hcs hi0;simp only[arrV] at *;generalize K.latest i=l at *;go_enter Tryz.func34,Tryz.ntmps34;go_wp2_with (first|(go_at_call 80;refine HM.out.mono ?_;rintro e w1 ⟨rfl,hw1⟩;replace hw1:=hw1.symm;subst hw1)|(go_at_call 81;refine HL.out.mono ?_;rintro e w2 ⟨rfl,hb2⟩;have B2:=φ hb2;have S2:=hst.out w2;obtain⟨o2,r2,b2⟩:=dread_facts w w2 l hb2 Hl.out;have O2:=φ o2;have R2:=φ r2;have BA:=φ b2;clear hb2 o2 r2 b2)|refine wpList_store_run S2 rfl _ _ rfl rfl rfl ?_|(at_builtin;refine wpList_append_bytes rfl _ _ rfl w.heap.size _ _ [] rfl O2.out _ _ _ l rfl R2.out (by have:=Hl.out;simp only[List.length_nil];omega) BA.out.size ?_;intro v3 w3 ho3 hg3 hn3;have O3:=φ ho3;have B3:=φ (BA.out.grown hg3 BA.out.size (fun k e=>by cases e;have:=B2.out.size;simp only;omega));clear ho3 hg3 hn3));go_ret2;exact .inr ⟨Hm.out,_,rfl,by simpa using O3.out,B3.out⟩
 ·have HS:Hid (K.may i≠0):=φ hm;have e0:(K.may i == 0)=false:=by simpa using hm
  clear hm h hl;generalize K.may i=m at *;go_enter Tryz.func34,Tryz.ntmps34;go_wp2_with (go_at_call 80;refine HM.out.mono ?_;rintro e w1 ⟨rfl,hw1⟩;replace hw1:=hw1.symm;subst hw1);go_ret2;exact .inl ⟨HS.out,rfl,rfl⟩
end
section
set_option maxHeartbeats 1000000
set_option maxRecDepth 100000
open Go.RowKit
theorem get_any (N b o n c:Nat) (L:List UInt8) (at_ size:Nat) (w:World) (hr:RB N w (some ⟨b,o,none⟩) n c L) (ha:at_+size<=n) (hn:n<=512) (h0:0<size) (hs:∀ j,j<size->numL ((L.drop at_).take j)<36028797018963968) :
  Calls Tryz.prog 121 #[.slice (some ⟨b,o,none⟩) n c,.int .i64 at_,.int .i64 size] w fun e w'=>e=.returned (.int .i64 (numL ((L.drop at_).take size)))/\w'=w:=by
 have hle:=hr.le;have hmx:=hr.mx;have Hlen:=φ hr.len;have HS:=φ hs;have HRB:=φ hr;have e1:IntKind.i64.wrap ((at_:Int)+size)=(at_:Int)+size:=IntWalk.i64_in _ (by omega);have hca:¬ c=at_:=by omega
 clear hr hs;go_enter Tryz.func121,Tryz.ntmps121;go_wp2_with (fail);go_loopw [7,17] (fun s i wr=>∃ j:Nat,j<=size/\i=.int .i64 j/\s=.int .i64 (numL ((L.drop at_).take j))/\wr=w) (fun _ i _=>size-(intOf i).toNat)
 case atStart=>exact⟨0,by omega,rfl,rfl,rfl⟩
 case round =>
  obtain⟨j,hj,rfl,rfl,rfl⟩:=hrel;by_cases hlt:j<size
  ·obtain⟨b',o',e0,-,hcell⟩:=HRB.out.at_ (by omega)
   cases e0
   have g0:=hcell (at_+j) (by omega);rw[<- Nat.add_assoc] at g0;have hlenL:=Hlen.out;have hbt:bt (L.drop at_) j=bt L (at_+j):=by unfold bt;rw[List.getD_eq_getElem?_getD,List.getElem?_drop,List.getD_eq_getElem?_getD]
   have hnx0:=numL_take (L.drop at_) j (by rw[List.length_drop];omega);rw[hbt] at hnx0;have hvb:=HS.out j hlt;clear hcell hlenL hbt;obtain⟨v,hv⟩:∃ v,v=numL ((L.drop at_).take j):=⟨_,rfl⟩
   rw[<- hv] at hvb hnx0 ⊢;have HNx:=φ hnx0;clear hv hnx0;have hor:=or256 v (bt L (at_+j)).toNat hvb (by have:=bt_bd L (at_+j);omega);have hbj:((bt L (at_+j)).toNat:Int)=bt L (at_+j):=by have:=bt_bd L (at_+j);omega
   rw[hbj] at hor;go_wp2_with (fail);go_roundw
   case rel=>exact⟨j+1,by omega,by go_num,by rw[HNx.out];congr 1,trivial⟩
   case measure=>simp[intOf];omega
  ·obtain rfl:j=size:=by omega
   go_wp2_with (fail);go_ret;exact⟨rfl,rfl⟩
theorem zB_num (a s:Nat):numL ((zB.drop a).take s)=0:=by
 unfold zB;rw[List.drop_replicate,List.take_replicate];generalize min s (512-a)=n
 induction n with
 | zero=>rfl
 | succ n ih =>
  rw[List.replicate_succ',numL_snoc,ih];rfl
theorem read_fresh (N:Nat) (a:Option Addr) (c:Nat) (t:Int) (w:World) (hr:RB N w a 512 c zB) :
  Calls Tryz.prog 72 #[.slice a 512 c,.int .i64 0,.int .i64 t] w fun e w'=>e=.returned (.tuple #[.pointer none,.bool false])/\Below w.heap.size w w':=by
 obtain⟨b,o,rfl,-,-⟩:=hr.at_ (by have:=hr.le;omega);have G:∀ (x s:Nat),x+s<=512->0<s->Calls Tryz.prog 121 #[.slice (some ⟨b,o,none⟩) 512 c,.int .i64 x,.int .i64 s] w fun e w'=>e=.returned (.int .i64 0)/\w'=w:=fun x s h1 h2=>by
  have:=get_any N b o 512 c zB x s w hr h1 (Nat.le_refl _) h2 (fun j _=>by rw[zB_num];omega);rw[zB_num] at this;exact this
 have G1:Hid (Calls Tryz.prog 121 #[.slice (some ⟨b,o,none⟩) 512 c,.int .i64 0,.int .i64 8] w fun e w'=>e=.returned (.int .i64 0)/\w'=w):=φ (G 0 8 (by omega) (by omega));have G2:Hid (Calls Tryz.prog 121 #[.slice (some ⟨b,o,none⟩) 512 c,.int .i64 8,.int .i64 4] w fun e w'=>e=.returned (.int .i64 0)/\w'=w):=φ (G 8 4 (by omega) (by omega));have G3:Hid (Calls Tryz.prog 121 #[.slice (some ⟨b,o,none⟩) 512 c,.int .i64 12,.int .i64 2] w fun e w'=>e=.returned (.int .i64 0)/\w'=w):=φ (G 12 2 (by omega) (by omega));have G4:Hid (Calls Tryz.prog 121 #[.slice (some ⟨b,o,none⟩) 512 c,.int .i64 14,.int .i64 2] w fun e w'=>e=.returned (.int .i64 0)/\w'=w):=φ (G 14 2 (by omega) (by omega));clear G hr;go_enter Tryz.func72,Tryz.ntmps72;go_wp2_with (go_at_call 121;(first|(with_reducible refine G1.out.mono ?_)|(with_reducible refine G2.out.mono ?_)|(with_reducible refine G3.out.mono ?_)|(with_reducible refine G4.out.mono ?_));rintro e w1 ⟨rfl,hw1⟩;subst hw1);go_ret2;exact⟨rfl,(Below.refl _ _).alloc (Nat.le_refl _) _⟩
end
section
set_option maxHeartbeats 4000000
set_option maxRecDepth 100000
open Go.RowKit
theorem sector_cells (w:World) (l:Nat) (f c x:Int) (c1:w.cell? ⟨l,1,none⟩=some (.int .i64 f)) (c2:w.cell? ⟨l,2,none⟩=some (.int .i64 c)) (hf1:0<=f) (hf2:f<=8192) (hc1:4<=c) (hc2:c<=8192) (h1:0<=x) (_h2:x<=2251799813693440) :
  Calls Tryz.prog 71 #[.pointer (some ⟨l,0,none⟩),.int .i64 x] w fun e w'=>e=.returned (.int .i64 (f+x.tmod c))/\w'=w.drew:=by
 have hm1:0<=x.tmod c:=Int.tmod_nonneg _ h1;have hm2:x.tmod c<c:=Int.tmod_lt_of_pos _ (by omega);have e0:IntKind.i64.wrap (x.tmod c)=x.tmod c:=IntWalk.i64_in _ (by omega);have e1:IntKind.i64.wrap (f+x.tmod c)=f+x.tmod c:=IntWalk.i64_in _ (by omega);have e2:(c == 0)=false:=by simp;omega
 have e3:¬ c=0:=by omega
 go_enter Tryz.func71,Tryz.ntmps71;go_wp2_with (fail);go_still (by kernel_rfl);go_wp2_with (fail);go_ret;exact⟨rfl,rfl⟩
def LK.fresh (c:Int):LK:=⟨0,c,1,1,[⟨0,1,0,0,[],0,true⟩],[]⟩
theorem LK.Ok.fresh {c:Int} (h1:4<=c) (h2:c<=8192):(LK.fresh c).Ok 0:=by
 refine⟨by simp[LK.fresh],⟨0,Int.le_refl _,by omega,fun j s hj=>?_⟩,fun s hs=>?_,by simp[LK.fresh],by simp[LK.fresh],h1,h2,by simp[LK.fresh],by simp[LK.fresh],?_,by simp[LK.fresh],by simp[LK.fresh],by simp[LK.fresh],fun hw=>?_,fun s hs=>?_⟩
 ·match j,hj with
  | 0,hj=>cases hj;rfl
 ·simp only[LK.fresh,List.mem_singleton] at hs;subst hs;simp
 ·show ((1:Nat):Int)<=c-1;omega
 ·obtain⟨s,hs,hlt⟩:=hw;simp only[LK.fresh,List.mem_singleton] at hs;subst hs;simp at hlt
 ·simp only[LK.fresh,List.mem_singleton] at hs;subst hs;simp
def OpenG (d:Nat) (c:Int) (w:World) (e:Ending) (w':World):Prop:=∃ l U,e=.returned (.tuple #[.pointer (some ⟨l,0,none⟩),.int .i64 0])/\LogR w' U l d 0 (LK.fresh c)/\Below w.heap.size w w'/\∀ i,U i->w.heap.size<=i
theorem open_fresh (d s o k:Nat) (D:DK) (c:Int) (w:World) (hD:DiskR w d s o k D) (hm:D.may 0=0) (hz:D.latest 0=zB) (h1:4<=c) (h2:c<=D.n) :
  Calls Tryz.prog 23 #[.pointer (some ⟨d,0,none⟩),.int .i64 0,.int .i64 c,.int .i64 1,.int .i64 1] w (OpenG d c w):=by
 have hn1:=hD.ok.n1;have hn2:=hD.ok.n2;have HSec:Hid (Calls Tryz.prog 70 #[.pointer (some ⟨d,0,none⟩)] w fun e w'=>e=.returned (.int .i64 D.n)/\w'=w):=φ (sectors_any d s o k D w hD);have hc1:(w.alloc (logObj (LK.fresh c) d (.slice none 0 0) (.slice none 0 0))).cell? ⟨w.heap.size,1,none⟩=some (.int .i64 0):=cell_of_row _ _ 1 _ _ _ (heap_alloc_last w _);have hc2:(w.alloc (logObj (LK.fresh c) d (.slice none 0 0) (.slice none 0 0))).cell? ⟨w.heap.size,2,none⟩=some (.int .i64 c):=cell_of_row _ _ 2 _ _ _ (heap_alloc_last w _);have HS:Hid (Calls Tryz.prog 71 #[.pointer (some ⟨w.heap.size,0,none⟩),.int .i64 0] (w.alloc (logObj (LK.fresh c) d (.slice none 0 0) (.slice none 0 0))) fun e w'=>e=.returned (.int .i64 0)/\w'=(w.alloc (logObj (LK.fresh c) d (.slice none 0 0) (.slice none 0 0))).drew):=φ (by
  have:=sector_cells _ w.heap.size 0 c 0 hc1 hc2 (by omega) (by omega) h1 (by omega) (by omega) (by omega);rw[Int.zero_tmod,Int.add_zero] at this;exact this)
 have hB:=((Below.refl w.heap.size w).alloc (Nat.le_refl _) (logObj (LK.fresh c) d (.slice none 0 0) (.slice none 0 0))).drew;have HRd:Hid (Calls Tryz.prog 34 #[.pointer (some ⟨d,0,none⟩),.int .i64 0] (w.alloc (logObj (LK.fresh c) d (.slice none 0 0) (.slice none 0 0))).drew fun e w'=>∃ v,e=.returned (.tuple #[v,.int .i64 0])/\OB (w.alloc (logObj (LK.fresh c) d (.slice none 0 0) (.slice none 0 0))).drew.heap.size w' v zB/\Below (w.alloc (logObj (LK.fresh c) d (.slice none 0 0) (.slice none 0 0))).drew.heap.size (w.alloc (logObj (LK.fresh c) d (.slice none 0 0) (.slice none 0 0))).drew w'):=φ (by
  refine (dread_any d s o k D 0 _ (hD.keep fun i hi=>hB.block i (hD.lt hi)) (by omega) (by omega)).mono ?_;rintro e w' (⟨h,-⟩|⟨-,v,h3,h4,h5⟩)
  ·exact absurd hm h
  ·exact⟨v,h3,by rw[<- hz];exact h4,h5⟩)
 have g1:decide (c<4)=false:=decide_eq_false (by omega);have g2:(D.n == 0)=false:=by simp;omega
 have g3:decide ((0:Int) > D.n)=false:=decide_eq_false (by omega);have g4:decide (c > D.n)=false:=decide_eq_false (by omega);have g5:IntKind.i64.wrap D.n=D.n:=IntWalk.i64_in _ (by omega);have g6:IntKind.i64.wrap (c-1)=c-1:=IntWalk.i64_in _ (by omega);have g7:(0:Int)<c-1:=by omega
 have Hcn:Hid (4<=c/\c<=8192):=φ ⟨h1,by omega⟩;clear hm hz hB hD;unfold logObj LK.fresh ptr li at *;simp only at HS HRd hc1 hc2;generalize D.n=n at *;go_enter Tryz.func23,Tryz.ntmps23;go_wp2_with (first|(go_at_call 70;refine HSec.out.mono ?_;rintro e w1 ⟨rfl,hw1⟩;replace hw1:=hw1.symm;subst hw1));obtain⟨W0,hW0⟩:∃ W0,W0=w.alloc (.cells #[.pointer (some ⟨d,0,none⟩),.int .i64 0,.int .i64 c,.int .i64 1,.int .i64 1,.slice none 0 0,.slice none 0 0] 109):=⟨_,rfl⟩
 have hX0:W0.heap[w.heap.size]? = some (.cells #[.pointer (some ⟨d,0,none⟩),.int .i64 0,.int .i64 c,.int .i64 1,.int .i64 1,.slice none 0 0,.slice none 0 0] 109 (0,0)):=by rw[hW0];exact heap_alloc_last w _
 have hB0:Below w.heap.size w W0:=by rw[hW0];exact (Below.refl _ _).alloc (Nat.le_refl _) _
 have hs0:W0.heap.size=w.heap.size+1:=by rw[hW0,World.size_alloc]
 rw[<- hW0] at HS HRd hc1 hc2 ⊢;have HX0:=φ hX0;have HB0:=φ hB0;have HS0:=φ hs0;have m5:W0.cell? ⟨w.heap.size,5,none⟩=some (.slice none 0 0):=cell_of_row _ _ 5 _ _ _ hX0;have hlt0:w.heap.size<W0.heap.size:=by omega
 clear hW0 hX0 hB0 hs0;go_loopw [15] (fun i wr=>i=.int .i64 0/\Hid (wr=W0)) (fun _ _=>0)
 case atStart=>exact⟨rfl,φ rfl⟩
 case round =>
  obtain⟨rfl,HW⟩:=hrel;have hw:=HW.out;subst hw;clear HW;go_upto_region 25 with (first|(go_at_call 71;refine HS.out.mono ?_;rintro e w1 ⟨rfl,hw1⟩;subst hw1)|(go_at_call 34;refine HRd.out.mono ?_;rintro e w2 ⟨v2,rfl,ho2,hb2⟩;obtain⟨a2,d2,rfl,hr2⟩:=ho2.rb (by rw[zB_len];omega);rw[zB_len] at hr2;rw[zB_len];have B2:=φ ((Below.refl _ wr).drew.trans hb2);have HRf:=φ (read_fresh w2.heap.size a2 d2 1 w2 hr2);clear ho2 hb2 hr2)|(go_at_call 72;refine HRf.out.mono ?_;rintro e w3 ⟨rfl,hb3⟩;have B3:=φ (B2.out.trans (hb3.mono B2.out.size));have l5:w3.cell? ⟨w.heap.size,5,none⟩=some (.slice none 0 0):=(B3.out.cell (p:=⟨w.heap.size,5,none⟩) hlt0).trans m5;have X3:=φ ((B3.out.block _ hlt0).trans HX0.out);clear hb3));obtain⟨i0,hi,hz0,hz1,hz2⟩:=info_parts Tryz.infoU8;have hmk:=run_make (P:=Tryz.prog) w3 27 5 i0 _ Tryz.underlying27 hi hz0 .i64 .i64 0 0 (by decide) (by decide) (by rw[hz2];decide) (by decide);rw[hz1] at hmk;clear hi hz0 hz1 hz2;go_upto_region 27 with (fail);obtain⟨W5,hW5⟩:∃ W5,W5=((w3.alloc (.cells (madeCells #[.int .u8 0] 0) 5)).alloc (.cells #[.int .i64 0,.int .i64 1,.int .i64 0,.int .i64 0,.slice (some ⟨w3.heap.size,0,none⟩) 0 0,.int .i64 0,.bool true] 105)):=⟨_,rfl⟩
  have hlt3:=ξ X3.out;have hXl:W5.heap[w.heap.size]? = some (logObj (LK.fresh c) d (.slice none 0 0) (.slice none 0 0)):=by
   rw[hW5,alloc_old (by rw[World.size_alloc];omega),alloc_old hlt3];exact X3.out
  have hXg:W5.heap[w3.heap.size]? = some (.cells #[] 5 (0,0)):=by
   rw[hW5,alloc_old (by rw[World.size_alloc];omega),show madeCells #[Value.int .u8 0] 0=#[] from Array.ext' (toList_madeCells_one _ _)];exact heap_alloc_last w3 _
  have hXq:W5.heap[w3.heap.size+1]? = some (shObj ⟨0,1,0,0,[],0,true⟩ (.slice (some ⟨w3.heap.size,0,none⟩) 0 0)):=by
   rw[hW5];have:=heap_alloc_last (w3.alloc (.cells (madeCells #[.int .u8 0] 0) 5)) (.cells #[.int .i64 0,.int .i64 1,.int .i64 0,.int .i64 0,.slice (some ⟨w3.heap.size,0,none⟩) 0 0,.int .i64 0,.bool true] 105);rw[World.size_alloc] at this;exact this
  have hBw3:=HB0.out.trans (B3.out.mono (Nat.le_of_lt hlt0));have hB5:Below w.heap.size w W5:=by rw[hW5];exact ((hBw3.alloc hBw3.size _).alloc (by rw[World.size_alloc];have:=hBw3.size;omega) _)
  rw[<- hW5];have n5:W5.cell? ⟨w.heap.size,5,none⟩=some (.slice none 0 0):=cell_of_row _ _ 5 _ _ _ hXl;have XL:=φ hXl;have XG:=φ hXg;have XQ:=φ hXq;have B5:=φ hB5;have hg3:w.heap.size<w3.heap.size:=hlt3;clear hmk hW5 hXl hXg hXq hB5 hBw3 l5 hlt3;generalize w3.heap.size=g at *;clear X3 B3 m5 hc1 hc2;clear HRf B2;go_wp2_with (first|(at_builtin;refine wpList_append_one rfl _ _ rfl Tryz.underlying106 info_psheet rfl (.slice none 0 0) 0 [] rfl (World.ownsRow_nil _ _ _ _) W5.heap.size _ (ptr (g+1)) rfl (by simp[go_sem,ptr]) rfl (by omega) ?_;intro v6 w6 ho6 hg6 ha6;obtain⟨a6,m6,e6,rfl⟩:=own_slice ho6;have L6:=φ ((hg6.block w.heap.size (Nat.lt_of_lt_of_le (ξ XL.out) (by rw[World.size_alloc];omega)) (by simp[Value.ownBlock])).trans ((alloc_old (ξ XL.out)).trans XL.out));have G6:=φ ((hg6.block g (Nat.lt_of_lt_of_le (ξ XG.out) (by rw[World.size_alloc];omega)) (by simp[Value.ownBlock])).trans ((alloc_old (ξ XG.out)).trans XG.out));have Q6:=φ ((hg6.block (g+1) (Nat.lt_of_lt_of_le (ξ XQ.out) (by rw[World.size_alloc];omega)) (by simp[Value.ownBlock])).trans ((alloc_old (ξ XQ.out)).trans XQ.out));have B6:=φ ((B5.out.alloc B5.out.size (.cells #[ptr (g+1)] 100)).grown hg6 (by rw[World.size_alloc];have:=B5.out.size;omega) (fun k e=>by cases e));have O6:=φ ho6;have A6:=φ ha6;have f6:w6.frozen? ⟨w.heap.size,5,none⟩=false:=(by simp[World.frozen?,L6.out,logObj]);have c6:w6.cell? ⟨w.heap.size,5,none⟩=some (.slice none 0 0):=cell_of_row _ _ 5 _ _ _ L6.out;clear ho6 hg6 ha6));go_ret2;refine⟨w.heap.size,fun i=>w.heap.size<=i/\i<(w6.setCell ⟨w.heap.size,5,none⟩ (.slice a6 m6 e6)).heap.size,rfl,?_,B6.out.setCell (p:=⟨w.heap.size,5,none⟩) (Nat.le_refl _) _,fun i hi=>hi.1⟩;have hsz:∀ i,i<w6.heap.size->i<(w6.setCell ⟨w.heap.size,5,none⟩ (.slice a6 m6 e6)).heap.size:=fun i hi=>by rw[size_set];exact hi
  have hl:=ξ L6.out;have hg:=ξ G6.out;have hq:=ξ Q6.out;have hB:w.heap.size<=w6.heap.size:=B6.out.size;refine LF.log (sv:=.slice a6 m6 e6) (tv:=.slice none 0 0) (P:=fun _=>g+1) (V:=fun _=>.slice (some ⟨g,0,none⟩) 0 0) ⟨set_at L6.out 5 _,?_,World.ownsRow_nil _ _ _ _,fun i hi=>?_,fun i j hi hj hij=>?_,⟨Nat.le_refl _,hsz _ hl⟩,fun b hb=>?_,fun b hb=>(by cases hb),fun i _=>⟨by omega,hsz _ hq⟩,fun i _ b hb=>?_,fun i hi=>hi.2,LK.Ok.fresh Hcn.out.1 Hcn.out.2⟩
  ·have:(w6.setCell ⟨w.heap.size,5,none⟩ (.slice a6 m6 e6)).ownsRow 0 100 1 (.slice a6 m6 e6) (0+1) ([]++[ptr (g+1)]):=ωK O6.out fun b hb=>by
    obtain⟨cc,hcc⟩:=own_tag O6.out hb;exact set_ne (fun e=>by subst e;exact tag_ne hcc L6.out (by decide))
   exact this
  ·have h0:i=0:=by
    have:i<1:=hi;omega
   subst h0;exact⟨(set_ne (by omega)).trans Q6.out,⟨rfl,.inr ⟨g,0,#[],rfl,Nat.zero_le _,(set_ne (by omega)).trans G6.out,Nat.le_refl _,by decide,rfl,rfl⟩⟩⟩
  ·have h1:i<1:=hi;have h2:j<1:=hj;omega
  ·rcases A6.out with e|e
   ·rw[e] at hb;cases hb
   ·rw[e] at hb
    cases hb
    obtain⟨cc,hcc⟩:=own_tag O6.out e;have h1:=ξ XQ.out;refine⟨?_,hsz _ (ξ hcc)⟩;show w.heap.size<=_;rw[World.size_alloc];omega
  ·cases hb
   exact⟨Nat.le_of_lt hg3,hsz _ hg⟩
end
end Go.Proofs.YtohlkkannjifmaaGreatDoor
