import Derived.Test.YtohlkkannjifmaaGreatDoorOWell2
import Derived.Shelf.Bytes.WriteByteAt
import Derived.Shelf.Bytes.WriteAt
import Derived.Shelf.SlicesG.SearchI
import Derived.Test.YtohlkkannjifmaaGreatDoorProg
import Derived.StillTailTactics
namespace Go.Proofs.YtohlkkannjifmaaGreatDoor
section
set_option maxRecDepth 100000
open Go.RowKit
theorem LogR.view {w:World} {U:Nat->Prop} {l d k:Nat} {L:LK} (h:LogR w U l d k L) :
  ∃ (g cap:Nat) (tv:Value) (T:List (Nat×Value×ShV)) (p:Nat) (v:Value),w.heap[l]? = some (.cells #[ptr d,li L.first,li L.count,li L.turn,li L.oldest,.slice (some ⟨g,0,none⟩) (T.length+1) cap,tv] 109 (0,0)) /\
   T.length+1<=cap/\L.sheets.length=T.length+1/\w.cell? ⟨g,T.length,none⟩=some (ptr p)/\ShR w p v L.last/\(∀ i,i<T.length+1->∃ q,w.cell? ⟨g,i,none⟩=some (ptr q)):=by
 obtain⟨sv,tv,T,h1,h2,h3,h4,h5,h6,h7,h8,h9,h10,h11⟩:=h.mm;rcases List.eq_nil_or_concat T with rfl|⟨T',x,rfl⟩
 ·exact absurd h1 h.ok.ne
 have e:L.last=x.2.2:=by unfold LK.last;rw[h1];simp
 have hcs:=h3;obtain⟨-,⟨-,h0⟩|⟨g,cap,cur,rfl,-,-,hle,-⟩⟩:=h3
 ·simp at h0
 simp only[List.concat_eq_append,List.length_append,List.length_cons,List.length_nil,Nat.zero_add] at *;have hc:=hcs.cells (g:=g) rfl;refine⟨g,cap,tv,T',x.1,x.2.1,h2,hle,by rw[h1];simp,?_,by rw[e];exact h5 x (by simp),fun i hi=>?_⟩
 ·have:=hc T'.length (ptr x.1) (by simp);rw[Addr.add_mid,Nat.zero_add] at this;exact this
 ·have hj:i<((T'++[x]).map fun x=>ptr x.1).length:=by simp;omega
  have h12:=hc i _ (List.getElem?_eq_getElem hj);rw[List.getElem_map,Addr.add_mid,Nat.zero_add] at h12;exact⟨_,h12⟩
theorem last_any (w:World) (U:Nat->Prop) (l d k:Nat) (L:LK) (h:LogR w U l d k L) :
  Calls Tryz.prog 43 #[ptr l] w fun e w'=>∃ p v,e=.returned (ptr p)/\ShR w p v L.last/\w'=w.drew:=by
 obtain⟨g,cap,tv,T,p,v,hb,hle,hn,hc,hs,-⟩:=h.view;have c5:w.cell? ⟨l,5,none⟩=some (.slice (some ⟨g,0,none⟩) (T.length+1) cap):=by simp[World.cell?,hb]
 have HS:=φ hs;have hsz:L.sheets.length<=8191:=by have:=h.ok.ct;have:=h.ok.c2;omega
 clear h hb hs;unfold ptr at *;have e1:IntKind.i64.wrap ((T.length:Int)+1-1)=(T.length:Int):=by rw[IntWalk.i64_in _ (by omega)];omega
 have e2:IntKind.i64.wrap (T.length:Int)=(T.length:Int):=IntWalk.i64_in _ (by omega);have e3:(T.length:Int)<(T.length:Int)+1:=by omega
 generalize T.length=n at *;go_enter Tryz.func43,Tryz.ntmps43;go_wp2_with (fail);go_still (by kernel_rfl);go_wp2_with (fail);go_ret;exact⟨p,v,rfl,HS.out,rfl⟩
theorem more_any (w:World) (U:Nat->Prop) (l d k:Nat) (L:LK) (h:LogR w U l d k L) :
  Calls Tryz.prog 44 #[ptr l] w fun e w'=>e=.returned (li L.more)/\w'=w.drew:=by
 obtain⟨g,cap,tv,T,p,v,hb,hle,hn,hc,hs,-⟩:=h.view;have c2:w.cell? ⟨l,2,none⟩=some (.int .i64 L.count):=by simp[World.cell?,hb,li]
 have c5:w.cell? ⟨l,5,none⟩=some (.slice (some ⟨g,0,none⟩) (T.length+1) cap):=by simp[World.cell?,hb]
 have hsz:=h.ok.ct;have h1:=h.ok.c1;have h2:=h.ok.c2;have e0:L.more=L.count-1-((T.length:Int)+1):=by unfold LK.more;rw[hn];omega
 rw[e0];clear h hb hs e0;unfold ptr li at *;have e1:IntKind.i64.wrap (L.count-1)=L.count-1:=IntWalk.i64_in _ (by omega);have e2:IntKind.i64.wrap (L.count-1-((T.length:Int)+1))=L.count-1-((T.length:Int)+1):=IntWalk.i64_in _ (by omega);generalize T.length=n at *;generalize L.count=m at *;go_enter Tryz.func44,Tryz.ntmps44;go_wp2_with (fail);go_still (by kernel_rfl);go_wp2_with (fail);go_ret;exact⟨rfl,rfl⟩
theorem end_any (w:World) (U:Nat->Prop) (l d k:Nat) (L:LK) (h:LogR w U l d k L) :
  Calls Tryz.prog 47 #[ptr l] w fun e w'=>e=.returned (li L.end_)/\w'=w.drew:=by
 obtain⟨g,cap,tv,T,p,v,hb,hle,hn,hc,hs,-⟩:=h.view;have HT:=φ (lthere_any w l d (by simp[World.cell?,hb]));have HL:=φ (last_any w U l d k L h);have Hbd:=φ h.ok.end_bd;clear h hb hs hc;unfold LK.end_;unfold ptr li at *;go_enter Tryz.func47,Tryz.ntmps47;go_wp2_with (first|(go_at_call 41;refine HT.out.mono ?_;rintro e w1 ⟨rfl,hw1⟩;replace hw1:=hw1.symm;subst hw1)|(go_at_call 43;refine HL.out.mono ?_;rintro e w2 ⟨p2,v2,rfl,hs2,hw2⟩;subst hw2;have S2:=φ hs2;obtain⟨a2,c2,rfl,hr2⟩:=hs2.body.rb (by have:=Hbd.out;omega);have c1:w.drew.cell? ⟨p2,4,none⟩=some (.slice a2 L.last.body.length c2):=(by have hh:w.drew.heap[p2]? = _:=hs2.blk;simp[World.cell?,hh]);have HN:=φ (lsn_any w.drew p2 _ L.last L.last.body.length ⟨hs2.blk,hs2.body⟩ Hbd.out.1 Hbd.out.2.1 (by omega) (by have:=Hbd.out;omega));clear hs2 hr2)|(go_at_call 45;refine HN.out.mono ?_;rintro e w3 ⟨rfl,hw3⟩;replace hw3:=hw3.symm;subst hw3));go_ret;exact⟨rfl,rfl⟩
end
section
open Go.Proofs Go.Shelf
def Tryz.laysM251_ren:Go.Shelf.Ren:=⟨fun|251=>135|n=>n,fun|130=>241|3=>3|4=>4|0=>0|93=>191|37=>27|91=>189|5=>5|n=>n,fun|n=>n⟩
theorem Tryz.laysM251:Go.Proofs.LaysM.n251 Tryz.prog Tryz.laysM251_ren:={
 mixed:=by kernel_rfl
 f251:=Tryz.func135.trans (congrArg some (by kernel_rfl))
 t0:=Tryz.underlying0
 a0:=Tryz.isAgg0
 z0:=Tryz.sizeOf0
 v0:=Tryz.zeroValue0
 t3:=Tryz.underlying3
 a3:=Tryz.isAgg3
 z3:=Tryz.sizeOf3
 v3:=Tryz.zeroValue3
 t4:=Tryz.underlying4
 a4:=Tryz.isAgg4
 z4:=Tryz.sizeOf4
 v4:=Tryz.zeroValue4
 t37:=Tryz.underlying27
 a37:=Tryz.isAgg27
 z37:=Tryz.sizeOf27
 v37:=Tryz.zeroValue27
 t93:=Tryz.underlying191
 a93:=Tryz.isAgg191
 z93:=Tryz.sizeOf191
 v93:=Tryz.zeroValue191
 t130:=Tryz.underlying241
 a130:=Tryz.isAgg241
 z130:=Tryz.sizeOf241
 v130:=Tryz.zeroValue241
 t5:=Tryz.underlying5
 a5:=Tryz.isAgg5
 z5:=Tryz.sizeOf5
 v5:=Tryz.zeroValue5
 t91:=Tryz.underlying189
 a91:=Tryz.isAgg189
 z91:=Tryz.sizeOf189
 v91:=Tryz.zeroValue189
 i0:=by kernel_rfl
 i3:=by kernel_rfl
 i4:=by kernel_rfl
 i5:=by kernel_rfl
 i37:=by kernel_rfl
 i91:=by kernel_rfl
 i93:=by kernel_rfl
 i130:=by kernel_rfl }
def Tryz.laysM179_ren:Go.Shelf.Ren:=⟨fun|179=>137|251=>135|252=>136|181=>209|184=>210|290=>211|324=>233|n=>n,fun|130=>241|5=>5|75=>195|0=>0|93=>191|91=>189|3=>3|131=>170|4=>4|37=>27|20=>20|80=>379|9=>9|n=>n,fun|14=>0|n=>n⟩
theorem Tryz.laysM179:Go.Proofs.LaysM.n179 Tryz.prog Tryz.laysM179_ren:={
 mixed:=by kernel_rfl
 f179:=Tryz.func137.trans (congrArg some (by kernel_rfl))
 f181:=Tryz.func209.trans (congrArg some (by kernel_rfl))
 f184:=Tryz.func210.trans (congrArg some (by kernel_rfl))
 f251:=Tryz.func135.trans (congrArg some (by kernel_rfl))
 f252:=Tryz.func136.trans (congrArg some (by kernel_rfl))
 f290:=Tryz.func211.trans (congrArg some (by kernel_rfl))
 f324:=Tryz.func233.trans (congrArg some (by kernel_rfl))
 t0:=Tryz.underlying0
 a0:=Tryz.isAgg0
 z0:=Tryz.sizeOf0
 v0:=Tryz.zeroValue0
 t3:=Tryz.underlying3
 a3:=Tryz.isAgg3
 z3:=Tryz.sizeOf3
 v3:=Tryz.zeroValue3
 t4:=Tryz.underlying4
 a4:=Tryz.isAgg4
 z4:=Tryz.sizeOf4
 v4:=Tryz.zeroValue4
 t5:=Tryz.underlying5
 a5:=Tryz.isAgg5
 z5:=Tryz.sizeOf5
 v5:=Tryz.zeroValue5
 t20:=Tryz.underlying20
 a20:=Tryz.isAgg20
 z20:=Tryz.sizeOf20
 v20:=Tryz.zeroValue20
 t37:=Tryz.underlying27
 a37:=Tryz.isAgg27
 z37:=Tryz.sizeOf27
 v37:=Tryz.zeroValue27
 t75:=Tryz.underlying195
 a75:=Tryz.isAgg195
 z75:=Tryz.sizeOf195
 v75:=Tryz.zeroValue195
 t91:=Tryz.underlying189
 a91:=Tryz.isAgg189
 z91:=Tryz.sizeOf189
 v91:=Tryz.zeroValue189
 t93:=Tryz.underlying191
 a93:=Tryz.isAgg191
 z93:=Tryz.sizeOf191
 v93:=Tryz.zeroValue191
 t130:=Tryz.underlying241
 a130:=Tryz.isAgg241
 z130:=Tryz.sizeOf241
 v130:=Tryz.zeroValue241
 t131:=Tryz.underlying170
 a131:=Tryz.isAgg170
 z131:=Tryz.sizeOf170
 v131:=Tryz.zeroValue170
 g14:=by kernel_rfl
 t9:=Tryz.underlying9
 a9:=Tryz.isAgg9
 z9:=Tryz.sizeOf9
 v9:=Tryz.zeroValue9
 t80:=Tryz.underlying379
 a80:=Tryz.isAgg379
 z80:=Tryz.sizeOf379
 v80:=Tryz.zeroValue379
 i0:=by kernel_rfl
 i3:=by kernel_rfl
 i4:=by kernel_rfl
 i5:=by kernel_rfl
 i9:=by kernel_rfl
 i20:=by kernel_rfl
 i37:=by kernel_rfl
 i75:=by kernel_rfl
 i80:=by kernel_rfl
 i91:=by kernel_rfl
 i93:=by kernel_rfl
 i130:=by kernel_rfl
 i131:=by kernel_rfl
 m14:=by kernel_rfl }
def Tryz.laysM180_ren:Go.Shelf.Ren:=⟨fun|180=>87|251=>135|252=>136|181=>209|184=>210|290=>211|324=>233|n=>n,fun|130=>241|37=>27|3=>3|75=>195|0=>0|93=>191|91=>189|131=>170|4=>4|20=>20|5=>5|80=>379|9=>9|n=>n,fun|14=>0|n=>n⟩
theorem Tryz.laysM180:Go.Proofs.LaysM.n180 Tryz.prog Tryz.laysM180_ren:={
 mixed:=by kernel_rfl
 f180:=Tryz.func87.trans (congrArg some (by kernel_rfl))
 f181:=Tryz.func209.trans (congrArg some (by kernel_rfl))
 f184:=Tryz.func210.trans (congrArg some (by kernel_rfl))
 f251:=Tryz.func135.trans (congrArg some (by kernel_rfl))
 f252:=Tryz.func136.trans (congrArg some (by kernel_rfl))
 f290:=Tryz.func211.trans (congrArg some (by kernel_rfl))
 f324:=Tryz.func233.trans (congrArg some (by kernel_rfl))
 t0:=Tryz.underlying0
 a0:=Tryz.isAgg0
 z0:=Tryz.sizeOf0
 v0:=Tryz.zeroValue0
 t3:=Tryz.underlying3
 a3:=Tryz.isAgg3
 z3:=Tryz.sizeOf3
 v3:=Tryz.zeroValue3
 t4:=Tryz.underlying4
 a4:=Tryz.isAgg4
 z4:=Tryz.sizeOf4
 v4:=Tryz.zeroValue4
 t20:=Tryz.underlying20
 a20:=Tryz.isAgg20
 z20:=Tryz.sizeOf20
 v20:=Tryz.zeroValue20
 t37:=Tryz.underlying27
 a37:=Tryz.isAgg27
 z37:=Tryz.sizeOf27
 v37:=Tryz.zeroValue27
 t75:=Tryz.underlying195
 a75:=Tryz.isAgg195
 z75:=Tryz.sizeOf195
 v75:=Tryz.zeroValue195
 t91:=Tryz.underlying189
 a91:=Tryz.isAgg189
 z91:=Tryz.sizeOf189
 v91:=Tryz.zeroValue189
 t93:=Tryz.underlying191
 a93:=Tryz.isAgg191
 z93:=Tryz.sizeOf191
 v93:=Tryz.zeroValue191
 t130:=Tryz.underlying241
 a130:=Tryz.isAgg241
 z130:=Tryz.sizeOf241
 v130:=Tryz.zeroValue241
 t131:=Tryz.underlying170
 a131:=Tryz.isAgg170
 z131:=Tryz.sizeOf170
 v131:=Tryz.zeroValue170
 g14:=by kernel_rfl
 t5:=Tryz.underlying5
 a5:=Tryz.isAgg5
 z5:=Tryz.sizeOf5
 v5:=Tryz.zeroValue5
 t9:=Tryz.underlying9
 a9:=Tryz.isAgg9
 z9:=Tryz.sizeOf9
 v9:=Tryz.zeroValue9
 t80:=Tryz.underlying379
 a80:=Tryz.isAgg379
 z80:=Tryz.sizeOf379
 v80:=Tryz.zeroValue379
 i0:=by kernel_rfl
 i3:=by kernel_rfl
 i4:=by kernel_rfl
 i5:=by kernel_rfl
 i9:=by kernel_rfl
 i20:=by kernel_rfl
 i37:=by kernel_rfl
 i75:=by kernel_rfl
 i80:=by kernel_rfl
 i91:=by kernel_rfl
 i93:=by kernel_rfl
 i130:=by kernel_rfl
 i131:=by kernel_rfl
 m14:=by kernel_rfl }
open Go.RowKit in
theorem Tryz.Buffer_tryGrow_at (T:TypeId) (R:Nat->Option Value) (B b q n:Nat) (bs:List Value) (w:World) (h:LibA.IsBuffer T R 5 B b q bs w) :
  Calls Tryz.prog 135 #[.pointer (some ⟨b,q,none⟩),.int .i64 n] w fun e w' =>
   (e=.returned (.tuple #[.int .i64 bs.length,.bool true])/\∃ xs,xs.length=n/\LibA.IsBuffer T R 5 B b q (bs++xs) w'/\Below B w w'/\Lib.OthersKept 5 (some b) w w'/\w.grownBy w' (some b)) ∨
   (e=.returned (.tuple #[.int .i64 0,.bool false])/\w'=w/\LibA.NoRoom b q n w):=Any.Buffer_tryGrow_at Tryz.laysM251 T R B b q n bs w h
open Go.RowKit in
theorem Tryz.Buffer_WriteByte_at (T:TypeId) (R:Nat->Option Value) (B b q:Nat) (bs:List Value) (c:Int) (w:World) (h:LibA.IsBuffer T R 5 B b q bs w) (hBw:B<=w.heap.size) (h1:∀ v∈bs,v.oneCell'=true) (hlim:bs.length+1<=140737488355328) :
  Calls Tryz.prog 137 #[.pointer (some ⟨b,q,none⟩),.int .u8 c] w fun e w'=>e=.returned .nilIface/\LibA.IsBuffer T R 5 B b q (bs++[.int .u8 c]) w'/\Below B w w'/\Lib.OthersKept 5 (some b) w w':=Any.Buffer_WriteByte_at Tryz.laysM179 T R B b q bs c w h hBw h1 hlim
open Go.RowKit in
theorem Tryz.Buffer_Write_at (T:TypeId) (R:Nat->Option Value) (B b q:Nat) (bs cs:List Value) (a:Addr) (n c:Nat) (w:World) (h:LibA.IsBuffer T R 5 B b q bs w) (hBw:B<=w.heap.size) (h1:∀ v∈bs,v.oneCell'=true) (hn:cs.length=n) (hab:a.block≠b) (hsrc:∀ j v,cs[j]? = some v->w.cell? (a.add j)=some v) (h1c:∀ v∈cs,v.oneCell'=true) (hlim:bs.length+n<=140737488355328) :
  Calls Tryz.prog 87 #[.pointer (some ⟨b,q,none⟩),.slice (some a) n c] w fun e w'=>e=.returned (.tuple #[.int .i64 n,.nilIface])/\LibA.IsBuffer T R 5 B b q (bs++cs) w'/\Below B w w'/\Lib.OthersKept 5 (some b) w w':=Any.Buffer_Write_at Tryz.laysM180 T R B b q bs cs a n c w h hBw h1 hn hab hsrc h1c hlim
def Tryz.laysSlN49_f74_ren:Go.Shelf.Ren:=⟨fun|49=>74|59=>123|60=>124|68=>185|n=>n,fun|22=>107|23=>2|3=>3|4=>4|51=>178|0=>0|n=>n,fun|n=>n⟩
theorem Tryz.laysSlN49_f74:Go.Proofs.SlLaysN.n49 Tryz.prog Tryz.laysSlN49_f74_ren:={
 mixed:=by kernel_rfl
 f49:=⟨Tryz.f74.name,by decide,Tryz.func74.trans (congrArg some (by kernel_rfl))⟩
 f59:=⟨Tryz.f123.name,by decide,Tryz.func123.trans (congrArg some (by kernel_rfl))⟩
 f60:=⟨Tryz.f124.name,by decide,Tryz.func124.trans (congrArg some (by kernel_rfl))⟩
 f68:=⟨Tryz.f185.name,by decide,Tryz.func185.trans (congrArg some (by kernel_rfl))⟩
 t0:=Tryz.underlying0
 a0:=Tryz.isAgg0
 z0:=Tryz.sizeOf0
 v0:=Tryz.zeroValue0
 t3:=Tryz.underlying3
 a3:=Tryz.isAgg3
 z3:=Tryz.sizeOf3
 v3:=Tryz.zeroValue3
 t4:=Tryz.underlying4
 a4:=Tryz.isAgg4
 z4:=Tryz.sizeOf4
 v4:=Tryz.zeroValue4
 t22:=Tryz.underlying107
 a22:=Tryz.isAgg107
 z22:=Tryz.sizeOf107
 v22:=Tryz.zeroValue107
 t23:=Tryz.underlying2
 a23:=Tryz.isAgg2
 z23:=Tryz.sizeOf2
 v23:=Tryz.zeroValue2
 t51:=Tryz.underlying178
 a51:=Tryz.isAgg178
 z51:=Tryz.sizeOf178
 v51:=Tryz.zeroValue178 }
open Go.RowKit Go.Lib in
theorem Tryz.slices_BinarySearch_int (b off n c:Nat) (zs:List Int) (x:Int) (w:World) (hz:n<=zs.length) (hbig:n<4611686018427387904) (hc:∀ j,j<zs.length->w.cell? ⟨b,off+j,none⟩=some (.int .i64 (zs.getD j 0))) (hs:(zs.take n).Pairwise (·<=·)) :
  Calls Tryz.prog 74 #[.slice (some ⟨b,off,none⟩) n c,.int .i64 x] w fun e w'=>e=.returned (.tuple #[.int .i64 ((zs.take n).countP (· < x):Nat),.bool ((zs.take n).contains x)])/\∃ q,w'=w.drewN q:=AnyG.slices_BinarySearch_int Tryz.laysSlN49_f74 b off n c zs x w hz hbig hc hs
end
section
set_option maxHeartbeats 1000000
set_option maxRecDepth 100000
open Go.RowKit
def WrR (B b:Nat) (l:List UInt8) (w:World):Prop:=LibA.IsBuffer 193 (fun _=>none) 5 B b 0 (l.map bv) w
theorem one_bv (l:List UInt8):∀ v∈l.map bv,v.oneCell'=true:=fun v hv=>by
 obtain⟨x,-,rfl⟩:=List.mem_map.1 hv;rfl
theorem byte_any (B b:Nat) (l:List UInt8) (x:UInt8) (w:World) (h:WrR B b l w) (hB:B<=w.heap.size) (hl:l.length+1<=140737488355328) :
  Calls Tryz.prog 137 #[.pointer (some ⟨b,0,none⟩),bv x] w fun e w'=>e=.returned .nilIface/\WrR B b (l++[x]) w'/\Below B w w' :=
 (Tryz.Buffer_WriteByte_at 193 (fun _=>none) B b 0 (l.map bv) x.toNat w h hB (one_bv l) (by simpa using hl)).mono fun _ w' ⟨h1,h2,h3,_⟩=>⟨h1,by unfold WrR;rw[List.map_append];exact h2,h3⟩
theorem byte_kept (B b:Nat) (l:List UInt8) (x:UInt8) (w:World) (h:WrR B b l w) (hB:B<=w.heap.size) (hl:l.length+1<=140737488355328) :
  Calls Tryz.prog 137 #[.pointer (some ⟨b,0,none⟩),bv x] w fun e w'=>e=.returned .nilIface/\WrR B b (l++[x]) w'/\Below B w w'/\Lib.OthersKept 5 (some b) w w' :=
 (Tryz.Buffer_WriteByte_at 193 (fun _=>none) B b 0 (l.map bv) x.toNat w h hB (one_bv l) (by simpa using hl)).mono fun _ w' ⟨h1,h2,h3,h4⟩=>⟨h1,by unfold WrR;rw[List.map_append];exact h2,h3,h4⟩
theorem write_none (B b:Nat) (bs:List Value) (a:Option Addr) (c:Nat) (w:World) (h:LibA.IsBuffer 193 (fun _=>none) 5 B b 0 bs w) (hbs:bs.length<=140737488355328) :
  Calls Tryz.prog 87 #[.pointer (some ⟨b,0,none⟩),.slice a 0 c] w fun e w'=>e=.returned (.tuple #[.int .i64 0,.nilIface])/\LibA.IsBuffer 193 (fun _=>none) 5 B b 0 bs w'/\Below B w w':=by
 obtain⟨hB,v0,lr,hbk,-,-⟩:=id h;have c2:w.cell? ⟨b,2,none⟩=some (.int .i8 lr):=by simpa using hbk.c2
 have f2:w.frozen? ⟨b,2,none⟩=false:=hbk.f 2;have h':LibA.IsBuffer 193 (fun _=>none) 5 B b 0 bs (w.setCell ⟨b,2,none⟩ (.int .i8 0)):=by simpa using h.setLast 0
 have hbel0:Below B w (w.setCell ⟨b,2,none⟩ (.int .i8 0)):=(Below.refl B w).setCell (p:=⟨b,2,none⟩) hB _;obtain⟨i0,hi,hz0,hz1,hz2⟩:=info_parts Tryz.infoU8;have hinfo:(Tryz.prog.info? 5).map (·.size)=some 1:=by rw[hi];simp[hz1]
 have hce:∀ d dLen dCap W,(Builtin.copy_ #[27,27] 3 #[.slice d dLen dCap,.slice a 0 c]).run Tryz.prog W=.ok (goInt 0) W:=fun d dLen dCap W=>run_copy_none W 27 27 3 5 d a dLen dCap 0 c Tryz.underlying27 hinfo (by simp)
 have hT:=Tryz.Buffer_tryGrow_at 193 (fun _=>none) B b 0 0 bs _ h';clear hbk v0 h h' hi hz0 hz1 hz2 hinfo;go_enter Tryz.func87,Tryz.ntmps87;go_wp2_with (go_at_call 135;refine hT.mono ?_);rintro e W1 (⟨rfl,xs,hxl,hI,hbel,-,-⟩|⟨rfl,rfl,hnr⟩)
 ·have hx0:xs=[]:=List.eq_nil_of_length_eq_zero hxl;subst hx0;rw[List.append_nil] at hI;clear c2 f2 hT hxl;obtain⟨-,lr2,hc⟩:=hI.cases
  rcases hc with ⟨hb0,hbk2⟩|⟨g,cap,cur,hbk2,-,-,hnc,hcm,-,-,-⟩
  ·subst hb0;have d0:W1.cell? ⟨b,0,none⟩=some (.slice none 0 0):=hbk2.c0;go_wp2_with (fail)
   all_goals (go_ret2;first|exact⟨rfl,hI,hbel0.trans hbel⟩|exact⟨by simp,by simpa using hI,hbel0.trans hbel⟩)
  ·have d0:W1.cell? ⟨b,0,none⟩=some (.slice (some ⟨g,0,none⟩) bs.length cap):=hbk2.c0;unfold maxLen at hcm;go_wp2_with (fail)
   all_goals (go_ret2;first|exact⟨rfl,hI,hbel0.trans hbel⟩|exact⟨by simp,by simpa using hI,hbel0.trans hbel⟩)
 ·obtain⟨_,_,_,_,hlt⟩:=hnr;omega
theorem write_any (B b N:Nat) (l k:List UInt8) (a:Option Addr) (n c:Nat) (w:World) (h:WrR B b l w) (hr:RB N w a n c k) (hN:N<=B) (hB:B<=w.heap.size) (hl:l.length+k.length<=140737488355328) (hbB:B<=b) :
  Calls Tryz.prog 87 #[.pointer (some ⟨b,0,none⟩),.slice a n c] w fun e w'=>e=.returned (.tuple #[.int .i64 n,.nilIface])/\WrR B b (l++k) w'/\Below B w w':=by
 have hn:=hr.len;by_cases hc:0<c
 ·obtain⟨g,o,rfl,hg,hcell⟩:=hr.at_ hc;exact (Tryz.Buffer_Write_at 193 (fun _=>none) B b 0 (l.map bv) (k.map bv) ⟨g,o,none⟩ n c w h hB (one_bv l) (by simp[hn]) (by show g≠b;omega) (fun j v hj=>by
   have hjl:j<k.length:=by
    have:=(List.getElem?_eq_some_iff.1 hj).1;simpa using this
   rw[Addr.add_mid,hcell j (by omega),<- hj];simp only[List.getElem?_map,List.getElem?_eq_getElem hjl,Option.map_some,bt,bv,List.getD_eq_getElem?_getD,Option.getD_some]) (one_bv k) (by simpa [hn] using hl)).mono
   fun _ w' ⟨h1,h2,h3,_⟩=>⟨h1,by unfold WrR;rw[List.map_append];exact h2,h3⟩
 ·have hle:=hr.le;have h0:n=0:=by omega
  subst h0;obtain rfl:k=[]:=List.eq_nil_of_length_eq_zero hn.symm;rw[List.append_nil];exact write_none B b (l.map bv) a c w h (by simpa using hl)
theorem numB_len (n:Int) (s:Nat):(numB n s).length=s:=by simp[numB]
theorem numB_get (n:Int) (s j:Nat) (h:j<s):(numB n s)[j]? = some (UInt8.ofNat (n.toNat / 2 ^ (8*(s-1-j)))):=by
 unfold numB;rw[List.getElem?_map,List.getElem?_range h];rfl
theorem number_kept (B b:Nat) (l:List UInt8) (y s:Nat) (w:World) (h:WrR B b l w) (hB:B<=w.heap.size) (hl:l.length+8<=140737488355328) (hs:s<=8) (_hy:y<=9223372036854775807) :
  Calls Tryz.prog 88 #[ptr b,li y,li s] w fun e w'=>e=.returned (.tuple #[])/\WrR B b (l++numB y s) w'/\Below B w w'/\Lib.OthersKept 5 (some b) w w':=by
 have H:=φ h;clear h;unfold ptr li;have e0:IntKind.i64.wrap ((s:Int)-1)=(s:Int)-1:=IntWalk.i64_in _ (by omega);go_enter Tryz.func88,Tryz.ntmps88;go_wp2_with (fail);go_loopw [6] (fun i wr=>∃ j:Nat,j<=s/\i=.int .i64 ((s:Int)-1-j)/\Hid (WrR B b (l++(numB y s).take j) wr)/\Hid (Below B w wr)/\Hid (Lib.OthersKept 5 (some b) w wr)) (fun i _=>(intOf i+1).toNat)
 case atStart=>exact⟨0,by omega,by simp,by simpa using H,φ (Below.refl _ _),φ (Lib.OthersKept.refl _ _ _)⟩
 case round =>
  obtain⟨j,hj,rfl,Hw,Hb,Hk⟩:=hrel;by_cases hlt:j<s
  ·obtain⟨m,hm⟩:∃ m:Nat,m+j+1=s:=⟨s-1-j,by omega⟩
   have em:(s:Int)-1-j=(m:Int):=by omega
   rw[em];have q1:(0:Int)<=(m:Int):=by omega
   have q2:IntKind.i64.wrap (8*(m:Int))=8*(m:Int):=IntWalk.i64_in _ (by omega);have q3:(0:Int)<=8*(m:Int):=by omega
   obtain⟨x,hx⟩:∃ x:UInt8,x=UInt8.ofNat (y / 2 ^ (8*m)):=⟨_,rfl⟩
   have q5:IntKind.u8.wrap ((y:Int) / 2 ^ (8*(m:Int)).toNat)=(x.toNat:Int):=by
    rw[hx,UInt8.toNat_ofNat',Int.natCast_emod,Int.natCast_ediv,Int.natCast_pow,show (8*(m:Int)).toNat=8*m by omega];rfl
   have HS:Hid ((numB y s).take (j+1)=(numB y s).take j++[x]):=φ (by
    rw[List.take_add_one,numB_get _ _ _ hlt,show s-1-j=m by omega,hx,Int.toNat_natCast];rfl)
   have HBt:=φ (byte_kept B b _ x wr.drew Hw.out (Nat.le_trans hB Hb.out.size) (by rw[List.length_append,List.length_take,numB_len];omega));have Hbd:Hid (Below B w wr.drew):=φ Hb.out.drew;have e2:IntKind.i64.wrap ((m:Int)-1)=(m:Int)-1:=IntWalk.i64_in _ (by omega);clear hx;go_upto_region 3 with (fail);refine wp_region_still_tail 8 (by kernel_rfl) (by kernel_rfl) ?_;simp only[List.take_succ_cons,List.take_zero,List.drop_succ_cons,List.drop_zero];change wpStill _ _ (World.drew _) _ _ _
   repeat still_step
   refine wpStill_nil ?_;change wpList _ _ _ _ _ (World.drew _);go_wp2_with (go_at_call 137;refine HBt.out.mono ?_;rintro e w2 ⟨rfl,hw2,hb2,hk2⟩;have Hk2:=φ (Hk.out.drew.trans hk2);clear hk2;have Hw2:=φ hw2;have Hb2:=φ (Hbd.out.trans hb2);clear hw2 hb2);go_roundw
   case rel=>exact⟨j+1,by omega,by go_num,by rw[HS.out,<- List.append_assoc];exact Hw2,Hb2,Hk2⟩
   case measure=>simp[intOf]
  ·obtain rfl:j=s:=by omega
   have q1:¬ ((0:Int)<=(j:Int)-1-j):=by omega
   go_wp2_with (fail);go_returns;refine⟨rfl,?_,Hb.out,Hk.out⟩;have:=Hw.out
   rwa [List.take_of_length_le (by rw[numB_len];omega)] at this
theorem row_any (B b N:Nat) (l k:List UInt8) (a:Option Addr) (n c:Nat) (w:World) (h:WrR B b l w) (hr:RB N w a n c k) (hN:N<=B) (hB:B<=w.heap.size) (hl:l.length+k.length+1<=140737488355328) (hbB:B<=b) :
  Calls Tryz.prog 89 #[ptr b,.slice a n c] w fun e w'=>e=.returned (.tuple #[])/\WrR B b (l++rowB k) w'/\Below B w w':=by
 unfold ptr;obtain⟨x,hx⟩:∃ x:UInt8,x=UInt8.ofNat k.length:=⟨_,rfl⟩
 have hn:=hr.len;have q5:IntKind.u8.wrap (n:Int)=(x.toNat:Int):=by
  rw[hx,UInt8.toNat_ofNat',Int.natCast_emod,hn];rfl
 have HBt:=φ (byte_any B b l x w h hB (by omega));have HW:=φ fun (w':World) (h':WrR B b (l++[x]) w') (hb:Below B w w')=>write_any B b N (l++[x]) k a n c w' h' (hr.below (hb.mono hN)) hN (Nat.le_trans hB hb.size) (by simp;omega) hbB
 have HX:Hid (l++rowB k=l++[x]++k):=φ (by rw[hx];simp[rowB]);have hmx:=hr.mx;have hle:=hr.le;clear hx h hr hn hl;go_enter Tryz.func89,Tryz.ntmps89;go_wp2_with (first|(go_at_call 137;refine HBt.out.mono ?_;rintro e w2 ⟨rfl,hw2,hb2⟩;have Hb2:=φ hb2;have HW2:=φ (HW.out w2 hw2 hb2);clear hw2 hb2)|(go_at_call 87;refine HW2.out.mono ?_;rintro e w3 ⟨rfl,hw3,hb3⟩;have Hb3:=φ (Hb2.out.trans hb3);have Hw3:=φ hw3;clear hw3 hb3));go_returns;exact⟨rfl,by rw[HX.out];exact Hw3.out,Hb3.out⟩
end
section
set_option maxHeartbeats 1000000
set_option maxRecDepth 100000
open Go.RowKit
def intO:Value->Int | .int _ x=>x|_=>0
theorem rb_one (W:World) (x:UInt8):RB (W.heap.size+1) (W.alloc (.cells #[.int .u8 (x.toNat:Int)] 5)) (some ⟨W.heap.size,0,none⟩) 1 1 [x] :=
 ⟨rfl,Nat.le_refl _,by omega,by omega,fun _=>⟨W.heap.size,0,rfl,by omega,fun i hi=>by
  obtain rfl:i=0:=by omega
  rw[Nat.zero_add,cell_of_row _ _ 0 #[.int .u8 (x.toNat:Int)] 5 (0,0) (heap_alloc_last W _)];rfl⟩⟩
theorem lput_any (base:Nat) (v:Value) (l:List UInt8) (y s:Nat) (w:World) (h:OB base w v l) (hb:base<=w.heap.size) (hl:l.length+8<=1000000) (hs:s<=8) (_hy:y<=9223372036854775807) :
  Calls Tryz.prog 169 #[v,li y,li s] w fun e w'=>∃ v',e=.returned v'/\OB base w' v' (l++numB y s)/\Below base w w':=by
 have H:=φ h;clear h;unfold li;have e0:IntKind.i64.wrap ((s:Int)-1)=(s:Int)-1:=IntWalk.i64_in _ (by omega);go_enter Tryz.func169,Tryz.ntmps169;go_wp2_with (fail);go_loopw [0,7] (fun u i wr=>∃ j:Nat,j<=s/\i=.int .i64 ((s:Int)-1-j)/\Hid (OB base wr u (l++(numB y s).take j))/\Hid (Below base w wr)) (fun _ i _=>(intO i+1).toNat)
 case atStart=>exact⟨0,by omega,by simp,by simpa using H,φ (Below.refl _ _)⟩
 case round =>
  obtain⟨j,hj,rfl,Hw,Hb⟩:=hrel;by_cases hlt:j<s
  ·obtain⟨m,hm⟩:∃ m:Nat,m+j+1=s:=⟨s-1-j,by omega⟩
   have em:(s:Int)-1-j=(m:Int):=by omega
   rw[em];have q1:(0:Int)<=(m:Int):=by omega
   have q2:IntKind.i64.wrap (8*(m:Int))=8*(m:Int):=IntWalk.i64_in _ (by omega);have q3:(0:Int)<=8*(m:Int):=by omega
   obtain⟨x,hx⟩:∃ x:UInt8,x=UInt8.ofNat (y / 2 ^ (8*m)):=⟨_,rfl⟩
   have q5:IntKind.u8.wrap ((y:Int) / 2 ^ (8*(m:Int)).toNat)=(x.toNat:Int):=by
    rw[hx,UInt8.toNat_ofNat',Int.natCast_emod,Int.natCast_ediv,Int.natCast_pow,show (8*(m:Int)).toNat=8*m by omega];rfl
   have q6:(y:Int) / 2 ^ (8*m) % 256=(x.toNat:Int):=by
    rw[hx,UInt8.toNat_ofNat',Int.natCast_emod,Int.natCast_ediv,Int.natCast_pow];rfl
   have HS:Hid ((numB y s).take (j+1)=(numB y s).take j++[x]):=φ (by
    rw[List.take_add_one,numB_get _ _ _ hlt,show s-1-j=m by omega,hx,Int.toNat_natCast];rfl)
   have HLn:Hid ((l++(numB y s).take j).length+1<=1000000):=φ (by rw[List.length_append,List.length_take,numB_len];omega);have e2:IntKind.i64.wrap ((m:Int)-1)=(m:Int)-1:=IntWalk.i64_in _ (by omega);have BA:=φ (Hb.out.alloc (Nat.le_trans hb Hb.out.size) (.cells #[.int .u8 (x.toNat:Int)] 5));have OA:Hid (OB base (wr.alloc (.cells #[.int .u8 (x.toNat:Int)] 5)) u0 (l++(numB y s).take j)):=φ (Hw.out.alloc _);have RA:=φ (rb_one wr x);have HGe:=φ fun k (e:u0.ownBlock=some k)=>(World.ownsRow.lt Hw.out k e).1
   clear hx;go_wp2_with (at_builtin;refine wpList_append_bytes rfl _ _ rfl base _ _ _ rfl OA.out _ _ _ [x] rfl RA.out (by have:=HLn.out;simp only[List.length_cons,List.length_nil];omega) (Nat.le_trans hb BA.out.size) ?_;intro v6 w6 ho6 hg6 hn6;have O6:=φ ho6;have B6:=φ (BA.out.grown hg6 (Nat.le_trans hb BA.out.size) HGe.out);clear ho6 hg6 hn6);go_roundw
   case rel=>exact⟨j+1,by omega,by go_num,by rw[HS.out,<- List.append_assoc];exact O6,B6⟩
   case measure=>simp[intO]
  ·obtain rfl:j=s:=by omega
   have q1:¬ ((0:Int)<=(j:Int)-1-j):=by omega
   go_wp2_with (fail);go_ret;refine⟨_,rfl,?_,Hb.out⟩;have:=Hw.out
   rwa [List.take_of_length_le (by rw[numB_len];omega)] at this
end
end Go.Proofs.YtohlkkannjifmaaGreatDoor
