import Derived.Test.YtohlkkannjifmaaGreatDoorOCopy
import Derived.Lib.OwnBridge
import Derived.Shelf.SlSortCmp.KitK
import Derived.Shelf.SlSortCmp.Kit1
import Derived.Shelf.SlLaysF0
import Derived.Test.YtohlkkannjifmaaGreatDoorProg
import Derived.Test.YtohlkkannjifmaaGreatDoorLent
import Derived.Test.YtohlkkannjifmaaGreatDoorOLawV
import Derived.Shelf.SlSortCmp.NoneTotal
import Derived.Test.YtohlkkannjifmaaGreatDoorOTurned
namespace Go.Proofs.YtohlkkannjifmaaGreatDoor
section
open Go.RowKit Go.Sort Go.Lib Tx
structure OnlyB (g:Nat) (w w':World):Prop where
 os:w'.os=w.os
 tape:w'.tape=w.tape
 output:w'.output=w.output
 size:w.heap.size<=w'.heap.size
 block:∀ b,b≠g->b<w.heap.size->w'.heap[b]? = w.heap[b]?
section
variable {α:Type} [Inhabited α] {E:Ek α}
theorem own_holds {base g n c:Nat} {w:World} {X:List α} (h:E.Own base w (.slice (some ⟨g,0,none⟩) n c) X):HoldsK E.enc E.k w g 0 X.toArray:=by
 have hn:=h.1;obtain⟨hx,-⟩:=h.cell;subst hx;intro t ht;rw[size_flatK] at ht;have ht':t<X.length*E.k:=by simpa using ht
 have hk:=E.kpos;have hi:t / E.k<X.length:=Nat.div_lt_of_lt_mul (by rw[Nat.mul_comm];exact ht');have hm:t % E.k<E.k:=Nat.mod_lt _ hk;have e1:t / E.k*E.k+t % E.k=t:=Nat.div_add_mod' t E.k;rw[get_flatK _ _ _ _ ht,Nat.zero_add];refine⟨?_,World.ownsRow.frozenAt h t⟩;rw[World.ownsRow.cellAt h t ht'];have hat:=E.cells_at X (t / E.k) (t % E.k) hi hm;rw[e1] at hat;rw[hat];have hl:=E.len (X.getD (t / E.k) default);have e2:X.toArray[t / E.k]! = X.getD (t / E.k) default:=by
  simp[List.getD_eq_getElem?_getD,hi]
 rw[e2,List.getElem?_eq_getElem (by omega),getElem!_pos _ _ (by omega)];rfl
theorem flat_cellsQ (d:Array α):(flatK E.enc E.k d).toList=E.cells d.toList:=by
 apply List.ext_getElem?;intro t;have hk:=E.kpos;by_cases ht:t<d.size*E.k
 ·have hi:t / E.k<d.toList.length:=by rw[Array.length_toList];exact Nat.div_lt_of_lt_mul (by rw[Nat.mul_comm];exact ht)
  have hm:t % E.k<E.k:=Nat.mod_lt _ hk;have hat:=E.cells_at d.toList (t / E.k) (t % E.k) hi hm;rw[Nat.div_add_mod' t E.k] at hat;rw[hat,Array.getElem?_toList,Array.getElem?_eq_getElem (by rw[size_flatK];exact ht)];have hg:=get_flatK E.enc E.k d t ht;rw[getElem!_pos _ t (by rw[size_flatK];exact ht)] at hg;have hl:=E.len (d.toList.getD (t / E.k) default);have e2:d[t / E.k]! = d.toList.getD (t / E.k) default:=by
   rw[Array.length_toList] at hi;simp[List.getD_eq_getElem?_getD,hi]
  rw[hg,e2,List.getElem?_eq_getElem (by omega),getElem!_pos _ _ (by omega)]
 ·rw[Array.getElem?_toList,Array.getElem?_eq_none (by rw[size_flatK];omega),List.getElem?_eq_none (by rw[E.cells_len,Array.length_toList];omega)]
theorem take_putCells {F cur:Array Value} (h:F.size<=cur.size):(putCells id 0 F cur).toList.take F.size=F.toList:=by
 apply List.ext_getElem?;intro j;by_cases hj:j<F.size
 ·rw[List.getElem?_take,if_pos hj,Array.getElem?_toList,Array.getElem?_toList];simp only[putCells,Array.getElem?_mapIdx,Array.getElem?_eq_getElem (show j<cur.size by omega),Option.map_some,Array.getElem?_eq_getElem hj];rw[if_pos (by omega)];simp[getElem!_pos,hj]
 ·rw[List.getElem?_eq_none (by simp;omega),List.getElem?_eq_none (by simp;omega)]
theorem grow_old (w:World) (os:Array Obj) {b:Nat} (h:b<w.heap.size):(grow w os).heap[b]? = w.heap[b]?:=by
 unfold grow;simp only;rw[Array.getElem?_append_left h]
theorem own_sorted {base g n c:Nat} {w w':World} {X:List α} {d':Array α} (h:E.Own base w (.slice (some ⟨g,0,none⟩) n c) X) (hs:SWK E.enc E.k w g 0 d' w') (hd:d'.size=X.length):E.Own base w' (.slice (some ⟨g,0,none⟩) n c) d'.toList/\OnlyB g w w':=by
 obtain⟨m,os,rfl⟩:=hs;obtain⟨hx,⟨h2,-⟩|⟨g',cap,cur,hv,hg,hh,hle,hmx,hsz,htk⟩⟩:=id h
 ·cases h2
 ·obtain⟨hn,-⟩:=h.cell;subst hn;injection hv with e1 e2 e3
  injection e1 with e1
  injection e1 with e1
  subst e1;subst e3;have hlt:g<w.heap.size:=(Array.getElem?_eq_some_iff.1 hh).1;have hp:(putRowK E.enc E.k (Go.Sort.ahead w m) g 0 d').heap[g]? = some (.cells (putCells id 0 (flatK E.enc E.k d') cur) E.e):=by
   simp[putRowK,putRow,mapBlock,Go.Sort.ahead,Array.getElem?_modify,hh,onCells]
  have hsp:(putRowK E.enc E.k (Go.Sort.ahead w m) g 0 d').heap.size=w.heap.size:=by simp[putRowK,putRow,mapBlock,Go.Sort.ahead]
  refine⟨⟨by rw[E.cells_len],.inr ⟨g,c,putCells id 0 (flatK E.enc E.k d') cur,by rw[show d'.toList.length=X.length by rw[Array.length_toList,hd]],hg,?_,by rw[Array.length_toList,hd];exact hle,hmx,by simpa [putCells] using hsz,?_⟩⟩,⟨rfl,rfl,rfl,?_,fun b hb hbl=>?_⟩⟩
  ·unfold sortWorldK;rw[grow_old _ _ (by rw[hsp];exact hlt)];exact hp
  ·have hF:(flatK E.enc E.k d').size=d'.toList.length*E.k:=by rw[size_flatK,Array.length_toList]
   rw[<- hF,take_putCells (by rw[size_flatK,hd,hsz];exact Nat.mul_le_mul_right _ hle),flat_cellsQ]
  ·unfold sortWorldK;rw[size_grow,hsp];omega
  ·unfold sortWorldK;rw[grow_old _ _ (by rw[hsp];exact hbl)];simp[putRowK,putRow,mapBlock,Go.Sort.ahead,Array.getElem?_modify,Ne.symm hb]
end
end
section
open Go.Proofs Go.Shelf
def Tryz.sortD_ren:Go.Shelf.Ren:=⟨fun|6=>78|15=>130|14=>129|28=>203|29=>204|20=>195|21=>196|22=>197|23=>198|24=>199|25=>200|26=>201|27=>202|46=>228|47=>229|48=>230|49=>231|50=>232|57=>236|n=>n,fun|22=>30|24=>80|25=>177|3=>3|39=>178|0=>0|53=>348|55=>248|4=>4|46=>342|45=>341|50=>170|5=>5|9=>9|66=>365|70=>369|76=>371|77=>372|n=>n,fun|n=>n⟩
theorem Tryz.sortD:Go.Proofs.SlLaysF0.n6 Tryz.prog Tryz.sortD_ren:={
 mixed:=by kernel_rfl
 f6:=⟨Tryz.f78.name,by decide,Tryz.func78.trans (congrArg some (by kernel_rfl))⟩
 f14:=⟨Tryz.f129.name,by decide,Tryz.func129.trans (congrArg some (by kernel_rfl))⟩
 f15:=Tryz.func130.trans (congrArg some (by kernel_rfl))
 f20:=⟨Tryz.f195.name,by decide,Tryz.func195.trans (congrArg some (by kernel_rfl))⟩
 f21:=⟨Tryz.f196.name,by decide,Tryz.func196.trans (congrArg some (by kernel_rfl))⟩
 f22:=⟨Tryz.f197.name,by decide,Tryz.func197.trans (congrArg some (by kernel_rfl))⟩
 f23:=⟨Tryz.f198.name,by decide,Tryz.func198.trans (congrArg some (by kernel_rfl))⟩
 f24:=⟨Tryz.f199.name,by decide,Tryz.func199.trans (congrArg some (by kernel_rfl))⟩
 f25:=⟨Tryz.f200.name,by decide,Tryz.func200.trans (congrArg some (by kernel_rfl))⟩
 f26:=⟨Tryz.f201.name,by decide,Tryz.func201.trans (congrArg some (by kernel_rfl))⟩
 f27:=⟨Tryz.f202.name,by decide,Tryz.func202.trans (congrArg some (by kernel_rfl))⟩
 f28:=Tryz.func203.trans (congrArg some (by kernel_rfl))
 f29:=Tryz.func204.trans (congrArg some (by kernel_rfl))
 f46:=⟨Tryz.f228.name,by decide,Tryz.func228.trans (congrArg some (by kernel_rfl))⟩
 f47:=Tryz.func229.trans (congrArg some (by kernel_rfl))
 f48:=Tryz.func230.trans (congrArg some (by kernel_rfl))
 f49:=⟨Tryz.f231.name,by decide,Tryz.func231.trans (congrArg some (by kernel_rfl))⟩
 f50:=⟨Tryz.f232.name,by decide,Tryz.func232.trans (congrArg some (by kernel_rfl))⟩
 f57:=⟨Tryz.f236.name,by decide,Tryz.func236.trans (congrArg some (by kernel_rfl))⟩
 t0:=Tryz.underlying0
 a0:=Tryz.isAgg0
 z0:=Tryz.sizeOf0
 v0:=Tryz.zeroValue0
 t3:=Tryz.underlying3
 a3:=Tryz.isAgg3
 z3:=Tryz.sizeOf3
 v3:=Tryz.zeroValue3
 t4:=Tryz.underlying4
 a4:=Tryz.isAgg4
 z4:=Tryz.sizeOf4
 v4:=Tryz.zeroValue4
 t5:=Tryz.underlying5
 a5:=Tryz.isAgg5
 z5:=Tryz.sizeOf5
 v5:=Tryz.zeroValue5
 t9:=Tryz.underlying9
 a9:=Tryz.isAgg9
 z9:=Tryz.sizeOf9
 v9:=Tryz.zeroValue9
 t22:=Tryz.underlying30
 a22:=Tryz.isAgg30
 z22:=Tryz.sizeOf30
 v22:=Tryz.zeroValue30
 t25:=Tryz.underlying177
 a25:=Tryz.isAgg177
 z25:=Tryz.sizeOf177
 v25:=Tryz.zeroValue177
 t39:=Tryz.underlying178
 a39:=Tryz.isAgg178
 z39:=Tryz.sizeOf178
 v39:=Tryz.zeroValue178
 t45:=Tryz.underlying341
 a45:=Tryz.isAgg341
 z45:=Tryz.sizeOf341
 v45:=Tryz.zeroValue341
 t46:=Tryz.underlying342
 a46:=Tryz.isAgg342
 z46:=Tryz.sizeOf342
 v46:=Tryz.zeroValue342
 t50:=Tryz.underlying170
 a50:=Tryz.isAgg170
 z50:=Tryz.sizeOf170
 v50:=Tryz.zeroValue170
 t53:=Tryz.underlying348
 a53:=Tryz.isAgg348
 z53:=Tryz.sizeOf348
 v53:=Tryz.zeroValue348
 t55:=Tryz.underlying248
 a55:=Tryz.isAgg248
 z55:=Tryz.sizeOf248
 v55:=Tryz.zeroValue248
 t66:=Tryz.underlying365
 a66:=Tryz.isAgg365
 z66:=Tryz.sizeOf365
 v66:=Tryz.zeroValue365
 t70:=Tryz.underlying369
 a70:=Tryz.isAgg369
 z70:=Tryz.sizeOf369
 v70:=Tryz.zeroValue369
 t76:=Tryz.underlying371
 a76:=Tryz.isAgg371
 z76:=Tryz.sizeOf371
 v76:=Tryz.zeroValue371
 t77:=Tryz.underlying372
 a77:=Tryz.isAgg372
 z77:=Tryz.sizeOf372
 v77:=Tryz.zeroValue372 }
end
section
set_option maxHeartbeats 4000000
set_option maxRecDepth 100000
open Go.RowKit Go.Shelf Go.Sort Go.Lib
def encDf (x:Fin 8192×Int):List Value:=[.int .i64 x.1.val,.int .i64 x.2]
def dirtyF:Ek (Fin 8192×Int) where
 e:=80
 t:=30
 k:=2
 bytes:=16
 z:=.agg #[.int .i64 0,.int .i64 0]
 enc:=encDf
 ok:=fun _=>True
 len:=fun _=>rfl
 one:=fun x u hu=>by
  unfold encDf at hu;simp only[List.mem_cons,List.not_mem_nil,or_false] at hu;rcases hu with rfl|rfl<;>rfl
 kpos:=by decide
 under:=Tryz.underlying30
 info:=dirtyE_info
 zc:=rfl
 small:=by decide
def cfD (x y:Fin 8192×Int):Int:=(x.1.val:Int)-(y.1.val:Int)
theorem ltD (x y:Fin 8192×Int):ltOf cfD x y=decide (x.1.val<y.1.val):=by
 unfold ltOf cfD;by_cases h:x.1.val<y.1.val
 ·rw[decide_eq_true h];exact decide_eq_true (by omega)
 ·rw[decide_eq_false h];exact decide_eq_false (by omega)
theorem swoD:SWO (ltOf cfD) where
 irrefl x:=by rw[ltD];exact decide_eq_false (Nat.lt_irrefl _)
 trans x y z h1 h2:=by
  rw[ltD] at *;exact decide_eq_true (Nat.lt_trans (of_decide_eq_true h1) (of_decide_eq_true h2))
 ntrans x y z h1 h2:=by
  rw[ltD] at *;have e1:=of_decide_eq_false h1;have e2:=of_decide_eq_false h2;exact decide_eq_false (by omega)
theorem cmpD_any (x y:Fin 8192×Int) (W:World):Calls Tryz.prog 79 #[.agg #[.int .i64 x.1.val,.int .i64 x.2],.agg #[.int .i64 y.1.val,.int .i64 y.2]] W fun e w'=>e=.returned (.int .i64 (cfD x y))/\∃ q os',w'=grow (W.drewN q) os':=by
 obtain⟨⟨a,ha⟩,p⟩:=x;obtain⟨⟨b,hb⟩,q⟩:=y;have e:IntKind.i64.wrap ((a:Int)-(b:Int))=cfD (⟨a,ha⟩,p) (⟨b,hb⟩,q):=IntWalk.i64_in _ (by omega);dsimp only;generalize cfD (⟨a,ha⟩,p) (⟨b,hb⟩,q)=r at e ⊢;go_enter Tryz.func79,Tryz.ntmps79;go_wp2_with (fail);go_ret;exact⟨by simp,0,_,by rw[alloc_eq_grow,alloc_eq_grow,grow_grow];rfl⟩
theorem sortD_any (base g cap:Nat) (X:List (Fin 8192×Int)) (w:World) (h:dirtyF.Own base w (.slice (some ⟨g,0,none⟩) X.length cap) X) (hlen:X.length<4611686018427387904) :
  Calls Tryz.prog 78 #[.slice (some ⟨g,0,none⟩) X.length cap,.func (.func 79) #[] #[]] w fun e w'=>e=.returned (.tuple #[])/\∃ Y,Y.Perm X/\Y.Pairwise (fun a b=>a.1.val<=b.1.val)/\dirtyF.Own base w' (.slice (some ⟨g,0,none⟩) X.length cap) Y/\OnlyB g w w':=by
 have eg:∀ args w,(callFunc 79 args).run Tryz.prog w=.ok (.enter 79 args) w:=enters_of Tryz.func79 (by kernel_rfl) rfl;have hlt:=(h.ge g rfl).2;have hcon:=AnyQ.slices_SortFunc Tryz.sortD 2 Tryz.isAgg80 Tryz.sizeOf80 encDf (fun _=>rfl) (fun x v hv=>dirtyF.one x v hv) cfD swoD 79 #[] g 0 cap X.toArray w eg (fun _ _ _ _ x y=>cmpD_any x y _) (own_holds h) hlt (by simpa using hlen);simp only[List.size_toArray] at hcon;refine hcon.mono fun e w' ⟨he,d',n,os,hperm,hsort,hw⟩=>⟨he,d'.toList,?_,?_,?_⟩
 ·obtain⟨hsz,_,hp⟩:=hperm;have e1:d'.extract 0 X.length=d':=by rw[show X.length=d'.size by simpa using hsz.symm];exact Array.extract_size
  rw[e1,show X.length=X.toArray.size by simp,Array.extract_size] at hp;simpa using hp
 ·have hsz:d'.size=X.length:=by simpa using hperm.1
  rw[List.pairwise_iff_getElem];intro i j hi hj hij;have hi':i<d'.size:=by simpa using hi
  have hj':j<d'.size:=by simpa using hj
  have:=hsort i j (Nat.zero_le _) hij (by omega);rw[getElem!_pos d' j hj',getElem!_pos d' i hi',ltD] at this;have:=of_decide_eq_false this;simp only[Array.getElem_toList];omega
 ·have hsz:d'.size=X.length:=by simpa using hperm.1
  exact own_sorted h ⟨n,os,hw⟩ hsz
theorem sortD_all (base:Nat) (a:Option Addr) (n c:Nat) (X:List (Fin 8192×Int)) (w:World) (h:dirtyF.Own base w (.slice a n c) X) (hlen:X.length<4611686018427387904) :
  Calls Tryz.prog 78 #[.slice a n c,.func (.func 79) #[] #[]] w fun e w'=>e=.returned (.tuple #[])/\∃ Y,Y.Perm X/\Y.Pairwise (fun a b=>a.1.val<=b.1.val)/\dirtyF.Own base w' (.slice a n c) Y/\Below base w w':=by
 obtain⟨a',c',hv,hle,hmx,ha⟩:=h.form;injection hv with e1 e2 e3
 subst e1;subst e2;subst e3;by_cases h0:0<X.length
 ·obtain⟨g,rfl⟩:=ha h0;refine (sortD_any base g c X w h hlen).mono ?_;rintro e w' ⟨rfl,Y,h1,h2,h3,h4⟩;have hg:=h.ge g rfl;exact⟨rfl,Y,h1,h2,h3,h4.os,h4.tape,h4.output,h4.size,fun k hk=>h4.block k (by omega) (by omega)⟩
 ·have hX:X=[]:=List.eq_nil_of_length_eq_zero (by omega);subst hX;refine (AnyF.slices_SortFunc_none Tryz.sortD a c _ w).mono ?_;rintro e w' ⟨rfl,rfl⟩;exact⟨rfl,[],List.Perm.refl _,List.Pairwise.nil,h,Below.refl _ _⟩
def toD (f:FrV):Fin 8192×Int:=(⟨f.page.toNat % 8192,Nat.mod_lt _ (by decide)⟩,f.first)
theorem toD_page {f:FrV} (h0:0<=f.page) (h1:f.page<8192):((toD f).1.val:Int)=f.page:=by
 unfold toD;simp only;omega
def dirtyL (F:List FrV):List (Fin 8192×Int):=(F.filter (·.dirty)).map toD
theorem dirtyL_succ {F:List FrV} {j:Nat} (h:j<F.length):dirtyL (F.take (j+1))=if (F.getD j fr0).dirty=true then dirtyL (F.take j)++[toD (F.getD j fr0)] else dirtyL (F.take j):=by
 have e:F.take (j+1)=F.take j++[F.getD j fr0]:=by
  rw[List.take_succ_eq_append_getElem h,List.getD_eq_getElem?_getD,List.getElem?_eq_getElem h];rfl
 unfold dirtyL;rw[e,List.filter_append,List.map_append];generalize F.getD j fr0=x;split
 ·next hd=>simp[hd]
 ·next hd=>simp[hd]
theorem dirtyL_len (F:List FrV):(dirtyL F).length<=F.length:=by
 unfold dirtyL;rw[List.length_map];exact List.length_filter_le _ _
theorem dirtyF_lit (W:World) (x:Fin 8192×Int) (t:TypeId):∀ j u,(dirtyF.cells [x])[j]? = some u->(W.alloc (.cells #[.int .i64 x.1.val,.int .i64 x.2] t)).cell? ((⟨W.heap.size,0,none⟩:Addr).add j)=some u:=Ek.one_lit (E:=dirtyF) W x _ t rfl
def DirtG (P:PK) (w:World) (e:Ending) (w':World):Prop:=∃ a n c Y,e=.returned (.slice a n c)/\n=Y.length/\Y.Perm (dirtyL P.frames)/\Y.Pairwise (fun a b=>a.1.val<=b.1.val)/\dirtyF.Own w.heap.size w' (.slice a n c) Y/\Below w.heap.size w w'
theorem below_drewR' {B:Nat} {w W:World} (h:Below B w W):Below B w W.drew:=h.drew
theorem below_allocL' (w:World) (o:Obj):Below w.heap.size w (w.alloc o):=(Below.refl _ w).alloc (Nat.le_refl _) o
theorem dirty_any (w:World) (V:Nat->Prop) (p d l k:Nat) (P:PK) (sv:Value) (m hand:Nat) (Q:Nat->Nat) (B:Nat->Value) (Us:Nat->Bool) (h:PF w V p d l k P sv m hand Q B Us) :
  Calls Tryz.prog 31 #[.pointer (some ⟨p,0,none⟩)] w (DirtG P w):=by
 obtain⟨a,cap,rfl,hle,hmx,h32,hcell⟩:=h.get;have p0:w.cell? ⟨p,0,none⟩=some (.slice a P.frames.length cap):=cell_of_row _ _ 0 _ _ _ h.blk;have p4:w.cell? ⟨p,4,none⟩=some (.pointer (some ⟨d,0,none⟩)):=cell_of_row _ _ 4 _ _ _ h.blk;have HTh:=φ (pthere_any p d w p4);have HCe:=φ hcell;have HFr:=φ h.fr;have HOk:=φ h.ok;generalize hn:P.frames.length=n at *;have HN:=φ hn;clear hcell h hn p4;go_enter Tryz.func31,Tryz.ntmps31;go_wp2_with (go_at_call 46;refine HTh.out.mono ?_;rintro e w1 ⟨rfl,hw1⟩;subst hw1);go_loopw [3,15] (fun s3 s15 wr=>∃ (j:Nat) (va:Option Addr) (vn vc:Nat),s3=.slice va vn vc/\s15=.int .i64 j/\j<=n/\Hid (vn=(dirtyL (P.frames.take j)).length)/\Hid (dirtyF.Own w1.heap.size wr (.slice va vn vc) (dirtyL (P.frames.take j)))/\Hid (Below w1.heap.size w1 wr)) (fun _ s15 _=>n-(intOf s15).toNat)
 case atStart=>exact⟨0,none,0,0,rfl,rfl,Nat.zero_le _,φ rfl,φ (Ek.Own.nil dirtyF _ _),φ (Below.refl _ _)⟩
 case round =>
  obtain⟨j,va,vn,vc,rfl,rfl,hj,HV,HO,Hb⟩:=hrel;by_cases hlt:j<n
  ·obtain⟨g,rfl,hce,-⟩:=HCe.out j hlt;have hlt2:g<w1.heap.size:=χ hce;have c1:wr.cell? ⟨g,j,none⟩=some (.pointer (some ⟨Q j,0,none⟩)):=(Hb.out.cell (p:=⟨g,j,none⟩) hlt2).trans hce;have hf:=HFr.out j hlt;have hq:=ξ hf.blk;have hbk:=(Hb.out.block (Q j) hq).trans hf.blk;have hsu:=dirtyL_succ (F:=P.frames) (j:=j) (by have:=HN.out;omega);have hpg:0<=(P.frames.getD j fr0).page/\(P.frames.getD j fr0).page<8192:=by
    have h1:=HOk.out.rng (P.frames.getD j fr0) (getD_mem P.frames fr0 j (by have:=HN.out;omega));have h2:=HOk.out.fc;have h3:=HOk.out.f1;omega
   have hvl:vn<=32:=by
    have h1:=HV.out;have h2:=dirtyL_len (P.frames.take j);have h3:(P.frames.take j).length<=j:=(by rw[List.length_take];exact Nat.min_le_left _ _);omega
   have HVl:=φ hvl;generalize P.frames.getD j fr0=f at hf hbk hsu hpg;generalize Q j=q at hbk c1 hq;have c2:wr.cell? ⟨q,3,none⟩=some (.bool f.dirty):=cell_of_row _ _ 3 _ _ _ hbk
   cases hd:f.dirty with
   | false =>
    rw[hd] at c2 hsu;have HSu:=φ hsu;clear hd hsu hbk hf hq hpg hvl hce hlt2;go_wp2_with (fail);go_roundw
    case rel=>exact⟨j+1,va,vn,vc,rfl,by go_num,by omega,φ (by rw[HSu.out];simpa using HV.out),φ (by rw[HSu.out];simpa using HO.out),Hb⟩
    case measure=>simp[intOf];omega
   | true =>
    rw[hd] at c2 hsu;simp only[if_true] at hsu;have HSu:=φ hsu;have e0:(toD f).1.val=f.page:=toD_page hpg.1 hpg.2;have e1:(toD f).2=f.first:=rfl
    have c3:wr.cell? ⟨q,0,none⟩=some (.int .i64 ((toD f).1.val:Int)):=(by rw[e0];exact cell_of_row _ _ 0 _ _ _ hbk);have c4:wr.cell? ⟨q,4,none⟩=some (.int .i64 (toD f).2):=cell_of_row _ _ 4 _ _ _ hbk;clear hd hsu hbk hf hq hpg hvl hce hlt2 e0 e1;generalize toD f=y at c3 c4 HSu;have d3:wr.drew.cell? ⟨q,0,none⟩=some (.int .i64 (y.1.val:Int)):=c3;have d4:wr.drew.cell? ⟨q,4,none⟩=some (.int .i64 y.2):=c4;generalize dirtyL (P.frames.take j)=X at HV HO HSu;have hOA:Hid (dirtyF.Own w1.heap.size (wr.drew.alloc (.cells #[.int .i64 (y.1.val:Int),.int .i64 y.2] 80)) (.slice va vn vc) X):=φ ((Ek.Own.drew HO.out).below (below_allocL' _ _));have hBA:Hid (Below w1.heap.size w1 (wr.drew.alloc (.cells #[.int .i64 (y.1.val:Int),.int .i64 y.2] 80))):=φ ((below_drewR' Hb.out).trans ((below_allocL' _ _).mono Hb.out.size));go_wp2_with (fail);go_region_law (first|(refine Ek.step_append1 dirtyF rfl _ _ rfl w1.heap.size (.slice va vn vc) X y (vn+1) (by rw[<- HV.out]) rfl hOA.out _ 1 rfl (dirtyF_lit _ y _) hBA.out.size (by have:=HVl.out;have:=HV.out;omega) ?_;intro g9 c9 w9 hown9 hg9 hgg9;have O9:Hid (dirtyF.Own w1.heap.size w9 (.slice (some ⟨g9,0,none⟩) (vn+1) c9) (X++[y])):=φ hown9;have B9:=φ (hBA.out.grown hg9 hBA.out.size (fun k e=>(hOA.out.ge k e).1));clear hown9 hg9 hgg9))
    all_goals (
     clear c3 c4 d3 d4;go_wp2_with (fail);go_roundw
     case rel=>exact⟨j+1,some ⟨g9,0,none⟩,vn+1,c9,by go_num,by go_num,by omega,φ (by rw[HSu.out,List.length_append,<- HV.out];rfl),φ (by rw[HSu.out];exact O9.out),B9⟩
     case measure=>simp[intOf];omega)
  ·have hjn:j=n:=by omega
   have hO:=HO.out;have hV:=HV.out;rw[List.take_of_length_le (by have:=HN.out;omega)] at hO hV;have HSo:=φ (sortD_all w1.heap.size va vn vc (dirtyL P.frames) wr hO (by have:=dirtyL_len P.frames;have:=HN.out;omega));have HVn:=φ hV;subst hjn;clear hO hV HO HV hj hlt;go_wp2_with (go_at_call 78;refine HSo.out.mono ?_;rintro e w5 ⟨rfl,Y,hp,hs,ho,hb5⟩;have HY:=φ (And.intro hp (And.intro hs ho));have HB5:=φ (Hb.out.trans hb5);clear hp hs ho hb5);go_ret;exact⟨va,vn,vc,Y,rfl,HVn.out.trans HY.out.1.length_eq.symm,HY.out.1,HY.out.2.1,HY.out.2.2,HB5.out⟩
theorem Rig.dirty {S:Nat->Prop} {w:World} {d l p K:Nat} {D:DK} {L:LK} {P:PK} {c:Int->List UInt8} (h:Rig S w d l p K D L P c) :
  Calls Tryz.prog 31 #[.pointer (some ⟨p,0,none⟩)] w (DirtG P w):=by
 obtain⟨U,V,ds,do_,sv,m,hand,Q,B,Us,hr,hA⟩:=h.rg;exact dirty_any w V p d l K P sv m hand Q B Us hr.pf
end
section
set_option maxRecDepth 100000
open Go.RowKit Go.Shelf
variable {B base dc g kc mb n nc oc pc:Nat} {Mr:Nat->Prop} {da ka na oa pa:Option Addr} {r:RecV} {ds v vs:Value} {w w':World}
abbrev VerAt:=Option Addr×Nat
def encVer (x:VerAt):List Value:=[.slice x.1 512 x.2]
abbrev SlAt:=Option Addr×Nat×Nat
def slV (x:SlAt):Value:=.slice x.1 x.2.1 x.2.2
def encSl (x:SlAt):List Value:=[slV x]
structure RecAt where
 r:RecV
 ka:Option Addr
 oa:Option Addr
 na:Option Addr
 da:Option Addr
 pa:Option Addr
 kc:Nat
 oc:Nat
 nc:Nat
 dc:Nat
 pc:Nat
instance:Inhabited RecAt:=⟨⟨⟨0,0,0,0,0,0,[],[],[],[],[]⟩,none,none,none,none,none,0,0,0,0,0⟩⟩
def encRec (x:RecAt):List Value:=recL x.r x.ka x.oa x.na x.da x.pa x.kc x.oc x.nc x.dc x.pc
theorem verE_info:(Tryz.prog.info? 74).map (fun i=>(i.zero,i.size,i.bytes))=some (some (.agg #[.slice none 0 0]),1,24):=by kernel_rfl
theorem slE_info:(Tryz.prog.info? 75).map (fun i=>(i.zero,i.size,i.bytes))=some (some (.slice none 0 0),1,24):=by kernel_rfl
theorem recE_info:(Tryz.prog.info? 33).map (fun i=>(i.zero,i.size,i.bytes))=some (some (.agg #[.int .i64 0,.int .i64 0,.int .i64 0,.int .i64 0,.int .u8 0,.int .i64 0,.slice none 0 0,.slice none 0 0,.slice none 0 0,.slice none 0 0,.slice none 0 0]),11,168):=by kernel_rfl
def verE:Ek VerAt where
 e:=74
 t:=75
 k:=1
 bytes:=24
 z:=.agg #[.slice none 0 0]
 enc:=encVer
 ok:=fun _=>True
 len:=fun _=>rfl
 one:=fun x u hu=>by
  unfold encVer at hu;simp only[List.mem_cons,List.not_mem_nil,or_false] at hu;rcases hu with rfl;rfl
 kpos:=by decide
 under:=Tryz.underlying75
 info:=verE_info
 zc:=rfl
 small:=by decide
def slE:Ek SlAt where
 e:=75
 t:=70
 k:=1
 bytes:=24
 z:=.slice none 0 0
 enc:=encSl
 ok:=fun _=>True
 len:=fun _=>rfl
 one:=fun x u hu=>by
  unfold encSl slV at hu;simp only[List.mem_cons,List.not_mem_nil,or_false] at hu;rcases hu with rfl;rfl
 kpos:=by decide
 under:=Tryz.underlying70
 info:=slE_info
 zc:=rfl
 small:=by decide
def recE:Ek RecAt where
 e:=33
 t:=65
 k:=11
 bytes:=168
 z:=.agg #[.int .i64 0,.int .i64 0,.int .i64 0,.int .i64 0,.int .u8 0,.int .i64 0,.slice none 0 0,.slice none 0 0,.slice none 0 0,.slice none 0 0,.slice none 0 0]
 enc:=encRec
 ok:=fun _=>True
 len:=fun _=>rfl
 one:=fun x u hu=>by
  unfold encRec recL at hu;simp only[List.mem_cons,List.not_mem_nil,or_false] at hu;rcases hu with rfl|rfl|rfl|rfl|rfl|rfl|rfl|rfl|rfl|rfl|rfl<;>rfl
 kpos:=by decide
 under:=Tryz.underlying65
 info:=recE_info
 zc:=rfl
 small:=by decide
theorem Ek.Own.set1 {α:Type} {E:Ek α} {c:Nat} {X:List α} (h:E.Own base w (.slice (some ⟨g,0,none⟩) n c) X) (hk:E.k=1) (i:Nat) (x:α) (v:Value) (hv:E.enc x=[v]):E.Own base (w.setCell ⟨g,i,none⟩ v) (.slice (some ⟨g,0,none⟩) n c) (X.set i x):=by
 have hc:∀ (Y:List α) (j:Nat),E.cells (Y.set j x)=(E.cells Y).set j v:=fun Y=>by
  induction Y with
  | nil=>intro j;rfl
  | cons y Y ih =>
   intro j;have hy:=E.len y;rw[hk] at hy;obtain⟨u,hu⟩:=List.length_eq_one_iff.1 hy
   cases j with
   | zero=>show E.enc x++E.cells Y=(E.enc y++E.cells Y).set 0 v;rw[hv,hu];rfl
   | succ j =>
    show E.enc y++E.cells (Y.set j x)=(E.enc y++E.cells Y).set (j+1) v;rw[ih j,hu];rfl
 obtain⟨h1,⟨h2,-⟩|⟨g',cap,cur,hv',hg,hh,hle,hcap,hsz,ht⟩⟩:=h
 ·cases h2
 cases hv'
 unfold Ek.Own;rw[List.length_set,hc];refine⟨by rw[List.length_set];exact h1,.inr ⟨g,c,cur.setIfInBounds i v,rfl,hg,?_,hle,hcap,by simpa using hsz,?_⟩⟩
 ·exact Lib.heap_setCell_same (i:=i) hh _
 ·rw[<- ht,Array.toList_setIfInBounds,List.take_set]
theorem own_apart {α β:Type} {E:Ek α} {F:Ek β} {b1 b2:Nat} {u:Value} {X:List α} {Y:List β} (h:E.Own b1 w v X) (k:F.Own b2 w u Y) (hne:E.e≠F.e) (h1:v.ownBlock=some g) (h2:u.ownBlock=some g):False:=by
 obtain⟨-,⟨rfl,-⟩|⟨g1,c1,cur1,rfl,-,hh1,-⟩⟩:=h
 ·cases h1
 obtain⟨-,⟨rfl,-⟩|⟨g2,c2,cur2,rfl,-,hh2,-⟩⟩:=k
 ·cases h2
 have e1:g1=g:=Option.some.inj h1;have e2:g2=g:=Option.some.inj h2;subst e1;subst e2;rw[hh1] at hh2;injection hh2 with e3
 injection e3 with e4 e5
 exact hne e5
theorem Ek.Own.heap {α:Type} {E:Ek α} {X:List α} (h:E.Own base w v X) (hg:v.ownBlock=some g):∃ cur,w.heap[g]? = some (.cells cur E.e (0,0)):=by
 obtain⟨-,⟨rfl,-⟩|⟨g1,c1,cur1,rfl,-,hh1,-⟩⟩:=h
 ·cases hg
 ·have e1:g1=g:=Option.some.inj hg;subst e1;exact⟨cur1,hh1⟩
def modelObj (vs ds:Value):Obj:=.cells #[vs,ds] 72 (0,0)
theorem Ek.Own.ne_model {α:Type} {E:Ek α} {X:List α} (h:E.Own base w v X) (hne:E.e≠72) (hm:w.heap[mb]? = some (modelObj vs ds)):v.ownBlock≠some mb:=fun hg=>by
 obtain⟨cur,hh⟩:=h.heap hg;rw[hm] at hh;injection hh with e
 injection e with e1 e2
 exact hne e2.symm
structure ModE (w:World) (Mr:Nat->Prop) (mb n:Nat) (V:Nat->List (List UInt8)) (vs ds:Value) (X:List SlAt) (A:Nat->List VerAt) (Z:List RecAt):Prop where
 blk:w.heap[mb]? = some (modelObj vs ds)
 vrow:slE.Own 0 w vs X
 xl:X.length=n
 prow:∀ i,i<n->verE.Own 0 w (slV (X.getD i default)) (A i)
 al:∀ i,i<n->(A i).length=(V i).length
 byt:∀ i,i<n->∀ j,j<(V i).length->RB w.heap.size w ((A i).getD j default).1 512 ((A i).getD j default).2 ((V i).getD j [])
 bmr:∀ i,i<n->∀ j,j<(V i).length->∀ b o s,((A i).getD j default).1=some (⟨b,o,s⟩:Addr)->Mr b
 drow:recE.Own 0 w ds Z
 rec_:∀ x∈Z,RecI w.heap.size w x.r x.ka x.oa x.na x.da x.pa x.kc x.oc x.nc x.dc x.pc/\x.r.key.length+x.r.old.length+x.r.new.length<=2000/\x.r.dirty.length+x.r.opn.length<=300
 rmr:∀ x∈Z,∀ a b o s,(a=x.ka∨a=x.oa∨a=x.na∨a=x.da∨a=x.pa)->a=some (⟨b,o,s⟩:Addr)->Mr b
 mr:∀ g,Mr g->g<w.heap.size/\g≠mb/\vs.ownBlock≠some g/\ds.ownBlock≠some g/\∀ i,i<n->(slV (X.getD i default)).ownBlock≠some g
 dis:∀ i j,i<n->j<n->i≠j->∀ g,(slV (X.getD i default)).ownBlock=some g->(slV (X.getD j default)).ownBlock≠some g
def ModB (Mr:Nat->Prop) (mb n:Nat) (vs ds:Value) (X:List SlAt) (g:Nat):Prop:=g=mb∨vs.ownBlock=some g∨ds.ownBlock=some g∨(∃ i,i<n/\(slV (X.getD i default)).ownBlock=some g)∨Mr g
theorem RecI.of_block (h:RecI B w r ka oa na da pa kc oc nc dc pc) (hb:∀ a b o s,(a=ka∨a=oa∨a=na∨a=da∨a=pa)->a=some (⟨b,o,s⟩:Addr)->w'.heap[b]? = w.heap[b]?):RecI B w' r ka oa na da pa kc oc nc dc pc:=by
 have e:∀ {b o} (s:Option Nat),w'.heap[b]? = w.heap[b]?->w'.cell? ⟨b,o,s⟩=w.cell? ⟨b,o,s⟩:=fun s hh=>World.cell?_of_block (w:=w) hh
 refine⟨RB.of_block h.k fun b o s he _ _=>hb _ b o s (.inl rfl) he,RB.of_block h.o fun b o s he _ _=>hb _ b o s (.inr (.inl rfl)) he,RB.of_block h.n fun b o s he _ _=>hb _ b o s (.inr (.inr (.inl rfl))) he,?_,?_,h.wf,h.dl,h.pl⟩
 ·refine⟨h.d.len,h.d.le,h.d.mx,h.d.fine,fun hc=>?_⟩;obtain⟨b,o,e1,hB,hcell⟩:=h.d.at_ hc;exact⟨b,o,e1,hB,fun i hi j hj=>(World.cell?_of_block (w:=w) (hb _ b o none (.inr (.inr (.inr (.inl rfl)))) e1)).trans (hcell i hi j hj)⟩
 ·refine⟨h.p.len,h.p.le,h.p.mx,h.p.fine,fun hc=>?_⟩;obtain⟨b,o,e1,hB,hcell⟩:=h.p.at_ hc;exact⟨b,o,e1,hB,fun i hi j hj=>(World.cell?_of_block (w:=w) (hb _ b o none (.inr (.inr (.inr (.inr rfl)))) e1)).trans (hcell i hi j hj)⟩
theorem RecI.mono {B':Nat} (h:RecI B w r ka oa na da pa kc oc nc dc pc) (hB:B<=B'):RecI B' w r ka oa na da pa kc oc nc dc pc :=
 ⟨h.k.mono hB,h.o.mono hB,h.n.mono hB,h.d.mono hB,h.p.mono hB,h.wf,h.dl,h.pl⟩
theorem ModE.keep {V:Nat->List (List UInt8)} {X:List SlAt} {A:Nat->List VerAt} {Z:List RecAt} (h:ModE w Mr mb n V vs ds X A Z) (hb:∀ g,ModB Mr mb n vs ds X g->w'.heap[g]? = w.heap[g]?) (hs:w.heap.size<=w'.heap.size):ModE w' Mr mb n V vs ds X A Z:=by
 refine⟨(hb mb (.inl rfl)).trans h.blk,Tx.rows_keep h.vrow fun g hg=>hb g (.inr (.inl hg)),h.xl,fun i hi=>Tx.rows_keep (h.prow i hi) fun g hg=>hb g (.inr (.inr (.inr (.inl ⟨i,hi,hg⟩)))),h.al,fun i hi j hj=>?_,h.bmr,Tx.rows_keep h.drow fun g hg=>hb g (.inr (.inr (.inl hg))),fun x hx=>⟨?_,(h.rec_ x hx).2⟩,h.rmr,fun g hg=>⟨Nat.lt_of_lt_of_le (h.mr g hg).1 hs,(h.mr g hg).2⟩,h.dis⟩
 ·exact (RB.of_block (h.byt i hi j hj) fun b o s e _ _=>hb b (.inr (.inr (.inr (.inr (h.bmr i hi j hj b o s e)))))).mono hs
 ·exact ((h.rec_ x hx).1.of_block fun a b o s ha e=>hb b (.inr (.inr (.inr (.inr (h.rmr x hx a b o s ha e)))))).mono hs
theorem ModE.lt {V:Nat->List (List UInt8)} {X:List SlAt} {A:Nat->List VerAt} {Z:List RecAt} (h:ModE w Mr mb n V vs ds X A Z) (hg:ModB Mr mb n vs ds X g):g<w.heap.size:=by
 rcases hg with rfl|hg|hg|⟨i,hi,hg⟩|hg
 ·exact ξ h.blk
 ·exact (Tx.rows_ge h.vrow g hg).2
 ·exact (Tx.rows_ge h.drow g hg).2
 ·exact (Tx.rows_ge (h.prow i hi) g hg).2
 ·exact (h.mr g hg).1
end
end Go.Proofs.YtohlkkannjifmaaGreatDoor
