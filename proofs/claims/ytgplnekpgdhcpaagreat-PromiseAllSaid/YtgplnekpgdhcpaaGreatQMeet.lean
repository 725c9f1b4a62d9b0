/-  -/
import Derived.Test.YtgplnekpgdhcpaaGreatKKeptI
import Derived.Laws.OwnMore
import Derived.Test.YtgplnekpgdhcpaaGreatQBridge
import Derived.Test.YtgplnekpgdhcpaaGreatKFind
import Derived.Test.YtgplnekpgdhcpaaGreatKMark
import Derived.Test.YtgplnekpgdhcpaaGreatQWin
namespace Go.Proofs.YtgplnekpgdhcpaaGreat
section
open Go.RowKit
def encI (y:It):List Value:=[encStr y.code,.int .i64 y.life,.slice y.pa y.ps.length y.pc,.slice y.oa y.os.length y.oc]
def cellsI (Y:List It):List Value:=Y.flatMap encI
theorem cellsI_len:∀ Y:List It,(cellsI Y).length=Y.length*4
 | []=>rfl
 | y::Y=>by
  have:=cellsI_len Y;unfold cellsI at *;rw[List.flatMap_cons,List.length_append,this];simp[encI];omega
theorem cellsI_append (Y Z:List It):cellsI (Y++Z)=cellsI Y++cellsI Z:=by simp[cellsI]
theorem cellsI_one {Y:List It}:∀ u∈cellsI Y,u.oneCell'=true:=by
 intro u hu;obtain⟨p,_,hp⟩:=List.mem_flatMap.1 hu;simp only[encI,List.mem_cons,List.not_mem_nil,or_false] at hp;rcases hp with rfl|rfl|rfl|rfl<;>rfl
theorem cellsI_at:∀ (Y:List It) (i:Nat),i<Y.length->(cellsI Y)[i*4]? = some (encStr (Y.getD i default).code)/\(cellsI Y)[i*4+1]? = some (.int .i64 (Y.getD i default).life)/\(cellsI Y)[i*4+2]? = some (.slice (Y.getD i default).pa (Y.getD i default).ps.length (Y.getD i default).pc)/\(cellsI Y)[i*4+3]? = some (.slice (Y.getD i default).oa (Y.getD i default).os.length (Y.getD i default).oc)
 | [],i,h=>by simp at h
 | y::Y,0,_=>by simp[cellsI,encI]
 | y::Y,i+1,h=>by
  have ih:=cellsI_at Y i (by simpa using h);have e:cellsI (y::Y)=encStr y.code::Value.int .i64 y.life::Value.slice y.pa y.ps.length y.pc::Value.slice y.oa y.os.length y.oc::cellsI Y:=rfl;rw[e,show (i+1)*4=i*4+1+1+1+1 by omega];simpa using ih
def OIt (base:Nat) (w:World) (v:Value) (Y:List It):Prop:=w.ownsRow base 87 4 v Y.length (cellsI Y)
theorem Tryz.infoItem:(Tryz.prog.info? 87).map (fun i=>(i.zero,i.size,i.bytes))=some (some (.agg #[.string ByteArray.empty,.int .i64 0,.slice none 0 0,.slice none 0 0]),4,72):=by kernel_rfl
theorem OIt.mono {B B':Nat} {w:World} {v:Value} {Y:List It} (h:OIt B w v Y) (hb:B'<=B):OIt B' w v Y:=by
 obtain⟨h1,h2|⟨g,cap,cur,hv,hg,r⟩⟩:=h
 ·exact⟨h1,.inl h2⟩
 ·exact⟨h1,.inr ⟨g,cap,cur,hv,Nat.le_trans hb hg,r⟩⟩
theorem OIt.keep {base:Nat} {W W':World} {v:Value} {Y:List It} (h:OIt base W v Y) (hk:∀ b,v.ownBlock=some b->W'.heap[b]? = W.heap[b]?):OIt base W' v Y:=by
 obtain⟨e1,h3|⟨g,cap,cur,hv,hg,hh,r⟩⟩:=h
 ·exact⟨e1,.inl h3⟩
 ·exact⟨e1,.inr ⟨g,cap,cur,hv,hg,(hk g (by rw[hv];rfl)).trans hh,r⟩⟩
theorem OIt.ge {base:Nat} {W:World} {v:Value} {Y:List It} (h:OIt base W v Y):∀ b,v.ownBlock=some b->base<=b/\b<W.heap.size:=by
 intro b hb;obtain⟨e1,⟨rfl,-⟩|⟨g,cap,cur,rfl,hg,hh,r⟩⟩:=h
 ·cases hb
 ·cases hb
  exact⟨hg,(Array.getElem?_eq_some_iff.1 hh).1⟩
theorem OIt.below {base:Nat} {W W':World} {v:Value} {Y:List It} (h:OIt base W v Y) (hb:Below W.heap.size W W'):OIt base W' v Y :=
 h.keep fun b e=>hb.block b (h.ge b e).2
theorem one_item (W:World) (y:It) (t:TypeId):∀ j u,(cellsI [y])[j]? = some u->(W.alloc (.cells #[encStr y.code,.int .i64 y.life,.slice y.pa y.ps.length y.pc,.slice y.oa y.os.length y.oc] t)).cell? ((⟨W.heap.size,0,none⟩:Addr).add j)=some u:=by
 intro j u hu;have e:(⟨W.heap.size,0,none⟩:Addr).add j=⟨W.heap.size,0+j,none⟩:=by unfold Addr.add;split<;>simp_all
 rw[e];simp only[World.cell?,(Go.MapKept.heap_alloc W _).1];simpa [cellsI,encI] using hu
theorem one_item2 (W:World) (y:It) (c:Array Value) (t t':TypeId):∀ j u,(cellsI [y])[j]? = some u->((W.alloc (.cells c t)).alloc (.cells #[.string ⟨y.code.toArray⟩,.int .i64 y.life,.slice y.pa y.ps.length y.pc,.slice y.oa y.os.length y.oc] t')).cell? ((⟨W.heap.size+1,0,none⟩:Addr).add j)=some u:=by
 have:=one_item (W.alloc (.cells c t)) y t';rw[World.size_alloc] at this;exact this
theorem wpList_append_item {w:World} {ops:Array Oper} {rest:List Oper} {o:Oper} {a:Act} {K:Exit->Act->World->Prop} (hgd:o.guard=none) (s x:Operand)
  (ho:o.op=.call { callee:=.builtin .append,args:=#[s,x],argTypes:=#[22,22] }) (base g0 n0 c0:Nat) (Y:List It) (y:It) (hs:a.eval s=.slice (some ⟨g0,0,none⟩) n0 c0) (h:OIt base w (.slice (some ⟨g0,0,none⟩) n0 c0) Y) (ad:Addr) (c:Nat)
  (hx:a.eval x=.slice (some ad) 1 c) (hsrc:∀ j u,(cellsI [y])[j]? = some u->w.cell? (ad.add j)=some u) (hroom:n0+1<=c0)
  (hK:∀ w',OIt base w' (.slice (some ⟨g0,0,none⟩) (n0+1) c0) (Y++[y])->w.grownBy w' (some g0)->wpList Tryz.prog ops K rest (a.put o.dst (.slice (some ⟨g0,0,none⟩) (n0+1) c0)) w'):wpList Tryz.prog ops K (o::rest) a w:=by
 obtain⟨i0,hi,hz0,hz1,hz2⟩:=info_parts Tryz.infoItem;have hn0:n0=Y.length:=by
  obtain⟨e,⟨h1,-⟩|⟨g,cap,cur,h1,-⟩⟩:=h
  ·cases h1
  ·cases h1;rfl
 subst hn0;obtain⟨w',hr,hown,hg⟩:=run_append_fits (P:=Tryz.prog) w base 22 o.type 87 i0 4 Tryz.underlying22 hi hz1 g0 Y.length c0 (cellsI Y) h ad 1 c (cellsI [y]) (cellsI_len [y]) hsrc cellsI_one hroom;have ho2:OIt base w' (.slice (some ⟨g0,0,none⟩) (Y.length+1) c0) (Y++[y]):=by
  unfold OIt;rw[List.length_append,cellsI_append];exact hown
 refine wpList_plain hgd fun K' hK'=>?_
 unfold Oper.wp execOp;simp only[ho,resolve,invoke,builtin,Sem.run_bind,Sem.run_pure,Result.andThen_ok,List.map_toArray,List.map_cons,List.map_nil,hs,hx,hr];exact hK' _ _ (hK w' ho2 hg)
def mkIt (i:Nat):It:=⟨[],(markN 1 i:Int),none,0,[],none,0,[]⟩
def lentI:List It:=(List.range 12).map mkIt
theorem lentI_len:lentI.length=12:=by simp[lentI]
theorem lentI_at (j:Nat) (h:j<12):lentI[j]'(by rw[lentI_len];exact h)=mkIt j:=by simp[lentI]
theorem lentI_take (j:Nat) (h:j<12):lentI.take (j+1)=lentI.take j++[mkIt j]:=by
 rw[List.take_succ_eq_append_getElem (by rw[lentI_len];exact h),lentI_at j h]
theorem markItem_any (i:Nat) (w:World) (hi:i<=1000000000) :
  Calls Tryz.prog 64 #[.int .i64 1,.int .i64 i] w fun e w'=>e=.returned (.agg #[.string ⟨#[]⟩,.int .i64 (markN 1 i:Nat),.slice none 0 0,.slice none 0 0])/\Below w.heap.size w w':=by
 have HM:=Lib.hid (fun W=>mark_any 1 i W (by omega) hi);have hm:=markN_bd 1 i (by omega) hi;generalize markN 1 i=m at HM hm;have hw:=wrap_in (x:=(m:Int)) (by omega) (by omega);have HB:=Lib.hid (fun c:Array Value=>(Below.refl w.heap.size w).alloc (Nat.le_refl _) (.cells c 87));have HB2:=Lib.hid (fun (c:Array Value) (v:Value)=>((Below.refl w.heap.size w).alloc (Nat.le_refl _) (.cells c 87)).setCell (p:=⟨w.heap.size,1,none⟩) (Nat.le_refl _) v);go_enter Tryz.func64,Tryz.ntmps64;go_wp2_with (go_at_call 96;refine (HM.out _).mono ?_;rintro e w' ⟨rfl,rfl⟩);go_returns;exact⟨rfl,by first|exact HB.out _|exact HB2.out _ _⟩
theorem LI.mono {base base':Nat} {w:World} {x y:It} (h:LI base w x y) (hb:base'<=base):LI base' w x y:=by
 obtain⟨g,e1,e2,e3,e4⟩:=h.op;obtain⟨k,f1,f2,f3,f4⟩:=h.ot;exact⟨h.like,⟨g,e1,e2,e3,e4.mono hb⟩,⟨k,f1,f2,f3,f4.mono hb⟩⟩
theorem LI.keepG {base:Nat} {w w':World} {x y:It} (h:LI base w x y) (hk:∀ b,base<=b->b<w.heap.size->w'.heap[b]? = w.heap[b]?):LI base w' x y:=by
 obtain⟨g,e1,e2,e3,e4⟩:=h.op;obtain⟨k,f1,f2,f3,f4⟩:=h.ot;exact⟨h.like,⟨g,e1,e2,e3,e4.keep fun b e=>hk b (e4.ge b e).1 (e4.ge b e).2⟩,⟨k,f1,f2,f3,f4.keep fun b e=>hk b (f4.ge b e).1 (f4.ge b e).2⟩⟩
def LIR (w:World) (n:Nat) (X Y:List It) (j:Nat) (wr:World):Prop :=
 Y.length=j/\OIt w.heap.size wr (.slice (some ⟨w.heap.size,0,none⟩) j (n+12)) Y/\(∀ i,i<j->LI (w.heap.size+1) wr (X.getD i default) (Y.getD i default))/\Below w.heap.size w wr/\w.heap.size<wr.heap.size
theorem LIR.step {w:World} {n:Nat} {X Y:List It} {j:Nat} {wr wm:World} {y:It} (h:LIR w n X Y j wr) (hm:Below wr.heap.size wr wm) (hy:LI wr.heap.size wm (X.getD j default) y) {c d:Array Value} {t:TypeId} {w4:World} (ho:OIt w.heap.size w4 (.slice (some ⟨w.heap.size,0,none⟩) (j+1) (n+12)) (Y++[y])) (hg:((wm.alloc (.cells c t)).alloc (.cells d t)).grownBy w4 (some w.heap.size)):LIR w n X (Y++[y]) (j+1) w4:=by
 obtain⟨h1,h2,h3,h4,h5⟩:=h;have hsz:=hm.size;have hb2:Below wm.heap.size wm ((wm.alloc (.cells c t)).alloc (.cells d t)):=((Below.refl _ wm).alloc (Nat.le_refl _) _).alloc (by rw[World.size_alloc];omega) _;have hk:∀ b,w.heap.size+1<=b->b<wm.heap.size->w4.heap[b]? = wm.heap[b]?:=fun b hb1 hb=>(hg.block b (by rw[World.size_alloc,World.size_alloc];omega) (fun e=>by have:=Option.some.inj e;omega)).trans (hb2.block b hb)
 have hs4:=hg.size;rw[World.size_alloc,World.size_alloc] at hs4;refine⟨by rw[List.length_append,h1];rfl,ho,fun i hi=>?_,(h4.trans ((hm.mono (Nat.le_of_lt h5)).trans (hb2.mono (by omega)))).grown hg (by rw[World.size_alloc,World.size_alloc];omega) (fun k e=>by rw[<- Option.some.inj e];exact Nat.le_refl _),by omega⟩;rcases Nat.lt_or_ge i j with hij|hij
 ·have e:(Y++[y]).getD i default=Y.getD i default:=by
   rw[List.getD_eq_getElem?_getD,List.getElem?_append_left (by omega),List.getD_eq_getElem?_getD]
  rw[e];exact ((h3 i hij).keepG fun b _ hb=>hm.block b hb).keepG hk
 ·obtain rfl:i=j:=by omega
  have e:(Y++[y]).getD i default=y:=by
   rw[List.getD_eq_getElem?_getD,List.getElem?_append_right (by omega),h1];simp
  rw[e];exact (hy.mono (by omega)).keepG hk
def LJR (w:World) (n:Nat) (X Y:List It) (d:Nat) (wr:World):Prop :=
 OIt w.heap.size wr (.slice (some ⟨w.heap.size,0,none⟩) (n+d) (n+12)) (Y++lentI.take d)/\(∀ i,i<n->LI (w.heap.size+1) wr (X.getD i default) (Y.getD i default))/\Below w.heap.size w wr/\w.heap.size<wr.heap.size
theorem LJR.step {w:World} {n:Nat} {X Y:List It} {d:Nat} (hd:d<12) {wr wm:World} (h:LJR w n X Y d wr) (hm:Below wr.heap.size wr wm) {c:Array Value} {t:TypeId} {w4:World} (ho:OIt w.heap.size w4 (.slice (some ⟨w.heap.size,0,none⟩) (n+d+1) (n+12)) ((Y++lentI.take d)++[mkIt d])) (hg:(wm.alloc (.cells c t)).grownBy w4 (some w.heap.size)):LJR w n X Y (d+1) w4:=by
 obtain⟨h2,h3,h4,h5⟩:=h;have hsz:=hm.size;have hb2:Below wm.heap.size wm (wm.alloc (.cells c t)):=(Below.refl _ wm).alloc (Nat.le_refl _) _;have hk:∀ b,w.heap.size+1<=b->b<wm.heap.size->w4.heap[b]? = wm.heap[b]?:=fun b hb1 hb=>(hg.block b (by rw[World.size_alloc];omega) (fun e=>by have:=Option.some.inj e;omega)).trans (hb2.block b hb)
 have hs4:=hg.size;rw[World.size_alloc] at hs4;refine⟨by rw[lentI_take d hd,<- List.append_assoc];exact ho,fun i hi=>((h3 i hi).keepG fun b _ hb=>hm.block b hb).keepG hk,(h4.trans ((hm.mono (Nat.le_of_lt h5)).trans (hb2.mono (by omega)))).grown hg (by rw[World.size_alloc];omega) (fun k e=>by rw[<- Option.some.inj e];exact Nat.le_refl _),by omega⟩
set_option maxHeartbeats 2000000 in
set_option maxRecDepth 100000 in
theorem LentItems_any (N:Nat) (a:Option Addr) (n c:Nat) (X:List It) (w:World) (hr:RI N w a n c X) (hN:N<=w.heap.size) (hs:n<=100000) (hsz:∀ x∈X,x.ps.length*24<=140737488355328/\x.os.length*16<=140737488355328) :
  Calls Tryz.prog 31 #[.slice a n c] w fun e w'=>∃ Y:List It,e=.returned (.slice (some ⟨w.heap.size,0,none⟩) n (n+12))/\Y.length=n/\OIt w.heap.size w' (.slice (some ⟨w.heap.size,0,none⟩) (n+12) (n+12)) (Y++lentI)/\(∀ i,i<n->LI (w.heap.size+1) w' (X.getD i default) (Y.getD i default))/\Below w.heap.size w w':=by
 obtain⟨i0,hi,hz0,hz1,hz2⟩:=info_parts Tryz.infoItem;have hln:=hr.len;have hle:=hr.le;have hmx:=hr.mx;have Hln:=Lib.hid hln;have Hr:=Lib.hid hr;have Hi:=Lib.hid hi;have Hz0:=Lib.hid hz0;have Hz1:=Lib.hid hz1;have HSZ:=Lib.hid hsz;have hb0:i0.bytes*(n+12)<=281474976710656:=by rw[hz2];omega
 have Hb0:=Lib.hid hb0;clear hi hz0 hz1 hz2 hr hln hb0 hsz;go_enter Tryz.func31,Tryz.ntmps31;go_wp2_with (first
  | (refine wpList_make_own _ rfl _ _ 22 rfl w.heap.size 87 i0 _ 4 Tryz.underlying22 Hi.out Hz0.out Hz1.out .i64 .i64 _ (n+12) rfl rfl (by omega) Hb0.out (by simp only[maxLen];omega) (Nat.le_refl _) ?_;intro w1 hown1 hg1;have O1:Hid (OIt w.heap.size w1 (.slice (some ⟨w.heap.size,0,none⟩) 0 (n+12)) []):=Lib.hid hown1;have B1:Hid (Below w.heap.size w w1):=Lib.hid ((Below.refl _ w).grown hg1 (Nat.le_refl _) (fun r e=>by cases e));clear hown1 hg1))
 have hs1:Hid (w.heap.size<w1.heap.size):=Lib.hid (by have:=(O1.out.ge _ rfl).2;exact this);go_loopw [3,4] (fun v i wr=>∃ (j:Nat) (Y:List It),j<=n/\i=.int .i64 j/\v=.slice (some ⟨w.heap.size,0,none⟩) j (n+12)/\Hid (LIR w n X Y j wr)) (fun _ i _=>n-(intOf i).toNat)
 case atStart=>exact⟨0,[],by omega,rfl,rfl,Lib.hid ⟨rfl,O1.out,fun i hi=>absurd hi (Nat.not_lt_zero _),B1.out,hs1.out⟩⟩
 case round =>
  obtain⟨j,Y,hj,rfl,rfl,HI⟩:=hrel;by_cases hlt:j<n
  ·have t1:decide ((j:Int)<(n:Int))=true:=by simp;omega
   have f1:IntKind.i64.wrap ((j:Int)+1)=((j+1:Nat):Int):=by rw[wrap_in (by omega) (by omega)];omega
   have hrj:=Hr.out.below (HI.out.2.2.2.1.mono hN);obtain⟨b,o,rfl,hbN,hc⟩:=hrj.at_ (by omega);obtain⟨k1,k2,k3,k4⟩:=hc j hlt;have hxm:X.getD j default∈X:=by
    rw[List.getD_eq_getElem?_getD,List.getElem?_eq_getElem (by rw[<- Hln.out];exact hlt)];exact List.getElem_mem _
   have hxo:=hrj.ok _ hxm;have hxs:=HSZ.out _ hxm;obtain⟨x,hx⟩:∃ x,x=X.getD j default:=⟨_,rfl⟩
   rw[<- hx] at k1 k2 k3 k4 hxo hxs;have hli:=LentItem_any N x wr hxo (Nat.le_trans hN HI.out.2.2.2.1.size) hxs.1 hxs.2;unfold It.val at hli;unfold encStr at k1 hli;have HLI:=Lib.hid hli;have HX:=Lib.hid hx;clear hc hrj hxm hxo hxs hx hli;go_wp2_with (fail);go_at_call 63;refine HLI.out.mono ?_;rintro e wm ⟨hbm,y,rfl,hy⟩;have hst:=fun c d t w4=>HI.out.step (c:=c) (d:=d) (t:=t) (w4:=w4) hbm (by rw[<- HX.out];exact hy)
   have HST:=Lib.hid hst;have O3:=Lib.hid (((HI.out.2.1.below hbm).below ((Below.refl _ wm).alloc (Nat.le_refl _) (.cells #[.string ⟨y.code.toArray⟩,.int .i64 y.life,.slice y.pa y.ps.length y.pc,.slice y.oa y.os.length y.oc] 87))).below ((Below.refl _ (wm.alloc (.cells #[.string ⟨y.code.toArray⟩,.int .i64 y.life,.slice y.pa y.ps.length y.pc,.slice y.oa y.os.length y.oc] 87))).alloc (Nat.le_refl _) (.cells #[.string ⟨y.code.toArray⟩,.int .i64 y.life,.slice y.pa y.ps.length y.pc,.slice y.oa y.os.length y.oc] 87)));have Hl:=Lib.hid (show j+1<=n+12 by omega);clear hst hbm hy;go_wp2_with (first|(at_builtin;refine wpList_append_item rfl _ _ rfl w.heap.size w.heap.size j (n+12) Y y rfl O3.out _ 1 rfl (one_item2 _ y _ _ _) Hl.out ?_;intro w4 hown4 hg4));have HI4:=Lib.hid (HST.out _ _ _ w4 hown4 hg4);clear hown4 hg4;go_roundw
   case rel=>exact⟨j+1,Y++[y],by omega,by go_num,by go_num,HI4⟩
   case measure=>simp[intOf];omega
  ·have t1:decide ((j:Int)<(n:Int))=false:=by simp;omega
   have hjn:j=n:=by omega
   subst hjn;clear hj hlt;go_wp2_with (fail);obtain⟨hYl,hJ0⟩:=HI.out;have HYL:=Lib.hid hYl;have HJ0:Hid (LJR w j X Y 0 wr):=Lib.hid ⟨by simpa using hJ0.1,hJ0.2⟩;clear hYl hJ0;go_loopw [3,6] (fun v i wr=>∃ (d:Nat),d<=12/\i=.int .i64 d/\v=.slice (some ⟨w.heap.size,0,none⟩) (j+d) (j+12)/\Hid (LJR w j X Y d wr)) (fun _ i _=>12-(intOf i).toNat)
   case atStart=>exact⟨0,by omega,rfl,rfl,HJ0⟩
   case round =>
    obtain⟨d,hd,rfl,rfl,HJ⟩:=hrel;by_cases hlt:d<12
    ·have t1:decide ((d:Int)<12)=true:=(by simp;omega);have f1:IntKind.i64.wrap ((d:Int)+1)=((d+1:Nat):Int):=(by rw[wrap_in (by omega) (by omega)];omega);have hmk:=fun W=>markItem_any d W (by omega)
     have hmt:mkIt d=⟨[],(markN 1 d:Int),none,0,[],none,0,[]⟩:=rfl;obtain⟨m,hm⟩:∃ m,m=markN 1 d:=⟨_,rfl⟩
     rw[<- hm] at hmk hmt;have HM:=Lib.hid hmk;have HMT:=Lib.hid hmt;have Hl:=Lib.hid (show j+d+1<=j+12 by omega);have HLT:=Lib.hid hlt;clear hm hmk hmt;go_wp2_with (first|(go_at_call 64;refine (HM.out _).mono ?_;rintro e wm ⟨rfl,hbm⟩;have HST:=Lib.hid (fun c t w4=>HJ.out.step HLT.out (c:=c) (t:=t) (w4:=w4) hbm);have O3:=Lib.hid ((HJ.out.1.below hbm).below ((Below.refl _ wm).alloc (Nat.le_refl _) (.cells #[.string ⟨#[]⟩,.int .i64 (m:Int),.slice none 0 0,.slice none 0 0] 87)));clear hbm)|(at_builtin;refine wpList_append_item rfl _ _ rfl w.heap.size w.heap.size (j+d) (j+12) (Y++lentI.take d) ⟨[],(m:Int),none,0,[],none,0,[]⟩ rfl O3.out _ 1 rfl (one_item _ ⟨[],(m:Int),none,0,[],none,0,[]⟩ _) Hl.out ?_;intro w4 hown4 hg4));have HI4:=Lib.hid (HST.out _ _ w4 (by rw[HMT.out];exact hown4) hg4);clear hown4 hg4;go_roundw
     case rel=>exact⟨d+1,by omega,by go_num,by go_num,HI4⟩
     case measure=>simp[intOf];omega
    ·have t1:decide ((d:Int)<12)=false:=(by simp;omega);have hd12:d=12:=(by omega);subst hd12;have q4:(j:Int)<=(j:Int)+12:=(by omega);go_wp2_with (fail);go_ret;have h:=HJ.out.1;rw[List.take_of_length_le (Nat.le_of_eq lentI_len)] at h;exact⟨Y,rfl,HYL.out,h,HJ.out.2.1,HJ.out.2.2.1⟩
end
section
open Go.RowKit
set_option maxRecDepth 100000 in
theorem itE_under:Tryz.prog.underlying 22=some (.slice 87):=Tryz.underlying22
def itE:El It where
 e:=87
 t:=22
 k:=4
 bytes:=72
 z:=.agg #[.string ByteArray.empty,.int .i64 0,.slice none 0 0,.slice none 0 0]
 enc:=encI
 ok:=fun x=>x.code.length<=9223372036854775807/\-9223372036854775808<=x.life/\x.life<=9223372036854775807
 len:=fun _=>rfl
 one:=fun x u hu=>by
  unfold encI at hu;simp only[List.mem_cons,List.not_mem_nil,or_false] at hu;rcases hu with rfl|rfl|rfl|rfl<;>rfl
 kpos:=by decide
 under:=itE_under
 info:=Tryz.infoItem
 zc:=rfl
 small:=by decide
set_option maxRecDepth 100000 in
theorem ptE_under:Tryz.prog.underlying 64=some (.slice 74):=Tryz.underlying64
theorem ptE_info:(Tryz.prog.info? 74).map (fun i=>(i.zero,i.size,i.bytes))=some (some (.agg #[.string ByteArray.empty,.int .i64 0]),2,24):=by kernel_rfl
def ptE:El Pt where
 e:=74
 t:=64
 k:=2
 bytes:=24
 z:=.agg #[.string ByteArray.empty,.int .i64 0]
 enc:=encP
 ok:=fun x=>x.1.length<=9223372036854775807/\-9223372036854775808<=x.2/\x.2<=9223372036854775807
 len:=fun _=>rfl
 one:=fun x u hu=>by
  unfold encP at hu;simp only[List.mem_cons,List.not_mem_nil,or_false] at hu;rcases hu with rfl|rfl<;>rfl
 kpos:=by decide
 under:=ptE_under
 info:=ptE_info
 zc:=rfl
 small:=by decide
set_option maxRecDepth 100000 in
theorem txE_under:Tryz.prog.underlying 43=some (.slice 9):=Tryz.underlying43
theorem txE_info:(Tryz.prog.info? 9).map (fun i=>(i.zero,i.size,i.bytes))=some (some (.string ByteArray.empty),1,16):=by kernel_rfl
def txE:El (List UInt8) where
 e:=9
 t:=43
 k:=1
 bytes:=16
 z:=.string ByteArray.empty
 enc:=fun t=>[encStr t]
 ok:=fun t=>t.length<=9223372036854775807
 len:=fun _=>rfl
 one:=fun x u hu=>by
  simp only[List.mem_cons,List.not_mem_nil,or_false] at hu;subst hu;rfl
 kpos:=by decide
 under:=txE_under
 info:=txE_info
 zc:=rfl
 small:=by decide
theorem RI.el {B:Nat} {w:World} {a:Option Addr} {n c:Nat} {X:List It} (h:RI B w a n c X):itE.In B w a n c X:=by
 refine⟨h.len,h.le,h.mx,fun x hx=>⟨(h.ok x hx).code,(h.ok x hx).lo,(h.ok x hx).hi⟩,fun hc=>?_⟩;obtain⟨b,o,e,hB,hcell⟩:=h.at_ hc;refine⟨b,o,e,hB,fun i hi j hj=>?_⟩;obtain⟨k0,k1,k2,k3⟩:=hcell i hi;have hj4:j<4:=hj
 match j,hj4 with
 | 0,_=>exact k0
 | 1,_=>exact k1
 | 2,_=>exact k2
 | 3,_=>exact k3
theorem RP.el {B:Nat} {w:World} {a:Option Addr} {n c:Nat} {P:List Pt} (h:RP B w a n c P):ptE.In B w a n c P:=by
 refine⟨h.len,h.le,h.mx,fun x hx=>h.fine x hx,fun hc=>?_⟩;obtain⟨b,o,e,hB,hcell⟩:=h.at_ hc;refine⟨b,o,e,hB,fun i hi j hj=>?_⟩;obtain⟨k0,k1⟩:=hcell i hi;have hj4:j<2:=hj
 match j,hj4 with
 | 0,_=>exact k0
 | 1,_=>exact k1
theorem RT.el {B:Nat} {w:World} {a:Option Addr} {n c:Nat} {T:List (List UInt8)} (h:RT B w a n c T):txE.In B w a n c T:=by
 refine⟨h.len,h.le,h.mx,fun x hx=>h.fine x hx,fun hc=>?_⟩;obtain⟨b,o,e,hB,hcell⟩:=h.at_ hc;refine⟨b,o,e,hB,fun i hi j hj=>?_⟩;have hj4:j<1:=hj
 match j,hj4 with
 | 0,_ =>
  show w.cell? ⟨b,o+i*1+0,none⟩=_;rw[Nat.mul_one];exact hcell i hi
theorem txE_rt {B:Nat} {w:World} {a:Option Addr} {n c:Nat} {T:List (List UInt8)} (h:txE.In B w a n c T):RT B w a n c T:=by
 refine⟨h.len,h.le,h.mx,fun x hx=>h.fine x hx,fun hc=>?_⟩;obtain⟨b,o,e,hB,hcell⟩:=h.at_ hc;refine⟨b,o,e,hB,fun i hi=>?_⟩;have:=hcell i hi 0 (by decide);rw[show txE.k=1 from rfl,Nat.mul_one] at this;exact this
end
section
open Go.RowKit Go.Sort Go.Lib Tx
section
variable {α:Type} [Inhabited α] {E:El α}
theorem cells_set (Y:List α) (i j:Nat) (y:α) (v:Value) (hi:i<Y.length) (hj:j<E.k) (hy:E.enc y=(E.enc (Y.getD i default)).set j v):E.cells (Y.set i y)=(E.cells Y).set (i*E.k+j) v:=by
 have hk:=E.kpos;apply List.ext_getElem?;intro t;by_cases ht:t<Y.length*E.k
 ·have hti:t / E.k<Y.length:=Nat.div_lt_of_lt_mul (by rw[Nat.mul_comm];exact ht);have hm:t % E.k<E.k:=Nat.mod_lt _ hk;have h1:=E.cells_at (Y.set i y) (t / E.k) (t % E.k) (by simpa using hti) hm;have h2:=E.cells_at Y (t / E.k) (t % E.k) hti hm;rw[Nat.div_add_mod' t E.k] at h1 h2;rw[h1,List.getElem?_set];have hl:(E.cells Y).length=Y.length*E.k:=E.cells_len Y;by_cases e:i*E.k+j=t
  ·have e1:t / E.k=i:=by rw[<- e,Nat.mul_comm,Nat.mul_add_div hk,Nat.div_eq_of_lt hj,Nat.add_zero]
   have e2:t % E.k=j:=by rw[<- e,Nat.mul_comm,Nat.mul_add_mod,Nat.mod_eq_of_lt hj]
   rw[if_pos e,if_pos (by rw[hl,e];exact ht),e1,e2];have e3:(Y.set i y).getD i default=y:=by simp[List.getD_eq_getElem?_getD,hi]
   rw[e3,hy,List.getElem?_set_self (by rw[E.len];exact hj)]
  ·rw[if_neg e,h2];by_cases e1:t / E.k=i
   ·rw[e1];have e3:(Y.set i y).getD i default=y:=(by simp[List.getD_eq_getElem?_getD,hi]);have e4:t % E.k≠j:=fun h=>e (by rw[<- e1,<- h,Nat.div_add_mod' t E.k])
    rw[e3,hy,List.getElem?_set_ne (Ne.symm e4)]
   ·have e3:(Y.set i y).getD (t / E.k) default=Y.getD (t / E.k) default:=by
     rw[List.getD_eq_getElem?_getD,List.getD_eq_getElem?_getD,List.getElem?_set_ne (Ne.symm e1)]
    rw[e3]
 ·rw[List.getElem?_eq_none (by rw[E.cells_len];simp;omega),List.getElem?_eq_none (by rw[List.length_set,E.cells_len];omega)]
theorem own_setCell {base g n c:Nat} {w:World} {Y:List α} (h:E.Own base w (.slice (some ⟨g,0,none⟩) n c) Y) (i j:Nat) (y:α) (v:Value) (hi:i<n) (hj:j<E.k) (hy:E.enc y=(E.enc (Y.getD i default)).set j v):E.Own base (w.setCell ⟨g,i*E.k+j,none⟩ v) (.slice (some ⟨g,0,none⟩) n c) (Y.set i y):=by
 obtain⟨hx,⟨h2,-⟩|⟨g',cap,cur,hv,hg,hh,hle,hmx,hsz,htk⟩⟩:=id h
 ·cases h2
 ·obtain⟨hn,-⟩:=h.cell;subst hn;injection hv with e1 e2 e3
  injection e1 with e1
  injection e1 with e1
  subst e1;subst e3;have hlt:g<w.heap.size:=(Array.getElem?_eq_some_iff.1 hh).1;refine⟨by rw[E.cells_len],.inr ⟨g,c,cur.setIfInBounds (i*E.k+j) v,by rw[List.length_set],hg,?_,by rw[List.length_set];exact hle,hmx,by simpa using hsz,?_⟩⟩
  ·rw[setCell_eq];simp[mapBlock,Array.getElem?_modify,hh,onCells]
  ·rw[List.length_set,cells_set Y i j y v hi hj hy,<- htk,Array.toList_setIfInBounds,List.take_set]
end
end
section
open Go.RowKit
theorem results_cell_tmp1 {P:Program} {fn:Func} {p u:Tmp} {ty:TypeId} (h:fn.results=#[.cell p ty,.tmp u]) (tmps:Array Value) (w:World) (g:Nat) (t:TypeId) (cs:Array Value) (fr:Nat×Nat) (d:TypeDesc) (hp:tmps.getD p undef=.pointer (some ⟨g,0,none⟩)) (hg:w.heap[g]? = some (.cells cs t fr))
  (hu:P.underlying ty=some d) (hd:(match d with | .struct _ | .array _ _=>true|_=>false)=true) (hi:(P.info? ty).map (·.size)=some cs.size):(results fn tmps).run P w=.ok (.tuple #[.agg cs,tmps.getD u undef]) w:=by
 have hp':tmps[p]?.getD undef=.pointer (some ⟨g,0,none⟩):=by simpa using hp
 simp[results,h,hp',asAddr,run_loadVar_row w g t ty cs fr d hg hu hd hi]
theorem within_any (a b:Int) (w:World):Calls Tryz.prog 191 #[.int .i64 a,.int .i64 b] w fun e w'=>e=.returned (.tuple #[.agg #[.int .i64 (if a<b then a else 0),.int .i64 (if a<b then b else 0)],.bool (decide (a<b))])/\Below w.heap.size w w':=by
 by_cases h:a<b
 ·have hd:decide (b<=a)=false:=decide_eq_false (by omega);rw[if_pos h,if_pos h,decide_eq_true h];clear h;go_enter Tryz.func191,Tryz.ntmps191;go_wp2_with (fail);refine bodyPost_ret (results_cell_tmp1 (P:=Tryz.prog) (fn:=Tryz.f191) (p:=4) (u:=5) (ty:=48) rfl _ _ w.heap.size 48 _ (0,0) _ rfl (heap_alloc_new _ _) Tryz.underlying48 rfl (by kernel_rfl)) rfl ?_;exact⟨rfl,(Below.refl _ w).alloc (Nat.le_refl _) _⟩
 ·have hd:decide (b<=a)=true:=decide_eq_true (by omega);rw[if_neg h,if_neg h,decide_eq_false h];clear h;go_enter Tryz.func191,Tryz.ntmps191;go_wp2_with (fail);refine bodyPost_ret (results_cell_tmp1 (P:=Tryz.prog) (fn:=Tryz.f191) (p:=4) (u:=5) (ty:=48) rfl _ _ w.heap.size 48 _ (0,0) _ rfl (heap_alloc_new _ _) Tryz.underlying48 rfl (by kernel_rfl)) rfl ?_;exact⟨rfl,(Below.refl _ w).alloc (Nat.le_refl _) _⟩
def meetB (f1 u1 f2 u2:Int):Bool:=winB f1 u1 && decide (max f1 f2<min u1 u2)
theorem win_two {W:World} {r:Nat} (h:W.heap[r]? = some (.cells #[.int .i64 0,.int .i64 0] 48)) (x y:Int):((W.setCell ⟨r,0,none⟩ (.int .i64 x)).setCell ⟨r,1,none⟩ (.int .i64 y)).heap[r]? = some (.cells #[.int .i64 x,.int .i64 y] 48):=by
 rw[heap_setCell_same _ r 1 _ _ _ (heap_setCell_same W r 0 _ _ _ h)];rfl
set_option maxHeartbeats 1000000 in
theorem meet_any (f1 u1 f2 u2:Int) (h2:winB f2 u2=true) (w:World):Calls Tryz.prog 163 #[.agg #[.int .i64 f1,.int .i64 u1],.agg #[.int .i64 f2,.int .i64 u2]] w fun e w'=>e=.returned (.tuple #[.agg #[.int .i64 (if meetB f1 u1 f2 u2=true then max f1 f2 else 0),.int .i64 (if meetB f1 u1 f2 u2=true then min u1 u2 else 0)],.bool (meetB f1 u1 f2 u2)])/\Below w.heap.size w w':=by
 have HR1:=Lib.hid (fun W=>winRight_any f1 u1 W);have HR2:=Lib.hid (fun W=>winRight_any f2 u2 W);have HW:=Lib.hid (fun W=>within_any (max f1 f2) (min u1 u2) W);obtain⟨W0,hW0⟩:∃ V,V=((w.alloc (.cells #[.int .i64 f1,.int .i64 u1] 48)).alloc (.cells #[.int .i64 f2,.int .i64 u2] 48)).alloc (.cells #[.int .i64 0,.int .i64 0] 48):=⟨_,rfl⟩
 have b1:Below w.heap.size w (w.alloc (.cells #[.int .i64 f1,.int .i64 u1] 48)):=(Below.refl _ w).alloc (Nat.le_refl _) _;have e1:=heap_alloc_new w (.cells #[.int .i64 f1,.int .i64 u1] 48);obtain⟨A1,hA1⟩:∃ V,V=w.alloc (.cells #[.int .i64 f1,.int .i64 u1] 48):=⟨_,rfl⟩
 have z1:A1.heap.size=w.heap.size+1:=by rw[hA1,World.size_alloc]
 rw[<- hA1] at e1 hW0 b1;have b2:Below A1.heap.size A1 (A1.alloc (.cells #[.int .i64 f2,.int .i64 u2] 48)):=(Below.refl _ _).alloc (Nat.le_refl _) _;have e2:=heap_alloc_new A1 (.cells #[.int .i64 f2,.int .i64 u2] 48);obtain⟨A2,hA2⟩:∃ V,V=A1.alloc (.cells #[.int .i64 f2,.int .i64 u2] 48):=⟨_,rfl⟩
 have z2:A2.heap.size=w.heap.size+2:=by rw[hA2,World.size_alloc,z1]
 rw[<- hA2] at e2 hW0 b2;have b3:Below A2.heap.size A2 W0:=by rw[hW0];exact (Below.refl _ _).alloc (Nat.le_refl _) _
 have e3:W0.heap[A2.heap.size]? = some (.cells #[.int .i64 0,.int .i64 0] 48):=by rw[hW0];exact heap_alloc_new A2 _
 have z3:W0.heap.size=w.heap.size+3:=by rw[hW0,World.size_alloc,z2]
 have HB:Hid (Below w.heap.size w W0):=Lib.hid (b1.trans ((b2.mono (by omega)).trans (b3.mono (by omega))));rw[z1] at e2;rw[z2] at e3;have HP:Hid (∀ V,Below W0.heap.size W0 V->V.cell? ⟨w.heap.size,0,none⟩=some (.int .i64 f1)/\V.cell? ⟨w.heap.size,1,none⟩=some (.int .i64 u1)/\V.cell? ⟨w.heap.size+1,0,none⟩=some (.int .i64 f2)/\V.cell? ⟨w.heap.size+1,1,none⟩=some (.int .i64 u2)/\V.heap[w.heap.size+1+1]? = some (.cells #[.int .i64 0,.int .i64 0] 48)):=Lib.hid fun V hb=>by
  have k1:V.heap[w.heap.size]? = some (.cells #[.int .i64 f1,.int .i64 u1] 48):=(hb.block _ (by omega)).trans ((b3.block _ (by omega)).trans ((b2.block _ (by omega)).trans e1));have k2:V.heap[w.heap.size+1]? = some (.cells #[.int .i64 f2,.int .i64 u2] 48):=(hb.block _ (by omega)).trans ((b3.block _ (by omega)).trans e2);have k3:V.heap[w.heap.size+2]? = some (.cells #[.int .i64 0,.int .i64 0] 48):=(hb.block _ (by omega)).trans e3;refine⟨?_,?_,?_,?_,k3⟩<;>(unfold World.cell?;first|(rw[k1];rfl)|(rw[k2];rfl))
 have HW0:Hid (W0=((w.alloc (.cells #[.int .i64 f1,.int .i64 u1] 48)).alloc (.cells #[.int .i64 f2,.int .i64 u2] 48)).alloc (.cells #[.int .i64 0,.int .i64 0] 48)):=Lib.hid (by rw[hW0,hA2,hA1]);have HZ:Hid (w.heap.size<=W0.heap.size):=Lib.hid HB.out.size;obtain⟨p1,p2,p3,p4,-⟩:=HP.out W0 (Below.refl _ _);clear hW0 hA1 hA2 b1 b2 b3 e1 e2 e3 z1 z2 z3;unfold meetB;rw[h2] at HR2;clear h2
 cases hb:winB f1 u1 with
 | false =>
  rw[hb] at HR1;clear hb HR2 HW;simp only[Bool.false_and,Bool.false_eq_true,if_false];go_enter Tryz.func163,Tryz.ntmps163;go_upto_region 1 with (fail);rw[<- HW0.out];go_wp2_with (go_at_call 113;refine (HR1.out _).mono ?_;rintro e w1 ⟨rfl,hb1⟩;have B1:=Lib.hid hb1;obtain⟨-,-,-,-,k5⟩:=HP.out w1 hb1;have K5:=Lib.hid k5;have c0:w1.cell? ⟨w.heap.size+1+1,0,none⟩=some (.int .i64 0):=(by unfold World.cell?;rw[k5];rfl);have c1:w1.cell? ⟨w.heap.size+1+1,1,none⟩=some (.int .i64 0):=(by unfold World.cell?;rw[k5];rfl);have d0:w1.frozen? ⟨w.heap.size+1+1,0,none⟩=false:=(by unfold World.frozen?;rw[k5];simp);have d1:w1.frozen? ⟨w.heap.size+1+1,1,none⟩=false:=(by unfold World.frozen?;rw[k5];simp);clear hb1 k5);refine bodyPost_ret (results_cell_tmp1 (P:=Tryz.prog) (fn:=Tryz.f163) (p:=4) (u:=5) (ty:=48) rfl _ _ (w.heap.size+1+1) 48 _ (0,0) _ rfl (win_two K5.out _ _) Tryz.underlying48 rfl (by kernel_rfl)) rfl ?_;exact⟨rfl,((HB.out.trans (B1.out.mono HZ.out)).setCell (p:=⟨w.heap.size+1+1,0,none⟩) (by show _<=w.heap.size+1+1;omega) _).setCell (p:=⟨w.heap.size+1+1,1,none⟩) (by show _<=w.heap.size+1+1;omega) _⟩
 | true =>
  rw[hb] at HR1;clear hb;by_cases hm:max f1 f2<min u1 u2
  ·rw[decide_eq_true hm] at HW ⊢;rw[if_pos hm,if_pos hm] at HW;simp only[Bool.true_and,if_true];clear hm;go_enter Tryz.func163,Tryz.ntmps163;go_upto_region 1 with (fail);rw[<- HW0.out];go_wp2_with (first|(go_at_call 113;refine (HR1.out _).mono ?_;rintro e w1 ⟨rfl,hb1⟩;clear HR1;have B1:=Lib.hid hb1;obtain⟨q1,q2,q3,q4,-⟩:=HP.out w1 hb1;clear hb1)|(go_at_call 113;refine (HR2.out _).mono ?_;rintro e w2 ⟨rfl,hb2⟩;clear HR2;have B2:=Lib.hid (B1.out.trans (hb2.mono B1.out.size));obtain⟨r1,r2,r3,r4,-⟩:=HP.out w2 B2.out;clear hb2)|(go_at_call 191;refine (HW.out _).mono ?_;rintro e w3 ⟨rfl,hb3⟩;have B3:=Lib.hid (B2.out.trans (hb3.mono B2.out.size));obtain⟨-,-,-,-,k5⟩:=HP.out w3 B3.out;have K5:=Lib.hid k5;have c0:w3.cell? ⟨w.heap.size+1+1,0,none⟩=some (.int .i64 0):=(by unfold World.cell?;rw[k5];rfl);have c1:w3.cell? ⟨w.heap.size+1+1,1,none⟩=some (.int .i64 0):=(by unfold World.cell?;rw[k5];rfl);have d0:w3.frozen? ⟨w.heap.size+1+1,0,none⟩=false:=(by unfold World.frozen?;rw[k5];simp);have d1:w3.frozen? ⟨w.heap.size+1+1,1,none⟩=false:=(by unfold World.frozen?;rw[k5];simp);clear hb3 k5));refine bodyPost_ret (results_cell_tmp1 (P:=Tryz.prog) (fn:=Tryz.f163) (p:=4) (u:=5) (ty:=48) rfl _ _ (w.heap.size+1+1) 48 _ (0,0) _ rfl (win_two K5.out _ _) Tryz.underlying48 rfl (by kernel_rfl)) rfl ?_;exact⟨rfl,((HB.out.trans (B3.out.mono HZ.out)).setCell (p:=⟨w.heap.size+1+1,0,none⟩) (by show _<=w.heap.size+1+1;omega) _).setCell (p:=⟨w.heap.size+1+1,1,none⟩) (by show _<=w.heap.size+1+1;omega) _⟩
  ·rw[decide_eq_false hm] at HW ⊢;rw[if_neg hm,if_neg hm] at HW;simp only[Bool.true_and,Bool.false_eq_true,if_false];clear hm;go_enter Tryz.func163,Tryz.ntmps163;go_upto_region 1 with (fail);rw[<- HW0.out];go_wp2_with (first|(go_at_call 113;refine (HR1.out _).mono ?_;rintro e w1 ⟨rfl,hb1⟩;clear HR1;have B1:=Lib.hid hb1;obtain⟨q1,q2,q3,q4,-⟩:=HP.out w1 hb1;clear hb1)|(go_at_call 113;refine (HR2.out _).mono ?_;rintro e w2 ⟨rfl,hb2⟩;clear HR2;have B2:=Lib.hid (B1.out.trans (hb2.mono B1.out.size));obtain⟨r1,r2,r3,r4,-⟩:=HP.out w2 B2.out;clear hb2)|(go_at_call 191;refine (HW.out _).mono ?_;rintro e w3 ⟨rfl,hb3⟩;have B3:=Lib.hid (B2.out.trans (hb3.mono B2.out.size));obtain⟨-,-,-,-,k5⟩:=HP.out w3 B3.out;have K5:=Lib.hid k5;have c0:w3.cell? ⟨w.heap.size+1+1,0,none⟩=some (.int .i64 0):=(by unfold World.cell?;rw[k5];rfl);have c1:w3.cell? ⟨w.heap.size+1+1,1,none⟩=some (.int .i64 0):=(by unfold World.cell?;rw[k5];rfl);have d0:w3.frozen? ⟨w.heap.size+1+1,0,none⟩=false:=(by unfold World.frozen?;rw[k5];simp);have d1:w3.frozen? ⟨w.heap.size+1+1,1,none⟩=false:=(by unfold World.frozen?;rw[k5];simp);clear hb3 k5));refine bodyPost_ret (results_cell_tmp1 (P:=Tryz.prog) (fn:=Tryz.f163) (p:=4) (u:=5) (ty:=48) rfl _ _ (w.heap.size+1+1) 48 _ (0,0) _ rfl (win_two K5.out _ _) Tryz.underlying48 rfl (by kernel_rfl)) rfl ?_;exact⟨rfl,((HB.out.trans (B3.out.mono HZ.out)).setCell (p:=⟨w.heap.size+1+1,0,none⟩) (by show _<=w.heap.size+1+1;omega) _).setCell (p:=⟨w.heap.size+1+1,1,none⟩) (by show _<=w.heap.size+1+1;omega) _⟩
end
end Go.Proofs.YtgplnekpgdhcpaaGreat
