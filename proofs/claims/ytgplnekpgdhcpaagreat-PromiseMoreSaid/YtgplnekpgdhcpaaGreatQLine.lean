/- cmp.Compare, cmp.Or at int; lot.Compare: walks. Lists of api.Line as they stand in memory; storemankit's equality of them: its walk. (Printed by gen/kinds.py.) -/
import Derived.Test.YtgplnekpgdhcpaaGreatQFill
import Derived.Shelf.SlSortCmp.Insertion
import Derived.Test.YtgplnekpgdhcpaaGreatJShelf
import Derived.Deep.RegionHeld3
import Derived.Sort.Grow
import Derived.Test.YtgplnekpgdhcpaaGreatQBridge
import Derived.Test.YtgplnekpgdhcpaaGreatQEnds
import Derived.Laws.StructEq
namespace Go.Proofs.YtgplnekpgdhcpaaGreat
open Go.RowKit
def cmpI (x y:Int):Int:=if x < y then -1 else if y < x then 1 else 0
theorem compare_any (x y:Int) (w:World):Calls Tryz.prog 93 #[.int .i64 x,.int .i64 y] w fun e w'=>e = .returned (.int .i64 (cmpI x y))/\w'=w:=by
 have HN:=Lib.hid (fun z:Int=>Tryz.cmp_isNaN_int2 z w)
 by_cases h1:x < y
 ·have E:=Lib.hid (show cmpI x y = -1 from if_pos h1)
  go_enter Tryz.func93,Tryz.ntmps93
  go_wp2_with (first | (go_at_call 128;refine (HN.out _).mono ?_;rintro e w9 ⟨rfl,rfl⟩))
  go_ret
  exact⟨by rw[E.out];rfl,rfl⟩
 ·by_cases h2:y < x
  ·have E:=Lib.hid (show cmpI x y=1 by unfold cmpI;rw[if_neg h1,if_pos h2])
   go_enter Tryz.func93,Tryz.ntmps93
   go_wp2_with (first | (go_at_call 128;refine (HN.out _).mono ?_;rintro e w9 ⟨rfl,rfl⟩))
   go_ret
   exact⟨by rw[E.out];rfl,rfl⟩
  ·have E:=Lib.hid (show cmpI x y=0 by unfold cmpI;rw[if_neg h1,if_neg h2])
   go_enter Tryz.func93,Tryz.ntmps93
   go_wp2_with (first | (go_at_call 128;refine (HN.out _).mono ?_;rintro e w9 ⟨rfl,rfl⟩))
   go_ret
   exact⟨by rw[E.out];rfl,rfl⟩
def orI (x y:Int):Int:=if x≠0 then x else y
theorem or_any (g:Nat) (x y:Int) (w:World) (h0:w.cell? ⟨g,0,none⟩=some (.int .i64 x)) (h1:w.cell? ⟨g,1,none⟩=some (.int .i64 y)) :
  Calls Tryz.prog 92 #[.slice (some ⟨g,0,none⟩) 2 2] w fun e w'=>e = .returned (.int .i64 (orI x y))/\w'=w:=by
 by_cases hx:x=0
 ·subst hx
  have E:=Lib.hid (show orI 0 y=y by unfold orI;rw[if_neg (by simp)])
  go_enter Tryz.func92,Tryz.ntmps92
  go_wp2_with (fail)
  go_loopw [8] (fun i wr=>∃ j:Nat,j<=2/\i = .int .i64 j/\Hid (j=2->y=0)/\w=wr) (fun i _=>2 - (intOf i).toNat)
  case atStart=>exact⟨0,by omega,rfl,Lib.hid (fun h=>by omega),rfl⟩
  case round =>
   obtain⟨j,hj,rfl,hy,rfl⟩:=hrel
   by_cases j0:j=0
   ·subst j0
    go_wp2_with (fail)
    go_roundw
    case rel=>exact⟨1,by omega,by go_num,Lib.hid (fun h=>by omega),by first | rfl | trivial⟩
    case measure=>simp[intOf]
   ·by_cases j1:j=1
    ·subst j1
     by_cases hy0:y=0
     ·have HY:=Lib.hid hy0
      go_wp2_with (fail)
      go_roundw
      case rel=>exact⟨2,by omega,by go_num,Lib.hid (fun _=>HY.out),by first | rfl | trivial⟩
      case measure=>simp[intOf]
     ·go_wp2_with (fail)
      go_ret
      exact⟨by rw[E.out];rfl,rfl⟩
    ·have j2:j=2:=by omega
     subst j2
     have HY:=Lib.hid (hy.out rfl)
     go_wp2_with (fail)
     go_ret
     exact⟨by rw[E.out,HY.out];rfl,rfl⟩
 ·have E:=Lib.hid (show orI x y=x by unfold orI;rw[if_pos (by simpa using hx)])
  go_enter Tryz.func92,Tryz.ntmps92
  go_wp2_with (fail)
  go_loopw [8] (fun i wr=>i = .int .i64 0/\w=wr) (fun i _=>2 - (intOf i).toNat)
  case atStart=>exact⟨rfl,rfl⟩
  case round =>
   obtain⟨rfl,rfl⟩:=hrel
   go_wp2_with (fail)
   go_ret
   exact⟨by rw[E.out];rfl,rfl⟩
def cmpL (a b:LotV):Int:=orI (cmpI a.un b.un) (cmpI a.id b.id)
def LotV.val (x:LotV):Value:=.agg #[.int .i64 x.id,encStr x.item,.int .i64 x.fr,.int .i64 x.un,.int .i64 x.qty,.bool x.arr]
set_option maxHeartbeats 2000000 in
theorem lotCompare_any (a b:LotV) (w:World):Calls Tryz.prog 122 #[a.val,b.val] w fun e w'=>e = .returned (.int .i64 (cmpL a b))/\∃ q os',w'=Go.Sort.grow (w.drewN q) os':=by
 have HC:=Lib.hid (fun (x y:Int) (W:World)=>compare_any x y W)
 have HO:=Lib.hid or_any
 obtain⟨i1,n1,f1,u1,q1,r1⟩:=a
 obtain⟨i2,n2,f2,u2,q2,r2⟩:=b
 unfold cmpL LotV.val encStr
 simp only
 go_enter Tryz.func122,Tryz.ntmps122
 go_wp2_with (fail)
 obtain⟨W2,hW2⟩:∃ W,W=(w.alloc (.cells #[.int .i64 i1,.string ⟨n1.toArray⟩,.int .i64 f1,.int .i64 u1,.int .i64 q1,.bool r1] 50)).alloc (.cells #[.int .i64 i2,.string ⟨n2.toArray⟩,.int .i64 f2,.int .i64 u2,.int .i64 q2,.bool r2] 50):=⟨_,rfl⟩
 rw[<- hW2]
 have a0:W2.cell? ⟨w.heap.size,0,none⟩=some (.int .i64 i1):=by rw[hW2];simp
 have a3:W2.cell? ⟨w.heap.size,3,none⟩=some (.int .i64 u1):=by rw[hW2];simp
 have b0:W2.cell? ⟨w.heap.size+1,0,none⟩=some (.int .i64 i2):=by rw[hW2];simp
 have b3:W2.cell? ⟨w.heap.size+1,3,none⟩=some (.int .i64 u2):=by rw[hW2];simp
 have HW2:=Lib.hid hW2
 clear hW2
 go_region_held3 (fun w'=>(w'.cell? ⟨w.heap.size,0,none⟩=some (.int .i64 i1)/\w'.cell? ⟨w.heap.size,3,none⟩=some (.int .i64 u1))/\(w'.cell? ⟨w.heap.size+1,0,none⟩=some (.int .i64 i2)/\w'.cell? ⟨w.heap.size+1,3,none⟩=some (.int .i64 u2))) (first | go_keep | exact⟨⟨by assumption,by assumption⟩,⟨by assumption,by assumption⟩⟩) (first | (go_at_call 93;refine (HC.out _ _ _).mono ?_;rintro e wA ⟨rfl,rfl⟩) | (go_at_call 92;refine (HO.out _ (cmpI u1 u2) (cmpI i1 i2) _ (by simp) (by simp)).mono ?_;rintro e wB ⟨rfl,rfl⟩))
 go_wp2_with (fail)
 go_ret
 refine⟨rfl,1,#[.cells #[.int .i64 i1,.string ⟨n1.toArray⟩,.int .i64 f1,.int .i64 u1,.int .i64 q1,.bool r1] 50] ++ #[.cells #[.int .i64 i2,.string ⟨n2.toArray⟩,.int .i64 f2,.int .i64 u2,.int .i64 q2,.bool r2] 50] ++ #[.cells #[.int .i64 (cmpI u1 u2),.int .i64 (cmpI i1 i2)] 3],?_⟩
 rw[HW2.out,Go.Sort.alloc_eq_grow,Go.Sort.alloc_eq_grow,Go.Sort.alloc_eq_grow,Go.Sort.grow_grow,Go.Sort.grow_grow]
 rfl
theorem cmpL_lt {a b:LotV}:cmpL a b < 0↔leL b a=false:=by
 unfold cmpL orI cmpI leL
 simp only[Bool.or_eq_false_iff,Bool.and_eq_false_iff,decide_eq_false_iff_not]
 repeat' split
 all_goals omega
theorem ltL_iff {a b:LotV}:ltOf cmpL a b = !leL b a:=by
 unfold ltOf
 cases h:leL b a with
 | false=>exact decide_eq_true (cmpL_lt.2 h)
 | true=>exact decide_eq_false (fun e=>by rw[cmpL_lt.1 e] at h;cases h)
theorem ltL_true {a b:LotV}:ltOf cmpL a b=true↔a.un < b.un∨(a.un=b.un/\a.id < b.id):=by
 rw[ltL_iff]
 unfold leL
 simp only[Bool.not_eq_true',Bool.or_eq_false_iff,Bool.and_eq_false_iff,decide_eq_false_iff_not]
 omega
theorem ltL_false {a b:LotV}:ltOf cmpL a b=false↔¬ (a.un < b.un∨(a.un=b.un/\a.id < b.id)):=by
 rw[<- ltL_true]
 cases ltOf cmpL a b <;> simp
theorem swoL:Go.Sort.SWO (ltOf cmpL) where
 irrefl x:=by rw[ltL_false];omega
 trans x y z h1 h2:=by rw[ltL_true] at *;omega
 ntrans x y z h1 h2:=by rw[ltL_false] at *;omega
end Go.Proofs.YtgplnekpgdhcpaaGreat
namespace Go.Proofs.YtgplnekpgdhcpaaGreat
open Go.RowKit
def encLine (x:LineV):List Value:=[.int .i64 x.id,encStr x.item,.int .i64 x.qty,.int .i64 x.asked,.int .i64 x.rank,.int .u8 x.st,.int .i64 x.day,encStr x.code]
def okLine (x:LineV):Prop:=(-9223372036854775808<=x.id/\x.id<=9223372036854775807)/\x.item.length<=9223372036854775807/\(-9223372036854775808<=x.qty/\x.qty<=9223372036854775807)/\(-9223372036854775808<=x.asked/\x.asked<=9223372036854775807)/\(-9223372036854775808<=x.rank/\x.rank<=9223372036854775807)/\(0<=x.st/\x.st<=255)/\(-9223372036854775808<=x.day/\x.day<=9223372036854775807)/\x.code.length<=9223372036854775807
set_option maxRecDepth 100000 in
theorem lineE_under:Tryz.prog.underlying 24=some (.slice 29):=Tryz.underlying24
theorem lineE_info:(Tryz.prog.info? 29).map (fun i=>(i.zero,i.size,i.bytes))=some (some (.agg #[.int .i64 0,.string ⟨#[]⟩,.int .i64 0,.int .i64 0,.int .i64 0,.int .u8 0,.int .i64 0,.string ⟨#[]⟩]),8,80):=by kernel_rfl
def lineE:El LineV where
 e:=29
 t:=24
 k:=8
 bytes:=80
 z:=.agg #[.int .i64 0,.string ⟨#[]⟩,.int .i64 0,.int .i64 0,.int .i64 0,.int .u8 0,.int .i64 0,.string ⟨#[]⟩]
 enc:=encLine
 ok:=okLine
 len:=fun _=>rfl
 one:=fun x u hu=>by
  unfold encLine at hu
  simp only[List.mem_cons,List.not_mem_nil,or_false] at hu
  rcases hu with rfl | rfl | rfl | rfl | rfl | rfl | rfl | rfl <;> rfl
 kpos:=by decide
 under:=lineE_under
 info:=lineE_info
 zc:=rfl
 small:=by decide
theorem lineE_at {B:Nat} {w:World} {a:Option Addr} {n c:Nat} {X:List LineV} (h:lineE.In B w a n c X) (hc:0 < c):∃ b o,a=some ⟨b,o,none⟩/\b < B/\∀ i,i < n->w.cell? ⟨b,o+i * 8,none⟩=some (.int .i64 (X.getD i default).id)/\w.cell? ⟨b,o+i * 8+1,none⟩=some (encStr (X.getD i default).item)/\w.cell? ⟨b,o+i * 8+2,none⟩=some (.int .i64 (X.getD i default).qty)/\w.cell? ⟨b,o+i * 8+3,none⟩=some (.int .i64 (X.getD i default).asked)/\w.cell? ⟨b,o+i * 8+4,none⟩=some (.int .i64 (X.getD i default).rank)/\w.cell? ⟨b,o+i * 8+5,none⟩=some (.int .u8 (X.getD i default).st)/\w.cell? ⟨b,o+i * 8+6,none⟩=some (.int .i64 (X.getD i default).day)/\w.cell? ⟨b,o+i * 8+7,none⟩=some (encStr (X.getD i default).code):=by
 obtain⟨b,o,e,hb,hcell⟩:=h.at_ hc
 exact⟨b,o,e,hb,fun i hi=>⟨hcell i hi 0 (by decide),hcell i hi 1 (by decide),hcell i hi 2 (by decide),hcell i hi 3 (by decide),hcell i hi 4 (by decide),hcell i hi 5 (by decide),hcell i hi 6 (by decide),hcell i hi 7 (by decide)⟩⟩
theorem lineE_lit (W:World) (x:LineV) (t:TypeId):∀ j u,(lineE.cells [x])[j]? = some u->(W.alloc (.cells #[.int .i64 x.id,encStr x.item,.int .i64 x.qty,.int .i64 x.asked,.int .i64 x.rank,.int .u8 x.st,.int .i64 x.day,encStr x.code] t)).cell? ((⟨W.heap.size,0,none⟩:Addr).add j)=some u:=El.one_lit (E:=lineE) W x _ t rfl
theorem eqLine_b (x_id:Int) (x_item:List UInt8) (x_qty:Int) (x_asked:Int) (x_rank:Int) (x_st:Int) (x_day:Int) (x_code:List UInt8) (y_id:Int) (y_item:List UInt8) (y_qty:Int) (y_asked:Int) (y_rank:Int) (y_st:Int) (y_day:Int) (y_code:List UInt8):decide ((⟨x_id,x_item,x_qty,x_asked,x_rank,x_st,x_day,x_code⟩:LineV)=⟨y_id,y_item,y_qty,y_asked,y_rank,y_st,y_day,y_code⟩)=(decide (x_id=y_id) && decide (x_item=y_item) && decide (x_qty=y_qty) && decide (x_asked=y_asked) && decide (x_rank=y_rank) && decide (x_st=y_st) && decide (x_day=y_day) && decide (x_code=y_code)):=by
 rw[Bool.eq_iff_iff]
 simp[LineV.mk.injEq,and_assoc]
theorem eqLine (x_id:Int) (x_item:List UInt8) (x_qty:Int) (x_asked:Int) (x_rank:Int) (x_st:Int) (x_day:Int) (x_code:List UInt8) (y_id:Int) (y_item:List UInt8) (y_qty:Int) (y_asked:Int) (y_rank:Int) (y_st:Int) (y_day:Int) (y_code:List UInt8) (w:World):(Op.equalIn 10000 29 (.agg #[.int .i64 x_id,encStr x_item,.int .i64 x_qty,.int .i64 x_asked,.int .i64 x_rank,.int .u8 x_st,.int .i64 x_day,encStr x_code]) (.agg #[.int .i64 y_id,encStr y_item,.int .i64 y_qty,.int .i64 y_asked,.int .i64 y_rank,.int .u8 y_st,.int .i64 y_day,encStr y_code])).run Tryz.prog w = .ok (decide ((⟨x_id,x_item,x_qty,x_asked,x_rank,x_st,x_day,x_code⟩:LineV)=⟨y_id,y_item,y_qty,y_asked,y_rank,y_st,y_day,y_code⟩)) w:=by
 have u0:=Tryz.underlying3
 have a0:=Tryz.isAgg3
 have z0:=Tryz.sizeOf3
 have u1:=Tryz.underlying2
 have a1:=Tryz.isAgg2
 have z1:=Tryz.sizeOf2
 have u2:=Tryz.underlying9
 have a2:=Tryz.isAgg9
 have z2:=Tryz.sizeOf9
 have u3:=Tryz.underlying27
 have a3:=Tryz.isAgg27
 have z3:=Tryz.sizeOf27
 have hS:Tryz.prog.underlying 29=some (.struct (Tryz.prog.fieldsOf 29)):=by kernel_rfl
 have hp:Tryz.prog.stoodInHeld 29=false:=by kernel_rfl
 rw[eqLine_b,show (10000:Nat)=9999+1 from rfl,run_equalIn_agg w 9999 29 _ _ hS hp]
 simp only[Program.fieldsOf,Tryz.underlying29]
 go_simp
 all_goals (try by_cases h_id:x_id=y_id)
 all_goals (try by_cases h_item:x_item=y_item)
 all_goals (try by_cases h_qty:x_qty=y_qty)
 all_goals (try by_cases h_asked:x_asked=y_asked)
 all_goals (try by_cases h_rank:x_rank=y_rank)
 all_goals (try by_cases h_st:x_st=y_st)
 all_goals (try by_cases h_day:x_day=y_day)
 all_goals (try by_cases h_code:x_code=y_code)
 all_goals simp_all
theorem takeLine_succ {P Q:List LineV} {k:Nat} (hk:k < P.length) (hk2:k < Q.length) (h:P.take k=Q.take k) (he:P.getD k default=Q.getD k default):P.take (k+1)=Q.take (k+1):=by
 rw[List.take_succ_eq_append_getElem hk,List.take_succ_eq_append_getElem hk2,h]
 simp only[List.getD,List.getElem?_eq_getElem hk,List.getElem?_eq_getElem hk2,Option.getD_some] at he
 rw[he]
set_option maxHeartbeats 4000000 in
theorem SameLines_any (B B':Nat) (a b:Option Addr) (n m c d:Nat) (P Q:List LineV) (w:World) (hp:lineE.In B w a n c P) (hq:lineE.In B' w b m d Q) :
  Calls Tryz.prog 17 #[.slice a n c,.slice b m d] w fun e w'=>e = .returned (.bool (decide (P=Q)))/\∃ q,w'=w.drewN q:=by
 have hle:=hp.le;have hmx:=hp.mx;have hle2:=hq.le;have hmx2:=hq.mx
 have Hln:=Lib.hid hp.len
 have Hln2:=Lib.hid hq.len
 by_cases hnm:n=m
 ·subst hnm
  go_enter Tryz.func17,Tryz.ntmps17
  go_wp2_with (fail)
  go_loopw [5] (fun i wr=>∃ j:Nat,j<=n/\i = .int .i64 j/\Hid (P.take j=Q.take j)/\∃ q,wr=w.drewN q) (fun i _=>n - (intOf i).toNat)
  case atStart=>exact⟨0,Nat.zero_le _,rfl,Lib.hid rfl,0,rfl⟩
  case round =>
   obtain⟨j,hj,rfl,ht,q,rfl⟩:=hrel
   by_cases hlt:j < n
   ·obtain⟨b1,o1,rfl,-,hc1⟩:=lineE_at hp (by omega)
    obtain⟨b2,o2,rfl,-,hc2⟩:=lineE_at hq (by omega)
    obtain⟨g0,g1,g2,g3,g4,g5,g6,g7⟩:=hc1 j hlt
    obtain⟨k0,k1,k2,k3,k4,k5,k6,k7⟩:=hc2 j hlt
    clear hc1 hc2
    have Hsucc:=Lib.hid (fun he=>takeLine_succ (by rw[<- Hln.out];exact hlt) (by rw[<- Hln2.out];exact hlt) ht.out he)
    have Hno:=Lib.hid (show P.getD j default≠Q.getD j default->decide (P=Q)=false from fun hne=>decide_eq_false fun e=>hne (by rw[e]))
    generalize P.getD j default=p at g0 g1 g2 g3 g4 g5 g6 g7 Hsucc Hno
    generalize Q.getD j default=p' at k0 k1 k2 k3 k4 k5 k6 k7 Hsucc Hno
    obtain⟨x_id,x_item,x_qty,x_asked,x_rank,x_st,x_day,x_code⟩:=p
    obtain⟨y_id,y_item,y_qty,y_asked,y_rank,y_st,y_day,y_code⟩:=p'
    simp only at g0 g1 g2 g3 g4 g5 g6 g7 k0 k1 k2 k3 k4 k5 k6 k7
    have heq0:=eqLine x_id x_item x_qty x_asked x_rank x_st x_day x_code y_id y_item y_qty y_asked y_rank y_st y_day y_code
    cases he:decide ((⟨x_id,x_item,x_qty,x_asked,x_rank,x_st,x_day,x_code⟩:LineV)=⟨y_id,y_item,y_qty,y_asked,y_rank,y_st,y_day,y_code⟩) with
    | true =>
     have Hs:=Lib.hid (Hsucc.out (of_decide_eq_true he))
     have heq:∀ w,(Op.equalIn 10000 29 (.agg #[.int .i64 x_id,encStr x_item,.int .i64 x_qty,.int .i64 x_asked,.int .i64 x_rank,.int .u8 x_st,.int .i64 x_day,encStr x_code]) (.agg #[.int .i64 y_id,encStr y_item,.int .i64 y_qty,.int .i64 y_asked,.int .i64 y_rank,.int .u8 y_st,.int .i64 y_day,encStr y_code])).run Tryz.prog w = .ok true w:=fun w=>by rw[heq0,he]
     clear he Hno heq0
     go_wp2_with (fail)
     go_quiet (fail)
     go_wp2_with (fail)
     go_roundw
     case rel=>exact⟨j+1,by omega,by go_num,Hs,_,rfl⟩
     case measure=>simp[intOf];omega
    | false =>
     have Hn:=Lib.hid (Hno.out (of_decide_eq_false he))
     have heq:∀ w,(Op.equalIn 10000 29 (.agg #[.int .i64 x_id,encStr x_item,.int .i64 x_qty,.int .i64 x_asked,.int .i64 x_rank,.int .u8 x_st,.int .i64 x_day,encStr x_code]) (.agg #[.int .i64 y_id,encStr y_item,.int .i64 y_qty,.int .i64 y_asked,.int .i64 y_rank,.int .u8 y_st,.int .i64 y_day,encStr y_code])).run Tryz.prog w = .ok false w:=fun w=>by rw[heq0,he]
     clear he Hsucc heq0
     go_wp2_with (fail)
     go_quiet (fail)
     go_wp2_with (fail)
     go_ret
     rw[Hn.out]
     exact⟨rfl,_,World.drewN_drewN _ _ _⟩
   ·have hge:n<=j:=by omega
    go_wp2_with (fail)
    go_ret
    have:P=Q:=by
     have:=ht.out
     rwa [List.take_of_length_le (by rw[<- Hln.out];exact hge),List.take_of_length_le (by rw[<- Hln2.out];exact hge)] at this
    rw[decide_eq_true this]
    exact⟨rfl,_,rfl⟩
 ·have hne:decide (P=Q)=false:=decide_eq_false fun e=>hnm (by rw[Hln.out,Hln2.out,e])
  rw[hne]
  go_enter Tryz.func17,Tryz.ntmps17
  go_wp2_with (fail)
  go_ret
  exact⟨rfl,0,rfl⟩
end Go.Proofs.YtgplnekpgdhcpaaGreat
