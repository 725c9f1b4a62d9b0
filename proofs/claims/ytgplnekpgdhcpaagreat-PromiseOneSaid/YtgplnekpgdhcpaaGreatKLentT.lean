/- The walk of storemankit.SameTexts. Marked texts. Lists of texts that are lent. -/
import Derived.Test.YtgplnekpgdhcpaaGreatKFind
import Derived.Test.YtgplnekpgdhcpaaGreatJParts
import Derived.Laws.IdiomStrings
import Derived.Laws.OwnMore
namespace Go.Proofs.YtgplnekpgdhcpaaGreat
open Go.RowKit

theorem takeT_succ {P Q:List (List UInt8)} {k:Nat} (hk:k < P.length) (hk2:k < Q.length) (h:P.take k=Q.take k) (he:P.getD k []=Q.getD k []):P.take (k+1)=Q.take (k+1):=by
 rw[List.take_succ_eq_append_getElem hk,List.take_succ_eq_append_getElem hk2,h]
 simp only[List.getD,List.getElem?_eq_getElem hk,List.getElem?_eq_getElem hk2,Option.getD_some] at he
 rw[he]

set_option maxHeartbeats 4000000 in
theorem SameTexts_any (B:Nat) (a b:Option Addr) (n m c d:Nat) (P Q:List (List UInt8)) (w:World) (hp:RT B w a n c P) (hq:RT B w b m d Q) :
  Calls Tryz.prog 110 #[.slice a n c,.slice b m d] w fun e w'=>e = .returned (.bool (decide (P=Q)))/\∃ q,w'=w.drewN q:=by
 have hle:=hp.le;have hmx:=hp.mx;have hle2:=hq.le;have hmx2:=hq.mx
 have Hln:=Lib.hid hp.len
 have Hln2:=Lib.hid hq.len
 by_cases hnm:n=m
 ·subst hnm
  go_enter Tryz.func110,Tryz.ntmps110
  go_wp2_with (fail)
  go_loopw [5] (fun i wr=>∃ j:Nat,j<=n/\i = .int .i64 j/\Hid (P.take j=Q.take j)/\∃ q,wr=w.drewN q) (fun i _=>n - (intOf i).toNat)
  case atStart=>exact⟨0,Nat.zero_le _,rfl,Lib.hid rfl,0,rfl⟩
  case round =>
   obtain⟨j,hj,rfl,ht,q,rfl⟩:=hrel
   by_cases hlt:j < n
   ·obtain⟨b1,o1,rfl,-,hc1⟩:=hp.at_ (by omega)
    obtain⟨b2,o2,rfl,-,hc2⟩:=hq.at_ (by omega)
    have g1:=hc1 j hlt
    have k1:=hc2 j hlt
    clear hc1 hc2
    have Hsucc:=Lib.hid (fun he=>takeT_succ (by rw[<- Hln.out];exact hlt) (by rw[<- Hln2.out];exact hlt) ht.out he)
    have Hno:=Lib.hid (show P.getD j []≠Q.getD j []->decide (P=Q)=false from fun hne=>decide_eq_false fun e=>hne (by rw[e]))
    generalize P.getD j []=x at g1 Hsucc Hno
    generalize Q.getD j []=y at k1 Hsucc Hno
    unfold encStr at g1 k1
    by_cases he:x=y
    ·have Hs:=Lib.hid (Hsucc.out he)
     subst he
     clear Hno
     go_wp2_with (fail)
     go_quiet (fail)
     go_wp2_with (fail)
     go_roundw
     case rel=>exact⟨j+1,by omega,by go_num,Hs,_,rfl⟩
     case measure=>simp[intOf];omega
    ·have Hn:=Lib.hid (Hno.out he)
     have hf:(x == y)=false:=by simpa using he
     have hf2:(x != y)=true:=by simpa using he
     clear Hsucc
     go_wp2_with (fail)
     go_quiet (fail)
     go_wp2_with (fail)
     go_ret
     rw[Hn.out]
     exact⟨rfl,_,World.drewN_drewN _ _ _⟩
   ·have hge:n<=j:=by omega
    go_wp2_with (fail)
    go_ret
    have:P=Q:=by
     have:=ht.out
     rwa [List.take_of_length_le (by rw[<- Hln.out];exact hge),List.take_of_length_le (by rw[<- Hln2.out];exact hge)] at this
    rw[decide_eq_true this]
    exact⟨rfl,_,rfl⟩
 ·have hne:decide (P=Q)=false:=decide_eq_false fun e=>hnm (by rw[Hln.out,Hln2.out,e])
  rw[hne]
  go_enter Tryz.func110,Tryz.ntmps110
  go_wp2_with (fail)
  go_ret
  exact⟨rfl,0,rfl⟩
end Go.Proofs.YtgplnekpgdhcpaaGreat
namespace Go.Proofs.YtgplnekpgdhcpaaGreat
open Go.RowKit

theorem conv8 (w:World) (a b c d e f g h:UInt8):(convert 187 9 (.slice (some ⟨w.heap.size,0,none⟩) 8 8)).run Tryz.prog (w.alloc (.cells #[.int .u8 a.toNat,.int .u8 b.toNat,.int .u8 c.toNat,.int .u8 d.toNat,.int .u8 e.toNat,.int .u8 f.toNat,.int .u8 g.toNat,.int .u8 h.toNat] 5)) = .ok (.string ⟨#[a,b,c,d,e,f,g,h]⟩) (w.alloc (.cells #[.int .u8 a.toNat,.int .u8 b.toNat,.int .u8 c.toNat,.int .u8 d.toNat,.int .u8 e.toNat,.int .u8 f.toNat,.int .u8 g.toNat,.int .u8 h.toNat] 5)):=by
 refine run_convert_bytes_back (P:=Tryz.prog) _ _ _ 5 ⟨w.heap.size,0,none⟩ 8 [a,b,c,d,e,f,g,h] Tryz.underlying187 Tryz.underlying5 Tryz.underlying9 fun j hj=>?_
 have e1:(⟨w.heap.size,0,none⟩:Addr).add j=⟨w.heap.size,j,none⟩:=by unfold Addr.add;split <;> simp_all
 rw[e1,World.cell?_alloc_new]
 have hj8:j < 8:=hj
 obtain rfl | rfl | rfl | rfl | rfl | rfl | rfl | rfl:j=0∨j=1∨j=2∨j=3∨j=4∨j=5∨j=6∨j=7:=by omega
 all_goals rfl
def mkTx (i:Nat):List UInt8:=[35,1,0,0,47,UInt8.ofNat i,0,0]
set_option maxHeartbeats 4000000 in
set_option maxRecDepth 100000 in
theorem markText_any (i:Nat) (w:World) (hi:i < 12) :
  Calls Tryz.prog 130 #[.int .i64 1,.int .i64 i] w fun e w'=>e = .returned (encStr (mkTx i))/\Below w.heap.size w w':=by
 have HB:=Lib.hid (fun c:Array Value=>(Below.refl w.heap.size w).alloc (Nat.le_refl _) (.cells c 5))
 obtain rfl | rfl | rfl | rfl | rfl | rfl | rfl | rfl | rfl | rfl | rfl | rfl:i=0∨i=1∨i=2∨i=3∨i=4∨i=5∨i=6∨i=7∨i=8∨i=9∨i=10∨i=11:=by omega
 ·have hcv:(convert 187 9 (.slice (some ⟨w.heap.size,0,none⟩) 8 8)).run Tryz.prog (w.alloc (.cells #[.int .u8 35,.int .u8 1,.int .u8 0,.int .u8 0,.int .u8 47,.int .u8 0,.int .u8 0,.int .u8 0] 5)) = .ok (.string ⟨#[35,1,0,0,47,0,0,0]⟩) (w.alloc (.cells #[.int .u8 35,.int .u8 1,.int .u8 0,.int .u8 0,.int .u8 47,.int .u8 0,.int .u8 0,.int .u8 0] 5)):=conv8 w 35 1 0 0 47 0 0 0
  go_enter Tryz.func130,Tryz.ntmps130
  go_wp2_with (fail)
  go_ret
  exact⟨rfl,HB.out _⟩
 ·have hcv:(convert 187 9 (.slice (some ⟨w.heap.size,0,none⟩) 8 8)).run Tryz.prog (w.alloc (.cells #[.int .u8 35,.int .u8 1,.int .u8 0,.int .u8 0,.int .u8 47,.int .u8 1,.int .u8 0,.int .u8 0] 5)) = .ok (.string ⟨#[35,1,0,0,47,1,0,0]⟩) (w.alloc (.cells #[.int .u8 35,.int .u8 1,.int .u8 0,.int .u8 0,.int .u8 47,.int .u8 1,.int .u8 0,.int .u8 0] 5)):=conv8 w 35 1 0 0 47 1 0 0
  go_enter Tryz.func130,Tryz.ntmps130
  go_wp2_with (fail)
  go_ret
  exact⟨rfl,HB.out _⟩
 ·have hcv:(convert 187 9 (.slice (some ⟨w.heap.size,0,none⟩) 8 8)).run Tryz.prog (w.alloc (.cells #[.int .u8 35,.int .u8 1,.int .u8 0,.int .u8 0,.int .u8 47,.int .u8 2,.int .u8 0,.int .u8 0] 5)) = .ok (.string ⟨#[35,1,0,0,47,2,0,0]⟩) (w.alloc (.cells #[.int .u8 35,.int .u8 1,.int .u8 0,.int .u8 0,.int .u8 47,.int .u8 2,.int .u8 0,.int .u8 0] 5)):=conv8 w 35 1 0 0 47 2 0 0
  go_enter Tryz.func130,Tryz.ntmps130
  go_wp2_with (fail)
  go_ret
  exact⟨rfl,HB.out _⟩
 ·have hcv:(convert 187 9 (.slice (some ⟨w.heap.size,0,none⟩) 8 8)).run Tryz.prog (w.alloc (.cells #[.int .u8 35,.int .u8 1,.int .u8 0,.int .u8 0,.int .u8 47,.int .u8 3,.int .u8 0,.int .u8 0] 5)) = .ok (.string ⟨#[35,1,0,0,47,3,0,0]⟩) (w.alloc (.cells #[.int .u8 35,.int .u8 1,.int .u8 0,.int .u8 0,.int .u8 47,.int .u8 3,.int .u8 0,.int .u8 0] 5)):=conv8 w 35 1 0 0 47 3 0 0
  go_enter Tryz.func130,Tryz.ntmps130
  go_wp2_with (fail)
  go_ret
  exact⟨rfl,HB.out _⟩
 ·have hcv:(convert 187 9 (.slice (some ⟨w.heap.size,0,none⟩) 8 8)).run Tryz.prog (w.alloc (.cells #[.int .u8 35,.int .u8 1,.int .u8 0,.int .u8 0,.int .u8 47,.int .u8 4,.int .u8 0,.int .u8 0] 5)) = .ok (.string ⟨#[35,1,0,0,47,4,0,0]⟩) (w.alloc (.cells #[.int .u8 35,.int .u8 1,.int .u8 0,.int .u8 0,.int .u8 47,.int .u8 4,.int .u8 0,.int .u8 0] 5)):=conv8 w 35 1 0 0 47 4 0 0
  go_enter Tryz.func130,Tryz.ntmps130
  go_wp2_with (fail)
  go_ret
  exact⟨rfl,HB.out _⟩
 ·have hcv:(convert 187 9 (.slice (some ⟨w.heap.size,0,none⟩) 8 8)).run Tryz.prog (w.alloc (.cells #[.int .u8 35,.int .u8 1,.int .u8 0,.int .u8 0,.int .u8 47,.int .u8 5,.int .u8 0,.int .u8 0] 5)) = .ok (.string ⟨#[35,1,0,0,47,5,0,0]⟩) (w.alloc (.cells #[.int .u8 35,.int .u8 1,.int .u8 0,.int .u8 0,.int .u8 47,.int .u8 5,.int .u8 0,.int .u8 0] 5)):=conv8 w 35 1 0 0 47 5 0 0
  go_enter Tryz.func130,Tryz.ntmps130
  go_wp2_with (fail)
  go_ret
  exact⟨rfl,HB.out _⟩
 ·have hcv:(convert 187 9 (.slice (some ⟨w.heap.size,0,none⟩) 8 8)).run Tryz.prog (w.alloc (.cells #[.int .u8 35,.int .u8 1,.int .u8 0,.int .u8 0,.int .u8 47,.int .u8 6,.int .u8 0,.int .u8 0] 5)) = .ok (.string ⟨#[35,1,0,0,47,6,0,0]⟩) (w.alloc (.cells #[.int .u8 35,.int .u8 1,.int .u8 0,.int .u8 0,.int .u8 47,.int .u8 6,.int .u8 0,.int .u8 0] 5)):=conv8 w 35 1 0 0 47 6 0 0
  go_enter Tryz.func130,Tryz.ntmps130
  go_wp2_with (fail)
  go_ret
  exact⟨rfl,HB.out _⟩
 ·have hcv:(convert 187 9 (.slice (some ⟨w.heap.size,0,none⟩) 8 8)).run Tryz.prog (w.alloc (.cells #[.int .u8 35,.int .u8 1,.int .u8 0,.int .u8 0,.int .u8 47,.int .u8 7,.int .u8 0,.int .u8 0] 5)) = .ok (.string ⟨#[35,1,0,0,47,7,0,0]⟩) (w.alloc (.cells #[.int .u8 35,.int .u8 1,.int .u8 0,.int .u8 0,.int .u8 47,.int .u8 7,.int .u8 0,.int .u8 0] 5)):=conv8 w 35 1 0 0 47 7 0 0
  go_enter Tryz.func130,Tryz.ntmps130
  go_wp2_with (fail)
  go_ret
  exact⟨rfl,HB.out _⟩
 ·have hcv:(convert 187 9 (.slice (some ⟨w.heap.size,0,none⟩) 8 8)).run Tryz.prog (w.alloc (.cells #[.int .u8 35,.int .u8 1,.int .u8 0,.int .u8 0,.int .u8 47,.int .u8 8,.int .u8 0,.int .u8 0] 5)) = .ok (.string ⟨#[35,1,0,0,47,8,0,0]⟩) (w.alloc (.cells #[.int .u8 35,.int .u8 1,.int .u8 0,.int .u8 0,.int .u8 47,.int .u8 8,.int .u8 0,.int .u8 0] 5)):=conv8 w 35 1 0 0 47 8 0 0
  go_enter Tryz.func130,Tryz.ntmps130
  go_wp2_with (fail)
  go_ret
  exact⟨rfl,HB.out _⟩
 ·have hcv:(convert 187 9 (.slice (some ⟨w.heap.size,0,none⟩) 8 8)).run Tryz.prog (w.alloc (.cells #[.int .u8 35,.int .u8 1,.int .u8 0,.int .u8 0,.int .u8 47,.int .u8 9,.int .u8 0,.int .u8 0] 5)) = .ok (.string ⟨#[35,1,0,0,47,9,0,0]⟩) (w.alloc (.cells #[.int .u8 35,.int .u8 1,.int .u8 0,.int .u8 0,.int .u8 47,.int .u8 9,.int .u8 0,.int .u8 0] 5)):=conv8 w 35 1 0 0 47 9 0 0
  go_enter Tryz.func130,Tryz.ntmps130
  go_wp2_with (fail)
  go_ret
  exact⟨rfl,HB.out _⟩
 ·have hcv:(convert 187 9 (.slice (some ⟨w.heap.size,0,none⟩) 8 8)).run Tryz.prog (w.alloc (.cells #[.int .u8 35,.int .u8 1,.int .u8 0,.int .u8 0,.int .u8 47,.int .u8 10,.int .u8 0,.int .u8 0] 5)) = .ok (.string ⟨#[35,1,0,0,47,10,0,0]⟩) (w.alloc (.cells #[.int .u8 35,.int .u8 1,.int .u8 0,.int .u8 0,.int .u8 47,.int .u8 10,.int .u8 0,.int .u8 0] 5)):=conv8 w 35 1 0 0 47 10 0 0
  go_enter Tryz.func130,Tryz.ntmps130
  go_wp2_with (fail)
  go_ret
  exact⟨rfl,HB.out _⟩
 ·have hcv:(convert 187 9 (.slice (some ⟨w.heap.size,0,none⟩) 8 8)).run Tryz.prog (w.alloc (.cells #[.int .u8 35,.int .u8 1,.int .u8 0,.int .u8 0,.int .u8 47,.int .u8 11,.int .u8 0,.int .u8 0] 5)) = .ok (.string ⟨#[35,1,0,0,47,11,0,0]⟩) (w.alloc (.cells #[.int .u8 35,.int .u8 1,.int .u8 0,.int .u8 0,.int .u8 47,.int .u8 11,.int .u8 0,.int .u8 0] 5)):=conv8 w 35 1 0 0 47 11 0 0
  go_enter Tryz.func130,Tryz.ntmps130
  go_wp2_with (fail)
  go_ret
  exact⟨rfl,HB.out _⟩

end Go.Proofs.YtgplnekpgdhcpaaGreat
namespace Go.Proofs.YtgplnekpgdhcpaaGreat
open Go.RowKit

def OT (base:Nat) (w:World) (v:Value) (L:List (List UInt8)):Prop:=w.ownsRow base 9 1 v L.length (L.map encStr)
theorem Tryz.infoStr:(Tryz.prog.info? 9).map (fun i=>(i.zero,i.size,i.bytes))=some (some (.string ByteArray.empty),1,16):=by kernel_rfl
theorem OT.mono {B B':Nat} {w:World} {v:Value} {L:List (List UInt8)} (h:OT B w v L) (hb:B'<=B):OT B' w v L:=by
 obtain⟨h1,h2 | ⟨g,cap,cur,hv,hg,r⟩⟩:=h
 ·exact⟨h1,.inl h2⟩
 ·exact⟨h1,.inr ⟨g,cap,cur,hv,Nat.le_trans hb hg,r⟩⟩
theorem OT.keep {base:Nat} {W W':World} {v:Value} {L:List (List UInt8)} (h:OT base W v L) (hk:∀ b,v.ownBlock=some b->W'.heap[b]? = W.heap[b]?):OT base W' v L:=by
 obtain⟨e1,h3 | ⟨g,cap,cur,hv,hg,hh,r⟩⟩:=h
 ·exact⟨e1,.inl h3⟩
 ·exact⟨e1,.inr ⟨g,cap,cur,hv,hg,(hk g (by rw[hv];rfl)).trans hh,r⟩⟩
theorem OT.ge {base:Nat} {W:World} {v:Value} {L:List (List UInt8)} (h:OT base W v L):∀ b,v.ownBlock=some b->base<=b/\b < W.heap.size:=by
 intro b hb
 obtain⟨e1,⟨rfl,-⟩ | ⟨g,cap,cur,rfl,hg,hh,r⟩⟩:=h
 ·cases hb
 ·cases hb
  exact⟨hg,(Array.getElem?_eq_some_iff.1 hh).1⟩
theorem OT.below {base:Nat} {W W':World} {v:Value} {L:List (List UInt8)} (h:OT base W v L) (hb:Below W.heap.size W W'):OT base W' v L :=
 h.keep fun b e=>hb.block b (h.ge b e).2
theorem OT.rt {base:Nat} {w:World} {g n c:Nat} {L:List (List UInt8)} (h:OT base w (.slice (some ⟨g,0,none⟩) n c) L) (hf:∀ x∈L,x.length<=9223372036854775807) (m:Nat) (hm:m<=n):RT w.heap.size w (some ⟨g,0,none⟩) m c (L.take m)/\base<=g:=by
 obtain⟨h1,⟨h2,-⟩ | ⟨g',cap,cur,hv,hg,hh,hle,hcap,hsz,htk⟩⟩:=h
 ·cases h2
 ·cases hv
  refine⟨⟨by rw[List.length_take];omega,by omega,by simpa [maxLen] using hcap,fun x hx=>hf x (List.mem_of_mem_take hx),fun _=>⟨g,0,rfl,(Array.getElem?_eq_some_iff.1 hh).1,fun i hi=>?_⟩⟩,hg⟩
  have e:=congrArg (fun l:List Value=>l[i]?) htk
  simp only[List.getElem?_take,List.getElem?_map] at e
  rw[if_pos (by omega),List.getElem?_eq_getElem (l:=L) (by omega)] at e
  simp only[World.cell?,hh,Nat.zero_add,Option.isSome_none,Bool.false_eq_true,if_false]
  rw[List.getD_eq_getElem?_getD,List.getElem?_take,if_pos hi,List.getElem?_eq_getElem (by omega)]
  simpa [lv] using e

theorem RT.src {B:Nat} {w:World} {a:Option Addr} {n c:Nat} {L:List (List UInt8)} (h:RT B w a n c L):0 < L.length->∃ ad,a=some ad/\∀ j u,(L.map encStr)[j]? = some u->w.cell? (ad.add j)=some u:=by
 intro h0
 have hc:0 < c:=by have:=h.le;have:=h.len;omega
 obtain⟨b,o,rfl,-,hcell⟩:=h.at_ hc
 refine⟨_,rfl,fun j u hu=>?_⟩
 have e:(⟨b,o,none⟩:Addr).add j=⟨b,o+j,none⟩:=by unfold Addr.add;split <;> simp_all
 rw[e]
 rw[List.getElem?_map] at hu
 rcases Nat.lt_or_ge j L.length with hj | hj
 ·rw[List.getElem?_eq_getElem hj] at hu
  cases hu
  have:=hcell j (by have:=h.len;omega)
  rw[List.getD_eq_getElem?_getD,List.getElem?_eq_getElem hj] at this
  exact this
 ·rw[List.getElem?_eq_none hj] at hu;cases hu

def lentX:List (List UInt8):=(List.range 12).map mkTx
theorem lentX_len:lentX.length=12:=by simp[lentX]
theorem lentX_at (j:Nat) (h:j < 12):lentX[j]'(by rw[lentX_len];exact h)=mkTx j:=by simp[lentX]
theorem lentX_take (j:Nat) (h:j < 12):lentX.take (j+1)=lentX.take j ++ [mkTx j]:=by
 rw[List.take_succ_eq_append_getElem (by rw[lentX_len];exact h),lentX_at j h]
theorem wpList_append_textsF {w:World} {ops:Array Oper} {rest:List Oper} {o:Oper} {a:Act} {K:Exit->Act->World->Prop} (hgd:o.guard=none) (s x:Operand)
  (ho:o.op = .call { callee:=.builtin .append,args:=#[s,x],argTypes:=#[43,43] }) (base g0 n0 c0:Nat) (P R:List (List UInt8)) (hs:a.eval s = .slice (some ⟨g0,0,none⟩) n0 c0) (h:OT base w (.slice (some ⟨g0,0,none⟩) n0 c0) P) (sa:Option Addr) (m c:Nat)
  (hx:a.eval x = .slice sa m c) (hm:m=R.length) (hsrc:0 < R.length->∃ ad,sa=some ad/\∀ j u,(R.map encStr)[j]? = some u->w.cell? (ad.add j)=some u) (hroom:n0+m<=c0)
  (hK:∀ w',OT base w' (.slice (some ⟨g0,0,none⟩) (n0+m) c0) (P ++ R)->w.grownBy w' (some g0)->wpList Tryz.prog ops K rest (a.put o.dst (.slice (some ⟨g0,0,none⟩) (n0+m) c0)) w'):wpList Tryz.prog ops K (o :: rest) a w:=by
 subst hm
 obtain⟨i0,hi,hz0,hz1,hz2⟩:=info_parts Tryz.infoStr
 have hn0:n0=P.length:=by
  obtain⟨e,⟨h1,-⟩ | ⟨g,cap,cur,h1,-⟩⟩:=h
  ·cases h1
  ·cases h1;simp
 subst hn0
 have hrun:∃ w',(Builtin.append_ #[43,43] o.type #[.slice (some ⟨g0,0,none⟩) P.length c0,.slice sa R.length c]).run Tryz.prog w = .ok (.slice (some ⟨g0,0,none⟩) (P.length+R.length) c0) w'/\OT base w' (.slice (some ⟨g0,0,none⟩) (P.length+R.length) c0) (P ++ R)/\w.grownBy w' (some g0):=by
  by_cases h0:R.length=0
  ·obtain rfl:R=[]:=List.eq_nil_of_length_eq_zero h0
   exact⟨w,run_append_nothing (P:=Tryz.prog) w 43 o.type 9 i0 Tryz.underlying43 hi (some ⟨g0,0,none⟩) sa P.length c0 c (by omega),by simpa using h,⟨rfl,rfl,rfl,Nat.le_refl _,fun _ _ _=>rfl⟩⟩
  ·obtain⟨ad,rfl,hcell⟩:=hsrc (by omega)
   obtain⟨w',hr,hown,hg⟩:=run_append_fits (P:=Tryz.prog) w base 43 o.type 9 i0 1 Tryz.underlying43 hi hz1 g0 P.length c0 (P.map encStr) (by simpa [OT] using h) ad R.length c (R.map encStr) (by simp) hcell (by intro u hu;obtain⟨z,-,rfl⟩:=List.mem_map.1 hu;rfl) hroom
   refine⟨w',hr,?_,hg⟩
   unfold OT
   rw[List.length_append,List.map_append]
   exact hown
 obtain⟨w',hr,ho2,hg⟩:=hrun
 refine wpList_plain hgd fun K' hK'=>?_
 unfold Oper.wp execOp
 simp only[ho,resolve,invoke,builtin,Sem.run_bind,Sem.run_pure,Result.andThen_ok,List.map_toArray,List.map_cons,List.map_nil,hs,hx,hr]
 exact hK' _ _ (hK w' ho2 hg)
theorem one_text (W:World) (x:List UInt8) (t:TypeId):∀ j u,([x].map encStr)[j]? = some u->(W.alloc (.cells #[encStr x] t)).cell? ((⟨W.heap.size,0,none⟩:Addr).add j)=some u:=by
 intro j u hu
 have e:(⟨W.heap.size,0,none⟩:Addr).add j=⟨W.heap.size,0+j,none⟩:=by unfold Addr.add;split <;> simp_all
 rw[e]
 simp only[World.cell?,(Go.MapKept.heap_alloc W _).1]
 simpa using hu
set_option maxHeartbeats 2000000 in
set_option maxRecDepth 100000 in
theorem LentTexts_any (N:Nat) (a:Option Addr) (n c:Nat) (L:List (List UInt8)) (w:World) (hr:RT N w a n c L) (hN:N<=w.heap.size) (hs:n * 16<=140737488355328) :
  Calls Tryz.prog 95 #[.slice a n c] w fun e w'=>(∃ g c',e = .returned (.slice (some ⟨g,0,none⟩) n c')/\(n+12<=c'/\c'<=9223372036854775807)/\OT w.heap.size w' (.slice (some ⟨g,0,none⟩) (n+12) c') (L ++ lentX))/\Below w.heap.size w w':=by
 obtain⟨i0,hi,hz0,hz1,hz2⟩:=info_parts Tryz.infoStr
 have hln:=hr.len
 have hle:=hr.le
 have hmx:=hr.mx
 have Hln:=Lib.hid hln
 have Hr:=Lib.hid hr
 have Hi:=Lib.hid hi
 have Hz0:=Lib.hid hz0
 have Hz1:=Lib.hid hz1
 have Hz2:=Lib.hid hz2
 have hb0:i0.bytes * (n+12)<=281474976710656:=by rw[hz2];omega
 have Hb0:=Lib.hid hb0
 clear hi hz0 hz1 hz2 hr hln hb0
 go_enter Tryz.func95,Tryz.ntmps95
 go_wp2_with (first
  | (refine wpList_make_own _ rfl _ _ 43 rfl w.heap.size 9 i0 _ 1 Tryz.underlying43 Hi.out Hz0.out Hz1.out .i64 .i64 _ (n+12) rfl rfl (by omega) Hb0.out (by simp only[maxLen];omega) (Nat.le_refl _) ?_;intro w1 hown1 hg1;have O1:Hid (OT w.heap.size w1 (.slice (some ⟨w.heap.size,0,none⟩) 0 (n+12)) []):=Lib.hid hown1;have B1:Hid (Below w.heap.size w w1):=Lib.hid ((Below.refl _ w).grown hg1 (Nat.le_refl _) (fun r e=>by cases e));clear hown1 hg1)
  | (at_builtin;refine wpList_append_textsF rfl _ _ rfl w.heap.size w.heap.size 0 (n+12) [] L rfl O1.out _ _ _ rfl Hln.out (Hr.out.below (B1.out.mono hN)).src (by omega) ?_;intro w2 hown2 hg2))
 rw[List.nil_append,Nat.zero_add] at hown2
 have O2:=Lib.hid hown2
 have B2:Hid (Below w.heap.size w w2):=Lib.hid (B1.out.grown hg2 B1.out.size (fun r e=>by cases e;exact Nat.le_refl _))
 clear hown2 hg2
 try rw[Nat.zero_add]
 go_wp2_with (fail)
 go_loopw [3,4] (fun v i wr=>∃ (j:Nat),j<=12/\i = .int .i64 j/\v = .slice (some ⟨w.heap.size,0,none⟩) (n+j) (n+12)/\Hid (OT w.heap.size wr (.slice (some ⟨w.heap.size,0,none⟩) (n+j) (n+12)) (L ++ lentX.take j))/\Hid (Below w.heap.size w wr)) (fun _ i _=>12 - (intOf i).toNat)
 case atStart=>exact⟨0,by omega,rfl,rfl,by simpa using O2,B2⟩
 case round =>
  obtain⟨j,hj,rfl,rfl,Ho,Hb⟩:=hrel
  by_cases hlt:j < 12
  ·have hmk:=fun W=>markText_any j W hlt
   have hsz:=Hb.out.size
   have htk:=lentX_take j hlt
   obtain⟨m,hm⟩:∃ m,m=mkTx j:=⟨_,rfl⟩
   rw[<- hm] at hmk htk
   unfold encStr at hmk
   have HM:=Lib.hid hmk
   have Htk:=Lib.hid htk
   clear hm htk hmk
   go_wp2_with (first | (go_at_call 130;refine (HM.out _).mono ?_;rintro e wm ⟨rfl,hbm⟩;have O3:=Lib.hid ((Ho.out.below hbm).below ((Below.refl _ wm).alloc (Nat.le_refl _) (.cells #[.string ⟨m.toArray⟩] 9)));have Bm:=Lib.hid (Hb.out.trans (hbm.mono hsz));clear hbm) | (at_builtin;refine wpList_append_textsF rfl _ _ rfl w.heap.size w.heap.size (n+j) (n+12) (L ++ lentX.take j) [m] rfl O3.out _ 1 _ rfl rfl (fun _=>⟨_,rfl,one_text _ m _⟩) (by omega) ?_;intro w4 hown4 hg4))
   have O4:=Lib.hid (show OT w.heap.size w4 (.slice (some ⟨w.heap.size,0,none⟩) (n+(j+1)) (n+12)) (L ++ lentX.take (j+1)) from by rw[Htk.out,<- List.append_assoc];exact hown4)
   have B4:Hid (Below w.heap.size w w4):=Lib.hid ((Bm.out.alloc Bm.out.size _).grown hg4 (by have:=Bm.out.size;simp;omega) (fun r e=>by cases e;exact Nat.le_refl _))
   clear hown4 hg4
   go_roundw
   case rel=>exact⟨j+1,by omega,by go_num,by go_num,O4,B4⟩
   case measure=>simp[intOf];omega
  ·have hge:j=12:=by omega
   subst hge
   go_wp2_with (fail)
   go_ret
   refine⟨⟨w.heap.size,n+12,rfl,⟨Nat.le_refl _,by omega⟩,?_⟩,Hb.out⟩
   have h:=Ho.out
   rw[List.take_of_length_le (Nat.le_of_eq lentX_len)] at h
   exact h
end Go.Proofs.YtgplnekpgdhcpaaGreat
