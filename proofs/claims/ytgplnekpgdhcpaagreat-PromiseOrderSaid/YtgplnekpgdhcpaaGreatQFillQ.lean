/- Lists of api.Use as they stand in memory; storemankit's equality of them: its walk. (Printed by gen/kinds.py.) For flow.fill: frames, and the plain steps. For flow.fill: more frames, and the passes. -/
import Derived.Test.YtgplnekpgdhcpaaGreatQBridge
import Derived.Test.YtgplnekpgdhcpaaGreatQFill
import Derived.Test.YtgplnekpgdhcpaaGreatQEnds
import Derived.Laws.StructEq
import Derived.Test.YtgplnekpgdhcpaaGreatQPick
import Derived.Test.YtgplnekpgdhcpaaGreatQTog
import Derived.StillTailTactics
namespace Go.Proofs.YtgplnekpgdhcpaaGreat
open Go.RowKit
def encUse (x:UseV):List Value:=[.int .i64 x.want,.int .i64 x.lot,.int .i64 x.qty]
def okUse (x:UseV):Prop:=(-9223372036854775808<=x.want/\x.want<=9223372036854775807)/\(-9223372036854775808<=x.lot/\x.lot<=9223372036854775807)/\(-9223372036854775808<=x.qty/\x.qty<=9223372036854775807)
set_option maxRecDepth 100000 in
theorem useE_under:Tryz.prog.underlying 81=some (.slice 106):=Tryz.underlying81
theorem useE_info:(Tryz.prog.info? 106).map (fun i=>(i.zero,i.size,i.bytes))=some (some (.agg #[.int .i64 0,.int .i64 0,.int .i64 0]),3,24):=by kernel_rfl
def useE:El UseV where
 e:=106
 t:=81
 k:=3
 bytes:=24
 z:=.agg #[.int .i64 0,.int .i64 0,.int .i64 0]
 enc:=encUse
 ok:=okUse
 len:=fun _=>rfl
 one:=fun x u hu=>by
  unfold encUse at hu
  simp only[List.mem_cons,List.not_mem_nil,or_false] at hu
  rcases hu with rfl | rfl | rfl <;> rfl
 kpos:=by decide
 under:=useE_under
 info:=useE_info
 zc:=rfl
 small:=by decide
theorem useE_lit (W:World) (x:UseV) (t:TypeId):∀ j u,(useE.cells [x])[j]? = some u->(W.alloc (.cells #[.int .i64 x.want,.int .i64 x.lot,.int .i64 x.qty] t)).cell? ((⟨W.heap.size,0,none⟩:Addr).add j)=some u:=El.one_lit (E:=useE) W x _ t rfl
end Go.Proofs.YtgplnekpgdhcpaaGreat
namespace Go.Proofs.YtgplnekpgdhcpaaGreat
open Go.RowKit Go.Sort
theorem OnlyB.refl (g:Nat) (w:World):OnlyB g w w:=⟨rfl,rfl,rfl,Nat.le_refl _,fun _ _ _=>rfl⟩
theorem OnlyB.below {g:Nat} {w w' w2:World} (h:OnlyB g w w') (hb:Below w'.heap.size w' w2):OnlyB g w w2 :=
 ⟨hb.os.trans h.os,hb.tape.trans h.tape,hb.output.trans h.output,Nat.le_trans h.size hb.size,fun b h1 h2=>(hb.block b (by have:=h.size;omega)).trans (h.block b h1 h2)⟩
theorem OnlyB.grown {g:Nat} {w w' w2:World} {row:Option Nat} (h:OnlyB g w w') (hg:w'.grownBy w2 row) (hr:∀ b,row=some b->b=g∨w.heap.size<=b):OnlyB g w w2:=by
 obtain⟨k1,k2,k3,k4,k5⟩:=hg
 refine⟨k1.trans h.os,k2.trans h.tape,k3.trans h.output,Nat.le_trans h.size k4,fun b h1 h2=>?_⟩
 rw[k5 b (by have:=h.size;omega) (fun e=>by rcases hr b e.symm with h3 | h3 <;> omega)]
 exact h.block b h1 h2
theorem OnlyB.belowB {g B:Nat} {w w':World} (h:OnlyB g w w') (hB:B<=w.heap.size) (hg:B<=g):Below B w w':=⟨h.os,h.tape,h.output,h.size,fun k hk=>h.block k (by omega) (by omega)⟩
theorem OnlyB.cell {g:Nat} {w w':World} (h:OnlyB g w w') {b o:Nat} (h1:b≠g) (h2:b < w.heap.size):w'.cell? ⟨b,o,none⟩=w.cell? ⟨b,o,none⟩:=by
 unfold World.cell?
 simp only[h.block b h1 h2]
def leftV (f:Int->Int):Int->Value:=fun i=>.int .i64 (f i)
theorem leftV_upd (f:Int->Int) (i v:Int):updV (leftV f) i (.int .i64 v)=leftV (upd f i v):=by
 funext j
 unfold updV leftV upd
 split <;> rfl
theorem left0_succ {S:List LotV} {j:Nat} (hj:j < S.length) (hn:(S.map (·.id)).Nodup):left0 (S.take (j+1))=upd (left0 (S.take j)) (S.getD j default).id (S.getD j default).qty:=by
 funext i
 rw[List.take_succ_eq_append_getElem hj,List.getD_eq_getElem?_getD,List.getElem?_eq_getElem hj]
 simp only[Option.getD_some]
 unfold left0 upd
 rw[List.find?_append]
 have hno:∀ l∈S.take j,l.id≠(S[j]).id:=fun l hl e=>by
  rw[<- List.take_append_drop j S,List.drop_eq_getElem_cons hj,List.map_append,List.nodup_append] at hn
  exact hn.2.2 l.id (List.mem_map_of_mem hl) S[j].id (by rw[List.map_cons];exact List.mem_cons_self) e
 by_cases h:i=(S[j]).id
 ·rw[if_pos h]
  have:(S.take j).find? (fun l=>decide (l.id=i))=none:=by
   rw[List.find?_eq_none]
   intro l hl
   rw[h]
   simp[hno l hl]
  rw[this,List.find?_singleton]
  simp[h]
 ·rw[if_neg h]
  have:[S[j]].find? (fun l=>decide (l.id=i))=none:=by
   rw[List.find?_singleton]
   simp[Ne.symm h]
  rw[this,Option.or_none]
theorem left0_perm {S L:List LotV} (hp:S.Perm L) (hn:(L.map (·.id)).Nodup):left0 S=left0 L:=by
 funext i
 have hnS:(S.map (·.id)).Nodup:=(hp.map _).nodup_iff.2 hn
 by_cases h:∃ l∈L,l.id=i
 ·obtain⟨l,hl,rfl⟩:=h
  rw[left0_of hn hl,left0_of hnS (hp.mem_iff.2 hl)]
 ·have h1:L.find? (fun l=>decide (l.id=i))=none:=by
   rw[List.find?_eq_none]
   intro l hl
   simpa using fun e=>h ⟨l,hl,e⟩
  have h2:S.find? (fun l=>decide (l.id=i))=none:=by
   rw[List.find?_eq_none]
   intro l hl
   simpa using fun e=>h ⟨l,hp.mem_iff.1 hl,e⟩
  unfold left0
  rw[h1,h2]
def ofI (S:List LotV) (t:List UInt8):List LotV:=S.filter fun l=>decide (l.item=t)
theorem ofI_succ {S:List LotV} {j:Nat} (hj:j < S.length) (t:List UInt8):ofI (S.take (j+1)) t=if (S.getD j default).item=t then ofI (S.take j) t ++ [S.getD j default] else ofI (S.take j) t:=by
 unfold ofI
 rw[List.take_succ_eq_append_getElem hj,List.filter_append,List.getD_eq_getElem?_getD,List.getElem?_eq_getElem hj]
 simp only[Option.getD_some,List.filter_cons,List.filter_nil,decide_eq_true_eq]
 split <;> simp
structure Items (base:Nat) (w:World) (f:List UInt8->Value) (S:List LotV):Prop where
 own:∀ t,lotE.Own base w (f t) (ofI S t)
 apart:∀ t u b,t≠u->(f t).ownBlock=some b->(f u).ownBlock≠some b
theorem Items.nil (base:Nat) (w:World):Items base w (fun _=>.slice none 0 0) []:=⟨fun _=>El.Own.nil _ _ _,fun t u b _ h=>by cases h⟩
theorem Items.keep {base:Nat} {w w':World} {f:List UInt8->Value} {S:List LotV} (h:Items base w f S) (hk:∀ t b,(f t).ownBlock=some b->w'.heap[b]? = w.heap[b]?):Items base w' f S :=
 ⟨fun t=>(h.own t).keep (hk t),h.apart⟩
theorem Items.below {base:Nat} {w w':World} {f:List UInt8->Value} {S:List LotV} (h:Items base w f S) (hb:Below w.heap.size w w'):Items base w' f S :=
 h.keep fun t b e=>hb.block b ((h.own t).ge b e).2
theorem Items.more {base:Nat} {w w':World} {f:List UInt8->Value} {S:List LotV} {j:Nat} (hj:j < S.length) (h:Items base w f (S.take j)) {v:Value} (ho:lotE.Own base w' v (ofI (S.take j) (S.getD j default).item ++ [S.getD j default])) (hg:w.grownBy w' (f (S.getD j default).item).ownBlock) (hv:v.ownBlock=(f (S.getD j default).item).ownBlock∨∀ b,v.ownBlock=some b->w.heap.size<=b):Items base w' (setO f (S.getD j default).item v) (S.take (j+1)):=by
 obtain⟨k1,k2,k3,k4,k5⟩:=hg
 refine⟨fun t=>?_,fun t u b hne=>?_⟩
 ·rw[ofI_succ hj]
  by_cases e:(S.getD j default).item=t
  ·subst e
   rw[if_pos rfl,setO_same]
   exact ho
  ·rw[if_neg e,setO_other _ (fun h2=>e h2.symm)]
   refine (h.own t).keep fun b hb=>k5 b ((h.own t).ge b hb).2 fun e2=>?_
   exact h.apart t _ b (fun h3=>e h3.symm) hb e2.symm
 ·by_cases e:t=(S.getD j default).item
  ·subst e
   rw[setO_same,setO_other _ (fun h2=>hne h2.symm)]
   intro hb hc
   rcases hv with hv | hv
   ·rw[hv] at hb
    exact h.apart _ u b hne hb hc
   ·have:=hv b hb
    have:=((h.own u).ge b hc).2
    omega
  ·rw[setO_other _ e]
   by_cases e2:u=(S.getD j default).item
   ·subst e2
    rw[setO_same]
    intro hb hc
    rcases hv with hv | hv
    ·rw[hv] at hc
     exact h.apart t _ b e hb hc
    ·have:=hv b hc
     have:=((h.own t).ge b hb).2
     omega
   ·rw[setO_other _ e2]
    exact h.apart t u b hne
end Go.Proofs.YtgplnekpgdhcpaaGreat
namespace Go.Proofs.YtgplnekpgdhcpaaGreat
open Go.RowKit Go.Sort Go.Shelf
theorem zeroLots (w:World):(zeroValue 23).run Tryz.prog w = .ok (.slice none 0 0) w:=by kernel_rfl
theorem zeroI64 (w:World):(zeroValue 2).run Tryz.prog w = .ok (.int .i64 0) w:=by kernel_rfl
theorem okCode_le {l:List UInt8} (h:okCode l=true):l.length<=12:=by
 rcases Nat.lt_or_ge 12 l.length with h1 | h1
 ·rw[okCode_len (by omega)] at h;cases h
 ·exact h1
structure Only2 (g g2:Nat) (w w':World):Prop where
 os:w'.os=w.os
 tape:w'.tape=w.tape
 output:w'.output=w.output
 size:w.heap.size<=w'.heap.size
 block:∀ b,b≠g->b≠g2->b < w.heap.size->w'.heap[b]? = w.heap[b]?
theorem Only2.refl (g g2:Nat) (w:World):Only2 g g2 w w:=⟨rfl,rfl,rfl,Nat.le_refl _,fun _ _ _ _=>rfl⟩
theorem Only2.below {g g2:Nat} {w w' w2:World} (h:Only2 g g2 w w') (hb:Below w'.heap.size w' w2):Only2 g g2 w w2 :=
 ⟨hb.os.trans h.os,hb.tape.trans h.tape,hb.output.trans h.output,Nat.le_trans h.size hb.size,fun b h1 h3 h2=>(hb.block b (by have:=h.size;omega)).trans (h.block b h1 h3 h2)⟩
theorem Only2.grown {g g2:Nat} {w w' w2:World} {row:Option Nat} (h:Only2 g g2 w w') (hg:w'.grownBy w2 row) (hr:∀ b,row=some b->b=g∨b=g2∨w.heap.size<=b):Only2 g g2 w w2:=by
 obtain⟨k1,k2,k3,k4,k5⟩:=hg
 refine⟨k1.trans h.os,k2.trans h.tape,k3.trans h.output,Nat.le_trans h.size k4,fun b h1 h3 h2=>?_⟩
 rw[k5 b (by have:=h.size;omega) (fun e=>by rcases hr b e.symm with h4 | h4 | h4 <;> omega)]
 exact h.block b h1 h3 h2
theorem Only2.belowB {g g2 B:Nat} {w w':World} (h:Only2 g g2 w w') (hB:B<=w.heap.size) (hg:B<=g) (hg2:B<=g2):Below B w w':=⟨h.os,h.tape,h.output,h.size,fun k hk=>h.block k (by omega) (by omega) (by omega)⟩
theorem lot_own_cells {base g n c:Nat} {w:World} {X:List LotV} (h:lotE.Own base w (.slice (some ⟨g,0,none⟩) n c) X) {i:Nat} (hi:i < n):w.cell? ⟨g,i * 6,none⟩=some (.int .i64 (X.getD i default).id)/\w.cell? ⟨g,i * 6+1,none⟩=some (encStr (X.getD i default).item)/\w.cell? ⟨g,i * 6+2,none⟩=some (.int .i64 (X.getD i default).fr)/\w.cell? ⟨g,i * 6+3,none⟩=some (.int .i64 (X.getD i default).un)/\w.cell? ⟨g,i * 6+4,none⟩=some (.int .i64 (X.getD i default).qty)/\w.cell? ⟨g,i * 6+5,none⟩=some (.bool (X.getD i default).arr):=by
 obtain⟨-,-,-,-,-,hc⟩:=h.cell
 exact⟨hc i hi 0 (by decide),hc i hi 1 (by decide),hc i hi 2 (by decide),hc i hi 3 (by decide),hc i hi 4 (by decide),hc i hi 5 (by decide)⟩
def lotObj (id:Int) (item:List UInt8) (fr un qty:Int) (arr:Bool):Obj:=.cells #[.int .i64 id,.string ⟨item.toArray⟩,.int .i64 fr,.int .i64 un,.int .i64 qty,.bool arr] 50
theorem lotObj_cells {w:World} {p:Nat} {id:Int} {item:List UInt8} {fr un qty:Int} {arr:Bool} (h:w.heap[p]? = some (lotObj id item fr un qty arr)):w.cell? ⟨p,0,none⟩=some (.int .i64 id)/\w.cell? ⟨p,1,none⟩=some (.string ⟨item.toArray⟩)/\w.cell? ⟨p,2,none⟩=some (.int .i64 fr)/\w.cell? ⟨p,3,none⟩=some (.int .i64 un)/\w.cell? ⟨p,4,none⟩=some (.int .i64 qty)/\w.cell? ⟨p,5,none⟩=some (.bool arr):=by
 unfold lotObj at h
 refine⟨?_,?_,?_,?_,?_,?_⟩ <;> (unfold World.cell?;rw[h];rfl)
def FillPost (w:World) (L:List LotV) (W:List WantV) (e:Ending) (w':World):Prop:=Below w.heap.size w w'/\match fillX L W with
 | none=>e = .returned (.tuple #[.slice none 0 0,.map none,.bool false])
 | some (U,f)=>∃ v mb cnt,e = .returned (.tuple #[v,.map (some mb),.bool true])/\useE.Own w.heap.size w' v U/\MI w' mb cnt (.int .i64 0) (leftV f)/\cnt<=100000000
theorem FillPost.none {w w':World} {L:List LotV} {W:List WantV} {e:Ending} (hb:Below w.heap.size w w') (h:fillX L W=none) (he:e = .returned (.tuple #[.slice none 0 0,.map none,.bool false])):FillPost w L W e w':=by
 unfold FillPost
 rw[h]
 exact⟨hb,he⟩
def dropQ:Nat->Code->Code
 | n+1,.seq _ b=>dropQ n b
 | _,c=>c
def FB (S:List LotV) (f:Int->Int):Prop:=∀ l∈S,0<=f l.id/\f l.id<=1073741824
theorem rowsBase {base e size g n c m:Nat} {w:World} {xs:List Value} (h:w.ownsRow base e size (.slice (some ⟨g,0,none⟩) n c) m xs):base<=g:=(Tx.rows_ge h g rfl).1
theorem FillPost.some {w w':World} {L:List LotV} {W:List WantV} {U:List UseV} {f:Int->Int} {v:Value} {mb cnt:Nat} {e:Ending} (hb:Below w.heap.size w w') (h:fillX L W=some (U,f)) (ho:useE.Own w.heap.size w' v U) (hm:MI w' mb cnt (.int .i64 0) (leftV f)) (hc:cnt<=100000000) (he:e = .returned (.tuple #[v,.map (some mb),.bool true])):FillPost w L W e w':=by
 unfold FillPost
 rw[h]
 exact⟨hb,v,mb,cnt,he,ho,hm,hc⟩
theorem fillF_cons (S:List LotV) (W:List WantV) (i:Nat) (os:List Nat) (f:Int->Int) (out:List UseV):fillF S W (i :: os) f out=if 0 < (pass (W.getD i default).day i (ofI S (W.getD i default).item) f (W.getD i default).qty).2.2 then none else fillF S W os (pass (W.getD i default).day i (ofI S (W.getD i default).item) f (W.getD i default).qty).2.1 (out ++ (pass (W.getD i default).day i (ofI S (W.getD i default).item) f (W.getD i default).qty).1):=rfl
def wantObj (item:List UInt8) (day qty:Int):Obj:=.cells #[.string ⟨item.toArray⟩,.int .i64 day,.int .i64 qty] 71
theorem wantObj_cells {w:World} {p:Nat} {item:List UInt8} {day qty:Int} (h:w.heap[p]? = some (wantObj item day qty)):w.cell? ⟨p,0,none⟩=some (.string ⟨item.toArray⟩)/\w.cell? ⟨p,1,none⟩=some (.int .i64 day)/\w.cell? ⟨p,2,none⟩=some (.int .i64 qty):=by
 unfold wantObj at h
 refine⟨?_,?_,?_⟩ <;> (unfold World.cell?;rw[h];rfl)
theorem FB.upd {S:List LotV} {f:Int->Int} (h:FB S f) (i t:Int) (h0:0<=f i - t) (h1:f i - t<=1073741824):FB S (upd f i (f i - t)):=fun l hl=>by
 unfold Go.Proofs.YtgplnekpgdhcpaaGreat.upd
 split
 ·exact⟨h0,h1⟩
 ·exact h l hl
theorem ofI_sub {S:List LotV} {t:List UInt8} {l:LotV} (h:l∈ofI S t):l∈S:=(List.mem_filter.1 h).1
end Go.Proofs.YtgplnekpgdhcpaaGreat
