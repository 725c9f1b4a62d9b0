/- What is in so many of an item in the end, by the program. What is promised, said of items in memory. (Plain.) slices.DeleteFunc at lines: what is common to its uses. (Printed by gen/delk.py.) promise.now, promise.wants: walks. promise.Wants: its walk. -/
import Derived.Test.YtgplnekpgdhcpaaGreatKPut
import Derived.Test.YtgplnekpgdhcpaaGreatQLineOk
import Derived.Test.YtgplnekpgdhcpaaGreatQMeet
import Derived.Test.YtgplnekpgdhcpaaGreatKRight
import Derived.Test.YtgplnekpgdhcpaaGreatQLine
import Derived.Test.YtgplnekpgdhcpaaGreatQPick
namespace Go.Proofs.YtgplnekpgdhcpaaGreat
open Go.RowKit
def endL (X:List It) (c:List UInt8) (q:Int):Option (List Pt):=putL X 8 [] c q
def partsE (X:List It) (c:List UInt8) (q:Int):Int:=if chkE X≠0 then chkE X else if ¬ (1<=q/\okA q=true) then 2 else if c ∉ codes X then 150 else match endL X c q with | none=>3 | some _=>0
theorem Sound.hgt8 {X:List It} (h:Sound X) {c:List UInt8} (hc:c∈codes X):hgt (kidsX X) 8 c=some (tellX X c):=by
 have h1:=h.rnd c hc
 have h2:=h.dp c hc
 unfold tellX at h1 h2 ⊢
 cases hh:hgt (kidsX X) X.length c with
 | none=>rw[hh] at h1;exact absurd rfl h1
 | some d =>
  rw[hh] at h2
  exact hgt_mono h2 (hgt_fuel _ _ _ hh)
def putF (g:Nat):Value:=.func (.func 98) #[] #[.pointer (some ⟨g,0,none⟩),.pointer (some ⟨g+1,0,none⟩),.pointer (some ⟨g+1+1,0,none⟩)]
def putW (w:World) (ma:Nat) (tf:TypeId):World:=((w.alloc (.cells #[.map (some ma)] 112)).alloc (.cells #[.slice none 0 0] 64)).alloc (.cells #[putF w.heap.size] tf)
theorem put_start (tf:TypeId) {B ma n:Nat} {X:List It} {w:World} (hall:MF w ma n zItem (bookF X)) (hok:∀ x∈X,ItOk B w x) (hB:B<=w.heap.size) :
  LP (putW w ma tf) w.heap.size (w.heap.size+1) w.heap.size (w.heap.size+1+1) ma n (putF w.heap.size) X none 0 []/\Below w.heap.size w (putW w ma tf)/\(putW w ma tf).heap.size=w.heap.size+3:=by
 obtain⟨g,hg⟩:∃ g,g=w.heap.size:=⟨_,rfl⟩
 have hma:=hall.lt
 unfold putW
 rw[<- hg]
 obtain⟨W1,h1⟩:∃ W,W=w.alloc (.cells #[.map (some ma)] 112):=⟨_,rfl⟩
 have s1:W1.heap.size=g+1:=by rw[h1,World.size_alloc,hg]
 have a1:W1.heap[g]? = some (.cells #[.map (some ma)] 112):=by rw[h1,hg];exact heap_alloc_new _ _
 have b1:Below g w W1:=by rw[h1,hg];exact (Below.refl _ w).alloc (Nat.le_refl _) _
 rw[<- h1]
 obtain⟨W2,h2⟩:∃ W,W=W1.alloc (.cells #[.slice none 0 0] 64):=⟨_,rfl⟩
 have s2:W2.heap.size=g+1+1:=by rw[h2,World.size_alloc,s1]
 have a2:W2.heap[g+1]? = some (.cells #[.slice none 0 0] 64):=by rw[h2,<- s1];exact heap_alloc_new _ _
 have k2:∀ k,k < g+1->W2.heap[k]? = W1.heap[k]?:=fun k hk=>by rw[h2];exact al_old _ _ (by rw[s1];exact hk)
 have b2:Below g w W2:=b1.trans (by rw[h2];exact (Below.refl _ _).alloc (by rw[s1];omega) _)
 rw[<- h2]
 obtain⟨W4,h4⟩:∃ W,W=W2.alloc (.cells #[putF g] tf):=⟨_,rfl⟩
 have s4:W4.heap.size=g+3:=by rw[h4,World.size_alloc,s2]
 have a4:W4.heap[g+1+1]? = some (.cells #[putF g] tf):=by rw[h4,<- s2];exact heap_alloc_new _ _
 have k4:∀ k,k < g+1+1->W4.heap[k]? = W2.heap[k]?:=fun k hk=>by rw[h4];exact al_old _ _ (by rw[s2];exact hk)
 have b4:Below g w W4:=b2.trans (by rw[h4];exact (Below.refl _ _).alloc (by rw[s2];omega) _)
 rw[<- h4]
 have b4':Below w.heap.size w W4:=hg ▸ b4
 have f4:W4.heap[g+1]? = some (.cells #[.slice none 0 0] 64):=(k4 _ (by omega)).trans a2
 refine⟨⟨one_at f4,by unfold World.frozen?;rw[f4];simp,OP.nil _ _,one_at ((k4 _ (by omega)).trans ((k2 _ (by omega)).trans a1)),one_at a4,hall.below b4' hma,fun x hx=>((hok x hx).below (b4'.mono hB)).mono (by rw[hg];exact hB),by omega,by omega,by omega,by omega,by omega,by omega,by omega⟩,b4,s4⟩
set_option maxHeartbeats 4000000 in
set_option maxRecDepth 100000 in
theorem Parts_any (B:Nat) (a:Option Addr) (n cp:Nat) (X:List It) (c:List UInt8) (q:Int) (w:World) (hr:RI B w a n cp X) (hB:B<=w.heap.size) (hc:c.length<=9223372036854775807) (hq1:-9223372036854775808<=q) (hq2:q<=9223372036854775807) :
  Calls Tryz.prog 67 #[.slice a n cp,.string ⟨c.toArray⟩,.int .i64 q] w fun e w'=>Below w.heap.size w w'/\∃ v,e = .returned (.tuple #[v,.int .i64 (partsE X c q)])/\(partsE X c q≠0->v = .slice none 0 0)/\(partsE X c q=0->∃ a c' S,v = .slice a S.length c'/\endL X c q=some S/\PS X S/\OP w.heap.size w' v S):=by
 have HC:=Lib.hid (check_any B a n cp X w hr hB)
 have HCL:=Lib.hid hc
 have HR:=Lib.hid (hr.mono hB)
 have hsf:∀ (a:Addr) (f:Fn) (x y:Array Value) (W:World),(store a (.func f x y)).run Tryz.prog W=stored Tryz.prog W a (.func f x y) .plain:=fun a f x y W=>run_store Tryz.prog W a _ _ rfl
 have hfc:=field_code
 clear hr hc
 go_enter Tryz.func67,Tryz.ntmps67
 go_wp2_with (fail)
 go_at_call 85
 refine HC.out.mono ?_
 rintro e w1 ⟨hb,am,dm,rfl,hnil,hok⟩
 have HB:=Lib.hid hb
 clear hb
 by_cases h0:chkE X=0
 ·obtain⟨ma,mo,N,o,rfl,rfl,hma,-,-,-,-,-⟩:=hok h0
  have HS:=Lib.hid (sound_of h0)
  have HMA:=Lib.hid hma
  have H0:=Lib.hid h0
  have HB1:Hid (Below w.heap.size w (w1.alloc (.cells #[.map (some ma)] 112))):=Lib.hid (HB.out.alloc HB.out.size _)
  rw[h0]
  clear h0 hok hma hnil
  by_cases hq:1<=q
  ·have t1:decide (q < 1)=false:=by simp;omega
   by_cases hk:okA q=true
   ·have hRight:∀ w,Calls Tryz.prog 97 #[.int .i64 q] w fun e w'=>e = .returned (.bool true)/\w=w':=fun w=>by
     have:=Right_any q w
     rw[hk] at this
     exact this
    have HQ:=Lib.hid (And.intro hq hk)
    clear hq hk
    by_cases hcc:c∈codes X
    ·have HCC:=Lib.hid hcc
     have HE:Hid (partsE X c q=match endL X c q with | none=>3 | some _=>0):=Lib.hid (by
      unfold partsE
      rw[if_neg (fun h=>h H0.out),if_neg (fun h=>h HQ.out),if_neg (fun h=>h HCC.out)])
     obtain⟨x,hx,hxm,hxc⟩:=itF_some hcc
     have hne:=HS.out.ne x hxm
     have hlk:=fun (W:World) (h:Below w1.heap.size w1 W)=>(HMA.out.below h HMA.out.lt).look Tryz.underlying112 (zeroItem _) c HCL.out
     rw[book_at HS.out.nd hx] at hlk
     unfold It.val at hlk
     rw[hxc] at hlk
     have hlk1:=hlk (w1.alloc (.cells #[.map (some ma)] 112)) ((Below.refl _ w1).alloc (Nat.le_refl _) _)
     unfold encStr at hlk1
     rw[hxc] at hne
     obtain⟨c1,c2,hcu⟩:∃ u v,c=u :: v:=by
      cases c with
      | nil=>exact absurd rfl hne
      | cons u v=>exact⟨u,v,rfl⟩
     clear hcc hx hxm hxc hlk hne
     subst hcu
     obtain⟨hL0,hb0,hs0⟩:=put_start 125 HMA.out (HR.out.below HB.out).ok HB.out.size
     obtain⟨W4,hW4⟩:∃ W,W=putW w1 ma 125:=⟨_,rfl⟩
     have hW4':=hW4
     unfold putW putF at hW4'
     rw[<- hW4] at hL0 hb0 hs0
     have HL0:=Lib.hid hL0
     have HB0:=Lib.hid hb0
     have HS0:=Lib.hid hs0
     have HW4:=Lib.hid hW4'
     clear hL0 hb0 hs0 hW4 hW4'
     go_wp2_with (fail)
     go_at_call 97
     refine (hRight _).mono ?_
     rintro e w9 ⟨rfl,rfl⟩
     go_upto_region 11 with (fail)
     rw[<- HW4.out]
     obtain⟨g,hg⟩:∃ g,g=w1.heap.size:=⟨_,rfl⟩
     rw[<- hg] at HL0 HB0 HS0 ⊢
     have HG:=Lib.hid hg
     clear hg HW4 hlk1
     have cl:=HL0.out.cl
     unfold putF at cl
     have hcall:=Lib.hid (put_any g (g+1) g (g+1+1) ma n (putF g) X rfl HS.out 8 [] none 0 (c1 :: c2) q W4 HL0.out (ps_of HS.out ⟨List.Pairwise.nil,fun p hp=>by cases hp⟩ (fun p hp=>by cases hp)) HCC.out ⟨_,HS.out.hgt8 HCC.out⟩ hq1 hq2)
     go_wp2_with (fail)
     go_at_call 98
     refine hcall.out.mono ?_
     rintro e w5 ⟨hgr,hpost⟩
     have hb5:Below w.heap.size w w5:=HB.out.trans ((HG.out ▸ (HB0.out.grown hgr (by have:=HS0.out;omega) (fun k e=>by have:=Option.some.inj e;omega)):Below w1.heap.size w1 w5).mono HB.out.size)
     have HB5:=Lib.hid hb5
     have HEP:Hid (endL X (c1 :: c2) q=putL X 8 [] (c1 :: c2) q):=Lib.hid rfl
     cases hU:putL X 8 [] (c1 :: c2) q with
     | none =>
      rw[hU] at hpost HEP
      rw[HEP.out] at HE
      obtain rfl:=hpost
      clear hU hgr hcall cl hb5
      go_wp2_with (fail)
      go_ret2
      rw[HE.out]
      exact⟨HB5.out,_,rfl,fun _=>rfl,fun h=>absurd h (by decide)⟩
     | some S =>
      rw[hU] at hpost HEP
      rw[HEP.out] at HE
      obtain⟨rfl,hP3,a3,c3,hL3⟩:=hpost
      have ce3:=hL3.ce
      have HP3:=Lib.hid hP3
      have HO3:=Lib.hid (hL3.op.mono (show w.heap.size<=g+1+1 by have:=HB.out.size;have:=HG.out;omega))
      clear hU hgr hcall cl hb5 hP3 hL3
      go_wp2_with (fail)
      go_ret2
      rw[HE.out]
      exact⟨HB5.out,_,rfl,fun h=>absurd rfl h,fun _=>⟨a3,c3,S,rfl,HEP.out,HP3.out,HO3.out⟩⟩
    ·have hbz:bookF X c=zItem:=book_other hcc _
     have hlk:=fun (W:World) (h:Below w1.heap.size w1 W)=>(HMA.out.below h HMA.out.lt).look Tryz.underlying112 (zeroItem _) c HCL.out
     rw[hbz] at hlk
     unfold zItem at hlk
     have hlk1:=hlk (w1.alloc (.cells #[.map (some ma)] 112)) ((Below.refl _ w1).alloc (Nat.le_refl _) _)
     have HE:Hid (partsE X c q=150):=Lib.hid (by
      unfold partsE
      rw[if_neg (fun h=>h H0.out),if_neg (fun h=>h HQ.out),if_pos hcc])
     clear hbz hlk hcc
     cases c with
     | nil =>
      go_wp2_with (fail)
      go_at_call 97
      refine (hRight _).mono ?_
      rintro e w9 ⟨rfl,rfl⟩
      go_wp2_with (fail)
      go_ret2
      rw[HE.out]
      exact⟨HB1.out,_,rfl,fun _=>rfl,fun h=>absurd h (by decide)⟩
     | cons c1 c2 =>
      go_wp2_with (fail)
      go_at_call 97
      refine (hRight _).mono ?_
      rintro e w9 ⟨rfl,rfl⟩
      go_wp2_with (fail)
      go_ret2
      rw[HE.out]
      exact⟨HB1.out,_,rfl,fun _=>rfl,fun h=>absurd h (by decide)⟩
   ·have hkf:okA q=false:=by cases h:okA q with | true=>exact absurd h hk | false=>rfl
    have hRight:∀ w,Calls Tryz.prog 97 #[.int .i64 q] w fun e w'=>e = .returned (.bool false)/\w=w':=fun w=>by
     have:=Right_any q w
     rw[hkf] at this
     exact this
    have HE:Hid (partsE X c q=2):=Lib.hid (by
     unfold partsE
     rw[if_neg (fun h=>h H0.out),if_pos (fun h=>hk h.2)])
    clear hq hk hkf
    go_wp2_with (fail)
    go_at_call 97
    refine (hRight _).mono ?_
    rintro e w9 ⟨rfl,rfl⟩
    go_wp2_with (fail)
    go_ret2
    rw[HE.out]
    exact⟨HB1.out,_,rfl,fun _=>rfl,fun h=>absurd h (by decide)⟩
  ·have t1:decide (q < 1)=true:=by simp;omega
   have HE:Hid (partsE X c q=2):=Lib.hid (by
    unfold partsE
    rw[if_neg (fun h=>h H0.out),if_pos (fun h=>hq h.1)])
   clear hq
   go_wp2_with (fail)
   go_ret2
   rw[HE.out]
   exact⟨HB1.out,_,rfl,fun _=>rfl,fun h=>absurd h (by decide)⟩
 ·obtain⟨rfl,rfl⟩:=hnil h0
  have HE:Hid (partsE X c q=chkE X):=Lib.hid (by
   unfold partsE
   rw[if_pos h0])
  obtain⟨r,hr⟩:∃ r,r=chkE X:=⟨_,rfl⟩
  have H0:=Lib.hid h0
  rw[<- hr] at h0 H0 HE ⊢
  have e1:(r != 0)=true:=by simpa using h0
  have e2:(r == 0)=false:=by simpa using h0
  have HB1:Hid (Below w.heap.size w (w1.alloc (.cells #[.map none] 112))):=Lib.hid (HB.out.alloc HB.out.size _)
  clear h0 hr hok
  go_wp2_with (fail)
  go_ret2
  rw[HE.out]
  exact⟨HB1.out,_,rfl,fun _=>rfl,fun h=>absurd h H0.out⟩
end Go.Proofs.YtgplnekpgdhcpaaGreat
namespace Go.Proofs.YtgplnekpgdhcpaaGreat
open Go.RowKit
theorem dayX_spans (L:List LotV) (W:List WantV) (P:List Pt) (lo hi:Int):dayOf (spansL L W P lo hi)=dayX L W P lo hi:=by
 rw[dayOf_spans]
 unfold dayX
 split
 ·rfl
 ·next h =>
  rw[show (min hi 4000+1 - max lo 0).toNat=0 by omega]
  rfl
def partsO (X:List It) (c:List UInt8) (q:Int):Option (List Pt):=if partsE X c q=0 then endL X c q else none
theorem wants_open {X:List It} {l:LineV} (h1:l.st=1) (h2:0<=l.day) (h3:partsE X l.code l.qty=0) {S:List Pt} (h4:endL X l.code l.qty=some S):wantsL (partsO X) l=moreW l.day S:=by
 have e:partsO X l.code l.qty=some S:=by unfold partsO;rw[if_pos h3];exact h4
 unfold wantsL
 rw[if_pos ⟨h1,h2⟩,e]
theorem wants_bad {X:List It} {l:LineV} (h:partsE X l.code l.qty≠0):wantsL (partsO X) l=[]:=by
 have e:partsO X l.code l.qty=none:=by unfold partsO;rw[if_neg h]
 unfold wantsL
 rw[e]
 split <;> rfl
theorem wants_shut {X:List It} {l:LineV} (h:¬ (l.st=1/\0<=l.day)):wantsL (partsO X) l=[]:=by
 unfold wantsL
 rw[if_neg h]
theorem okA_fine {q:Int} (h:okA q=true):-9223372036854775808<=q/\q<=9223372036854775807:=by
 unfold okA at h
 simp only[Bool.and_eq_true,decide_eq_true_eq] at h
 obtain⟨h1,h2⟩:=h
 have h3:q<=1125899906842624:=h2
 omega
theorem ps_fine {X:List It} {S:List Pt} (h:PS X S) (hX:∀ x∈X,x.code.length<=9223372036854775807):∀ p∈S,ptE.ok p:=fun p hp=>by
 have h1:=h.sub p hp
 have h2:=okA_fine (h.up.2 p hp)
 unfold codes at h1
 obtain⟨x,hx,e⟩:=List.mem_map.1 h1
 exact⟨by rw[<- e];exact hX x hx,h2.1,h2.2⟩
theorem more_fine {d:Int} {S:List Pt} (hd:-9223372036854775808<=d/\d<=9223372036854775807) (h:∀ p∈S,ptE.ok p):∀ x∈moreW d S,okWant x:=fun x hx=>by
 unfold moreW at hx
 obtain⟨p,hp,rfl⟩:=List.mem_map.1 hx
 obtain⟨k1,k2,k3⟩:=h p hp
 exact⟨k1,hd,k2,k3⟩
theorem partsO_ps {X:List It} {c:List UInt8} {q:Int} {P:List Pt} (h:partsO X c q=some P):partsE X c q=0/\endL X c q=some P:=by
 unfold partsO at h
 split at h
 ·next h0=>exact⟨h0,h⟩
 ·cases h
end Go.Proofs.YtgplnekpgdhcpaaGreat
namespace Go.Proofs.YtgplnekpgdhcpaaGreat
open Go.RowKit Go.Sort Go.Lib Go.Shelf
theorem idxI_formL {α:Type} (p:α->Bool) (X:List α):idxI p X = -1∨∃ j:Nat,j < X.length/\idxI p X=j:=by
 unfold idxI
 cases h:X.findIdx? p with
 | none=>exact .inl rfl
 | some i=>exact .inr ⟨i,(List.findIdx?_eq_some_iff_getElem.1 h).1,rfl⟩
theorem below_allocL (w:World) (o:Obj):Below w.heap.size w (w.alloc o):=(Below.refl _ w).alloc (Nat.le_refl _) o
theorem filterK_all {α:Type} {p:α->Bool} {X:List α} (h:idxI (fun x=>!p x) X = -1):X.filter p=X:=by
 rw[List.filter_eq_self]
 intro x hx
 cases ha:p x with
 | true=>rfl
 | false =>
  have:0<=idxI (fun x=>!p x) X:=idxI_ge.2 (List.any_eq_true.2 ⟨x,hx,by simp[ha]⟩)
  omega
theorem idxK_start {α:Type} [Inhabited α] {p:α->Bool} {X:List α} {j:Nat} (h:idxI (fun x=>!p x) X=j):KeptInv (fun j=>p (X.toArray[j]!)) X.toArray (j+1) j X.toArray:=by
 unfold idxI at h
 cases hf:X.findIdx? (fun x=>!p x) with
 | none=>rw[hf] at h;simp only at h;omega
 | some i =>
  rw[hf] at h
  simp only at h
  obtain rfl:i=j:=by omega
  obtain⟨hi,hp,hall⟩:=List.findIdx?_eq_some_iff_getElem.1 hf
  refine KeptInv.start (fun k hk=>?_) ?_
  ·have:=hall k hk
   simp only[Bool.not_eq_true',Bool.not_eq_false] at this
   rw[getElem!_pos _ _ (by simpa using Nat.lt_trans hk hi)]
   simpa using this
  ·rw[getElem!_pos _ _ (by simpa using hi)]
   simpa using hp
def lineObj (id:Int) (item:List UInt8) (qty asked rank st day:Int) (code:List UInt8):Obj:=.cells #[.int .i64 id,.string ⟨item.toArray⟩,.int .i64 qty,.int .i64 asked,.int .i64 rank,.int .u8 st,.int .i64 day,.string ⟨code.toArray⟩] 29
theorem lineObj_cells {w:World} {p:Nat} {id:Int} {item:List UInt8} {qty asked rank st day:Int} {code:List UInt8} (h:w.heap[p]? = some (lineObj id item qty asked rank st day code)):w.cell? ⟨p,0,none⟩=some (.int .i64 id)/\w.cell? ⟨p,1,none⟩=some (.string ⟨item.toArray⟩)/\w.cell? ⟨p,2,none⟩=some (.int .i64 qty)/\w.cell? ⟨p,3,none⟩=some (.int .i64 asked)/\w.cell? ⟨p,4,none⟩=some (.int .i64 rank)/\w.cell? ⟨p,5,none⟩=some (.int .u8 st)/\w.cell? ⟨p,6,none⟩=some (.int .i64 day)/\w.cell? ⟨p,7,none⟩=some (.string ⟨code.toArray⟩):=by
 unfold lineObj at h
 refine⟨?_,?_,?_,?_,?_,?_,?_,?_⟩ <;> (unfold World.cell?;rw[h];rfl)
theorem line_own_cells {base g n c:Nat} {w:World} {X:List LineV} (h:lineE.Own base w (.slice (some ⟨g,0,none⟩) n c) X) {i:Nat} (hi:i < n):w.cell? ⟨g,i * 8,none⟩=some (.int .i64 (X.getD i default).id)/\w.cell? ⟨g,i * 8+1,none⟩=some (encStr (X.getD i default).item)/\w.cell? ⟨g,i * 8+2,none⟩=some (.int .i64 (X.getD i default).qty)/\w.cell? ⟨g,i * 8+3,none⟩=some (.int .i64 (X.getD i default).asked)/\w.cell? ⟨g,i * 8+4,none⟩=some (.int .i64 (X.getD i default).rank)/\w.cell? ⟨g,i * 8+5,none⟩=some (.int .u8 (X.getD i default).st)/\w.cell? ⟨g,i * 8+6,none⟩=some (.int .i64 (X.getD i default).day)/\w.cell? ⟨g,i * 8+7,none⟩=some (encStr (X.getD i default).code):=by
 obtain⟨-,-,-,-,-,hc⟩:=h.cell
 exact⟨hc i hi 0 (by decide),hc i hi 1 (by decide),hc i hi 2 (by decide),hc i hi 3 (by decide),hc i hi 4 (by decide),hc i hi 5 (by decide),hc i hi 6 (by decide),hc i hi 7 (by decide)⟩
theorem OnlyB.transL {g:Nat} {w w1 w2:World} (h1:OnlyB g w w1) (h2:OnlyB g w1 w2):OnlyB g w w2:=⟨h2.os.trans h1.os,h2.tape.trans h1.tape,h2.output.trans h1.output,Nat.le_trans h1.size h2.size,fun b hb hbl=>(h2.block b hb (Nat.lt_of_lt_of_le hbl h1.size)).trans (h1.block b hb hbl)⟩
theorem own_take {α:Type} [Inhabited α] {E:El α} {base g n c m:Nat} {w:World} {X Y:List α} (h:E.Own base w (.slice (some ⟨g,0,none⟩) n c) (X ++ Y)) (hm:m=X.length:=by rfl):E.Own base w (.slice (some ⟨g,0,none⟩) m c) X:=by
 subst hm
 obtain⟨h1,⟨h2,-⟩ | ⟨g',cap,cur,hv,hg,hh,hle,hcap,hs,ht⟩⟩:=h
 ·cases h2
 ·injection hv with v1 v2 v3
  injection v1 with v1
  injection v1 with v1
  subst v1
  subst v3
  have e:X.length<=(X ++ Y).length:=by simp
  refine⟨by rw[E.cells_len],.inr ⟨g,c,cur,rfl,hg,hh,Nat.le_trans e hle,hcap,hs,?_⟩⟩
  have h3:(cur.toList.take ((X ++ Y).length * E.k)).take (X.length * E.k)=cur.toList.take (X.length * E.k):=by
   rw[List.take_take,Nat.min_eq_left (Nat.mul_le_mul_right _ e)]
  rw[<- h3,ht,E.cells_append,List.take_left' (E.cells_len X)]
set_option maxRecDepth 100000 in
/-- The clearing of the rest of a row of lines. -/
theorem run_clear_lines {w0 W:World} {g:Nat} {dk d0:Array LineV} (h:SWK encLine 8 w0 g 0 dk W) (R:RowK encLine 8 w0 g 0 d0) (hs:dk.size=d0.size) (i m c ty:Nat) (hm:0 < m) (hi:i+m<=dk.size):(Builtin.clear_ #[24] ty #[.slice (some ⟨g,i * 8,none⟩) m c]).run Tryz.prog W = .ok (.tuple #[]) (W.setCells g (i * 8) ((List.replicate m (default:LineV)).flatMap encLine)):=by
 have hz:(Builtin.zeroCells (Value.cells lineE.z) m).toList=(List.replicate m (default:LineV)).flatMap encLine:=zeroCells_rep (E:=lineE) default m
 have hl:((List.replicate m (default:LineV)).flatMap encLine).length=m * 8:=by have:=lineE.cells_len (List.replicate m (default:LineV));rw[List.length_replicate] at this;exact this
 have hst:=stores_of_holds Tryz.prog (h.holds R.hblk R.hH hs) (i * 8) ((List.replicate m (default:LineV)).flatMap encLine) (by rw[hl,size_flatK,<- Nat.add_mul];exact Nat.mul_le_mul_right 8 hi) (fun v hv=>lineE.cells_one v hv)
 rw[Nat.zero_add] at hst
 have hv:=Tryz.zeroValue29 W
 obtain⟨q,rfl⟩:∃ q,m=q+1:=⟨m - 1,by omega⟩
 have hz2:(zeroValue 29).run Tryz.prog W = .ok lineE.z W:=hv
 simp[Builtin.clear_,run_underlying lineE_under,hz2,hz,hst]
end Go.Proofs.YtgplnekpgdhcpaaGreat
namespace Go.Proofs.YtgplnekpgdhcpaaGreat
open Go.RowKit Go.Sort Go.Lib Go.Shelf
theorem moreW_succ' (d:Int) {P:List Pt} {j:Nat} (hj:j < P.length):moreW d (P.take (j+1))=moreW d (P.take j) ++ [⟨(P.getD j default).1,d,(P.getD j default).2⟩]:=by
 unfold moreW
 rw[List.take_succ_eq_append_getElem hj,List.map_append,List.getD_eq_getElem?_getD,List.getElem?_eq_getElem hj]
 rfl
def WnP (w:World) (V:List WantV) (e:Ending) (w':World):Prop:=(∃ a' c',e = .returned (.slice a' V.length c')/\wantE.Own w.heap.size w' (.slice a' V.length c') V)/\Below w.heap.size w w'
set_option maxHeartbeats 4000000 in
set_option maxRecDepth 100000 in
theorem wants_any (B:Nat) (a:Option Addr) (n cp:Nat) (X:List It) (l:LineV) (w:World) (hr:RI B w a n cp X) (hB:B<=w.heap.size) (hl:okLine l) (hn:X.length<=100000000) :
  Calls Tryz.prog 43 #[.slice a n cp,l.val] w fun e w'=>WnP w (wantsL (partsO X) l) e w'/\(wantsL (partsO X) l).length<=X.length/\∀ x∈wantsL (partsO X) l,okWant x:=by
 have HX:=Lib.hid (fun x hx=>(hr.ok x hx).code)
 have HN:=Lib.hid hn
 obtain⟨id,item,qty,asked,rank,st,day,code⟩:=l
 obtain⟨W1,hW1⟩:∃ V,V=w.alloc (lineObj id item qty asked rank st day code):=⟨_,rfl⟩
 have hb1:Below w.heap.size w W1:=by rw[hW1];exact below_allocL _ _
 have hk1:W1.heap[w.heap.size]? = some (lineObj id item qty asked rank st day code):=by rw[hW1];exact heap_alloc_new _ _
 have hl1:w.heap.size < W1.heap.size:=(Array.getElem?_eq_some_iff.1 hk1).1
 obtain⟨o1,o2,o3,o4,o5,o6,o7,o8⟩:=hl
 have HP:=Lib.hid (Parts_any B a n cp X code qty W1 (hr.below (hb1.mono hB)) (Nat.le_trans hB hb1.size) o8 o3.1 o3.2)
 have HW1:=Lib.hid hW1
 have HB1:=Lib.hid hb1
 have HK:=Lib.hid (fun (V:World) (hb:Below W1.heap.size W1 V)=>lineObj_cells ((hb.block w.heap.size hl1).trans hk1))
 have HD:=Lib.hid o7
 obtain⟨k0,k1,k2,k3,k4,k5,k6,k7⟩:=HK.out W1 (Below.refl _ _)
 have HL1:=Lib.hid hl1
 clear hr hB hn hW1 hb1 hk1 o1 o2 o3 o4 o5 o6 o8 hl1
 generalize hV:wantsL (partsO X) ⟨id,item,qty,asked,rank,st,day,code⟩=V
 have HV:=Lib.hid hV
 clear hV
 unfold lineObj at HW1
 unfold LineV.val encStr
 simp only
 by_cases hs:st=1
 ·subst hs
  by_cases hd:day < 0
  ·have E:=Lib.hid (wants_shut (X:=X) (l:=⟨id,item,qty,asked,rank,1,day,code⟩) (fun h=>by have:=h.2;simp only at this;omega))
   go_enter Tryz.func43,Tryz.ntmps43
   go_upto_region 1 with (fail)
   rw[<- HW1.out]
   go_wp2_with (fail)
   go_ret
   unfold WnP
   rw[<- HV.out,E.out]
   exact⟨⟨⟨_,_,rfl,El.Own.nil _ _ _⟩,HB1.out⟩,Nat.zero_le _,fun x hx=>(by cases hx)⟩
  ·go_enter Tryz.func43,Tryz.ntmps43
   go_upto_region 1 with (fail)
   rw[<- HW1.out]
   go_upto_region 4 with (go_at_call 67;refine HP.out.mono ?_;rintro e wP ⟨hbP,vP,rfl,hne,hoP⟩;have HBP:=Lib.hid hbP;have HNE:=Lib.hid hne;have HOP:=Lib.hid hoP;clear hbP hne hoP)
   by_cases hE:partsE X code qty=0
   ·obtain⟨pa,pc,S,rfl,hend,hPS,hop⟩:=HOP.out hE
    have hfn:=ps_fine hPS HX.out
    obtain⟨pa',pc',e9,hrp⟩:=hop.rp hfn
    injection e9 with e7 e8 e9
    subst e7;subst e9
    have HRP:=Lib.hid hrp
    have hple:=hrp.le;have hpmx:=hrp.mx
    have HSL:Hid (S.length<=100000000):=Lib.hid (by have e1:=hPS.len;have e2:=HN.out;omega)
    have HF2:Hid ((moreW day S).length=S.length/\S.length<=X.length/\∀ x∈moreW day S,okWant x):=Lib.hid ⟨by unfold moreW;rw[List.length_map],hPS.len,more_fine HD.out hfn⟩
    have E:=Lib.hid (wants_open (X:=X) (l:=⟨id,item,qty,asked,rank,1,day,code⟩) rfl (by simp only;omega) hE hend)
    have HKP:=Lib.hid (fun (V:World) (hb:Below wP.heap.size wP V)=>HK.out V (HBP.out.trans (hb.mono HBP.out.size)))
    rw[hE]
    clear hE hop hrp hPS hend HOP HNE k0 k1 k2 k3 k4 k5 k6 k7
    go_wp2_with (fail)
    go_loopw [7,31] (fun s7 s31 wr=>∃ (j:Nat) (va:Option Addr) (vn vc:Nat),s7 = .slice va vn vc/\s31 = .int .i64 j/\j<=S.length/\Hid (wantE.Own wP.heap.size wr (.slice va vn vc) (moreW day (S.take j)))/\Hid (Below wP.heap.size wP wr)) (fun _ s31 _=>S.length - (intOf s31).toNat)
    case atStart=>exact⟨0,none,0,0,rfl,rfl,Nat.zero_le _,Lib.hid (El.Own.nil _ _ _),Lib.hid (Below.refl _ _)⟩
    case round =>
     obtain⟨j,va,vn,vc,rfl,rfl,hj,HO,Hb⟩:=hrel
     by_cases hlt:j < S.length
     ·obtain⟨b,o,rfl,hbb,g0,g1⟩:=(HRP.out.below Hb.out).part hlt
      have Hsucc:=Lib.hid (moreW_succ' day hlt)
      generalize S.getD j default=pt at g0 g1 Hsucc
      obtain⟨pi,pq⟩:=pt
      simp only at g0 g1 Hsucc
      simp only[encStr] at g0
      obtain⟨W3,hW3⟩:∃ V,V=wr.alloc (.cells #[.string ⟨pi.toArray⟩,.int .i64 pq] 74):=⟨_,rfl⟩
      have bW3:Hid (Below wr.heap.size wr W3):=Lib.hid (by rw[hW3];exact below_allocL _ _)
      have z0:W3.cell? ⟨wr.heap.size,0,none⟩=some (.string ⟨pi.toArray⟩):=by rw[hW3];simp
      have z1:W3.cell? ⟨wr.heap.size,1,none⟩=some (.int .i64 pq):=by rw[hW3];simp
      obtain⟨-,-,-,-,-,-,z2,-⟩:=HKP.out W3 (Hb.out.trans (bW3.out.mono Hb.out.size))
      have HW3:=Lib.hid hW3
      have hB3:=Lib.hid (Hb.out.trans (bW3.out.mono Hb.out.size))
      have hOA:Hid (wantE.Own wP.heap.size (W3.alloc (.cells #[.string ⟨pi.toArray⟩,.int .i64 day,.int .i64 pq] 71)) (.slice va vn vc) (moreW day (S.take j))):=Lib.hid ((HO.out.below bW3.out).below (below_allocL _ _))
      have hBA:Hid (Below wP.heap.size wP (W3.alloc (.cells #[.string ⟨pi.toArray⟩,.int .i64 day,.int .i64 pq] 71))):=Lib.hid (hB3.out.trans ((below_allocL _ _).mono hB3.out.size))
      have hVN:Hid (vn=(moreW day (S.take j)).length/\vn<=100000000):=Lib.hid (by
       obtain⟨a9,c9,e9,-⟩:=HO.out.form
       injection e9 with e1 e2 e3
       refine⟨e2,?_⟩
       rw[e2]
       unfold moreW
       rw[List.length_map,List.length_take]
       have:=HSL.out
       omega)
      clear hW3
      go_upto_region 10 with (fail)
      rw[<- HW3.out]
      go_wp2_with (at_builtin;refine El.wpList_append1 wantE rfl _ _ rfl wP.heap.size (.slice va vn vc) (moreW day (S.take j)) ⟨pi,day,pq⟩ (vn+1) (by rw[<- hVN.out.1]) rfl hOA.out _ 1 rfl (wantE_lit _ ⟨pi,day,pq⟩ _) hBA.out.size (by have:=hVN.out;omega) ?_;intro g9 c9 w9 hown9 hg9 hgg9;have O9:Hid (wantE.Own wP.heap.size w9 (.slice (some ⟨g9,0,none⟩) (vn+1) c9) (moreW day (S.take (j+1)))):=Lib.hid (by rw[Hsucc.out];exact hown9);have B9:=Lib.hid (hBA.out.grown hg9 hBA.out.size (fun k e=>(hOA.out.ge k e).1));clear hown9 hg9 hgg9)
      go_roundw
      case rel=>exact⟨j+1,some ⟨g9,0,none⟩,vn+1,c9,by go_num,by go_num,by omega,O9,B9⟩
      case measure=>simp[intOf];omega
     ·have hjs:S.length=j:=by omega
      have hO:=HO.out
      rw[List.take_of_length_le (by omega)] at hO
      have HO2:=Lib.hid hO
      have hge:¬ (j:Int) < (S.length:Int):=by omega
      have HVN:Hid (vn=(moreW day S).length):=Lib.hid (by
       obtain⟨a9,c9,e9,-⟩:=hO.form
       injection e9 with e1 e2 e3)
      clear hO hjs HO
      go_wp2_with (fail)
      go_ret
      unfold WnP
      rw[<- HV.out,E.out]
      simp only
      have h:=HO2.out
      rw[HVN.out] at h ⊢
      exact⟨⟨⟨_,_,rfl,h.mono (Nat.le_trans HB1.out.size HBP.out.size)⟩,HB1.out.trans ((HBP.out.trans (Hb.out.mono HBP.out.size)).mono HB1.out.size)⟩,by rw[HF2.out.1];exact HF2.out.2.1,HF2.out.2.2⟩
   ·have hv:=HNE.out hE
    subst hv
    have E:=Lib.hid (wants_bad (X:=X) (l:=⟨id,item,qty,asked,rank,1,day,code⟩) hE)
    clear HOP HNE
    generalize partsE X code qty=er at hE
    go_wp2_with (fail)
    go_ret
    unfold WnP
    rw[<- HV.out,E.out]
    exact⟨⟨⟨_,_,rfl,El.Own.nil _ _ _⟩,HB1.out.trans (HBP.out.mono HB1.out.size)⟩,Nat.zero_le _,fun x hx=>(by cases hx)⟩
 ·have E:=Lib.hid (wants_shut (X:=X) (l:=⟨id,item,qty,asked,rank,st,day,code⟩) (fun h=>hs h.1))
  go_enter Tryz.func43,Tryz.ntmps43
  go_upto_region 1 with (fail)
  rw[<- HW1.out]
  go_wp2_with (fail)
  go_ret
  unfold WnP
  rw[<- HV.out,E.out]
  exact⟨⟨⟨_,_,rfl,El.Own.nil _ _ _⟩,HB1.out⟩,Nat.zero_le _,fun x hx=>(by cases hx)⟩
theorem now_any (now nl nx:Int) (v1 v2 v3:Value) (w:World):Calls Tryz.prog 34 #[.agg #[.int .i64 now,.int .i64 nl,.int .i64 nx,v1,v2,v3]] w fun e w'=>e = .returned (.bool (nowOk now))/\Below w.heap.size w w':=by
 have HB:=Lib.hid (fun o=>below_allocL w o)
 by_cases h1:0<=now
 ·by_cases h2:now<=4000
  ·have E:=Lib.hid (show nowOk now=true by unfold nowOk;simp[h1,h2])
   go_enter Tryz.func34,Tryz.ntmps34
   go_wp2_with (fail)
   go_ret
   exact⟨by rw[E.out];first | rfl | simp,HB.out _⟩
  ·have E:=Lib.hid (show nowOk now=false by unfold nowOk;simp[h2])
   go_enter Tryz.func34,Tryz.ntmps34
   go_wp2_with (fail)
   go_ret
   exact⟨by rw[E.out];first | rfl | simp,HB.out _⟩
 ·have E:=Lib.hid (show nowOk now=false by unfold nowOk;simp[h1])
  go_enter Tryz.func34,Tryz.ntmps34
  go_wp2_with (fail)
  go_ret
  exact⟨by rw[E.out];first | rfl | simp,HB.out _⟩
end Go.Proofs.YtgplnekpgdhcpaaGreat
namespace Go.Proofs.YtgplnekpgdhcpaaGreat
open Go.RowKit Go.Sort Go.Lib Go.Shelf
theorem wpList_appendN {α:Type} [Inhabited α] {w:World} {ops:Array Oper} {rest:List Oper} {o:Oper} {a:Act} {K:Exit->Act->World->Prop} (E:El α) (hgd:o.guard=none) (s x:Operand)
  (ho:o.op = .call { callee:=.builtin .append,args:=#[s,x],argTypes:=#[E.t,E.t] }) (base:Nat) (va:Option Addr) (vn vc:Nat) (X Y:List α) (k:Nat) (hk:k=Y.length) (hn:vn=X.length) (hs:a.eval s = .slice va vn vc) (h:E.Own base w (.slice va vn vc) X) (sa:Option Addr) (c:Nat)
  (hx:a.eval x = .slice sa k c) (hsrc:0 < Y.length->∃ ad,sa=some ad/\∀ j u,(E.cells Y)[j]? = some u->w.cell? (ad.add j)=some u) (hbase:base<=w.heap.size) (hl:vn+k<=1000000000)
  (hK:∀ a' c' w',E.Own base w' (.slice a' (vn+k) c') (X ++ Y)->Below base w w'->wpList Tryz.prog ops K rest (a.put o.dst (.slice a' (vn+k) c')) w'):wpList Tryz.prog ops K (o :: rest) a w:=by
 subst hk
 subst hn
 by_cases h0:Y.length=0
 ·obtain rfl:Y=[]:=List.eq_nil_of_length_eq_zero h0
  obtain⟨i0,hi,-⟩:=E.info'
  have hle:X.length<=vc:=by
   obtain⟨a1,c1,e1,h1,-⟩:=h.form
   injection e1 with e1 e2 e3
   rw[e3];exact h1
  have hr:=run_append_nothing (P:=Tryz.prog) w E.t o.type E.e i0 E.under hi va sa X.length vc c hle
  refine wpList_plain hgd fun K' hK'=>?_
  unfold Oper.wp execOp
  simp only[List.length_nil] at hx
  simp only[ho,resolve,invoke,builtin,Sem.run_bind,Sem.run_pure,Result.andThen_ok,List.map_toArray,List.map_cons,List.map_nil,hs,hx,hr]
  exact hK' _ _ (hK va vc w (by simpa using h) (Below.refl _ _))
 ·obtain⟨g,cap,w',hr,h1,h2,h3,h4⟩:=El.run_append h o.type sa c (hsrc (by omega)) (by omega) hbase hl
  refine wpList_plain hgd fun K' hK'=>?_
  unfold Oper.wp execOp
  simp only[ho,resolve,invoke,builtin,Sem.run_bind,Sem.run_pure,Result.andThen_ok,List.map_toArray,List.map_cons,List.map_nil,hs,hx,hr]
  exact hK' _ _ (hK _ cap w' h1 ((Below.refl _ w).grown h3 hbase (fun k e=>(h.ge k e).1)))
theorem wantsN_succ {p:List UInt8->Int->Option (List (List UInt8×Int))} {N:List LineV} {j:Nat} (hj:j < N.length):wantsN p (N.take (j+1))=wantsN p (N.take j) ++ wantsL p (N.getD j default):=by
 unfold wantsN
 rw[List.take_succ_eq_append_getElem hj,List.flatMap_append,List.getD_eq_getElem?_getD,List.getElem?_eq_getElem hj]
 simp
set_option maxHeartbeats 4000000 in
set_option maxRecDepth 100000 in
theorem Wants_any (B:Nat) (a:Option Addr) (n cp:Nat) (X:List It) (a3:Option Addr) (n3 c3:Nat) (N:List LineV) (w:World) (hr:RI B w a n cp X) (hN:lineE.In B w a3 n3 c3 N) (hB:B<=w.heap.size) (hn:X.length<=10000) (hn3:N.length<=10000) :
  Calls Tryz.prog 14 #[.slice a n cp,.slice a3 n3 c3] w fun e w'=>WnP w (wantsN (partsO X) N) e w'/\(wantsN (partsO X) N).length<=N.length * X.length/\∀ x∈wantsN (partsO X) N,okWant x:=by
 have HX:=Lib.hid hr
 have HN:=Lib.hid hN
 have hle:=hN.le;have hmx:=hN.mx
 have Hln:=Lib.hid hN.len
 have HM:=Lib.hid hn
 have HM3:=Lib.hid hn3
 generalize hV:wantsN (partsO X) N=V
 have HV:=Lib.hid hV
 clear hr hN hn hn3 hV
 go_enter Tryz.func14,Tryz.ntmps14
 go_wp2_with (fail)
 go_loopw [5,10] (fun s5 s10 wr=>∃ (j:Nat) (va:Option Addr) (vn vc:Nat),s5 = .slice va vn vc/\s10 = .int .i64 j/\j<=n3/\Hid (vn=(wantsN (partsO X) (N.take j)).length)/\Hid (wantE.Own w.heap.size wr (.slice va vn vc) (wantsN (partsO X) (N.take j))/\(wantsN (partsO X) (N.take j)).length<=j * X.length/\∀ x∈wantsN (partsO X) (N.take j),okWant x)/\Hid (Below w.heap.size w wr)) (fun _ s10 _=>n3 - (intOf s10).toNat)
 case atStart=>exact⟨0,none,0,0,rfl,rfl,Nat.zero_le _,Lib.hid rfl,Lib.hid ⟨El.Own.nil _ _ _,Nat.zero_le _,fun x hx=>(by cases hx)⟩,Lib.hid (Below.refl _ _)⟩
 case round =>
  obtain⟨j,va,vn,vc,rfl,rfl,hj,HL,HO,Hb⟩:=hrel
  by_cases hlt:j < n3
  ·obtain⟨b,o,rfl,hbB,hc⟩:=lineE_at (HN.out.below (Hb.out.mono hB)) (by omega)
   obtain⟨g0,g1,g2,g3,g4,g5,g6,g7⟩:=hc j hlt
   have hok:=HN.out.ok_at hlt
   have Hsucc:=Lib.hid (wantsN_succ (p:=partsO X) (N:=N) (j:=j) (by have:=Hln.out;omega))
   clear hc
   generalize N.getD j default=l at g0 g1 g2 g3 g4 g5 g6 g7 hok Hsucc
   have hW:=fun (V:World) (hb:Below w.heap.size w V)=>wants_any B a n cp X l V (HX.out.below (hb.mono hB)) (Nat.le_trans hB hb.size) hok (by have:=HM.out;omega)
   obtain⟨id,item,qty,asked,rank,st,day,code⟩:=l
   simp only at g0 g1 g2 g3 g4 g5 g6 g7
   simp only[encStr] at g1 g7
   unfold LineV.val encStr at hW
   simp only at hW
   obtain⟨W1,hW1⟩:∃ V,V=wr.alloc (lineObj id item qty asked rank st day code):=⟨_,rfl⟩
   have hb1:Below wr.heap.size wr W1:=by rw[hW1];exact below_allocL _ _
   have hk1:W1.heap[wr.heap.size]? = some (lineObj id item qty asked rank st day code):=by rw[hW1];exact heap_alloc_new _ _
   obtain⟨k0,k1,k2,k3,k4,k5,k6,k7⟩:=lineObj_cells hk1
   have HB1:=Lib.hid (Hb.out.trans (hb1.mono Hb.out.size))
   have HW:=Lib.hid (hW W1 HB1.out)
   have HO1:=Lib.hid (HO.out.1.below hb1)
   have HF:=Lib.hid HO.out.2
   have HW1:=Lib.hid hW1
   unfold lineObj at HW1
   clear hW hW1 hb1 hk1 hok HO Hb
   generalize hQ:wantsN (partsO X) (N.take j)=Q at HL HO1 HF Hsucc
   generalize hY:wantsL (partsO X) ⟨id,item,qty,asked,rank,st,day,code⟩=Y at HW Hsucc
   clear hQ hY
   obtain⟨k,hk⟩:∃ k,k=Y.length:=⟨_,rfl⟩
   unfold WnP at HW
   rw[<- hk] at HW
   have HKY:=Lib.hid hk
   have HT:Hid (k<=X.length->vn+k<=1000000000):=Lib.hid (fun hk=>by
    have h1:=HF.out.1
    have h2:=HL.out
    have h3:=HM.out
    have h4:=HM3.out
    have h5:=Hln.out
    have h6:j * X.length<=10000 * 10000:=Nat.mul_le_mul (by omega) (by omega)
    omega)
   clear hk
   go_upto_region 5 with (fail)
   rw[<- HW1.out]
   go_wp2_with (first | (go_at_call 43;refine HW.out.mono ?_;rintro e w2 ⟨⟨⟨a2,c2,rfl,ho2⟩,hb2⟩,hl2,hf2⟩;have B2:=Lib.hid (HB1.out.trans (hb2.mono HB1.out.size));have O1:=Lib.hid (HO1.out.below hb2);have OY:=Lib.hid ho2;have FY:Hid (k<=X.length/\∀ x∈Y,okWant x):=Lib.hid ⟨hl2,hf2⟩;clear ho2 hb2 hl2 hf2) | (at_builtin;refine wpList_appendN wantE rfl _ _ rfl w.heap.size va vn vc Q Y k HKY.out HL.out rfl O1.out a2 c2 rfl (fun _=>(by obtain⟨a7,c7,e7,h7⟩:=OY.out.in_ FY.out.2;rw[HKY.out] at OY;injection e7 with e8 e9 e10;subst e8;exact h7.src (by omega))) B2.out.size (HT.out FY.out.1) ?_;intro a3 c3 w3 ho3 hb3;have B3:=Lib.hid (B2.out.trans hb3);have O3:=Lib.hid ho3;clear ho3 hb3))
   go_roundw
   case rel =>
    refine⟨j+1,a3,vn+k,c3,by go_num,by go_num,by omega,?_,?_,B3⟩
    ·rw[Hsucc.out];exact Lib.hid (by rw[List.length_append,<- HL.out,<- HKY.out])
    ·rw[Hsucc.out]
     exact Lib.hid ⟨O3.out,by rw[List.length_append,<- HKY.out,Nat.add_mul,Nat.one_mul];have:=HF.out.1;have:=FY.out.1;omega,fun x hx=>(List.mem_append.1 hx).elim (HF.out.2 x) (FY.out.2 x)⟩
   case measure=>simp[intOf];omega
  ·have ej:j=N.length:=by have:=Hln.out;omega
   have HE:=Lib.hid ej
   clear ej
   go_wp2_with (fail)
   go_ret
   have h:=HO.out
   have hl:=HL.out
   rw[HE.out,List.take_length,HV.out] at h hl
   refine⟨⟨⟨va,vc,by rw[hl];rfl,by rw[<- hl];exact h.1⟩,Hb.out⟩,h.2.1,h.2.2⟩
end Go.Proofs.YtgplnekpgdhcpaaGreat
