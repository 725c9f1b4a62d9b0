/- What is in so many of an item in the end, by the program. What is promised, said of items in memory. (Plain.) slices.DeleteFunc at lines: what is common to its uses. (Printed by gen/delk.py.) -/
import Derived.Test.YtgplnekpgdhcpaaGreatKPut
import Derived.Test.YtgplnekpgdhcpaaGreatQIdxItem
import Derived.Test.YtgplnekpgdhcpaaGreatQLineOk
import Derived.Test.YtgplnekpgdhcpaaGreatQMeet
import Derived.Test.YtgplnekpgdhcpaaGreatKRight
import Derived.Test.YtgplnekpgdhcpaaGreatQLine
namespace Go.Proofs.YtgplnekpgdhcpaaGreat
open Go.RowKit
def endL (X:List It) (c:List UInt8) (q:Int):Option (List Pt):=putL X 8 [] c q
def partsE (X:List It) (c:List UInt8) (q:Int):Int:=if chkE X≠0 then chkE X else if ¬ (1<=q/\okA q=true) then 2 else if c ∉ codes X then 150 else match endL X c q with | none=>3 | some _=>0
theorem Sound.hgt8 {X:List It} (h:Sound X) {c:List UInt8} (hc:c∈codes X):hgt (kidsX X) 8 c=some (tellX X c):=by
 have h1:=h.rnd c hc
 have h2:=h.dp c hc
 unfold tellX at h1 h2 ⊢
 cases hh:hgt (kidsX X) X.length c with
 | none=>rw[hh] at h1;exact absurd rfl h1
 | some d =>
  rw[hh] at h2
  exact hgt_mono h2 (hgt_fuel _ _ _ hh)
def putF (g:Nat):Value:=.func (.func 98) #[] #[.pointer (some ⟨g,0,none⟩),.pointer (some ⟨g+1,0,none⟩),.pointer (some ⟨g+1+1,0,none⟩)]
def putW (w:World) (ma:Nat) (tf:TypeId):World:=((w.alloc (.cells #[.map (some ma)] 112)).alloc (.cells #[.slice none 0 0] 64)).alloc (.cells #[putF w.heap.size] tf)
theorem put_start (tf:TypeId) {B ma n:Nat} {X:List It} {w:World} (hall:MF w ma n zItem (bookF X)) (hok:∀ x∈X,ItOk B w x) (hB:B<=w.heap.size) :
  LP (putW w ma tf) w.heap.size (w.heap.size+1) w.heap.size (w.heap.size+1+1) ma n (putF w.heap.size) X none 0 []/\Below w.heap.size w (putW w ma tf)/\(putW w ma tf).heap.size=w.heap.size+3:=by
 obtain⟨g,hg⟩:∃ g,g=w.heap.size:=⟨_,rfl⟩
 have hma:=hall.lt
 unfold putW
 rw[<- hg]
 obtain⟨W1,h1⟩:∃ W,W=w.alloc (.cells #[.map (some ma)] 112):=⟨_,rfl⟩
 have s1:W1.heap.size=g+1:=by rw[h1,World.size_alloc,hg]
 have a1:W1.heap[g]? = some (.cells #[.map (some ma)] 112):=by rw[h1,hg];exact heap_alloc_new _ _
 have b1:Below g w W1:=by rw[h1,hg];exact (Below.refl _ w).alloc (Nat.le_refl _) _
 rw[<- h1]
 obtain⟨W2,h2⟩:∃ W,W=W1.alloc (.cells #[.slice none 0 0] 64):=⟨_,rfl⟩
 have s2:W2.heap.size=g+1+1:=by rw[h2,World.size_alloc,s1]
 have a2:W2.heap[g+1]? = some (.cells #[.slice none 0 0] 64):=by rw[h2,<- s1];exact heap_alloc_new _ _
 have k2:∀ k,k < g+1->W2.heap[k]? = W1.heap[k]?:=fun k hk=>by rw[h2];exact al_old _ _ (by rw[s1];exact hk)
 have b2:Below g w W2:=b1.trans (by rw[h2];exact (Below.refl _ _).alloc (by rw[s1];omega) _)
 rw[<- h2]
 obtain⟨W4,h4⟩:∃ W,W=W2.alloc (.cells #[putF g] tf):=⟨_,rfl⟩
 have s4:W4.heap.size=g+3:=by rw[h4,World.size_alloc,s2]
 have a4:W4.heap[g+1+1]? = some (.cells #[putF g] tf):=by rw[h4,<- s2];exact heap_alloc_new _ _
 have k4:∀ k,k < g+1+1->W4.heap[k]? = W2.heap[k]?:=fun k hk=>by rw[h4];exact al_old _ _ (by rw[s2];exact hk)
 have b4:Below g w W4:=b2.trans (by rw[h4];exact (Below.refl _ _).alloc (by rw[s2];omega) _)
 rw[<- h4]
 have b4':Below w.heap.size w W4:=hg ▸ b4
 have f4:W4.heap[g+1]? = some (.cells #[.slice none 0 0] 64):=(k4 _ (by omega)).trans a2
 refine⟨⟨one_at f4,by unfold World.frozen?;rw[f4];simp,OP.nil _ _,one_at ((k4 _ (by omega)).trans ((k2 _ (by omega)).trans a1)),one_at a4,hall.below b4' hma,fun x hx=>((hok x hx).below (b4'.mono hB)).mono (by rw[hg];exact hB),by omega,by omega,by omega,by omega,by omega,by omega,by omega⟩,b4,s4⟩
set_option maxHeartbeats 4000000 in
set_option maxRecDepth 100000 in
theorem Parts_any (B:Nat) (a:Option Addr) (n cp:Nat) (X:List It) (c:List UInt8) (q:Int) (w:World) (hr:RI B w a n cp X) (hB:B<=w.heap.size) (hc:c.length<=9223372036854775807) (hq1:-9223372036854775808<=q) (hq2:q<=9223372036854775807) :
  Calls Tryz.prog 67 #[.slice a n cp,.string ⟨c.toArray⟩,.int .i64 q] w fun e w'=>Below w.heap.size w w'/\∃ v,e = .returned (.tuple #[v,.int .i64 (partsE X c q)])/\(partsE X c q≠0->v = .slice none 0 0)/\(partsE X c q=0->∃ a c' S,v = .slice a S.length c'/\endL X c q=some S/\PS X S/\OP w.heap.size w' v S):=by
 have HC:=Lib.hid (check_any B a n cp X w hr hB)
 have HCL:=Lib.hid hc
 have HR:=Lib.hid (hr.mono hB)
 have hsf:∀ (a:Addr) (f:Fn) (x y:Array Value) (W:World),(store a (.func f x y)).run Tryz.prog W=stored Tryz.prog W a (.func f x y) .plain:=fun a f x y W=>run_store Tryz.prog W a _ _ rfl
 have hfc:=field_code
 clear hr hc
 go_enter Tryz.func67,Tryz.ntmps67
 go_wp2_with (fail)
 go_at_call 85
 refine HC.out.mono ?_
 rintro e w1 ⟨hb,am,dm,rfl,hnil,hok⟩
 have HB:=Lib.hid hb
 clear hb
 by_cases h0:chkE X=0
 ·obtain⟨ma,mo,N,o,rfl,rfl,hma,-,-,-,-,-⟩:=hok h0
  have HS:=Lib.hid (sound_of h0)
  have HMA:=Lib.hid hma
  have H0:=Lib.hid h0
  have HB1:Hid (Below w.heap.size w (w1.alloc (.cells #[.map (some ma)] 112))):=Lib.hid (HB.out.alloc HB.out.size _)
  rw[h0]
  clear h0 hok hma hnil
  by_cases hq:1<=q
  ·have t1:decide (q < 1)=false:=by simp;omega
   by_cases hk:okA q=true
   ·have hRight:∀ w,Calls Tryz.prog 97 #[.int .i64 q] w fun e w'=>e = .returned (.bool true)/\w=w':=fun w=>by
     have:=Right_any q w
     rw[hk] at this
     exact this
    have HQ:=Lib.hid (And.intro hq hk)
    clear hq hk
    by_cases hcc:c∈codes X
    ·have HCC:=Lib.hid hcc
     have HE:Hid (partsE X c q=match endL X c q with | none=>3 | some _=>0):=Lib.hid (by
      unfold partsE
      rw[if_neg (fun h=>h H0.out),if_neg (fun h=>h HQ.out),if_neg (fun h=>h HCC.out)])
     obtain⟨x,hx,hxm,hxc⟩:=itF_some hcc
     have hne:=HS.out.ne x hxm
     have hlk:=fun (W:World) (h:Below w1.heap.size w1 W)=>(HMA.out.below h HMA.out.lt).look Tryz.underlying112 (zeroItem _) c HCL.out
     rw[book_at HS.out.nd hx] at hlk
     unfold It.val at hlk
     rw[hxc] at hlk
     have hlk1:=hlk (w1.alloc (.cells #[.map (some ma)] 112)) ((Below.refl _ w1).alloc (Nat.le_refl _) _)
     unfold encStr at hlk1
     rw[hxc] at hne
     obtain⟨c1,c2,hcu⟩:∃ u v,c=u :: v:=by
      cases c with
      | nil=>exact absurd rfl hne
      | cons u v=>exact⟨u,v,rfl⟩
     clear hcc hx hxm hxc hlk hne
     subst hcu
     obtain⟨hL0,hb0,hs0⟩:=put_start 125 HMA.out (HR.out.below HB.out).ok HB.out.size
     obtain⟨W4,hW4⟩:∃ W,W=putW w1 ma 125:=⟨_,rfl⟩
     have hW4':=hW4
     unfold putW putF at hW4'
     rw[<- hW4] at hL0 hb0 hs0
     have HL0:=Lib.hid hL0
     have HB0:=Lib.hid hb0
     have HS0:=Lib.hid hs0
     have HW4:=Lib.hid hW4'
     clear hL0 hb0 hs0 hW4 hW4'
     go_wp2_with (fail)
     go_at_call 97
     refine (hRight _).mono ?_
     rintro e w9 ⟨rfl,rfl⟩
     go_upto_region 11 with (fail)
     rw[<- HW4.out]
     obtain⟨g,hg⟩:∃ g,g=w1.heap.size:=⟨_,rfl⟩
     rw[<- hg] at HL0 HB0 HS0 ⊢
     have HG:=Lib.hid hg
     clear hg HW4 hlk1
     have cl:=HL0.out.cl
     unfold putF at cl
     have hcall:=Lib.hid (put_any g (g+1) g (g+1+1) ma n (putF g) X rfl HS.out 8 [] none 0 (c1 :: c2) q W4 HL0.out (ps_of HS.out ⟨List.Pairwise.nil,fun p hp=>by cases hp⟩ (fun p hp=>by cases hp)) HCC.out ⟨_,HS.out.hgt8 HCC.out⟩ hq1 hq2)
     go_wp2_with (fail)
     go_at_call 98
     refine hcall.out.mono ?_
     rintro e w5 ⟨hgr,hpost⟩
     have hb5:Below w.heap.size w w5:=HB.out.trans ((HG.out ▸ (HB0.out.grown hgr (by have:=HS0.out;omega) (fun k e=>by have:=Option.some.inj e;omega)):Below w1.heap.size w1 w5).mono HB.out.size)
     have HB5:=Lib.hid hb5
     have HEP:Hid (endL X (c1 :: c2) q=putL X 8 [] (c1 :: c2) q):=Lib.hid rfl
     cases hU:putL X 8 [] (c1 :: c2) q with
     | none =>
      rw[hU] at hpost HEP
      rw[HEP.out] at HE
      obtain rfl:=hpost
      clear hU hgr hcall cl hb5
      go_wp2_with (fail)
      go_ret2
      rw[HE.out]
      exact⟨HB5.out,_,rfl,fun _=>rfl,fun h=>absurd h (by decide)⟩
     | some S =>
      rw[hU] at hpost HEP
      rw[HEP.out] at HE
      obtain⟨rfl,hP3,a3,c3,hL3⟩:=hpost
      have ce3:=hL3.ce
      have HP3:=Lib.hid hP3
      have HO3:=Lib.hid (hL3.op.mono (show w.heap.size<=g+1+1 by have:=HB.out.size;have:=HG.out;omega))
      clear hU hgr hcall cl hb5 hP3 hL3
      go_wp2_with (fail)
      go_ret2
      rw[HE.out]
      exact⟨HB5.out,_,rfl,fun h=>absurd rfl h,fun _=>⟨a3,c3,S,rfl,HEP.out,HP3.out,HO3.out⟩⟩
    ·have hbz:bookF X c=zItem:=book_other hcc _
     have hlk:=fun (W:World) (h:Below w1.heap.size w1 W)=>(HMA.out.below h HMA.out.lt).look Tryz.underlying112 (zeroItem _) c HCL.out
     rw[hbz] at hlk
     unfold zItem at hlk
     have hlk1:=hlk (w1.alloc (.cells #[.map (some ma)] 112)) ((Below.refl _ w1).alloc (Nat.le_refl _) _)
     have HE:Hid (partsE X c q=150):=Lib.hid (by
      unfold partsE
      rw[if_neg (fun h=>h H0.out),if_neg (fun h=>h HQ.out),if_pos hcc])
     clear hbz hlk hcc
     cases c with
     | nil =>
      go_wp2_with (fail)
      go_at_call 97
      refine (hRight _).mono ?_
      rintro e w9 ⟨rfl,rfl⟩
      go_wp2_with (fail)
      go_ret2
      rw[HE.out]
      exact⟨HB1.out,_,rfl,fun _=>rfl,fun h=>absurd h (by decide)⟩
     | cons c1 c2 =>
      go_wp2_with (fail)
      go_at_call 97
      refine (hRight _).mono ?_
      rintro e w9 ⟨rfl,rfl⟩
      go_wp2_with (fail)
      go_ret2
      rw[HE.out]
      exact⟨HB1.out,_,rfl,fun _=>rfl,fun h=>absurd h (by decide)⟩
   ·have hkf:okA q=false:=by cases h:okA q with | true=>exact absurd h hk | false=>rfl
    have hRight:∀ w,Calls Tryz.prog 97 #[.int .i64 q] w fun e w'=>e = .returned (.bool false)/\w=w':=fun w=>by
     have:=Right_any q w
     rw[hkf] at this
     exact this
    have HE:Hid (partsE X c q=2):=Lib.hid (by
     unfold partsE
     rw[if_neg (fun h=>h H0.out),if_pos (fun h=>hk h.2)])
    clear hq hk hkf
    go_wp2_with (fail)
    go_at_call 97
    refine (hRight _).mono ?_
    rintro e w9 ⟨rfl,rfl⟩
    go_wp2_with (fail)
    go_ret2
    rw[HE.out]
    exact⟨HB1.out,_,rfl,fun _=>rfl,fun h=>absurd h (by decide)⟩
  ·have t1:decide (q < 1)=true:=by simp;omega
   have HE:Hid (partsE X c q=2):=Lib.hid (by
    unfold partsE
    rw[if_neg (fun h=>h H0.out),if_pos (fun h=>hq h.1)])
   clear hq
   go_wp2_with (fail)
   go_ret2
   rw[HE.out]
   exact⟨HB1.out,_,rfl,fun _=>rfl,fun h=>absurd h (by decide)⟩
 ·obtain⟨rfl,rfl⟩:=hnil h0
  have HE:Hid (partsE X c q=chkE X):=Lib.hid (by
   unfold partsE
   rw[if_pos h0])
  obtain⟨r,hr⟩:∃ r,r=chkE X:=⟨_,rfl⟩
  have H0:=Lib.hid h0
  rw[<- hr] at h0 H0 HE ⊢
  have e1:(r != 0)=true:=by simpa using h0
  have e2:(r == 0)=false:=by simpa using h0
  have HB1:Hid (Below w.heap.size w (w1.alloc (.cells #[.map none] 112))):=Lib.hid (HB.out.alloc HB.out.size _)
  clear h0 hr hok
  go_wp2_with (fail)
  go_ret2
  rw[HE.out]
  exact⟨HB1.out,_,rfl,fun _=>rfl,fun h=>absurd h H0.out⟩
end Go.Proofs.YtgplnekpgdhcpaaGreat
namespace Go.Proofs.YtgplnekpgdhcpaaGreat
open Go.RowKit
theorem dayX_spans (L:List LotV) (W:List WantV) (P:List Pt) (lo hi:Int):dayOf (spansL L W P lo hi)=dayX L W P lo hi:=by
 rw[dayOf_spans]
 unfold dayX
 split
 ·rfl
 ·next h =>
  rw[show (min hi 4000+1 - max lo 0).toNat=0 by omega]
  rfl
def partsO (X:List It) (c:List UInt8) (q:Int):Option (List Pt):=if partsE X c q=0 then endL X c q else none
theorem wants_open {X:List It} {l:LineV} (h1:l.st=1) (h2:0<=l.day) (h3:partsE X l.code l.qty=0) {S:List Pt} (h4:endL X l.code l.qty=some S):wantsL (partsO X) l=moreW l.day S:=by
 have e:partsO X l.code l.qty=some S:=by unfold partsO;rw[if_pos h3];exact h4
 unfold wantsL
 rw[if_pos ⟨h1,h2⟩,e]
theorem wants_bad {X:List It} {l:LineV} (h:partsE X l.code l.qty≠0):wantsL (partsO X) l=[]:=by
 have e:partsO X l.code l.qty=none:=by unfold partsO;rw[if_neg h]
 unfold wantsL
 rw[e]
 split <;> rfl
theorem wants_shut {X:List It} {l:LineV} (h:¬ (l.st=1/\0<=l.day)):wantsL (partsO X) l=[]:=by
 unfold wantsL
 rw[if_neg h]
theorem okA_fine {q:Int} (h:okA q=true):-9223372036854775808<=q/\q<=9223372036854775807:=by
 unfold okA at h
 simp only[Bool.and_eq_true,decide_eq_true_eq] at h
 obtain⟨h1,h2⟩:=h
 have h3:q<=1125899906842624:=h2
 omega
theorem ps_fine {X:List It} {S:List Pt} (h:PS X S) (hX:∀ x∈X,x.code.length<=9223372036854775807):∀ p∈S,ptE.ok p:=fun p hp=>by
 have h1:=h.sub p hp
 have h2:=okA_fine (h.up.2 p hp)
 unfold codes at h1
 obtain⟨x,hx,e⟩:=List.mem_map.1 h1
 exact⟨by rw[<- e];exact hX x hx,h2.1,h2.2⟩
theorem more_fine {d:Int} {S:List Pt} (hd:-9223372036854775808<=d/\d<=9223372036854775807) (h:∀ p∈S,ptE.ok p):∀ x∈moreW d S,okWant x:=fun x hx=>by
 unfold moreW at hx
 obtain⟨p,hp,rfl⟩:=List.mem_map.1 hx
 obtain⟨k1,k2,k3⟩:=h p hp
 exact⟨k1,hd,k2,k3⟩
theorem partsO_ps {X:List It} {c:List UInt8} {q:Int} {P:List Pt} (h:partsO X c q=some P):partsE X c q=0/\endL X c q=some P:=by
 unfold partsO at h
 split at h
 ·next h0=>exact⟨h0,h⟩
 ·cases h
end Go.Proofs.YtgplnekpgdhcpaaGreat
namespace Go.Proofs.YtgplnekpgdhcpaaGreat
open Go.RowKit Go.Sort Go.Lib Go.Shelf
theorem idxI_formL {α:Type} (p:α->Bool) (X:List α):idxI p X = -1∨∃ j:Nat,j < X.length/\idxI p X=j:=by
 unfold idxI
 cases h:X.findIdx? p with
 | none=>exact .inl rfl
 | some i=>exact .inr ⟨i,(List.findIdx?_eq_some_iff_getElem.1 h).1,rfl⟩
theorem below_allocL (w:World) (o:Obj):Below w.heap.size w (w.alloc o):=(Below.refl _ w).alloc (Nat.le_refl _) o
theorem filterK_all {α:Type} {p:α->Bool} {X:List α} (h:idxI (fun x=>!p x) X = -1):X.filter p=X:=by
 rw[List.filter_eq_self]
 intro x hx
 cases ha:p x with
 | true=>rfl
 | false =>
  have:0<=idxI (fun x=>!p x) X:=idxI_ge.2 (List.any_eq_true.2 ⟨x,hx,by simp[ha]⟩)
  omega
theorem idxK_start {α:Type} [Inhabited α] {p:α->Bool} {X:List α} {j:Nat} (h:idxI (fun x=>!p x) X=j):KeptInv (fun j=>p (X.toArray[j]!)) X.toArray (j+1) j X.toArray:=by
 unfold idxI at h
 cases hf:X.findIdx? (fun x=>!p x) with
 | none=>rw[hf] at h;simp only at h;omega
 | some i =>
  rw[hf] at h
  simp only at h
  obtain rfl:i=j:=by omega
  obtain⟨hi,hp,hall⟩:=List.findIdx?_eq_some_iff_getElem.1 hf
  refine KeptInv.start (fun k hk=>?_) ?_
  ·have:=hall k hk
   simp only[Bool.not_eq_true',Bool.not_eq_false] at this
   rw[getElem!_pos _ _ (by simpa using Nat.lt_trans hk hi)]
   simpa using this
  ·rw[getElem!_pos _ _ (by simpa using hi)]
   simpa using hp
def lineObj (id:Int) (item:List UInt8) (qty asked rank st day:Int) (code:List UInt8):Obj:=.cells #[.int .i64 id,.string ⟨item.toArray⟩,.int .i64 qty,.int .i64 asked,.int .i64 rank,.int .u8 st,.int .i64 day,.string ⟨code.toArray⟩] 29
theorem lineObj_cells {w:World} {p:Nat} {id:Int} {item:List UInt8} {qty asked rank st day:Int} {code:List UInt8} (h:w.heap[p]? = some (lineObj id item qty asked rank st day code)):w.cell? ⟨p,0,none⟩=some (.int .i64 id)/\w.cell? ⟨p,1,none⟩=some (.string ⟨item.toArray⟩)/\w.cell? ⟨p,2,none⟩=some (.int .i64 qty)/\w.cell? ⟨p,3,none⟩=some (.int .i64 asked)/\w.cell? ⟨p,4,none⟩=some (.int .i64 rank)/\w.cell? ⟨p,5,none⟩=some (.int .u8 st)/\w.cell? ⟨p,6,none⟩=some (.int .i64 day)/\w.cell? ⟨p,7,none⟩=some (.string ⟨code.toArray⟩):=by
 unfold lineObj at h
 refine⟨?_,?_,?_,?_,?_,?_,?_,?_⟩ <;> (unfold World.cell?;rw[h];rfl)
theorem line_own_cells {base g n c:Nat} {w:World} {X:List LineV} (h:lineE.Own base w (.slice (some ⟨g,0,none⟩) n c) X) {i:Nat} (hi:i < n):w.cell? ⟨g,i * 8,none⟩=some (.int .i64 (X.getD i default).id)/\w.cell? ⟨g,i * 8+1,none⟩=some (encStr (X.getD i default).item)/\w.cell? ⟨g,i * 8+2,none⟩=some (.int .i64 (X.getD i default).qty)/\w.cell? ⟨g,i * 8+3,none⟩=some (.int .i64 (X.getD i default).asked)/\w.cell? ⟨g,i * 8+4,none⟩=some (.int .i64 (X.getD i default).rank)/\w.cell? ⟨g,i * 8+5,none⟩=some (.int .u8 (X.getD i default).st)/\w.cell? ⟨g,i * 8+6,none⟩=some (.int .i64 (X.getD i default).day)/\w.cell? ⟨g,i * 8+7,none⟩=some (encStr (X.getD i default).code):=by
 obtain⟨-,-,-,-,-,hc⟩:=h.cell
 exact⟨hc i hi 0 (by decide),hc i hi 1 (by decide),hc i hi 2 (by decide),hc i hi 3 (by decide),hc i hi 4 (by decide),hc i hi 5 (by decide),hc i hi 6 (by decide),hc i hi 7 (by decide)⟩
theorem OnlyB.transL {g:Nat} {w w1 w2:World} (h1:OnlyB g w w1) (h2:OnlyB g w1 w2):OnlyB g w w2:=⟨h2.os.trans h1.os,h2.tape.trans h1.tape,h2.output.trans h1.output,Nat.le_trans h1.size h2.size,fun b hb hbl=>(h2.block b hb (Nat.lt_of_lt_of_le hbl h1.size)).trans (h1.block b hb hbl)⟩
theorem own_take {α:Type} [Inhabited α] {E:El α} {base g n c m:Nat} {w:World} {X Y:List α} (h:E.Own base w (.slice (some ⟨g,0,none⟩) n c) (X ++ Y)) (hm:m=X.length:=by rfl):E.Own base w (.slice (some ⟨g,0,none⟩) m c) X:=by
 subst hm
 obtain⟨h1,⟨h2,-⟩ | ⟨g',cap,cur,hv,hg,hh,hle,hcap,hs,ht⟩⟩:=h
 ·cases h2
 ·injection hv with v1 v2 v3
  injection v1 with v1
  injection v1 with v1
  subst v1
  subst v3
  have e:X.length<=(X ++ Y).length:=by simp
  refine⟨by rw[E.cells_len],.inr ⟨g,c,cur,rfl,hg,hh,Nat.le_trans e hle,hcap,hs,?_⟩⟩
  have h3:(cur.toList.take ((X ++ Y).length * E.k)).take (X.length * E.k)=cur.toList.take (X.length * E.k):=by
   rw[List.take_take,Nat.min_eq_left (Nat.mul_le_mul_right _ e)]
  rw[<- h3,ht,E.cells_append,List.take_left' (E.cells_len X)]
set_option maxRecDepth 100000 in
/-- The clearing of the rest of a row of lines. -/
theorem run_clear_lines {w0 W:World} {g:Nat} {dk d0:Array LineV} (h:SWK encLine 8 w0 g 0 dk W) (R:RowK encLine 8 w0 g 0 d0) (hs:dk.size=d0.size) (i m c ty:Nat) (hm:0 < m) (hi:i+m<=dk.size):(Builtin.clear_ #[24] ty #[.slice (some ⟨g,i * 8,none⟩) m c]).run Tryz.prog W = .ok (.tuple #[]) (W.setCells g (i * 8) ((List.replicate m (default:LineV)).flatMap encLine)):=by
 have hz:(Builtin.zeroCells (Value.cells lineE.z) m).toList=(List.replicate m (default:LineV)).flatMap encLine:=zeroCells_rep (E:=lineE) default m
 have hl:((List.replicate m (default:LineV)).flatMap encLine).length=m * 8:=by have:=lineE.cells_len (List.replicate m (default:LineV));rw[List.length_replicate] at this;exact this
 have hst:=stores_of_holds Tryz.prog (h.holds R.hblk R.hH hs) (i * 8) ((List.replicate m (default:LineV)).flatMap encLine) (by rw[hl,size_flatK,<- Nat.add_mul];exact Nat.mul_le_mul_right 8 hi) (fun v hv=>lineE.cells_one v hv)
 rw[Nat.zero_add] at hst
 have hv:=Tryz.zeroValue29 W
 obtain⟨q,rfl⟩:∃ q,m=q+1:=⟨m - 1,by omega⟩
 have hz2:(zeroValue 29).run Tryz.prog W = .ok lineE.z W:=hv
 simp[Builtin.clear_,run_underlying lineE_under,hz2,hz,hst]
end Go.Proofs.YtgplnekpgdhcpaaGreat
