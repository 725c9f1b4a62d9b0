/- What PromiseFirst leans on: plain. The walk of storemankit.Pick. PromiseFirst: its last two statements. (Printed by gen/lfirst.py.) -/
import Derived.Test.YtgplnekpgdhcpaaGreatQLWith
import Derived.Test.YtgplnekpgdhcpaaGreatQLineK
import Derived.Test.YtgplnekpgdhcpaaGreatQEnds
import Derived.Test.YtgplnekpgdhcpaaGreatQLMoreT
namespace Go.Proofs.YtgplnekpgdhcpaaGreat
open Go.RowKit
theorem setAt_ne (S:List Pt) (k:List UInt8) (n:Int):setAt S k n≠[]:=by
 cases S with
 | nil=>unfold setAt;simp
 | cons p S=>unfold setAt;split <;> simp <;> split <;> simp
theorem joinL_ne:∀ (l S:List Pt) {R:List Pt},l≠[]∨S≠[]->joinL S l=some R->R≠[]
 | [],S,R,h,e=>by
  unfold joinL at e
  cases e
  rcases h with h | h
  ·exact absurd rfl h
  ·exact h
 | p :: l,S,R,_,e=>by
  unfold joinL at e
  cases ha:addA (sumAt S p.1) p.2 with
  | none=>rw[ha] at e;cases e
  | some n =>
   rw[ha] at e
   exact joinL_ne l _ (.inr (setAt_ne S p.1 n)) e
theorem parts_ne {X:List It} {c:List UInt8} {q:Int} {P:List Pt} (h:partsO X c q=some P):P≠[]:=by
 obtain⟨h0,h1⟩:=partsO_ps h
 unfold partsE at h0
 split at h0
 ·next h=>exact absurd h0 h
 ·next hk =>
  split at h0
  ·exact absurd h0 (by decide)
  ·next hq =>
   split at h0
   ·exact absurd h0 (by decide)
   ·next hc =>
    have hs:=sound_of (Classical.not_not.1 hk)
    have hc':=Classical.not_not.1 hc
    obtain⟨q1,q2⟩:=Classical.not_not.1 hq
    obtain⟨p,hp⟩:=leaves_some (X:=X) 8 (q:=q) (hs.hgt8 hc')
    unfold endL at h1
    rw[putL_leaves hs 8 hc' (hs.hgt8 hc') q1 (by have:=(okA_iff.1 q2).2;unfold mostA;exact this) Up.nil] at h1
    exact joinL_ne _ _ (.inl (fun e=>by rw[e] at hp;cases hp)) h1
theorem wants_sing (parts:List UInt8->Int->Option (List (List UInt8×Int))) (l:LineV):wantsN parts [l]=wantsL parts l:=by unfold wantsN;simp
structure FirS (now:Int) (X:List It) (L:List LotV) (W:List WantV) (l x:LineV):Prop where
 n0:0<=now
 n4:now<=4000
 st:l.st=1
 a0:0<=l.asked
 a4:l.asked<=4000
 fine:okLine l
 xf:okLine x
 none:rowX X l.item=[]->x.day = -1/\x.code=[]
 got:0<=x.day->now<=x.day/\l.asked<=x.day/\x.day<=now+400/\x.day<=4000/\(fillX L (W ++ wantsN (partsO X) [x])).isSome=true/\0 < (wantsN (partsO X) [x]).length
 ahead:∀ (k:Nat) (c:List UInt8) (d:Int),(rowX X l.item)[k]? = some c->max l.asked now<=d->d<=now+400->d<=4000->((∃ i:Nat,i<=k/\0<=x.day/\(rowX X l.item)[i]? = some x.code)->c=x.code/\d < x.day)->(wantsN (partsO X) [{ l with day:=d,code:=c }]).length=0∨(fillX L (W ++ wantsN (partsO X) [{ l with day:=d,code:=c }])).isSome=false
theorem firS {now:Int} {X:List It} {L:List LotV} {N:List LineV} (h:RgtS now X L N) (hX:∀ x∈X,x.code.length<=9223372036854775807) {l:LineV} (hl:lineOk l=true) (hs:l.st=1) (hf:okLine l):FirS now X L (wantsN (partsO X) (N.filter fun x=>decide (x.id≠l.id))) l (oneX (partsO X) (rowX X) lineOk L now N l):=by
 have hn:=h.now
 have e:oneX (partsO X) (rowX X) lineOk L now N l=promL (partsO X) (rowX X) L now (wantsN (partsO X) (N.filter fun x=>decide (x.id≠l.id))) l:=by
  unfold oneX
  rw[if_pos ⟨hn,hl,hs⟩]
 unfold nowOk at hn
 simp only[Bool.and_eq_true,decide_eq_true_eq] at hn
 have ha:0<=l.asked/\l.asked<=4000:=by
  unfold lineOk at hl
  simp only[Bool.and_eq_true,decide_eq_true_eq] at hl
  omega
 rw[e]
 refine⟨hn.1,hn.2,hs,ha.1,ha.2,hf,promL_fine hX hf,fun h0=>?_,fun h0=>?_,fun k c d h1 h2 h3 h4 h5=>?_⟩
 ·rw[first_none h0]
  exact⟨rfl,rfl⟩
 ·obtain⟨g1,g2,g3,g4,g5,P,g6,g7⟩:=first_served hs hn.1 h0
  refine⟨g1,g2,g3,g4,by rw[wants_sing];exact g5,?_⟩
  rw[wants_sing,g7,moreW_len]
  exact List.length_pos_iff.2 (parts_ne g6)
 ·rw[wants_sing]
  rcases first_ahead hs ha.1 h1 h2 h3 h4 h5 with g | g
  ·exact .inl (by rw[g];rfl)
  ·exact .inr g
end Go.Proofs.YtgplnekpgdhcpaaGreat
namespace Go.Proofs.YtgplnekpgdhcpaaGreat
open Go.RowKit
set_option maxHeartbeats 1000000 in
theorem Pick_any (x n:Int) (w:World) (_h0:-9223372036854775808<=x/\x<=9223372036854775807) (hn:1<=n/\n<=140737488355328) :
  Calls Tryz.prog 24 #[.int .i64 x,.int .i64 n] w fun e w'=>(∃ k:Nat,(k:Int) < n/\e = .returned (.int .i64 k))/\w=w':=by
 have hm:-n < x.tmod n/\x.tmod n < n:=⟨Int.lt_tmod_of_pos x (by omega),Int.tmod_lt_of_pos x (by omega)⟩
 obtain⟨hm1,hm2⟩:=hm
 have hne:¬ n=0:=by omega
 have hw0:=wrap_in (x:=x.tmod n) (by omega) (by omega)
 have hw1:=wrap_in (x:=x.tmod n+n) (by omega) (by omega)
 obtain⟨m,hmm⟩:∃ m,m=x.tmod n:=⟨_,rfl⟩
 rw[<- hmm] at hm1 hm2 hw0 hw1
 have hmm':=hmm.symm
 clear hmm
 by_cases hneg:m < 0
 ·have Hk:=Lib.hid (show ((m+n).toNat:Int)=m+n/\((m+n).toNat:Int) < n by omega)
  go_enter Tryz.func24,Tryz.ntmps24
  go_wp2
  go_ret
  exact⟨⟨_,Hk.out.2,by rw[Hk.out.1];rfl⟩,rfl⟩
 ·have Hk:=Lib.hid (show (m.toNat:Int)=m/\(m.toNat:Int) < n by omega)
  go_enter Tryz.func24,Tryz.ntmps24
  go_wp2
  go_ret
  exact⟨⟨_,Hk.out.2,by rw[Hk.out.1];rfl⟩,rfl⟩
end Go.Proofs.YtgplnekpgdhcpaaGreat
namespace Go.Proofs.YtgplnekpgdhcpaaGreat
open Go.RowKit Go.Sort Go.Lib Go.Shelf
theorem want_lit0 (U:World):wantE.Own U.heap.size (U.alloc (.cells #[] 71)) (.slice (some ⟨U.heap.size,0,none⟩) 0 0) []:=World.ownsRow_lit (e:=71) (size:=wantE.k) U #[] 0 (Nat.le_refl _) (Nat.zero_le _) (by simp)
theorem own_inW {base:Nat} {U:World} {a:Option Addr} {n c:Nat} {Y:List WantV} (h:wantE.Own base U (.slice a n c) Y) (hn:n=Y.length) (hf:∀ x∈Y,okWant x):wantE.In U.heap.size U a n c Y:=by
 obtain⟨a7,c7,e7,h7⟩:=h.in_ hf
 rw[<- hn] at e7 h7
 obtain⟨e1,-,e3⟩:=Value.slice.inj e7
 subst e1
 subst e3
 exact h7
theorem step_appendNw {α:Type} [Inhabited α] {w:World} {ops:Array Oper} {o:Oper} {a:Act} {K:Act->World->Prop} {Q:Exit->Act->World->Prop} {Z:Prop} (E:El α) (hw:Region.wanted o (yielded ops a.tmps)=true) (s x:Operand)
  (ho:o.op = .call { callee:=.builtin .append,args:=#[s,x],argTypes:=#[E.t,E.t] }) (base:Nat) (va:Option Addr) (vn vc:Nat) (X Y:List α) (k:Nat) (hk:k=Y.length) (hn:vn=X.length) (hs:a.eval s = .slice va vn vc) (h:E.Own base w (.slice va vn vc) X) (sa:Option Addr) (c:Nat)
  (hx:a.eval x = .slice sa k c) (hsrc:0 < Y.length->∃ ad,sa=some ad/\∀ j u,(E.cells Y)[j]? = some u->w.cell? (ad.add j)=some u) (hbase:base<=w.heap.size) (hl:vn+k<=1000000000)
  (hK:∀ a' c' w',E.Own base w' (.slice a' (vn+k) c') (X ++ Y)->w.grownBy w' (Value.slice va vn vc).ownBlock->K (a.put o.dst (.slice a' (vn+k) c')) w') :
  if Region.wanted o (yielded ops a.tmps)=true then Oper.wp Tryz.prog o a w K Q else Z:=by
 rw[if_pos hw]
 subst hk
 subst hn
 by_cases h0:Y.length=0
 ·obtain rfl:Y=[]:=List.eq_nil_of_length_eq_zero h0
  obtain⟨i0,hi,-⟩:=E.info'
  have hle:X.length<=vc:=by
   obtain⟨a1,c1,e1,h1,-⟩:=h.form
   injection e1 with e1 e2 e3
   rw[e3];exact h1
  have hr:=run_append_nothing (P:=Tryz.prog) w E.t o.type E.e i0 E.under hi va sa X.length vc c hle
  unfold Oper.wp execOp
  simp only[List.length_nil] at hx
  simp only[ho,resolve,invoke,builtin,Sem.run_bind,Sem.run_pure,Result.andThen_ok,List.map_toArray,List.map_cons,List.map_nil,hs,hx,hr]
  exact hK va vc w (by simpa using h) ⟨rfl,rfl,rfl,Nat.le_refl _,fun _ _ _=>rfl⟩
 ·obtain⟨g,cap,w',hr,h1,h2,h3,h4⟩:=El.run_append h o.type sa c (hsrc (by omega)) (by omega) hbase hl
  unfold Oper.wp execOp
  simp only[ho,resolve,invoke,builtin,Sem.run_bind,Sem.run_pure,Result.andThen_ok,List.map_toArray,List.map_cons,List.map_nil,hs,hx,hr]
  exact hK _ cap w' h1 h3
theorem line_put6 {W:World} {q:Nat} {id:Int} {item:List UInt8} {qty asked rank st day:Int} {code:List UInt8} (hq:W.heap[q]? = some (lineObj id item qty asked rank st day code)) (d:Int):(W.setCell ⟨q,6,none⟩ (.int .i64 d)).heap[q]? = some (lineObj id item qty asked rank st d code):=by
 unfold lineObj at *
 simp[setCell_eq,mapBlock,Array.getElem?_modify,hq,onCells]
set_option maxHeartbeats 16000000 in
set_option maxRecDepth 100000 in
theorem lfirst_z (now nl nx:Int) (a1:Option Addr) (n1 c1:Nat) (X:List It) (a2:Option Addr) (n2 c2:Nat) (L:List LotV) (a3:Option Addr) (n3 c3:Nat) (sb yb:Nat) (id:Int) (item:List UInt8) (qty asked rank st day:Int) (code:List UInt8) (V:World) (R:Ending->World->Prop) (hX:RI V.heap.size V a1 n1 c1 X) (hL:lotE.In V.heap.size V a2 n2 c2 L) (m1:n1<=12) (m2:n2<=12) (hs:V.heap[sb]? = some (stObj now nl nx (.slice a1 n1 c1) (.slice a2 n2 c2) (.slice a3 n3 c3))) (hy:V.heap[yb]? = some (lineObj id item qty asked rank st day code)) (hyf:okLine (⟨id,item,qty,asked,rank,st,day,code⟩:LineV)) (wa:Option Addr) (wl wc:Nat) (W:List WantV) (hW:wantE.In V.heap.size V wa wl wc W) (hWl:wl<=100000) (hWf:∀ x∈W,okWant x) (hA:(wantsN (partsO X) [(⟨id,item,qty,asked,rank,st,day,code⟩:LineV)]).length=0∨(fillX L (W ++ wantsN (partsO X) [(⟨id,item,qty,asked,rank,st,day,code⟩:LineV)])).isSome=false) (hR:∀ w',Below V.heap.size V w'->R (.returned (.bool true)) w') (s0 s1 s2 s3 s5 s6 s7 s8 s9 s10 s11 s13 s14 s15 s16 s17 s19 s20 s21 s22 s23 s24 s25 s26 s27 s28 s29 s30 s31 s32 s33 s34 s35 s36 s37 s38 s39 s40 s41 s42 s43 s44 s45 s46 s47 s48 s49 s50 s51 s52 s53 s54 s55 s56 s57 s58 s59 s60 s61 s62 s63 s64 s65 s66 s67 s68 s69 s70 s71 s72 s73 s74 s75 s76 s77 s78 s79 s80 s81 s82 s83 s84 s85 s86 s87 s88 s89 s90 s91 s92 s93 s94 s95 s96 s97 s98 s99 s100 s101 s102 s103 s104 s105 s106 s107 s108 s109 s110 s111 s112 s113 s114 s115 s116 s117 s118 s119 s120 s121 s122 s123 s124 s125 s126 s127 s128 s129 s130 s131 s132 s133 s134 s135 s136 s137 s138 s139 s140 s141 s142 s143 s144 s145 s146 s147 s148 s149 s150 s151 s152 s153 s154 s155 s156 s157 s158 s159 s160 s161 s162 s163 s164 s165 s166 s167 s168 s169 s170 s171 s172 s173 s174 s175 s176 s177 s178 s179 s180 s181 s182 s183 s184 s185 s186 s187 s188 s189 s190 s191 s192 s193 s194 s195 s196 s197 s198 s199 s200 s201 s202 s203 s204 s205 s206 s207 s208 s209 s210 s211 s212 s213 s214 s215 s216 s217 s218 s219 s220:Value) :
  Code.wp Tryz.prog (dropQ 18 (Tryz.f5.body.getD .skip)) (bodyPost Tryz.prog Tryz.f5 R) ⟨List.toArray (s0 :: s1 :: s2 :: s3 :: (.pointer (some ⟨sb,0,none⟩)) :: s5 :: s6 :: s7 :: s8 :: s9 :: s10 :: s11 :: (.slice wa wl wc) :: s13 :: s14 :: s15 :: s16 :: s17 :: (.pointer (some ⟨yb,0,none⟩)) :: s19 :: s20 :: s21 :: s22 :: s23 :: s24 :: s25 :: s26 :: s27 :: s28 :: s29 :: s30 :: s31 :: s32 :: s33 :: s34 :: s35 :: s36 :: s37 :: s38 :: s39 :: s40 :: s41 :: s42 :: s43 :: s44 :: s45 :: s46 :: s47 :: s48 :: s49 :: s50 :: s51 :: s52 :: s53 :: s54 :: s55 :: s56 :: s57 :: s58 :: s59 :: s60 :: s61 :: s62 :: s63 :: s64 :: s65 :: s66 :: s67 :: s68 :: s69 :: s70 :: s71 :: s72 :: s73 :: s74 :: s75 :: s76 :: s77 :: s78 :: s79 :: s80 :: s81 :: s82 :: s83 :: s84 :: s85 :: s86 :: s87 :: s88 :: s89 :: s90 :: s91 :: s92 :: s93 :: s94 :: s95 :: s96 :: s97 :: s98 :: s99 :: s100 :: s101 :: s102 :: s103 :: s104 :: s105 :: s106 :: s107 :: s108 :: s109 :: s110 :: s111 :: s112 :: s113 :: s114 :: s115 :: s116 :: s117 :: s118 :: s119 :: s120 :: s121 :: s122 :: s123 :: s124 :: s125 :: s126 :: s127 :: s128 :: s129 :: s130 :: s131 :: s132 :: s133 :: s134 :: s135 :: s136 :: s137 :: s138 :: s139 :: s140 :: s141 :: s142 :: s143 :: s144 :: s145 :: s146 :: s147 :: s148 :: s149 :: s150 :: s151 :: s152 :: s153 :: s154 :: s155 :: s156 :: s157 :: s158 :: s159 :: s160 :: s161 :: s162 :: s163 :: s164 :: s165 :: s166 :: s167 :: s168 :: s169 :: s170 :: s171 :: s172 :: s173 :: s174 :: s175 :: s176 :: s177 :: s178 :: s179 :: s180 :: s181 :: s182 :: s183 :: s184 :: s185 :: s186 :: s187 :: s188 :: s189 :: s190 :: s191 :: s192 :: s193 :: s194 :: s195 :: s196 :: s197 :: s198 :: s199 :: s200 :: s201 :: s202 :: s203 :: s204 :: s205 :: s206 :: s207 :: s208 :: s209 :: s210 :: s211 :: s212 :: s213 :: s214 :: s215 :: s216 :: s217 :: s218 :: s219 :: s220 :: []),[]⟩ V:=by
 have HC:=Lib.hid (fun (U:World) (hb:Below V.heap.size V U)=>And.intro (stObj_cells ((hb.block sb (Array.getElem?_eq_some_iff.1 hs).1).trans hs)) (lineObj_cells ((hb.block yb (Array.getElem?_eq_some_iff.1 hy).1).trans hy)))
 have hXl:X.length<=12:=by rw[<- hX.len];exact m1
 obtain⟨Q,hQ⟩:∃ Q,Q=wantsN (partsO X) [(⟨id,item,qty,asked,rank,st,day,code⟩:LineV)]:=⟨_,rfl⟩
 have HWn:=Lib.hid (fun (U:World) (hb:Below V.heap.size V U) (a:Option Addr) (c:Nat) (hl:lineE.In U.heap.size U a 1 c [(⟨id,item,qty,asked,rank,st,day,code⟩:LineV)])=>Wants_any U.heap.size a1 n1 c1 X a 1 c [(⟨id,item,qty,asked,rank,st,day,code⟩:LineV)] U ((hX.below hb).mono hb.size) hl (Nat.le_refl _) (by omega) (by simp))
 rw[<- hQ] at HWn hA
 unfold WnP at HWn
 obtain⟨ql,hql⟩:∃ n,n=Q.length:=⟨_,rfl⟩
 rw[<- hql] at HWn hA
 have HA:=Lib.hid hA
 have HQL:=Lib.hid hql
 have HX:=Lib.hid hX
 have HL:=Lib.hid hL
 have HW:=Lib.hid hW
 have HWF:=Lib.hid hWf
 have HRR:=Lib.hid hR
 have HYF:=Lib.hid hyf
 have HWL:=Lib.hid hW.len
 have hlew:=hW.le
 have hmxw:=hW.mx
 obtain⟨⟨y0,y1,y2,y3,y4,y5⟩,⟨l0,l1,l2,l3,l4,l5,l6,l7⟩⟩:=HC.out V (Below.refl _ _)
 obtain⟨W1,hW1⟩:∃ U,U=V.alloc (lineObj id item qty asked rank st day code):=⟨_,rfl⟩
 have bW1:Below V.heap.size V W1:=by rw[hW1];exact below_allocL _ _
 have HW1:=Lib.hid (show V.alloc (lineObj id item qty asked rank st day code)=W1 from hW1.symm)
 have HLL:=Lib.hid (show lineE.In W1.heap.size W1 (some ⟨V.heap.size,0,none⟩) 1 1 [(⟨id,item,qty,asked,rank,st,day,code⟩:LineV)] from line_lit (by rw[hW1];exact heap_alloc_new _ _) hyf)
 have BW1:=Lib.hid bW1
 unfold lineObj at HW1
 clear hX hL hs hy hyf hW hWf hA hR hQ hql hW1 bW1
 conv=>arg 2;whnf
 have HWcall:=Lib.hid (HWn.out W1 BW1.out _ _ HLL.out)
 go_upto_region 31 with (go_at_call 14;rw[HW1.out];refine HWcall.out.mono ?_;rintro e w2 ⟨⟨⟨qa,qc,rfl,ho⟩,hb⟩,hlq,hfq⟩;have B2:=Lib.hid (BW1.out.trans (hb.mono BW1.out.size));have OQ:=Lib.hid ho;have FQ:=Lib.hid hfq;have LQ:=Lib.hid hlq;obtain⟨⟨y0,y1,y2,y3,y4,y5⟩,⟨l0,l1,l2,l3,l4,l5,l6,l7⟩⟩:=HC.out w2 B2.out;clear hb ho hfq hlq)
 have INQ:Hid (wantE.In w2.heap.size w2 qa ql qc Q):=Lib.hid (own_inW OQ.out HQL.out FQ.out)
 have hleq:=INQ.out.le
 have hmxq:=INQ.out.mx
 have hql100:ql<=12:=by have:=LQ.out;simp only[List.length_cons,List.length_nil,Nat.zero_add,Nat.one_mul] at this;omega
 by_cases hq0:ql=0
 ·have e0:((ql:Int) == 0)=true:=by simp[hq0]
  clear hq0
  refine wp_region_below (w2) (by kernel_rfl) (by kernel_rfl) (Below.refl _ _) ?_
  repeat (go_big_quiet_step (fail))
  refine wpQuiet_nil ?_
  intro _ hw'
  obtain⟨y9,hw''⟩:=hw'
  subst hw''
  go_wp2_with (fail)
  exact HRR.out _ (B2.out.trans (y9.h.mono B2.out.size))
 have e0:((ql:Int) == 0)=false:=by simp[hq0]
 have HFit:Hid ((fillX L (W ++ Q)).isSome=false):=Lib.hid (HA.out.resolve_left hq0)
 clear hq0
 have HIN2:=Lib.hid (fun (U:World) (hb:Below w2.heap.size w2 U)=>(show lotE.In U.heap.size U a2 n2 c2 L/\wantE.In w2.heap.size U wa wl wc W/\wantE.In w2.heap.size U qa ql qc Q from ⟨(HL.out.below (B2.out.trans (hb.mono B2.out.size))).mono (B2.out.trans (hb.mono B2.out.size)).size,((HW.out.below (B2.out.trans (hb.mono B2.out.size))).mono B2.out.size),INQ.out.below hb⟩))
 have HC2:=Lib.hid (fun (U:World) (hb:Below w2.heap.size w2 U)=>(HC.out U (B2.out.trans (hb.mono B2.out.size))).1.2.2.2.2.1)
 clear y0 y1 y2 y3 y5 l0 l1 l2 l3 l4 l5 l6 l7
 have BA:Hid (Below w2.heap.size w2 (w2.alloc (.cells #[] 71)).drew):=Lib.hid (below_drewP (below_allocL _ _))
 have OA:Hid (wantE.Own w2.heap.size (w2.alloc (.cells #[] 71)).drew (.slice (some ⟨w2.heap.size,0,none⟩) 0 0) []):=Lib.hid (want_lit0 w2).drew
 have yA:=HC2.out _ BA.out
 have hn2le:n2<=100000000:=by omega
 go_region_held3 (fun w'=>(w'.cell? ⟨sb,4,none⟩=some (.slice a2 n2 c2))/\Hid (Below w2.heap.size w2 w')) (first | exact⟨by assumption,Lib.hid (below_drewP (Below.refl _ _))⟩ | exact⟨by assumption,by assumption⟩ | go_keep | (trace_state;fail)) (first | (go_at_call 22;(with_reducible refine (fits_any w7.heap.size a2 a7 n2 c2 (wl+ql) c7 L (W ++ Q) w7 (HIN2.out w7 B7.out).1 IN7.out (Nat.le_refl _) hn2le).mono ?_);rintro e w8 ⟨rfl,hb8⟩;rw[HFit.out];have B8:Hid (Below w2.heap.size w2 w8):=Lib.hid (B7.out.trans (hb8.mono B7.out.size));have y8:=HC2.out w8 B8.out;clear hb8) | (refine step_appendNw wantE (by rfl) _ _ rfl w2.heap.size a6 (0+wl) c6 ([] ++ W) Q ql HQL.out (by rw[Nat.zero_add];exact HWL.out) rfl O6.out qa qc rfl (HIN2.out _ B6.out).2.2.src B6.out.size (by omega) ?_;intro a7 c7 w7 ho7 hg7;have B7:Hid (Below w2.heap.size w2 w7):=Lib.hid (B6.out.grown hg7 B6.out.size (fun r e=>(O6.out.ge r e).1));have O7:Hid (wantE.Own w2.heap.size w7 (.slice a7 (wl+ql) c7) (W ++ Q)):=Lib.hid (by rw[Nat.zero_add] at ho7;exact ho7);have y7:=HC2.out w7 B7.out;have IN7:Hid (wantE.In w7.heap.size w7 a7 (wl+ql) c7 (W ++ Q)):=Lib.hid (own_inW O7.out (by rw[List.length_append,<- HWL.out,<- HQL.out]) (fun x hx=>by rcases List.mem_append.1 hx with hx | hx;exact HWF.out x hx;exact FQ.out x hx));clear ho7 hg7) | (refine step_appendNw wantE (by rfl) _ _ rfl w2.heap.size (some ⟨w2.heap.size,0,none⟩) 0 0 [] W wl HWL.out rfl rfl OA.out wa wc rfl (HIN2.out _ BA.out).2.1.src BA.out.size (by omega) ?_;intro a6 c6 w6 ho6 hg6;have B6:Hid (Below w2.heap.size w2 w6):=Lib.hid (BA.out.grown hg6 BA.out.size (fun r e=>(OA.out.ge r e).1));have O6:Hid (wantE.Own w2.heap.size w6 (.slice a6 (0+wl) c6) ([] ++ W)):=Lib.hid ho6;have y6:=HC2.out w6 B6.out;clear ho6 hg6))
 go_wp2_with (fail)
 exact HRR.out _ (B2.out.trans (B8.out.mono B2.out.size))
end Go.Proofs.YtgplnekpgdhcpaaGreat
