/-  -/
import Derived.Test.YtgplnekpgdhcpaaGreatQPAllT
import Derived.Test.YtgplnekpgdhcpaaGreatQROne
import Derived.Test.YtgplnekpgdhcpaaGreatQROpenD
import Derived.Deep.DeepCutAuto
import Derived.Deep.DeepBigQuietO
namespace Go.Proofs.YtgplnekpgdhcpaaGreat
open Go.RowKit Go.Sort Go.Lib Go.Shelf
theorem allG_at {X:List It} {L:List LotV} {now:Int} {Y:List LineV} {k:Nat} (hk:k<Y.length) (O:List LineV):allG (partsO X) (rowX X) lineOk L now (Y.drop k) O=allG (partsO X) (rowX X) lineOk L now (Y.drop (k+1)) (O.map fun x=>if x.id=(oneX (partsO X) (rowX X) lineOk L now O (Y.getD k default)).id then oneX (partsO X) (rowX X) lineOk L now O (Y.getD k default) else x):=by
 have e:Y.getD k default=Y[k]:=by rw[List.getD_eq_getElem?_getD,List.getElem?_eq_getElem hk];rfl
 rw[List.drop_eq_getElem_cons hk,allG,e]
theorem oneX_fine {X:List It} (hX:∀ x∈X,x.code.length<=9223372036854775807) {L:List LotV} {now:Int} {O:List LineV} {l:LineV} (hl:okLine l):okLine (oneX (partsO X) (rowX X) lineOk L now O l)/\(oneX (partsO X) (rowX X) lineOk L now O l).id=l.id:=by
 unfold oneX;split
 ·exact⟨promL_fine hX hl,(promL_keys _ _).1⟩
 ·exact⟨hl,rfl⟩
theorem ent_rone:Enters Tryz.prog 12:=enters_of Tryz.func12 (by kernel_rfl) rfl
theorem nodup_at {O:List LineV} (h:(O.map (·.id)).Nodup) {i j:Nat} (hi:i<O.length) (hj:j<O.length) (e:O[i].id=O[j].id):i=j:=by
 have h2:=List.pairwise_iff_getElem.1 (List.nodup_iff_pairwise_ne.1 h);rcases Nat.lt_trichotomy i j with hlt|heq|hgt
 ·exact absurd (by rw[List.getElem_map,List.getElem_map];exact e) (h2 i j (by rw[List.length_map];exact hi) (by rw[List.length_map];exact hj) hlt)
 ·exact heq
 ·exact absurd (by rw[List.getElem_map,List.getElem_map];exact e.symm) (h2 j i (by rw[List.length_map];exact hj) (by rw[List.length_map];exact hi) hgt)
theorem ids_set {O N:List LineV} (h:O.map (·.id)=N.map (·.id)) {ix:Nat} (hi:ix<O.length) {p:LineV} (e:(O.getD ix default).id=p.id):(O.set ix p).map (·.id)=N.map (·.id):=by
 rw[<- h,List.map_set];refine List.ext_getElem? (fun t=>?_);rw[List.getElem?_set];by_cases et:ix=t
 ·subst et;rw[if_pos rfl,if_pos (by rw[List.length_map];exact hi),List.getElem?_map,List.getElem?_eq_getElem hi];rw[List.getD_eq_getElem?_getD,List.getElem?_eq_getElem hi] at e;simp only[Option.map_some,Option.some.injEq];exact e.symm
 ·rw[if_neg et]
def RlS (X:List It) (L:List LotV) (now:Int) (vo:Value) (N Y Z:List LineV) (base go:Nat) (w17:World) (k:Nat) (wr:World) (O:List LineV):Prop :=
 allG (partsO X) (rowX X) lineOk L now (Y.drop k) O=Z/\lineE.Own base wr vo O/\O.map (·.id)=N.map (·.id)/\(∀ x∈O,okLine x)/\Kp2 go go w17 wr
set_option maxHeartbeats 8000000 in
set_option maxRecDepth 100000 in
theorem rall_tail (B sb:Nat) (now nl nx:Int) (a1:Option Addr) (n1 c1:Nat) (X:List It) (a2:Option Addr) (n2 c2:Nat) (L:List LotV) (a3:Option Addr) (c3:Nat) (ao:Option Addr) (n3 co:Nat) (N0 N:List LineV) (w0 W:World) (R:Ending->World->Prop)
  (h:StIn B W a1 n1 c1 X a2 n2 c2 L a3 n3 c3 N0) (hB:B<=w0.heap.size) (hW:Below w0.heap.size w0 W) (hs:W.heap[sb]? = some (stObj now nl nx (.slice a1 n1 c1) (.slice a2 n2 c2) (.slice a3 n3 c3))) (hsw:sb<W.heap.size) (hO:lineE.Own w0.heap.size W (.slice ao n3 co) N) (hOk:∀ x∈N,okLine x) (hsb:∀ g,ao=some ⟨g,0,none⟩->g≠sb) (hid:(N.map (·.id)).Nodup)
  (h1:n1<=5000) (h2:n2<=5000) (h3:n3<=5000) (Z:List LineV) (hZ:Z=allG (partsO X) (rowX X) lineOk L now (openX N) N)
  (hR:∀ w',lineE.Own w0.heap.size w' (.slice ao n3 co) Z->Z.length=n3->Below w0.heap.size w0 w'->R (.returned (.slice ao n3 co)) w') (s0 s2 s4 s5 s6 s7 s8 s9 s10 s11 s12 s13 s14 s15 s16 s17 s18 s19 s20 s21 s22 s23 s24 s25 s26 s27 s28 s29 s30 s31 s32 s33 s34 s35 s36 s37 s38 s39 s40 s41 s42 s43 s44 s45 s46 s47 s48 s49 s50 s51 s52 s53 s54 s55 s56 s57 s58 s59 s60 s61 s62 s63 s64 s65 s66 s67 s68 s69 s70 s71 s72 s73 s74 s75 s76 s77 s78 s79 s80 s81 s82 s83 s84 s85 s86 s87 s88 s89 s90 s91 s92 s93 s94 s95 s96 s97 s98 s99 s100:Value) :
  Code.wp Tryz.prog (dropQ 4 (Tryz.f19.body.getD .skip)) (bodyPost Tryz.prog Tryz.f19 R) ⟨List.toArray (s0::(.pointer (some ⟨sb,0,none⟩))::s2::(.slice ao n3 co)::s4::s5::s6::s7::s8::s9::s10::s11::s12::s13::s14::s15::s16::s17::s18::s19::s20::s21::s22::s23::s24::s25::s26::s27::s28::s29::s30::s31::s32::s33::s34::s35::s36::s37::s38::s39::s40::s41::s42::s43::s44::s45::s46::s47::s48::s49::s50::s51::s52::s53::s54::s55::s56::s57::s58::s59::s60::s61::s62::s63::s64::s65::s66::s67::s68::s69::s70::s71::s72::s73::s74::s75::s76::s77::s78::s79::s80::s81::s82::s83::s84::s85::s86::s87::s88::s89::s90::s91::s92::s93::s94::s95::s96::s97::s98::s99::s100::[]),[]⟩ W:=by
 have hBW:B<=W.heap.size:=Nat.le_trans hB hW.size;have hN3:n3=N.length:=by obtain⟨a8,c8,e8,-⟩:=hO.form;exact (Value.slice.inj e8).2.1
 have H:=Lib.hid h;have HW:=Lib.hid hW;have HS:=Lib.hid hs;have HID:=Lib.hid hid;have HZ:=Lib.hid hZ;have HRR:=Lib.hid hR;have HOK:=Lib.hid hOk;have HSB:=Lib.hid hsb;have HlN:Hid (N.length=n3):=Lib.hid hN3.symm;have HlX:=Lib.hid h.items.len;have HO0:=Lib.hid hO;obtain⟨ao2,co2,eO,hinO⟩:=hO.in_ hOk;rw[<- hN3] at eO hinO;obtain⟨eO1,-,eO3⟩:=Value.slice.inj eO;subst eO1;subst eO3;have HOp:=Lib.hid (rOpen_any W.heap.size ao n3 co N W hinO (Nat.le_refl _) (by omega));have hole:n3<=co/\co<=9223372036854775807:=⟨hinO.le,hinO.mx⟩
 obtain⟨hole1,hole2⟩:=hole;unfold RoP at HOp;clear h hW hs hid hZ hR hO hOk hsb hinO eO hN3
 conv=>arg 2;whnf
 go_wp2_with (go_at_call 48;refine HOp.out.mono ?_;rintro e w17 ⟨⟨ra,rc,Y,rfl,hoY,hpY,hsY⟩,hb17⟩;have B17:=Lib.hid hb17;have OY:=Lib.hid hoY;have PY:=Lib.hid (And.intro hpY hsY);clear hoY hpY hsY hb17);have hY:Y=openX N:=openX_only HID.out PY.out.1 PY.out.2;obtain⟨m,hm⟩:∃ m,m=Y.length:=⟨_,rfl⟩
 rw[<- hm] at OY ⊢;have HMm:=Lib.hid hm;have HmN:Hid (m<=n3):=Lib.hid (by rw[hm,PY.out.1.length_eq,<- HlN.out];exact List.length_filter_le _ _);have HYN:Hid (∀ x∈Y,x∈N):=Lib.hid (fun x hx=>(List.mem_filter.1 (PY.out.1.mem_iff.1 hx)).1);have HZ2:Hid (allG (partsO X) (rowX X) lineOk L now (Y.drop 0) N=Z):=Lib.hid (by rw[HZ.out,hY];rfl);obtain⟨go,hgo⟩:∃ go,(ao=some ⟨go,0,none⟩/\w0.heap.size<=go/\go<W.heap.size/\go≠sb)∨(n3=0/\go=w17.heap.size):=by
  by_cases h0:0<n3
  ·obtain⟨a8,c8,e8,-,-,hg⟩:=HO0.out.form;obtain⟨gg,hgg⟩:=hg (by rw[HlN.out];exact h0);have e9:=(Value.slice.inj e8).1.trans hgg;subst e9;have:=HO0.out.ge gg rfl;exact⟨gg,.inl ⟨rfl,this.1,this.2,HSB.out gg rfl⟩⟩
  ·exact⟨w17.heap.size,.inr ⟨by omega,rfl⟩⟩
 have HGO:=Lib.hid hgo;have hrm:m<=rc/\rc<=9223372036854775807:=by obtain⟨a8,c8,e8,k1,k2,-⟩:=OY.out.form;obtain⟨-,-,e3⟩:=Value.slice.inj e8;subst e3;exact⟨by rw[hm];exact k1,k2⟩
 obtain⟨hrle,hrmx⟩:=hrm;have HB17:=Lib.hid B17.out.size;have HKP:Hid (∀ wr,Kp2 go go w17 wr->(∀ q,q<W.heap.size->q≠go->wr.heap[q]? = W.heap[q]?)/\lineE.Own W.heap.size wr (.slice ra m rc) Y/\Below w0.heap.size w0 wr/\StIn B wr a1 n1 c1 X a2 n2 c2 L a3 n3 c3 N0/\wr.heap[sb]? = some (stObj now nl nx (.slice a1 n1 c1) (.slice a2 n2 c2) (.slice a3 n3 c3)) ):=Lib.hid (fun wr hk=>by
  have e0:=HW.out.size;have e1:=HB17.out;have hq:∀ q,q<W.heap.size->q≠go->wr.heap[q]? = W.heap[q]?:=fun q hq hne=>(hk.block q hne hne (by omega)).trans (B17.out.block q hq)
  have hgl:w0.heap.size<=go:=by rcases HGO.out with ⟨-,k1,-⟩|⟨-,k2⟩<;>omega
  have hgs:go≠sb:=by rcases HGO.out with ⟨-,-,-,k1⟩|⟨-,k2⟩;exact k1;omega
  have hb0:Below w0.heap.size w0 wr:=⟨hk.os.trans (B17.out.os.trans HW.out.os),hk.tape.trans (B17.out.tape.trans HW.out.tape),hk.output.trans (B17.out.output.trans HW.out.output),by have:=hk.size;omega,fun q hl=>(hq q (by omega) (by omega)).trans (HW.out.block q hl)⟩
  refine⟨hq,OY.out.keep (fun b e=>?_),hb0,H.out.below ⟨hk.os.trans B17.out.os,hk.tape.trans B17.out.tape,hk.output.trans B17.out.output,by have:=hk.size;omega,fun q hl=>hq q (by omega) (by omega)⟩,(hq sb hsw (Ne.symm hgs)).trans HS.out⟩;have h5:=OY.out.ge b e;refine hk.block b ?_ ?_ h5.2<;>(rcases HGO.out with ⟨-,-,k1,-⟩|⟨-,k2⟩<;>omega))
 have A0:Hid (RlS X L now (.slice ao n3 co) N Y Z w0.heap.size go w17 0 w17 N):=Lib.hid ⟨HZ2.out,HO0.out.below B17.out,rfl,HOK.out,Kp2.refl _ _ _⟩;clear hY hm hgo HZ2 HZ HOp PY HO0;go_loopw [7] (fun s7 wr=>∃ (k:Nat) (O:List LineV),s7=.int .i64 k/\k<=m/\Hid (RlS X L now (.slice ao n3 co) N Y Z w0.heap.size go w17 k wr O)) (fun s7 _=>m-(intOf s7).toNat)
 case atStart=>exact⟨0,N,rfl,Nat.zero_le _,A0⟩
 case round =>
  obtain⟨k,O,rfl,hk,HA⟩:=hrel;obtain⟨wo,rfl⟩:∃ z,z=wr:=⟨_,rfl⟩
  obtain⟨z1,z2,z3,z4,z9⟩:=HA.out;obtain⟨k1,k2,k3,k4,k5⟩:=HKP.out wo z9;by_cases hlt:k<m
  ·skip
   have hkY:k<Y.length:=by rw[<- HMm.out];exact hlt
   have hn0:0<n3:=by have:=HmN.out;omega
   obtain⟨rfl,hg1,hg2,hg3⟩:ao=some ⟨go,0,none⟩/\w0.heap.size<=go/\go<W.heap.size/\go≠sb:=by rcases HGO.out with h|⟨h,-⟩;exact h;omega
   obtain⟨rb,hra,hrb,hcells⟩:∃ b,ra=some ⟨b,0,none⟩/\W.heap.size<=b/\∀ j,j<8->wo.cell? ⟨b,k*8+j,none⟩=(lineE.enc (Y.getD k default))[j]?:=by
    obtain⟨a8,c8,e8,-,-,hg⟩:=k2.form;obtain⟨gg,hgg⟩:=hg (Nat.lt_of_le_of_lt (Nat.zero_le _) hkY);have e9:=(Value.slice.inj e8).1.trans hgg;subst e9;obtain⟨-,-,-,hge,-,hcl⟩:=k2.cell;exact⟨gg,rfl,hge,fun j hj=>hcl k hlt j hj⟩
   subst hra;have hlN:Y.getD k default∈N:=HYN.out _ (by rw[List.getD_eq_getElem?_getD,List.getElem?_eq_getElem hkY];exact List.getElem_mem _);obtain⟨ix,hix,hixe⟩:=List.getElem_of_mem hlN;have hlok:okLine (Y.getD k default):=HOK.out _ hlN;have hOl:O.length=n3:=by rw[<- HlN.out];have:=congrArg List.length z3;simpa using this
   have hixn:ix<n3:=by rw[<- HlN.out];exact hix
   have hOnd:(O.map (·.id)).Nodup:=by rw[z3];exact HID.out
   have hOix:(O.getD ix default).id=(Y.getD k default).id:=by
    have e1:(O.map (·.id))[ix]? = (N.map (·.id))[ix]?:=(by rw[z3]);rw[List.getElem?_map,List.getElem?_map,List.getElem?_eq_getElem hix,List.getElem?_eq_getElem (by rw[hOl];exact hixn)] at e1;rw[List.getD_eq_getElem?_getD,List.getElem?_eq_getElem (by rw[hOl];exact hixn),<- hixe];simpa using e1
   have hstep:=allG_at (X:=X) (L:=L) (now:=now) hkY O;have hpk:=oneX_fine (X:=X) (fun x hx=>(k4.items.ok x hx).code) (L:=L) (now:=now) (O:=O) hlok;obtain⟨⟨pid,pitem,pqty,pasked,prank,pst,pday,pcode⟩,hP⟩:∃ p,p=oneX (partsO X) (rowX X) lineOk L now O (Y.getD k default):=⟨_,rfl⟩
   rw[<- hP] at hstep hpk;have hpid:pid=(Y.getD k default).id:=hpk.2;rw[map_set_id hOnd (by rw[hOl];exact hixn) (hOix.trans hpid.symm)] at hstep;rw[hstep] at z1;obtain⟨W22,hW22⟩:∃ V,V=wo.alloc (stObj now nl nx (.slice a1 n1 c1) (.slice a2 n2 c2) (.slice (some ⟨go,0,none⟩) n3 co)):=⟨_,rfl⟩
   have b22:Below wo.heap.size wo W22:=by rw[hW22];exact below_allocL _ _
   have k22:W22.heap[wo.heap.size]? = some (stObj now nl nx (.slice a1 n1 c1) (.slice a2 n2 c2) (.slice (some ⟨go,0,none⟩) n3 co)):=by rw[hW22];exact heap_alloc_new _ _
   have l22:wo.heap.size<W22.heap.size:=(Array.getElem?_eq_some_iff.1 k22).1;have hBo:B<=wo.heap.size:=Nat.le_trans hB k3.size;have HONE:Hid (∀ (V:World),Below W22.heap.size W22 V->Calls Tryz.prog 12 #[.agg #[.int .i64 now,.int .i64 nl,.int .i64 nx,.slice a1 n1 c1,.slice a2 n2 c2,.slice (some ⟨go,0,none⟩) n3 co],(Y.getD k default).val] V fun e w'=>e=.returned (LineV.mk pid pitem pqty pasked prank pst pday pcode).val/\Below V.heap.size V w'/\Below wo.heap.size wo w'):=Lib.hid (fun V hb=>by
    obtain⟨a8,c8,e8,hin8⟩:=z2.in_ z4;rw[hOl] at e8 hin8;obtain⟨e81,-,e83⟩:=Value.slice.inj e8;subst e81;subst e83;have:=rOne_any W22.heap.size now nl nx a1 n1 c1 X a2 n2 c2 L (some ⟨go,0,none⟩) n3 co O (Y.getD k default) V (⟨((k4.items.mono hBo).below b22 |>.mono b22.size).below hb,((k4.lots.mono hBo).below b22 |>.mono b22.size).below hb,((hin8.below b22).mono b22.size).below hb,k4.nI,k4.nL,by omega,k4.sz⟩) hb.size hlok h1 h2 h3;rw[<- hP] at this;exact this.mono (fun e w' hh=>⟨hh.1,hh.2,b22.trans ((hb.trans (hh.2.mono hb.size)).mono b22.size)⟩))
   have e0:=hcells 0 (by decide);have e1:=hcells 1 (by decide);have e2:=hcells 2 (by decide);have e3:=hcells 3 (by decide);have e4:=hcells 4 (by decide);have e5:=hcells 5 (by decide);have e6:=hcells 6 (by decide);have e7:=hcells 7 (by decide);obtain⟨y0,y1,y2,y3,y4,y5⟩:=stObj_cells k5;obtain⟨l,hl⟩:∃ l,l=Y.getD k default:=⟨_,rfl⟩
   rw[<- hl] at e0 e1 e2 e3 e4 e5 e6 e7 HONE;obtain⟨id,item,qty,asked,rank,st,day,code⟩:=l;unfold LineV.val encStr at HONE;simp only at HONE;have E0:wo.cell? ⟨rb,k*8,none⟩=some (.int .i64 id):=e0;have E1:wo.cell? ⟨rb,k*8+1,none⟩=some (.string ⟨item.toArray⟩):=e1;have E2:wo.cell? ⟨rb,k*8+2,none⟩=some (.int .i64 qty):=e2;have E3:wo.cell? ⟨rb,k*8+3,none⟩=some (.int .i64 asked):=e3;have E4:wo.cell? ⟨rb,k*8+4,none⟩=some (.int .i64 rank):=e4;have E5:wo.cell? ⟨rb,k*8+5,none⟩=some (.int .u8 st):=e5;have E6:wo.cell? ⟨rb,k*8+6,none⟩=some (.int .i64 day):=e6;have E7:wo.cell? ⟨rb,k*8+7,none⟩=some (.string ⟨code.toArray⟩):=e7;have hrbl:rb<wo.heap.size:=(k2.ge rb rfl).2;have HROW:=Lib.hid (fun (V:World) (hb:Below W22.heap.size W22 V)=>(show V.cell? ⟨rb,k*8,none⟩=some (.int .i64 id)/\V.cell? ⟨rb,k*8+1,none⟩=some (.string ⟨item.toArray⟩)/\V.cell? ⟨rb,k*8+2,none⟩=some (.int .i64 qty)/\V.cell? ⟨rb,k*8+3,none⟩=some (.int .i64 asked)/\V.cell? ⟨rb,k*8+4,none⟩=some (.int .i64 rank)/\V.cell? ⟨rb,k*8+5,none⟩=some (.int .u8 st)/\V.cell? ⟨rb,k*8+6,none⟩=some (.int .i64 day)/\V.cell? ⟨rb,k*8+7,none⟩=some (.string ⟨code.toArray⟩) from by
    have hq:=b22.trans (hb.mono b22.size);refine⟨?_,?_,?_,?_,?_,?_,?_,?_⟩
    ·exact (hq.cell (p:=⟨rb,k*8,none⟩) hrbl).trans E0
    ·exact (hq.cell (p:=⟨rb,k*8+1,none⟩) hrbl).trans E1
    ·exact (hq.cell (p:=⟨rb,k*8+2,none⟩) hrbl).trans E2
    ·exact (hq.cell (p:=⟨rb,k*8+3,none⟩) hrbl).trans E3
    ·exact (hq.cell (p:=⟨rb,k*8+4,none⟩) hrbl).trans E4
    ·exact (hq.cell (p:=⟨rb,k*8+5,none⟩) hrbl).trans E5
    ·exact (hq.cell (p:=⟨rb,k*8+6,none⟩) hrbl).trans E6
    ·exact (hq.cell (p:=⟨rb,k*8+7,none⟩) hrbl).trans E7
   ))
   have HTC:=Lib.hid (fun (V:World) (hb:Below W22.heap.size W22 V)=>stObj_cells ((hb.block _ l22).trans k22));have HZ1:=Lib.hid z1;have HZ2:=Lib.hid z2;have HZ3:=Lib.hid z3;have HZ4:=Lib.hid z4;have HZ9:=Lib.hid z9;have HND:=Lib.hid hOnd;have HPK:=Lib.hid hpk.1;have HOIX:=Lib.hid (And.intro hOl (hOix.trans hpid.symm));have HWO:=Lib.hid (show W.heap.size<=wo.heap.size from Nat.le_trans HB17.out z9.size);have HW22:=Lib.hid hW22;have HB22:=Lib.hid b22;unfold stObj at HW22;clear hcells e0 e1 e2 e3 e4 e5 e6 e7 E0 E1 E2 E3 E4 E5 E6 E7 z1 z2 z3 z4 z9 k1 k2 k3 k4 k5 hlN hixe hlok hOl hOnd hOix hstep hpk hP hpid hW22 b22 k22 hl hix HA A0 hkY;go_upto_region 23 with (fail);rw[<- HW22.out];clear y0 y1 y2 y3 y4 y5;go_cut [9] (fun s9 wx=>∃ lb,s9=.pointer (some ⟨lb,0,none⟩)/\Hid (wx.heap[lb]? = some (lineObj pid pitem pqty pasked prank pst pday pcode))/\Hid (Below wo.heap.size wo wx)/\Hid (wo.heap.size<=lb))
   case first =>
    have bd:=Lib.hid (below_drewP (Below.refl W22.heap.size W22));obtain⟨y0,y1,y2,y3,y4,y5⟩:=HTC.out _ bd.out;obtain⟨l0,l1,l2,l3,l4,l5,l6,l7⟩:=HROW.out _ bd.out;have HKZ:=Lib.hid (fun (V:World) (hb:Below (W22.drew.alloc (lineObj 0 [] 0 0 0 0 0 [])).heap.size (W22.drew.alloc (lineObj 0 [] 0 0 0 0 0 [])) V)=>(show V.heap[W22.heap.size]? = some (lineObj 0 [] 0 0 0 0 0 []) from (hb.block _ (by rw[World.size_alloc];exact Nat.lt_succ_self _)).trans (heap_alloc_new W22.drew _)));have hbA:Below W22.heap.size W22 (W22.alloc (.cells #[.int .i64 0,.string ⟨#[]⟩,.int .i64 0,.int .i64 0,.int .i64 0,.int .u8 0,.int .i64 0,.string ⟨#[]⟩] 29)):=below_allocL _ _;obtain⟨x0,x1,x2,x3,x4,x5⟩:=HTC.out _ hbA;obtain⟨r0,r1,r2,r3,r4,r5,r6,r7⟩:=HROW.out _ hbA;clear hbA;go_region_law (refine step_call (f:=12) (args:=#[.agg #[.int .i64 now,.int .i64 nl,.int .i64 nx,.slice a1 n1 c1,.slice a2 n2 c2,.slice (some ⟨go,0,none⟩) n3 co],.agg #[.int .i64 id,.string ⟨item.toArray⟩,.int .i64 qty,.int .i64 asked,.int .i64 rank,.int .u8 st,.int .i64 day,.string ⟨code.toArray⟩]]) rfl (run_fn2 rfl rfl ent_rone _ rfl rfl) ?_;refine (HONE.out _ (by first|exact bd.out|exact bd.out.trans ((below_allocL _ _).mono bd.out.size))).mono ?_;rintro e wR ⟨rfl,hbR,hbO⟩;have bR:=Lib.hid hbO;(first|(have kz:=Lib.hid (HKZ.out wR hbR);obtain⟨z0,z1,z2,z3,z4,z5,z6,z7⟩:=lineObj_cells kz.out;obtain⟨fz0,fz1,fz2,fz3,fz4,fz5,fz6,fz7⟩:=line_frozen8 kz.out)|skip);clear hbR hbO;refine⟨_,rfl,?_⟩)
    all_goals (
     iterate 2 go_step
     go_meet
     case rel =>
      first
       | exact⟨_,rfl,Lib.hid (put8_at kz.out _ _ _ _ _ _ _ _),Lib.hid (put8_below bR.out _ _ _ _ _ _ _ _ _ (HB22.out.size)),Lib.hid HB22.out.size⟩
       | exact⟨_,rfl,Lib.hid (heap_alloc_new _ _),Lib.hid (bR.out.trans ((below_allocL _ _).mono bR.out.size)),Lib.hid bR.out.size⟩)
   case rest =>
    obtain⟨lb,rfl,HPL,HBX,HLB⟩:=hcut;have hlg:Hid (lb≠go):=Lib.hid (by have e1:=HLB.out;have e2:=HWO.out;omega);clear HLB HWO;have A1:Hid (lineE.Own w0.heap.size wc (.slice (some ⟨go,0,none⟩) n3 co) (if 0<=ix then O else O.set ix ⟨pid,pitem,pqty,pasked,prank,pst,pday,pcode⟩)/\wc.heap[lb]? = some (lineObj pid pitem pqty pasked prank pst pday pcode)/\Kp2 go go w17 wc):=Lib.hid ⟨by rw[if_pos (Nat.zero_le _)];exact HZ2.out.below HBX.out,HPL.out,HZ9.out.below HBX.out⟩;clear HBX HPL HONE HROW HTC HB22 HW22;go_wp2_with (fail);go_loopw [10] (fun s10 wr=>∃ i:Nat,s10=.int .i64 i/\i<=n3/\Hid (lineE.Own w0.heap.size wr (.slice (some ⟨go,0,none⟩) n3 co) (if i<=ix then O else O.set ix ⟨pid,pitem,pqty,pasked,prank,pst,pday,pcode⟩)/\wr.heap[lb]? = some (lineObj pid pitem pqty pasked prank pst pday pcode)/\Kp2 go go w17 wr)) (fun s10 _=>n3-(intOf s10).toNat)
    case atStart=>exact⟨0,rfl,Nat.zero_le _,A1⟩
    case round =>
     obtain⟨i,rfl,hi,HI⟩:=hrel;obtain⟨wi,rfl⟩:∃ z,z=wr:=⟨_,rfl⟩
     obtain⟨q1,q2,q3⟩:=HI.out;by_cases hit:i<n3
     ·obtain⟨Oi,hOi⟩:∃ Q,Q=(if i<=ix then O else O.set ix ⟨pid,pitem,pqty,pasked,prank,pst,pday,pcode⟩):=⟨_,rfl⟩
      rw[<- hOi] at q1;have hOil:Oi.length=n3:=(by rw[hOi];split;exact HOIX.out.1;rw[List.length_set];exact HOIX.out.1);have hco:=(q1.cell).2.1;have hcx:=(q1.cell).2.2.1;have hix0:(0:Int)<=(i:Int):=(by omega);have hix1:(i:Int)<(n3:Int):=(by omega);have hOid:(Oi.getD i default).id=(O.getD i default).id:=by
       rw[hOi];split
       ·rfl
       ·rename_i hgt;rw[List.getD_eq_getElem?_getD,List.getD_eq_getElem?_getD,List.getElem?_set,if_neg (by omega)]
      have c0:=(q1.cell).2.2.2.2.2 i hit 0 (by decide);simp only[show lineE.k=8 from rfl] at c0;have C0:wi.cell? ⟨go,i*8,none⟩=some (.int .i64 (Oi.getD i default).id):=c0;rw[hOid] at C0;obtain⟨qid,hqid⟩:∃ q,q=(O.getD i default).id:=⟨_,rfl⟩
      rw[<- hqid] at C0;have hqe:qid=pid↔i=ix:=by
       constructor
       ·intro e;have e1:(O.getD i default).id=(O.getD ix default).id:=(by rw[<- hqid,HOIX.out.2,e]);have hl:i<O.length:=(by rw[HOIX.out.1];exact hit);have hl2:ix<O.length:=(by rw[HOIX.out.1];exact hixn);rw[List.getD_eq_getElem?_getD,List.getD_eq_getElem?_getD,List.getElem?_eq_getElem hl,List.getElem?_eq_getElem hl2] at e1;exact nodup_at HND.out hl hl2 (by simpa using e1)
       ·intro e;rw[hqid,e,HOIX.out.2]
      have Q1:=Lib.hid q1;have Q2:=Lib.hid q2;have Q3:=Lib.hid q3;have HOI:=Lib.hid hOi;obtain⟨p0,p1,p2,p3,p4,p5,p6,p7⟩:=lineObj_cells q2;have hgl:=Lib.hid (q1.ge go rfl).2;have hll:=Lib.hid (Array.getElem?_eq_some_iff.1 q2).1;clear c0 hOid hOil hOi q1 q2 q3 HI A1 hqid;have f0:∀ x:BelowW wi,x.v.cell? ⟨go,i*8,none⟩=some (.int .i64 qid):=fun x=>(x.h.cell (p:=⟨go,i*8,none⟩) hgl.out).trans C0
      have f1:∀ x:BelowW wi,x.v.cell? ⟨lb,0,none⟩=some (.int .i64 pid):=fun x=>(x.h.cell (p:=⟨lb,0,none⟩) hll.out).trans p0
      clear p0 p1 p2 p3 p4 p5 p6 p7 C0;by_cases hE:i=ix
      ·have hq:=hqe.2 hE;subst hE;subst hq;clear hqe;go_upto_region 27 with (fail);refine wp_region_below wi (by kernel_rfl) (by kernel_rfl) (Below.refl _ _) ?_
       repeat (go_big_quiet_step (fail))
       refine wpQuiet_nil ?_;intro _ hw';obtain⟨y1,hw''⟩:=hw';subst hw'';have S1:Hid (lineE.Own w0.heap.size y1.v (.slice (some ⟨go,0,none⟩) n3 co) O):=Lib.hid (by have:=Q1.out.below y1.h;rw[HOI.out,if_pos (Nat.le_refl _)] at this;exact this);have S2:=Lib.hid ((y1.h.block _ hll.out).trans Q2.out);have S3:=Lib.hid (Q3.out.below y1.h);clear f0 f1 Q1 Q2 Q3;obtain⟨p0,p1,p2,p3,p4,p5,p6,p7⟩:=lineObj_cells S2.out;have c0:=(S1.out.cell).2.2.2.2.2 i hit 0 (by decide);have c1:=(S1.out.cell).2.2.2.2.2 i hit 1 (by decide);have c2:=(S1.out.cell).2.2.2.2.2 i hit 2 (by decide);have c3:=(S1.out.cell).2.2.2.2.2 i hit 3 (by decide);have c4:=(S1.out.cell).2.2.2.2.2 i hit 4 (by decide);have c5:=(S1.out.cell).2.2.2.2.2 i hit 5 (by decide);have c6:=(S1.out.cell).2.2.2.2.2 i hit 6 (by decide);have c7:=(S1.out.cell).2.2.2.2.2 i hit 7 (by decide);simp only[show lineE.k=8 from rfl] at c0 c1 c2 c3 c4 c5 c6 c7;generalize O.getD i default=oo at c0 c1 c2 c3 c4 c5 c6 c7;obtain⟨q1,q2,q3,q4,q5,q6,q7,q8⟩:=oo;have C0:y1.v.cell? ⟨go,i*8,none⟩=some (.int .i64 q1):=c0;have C1:y1.v.cell? ⟨go,i*8+1,none⟩=some (encStr q2):=c1;have C2:y1.v.cell? ⟨go,i*8+2,none⟩=some (.int .i64 q3):=c2;have C3:y1.v.cell? ⟨go,i*8+3,none⟩=some (.int .i64 q4):=c3;have C4:y1.v.cell? ⟨go,i*8+4,none⟩=some (.int .i64 q5):=c4;have C5:y1.v.cell? ⟨go,i*8+5,none⟩=some (.int .u8 q6):=c5;have C6:y1.v.cell? ⟨go,i*8+6,none⟩=some (.int .i64 q7):=c6;have C7:y1.v.cell? ⟨go,i*8+7,none⟩=some (encStr q8):=c7;have F0:y1.v.frozen? ⟨go,i*8,none⟩=false:=own_frozenL S1.out _;have F1:y1.v.frozen? ⟨go,i*8+1,none⟩=false:=own_frozenL S1.out _;have F2:y1.v.frozen? ⟨go,i*8+2,none⟩=false:=own_frozenL S1.out _;have F3:y1.v.frozen? ⟨go,i*8+3,none⟩=false:=own_frozenL S1.out _;have F4:y1.v.frozen? ⟨go,i*8+4,none⟩=false:=own_frozenL S1.out _;have F5:y1.v.frozen? ⟨go,i*8+5,none⟩=false:=own_frozenL S1.out _;have F6:y1.v.frozen? ⟨go,i*8+6,none⟩=false:=own_frozenL S1.out _;have F7:y1.v.frozen? ⟨go,i*8+7,none⟩=false:=own_frozenL S1.out _;clear c0 c1 c2 c3 c4 c5 c6 c7;obtain⟨W28,hW28⟩:∃ V,V=put8L y1.v go i qid pitem pqty pasked prank pst pday pcode:=⟨_,rfl⟩
       have O28:=Lib.hid (show lineE.Own w0.heap.size W28 (.slice (some ⟨go,0,none⟩) n3 co) (O.set i ⟨qid,pitem,pqty,pasked,prank,pst,pday,pcode⟩) by rw[hW28];exact own_set8 S1.out hit _ _ _ _ _ _ _ _);have K28:=Lib.hid (show W28.heap[lb]? = some (lineObj qid pitem pqty pasked prank pst pday pcode) by rw[hW28,put8L_block _ _ _ _ _ _ _ _ hlg.out];exact S2.out);have Kp28:=Lib.hid (show Kp2 go go w17 W28 by rw[hW28];exact put8L_kp S3.out rfl _ _ _ _ _ _ _ _);unfold put8L at hW28;go_upto_region 26 with (fail);rw[<- hW28];clear hW28 C0 C1 C2 C3 C4 C5 C6 C7 F0 F1 F2 F3 F4 F5 F6 F7 p0 p1 p2 p3 p4 p5 p6 p7;go_wp2_with (fail);go_roundw
       case rel=>exact⟨i+1,by go_num,by omega,Lib.hid ⟨by rw[if_neg (by omega)];exact O28.out,K28.out,Kp28.out⟩⟩
       case measure=>simp[intOf];omega
      ·have hq:¬ qid=pid:=fun e=>hE (hqe.1 e)
       clear hqe;go_upto_region 27 with (fail);refine wp_region_below wi (by kernel_rfl) (by kernel_rfl) (Below.refl _ _) ?_
       repeat (go_big_quiet_step (fail))
       refine wpQuiet_nil ?_;intro _ hw';obtain⟨y1,hw''⟩:=hw';subst hw'';have S1:=Lib.hid (Q1.out.below y1.h);have S2:=Lib.hid ((y1.h.block _ hll.out).trans Q2.out);have S3:=Lib.hid (Q3.out.below y1.h);clear f0 f1;go_wp2_with (fail);go_roundw
       case rel=>exact⟨i+1,by go_num,by omega,Lib.hid ⟨by have:=S1.out;rw[HOI.out] at this;rw[show (if i+1<=ix then O else O.set ix ⟨pid,pitem,pqty,pasked,prank,pst,pday,pcode⟩)=(if i<=ix then O else O.set ix ⟨pid,pitem,pqty,pasked,prank,pst,pday,pcode⟩) from by by_cases hh:i<=ix;rw[if_pos hh,if_pos (by omega)];rw[if_neg hh,if_neg (by omega)]];exact this,S2.out,S3.out⟩⟩
       case measure=>simp[intOf];omega
     ·have q1b:lineE.Own w0.heap.size wi (.slice (some ⟨go,0,none⟩) n3 co) (O.set ix ⟨pid,pitem,pqty,pasked,prank,pst,pday,pcode⟩):=(by rw[if_neg (show ¬ i<=ix by omega)] at q1;exact q1);have Q1:=Lib.hid q1b;have Q3:=Lib.hid q3;clear q1 q1b q2 q3 HI A1;go_wp2_with (fail);go_roundw
      case rel=>exact⟨k+1,O.set ix ⟨pid,pitem,pqty,pasked,prank,pst,pday,pcode⟩,by go_num,by omega,Lib.hid ⟨HZ1.out,Q1.out,ids_set HZ3.out (by rw[HOIX.out.1];exact hixn) HOIX.out.2,fun x hx=>(List.mem_or_eq_of_mem_set hx).elim (HZ4.out x) (fun e=>by rw[e];exact HPK.out),Q3.out⟩⟩
      case measure=>simp[intOf];omega
  ·have ek:Y.drop k=[]:=List.drop_eq_nil_of_le (by have:=HMm.out;omega);rw[ek] at z1;have ez:O=Z:=z1;have el:Z.length=n3:=by rw[<- ez,<- HlN.out];have:=congrArg List.length z3;simpa using this
   rw[ez] at z2;have OZ:=Lib.hid z2;have B9:=Lib.hid k3;have EL:=Lib.hid el;clear z1 z2 z3 z4 z9 k1 k2 k3 k4 k5 ek ez el;go_wp2_with (fail);exact HRR.out wo OZ.out EL.out B9.out
end Go.Proofs.YtgplnekpgdhcpaaGreat
