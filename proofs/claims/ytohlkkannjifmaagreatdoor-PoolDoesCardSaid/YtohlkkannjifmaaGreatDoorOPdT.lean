import Derived.Test.YtohlkkannjifmaaGreatDoorODeedC
import Derived.Test.YtohlkkannjifmaaGreatDoorODeed1
import Derived.Test.YtohlkkannjifmaaGreatDoorODeed5
import Derived.Test.YtohlkkannjifmaaGreatDoorODeed6
import Derived.Test.YtohlkkannjifmaaGreatDoorOCopy
namespace Go.Proofs.YtohlkkannjifmaaGreatDoor
section
set_option maxHeartbeats 4000000
set_option maxRecDepth 100000
open Go.RowKit Go.Shelf
theorem deed_any (base gb mb n K d l p:Nat) (s:StP) (m:MdP) (x:DeedV) (w:World) (h:DS base w gb mb n K d l p s m) (hl:LastV m.V s.c n) (hV:s.V=m.V) (hx:DeedI w.heap.size w x) (l1:x.r.key.length+x.r.old.length+x.r.new.length<=2000) (l2:x.r.dirty.length+x.r.opn.length<=300) (hK:K<=80000000) :
  Calls Tryz.prog 29 #[.pointer (some ⟨gb,0,none⟩),.pointer (some ⟨mb,0,none⟩),deedVal x] w (DeedG base gb mb n K d l p s w):=by
 have hr:=pickF_rng x.kind 8 (by omega);by_cases h0:pickF x.kind 8=0
 ·exact deed_read base gb mb n K d l p s m x w h hl hV hx hK h0
 by_cases h1:pickF x.kind 8=1∨pickF x.kind 8=2∨pickF x.kind 8=3∨pickF x.kind 8=4
 ·exact deed_do base gb mb n K d l p s m x w h hl hV hx l1 l2 hK h1
 by_cases h5:pickF x.kind 8=5
 ·exact deed_again base gb mb n K d l p s m x w h hl hV hx hK h5
 by_cases h6:pickF x.kind 8=6
 ·exact deed_clean base gb mb n K d l p s m x w h hl hV hx hK h6
 ·exact deed_force base gb mb n K d l p s m x w h hl hV hx hK (by omega)
def isB (Y:List (Fin 8192×Int)) (j k:Nat):Bool:=(Y.take k).any fun x=>((x.1.val:Int) == (j:Int))
theorem isB_succ (Y:List (Fin 8192×Int)) (j k:Nat) (h:k<Y.length):isB Y j (k+1)=(isB Y j k || (((Y.getD k default).1.val:Int) == (j:Int))):=by
 unfold isB;rw[List.take_succ_eq_append_getElem h,List.any_append,List.getD_eq_getElem?_getD,List.getElem?_eq_getElem h];simp
theorem isB_none {Y:List (Fin 8192×Int)} {j:Nat} (h:isB Y j Y.length=false):∀ x∈Y,(x.1.val:Int)≠(j:Int):=fun x hx e=>by
 unfold isB at h;rw[List.take_length,List.any_eq_false] at h;exact h x hx (by simpa using e)
theorem now_at (w:World) (Mr:Nat->Prop) (mb n:Nat) (V:Nat->List (List UInt8)) (vs ds:Value) (X:List SlAt) (A:Nat->List VerAt) (Z:List RecAt) (h:ModE w Mr mb n V vs ds X A Z) (i:Nat) (hi:i<n) (_hn:n<=1000) (k:Nat) (hk:(V i).length=k+1) (hV2:(V i).length<=1000000000) :
  Calls Tryz.prog 33 #[.pointer (some ⟨mb,0,none⟩),.int .i64 (i:Int)] w fun e w'=>e=.returned (.slice ((A i).getD k default).1 512 ((A i).getD k default).2)/\∃ q,w'=w.drewN q:=by
 obtain⟨c0,-⟩:=h.mc;obtain⟨vg,vc,rfl,hvc,hvm,hvg,c1⟩:=h.at_ hi;obtain⟨pg,pc,hsl,hpc,hpm,hpg,cv⟩:=h.ver hi (by omega);rw[hsl] at c1;have c2:=cv k (by omega);generalize (A i).getD k default=x at c2 ⊢;obtain⟨xa,xc⟩:=x;dsimp only at c2 ⊢;rw[hk] at c1 hpc hV2;clear h hsl cv hk;go_enter Tryz.func33,Tryz.ntmps33;go_wp2_with (fail);go_quiet (fail);go_wp2_with (fail);go_ret;exact⟨rfl,_,rfl⟩
theorem DS.nowQ {base:Nat} {w:World} {gb mb n K d l p:Nat} {s:StP} {m:MdP} {cm:Int->List UInt8} (h:DS base w gb mb n K d l p s m) (hl:LastV m.V cm n) (hK:K<=100000000) {i:Nat} (hi:i<n) :
  ∃ a c,∀ x:BelowW w,(Calls Tryz.prog 33 #[.pointer (some ⟨mb,0,none⟩),.int .i64 (i:Int)] x.v fun e w'=>e=.returned (.slice a 512 c)/\∃ q,w'=x.v.drewN q) /\
   Calls Tryz.prog 32 #[.slice a 512 c] x.v fun e w'=>e=.returned (.int .i64 (lsnL (cm i)))/\Below x.v.heap.size x.v w':=by
 have hg:=hl i (by omega) (by omega);have hv:=h.vl (i:Int);have h0:=lastV_pos hl (show (0:Int)<=i by omega) (by omega);obtain⟨k,hk⟩:∃ k,(m.V (i:Int)).length=k+1:=⟨(m.V (i:Int)).length-1,by omega⟩
 have hr:=h.mod.byt i hi k (by omega);have e:(m.V (i:Int)).getD k []=cm i:=by
  rw[List.getLast?_eq_getElem?,hk,Nat.add_sub_cancel] at hg;rw[List.getD_eq_getElem?_getD,hg];rfl
 rw[e] at hr;exact⟨_,_,fun x=>⟨now_at x.v m.Mr mb n (fun i=>m.V i) m.vs m.ds m.X m.A m.Z (h.below x.h).mod i hi (by have:=h.n1;omega) k hk (by omega),Lsn_any w.heap.size _ 512 _ (cm i) x.v (hr.below x.h) x.h.size⟩⟩
end
section
set_option maxHeartbeats 8000000
set_option maxRecDepth 100000
open Go.RowKit Go.Shelf
theorem pd_tail (base gb mb n K d l p:Nat) (s:StP) (m:MdP) (w:World) (h:DS base w gb mb n K d l p s m) (hl:LastV m.V s.c n) (hV:s.V=m.V) (hK:K<=90000000) (R:Ending->World->Prop) (hR:∀ w',Below base w w'->R (.returned (.bool true)) w') (s1 s2 s3 s4 s5 s6 s9 s10 s11 s12 s13 s14 s15 s16 s17 s18 s19 s20 s21 s22 s23 s24 s25 s26 s27 s28 s29 s30 s31 s32 s33 s34 s35 s36 s37 s38 s39 s40 s41 s42 s43 s44 s45 s46 s47 s48 s49 s50 s51 s52 s53 s54 s55 s56 s57 s58 s59 s60 s61 s62 s63 s64 s65 s66 s67 s68 s69 s70 s71 s72 s73 s74 s75 s76 s77 s78 s79 s80 s81 s82 s83 s84 s85 s86 s87 s88 s89 s90 s91 s92 s93 s94 s95 s96 s97 s98 s99 s100 s101 s102 s103 s104 s105 s106 s107 s108 s109 s110 s111 s112 s113 s114 s115 s116 s117 s118 s119 s120 s121 s122 s123 s124 s125 s126 s127 s128 s129 s130 s131 s132 s133 s134 s135 s136 s137 s138 s139 s140 s141 s142 s143 s144 s145 s146 s147 s148 s149 s150 s151 s152 s153 s154 s155 s156 s157 s158 s159 s160 s161 s162 s163 s164 s165 s166 s167 s168 s169 s170 s171 s172 s173 s174 s175 s176 s177 s178 s179 s180 s181 s182 s183 s184 s185 s186 s187 s188 s189 s190 s191 s192 s193 s194 s195 s196 s197 s198 s199 s200 s201 s202 s203 s204 s205 s206 s207 s208 s209 s210 s211 s212 s213 s214 s215 s216 s217 s218 s219 s220 s221 s222 s223 s224 s225 s226 s227 s228 s229 s230 s231 s232 s233 s234 s235 s236 s237 s238 s239 s240 s241 s242 s243 s244 s245 s246 s247 s248 s249 s250 s251 s252:Value) :
  Code.wp Tryz.prog (dropQ 9 (Tryz.f5.body.getD .skip)) (bodyPost Tryz.prog Tryz.f5 R) ⟨List.toArray ((.int .i64 (n:Int))::s1::s2::s3::s4::s5::s6::(.pointer (some ⟨gb,0,none⟩))::(.pointer (some ⟨mb,0,none⟩))::s9::s10::s11::s12::s13::s14::s15::s16::s17::s18::s19::s20::s21::s22::s23::s24::s25::s26::s27::s28::s29::s30::s31::s32::s33::s34::s35::s36::s37::s38::s39::s40::s41::s42::s43::s44::s45::s46::s47::s48::s49::s50::s51::s52::s53::s54::s55::s56::s57::s58::s59::s60::s61::s62::s63::s64::s65::s66::s67::s68::s69::s70::s71::s72::s73::s74::s75::s76::s77::s78::s79::s80::s81::s82::s83::s84::s85::s86::s87::s88::s89::s90::s91::s92::s93::s94::s95::s96::s97::s98::s99::s100::s101::s102::s103::s104::s105::s106::s107::s108::s109::s110::s111::s112::s113::s114::s115::s116::s117::s118::s119::s120::s121::s122::s123::s124::s125::s126::s127::s128::s129::s130::s131::s132::s133::s134::s135::s136::s137::s138::s139::s140::s141::s142::s143::s144::s145::s146::s147::s148::s149::s150::s151::s152::s153::s154::s155::s156::s157::s158::s159::s160::s161::s162::s163::s164::s165::s166::s167::s168::s169::s170::s171::s172::s173::s174::s175::s176::s177::s178::s179::s180::s181::s182::s183::s184::s185::s186::s187::s188::s189::s190::s191::s192::s193::s194::s195::s196::s197::s198::s199::s200::s201::s202::s203::s204::s205::s206::s207::s208::s209::s210::s211::s212::s213::s214::s215::s216::s217::s218::s219::s220::s221::s222::s223::s224::s225::s226::s227::s228::s229::s230::s231::s232::s233::s234::s235::s236::s237::s238::s239::s240::s241::s242::s243::s244::s245::s246::s247::s248::s249::s250::s251::s252::[]),[]⟩ w:=by
 conv=>arg 2;whnf
 have hn1:=h.n1;have H:=φ h;have HL:=φ hl;have HV:=φ hV;have HK:=φ hK;have HR:=φ hR;clear h hl hV hK hR;go_wp2_with (fail);go_loopw [15] (fun s15 wr=>∃ j:Nat,s15=.int .i64 j/\j<=n/\Hid (Below w.heap.size w wr)) (fun s15 _=>n-(intOf s15).toNat)
 case atStart=>exact⟨0,rfl,Nat.zero_le _,φ (Below.refl _ _)⟩
 case round =>
  obtain⟨j,rfl,hj,HB⟩:=hrel;obtain⟨W,rfl⟩:∃ z,z=wr:=⟨_,rfl⟩
  have HDW:=φ (H.out.below HB.out);by_cases hlt:j<n
  ·obtain⟨k0,k1,k2,k3,k4⟩:=HDW.out.cells;have HDg:=φ HDW.out.rig.dirty;have HJ:=φ hlt;go_upto_region 35 with (go_at_call 31;(with_reducible refine HDg.out.mono ?_);rintro e w6 ⟨da,dn,dc,Y,rfl,hyn,hyp,-,hyo,hyb⟩;have HD6:=φ (HDW.out.below hyb);have HB6:Hid (Below w.heap.size w w6):=φ (HB.out.trans (hyb.mono HB.out.size));have HYn:=φ hyn;have HYp:=φ hyp;have HYo:=φ hyo;clear hyn hyp hyo hyb);clear HDg k0 k1 k2 k3 k4;have HCe:Hid (∀ k,k<dn->∃ g,da=some ⟨g,0,none⟩/\dn<=dc/\dc<=9223372036854775807/\w6.cell? ⟨g,k*2,none⟩=some (.int .i64 ((Y.getD k default).1.val:Int))):=φ (fun k hk=>by
    obtain⟨a',c',hv,-,-,ha⟩:=HYo.out.form
    cases hv
    obtain⟨g,rfl⟩:=ha (by omega);obtain⟨-,hle,hmx,-,-,hc⟩:=HYo.out.cell;exact⟨g,rfl,hle,hmx,hc k hk 0 (by decide)⟩)
   clear HYo;go_wp2_with (fail);go_loopw [17,18] (fun s17 s18 wr2=>∃ k:Nat,s17=.bool (isB Y j k)/\s18=.int .i64 k/\k<=dn/\Hid (wr2=w6)) (fun _ s18 _=>dn-(intOf s18).toNat)
   case atStart=>exact⟨0,rfl,rfl,Nat.zero_le _,φ rfl⟩
   case round =>
    obtain⟨k,rfl,rfl,hk,HW2⟩:=hrel;have hw2:=HW2.out;subst hw2;by_cases hkl:k<dn
    ·obtain⟨g,rfl,hle,hmx,hce⟩:=HCe.out k hkl;have HIs:=φ (isB_succ Y j k (by rw[<- HYn.out];exact hkl))
     cases hib:isB Y j k with
     | true =>
      go_wp2_with (fail);go_roundw
      case rel=>exact⟨k+1,by rw[HIs.out,hib];rfl,by go_num,by omega,φ trivial⟩
      case measure=>simp[intOf];omega
     | false =>
      generalize ((Y.getD k default).1.val:Int)=z at hce HIs;go_wp2_with (fail);go_roundw
      case rel=>exact⟨k+1,by rw[HIs.out,hib];rfl,by go_num,by omega,φ trivial⟩
      case measure=>simp[intOf];omega
    ·have hke:k=dn:=(by omega);have hib:isB Y j k=isB Y j Y.length:=(by rw[hke,HYn.out]);obtain⟨k0,k1,k2,k3,k4⟩:=HD6.out.cells;have hjj:(0:Int)<=(j:Int)/\(j:Int)<(n:Int):=⟨by omega,by have:=HJ.out;omega⟩
     have HPj:=φ hjj;have hwr:IntKind.i64.wrap (40+(j:Int))=40+(j:Int):=IntWalk.i64_in _ (by have:=HJ.out;omega);have HRd:=φ (HD6.out.dread (i:=(j:Int)) hjj);have HLt:=φ (HD6.out.std.dsk (j:Int) hjj.1 (by rw[HD6.out.cnt];exact hjj.2));rw[HD6.out.fst] at HLt;rw[hib];subst hke;clear hib hjj hkl hk HCe
     cases hbb:isB Y j Y.length with
     | true =>
      clear hbb;go_upto_region 40 with (first|(go_at_call 34;(with_reducible refine HRd.out.mono ?_);rintro e w7 ⟨v,rfl,-,hd7,hb7⟩;obtain⟨l0,l1,l2,l3,l4⟩:=hd7.cells;have HB7:Hid (Below w.heap.size w w7):=φ (HB6.out.trans (hb7.mono HB6.out.size));clear hd7 hb7));clear HRd hwr k0 k1 k2 k3 k4;go_wp2_with (fail);go_roundw
      case rel=>exact⟨j+1,by go_num,by have:=HJ.out;omega,HB7⟩
      case measure=>have:=HJ.out;simp[intOf];omega
     | false =>
      have HLa:Hid (s.D.latest (40+(j:Int))=s.c j/\(s.c j).length=512):=φ (by
       have hp:=HD6.out.rig.pg (j:Int) HPj.out.1 (by rw[HD6.out.cnt];exact HPj.out.2);have hc:=clean_latest HD6.out.rig.well HD6.out.rig.pg HPj.out.1 (by rw[HD6.out.cnt];exact HPj.out.2) (dirty_all HD6.out HYp.out (isB_none hbb));rw[HD6.out.fst] at hc;exact⟨hc,hp.2.len⟩)
      rw[HLa.out.1] at HRd;clear hbb;go_upto_region 40 with (first|(go_at_call 34;(with_reducible refine HRd.out.mono ?_);rintro e w7 ⟨v,rfl,ho,hd7,hb7⟩;obtain⟨va,vcap,rfl,hrb⟩:=ho.rb (by have:=HLa.out.2;omega);rw[HLa.out.2] at hrb;have HR7:=φ hrb;obtain⟨l0,l1,l2,l3,l4⟩:=hd7.cells;have HD7:=φ hd7;have HB7:Hid (Below w.heap.size w w7):=φ (HB6.out.trans (hb7.mono HB6.out.size));have HNw:=φ (hd7.now HL.out (by have:=HK.out;omega) (i:=(j:Int)) HPj.out);clear ho hrb hd7 hb7));rw[HLa.out.2];clear HRd hwr k0 k1 k2 k3 k4;go_wp2_with (first
       | (go_at_call 33;(with_reducible refine HNw.out.mono ?_);rintro e w8 ⟨⟨na,nc,rfl,hrn⟩,q8,rfl⟩;have HSb:=φ (SameBytes_any w7.heap.size va na 512 vcap 512 nc (s.c j) (s.c j) (w7.drewN q8) (HR7.out.below (δ (Below.refl _ _) q8)) (hrn.below (δ (Below.refl _ _) q8)));rw[eqB_self] at HSb;clear hrn)
       | (go_at_call 14;(with_reducible refine HSb.out.mono ?_);rintro e w9 ⟨rfl,q9,rfl⟩))
      go_roundw
      case rel=>exact⟨j+1,by go_num,by have:=HJ.out;omega,φ (δ HB7.out _)⟩
      case measure=>have:=HJ.out;simp[intOf];omega
  ·have hje:j=n:=by omega
   subst hje;clear hlt;go_wp2_with (fail);exact HR.out _ (HB.out.mono H.out.bs)
end
end Go.Proofs.YtohlkkannjifmaaGreatDoor
