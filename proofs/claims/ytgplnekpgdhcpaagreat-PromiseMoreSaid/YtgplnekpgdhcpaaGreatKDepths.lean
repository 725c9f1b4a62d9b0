/- How deep items are, by the document: round by round. Whether items are sound: plain Lean. How deep items are, by the program. -/
import Derived.Test.YtgplnekpgdhcpaaGreatKDeep
import Derived.Test.YtgplnekpgdhcpaaGreatJPure
import Derived.Maps.RangeWalk
import Derived.Sort.KeysCollected
namespace Go.Proofs.YtgplnekpgdhcpaaGreat
open Go.RowKit
def cd (X:List It) (i:Nat):List UInt8:=(X.getD i default).code
theorem cd_mem {X:List It} {i:Nat} (hi:i < X.length):cd X i∈codes X:=List.mem_map.2 ⟨_,getD_mem hi,rfl⟩
theorem cd_inj {X:List It} (hd:(codes X).Nodup) {i j:Nat} (hi:i < X.length) (hj:j < X.length) (h:cd X i=cd X j):i=j:=by
 have e:∀ k,k < X.length->(codes X)[k]? = some (cd X k):=fun k hk=>by
  unfold codes cd
  rw[List.getElem?_map,List.getElem?_eq_getElem hk,List.getD_eq_getElem?_getD,List.getElem?_eq_getElem hk];rfl
 have hl:(codes X).length=X.length:=by unfold codes;rw[List.length_map]
 exact (List.getElem?_inj (by rw[hl];exact hi) hd).1 (by rw[e i hi,e j hj,h])
theorem itF_cd {X:List It} (hd:(codes X).Nodup) {i:Nat} (hi:i < X.length):itF X (cd X i)=some (X.getD i default):=by
 obtain⟨x,hx,hxm,hxc⟩:=itF_some (cd_mem hi)
 obtain⟨j,hj,rfl⟩:=List.getElem_of_mem hxm
 have hjd:X[j]=X.getD j default:=by rw[List.getD_eq_getElem?_getD,List.getElem?_eq_getElem hj];rfl
 have:j=i:=cd_inj hd hj hi (by unfold cd at *;rw[<- hjd];exact hxc)
 subst this
 rw[hx,hjd]
theorem kids_cd {X:List It} (hd:(codes X).Nodup) {i:Nat} (hi:i < X.length):kidsX X (cd X i)=(X.getD i default).ps.map (·.1):=by
 unfold kidsX
 rw[itF_cd hd hi]
theorem there {X:List It} {c:List UInt8} (h:c∈codes X):∃ i,i < X.length/\fI X c=(i:Int)/\cd X i=c:=by
 obtain⟨x,hx,rfl⟩:=List.mem_map.1 h
 obtain⟨j,hj,rfl⟩:=List.getElem_of_mem hx
 exact fI_there ⟨j,hj,by rw[List.getD_eq_getElem?_getD,List.getElem?_eq_getElem hj];rfl⟩
end Go.Proofs.YtgplnekpgdhcpaaGreat
namespace Go.Proofs.YtgplnekpgdhcpaaGreat
open Go.RowKit
def okIt (X:List It) (i:Nat):Bool:=okCode (cd X i) && (decide (i=0) || Op.bytesLess (cd X (i - 1)) (cd X i)) && okShape (X.getD i default).life (X.getD i default).ps
def allOk (X:List It):Bool:=decide (∀ i,i < X.length->okIt X i=true)
def found (X:List It):Bool:=decide (∀ i,i < X.length->∀ k,k < (X.getD i default).ps.length->((X.getD i default).ps.getD k default).1∈codes X)
def tellX (X:List It) (c:List UInt8):Nat:=(hgt (kidsX X) X.length c).getD 0
def roundX (X:List It):Bool:=decide (∃ i,i < X.length/\tellX X (cd X i)=0)
def tooDeep (X:List It):Bool:=decide (∃ i,i < X.length/\8 < tellX X (cd X i))
def chkE (X:List It):Int:=if 60 < X.length then 3 else if allOk X=false then 4 else if found X=false then 150 else if roundX X=true then 152 else if tooDeep X=true then 3 else 0
theorem chk_long {X:List It} (h:60 < X.length):chkE X=3:=by unfold chkE;rw[if_pos h]
theorem chk_bad {X:List It} (h:¬ 60 < X.length) {i:Nat} (hi:i < X.length) (hb:okIt X i=false):chkE X=4:=by
 unfold chkE
 rw[if_neg h,if_pos]
 unfold allOk
 exact decide_eq_false fun k=>by rw[k i hi] at hb;cases hb
theorem allOk_of {X:List It} (h:∀ i,i < X.length->okIt X i=true):allOk X=true:=decide_eq_true h
theorem chk_part {X:List It} (h:¬ 60 < X.length) (ha:allOk X=true) {i k:Nat} (hi:i < X.length) (hk:k < (X.getD i default).ps.length) (hb:((X.getD i default).ps.getD k default).1 ∉ codes X):chkE X=150:=by
 unfold chkE
 rw[if_neg h,if_neg (by rw[ha];decide),if_pos]
 unfold found
 exact decide_eq_false fun f=>hb (f i hi k hk)
theorem found_of {X:List It} (h:∀ i,i < X.length->∀ k,k < (X.getD i default).ps.length->((X.getD i default).ps.getD k default).1∈codes X):found X=true:=decide_eq_true h
theorem chk_round {X:List It} (h:¬ 60 < X.length) (ha:allOk X=true) (hf:found X=true) {i:Nat} (hi:i < X.length) (hb:tellX X (cd X i)=0):chkE X=152:=by
 unfold chkE
 rw[if_neg h,if_neg (by rw[ha];decide),if_neg (by rw[hf];decide),if_pos]
 exact decide_eq_true ⟨i,hi,hb⟩
theorem chk_deep {X:List It} (h:¬ 60 < X.length) (ha:allOk X=true) (hf:found X=true) (hr:∀ i,i < X.length->tellX X (cd X i)≠0) {i:Nat} (hi:i < X.length) (hb:8 < tellX X (cd X i)):chkE X=3:=by
 unfold chkE
 rw[if_neg h,if_neg (by rw[ha];decide),if_neg (by rw[hf];decide),if_neg,if_pos]
 ·exact decide_eq_true ⟨i,hi,hb⟩
 ·unfold roundX
  rw[decide_eq_true_eq]
  rintro⟨j,hj,e⟩
  exact hr j hj e
theorem chk_fine {X:List It} (h:¬ 60 < X.length) (ha:allOk X=true) (hf:found X=true) (hr:∀ i,i < X.length->tellX X (cd X i)≠0) (hd:∀ i,i < X.length->tellX X (cd X i)<=8):chkE X=0:=by
 unfold chkE
 rw[if_neg h,if_neg (by rw[ha];decide),if_neg (by rw[hf];decide),if_neg,if_neg]
 ·unfold tooDeep
  rw[decide_eq_true_eq]
  rintro⟨j,hj,e⟩
  have:=hd j hj
  omega
 ·unfold roundX
  rw[decide_eq_true_eq]
  rintro⟨j,hj,e⟩
  exact hr j hj e
theorem okIt_parts {X:List It} {i:Nat} (h:okIt X i=true):okCode (cd X i)=true/\(i=0∨cd X (i - 1) < cd X i)/\okShape (X.getD i default).life (X.getD i default).ps=true:=by
 unfold okIt at h
 rw[Bool.and_eq_true,Bool.and_eq_true,Bool.or_eq_true,decide_eq_true_eq,less_iff,decide_eq_true_eq] at h
 exact⟨h.1.1,h.1.2,h.2⟩
theorem codes_up {X:List It} (h:∀ i,i < X.length->okIt X i=true):∀ j i,i < j->j < X.length->cd X i < cd X j
 | 0,i,hi,_=>absurd hi (Nat.not_lt_zero _)
 | j+1,i,hi,hj=>by
  have h1:=((okIt_parts (h (j+1) hj)).2.1).resolve_left (by omega)
  rw[Nat.add_sub_cancel] at h1
  by_cases e:i=j
  ·rw[e];exact h1
  ·exact List.lt_trans (codes_up h j i (by omega) (by omega)) h1
theorem codes_nodup {X:List It} (h:∀ i,i < X.length->okIt X i=true):(codes X).Nodup:=by
 unfold codes
 rw[List.nodup_iff_pairwise_ne,List.pairwise_map,List.pairwise_iff_getElem]
 intro i j hi hj hij e
 have h1:=codes_up h j i hij hj
 have ei:∀ k (hk:k < X.length),X[k].code=cd X k:=fun k hk=>by
  unfold cd
  rw[List.getD_eq_getElem?_getD,List.getElem?_eq_getElem hk];rfl
 rw[<- ei i hi,<- ei j hj,e] at h1
 exact List.lt_irrefl _ h1
theorem code_ne {X:List It} (h:∀ i,i < X.length->okIt X i=true):∀ x∈X,x.code≠[]:=fun x hx e=>by
 obtain⟨i,hi,rfl⟩:=List.getElem_of_mem hx
 have h1:=(okIt_parts (h i hi)).1
 have e2:cd X i=[]:=by
  unfold cd
  rw[List.getD_eq_getElem?_getD,List.getElem?_eq_getElem hi]
  exact e
 rw[e2] at h1
 cases h1
theorem found_kids {X:List It} (hd:(codes X).Nodup) (h:∀ i,i < X.length->∀ k,k < (X.getD i default).ps.length->((X.getD i default).ps.getD k default).1∈codes X):∀ c∈codes X,∀ p∈kidsX X c,p∈codes X:=fun c hc p hp=>by
 obtain⟨i,hi,-,rfl⟩:=there hc
 rw[kids_cd hd hi] at hp
 obtain⟨q,hq,rfl⟩:=List.mem_map.1 hp
 obtain⟨k,hk,rfl⟩:=List.getElem_of_mem hq
 have:=h i hi k hk
 rw[List.getD_eq_getElem?_getD,List.getElem?_eq_getElem hk] at this
 exact this
theorem okIt_code {X:List It} {i:Nat} (h:okCode (cd X i)=false):okIt X i=false:=by unfold okIt;rw[h];rfl
theorem okIt_less {X:List It} {i:Nat} (h0:0 < i) (h:Op.bytesLess (cd X (i - 1)) (cd X i)=false):okIt X i=false:=by
 unfold okIt
 rw[h,decide_eq_false (by omega)];simp
theorem okIt_shape {X:List It} {i:Nat} (h:okShape (X.getD i default).life (X.getD i default).ps=false):okIt X i=false:=by unfold okIt;rw[h];simp
theorem okIt_yes {X:List It} {i:Nat} (h1:okCode (cd X i)=true) (h2:i=0∨Op.bytesLess (cd X (i - 1)) (cd X i)=true) (h3:okShape (X.getD i default).life (X.getD i default).ps=true):okIt X i=true:=by
 unfold okIt
 rw[h1,h3]
 rcases h2 with h | h
 ·rw[decide_eq_true h];rfl
 ·rw[h];simp
end Go.Proofs.YtgplnekpgdhcpaaGreat
namespace Go.Proofs.YtgplnekpgdhcpaaGreat
open Go.RowKit Go.Maps
theorem LK.keep {W W':World} {B bo ba bl mo ma n:Nat} {fv:Value} {X:List It} (h:LK W B bo ba bl mo ma n fv X) {g:Nat} (hg:W.grownBy W' (some g)) (hBW:B<=W.heap.size) (h1:bo≠g) (h2:ba≠g) (h3:bl≠g) (h4:ma≠g) (h5:B<=g):LK W' B bo ba bl mo ma n fv X:=by
 have hb:Below B W W':=(Below.refl B W).grown hg hBW (fun k e=>by rw[<- Option.some.inj e];exact h5)
 have cell:∀ {x:Nat},x < W.heap.size->x≠g->W'.cell? ⟨x,0,none⟩=W.cell? ⟨x,0,none⟩:=fun hx hne=>World.cell?_of_block (w:=W) (hg.block _ hx (fun e=>hne (Option.some.inj e)))
 exact⟨(cell h.lo h1).trans h.co,(cell h.la h2).trans h.ca,(cell h.ll h3).trans h.cl,h.all.kept hg (fun e=>h4 (Option.some.inj e)),fun x hx=>(h.ok x hx).below hb,h.no,h.na,h.nl,h.nm,Nat.lt_of_lt_of_le h.lo hg.size,Nat.lt_of_lt_of_le h.la hg.size,Nat.lt_of_lt_of_le h.ll hg.size,h.hB⟩
def DepPost (X:List It) (w:World) (e:Ending) (w':World):Prop :=
 ((∃ mo N o,e = .returned (.tuple #[.map (some mo),.bool true])/\MF w' mo N (.int .i64 0) (oV o)/\N<=1000/\w.heap.size<=mo/\DI (kidsX X) o/\(∀ c,o c≠-1)/\(∀ c∈codes X,0 < o c)/\∀ s,s ∉ codes X->o s=0)∨(e = .returned (.tuple #[.map none,.bool false])/\∃ x∈codes X,∀ k,hgt (kidsX X) k x=none))/\Below w.heap.size w w'
theorem sameKey_strings_ne {s x:List UInt8} (h:s≠x):(Lit.string s).sameKey (.string x)=false:=by
 unfold Lit.sameKey
 simpa using h
theorem one_at {W:World} {g:Nat} {u:Value} {t:TypeId} (h:W.heap[g]? = some (.cells #[u] t)):W.cell? ⟨g,0,none⟩=some u:=by unfold World.cell?;rw[h];rfl
theorem al_old (w:World) (o:Obj) {k:Nat} (hk:k < w.heap.size):(w.alloc o).heap[k]? = w.heap[k]?:=((Below.refl w.heap.size w).alloc (Nat.le_refl _) o).block k hk
def depF (g:Nat):Value:=.func (.func 144) #[] #[.pointer (some ⟨g+1+1,0,none⟩),.pointer (some ⟨g,0,none⟩),.pointer (some ⟨g+1+1+1,0,none⟩)]
def depW (w:World) (ma:Nat):World:=(((w.alloc (.cells #[.map (some ma)] 112)).alloc (.map #[] 0)).alloc (.cells #[.map (some (w.heap.size+1))] 113)).alloc (.cells #[depF w.heap.size] 80)
theorem dep_start {B ma n:Nat} {X:List It} {w:World} (hall:MF w ma n zItem (bookF X)) (hok:∀ x∈X,ItOk B w x) (hB:B<=w.heap.size) :
  LK (depW w ma) w.heap.size (w.heap.size+1+1) w.heap.size (w.heap.size+1+1+1) (w.heap.size+1) ma n (depF w.heap.size) X/\MF (depW w ma) (w.heap.size+1) 0 (.int .i64 0) (oV (fun _=>0))/\Below w.heap.size w (depW w ma)/\(depW w ma).heap.size=w.heap.size+4:=by
 obtain⟨g,hg⟩:∃ g,g=w.heap.size:=⟨_,rfl⟩
 have hma:=hall.lt
 unfold depW
 rw[<- hg]
 obtain⟨W1,h1⟩:∃ W,W=w.alloc (.cells #[.map (some ma)] 112):=⟨_,rfl⟩
 have s1:W1.heap.size=g+1:=by rw[h1,World.size_alloc,hg]
 have a1:W1.heap[g]? = some (.cells #[.map (some ma)] 112):=by rw[h1,hg];exact heap_alloc_new _ _
 have b1:Below g w W1:=by rw[h1,hg];exact (Below.refl _ w).alloc (Nat.le_refl _) _
 rw[<- h1]
 obtain⟨W2,h2⟩:∃ W,W=W1.alloc (.map #[] 0):=⟨_,rfl⟩
 have s2:W2.heap.size=g+1+1:=by rw[h2,World.size_alloc,s1]
 have m2:MF W2 (g+1) 0 (.int .i64 0) (oV (fun _=>0)):=by rw[h2,<- s1];exact MF.made W1 _
 have k2:∀ k,k < g+1->W2.heap[k]? = W1.heap[k]?:=fun k hk=>by rw[h2];exact al_old _ _ (by rw[s1];exact hk)
 have b2:Below g w W2:=b1.trans (by rw[h2];exact (Below.refl _ _).alloc (by rw[s1];omega) _)
 rw[<- h2]
 obtain⟨W3,h3⟩:∃ W,W=W2.alloc (.cells #[.map (some (g+1))] 113):=⟨_,rfl⟩
 have s3:W3.heap.size=g+1+1+1:=by rw[h3,World.size_alloc,s2]
 have a3:W3.heap[g+1+1]? = some (.cells #[.map (some (g+1))] 113):=by rw[h3,<- s2];exact heap_alloc_new _ _
 have k3:∀ k,k < g+1+1->W3.heap[k]? = W2.heap[k]?:=fun k hk=>by rw[h3];exact al_old _ _ (by rw[s2];exact hk)
 have b3:Below g w W3:=b2.trans (by rw[h3];exact (Below.refl _ _).alloc (by rw[s2];omega) _)
 rw[<- h3]
 obtain⟨W4,h4⟩:∃ W,W=W3.alloc (.cells #[depF g] 80):=⟨_,rfl⟩
 have s4:W4.heap.size=g+4:=by rw[h4,World.size_alloc,s3]
 have a4:W4.heap[g+1+1+1]? = some (.cells #[depF g] 80):=by rw[h4,<- s3];exact heap_alloc_new _ _
 have k4:∀ k,k < g+1+1+1->W4.heap[k]? = W3.heap[k]?:=fun k hk=>by rw[h4];exact al_old _ _ (by rw[s3];exact hk)
 have b4:Below g w W4:=b3.trans (by rw[h4];exact (Below.refl _ _).alloc (by rw[s3];omega) _)
 rw[<- h4]
 have b4':Below w.heap.size w W4:=hg ▸ b4
 refine⟨⟨one_at ((k4 _ (by omega)).trans a3),one_at ((k4 _ (by omega)).trans ((k3 _ (by omega)).trans ((k2 _ (by omega)).trans a1))),one_at a4,hall.below b4' hma,fun x hx=>((hok x hx).below (b4'.mono hB)).mono (by rw[hg];exact hB),by omega,by omega,by omega,by omega,by omega,by omega,by omega,by omega⟩,m2.block ((k4 _ (by omega)).trans (k3 _ (by omega))),b4,s4⟩
set_option maxHeartbeats 4000000 in
set_option maxRecDepth 100000 in
theorem depths_any (B ma n:Nat) (X:List It) (w:World) (hall:MF w ma n zItem (bookF X)) (hok:∀ x∈X,ItOk B w x) (hB:B<=w.heap.size) (hd:(codes X).Nodup) (hV:∀ c∈codes X,∀ p∈kidsX X c,p∈codes X) (hl:X.length<=60) (hne:∀ x∈X,x.code≠[]) :
  Calls Tryz.prog 117 #[.map (some ma)] w (DepPost X w):=by
 have hmk:=@run_makeMap Tryz.prog
 have hsf:∀ (a:Addr) (f:Fn) (x y:Array Value) (W:World),(store a (.func f x y)).run Tryz.prog W=stored Tryz.prog W a (.func f x y) .plain:=fun a f x y W=>run_store Tryz.prog W a _ _ rfl
 obtain⟨hL0,hM0,hb0,hs0⟩:=dep_start hall hok hB
 obtain⟨W4,hW4⟩:∃ W,W=depW w ma:=⟨_,rfl⟩
 have hW4':=hW4
 unfold depW depF at hW4'
 rw[<- hW4] at hL0 hM0 hb0 hs0
 have HL0:=Lib.hid hL0
 have HM0:=Lib.hid hM0
 have HB0:=Lib.hid hb0
 have HS0:=Lib.hid hs0
 have HMA:=Lib.hid hall.lt
 have HD:=Lib.hid hd
 have HV:=Lib.hid hV
 have HNE:=Lib.hid hne
 clear hall hok hL0 hM0 hb0 hs0 hd hV hne hW4
 go_enter Tryz.func117,Tryz.ntmps117
 go_upto_region 4 with (fail)
 rw[<- hW4']
 obtain⟨g,hg⟩:∃ g,g=w.heap.size:=⟨_,rfl⟩
 rw[<- hg] at HL0 HM0 HB0 HS0 HMA ⊢
 have HG:=Lib.hid hg
 clear hg hW4'
 obtain⟨D,hown,hat,hhas⟩:=HL0.out.all
 have HOWN:=Lib.hid hown
 have HAT:=Lib.hid hat
 have HHAS:=Lib.hid hhas
 clear hown hat hhas
 have ca:=HL0.out.ca
 go_wp2_with (at_range;refine wpList_range_own _ rfl _ 112 rfl 9 87 skey Tryz.underlying112 RVal ma n D rfl HOWN.out ?_;intro w5 hrg0 hg0 hs5)
 go_frame
 have H5:=Lib.hid (show Below g w w5 from (HB0.out.grown hg0 (by have:=HS0.out;omega) (fun k hk=>by cases hk)))
 have HM5:=Lib.hid (HM0.out.kept hg0 (by simp))
 have HL5:=Lib.hid (HL0.out.grown (World.grownBy.but hg0 (some (g+1))) (by have:=HS0.out;omega))
 have hs6:w5.heap.size=g+5:=by rw[hs5,HS0.out]
 have Hs6:=Lib.hid hs6
 have hr0:=HS0.out
 rw[hr0] at hrg0 ⊢
 have Hrg0:=Lib.hid hrg0
 clear hrg0 hg0 hs5 hs6 hr0 ca
 have hz0:zc (codes X) (fun _=>0)<=60:=by
  have h1:zc (codes X) (fun _=>0)<=(codes X).length:=List.countP_le_length
  have h2:(codes X).length=X.length:=by unfold codes;rw[List.length_map]
  omega
 have HZ0:=Lib.hid hz0
 clear hz0
 have hdf:=depF g
 go_loopw [6] (fun _ wr=>∃ (left:Lit->Bool) (cnt:Nat) (o:List UInt8->Int) (N:Nat),Hid (wr.ranges Tryz.prog 9 RVal ma (g+4) n D left cnt)/\Hid (MF wr (g+1) N (.int .i64 0) (oV o))/\Hid (DI (kidsX X) o)/\Hid (∀ s,o s≠-1)/\Hid (∀ s∈codes X,left (.string s)=true∨0 < o s)/\Hid (N+2 * zc (codes X) o<=120)/\Hid (LK wr g (g+1+1) g (g+1+1+1) (g+1) ma n (depF g) X)/\Hid (Below g w wr)/\Hid (g+5<=wr.heap.size)/\Hid (∀ s,s ∉ codes X->o s=0)) (fun _ wr=>wr.rangeLeft ma (g+4))
 case atStart =>
  refine⟨_,_,fun _=>0,0,Hrg0,HM5,Lib.hid (fun c=>Or.inl rfl),Lib.hid (fun s h=>by cases h),Lib.hid (fun s hs=>Or.inl ?_),Lib.hid (by have:=HZ0.out;omega),HL5,H5,Lib.hid (by rw[Hs6.out];exact Nat.le_refl _),Lib.hid (fun _ _=>rfl)⟩
  rw[HHAS.out]
  obtain⟨x,hx,hxm,hxc⟩:=itF_some hs
  rw[book_at HD.out hx]
  exact val_ne (HNE.out x hxm)
 case round =>
  obtain⟨left,cnt,o,N,hrg,hM,hDI,hno,hcov,hN,hL,hb,hsz,hzr⟩:=hrel
  go_wp2_with (at_next;refine wpList_next_ranges _ rfl _ rfl 9 skey RVal encStr (fun v:Value=>v) (fun key kl hk=>by obtain⟨x,hx,_⟩:=Maps.keyOf_str Tryz.underlying9 hk;exact⟨x,hx⟩) (fun v y hv=>⟨v,rfl⟩) ma (g+4) n D left cnt rfl hrg.out ?_ ?_)
  ·intro _ hl0
   have co:=hL.out.co
   have HLL:=Lib.hid hl0
   clear hl0
   go_wp2_with (fail)
   go_ret2
   exact⟨Or.inl ⟨g+1,N,o,rfl,hM.out,by have:=hN.out;omega,by rw[<- HG.out];omega,hDI.out,hno.out,fun c hc=>(hcov.out c hc).resolve_left (by rw[HLL.out];simp),hzr.out⟩,HG.out ▸ hb.out⟩
  ·intro x c kl yd yp w6 cnt2 hkey hlk hv hat2 hrg2 hlt hg2 hs2 hen
   obtain⟨x',ex,rfl,hxl⟩:=Maps.keyOf_str Tryz.underlying9 hkey
   obtain rfl:x=x':=encStr_inj ex
   have hxc:x∈codes X:=by
    apply Classical.byContradiction
    intro hno2
    have h1:=(HHAS.out x).1 (has_true_of_atKey hat2)
    exact h1 (book_other hno2 _)
   have hM6:=hM.out.kept hg2 (by simp)
   have hL6:=hL.out.keep hg2 (by have:=hsz.out;omega) (by omega) (by omega) (by omega) (by have:=HMA.out;omega) (by omega)
   have hz6:zc (codes X) o<=60:=by have:=hN.out;omega
   have hcall:=Lib.hid (look_any g (g+1+1) g (g+1+1+1) (g+1) ma n (depF g) X rfl HD.out HV.out hl (zc (codes X) o+1) o x N w6 hL6 hM6 hDI.out (fun y hy=>absurd hy (hno.out y)) hxc (by omega) (by have:=hN.out;omega) (by have:=hsz.out;omega))
   have cl:=hL6.cl
   unfold depF at cl
   have HRG:=Lib.hid hrg2
   have HG2:=Lib.hid hg2
   have HL6:=Lib.hid hL6
   have HLT:=Lib.hid hlt
   have HS2:=Lib.hid hs2
   have HXC:=Lib.hid hxc
   have HLQ:=Lib.hid (show wr.rangeLeft ma (g+4)=cnt from hrg.out.left_eq)
   clear hkey hlk hv hat2 hrg2 hlt hg2 hs2 hxl hxc hM6 hL6 hz6 ex
   simp only[encStr] at hen ⊢
   go_wp2_with (fail)
   go_at_call 144
   refine hcall.out.mono ?_
   rintro e w7 ⟨r,rfl,hgr,⟨rfl,o',N',hM',hD',hE',hp',hN',hS'⟩ | ⟨rfl,hcyc⟩⟩
   ·have hb7:Below g w w7:=(hb.out.grown HG2.out (by have:=hsz.out;omega) (fun k e=>by have:=Option.some.inj e;omega)).grown hgr (by have:=hsz.out;rw[HS2.out];omega) (fun k e=>by have:=Option.some.inj e;omega)
    have hL7:=HL6.out.grown hgr (by rw[HS2.out];have:=hsz.out;omega)
    have hrg7:=HRG.out.kept hgr (by simp;have:=HMA.out;omega) (by simp)
    have hs7:g+5<=w7.heap.size:=by have:=hgr.size;rw[HS2.out] at this;have:=hsz.out;omega
    have hno7:∀ s,o' s≠-1:=fun s hs=>hno.out s (hE'.2 s hs)
    have hcov7:∀ s∈codes X,(left (.string s) && !(Lit.string s).sameKey (.string x))=true∨0 < o' s:=fun s hs=>by
     by_cases e:s=x
     ·subst e;exact Or.inr hp'
     ·rcases hcov.out s hs with h | h
      ·left
       rw[h,Bool.true_and,sameKey_strings_ne e]
       rfl
      ·right
       rw[hE'.1 s (by omega)];exact h
    have RZR:=Lib.hid (show ∀ s,s ∉ codes X->o' s=0 from fun s hs=>(hS' s hs).trans (hzr.out s hs))
    clear hS'
    have RB7:=Lib.hid hb7
    have RL7:=Lib.hid hL7
    have RR7:=Lib.hid hrg7
    have RS7:=Lib.hid hs7
    have RN7:=Lib.hid hno7
    have RC7:=Lib.hid hcov7
    have RM7:=Lib.hid hM'
    have RD7:=Lib.hid hD'
    have RZ7:=Lib.hid (show N' + 2 * zc (codes X) o'<=120 by have:=hN.out;omega)
    clear hb7 hL7 hrg7 hs7 hno7 hcov7 hM' hD' hE' hp' hN' hgr hcall
    go_wp2_with (fail)
    go_roundw
    case rel=>exact⟨_,cnt2,o',N',RR7,RM7,RD7,RN7,RC7,RZ7,RL7,RB7,RS7,RZR⟩
    case measure=>rw[RR7.out.left_eq,HLQ.out];exact HLT.out
   ·have hb7:Below g w w7:=(hb.out.grown HG2.out (by have:=hsz.out;omega) (fun k e=>by have:=Option.some.inj e;omega)).grown hgr (by have:=hsz.out;rw[HS2.out];omega) (fun k e=>by have:=Option.some.inj e;omega)
    have RB7:=Lib.hid hb7
    have RY:=Lib.hid hcyc
    clear hb7 hcyc hgr hcall
    go_wp2_with (fail)
    go_ret2
    exact⟨Or.inr ⟨rfl,RY.out⟩,HG.out ▸ RB7.out⟩
end Go.Proofs.YtgplnekpgdhcpaaGreat
