/- The merge in place of the library's stable sort: plain Lean. -/
import Derived.Sort.Lot0
import Derived.Sort.LotA
namespace Go.Proofs.YtgplnekpgdhcpaaGreat
open Go.Sort
theorem lt_le {α:Type} {T:α->α->Bool} (hT:SWO T) {x y z:α} (h1:T x y=true) (h2:T z y=false):T x z=true:=by
 cases h:T x z with
 | true=>rfl
 | false=>have:=hT.ntrans _ _ _ h h2;rw[this] at h1;cases h1
theorem le_lt {α:Type} {T:α->α->Bool} (hT:SWO T) {x y z:α} (h1:T y x=false) (h2:T y z=true):T x z=true:=by
 cases h:T x z with
 | true=>rfl
 | false=>have:=hT.ntrans _ _ _ h1 h;rw[this] at h2;cases h2
theorem asym {α:Type} {T:α->α->Bool} (hT:SWO T) {x y:α} (h:T x y=true):T y x=false:=by
 cases h2:T y x with
 | false=>rfl
 | true=>have:=hT.trans _ _ _ h h2;rw[hT.irrefl] at this;cases this
section
variable {α:Type} [Inhabited α]
def swF (d:Array α) (a b n x:Nat):α:=if a<=x/\x < a+n then d[x+b - a]! else if b<=x/\x < b+n then d[x+a - b]! else d[x]!
def rotF (d:Array α) (a m b x:Nat):α:=if a<=x/\x < a+(b - m) then d[x+(m - a)]! else if a+(b - m)<=x/\x < b then d[x - (b - m)]! else d[x]!
theorem swF_zero (d:Array α) (a b x:Nat):swF d a b 0 x=d[x]!:=by
 unfold swF
 rw[if_neg (by omega),if_neg (by omega)]
theorem swp_at (d:Array α) {i j:Nat} (hi:i < d.size) (hj:j < d.size) (x:Nat):(swp d i j)[x]! = if x=i then d[j]! else if x=j then d[i]! else d[x]!:=by
 by_cases h1:x=j
 ·subst h1
  rw[swp_right d i x hj]
  split
  ·rename_i h;subst h;rfl
  ·rw[if_pos rfl]
 ·by_cases h2:x=i
  ·subst h2
   rw[swp_left d x j hi h1,if_pos rfl]
  ·rw[swp_other d i j x h2 h1,if_neg h2,if_neg h1]
theorem at_congr (d:Array α) {x y:Nat} (h:x=y):d[x]! = d[y]!:=by rw[h]
theorem swF_step {d dk:Array α} {a b n i:Nat} (hs:dk.size=d.size) (hab:a+n<=b) (hb:b+n<=d.size) (hi:i < n) (h:∀ x,dk[x]! = swF d a b i x):∀ x,(swp dk (a+i) (b+i))[x]! = swF d a b (i+1) x:=by
 intro x
 rw[swp_at dk (by omega) (by omega),h,h,h]
 unfold swF
 repeat' split
 all_goals first | omega | rfl | (exact at_congr d (by omega))
theorem rot_gt {d d':Array α} {i j m:Nat} (hj:0 < j) (hij:j < i) (him:i<=m) (h:∀ x,d'[x]! = swF d (m - i) m j x):∀ x,rotF d' (m - (i - j)) m (m+j) x=rotF d (m - i) m (m+j) x:=by
 intro x
 unfold rotF
 simp only[h]
 unfold swF
 repeat' split
 all_goals first | omega | rfl | (exact at_congr d (by omega))
theorem rot_lt {d d':Array α} {i j m:Nat} (hj:0 < i) (hij:i < j) (him:i<=m) (h:∀ x,d'[x]! = swF d (m - i) (m+j - i) i x):∀ x,rotF d' (m - i) m (m+(j - i)) x=rotF d (m - i) m (m+j) x:=by
 intro x
 unfold rotF
 simp only[h]
 unfold swF
 repeat' split
 all_goals first | omega | rfl | (exact at_congr d (by omega))
theorem rot_eq {d d':Array α} {i m:Nat} (him:i<=m) (h:∀ x,d'[x]! = swF d (m - i) m i x):∀ x,d'[x]! = rotF d (m - i) m (m+i) x:=by
 intro x
 rw[h]
 unfold rotF swF
 repeat' split
 all_goals first | omega | rfl | (exact at_congr d (by omega))
theorem rot_up {d dk:Array α} {a k:Nat} (hs:dk.size=d.size) (hak:a<=k) (hk:k+1 < d.size) (h:∀ x,dk[x]! = rotF d a (a+1) (k+1) x):∀ x,(swp dk k (k+1))[x]! = rotF d a (a+1) (k+1+1) x:=by
 intro x
 rw[swp_at dk (by omega) (by omega),h,h,h]
 unfold rotF
 repeat' split
 all_goals first | omega | rfl | (exact at_congr d (by omega))
theorem rot_up0 (d:Array α) (a x:Nat):d[x]! = rotF d a (a+1) (a+1) x:=by
 unfold rotF
 repeat' split
 all_goals first | omega | rfl | (exact at_congr d (by omega))
theorem rot_down {d dk:Array α} {m k:Nat} (hs:dk.size=d.size) (hk:0 < k) (hkm:k<=m) (hm:m < d.size) (h:∀ x,dk[x]! = rotF d k m (m+1) x):∀ x,(swp dk k (k - 1))[x]! = rotF d (k - 1) m (m+1) x:=by
 intro x
 rw[swp_at dk (by omega) (by omega),h,h,h]
 unfold rotF
 repeat' split
 all_goals first | omega | rfl | (exact at_congr d (by omega))
theorem rot_down0 (d:Array α) (m x:Nat):d[x]! = rotF d m m (m+1) x:=by
 unfold rotF
 repeat' split
 all_goals first | omega | rfl | (exact at_congr d (by omega))
theorem rot_triv {d:Array α} {s m e:Nat} (h:m<=s∨e<=m):∀ x,d[x]! = rotF d s m e x:=by
 intro x
 unfold rotF
 repeat' split
 all_goals first | omega | rfl | (exact at_congr d (by omega))
theorem swap_in {d dk:Array α} {A B i j:Nat} (h:PermIn A B d dk) (hi:A<=i) (hi2:i < B) (hj:A<=j) (hj2:j < B) (hB:B<=d.size):PermIn A B d (swp dk i j) :=
 permIn_trans _ _ _ _ _ h (swp_permIn dk A B i j hi hi2 hj hj2 (by rw[h.1];exact hB))
structure SM (lt T:α->α->Bool) (a m b:Nat) (d:Array α):Prop where
 left:∀ i j,a<=i->i < j->j < m->T d[j]! d[i]! = false
 right:∀ i j,m<=i->i < j->j < b->T d[j]! d[i]! = false
 cross:∀ i j,a<=i->i < m->m<=j->j < b->lt d[j]! d[i]! = T d[j]! d[i]!
variable {lt T:α->α->Bool}
theorem SM.le_left (hT:SWO T) {a m b:Nat} {d:Array α} (h:SM lt T a m b d) {i j:Nat} (h1:a<=i) (h2:i<=j) (h3:j < m):T d[j]! d[i]! = false:=by
 rcases Nat.lt_or_ge i j with h4 | h4
 ·exact h.left i j h1 h4 h3
 ·rw[show i=j by omega];exact hT.irrefl _
theorem SM.le_right (hT:SWO T) {a m b:Nat} {d:Array α} (h:SM lt T a m b d) {i j:Nat} (h1:m<=i) (h2:i<=j) (h3:j < b):T d[j]! d[i]! = false:=by
 rcases Nat.lt_or_ge i j with h4 | h4
 ·exact h.right i j h1 h4 h3
 ·rw[show i=j by omega];exact hT.irrefl _
theorem sm_one (hT:SWO T) {a i b:Nat} {d d':Array α} (h:SM lt T a (a+1) b d) (hi:a+1<=i) (hib:i<=b) (h1:∀ x,a+1<=x->x < i->T d[x]! d[a]! = true) (h2:∀ x,i<=x->x < b->T d[x]! d[a]! = false) (hd:∀ x,d'[x]! = rotF d a (a+1) i x):SortedIn T a b d':=by
 intro x y hx hxy hy
 rw[hd,hd]
 unfold rotF
 repeat' split
 all_goals first
  | omega
  | exact h.right _ _ (by omega) (by omega) (by omega)
  | (rw[at_congr d (show x - (i - (a+1))=a by omega)];exact h2 _ (by omega) (by omega))
  | (rw[at_congr d (show y - (i - (a+1))=a by omega)];exact asym hT (h1 _ (by omega) (by omega)))
theorem sm_last (hT:SWO T) {a i m:Nat} {d d':Array α} (h:SM lt T a m (m+1) d) (hi:a<=i) (him:i<=m) (h1:∀ x,a<=x->x < i->T d[m]! d[x]! = false) (h2:∀ x,i<=x->x < m->T d[m]! d[x]! = true) (hd:∀ x,d'[x]! = rotF d i m (m+1) x):SortedIn T a (m+1) d':=by
 intro x y hx hxy hy
 rw[hd,hd]
 unfold rotF
 repeat' split
 all_goals first
  | omega
  | exact h.left _ _ (by omega) (by omega) (by omega)
  | (rw[at_congr d (show x+(m - i)=m by omega)];exact asym hT (h2 _ (by omega) (by omega)))
  | (rw[at_congr d (show y+(m - i)=m by omega)];exact h1 _ (by omega) (by omega))
structure Parts (T:α->α->Bool) (a m b s e:Nat) (d:Array α):Prop where
 as:a<=s
 sm:s<=m
 me:m<=e
 eb:e<=b
 c1:a < s->e < b->T d[e]! d[s - 1]! = false
 c2:s < m->m < e->T d[e - 1]! d[s]! = true
theorem Parts.cross (hT:SWO T) {a m b s e:Nat} {d d':Array α} (h:SM lt T a m b d) (p:Parts T a m b s e d) (hd:∀ x,d'[x]! = rotF d s m e x):∀ x y,a<=x->x < s+(e - m)->s+(e - m)<=y->y < b->T d'[y]! d'[x]! = false:=by
 obtain⟨q1,q2,q3,q4,q5,q6⟩:=p
 intro x y h1 h2 h3 h4
 have lo:∀ i j,a<=i->i < s->e<=j->j < b->T d[j]! d[i]! = false:=fun i j k1 k2 k3 k4 =>
  hT.ntrans _ _ _ (h.le_right hT q3 k3 k4) (hT.ntrans _ _ _ (q5 (by omega) (by omega)) (h.le_left hT k1 (by omega) (by omega)))
 have hi:∀ i j,m<=i->i < e->s<=j->j < m->T d[j]! d[i]! = false:=fun i j k1 k2 k3 k4 =>
  asym hT (le_lt hT (h.le_right hT k1 (show i<=e - 1 by omega) (by omega)) (lt_le hT (q6 (by omega) (by omega)) (h.le_left hT q1 k3 k4)))
 rw[hd,hd]
 unfold rotF
 repeat' split
 all_goals first
  | omega
  | exact h.left _ _ (by omega) (by omega) (by omega)
  | exact h.right _ _ (by omega) (by omega) (by omega)
  | exact lo _ _ (by omega) (by omega) (by omega) (by omega)
  | exact hi _ _ (by omega) (by omega) (by omega) (by omega)
theorem Parts.first {a m b s e:Nat} {d d':Array α} (h:SM lt T a m b d) (p:Parts T a m b s e d) (hd:∀ x,d'[x]! = rotF d s m e x):SM lt T a s (s+(e - m)) d':=by
 obtain⟨q1,q2,q3,q4,q5,q6⟩:=p
 refine⟨fun i j h1 h2 h3=>?_,fun i j h1 h2 h3=>?_,fun i j h1 h2 h3 h4=>?_⟩ <;> (rw[hd,hd];unfold rotF;repeat' split)
 all_goals first
  | omega
  | exact h.left _ _ (by omega) (by omega) (by omega)
  | exact h.right _ _ (by omega) (by omega) (by omega)
  | exact h.cross _ _ (by omega) (by omega) (by omega) (by omega)
theorem Parts.second {a m b s e:Nat} {d d':Array α} (h:SM lt T a m b d) (p:Parts T a m b s e d) (hd:∀ x,d'[x]! = rotF d s m e x):SM lt T (s+(e - m)) e b d':=by
 obtain⟨q1,q2,q3,q4,q5,q6⟩:=p
 refine⟨fun i j h1 h2 h3=>?_,fun i j h1 h2 h3=>?_,fun i j h1 h2 h3 h4=>?_⟩ <;> (rw[hd,hd];unfold rotF;repeat' split)
 all_goals first
  | omega
  | exact h.left _ _ (by omega) (by omega) (by omega)
  | exact h.right _ _ (by omega) (by omega) (by omega)
  | exact h.cross _ _ (by omega) (by omega) (by omega) (by omega)
theorem SM.same {a m b:Nat} {d d':Array α} (h:SM lt T a m b d) (he:∀ x,a<=x->x < b->d'[x]! = d[x]!) (hm:a<=m) (hb:m<=b):SM lt T a m b d':=by
 refine⟨fun i j h1 h2 h3=>?_,fun i j h1 h2 h3=>?_,fun i j h1 h2 h3 h4=>?_⟩ <;> rw[he _ (by omega) (by omega),he _ (by omega) (by omega)]
 ·exact h.left _ _ h1 h2 h3
 ·exact h.right _ _ h1 h2 h3
 ·exact h.cross _ _ h1 h2 h3 h4
theorem SM.all_right {a m b:Nat} {d:Array α} (h:SM lt T a m b d) (hm:m<=a):SortedIn T a b d:=fun i j h1 h2 h3=>h.right i j (by omega) h2 h3
theorem SM.all_left {a m b:Nat} {d:Array α} (h:SM lt T a m b d) (hm:b<=m):SortedIn T a b d:=fun i j h1 h2 h3=>h.left i j h1 h2 (by omega)
theorem sm_join {a mid b:Nat} {d d1 d2:Array α} (ha:a<=mid) (hb:mid<=b) (hsz:b<=d.size) (hx:∀ x y,a<=x->x < mid->mid<=y->y < b->T d[y]! d[x]! = false) (p1:PermIn a mid d d1) (s1:SortedIn T a mid d1) (p2:PermIn mid b d1 d2) (s2:SortedIn T mid b d2):PermIn a b d d2/\SortedIn T a b d2:=by
 have P1:=permIn_mono d d1 a mid a b (Nat.le_refl _) hb hsz p1
 have P2:=permIn_mono d1 d2 mid b a b ha (Nat.le_refl _) (by rw[p1.1];exact hsz) p2
 refine⟨permIn_trans _ _ _ _ _ P1 P2,fun i j h1 h2 h3=>?_⟩
 have x1:∀ y,mid<=y->y < b->∀ x,a<=x->x < mid->T d[y]! d1[x]! = false:=fun y hy hyb=>permIn_all d d1 a mid (fun v=>T d[y]! v=false) (by omega) p1 fun x k1 k2=>hx x y k1 k2 hy hyb
 have x2:∀ x,a<=x->x < mid->∀ y,mid<=y->y < b->T d2[y]! d1[x]! = false:=fun x k1 k2=>permIn_all d1 d2 mid b (fun v=>T v d1[x]! = false) (by rw[p1.1];exact hsz) p2 fun y k3 k4=>by
  rw[p1.2.1 y (.inr k3)]
  exact x1 y k3 k4 x k1 k2
 rcases Nat.lt_or_ge i mid with hi | hi
 ·rw[p2.2.1 i (.inl hi)]
  rcases Nat.lt_or_ge j mid with hj | hj
  ·rw[p2.2.1 j (.inl hj)]
   exact s1 i j h1 h2 hj
  ·exact x2 i h1 hi j hj h3
 ·exact s2 i j hi h2 h3
structure Sees (lt:α->α->Bool) (p lo s r hi:Nat) (d:Array α):Prop where
 a1:lo<=s
 a2:s<=r
 a3:r<=hi
 b1:∀ c,lo<=c->c < s->lt d[p - c]! d[c]! = false
 b2:∀ c,r<=c->c < hi->lt d[p - c]! d[c]! = true
theorem Sees.start (lt:α->α->Bool) (p:Nat) {lo hi:Nat} (h:lo<=hi) (d:Array α):Sees lt p lo lo hi hi d:=⟨Nat.le_refl _,h,Nat.le_refl _,fun c h1 h2=>by omega,fun c h1 h2=>by omega⟩
structure Reach (a m b mid p lo hi:Nat):Prop where
 am:a < m
 mb:m < b
 md:mid=(a+b) / 2
 pp:p+1=mid+m
 big:mid < m->lo=mid+m - b/\hi=mid
 small:m<=mid->lo=a/\hi=m
theorem Reach.bnd {a m b mid p lo hi c:Nat} (h:Reach a m b mid p lo hi) (h1:lo<=c) (h2:c < hi):a<=c/\c < m/\m<=p - c/\p - c < b/\c<=p:=by
 obtain⟨k1,k2,k3,k4,k5,k6⟩:=h
 rcases Nat.lt_or_ge mid m with hm | hm
 ·obtain⟨rfl,rfl⟩:=k5 hm
  omega
 ·obtain⟨rfl,rfl⟩:=k6 hm
  omega
theorem Sees.no {p lo s r hi c a m b mid:Nat} {d:Array α} (hT:SWO T) (q:Reach a m b mid p lo hi) (hm:SM lt T a m b d) (h:Sees lt p lo s r hi d) (h1:s<=c) (h2:c < r) (hc:lt d[p - c]! d[c]! = false):Sees lt p lo (c+1) r hi d:=by
 refine⟨by have:=h.a1;omega,by omega,h.a3,fun x hx hx2=>?_,h.b2⟩
 rcases Nat.lt_or_ge x s with hlt | hge
 ·exact h.b1 x hx hlt
 ·have hr:=h.a3
  have hl:=h.a1
  obtain⟨b1,b2,b3,b4,b5⟩:=q.bnd (show lo<=x by omega) (show x < hi by omega)
  obtain⟨c1,c2,c3,c4,c5⟩:=q.bnd (show lo<=c by omega) (show c < hi by omega)
  rw[hm.cross _ _ b1 b2 b3 b4]
  rw[hm.cross _ _ c1 c2 c3 c4] at hc
  exact hT.ntrans _ _ _ (hm.le_right hT c3 (by omega) b4) (hT.ntrans _ _ _ hc (hm.le_left hT b1 (by omega) c2))
theorem Sees.yes {p lo s r hi c a m b mid:Nat} {d:Array α} (hT:SWO T) (q:Reach a m b mid p lo hi) (hm:SM lt T a m b d) (h:Sees lt p lo s r hi d) (h1:s<=c) (h2:c < r) (hc:lt d[p - c]! d[c]! = true):Sees lt p lo s c hi d:=by
 refine⟨h.a1,h1,by have:=h.a3;omega,h.b1,fun x hx hx2=>?_⟩
 rcases Nat.lt_or_ge x r with hlt | hge
 ·have hr:=h.a3
  have hl:=h.a1
  obtain⟨b1,b2,b3,b4,b5⟩:=q.bnd (show lo<=x by omega) (show x < hi by omega)
  obtain⟨c1,c2,c3,c4,c5⟩:=q.bnd (show lo<=c by omega) (show c < hi by omega)
  rw[hm.cross _ _ b1 b2 b3 b4]
  rw[hm.cross _ _ c1 c2 c3 c4] at hc
  exact le_lt hT (hm.le_right hT b3 (by omega) c4) (lt_le hT hc (hm.le_left hT c1 hx b2))
 ·exact h.b2 x hge hx2
theorem Sees.parts {p lo s hi a m b mid:Nat} {d:Array α} (q:Reach a m b mid p lo hi) (hm:SM lt T a m b d) (h:Sees lt p lo s s hi d):Parts T a m b s (mid+m - s) d/\s+(mid+m - s - m)=mid/\s<=mid:=by
 obtain⟨h1,-,h3,h4,h5⟩:=h
 have Q:=q
 obtain⟨k1,k2,k3,k4,k5,k6⟩:=q
 have key:a<=s/\s<=m/\m<=mid+m - s/\mid+m - s<=b/\s<=mid/\(lo=s->a < s->¬ mid+m - s < b)/\(hi=s->s < m->¬ m < mid+m - s):=by
  rcases Nat.lt_or_ge mid m with hmm | hmm
  ·obtain⟨rfl,rfl⟩:=k5 hmm
   omega
  ·obtain⟨rfl,rfl⟩:=k6 hmm
   omega
 obtain⟨e1,e2,e3,e4,e5,e6,e7⟩:=key
 refine⟨⟨e1,e2,e3,e4,fun x1 x2=>?_,fun x1 x2=>?_⟩,by omega,e5⟩
 ·have hlo:lo < s:=by
   rcases Nat.lt_or_ge lo s with h | h
   ·exact h
   ·exact absurd x2 (e6 (by omega) x1)
  have hb:=Q.bnd (show lo<=s - 1 by omega) (show s - 1 < hi by omega)
  have:=h4 (s - 1) (by omega) (by omega)
  rw[hm.cross _ _ (by omega) (by omega) (by omega) (by omega)] at this
  rw[at_congr d (show mid+m - s=p - (s - 1) by omega)]
  exact this
 ·have hhi:s < hi:=by
   rcases Nat.lt_or_ge s hi with h | h
   ·exact h
   ·exact absurd x2 (e7 (by omega) x1)
  have hb:=Q.bnd (show lo<=s by omega) hhi
  have:=h5 s (by omega) hhi
  rw[hm.cross _ _ (by omega) (by omega) (by omega) (by omega)] at this
  rw[at_congr d (show mid+m - s - 1=p - s by omega)]
  exact this
end
end Go.Proofs.YtgplnekpgdhcpaaGreat
