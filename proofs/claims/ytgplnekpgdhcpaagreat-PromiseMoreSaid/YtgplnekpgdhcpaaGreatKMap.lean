/- window.Right, window.Has, lot.Right, and what flow.together asks of a want: walks. (Printed by gen/bools.py.) Heights in a graph: plain Lean, no program. Heights, reckoned in rounds and by looking down: plain Lean, no program. Maps keyed by texts, as functions. -/
import Derived.Test.YtgplnekpgdhcpaaGreatQLine
import Derived.Test.YtgplnekpgdhcpaaGreatQPick
import Derived.Test.YtgplnekpgdhcpaaGreatQEnds
import Derived.Test.YtgplnekpgdhcpaaGreatProg
import Derived.Test.YtgplnekpgdhcpaaGreatJPure
import Derived.Maps.OwnSet
import Derived.Maps.Views
import Derived.WideKeyArgs2
import Derived.OwnWalk
import Derived.Sort.EncStr
namespace Go.Proofs.YtgplnekpgdhcpaaGreat
open Go.RowKit
def winB (fr un:Int):Bool:=decide (0<=fr) && decide (fr<=un) && decide (un<=4001)
theorem winB_yes {fr un:Int} (h0:0<=fr) (h1:fr<=un) (h2:un<=4001):winB fr un=true:=by unfold winB;simp[h0,h1,h2]
theorem winB_no {fr un:Int} (h:¬ (0<=fr/\fr<=un/\un<=4001)):winB fr un=false:=by
 unfold winB
 simp only[Bool.and_eq_false_iff,decide_eq_false_iff_not]
 omega
theorem winB_iff {fr un:Int}:winB fr un=true↔0<=fr/\fr<=un/\un<=4001:=by
 unfold winB
 simp only[Bool.and_eq_true,decide_eq_true_eq,and_assoc]
theorem winRight_any (fr un:Int) (w:World):Calls Tryz.prog 113 #[.agg #[.int .i64 fr,.int .i64 un]] w fun e w'=>e = .returned (.bool (winB fr un))/\Below w.heap.size w w':=by
 have HB:=Lib.hid (fun c:Array Value=>(Below.refl w.heap.size w).alloc (Nat.le_refl _) (.cells c 48))
 by_cases h0:0<=fr
 ·by_cases h1:fr<=un
  ·by_cases h2:un<=4001
   ·have E:=Lib.hid (winB_yes h0 h1 h2)
    go_enter Tryz.func113,Tryz.ntmps113
    go_wp2_with (fail)
    go_ret
    exact⟨by rw[E.out];rfl,HB.out _⟩
   ·have E:=Lib.hid (winB_no (fr:=fr) (un:=un) (fun h=>h2 h.2.2))
    go_enter Tryz.func113,Tryz.ntmps113
    go_wp2_with (fail)
    go_ret
    exact⟨by rw[E.out];rfl,HB.out _⟩
  ·have E:=Lib.hid (winB_no (fr:=fr) (un:=un) (fun h=>h1 h.2.1))
   go_enter Tryz.func113,Tryz.ntmps113
   go_wp2_with (fail)
   go_ret
   exact⟨by rw[E.out];rfl,HB.out _⟩
 ·have E:=Lib.hid (winB_no (fr:=fr) (un:=un) (fun h=>h0 h.1))
  go_enter Tryz.func113,Tryz.ntmps113
  go_wp2_with (fail)
  go_ret
  exact⟨by rw[E.out];rfl,HB.out _⟩
theorem hasW_eq (fr un day:Int):hasW fr un day=(winB fr un && (decide (fr<=day) && decide (day < un))):=by
 unfold hasW winB
 simp only[Bool.and_assoc]
set_option maxHeartbeats 1000000 in
theorem winHas_any (fr un day:Int) (w:World):Calls Tryz.prog 82 #[.agg #[.int .i64 fr,.int .i64 un],.int .i64 day] w fun e w'=>e = .returned (.bool (hasW fr un day))/\Below w.heap.size w w':=by
 generalize hr:hasW fr un day=r
 have HQ:=Lib.hid hr
 clear hr
 have HR:=Lib.hid (fun W=>winRight_any fr un W)
 have HB:=Lib.hid ((Below.refl w.heap.size w).alloc (Nat.le_refl _) (.cells #[.int .i64 fr,.int .i64 un] 48))
 have HC:Hid ((w.alloc (.cells #[.int .i64 fr,.int .i64 un] 48)).cell? ⟨w.heap.size,0,none⟩=some (.int .i64 fr)/\(w.alloc (.cells #[.int .i64 fr,.int .i64 un] 48)).cell? ⟨w.heap.size,1,none⟩=some (.int .i64 un)):=Lib.hid ⟨by simp,by simp⟩
 cases hb:winB fr un with
 | true =>
  rw[hb] at HR
  by_cases h1:fr<=day
  ·by_cases h2:day < un
   ·have E:=Lib.hid (show hasW fr un day=true by rw[hasW_eq,hb];simp[h1,h2])
    clear hb
    go_enter Tryz.func82,Tryz.ntmps82
    go_wp2_with (go_at_call 113;refine (HR.out _).mono ?_;rintro e w9 ⟨rfl,hb⟩;have c0:=(hb.cell (p:=⟨w.heap.size,0,none⟩) (by simp)).trans (HC.out.1);have c1:=(hb.cell (p:=⟨w.heap.size,1,none⟩) (by simp)).trans (HC.out.2);have B9:=Lib.hid (HB.out.trans (hb.mono (by simp))))
    go_ret
    exact⟨by rw[<- HQ.out,E.out];first | rfl | simp[*],B9.out⟩
   ·have E:=Lib.hid (show hasW fr un day=false by rw[hasW_eq,hb];simp[h2])
    clear hb
    go_enter Tryz.func82,Tryz.ntmps82
    go_wp2_with (go_at_call 113;refine (HR.out _).mono ?_;rintro e w9 ⟨rfl,hb⟩;have c0:=(hb.cell (p:=⟨w.heap.size,0,none⟩) (by simp)).trans (HC.out.1);have c1:=(hb.cell (p:=⟨w.heap.size,1,none⟩) (by simp)).trans (HC.out.2);have B9:=Lib.hid (HB.out.trans (hb.mono (by simp))))
    go_ret
    exact⟨by rw[<- HQ.out,E.out];first | rfl | simp[*],B9.out⟩
  ·have E:=Lib.hid (show hasW fr un day=false by rw[hasW_eq,hb];simp[h1])
   clear hb
   go_enter Tryz.func82,Tryz.ntmps82
   go_wp2_with (go_at_call 113;refine (HR.out _).mono ?_;rintro e w9 ⟨rfl,hb⟩;have c0:=(hb.cell (p:=⟨w.heap.size,0,none⟩) (by simp)).trans (HC.out.1);have c1:=(hb.cell (p:=⟨w.heap.size,1,none⟩) (by simp)).trans (HC.out.2);have B9:=Lib.hid (HB.out.trans (hb.mono (by simp))))
   go_ret
   exact⟨by rw[<- HQ.out,E.out];first | rfl | simp[*],B9.out⟩
 | false =>
  rw[hb] at HR
  have E:=Lib.hid (show hasW fr un day=false by rw[hasW_eq,hb];simp)
  clear hb
  go_enter Tryz.func82,Tryz.ntmps82
  go_wp2_with (go_at_call 113;refine (HR.out _).mono ?_;rintro e w9 ⟨rfl,hb⟩;have c0:=(hb.cell (p:=⟨w.heap.size,0,none⟩) (by simp)).trans (HC.out.1);have c1:=(hb.cell (p:=⟨w.heap.size,1,none⟩) (by simp)).trans (HC.out.2);have B9:=Lib.hid (HB.out.trans (hb.mono (by simp))))
  go_ret
  exact⟨by rw[<- HQ.out,E.out];first | rfl | simp[*],B9.out⟩
theorem lotOk_yes {id:Int} {item:List UInt8} {fr un qty:Int} {arr:Bool} (h0:0 < id) (hk:okCode item=true) (hw:winB fr un=true) (h1:fr < un) (h2:0 < qty) (h3:qty<=1073741824):lotOk ⟨id,item,fr,un,qty,arr⟩=true:=by
 have:=winB_iff.1 hw
 exact lotOk_iff.2 ⟨by show 1<=id;omega,hk,this.1,h1,this.2.2,by show 1<=qty;omega,h3⟩
theorem lotOk_no {id:Int} {item:List UInt8} {fr un qty:Int} {arr:Bool} (h:¬ (0 < id/\okCode item=true/\winB fr un=true/\fr < un/\0 < qty/\qty<=1073741824)):lotOk ⟨id,item,fr,un,qty,arr⟩=false:=by
 cases hl:lotOk ⟨id,item,fr,un,qty,arr⟩ with
 | false=>rfl
 | true =>
  obtain⟨k1,k2,k3,k4,k5,k6,k7⟩:=lotOk_iff.1 hl
  simp only at k1 k2 k3 k4 k5 k6 k7
  exact absurd ⟨by omega,k2,winB_iff.2 ⟨k3,by omega,k5⟩,k4,by omega,k7⟩ h
set_option maxHeartbeats 2000000 in
theorem lotRight_any (x:LotV) (hx:x.item.length<=9223372036854775807) (w:World):Calls Tryz.prog 111 #[x.val] w fun e w'=>e = .returned (.bool (lotOk x))/\Below w.heap.size w w':=by
 generalize hr:lotOk x=r
 have HQ:=Lib.hid hr
 clear hr
 obtain⟨id,item,fr,un,qty,arr⟩:=x
 have HK:=Lib.hid (fun W=>cRight_any item hx W)
 have HR:=Lib.hid (fun W=>winRight_any fr un W)
 clear hx
 unfold LotV.val encStr
 simp only
 have HB:=Lib.hid ((Below.refl w.heap.size w).alloc (Nat.le_refl _) (.cells #[.int .i64 id,.string ⟨item.toArray⟩,.int .i64 fr,.int .i64 un,.int .i64 qty,.bool arr] 50))
 have HX:Hid (∀ W,Below (w.alloc (.cells #[.int .i64 id,.string ⟨item.toArray⟩,.int .i64 fr,.int .i64 un,.int .i64 qty,.bool arr] 50)).heap.size (w.alloc (.cells #[.int .i64 id,.string ⟨item.toArray⟩,.int .i64 fr,.int .i64 un,.int .i64 qty,.bool arr] 50)) W->W.cell? ⟨w.heap.size,0,none⟩=some (.int .i64 id)/\W.cell? ⟨w.heap.size,1,none⟩=some (.string ⟨item.toArray⟩)/\W.cell? ⟨w.heap.size,2,none⟩=some (.int .i64 fr)/\W.cell? ⟨w.heap.size,3,none⟩=some (.int .i64 un)/\W.cell? ⟨w.heap.size,4,none⟩=some (.int .i64 qty)):=Lib.hid fun W h=>⟨(h.cell (p:=⟨w.heap.size,0,none⟩) (by simp)).trans (by simp),(h.cell (p:=⟨w.heap.size,1,none⟩) (by simp)).trans (by simp),(h.cell (p:=⟨w.heap.size,2,none⟩) (by simp)).trans (by simp),(h.cell (p:=⟨w.heap.size,3,none⟩) (by simp)).trans (by simp),(h.cell (p:=⟨w.heap.size,4,none⟩) (by simp)).trans (by simp)⟩
 by_cases h0:0 < id
 ·cases hk:okCode item with
  | true =>
   rw[hk] at HK
   cases hw:winB fr un with
   | true =>
    rw[hw] at HR
    by_cases h1:fr < un
    ·by_cases h2:0 < qty
     ·by_cases h3:qty<=1073741824
      ·have E:=Lib.hid (lotOk_yes (arr:=arr) h0 hk hw h1 h2 h3)
       clear hk hw
       go_enter Tryz.func111,Tryz.ntmps111
       go_wp2_with (first | (go_at_call 52;refine (HK.out _).mono ?_;rintro e w8 ⟨rfl,hb8⟩;obtain⟨g1,g2,g3,g4,g5⟩:=HX.out w8 hb8;have B8:=Lib.hid (HB.out.trans (hb8.mono (by simp)));have HX8:=Lib.hid (fun W (h:Below w8.heap.size w8 W)=>HX.out W (hb8.trans (h.mono hb8.size)))) | (go_at_call 113;refine (HR.out _).mono ?_;rintro e w9 ⟨rfl,hb9⟩;obtain⟨k1,k2,k3,k4,k5⟩:=HX8.out w9 hb9;have B9:=Lib.hid (B8.out.trans (hb9.mono B8.out.size))))
       go_ret
       exact⟨by rw[<- HQ.out,E.out];first | rfl | simp[*],B9.out⟩
      ·have E:=Lib.hid (lotOk_no (id:=id) (item:=item) (fr:=fr) (un:=un) (qty:=qty) (arr:=arr) (fun h=>h3 h.2.2.2.2.2))
       clear hk hw
       go_enter Tryz.func111,Tryz.ntmps111
       go_wp2_with (first | (go_at_call 52;refine (HK.out _).mono ?_;rintro e w8 ⟨rfl,hb8⟩;obtain⟨g1,g2,g3,g4,g5⟩:=HX.out w8 hb8;have B8:=Lib.hid (HB.out.trans (hb8.mono (by simp)));have HX8:=Lib.hid (fun W (h:Below w8.heap.size w8 W)=>HX.out W (hb8.trans (h.mono hb8.size)))) | (go_at_call 113;refine (HR.out _).mono ?_;rintro e w9 ⟨rfl,hb9⟩;obtain⟨k1,k2,k3,k4,k5⟩:=HX8.out w9 hb9;have B9:=Lib.hid (B8.out.trans (hb9.mono B8.out.size))))
       go_ret
       exact⟨by rw[<- HQ.out,E.out];first | rfl | simp[*],B9.out⟩
     ·have E:=Lib.hid (lotOk_no (id:=id) (item:=item) (fr:=fr) (un:=un) (qty:=qty) (arr:=arr) (fun h=>h2 h.2.2.2.2.1))
      clear hk hw
      go_enter Tryz.func111,Tryz.ntmps111
      go_wp2_with (first | (go_at_call 52;refine (HK.out _).mono ?_;rintro e w8 ⟨rfl,hb8⟩;obtain⟨g1,g2,g3,g4,g5⟩:=HX.out w8 hb8;have B8:=Lib.hid (HB.out.trans (hb8.mono (by simp)));have HX8:=Lib.hid (fun W (h:Below w8.heap.size w8 W)=>HX.out W (hb8.trans (h.mono hb8.size)))) | (go_at_call 113;refine (HR.out _).mono ?_;rintro e w9 ⟨rfl,hb9⟩;obtain⟨k1,k2,k3,k4,k5⟩:=HX8.out w9 hb9;have B9:=Lib.hid (B8.out.trans (hb9.mono B8.out.size))))
      go_ret
      exact⟨by rw[<- HQ.out,E.out];first | rfl | simp[*],B9.out⟩
    ·have E:=Lib.hid (lotOk_no (id:=id) (item:=item) (fr:=fr) (un:=un) (qty:=qty) (arr:=arr) (fun h=>h1 h.2.2.2.1))
     clear hk hw
     go_enter Tryz.func111,Tryz.ntmps111
     go_wp2_with (first | (go_at_call 52;refine (HK.out _).mono ?_;rintro e w8 ⟨rfl,hb8⟩;obtain⟨g1,g2,g3,g4,g5⟩:=HX.out w8 hb8;have B8:=Lib.hid (HB.out.trans (hb8.mono (by simp)));have HX8:=Lib.hid (fun W (h:Below w8.heap.size w8 W)=>HX.out W (hb8.trans (h.mono hb8.size)))) | (go_at_call 113;refine (HR.out _).mono ?_;rintro e w9 ⟨rfl,hb9⟩;obtain⟨k1,k2,k3,k4,k5⟩:=HX8.out w9 hb9;have B9:=Lib.hid (B8.out.trans (hb9.mono B8.out.size))))
     go_ret
     exact⟨by rw[<- HQ.out,E.out];first | rfl | simp[*],B9.out⟩
   | false =>
    rw[hw] at HR
    have E:=Lib.hid (lotOk_no (id:=id) (item:=item) (fr:=fr) (un:=un) (qty:=qty) (arr:=arr) (fun h=>by rw[hw] at h;cases h.2.2.1))
    clear hk hw
    go_enter Tryz.func111,Tryz.ntmps111
    go_wp2_with (first | (go_at_call 52;refine (HK.out _).mono ?_;rintro e w8 ⟨rfl,hb8⟩;obtain⟨g1,g2,g3,g4,g5⟩:=HX.out w8 hb8;have B8:=Lib.hid (HB.out.trans (hb8.mono (by simp)));have HX8:=Lib.hid (fun W (h:Below w8.heap.size w8 W)=>HX.out W (hb8.trans (h.mono hb8.size)))) | (go_at_call 113;refine (HR.out _).mono ?_;rintro e w9 ⟨rfl,hb9⟩;obtain⟨k1,k2,k3,k4,k5⟩:=HX8.out w9 hb9;have B9:=Lib.hid (B8.out.trans (hb9.mono B8.out.size))))
    go_ret
    exact⟨by rw[<- HQ.out,E.out];first | rfl | simp[*],B9.out⟩
  | false =>
   rw[hk] at HK
   have E:=Lib.hid (lotOk_no (id:=id) (item:=item) (fr:=fr) (un:=un) (qty:=qty) (arr:=arr) (fun h=>by rw[hk] at h;cases h.2.1))
   clear hk
   go_enter Tryz.func111,Tryz.ntmps111
   go_wp2_with (first | (go_at_call 52;refine (HK.out _).mono ?_;rintro e w8 ⟨rfl,hb8⟩;obtain⟨g1,g2,g3,g4,g5⟩:=HX.out w8 hb8;have B8:=Lib.hid (HB.out.trans (hb8.mono (by simp)));have HX8:=Lib.hid (fun W (h:Below w8.heap.size w8 W)=>HX.out W (hb8.trans (h.mono hb8.size)))) | (go_at_call 113;refine (HR.out _).mono ?_;rintro e w9 ⟨rfl,hb9⟩;obtain⟨k1,k2,k3,k4,k5⟩:=HX8.out w9 hb9;have B9:=Lib.hid (B8.out.trans (hb9.mono B8.out.size))))
   go_ret
   exact⟨by rw[<- HQ.out,E.out];first | rfl | simp[*],B8.out⟩
 ·have E:=Lib.hid (lotOk_no (id:=id) (item:=item) (fr:=fr) (un:=un) (qty:=qty) (arr:=arr) (fun h=>h0 h.1))
  go_enter Tryz.func111,Tryz.ntmps111
  go_wp2_with (first | (go_at_call 52;refine (HK.out _).mono ?_;rintro e w8 ⟨rfl,hb8⟩;obtain⟨g1,g2,g3,g4,g5⟩:=HX.out w8 hb8;have B8:=Lib.hid (HB.out.trans (hb8.mono (by simp)));have HX8:=Lib.hid (fun W (h:Below w8.heap.size w8 W)=>HX.out W (hb8.trans (h.mono hb8.size)))) | (go_at_call 113;refine (HR.out _).mono ?_;rintro e w9 ⟨rfl,hb9⟩;obtain⟨k1,k2,k3,k4,k5⟩:=HX8.out w9 hb9;have B9:=Lib.hid (B8.out.trans (hb9.mono B8.out.size))))
  go_ret
  exact⟨by rw[<- HQ.out,E.out];first | rfl | simp[*],HB.out⟩
def WantV.val (x:WantV):Value:=.agg #[encStr x.item,.int .i64 x.day,.int .i64 x.qty]
theorem wantOk_yes {item:List UInt8} {day qty:Int} (hk:okCode item=true) (h0:¬ day < 0) (h1:¬ 4000 < day) (h2:¬ qty < 1) (h3:okA qty=true):wantOk ⟨item,day,qty⟩=true:=by
 have:=okA_iff.1 h3
 exact wantOk_iff.2 ⟨hk,by show 0<=day;omega,by show day<=4000;omega,by show 1<=qty;omega,this.2⟩
theorem wantOk_no {item:List UInt8} {day qty:Int} (h:¬ (okCode item=true/\¬ day < 0/\¬ 4000 < day/\¬ qty < 1/\okA qty=true)):wantOk ⟨item,day,qty⟩=false:=by
 cases hl:wantOk ⟨item,day,qty⟩ with
 | false=>rfl
 | true =>
  obtain⟨k1,k2,k3,k4,k5⟩:=wantOk_iff.1 hl
  simp only at k1 k2 k3 k4 k5
  exact absurd ⟨k1,by omega,by omega,by omega,okA_iff.2 ⟨by omega,k5⟩⟩ h
set_option maxHeartbeats 2000000 in
theorem wantBad_any (x:WantV) (hx:x.item.length<=9223372036854775807) (w:World):Calls Tryz.prog 112 #[x.val] w fun e w'=>e = .returned (.bool (!wantOk x))/\Below w.heap.size w w':=by
 generalize hr:(!wantOk x)=r
 have HQ:=Lib.hid hr
 clear hr
 obtain⟨item,day,qty⟩:=x
 have HK:=Lib.hid (fun W=>cRight_any item hx W)
 have HR:=Lib.hid (fun W=>Right_any qty W)
 clear hx
 unfold WantV.val encStr
 simp only
 have HB:=Lib.hid ((Below.refl w.heap.size w).alloc (Nat.le_refl _) (.cells #[.string ⟨item.toArray⟩,.int .i64 day,.int .i64 qty] 71))
 have HX:Hid (∀ W,Below (w.alloc (.cells #[.string ⟨item.toArray⟩,.int .i64 day,.int .i64 qty] 71)).heap.size (w.alloc (.cells #[.string ⟨item.toArray⟩,.int .i64 day,.int .i64 qty] 71)) W->W.cell? ⟨w.heap.size,1,none⟩=some (.int .i64 day)/\W.cell? ⟨w.heap.size,2,none⟩=some (.int .i64 qty)):=Lib.hid fun W h=>⟨(h.cell (p:=⟨w.heap.size,1,none⟩) (by simp)).trans (by simp),(h.cell (p:=⟨w.heap.size,2,none⟩) (by simp)).trans (by simp)⟩
 cases hk:okCode item with
 | true =>
  rw[hk] at HK
  by_cases h0:day < 0
  ·have E:=Lib.hid (show (!wantOk ⟨item,day,qty⟩)=true by rw[wantOk_no (fun h=>h.2.1 h0)];rfl)
   clear hk
   go_enter Tryz.func112,Tryz.ntmps112
   go_wp2_with (first | (go_at_call 52;refine (HK.out _).mono ?_;rintro e w8 ⟨rfl,hb8⟩;obtain⟨g1,g2⟩:=HX.out w8 hb8;have B8:=Lib.hid (HB.out.trans (hb8.mono (by simp)))) | (go_at_call 97;refine (HR.out _).mono ?_;rintro e w9 ⟨rfl,rfl⟩))
   go_ret
   exact⟨by rw[<- HQ.out,E.out];first | rfl | simp[*],B8.out⟩
  ·by_cases h1:4000 < day
   ·have E:=Lib.hid (show (!wantOk ⟨item,day,qty⟩)=true by rw[wantOk_no (fun h=>h.2.2.1 h1)];rfl)
    clear hk
    go_enter Tryz.func112,Tryz.ntmps112
    go_wp2_with (first | (go_at_call 52;refine (HK.out _).mono ?_;rintro e w8 ⟨rfl,hb8⟩;obtain⟨g1,g2⟩:=HX.out w8 hb8;have B8:=Lib.hid (HB.out.trans (hb8.mono (by simp)))) | (go_at_call 97;refine (HR.out _).mono ?_;rintro e w9 ⟨rfl,rfl⟩))
    go_ret
    exact⟨by rw[<- HQ.out,E.out];first | rfl | simp[*],B8.out⟩
   ·by_cases h2:qty < 1
    ·have E:=Lib.hid (show (!wantOk ⟨item,day,qty⟩)=true by rw[wantOk_no (fun h=>h.2.2.2.1 h2)];rfl)
     clear hk
     go_enter Tryz.func112,Tryz.ntmps112
     go_wp2_with (first | (go_at_call 52;refine (HK.out _).mono ?_;rintro e w8 ⟨rfl,hb8⟩;obtain⟨g1,g2⟩:=HX.out w8 hb8;have B8:=Lib.hid (HB.out.trans (hb8.mono (by simp)))) | (go_at_call 97;refine (HR.out _).mono ?_;rintro e w9 ⟨rfl,rfl⟩))
     go_ret
     exact⟨by rw[<- HQ.out,E.out];first | rfl | simp[*],B8.out⟩
    ·cases h3:okA qty with
     | true =>
      rw[h3] at HR
      have E:=Lib.hid (show (!wantOk ⟨item,day,qty⟩)=false by rw[wantOk_yes hk h0 h1 h2 h3];rfl)
      clear hk h3
      go_enter Tryz.func112,Tryz.ntmps112
      go_wp2_with (first | (go_at_call 52;refine (HK.out _).mono ?_;rintro e w8 ⟨rfl,hb8⟩;obtain⟨g1,g2⟩:=HX.out w8 hb8;have B8:=Lib.hid (HB.out.trans (hb8.mono (by simp)))) | (go_at_call 97;refine (HR.out _).mono ?_;rintro e w9 ⟨rfl,rfl⟩))
      go_ret
      exact⟨by rw[<- HQ.out,E.out];first | rfl | simp[*],B8.out⟩
     | false =>
      rw[h3] at HR
      have E:=Lib.hid (show (!wantOk ⟨item,day,qty⟩)=true by rw[wantOk_no (fun h=>by rw[h3] at h;cases h.2.2.2.2)];rfl)
      clear hk h3
      go_enter Tryz.func112,Tryz.ntmps112
      go_wp2_with (first | (go_at_call 52;refine (HK.out _).mono ?_;rintro e w8 ⟨rfl,hb8⟩;obtain⟨g1,g2⟩:=HX.out w8 hb8;have B8:=Lib.hid (HB.out.trans (hb8.mono (by simp)))) | (go_at_call 97;refine (HR.out _).mono ?_;rintro e w9 ⟨rfl,rfl⟩))
      go_ret
      exact⟨by rw[<- HQ.out,E.out];first | rfl | simp[*],B8.out⟩
 | false =>
  rw[hk] at HK
  have E:=Lib.hid (show (!wantOk ⟨item,day,qty⟩)=true by rw[wantOk_no (fun h=>by rw[hk] at h;cases h.1)];rfl)
  clear hk
  go_enter Tryz.func112,Tryz.ntmps112
  go_wp2_with (first | (go_at_call 52;refine (HK.out _).mono ?_;rintro e w8 ⟨rfl,hb8⟩;obtain⟨g1,g2⟩:=HX.out w8 hb8;have B8:=Lib.hid (HB.out.trans (hb8.mono (by simp)))) | (go_at_call 97;refine (HR.out _).mono ?_;rintro e w9 ⟨rfl,rfl⟩))
  go_ret
  exact⟨by rw[<- HQ.out,E.out];first | rfl | simp[*],B8.out⟩
end Go.Proofs.YtgplnekpgdhcpaaGreat
namespace Go.Proofs.YtgplnekpgdhcpaaGreat
section
variable {α:Type}
def hgt (kids:α->List α):Nat->α->Option Nat
 | 0,_=>none
 | k+1,c=>(kids c).foldl (fun acc p=>match acc,hgt kids k p with | some n,some d=>some (max n (d+1)) | _,_=>none) (some 1)
def stepH (f:α->Option Nat) (acc:Option Nat) (p:α):Option Nat:=match acc,f p with | some n,some d=>some (max n (d+1)) | _,_=>none
theorem hgt_succ (kids:α->List α) (k:Nat) (c:α):hgt kids (k+1) c=(kids c).foldl (stepH (hgt kids k)) (some 1):=rfl
theorem stepH_none (f:α->Option Nat) (l:List α):l.foldl (stepH f) none=none:=by
 induction l with
 | nil=>rfl
 | cons x l ih=>rw[List.foldl_cons];exact ih
theorem foldH_some {f:α->Option Nat}:∀ {l:List α} {n m:Nat},l.foldl (stepH f) (some n)=some m->n<=m/\∀ p∈l,∃ d,f p=some d/\d+1<=m
 | [],n,m,h=>by
  cases h
  exact⟨Nat.le_refl _,fun p hp=>by cases hp⟩
 | x :: l,n,m,h=>by
  rw[List.foldl_cons] at h
  cases hx:f x with
  | none =>
   have:stepH f (some n) x=none:=by simp[stepH,hx]
   rw[this,stepH_none] at h
   cases h
  | some d =>
   have e:stepH f (some n) x=some (max n (d+1)):=by simp[stepH,hx]
   rw[e] at h
   obtain⟨h1,h2⟩:=foldH_some h
   refine⟨by omega,fun p hp=>?_⟩
   rcases List.mem_cons.1 hp with rfl | hp
   ·exact⟨d,hx,by omega⟩
   ·exact h2 p hp
theorem foldH_congr {f g:α->Option Nat}:∀ {l:List α} {n m:Nat},(∀ p∈l,∀ d,f p=some d->g p=some d)->l.foldl (stepH f) (some n)=some m->l.foldl (stepH g) (some n)=some m
 | [],n,m,_,h=>h
 | x :: l,n,m,hc,h=>by
  rw[List.foldl_cons] at h ⊢
  cases hx:f x with
  | none =>
   have:stepH f (some n) x=none:=by simp[stepH,hx]
   rw[this,stepH_none] at h
   cases h
  | some d =>
   have e:stepH f (some n) x=some (max n (d+1)):=by simp[stepH,hx]
   have e':stepH g (some n) x=some (max n (d+1)):=by simp[stepH,hc x (List.mem_cons_self ..) d hx]
   rw[e] at h
   rw[e']
   exact foldH_congr (fun p hp=>hc p (List.mem_cons_of_mem _ hp)) h
theorem foldH_top {f:α->Option Nat}:∀ {l:List α} {n m:Nat},l.foldl (stepH f) (some n)=some m->m=n∨∃ p∈l,∃ d,f p=some d/\m=d+1
 | [],n,m,h=>by cases h;exact Or.inl rfl
 | x :: l,n,m,h=>by
  rw[List.foldl_cons] at h
  cases hx:f x with
  | none =>
   have:stepH f (some n) x=none:=by simp[stepH,hx]
   rw[this,stepH_none] at h
   cases h
  | some d =>
   have e:stepH f (some n) x=some (max n (d+1)):=by simp[stepH,hx]
   rw[e] at h
   rcases foldH_top h with h | ⟨p,hp,d',hd,hm⟩
   ·by_cases hle:n<=d+1
    ·exact Or.inr ⟨x,List.mem_cons_self ..,d,hx,by omega⟩
    ·exact Or.inl (by omega)
   ·exact Or.inr ⟨p,List.mem_cons_of_mem _ hp,d',hd,hm⟩
variable {kids:α->List α}
theorem hgt_mono1:∀ (k:Nat) (c:α) (d:Nat),hgt kids k c=some d->hgt kids (k+1) c=some d
 | 0,_,_,h=>by cases h
 | k+1,c,d,h=>by
  rw[hgt_succ] at h ⊢
  exact foldH_congr (fun p _ d hd=>hgt_mono1 k p d hd) h
theorem hgt_mono {k k':Nat} (hk:k<=k') {c:α} {d:Nat} (h:hgt kids k c=some d):hgt kids k' c=some d:=by
 induction hk with
 | refl=>exact h
 | step _ ih=>exact hgt_mono1 _ _ _ ih
theorem hgt_one {k k':Nat} {c:α} {d d':Nat} (h:hgt kids k c=some d) (h':hgt kids k' c=some d'):d=d':=by
 have a:=hgt_mono (Nat.le_max_left k k') h
 have b:=hgt_mono (Nat.le_max_right k k') h'
 rw[a] at b
 cases b;rfl
theorem hgt_pos {k:Nat} {c:α} {d:Nat} (h:hgt kids k c=some d):1<=d:=by
 cases k with
 | zero=>cases h
 | succ k=>exact (foldH_some h).1
theorem hgt_kid {k:Nat} {c p:α} {d:Nat} (h:hgt kids k c=some d) (hp:p∈kids c):∃ k' d',hgt kids k' p=some d'/\d' < d:=by
 cases k with
 | zero=>cases h
 | succ k =>
  obtain⟨d',h1,h2⟩:=(foldH_some h).2 p hp
  exact⟨k,d',h1,h2⟩
theorem hgt_fuel:∀ (d k:Nat) (c:α),hgt kids k c=some d->hgt kids d c=some d
 | d,0,_,h=>by cases h
 | d,k+1,c,h=>by
  have h0:=h
  rw[hgt_succ] at h
  have hp:=hgt_pos h0
  obtain⟨e,rfl⟩:∃ e,d=e+1:=⟨d - 1,by omega⟩
  rw[hgt_succ]
  refine foldH_congr (fun p hpm d' hd=>?_) h
  obtain⟨d2,h2,hle⟩:=(foldH_some h).2 p hpm
  rw[hd] at h2
  cases h2
  exact hgt_mono (by omega) (hgt_fuel d' k p hd)
theorem hgt_below {k:Nat} {c:α} {d:Nat} (h:hgt kids k c=some (d+1)) (hd:1<=d):∃ p∈kids c,∃ k',hgt kids k' p=some d:=by
 cases k with
 | zero=>cases h
 | succ k =>
  rcases foldH_top h with h | ⟨p,hp,d',hd',hm⟩
  ·omega
  ·exact⟨p,hp,k,by rw[hd'];congr 1;omega⟩
theorem hgt_chain {V:List α} (hV:∀ c∈V,∀ p∈kids c,p∈V):∀ (d:Nat) {k:Nat} {c:α},c∈V->hgt kids k c=some d->∀ e,1<=e->e<=d->∃ x∈V,∃ k',hgt kids k' x=some e
 | 0,_,_,_,h,_,_,_=>absurd (hgt_pos h) (by omega)
 | d+1,k,c,hc,h,e,h1,h2=>by
  by_cases he:e=d+1
  ·exact⟨c,hc,k,by rw[he];exact h⟩
  ·obtain⟨p,hp,k',hk'⟩:=hgt_below h (by omega)
   exact hgt_chain hV d (hV c hc p hp) hk' e h1 (by omega)
theorem many [DecidableEq α] (f:Nat->α) (V:List α) (d:Nat) (hf:∀ e,1<=e->e<=d->f e∈V) (hi:∀ a b,1<=a->a<=d->1<=b->b<=d->f a=f b->a=b):d<=V.length:=by
 induction d generalizing V with
 | zero=>exact Nat.zero_le _
 | succ d ih =>
  have hm:=hf (d+1) (by omega) (Nat.le_refl _)
  have h:=ih (V.erase (f (d+1))) (fun e h1 h2=>by
   have h3:=hf e h1 (by omega)
   refine (List.mem_erase_of_ne (fun he=>?_)).2 h3
   have:=hi e (d+1) h1 (by omega) (by omega) (Nat.le_refl _) he
   omega) (fun a b h1 h2 h3 h4=>hi a b h1 (by omega) h3 (by omega))
  rw[List.length_erase_of_mem hm] at h
  have:0 < V.length:=List.length_pos_of_mem hm
  omega
theorem hgt_le [DecidableEq α] {V:List α} (hV:∀ c∈V,∀ p∈kids c,p∈V) {k:Nat} {c:α} (hc:c∈V) {d:Nat} (h:hgt kids k c=some d):d<=V.length:=by
 have hch:=hgt_chain hV d hc h
 have hex:∀ e,∃ x,(1<=e->e<=d->x∈V/\∃ k',hgt kids k' x=some e):=fun e=>by
  by_cases he:1<=e/\e<=d
  ·obtain⟨x,hx,k',hk⟩:=hch e he.1 he.2
   exact⟨x,fun _ _=>⟨hx,k',hk⟩⟩
  ·exact⟨c,fun a b=>absurd ⟨a,b⟩ he⟩
 let f:Nat->α:=fun e=>Classical.choose (hex e)
 have hf:∀ e,1<=e->e<=d->f e∈V/\∃ k',hgt kids k' (f e)=some e:=fun e=>Classical.choose_spec (hex e)
 refine many f V d (fun e h1 h2=>(hf e h1 h2).1) (fun a b h1 h2 h3 h4 he=>?_)
 obtain⟨k1,e1⟩:=(hf a h1 h2).2
 obtain⟨k2,e2⟩:=(hf b h3 h4).2
 rw[he] at e1
 exact hgt_one e1 e2
theorem hgt_all [DecidableEq α] {V:List α} (hV:∀ c∈V,∀ p∈kids c,p∈V) {k:Nat} {c:α} (hc:c∈V) {d:Nat} (h:hgt kids k c=some d):hgt kids V.length c=some d :=
 hgt_mono (hgt_le hV hc h) (hgt_fuel d k c h)
inductive Way (kids:α->List α):α->α->Prop
 | one {a b:α}:b∈kids a->Way kids a b
 | more {a b c:α}:Way kids a b->c∈kids b->Way kids a c
theorem Way.lower {a b:α} (h:Way kids a b):∀ {k d:Nat},hgt kids k a=some d->∃ k' d',hgt kids k' b=some d'/\d' < d:=by
 induction h with
 | one hb=>intro k d hk;exact hgt_kid hk hb
 | more _ hc ih =>
  intro k d hk
  obtain⟨k1,d1,h1,l1⟩:=ih hk
  obtain⟨k2,d2,h2,l2⟩:=hgt_kid h1 hc
  exact⟨k2,d2,h2,by omega⟩
theorem Way.round {a:α} (h:Way kids a a) (k:Nat):hgt kids k a=none:=by
 cases hk:hgt kids k a with
 | none=>rfl
 | some d =>
  obtain⟨k',d',h',hl⟩:=h.lower hk
  have:=hgt_one hk h'
  omega
theorem foldH_of {g:α->Option Nat} {f:α->Nat}:∀ {l:List α} {n:Nat},(∀ p∈l,g p=some (f p))->l.foldl (stepH g) (some n)=some (l.foldl (fun n p=>max n (f p+1)) n)
 | [],_,_=>rfl
 | x :: l,n,hk=>by
  rw[List.foldl_cons,List.foldl_cons]
  have e:stepH g (some n) x=some (max n (f x+1)):=by simp[stepH,hk x (List.mem_cons_self ..)]
  rw[e]
  exact foldH_of (fun p hp=>hk p (List.mem_cons_of_mem _ hp))
theorem hgt_of_kids {c:α} {f:α->Nat} (h:∀ p∈kids c,∃ k,hgt kids k p=some (f p)):∃ k,hgt kids k c=some ((kids c).foldl (fun n p=>max n (f p+1)) 1):=by
 have hall:∃ k,∀ p∈kids c,hgt kids k p=some (f p):=by
  generalize kids c=l at h
  induction l with
  | nil=>exact⟨0,fun p hp=>by cases hp⟩
  | cons x l ih =>
   obtain⟨k1,h1⟩:=ih (fun p hp=>h p (List.mem_cons_of_mem _ hp))
   obtain⟨k2,h2⟩:=h x (List.mem_cons_self ..)
   refine⟨max k1 k2,fun p hp=>?_⟩
   rcases List.mem_cons.1 hp with rfl | hp
   ·exact hgt_mono (Nat.le_max_right _ _) h2
   ·exact hgt_mono (Nat.le_max_left _ _) (h1 p hp)
 obtain⟨k,hk⟩:=hall
 refine⟨k+1,?_⟩
 rw[hgt_succ]
 exact foldH_of hk
end
end Go.Proofs.YtgplnekpgdhcpaaGreat
namespace Go.Proofs.YtgplnekpgdhcpaaGreat
section
variable {α:Type} {kids:α->List α}
/-! ### in rounds -/
def setO [DecidableEq α] {β:Type} (o:α->β) (c:α) (v:β):α->β:=fun x=>if x=c then v else o x
/-! ### by looking down -/
def DI (kids:α->List α) (o:α->Int):Prop:=∀ c,o c=0∨o c = -1∨∃ k d,hgt kids k c=some d/\o c=(d:Int)
def Ext (o o':α->Int):Prop:=(∀ x,o x≠0->o' x=o x)/\∀ x,o' x = -1->o x = -1
theorem Ext.refl (o:α->Int):Ext o o:=⟨fun _ _=>rfl,fun _ h=>h⟩
theorem Ext.trans {a b c:α->Int} (h:Ext a b) (k:Ext b c):Ext a c :=
 ⟨fun x hx=>by have:=h.1 x hx;rw[k.1 x (by rw[this];exact hx),this],fun x hx=>h.2 x (k.2 x hx)⟩
def zc (V:List α) (o:α->Int):Nat:=V.countP fun x=>decide (o x=0)
theorem zc_cons (x:α) (V:List α) (o:α->Int):zc (x :: V) o=zc V o+(if o x=0 then 1 else 0):=by simp[zc,List.countP_cons]
theorem zc_le {V:List α} {a b:α->Int} (h:∀ x∈V,b x=0->a x=0):zc V b<=zc V a:=by
 induction V with
 | nil=>exact Nat.le_refl _
 | cons x V ih =>
  rw[zc_cons,zc_cons]
  have:=ih (fun y hy=>h y (List.mem_cons_of_mem _ hy))
  have h1:=h x (List.mem_cons_self ..)
  by_cases hb:b x=0
  ·rw[if_pos hb,if_pos (h1 hb)];omega
  ·rw[if_neg hb];omega
theorem Ext.zc {a b:α->Int} (h:Ext a b) (V:List α):zc V b<=zc V a:=zc_le fun x _ hb=>by
 by_cases ha:a x=0
 ·exact ha
 ·rw[h.1 x ha] at hb;exact hb
theorem setO_same [DecidableEq α] {β:Type} (o:α->β) (c:α) (v:β):setO o c v c=v:=if_pos rfl
theorem setO_other [DecidableEq α] {β:Type} (o:α->β) {c x:α} (h:x≠c) (v:β):setO o c v x=o x:=if_neg h
theorem zc_set [DecidableEq α] {o:α->Int} {c:α} {V:List α} (h0:o c=0) (hc:c∈V):zc V (setO o c (-1)) < zc V o:=by
 have hz:∀ x,setO o c (-1) x=0->o x=0:=fun x hx=>by
  by_cases e:x=c
  ·rw[e];exact h0
  ·rw[setO_other o e] at hx;exact hx
 induction V with
 | nil=>cases hc
 | cons x V ih =>
  rw[zc_cons,zc_cons]
  by_cases e:x=c
  ·subst e
   have:=zc_le (V:=V) (fun y _=>hz y)
   rw[setO_same,if_pos h0,if_neg (by decide)]
   omega
  ·have hm:c∈V:=by
    rcases List.mem_cons.1 hc with h | h
    ·exact absurd h.symm e
    ·exact h
   have:=ih hm
   rw[setO_other o e]
   omega
def Up2 (kids:α->List α) (o:α->Int) (c:α):Prop:=∀ x,o x = -1->Way kids x c
theorem Up2.kid [DecidableEq α] {o o':α->Int} {c p:α} (h:Up2 kids o c) (he:∀ x,o' x = -1->setO o c (-1) x = -1) (hp:p∈kids c):Up2 kids o' p:=fun x hx=>by
 have h1:=he x hx
 by_cases e:x=c
 ·subst e
  exact Way.one hp
 ·simp only[setO,if_neg e] at h1
  exact Way.more (h x h1) hp
theorem DI.set [DecidableEq α] {o:α->Int} (h:DI kids o) (c:α):DI kids (setO o c (-1)):=fun x=>by
 by_cases e:x=c
 ·subst e
  exact Or.inr (Or.inl (by simp[setO]))
 ·simp only[setO,if_neg e]
  exact h x
theorem DI.done [DecidableEq α] {o:α->Int} (h:DI kids o) {c:α} (hk:∀ p∈kids c,0 < o p):∃ k,hgt kids k c=some ((kids c).foldl (fun n p=>max n ((o p).toNat+1)) 1) :=
 hgt_of_kids fun p hp=>by
  rcases h p with h0 | h0 | ⟨k,d,hd,e⟩
  ·have:=hk p hp;omega
  ·have:=hk p hp;omega
  ·exact⟨k,by rw[hd,e];simp⟩
theorem DI.put [DecidableEq α] {o:α->Int} (h:DI kids o) {c:α} {k d:Nat} (hd:hgt kids k c=some d):DI kids (setO o c (d:Int)):=fun x=>by
 by_cases e:x=c
 ·subst e
  exact Or.inr (Or.inr ⟨k,d,hd,by simp[setO]⟩)
 ·simp only[setO,if_neg e]
  exact h x
theorem Ext.back [DecidableEq α] {o oj:α->Int} {c:α} (h0:o c=0) (h:Ext (setO o c (-1)) oj) {d:Nat}:Ext o (setO oj c (d:Int)):=by
 refine⟨fun x hx=>?_,fun x hx=>?_⟩
 ·by_cases e:x=c
  ·subst e;exact absurd h0 hx
  ·simp only[setO,if_neg e]
   have:=h.1 x (by simp only[setO,if_neg e];exact hx)
   simp only[setO,if_neg e] at this
   exact this
 ·by_cases e:x=c
  ·subst e
   simp only[setO,if_true] at hx
   omega
  ·simp only[setO,if_neg e] at hx
   have:=h.2 x hx
   simp only[setO,if_neg e] at this
   exact this
theorem maxfold_congr {o o':α->Int} {l:List α} {n:Nat} (h:∀ p∈l,o p=o' p):l.foldl (fun n p=>max n ((o p).toNat+1)) n=l.foldl (fun n p=>max n ((o' p).toNat+1)) n:=by
 induction l generalizing n with
 | nil=>rfl
 | cons x l ih =>
  rw[List.foldl_cons,List.foldl_cons,h x (List.mem_cons_self ..)]
  exact ih fun p hp=>h p (List.mem_cons_of_mem _ hp)
end
end Go.Proofs.YtgplnekpgdhcpaaGreat
namespace Go.Proofs.YtgplnekpgdhcpaaGreat
open Go.RowKit Go.Maps
def RVal (v:Value):Option (DataW Value×List MemPlace):=some (.held v,[])
def MF (w:World) (b n:Nat) (z:Value) (f:List UInt8->Value):Prop:=∃ D,w.ownsMap Tryz.prog 9 RVal b n D/\(∀ s,D.atKey (.string s) (.held z) = .held (f s))/\∀ s,Maps.has D (.string s)=true↔f s≠z
theorem skey:Keyed Tryz.prog 9:=string_keyed Tryz.underlying9
theorem skey_of (s:List UInt8) (hs:s.length<=9223372036854775807):keyOf Tryz.prog 9 (.string ⟨s.toArray⟩)=some (.string s):=by
 have h:=WideMaps.keyOf_string_mk (s:=⟨s.toArray⟩) Tryz.underlying9 (by simpa [ByteArray.size,maxLen] using hs)
 simpa using h
theorem MF.made (w:World) (z:Value):MF (w.alloc (.map #[] 0)) w.heap.size 0 z (fun _=>z):=⟨_,World.ownsMap_made _ _ _ _,fun _=>rfl,fun s=>Iff.intro (fun h=>by simp[Maps.has] at h) (fun h=>absurd rfl h)⟩
section
variable {w w':World} {b n:Nat} {z:Value} {f:List UInt8->Value}
theorem MF.lt (h:MF w b n z f):b < w.heap.size:=by
 obtain⟨D,h1,-⟩:=h
 exact h1.lt
theorem MF.kept (h:MF w b n z f) {row:Option Nat} (hg:w.grownBy w' row) (hne:some b≠row):MF w' b n z f:=by
 obtain⟨D,h1,h2⟩:=h
 exact⟨D,h1.kept hg hne,h2⟩
theorem MF.block (h:MF w b n z f) (hb:w'.heap[b]? = w.heap[b]?):MF w' b n z f:=by
 obtain⟨D,⟨es,clock,h1,h2⟩,h3⟩:=h
 exact⟨D,⟨es,clock,hb.trans h1,h2⟩,h3⟩
theorem MF.below (h:MF w b n z f) {B:Nat} (hb:Below B w w') (hB:b < B):MF w' b n z f:=h.block (hb.block b hB)
theorem MF.look (h:MF w b n z f) {t e:TypeId} (ht:Tryz.prog.underlying t=some (.map 9 e)) (hz:(zeroValue e).run Tryz.prog w = .ok z w) (s:List UInt8) (hs:s.length<=9223372036854775807) :
  (Instr.lookup t (.map (some b)) (.string ⟨s.toArray⟩) false).run Tryz.prog w = .ok (f s) w:=by
 obtain⟨D,h1,h2,-⟩:=h
 obtain⟨v,ps,hrun,hv⟩:=h1.lookup skey ht hz (zd:=.held z) (zp:=[]) rfl (skey_of s hs)
 rw[h2 s] at hv
 cases hv
 exact hrun
theorem MF.put (h:MF w b n z f) {t e:TypeId} (ht:Tryz.prog.underlying t=some (.map 9 e)) (hn:n < 9223372036854775807) (s:List UInt8) (hs:s.length<=9223372036854775807) (v:Value) (hne:v≠z) :
  ∃ w',(Instr.mapUpdate t (.map (some b)) (.string ⟨s.toArray⟩) v).run Tryz.prog w = .ok () w'/\MF w' b (n+1) z (setO f s v)/\w.grownBy w' (some b):=by
 obtain⟨D,h1,h2,h3⟩:=h
 obtain⟨w',hrun,r1,r2⟩:=h1.update skey ht (by simpa [maxLen] using hn) (skey_of s hs) (val:=v) (d:=.held v) (ps:=[]) rfl
 refine⟨w',hrun,⟨_,r1,fun x=>?_,fun x=>?_⟩,r2⟩
 ·by_cases e:x=s
  ·subst e
   rw[atKey_put_same h1.isMap (show WideAt.IsKeyLit (.string x) by trivial),setO_same]
  ·rw[atKey_put_other (fun e2=>e (by cases e2;rfl)),h2,setO_other _ e]
 ·by_cases e:x=s
  ·subst e
   rw[has_put_same h1.isMap (show WideAt.IsKeyLit (.string x) by trivial),setO_same]
   exact⟨fun _=>hne,fun _=>rfl⟩
  ·rw[has_put_other (fun e2=>e (by cases e2;rfl)),h3,setO_other _ e]
end
theorem wpList_put_mf {w:World} {ops:Array Oper} {rest:List Oper} {o:Oper} {a:Act} {Q:Exit->Act->World->Prop} (hgd:o.guard=none) (m x v:Operand) (t:TypeId) (ho:o.op = .mapUpdate t m x v) {e:TypeId}
  (ht:Tryz.prog.underlying t=some (.map 9 e)) {b n:Nat} {z:Value} {f:List UInt8->Value} (h:MF w b n z f) (hn:n < 9223372036854775807) (s:List UInt8) (val:Value) (hm:a.eval m = .map (some b)) (hx:a.eval x = .string ⟨s.toArray⟩) (hv:a.eval v=val) (hs:s.length<=9223372036854775807) (hne:val≠z)
  (hK:∀ w',MF w' b (n+1) z (setO f s val)->w.grownBy w' (some b)->wpList Tryz.prog ops Q rest (a.put o.dst undef) w'):wpList Tryz.prog ops Q (o :: rest) a w:=by
 refine wpList_plain hgd fun K' hK'=>?_
 obtain⟨w',hrun,r1,r2⟩:=h.put ht hn s hs val hne
 unfold Oper.wp
 simp[execOp,ho,hm,hx,hv,hrun,Result.andThen]
 exact hK' _ _ (hK w' r1 r2)
theorem zeroInt (w:World):(zeroValue 3).run Tryz.prog w = .ok (.int .i64 0) w:=by kernel_rfl
def zItem:Value:=.agg #[.string ⟨#[]⟩,.int .i64 0,.slice none 0 0,.slice none 0 0]
theorem zeroItem (w:World):(zeroValue 87).run Tryz.prog w = .ok zItem w:=by kernel_rfl
end Go.Proofs.YtgplnekpgdhcpaaGreat
