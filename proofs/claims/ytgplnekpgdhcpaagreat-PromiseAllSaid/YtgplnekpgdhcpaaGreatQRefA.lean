/-  -/
import Derived.Test.YtgplnekpgdhcpaaGreatQWin
namespace Go.Proofs.YtgplnekpgdhcpaaGreat
open Go.RowKit
theorem rwinRight_any (fr un:Int) (w:World):Calls Tryz.prog 193 #[.agg #[.int .i64 fr,.int .i64 un]] w fun e w'=>e=.returned (.bool (winB fr un))/\Below w.heap.size w w':=by
 have HB:=Lib.hid (fun c:Array Value=>(Below.refl w.heap.size w).alloc (Nat.le_refl _) (.cells c 48));by_cases h0:0<=fr
 ·skip
  by_cases h1:fr<=un
  ·skip
   by_cases h2:un<=4001
   ·skip
    have E:=Lib.hid (show winB fr un=true from winB_yes h0 h1 h2);go_enter Tryz.func193,Tryz.ntmps193;go_wp2_with (fail);go_ret;exact⟨by rw[E.out];rfl,HB.out _⟩
   ·have E:=Lib.hid (show winB fr un=false from winB_no (fun h=>h2 h.2.2));go_enter Tryz.func193,Tryz.ntmps193;go_wp2_with (fail);go_ret;exact⟨by rw[E.out];rfl,HB.out _⟩
  ·have E:=Lib.hid (show winB fr un=false from winB_no (fun h=>h1 h.2.1));go_enter Tryz.func193,Tryz.ntmps193;go_wp2_with (fail);go_ret;exact⟨by rw[E.out];rfl,HB.out _⟩
 ·have E:=Lib.hid (show winB fr un=false from winB_no (fun h=>h0 h.1));go_enter Tryz.func193,Tryz.ntmps193;go_wp2_with (fail);go_ret;exact⟨by rw[E.out];rfl,HB.out _⟩
set_option maxHeartbeats 1000000 in
theorem rwinHas_any (fr un day:Int) (w:World):Calls Tryz.prog 170 #[.agg #[.int .i64 fr,.int .i64 un],.int .i64 day] w fun e w'=>e=.returned (.bool (hasW fr un day))/\Below w.heap.size w w':=by
 generalize hr:hasW fr un day=r;have HQ:=Lib.hid hr;clear hr;have HR:=Lib.hid (fun W=>rwinRight_any fr un W);have HB:=Lib.hid ((Below.refl w.heap.size w).alloc (Nat.le_refl _) (.cells #[.int .i64 fr,.int .i64 un] 48));have HC:Hid ((w.alloc (.cells #[.int .i64 fr,.int .i64 un] 48)).cell? ⟨w.heap.size,0,none⟩=some (.int .i64 fr)/\(w.alloc (.cells #[.int .i64 fr,.int .i64 un] 48)).cell? ⟨w.heap.size,1,none⟩=some (.int .i64 un)):=Lib.hid ⟨by simp,by simp⟩
 cases h0:winB fr un with
 | true =>
  rw[h0] at HR;by_cases h1:fr<=day
  ·skip
   by_cases h2:day<un
   ·skip
    have E:=Lib.hid (show hasW fr un day=true from by rw[hasW_eq,h0];simp[h1,h2]);clear h0;go_enter Tryz.func170,Tryz.ntmps170;go_wp2_with (go_at_call 193;refine (HR.out _).mono ?_;rintro e w9 ⟨rfl,hb⟩;have c0:=(hb.cell (p:=⟨w.heap.size,0,none⟩) (by simp)).trans (HC.out.1);have c1:=(hb.cell (p:=⟨w.heap.size,1,none⟩) (by simp)).trans (HC.out.2);have B9:=Lib.hid (HB.out.trans (hb.mono (by simp))));go_ret;exact⟨by rw[<- HQ.out,E.out];first|rfl|simp[*],B9.out⟩
   ·have E:=Lib.hid (show hasW fr un day=false from by rw[hasW_eq,h0];simp[h2]);clear h0;go_enter Tryz.func170,Tryz.ntmps170;go_wp2_with (go_at_call 193;refine (HR.out _).mono ?_;rintro e w9 ⟨rfl,hb⟩;have c0:=(hb.cell (p:=⟨w.heap.size,0,none⟩) (by simp)).trans (HC.out.1);have c1:=(hb.cell (p:=⟨w.heap.size,1,none⟩) (by simp)).trans (HC.out.2);have B9:=Lib.hid (HB.out.trans (hb.mono (by simp))));go_ret;exact⟨by rw[<- HQ.out,E.out];first|rfl|simp[*],B9.out⟩
  ·have E:=Lib.hid (show hasW fr un day=false from by rw[hasW_eq,h0];simp[h1]);clear h0;go_enter Tryz.func170,Tryz.ntmps170;go_wp2_with (go_at_call 193;refine (HR.out _).mono ?_;rintro e w9 ⟨rfl,hb⟩;have c0:=(hb.cell (p:=⟨w.heap.size,0,none⟩) (by simp)).trans (HC.out.1);have c1:=(hb.cell (p:=⟨w.heap.size,1,none⟩) (by simp)).trans (HC.out.2);have B9:=Lib.hid (HB.out.trans (hb.mono (by simp))));go_ret;exact⟨by rw[<- HQ.out,E.out];first|rfl|simp[*],B9.out⟩
 | false =>
  rw[h0] at HR;have E:=Lib.hid (show hasW fr un day=false from by rw[hasW_eq,h0];simp);clear h0;go_enter Tryz.func170,Tryz.ntmps170;go_wp2_with (go_at_call 193;refine (HR.out _).mono ?_;rintro e w9 ⟨rfl,hb⟩;have c0:=(hb.cell (p:=⟨w.heap.size,0,none⟩) (by simp)).trans (HC.out.1);have c1:=(hb.cell (p:=⟨w.heap.size,1,none⟩) (by simp)).trans (HC.out.2);have B9:=Lib.hid (HB.out.trans (hb.mono (by simp))));go_ret;exact⟨by rw[<- HQ.out,E.out];first|rfl|simp[*],B9.out⟩
set_option maxHeartbeats 2000000 in
theorem rlotRight_any (x:LotV) (hx:x.item.length<=9223372036854775807) (w:World):Calls Tryz.prog 168 #[x.val] w fun e w'=>e=.returned (.bool (lotOk x))/\Below w.heap.size w w':=by
 generalize hr:lotOk x=r;have HQ:=Lib.hid hr;clear hr;obtain⟨id,item,fr,un,qty,arr⟩:=x;have HK:=Lib.hid (fun W=>rCode_any item hx W);clear hx;unfold LotV.val encStr;simp only;have HB:=Lib.hid ((Below.refl w.heap.size w).alloc (Nat.le_refl _) (.cells #[.int .i64 id,.string ⟨item.toArray⟩,.int .i64 fr,.int .i64 un,.int .i64 qty,.bool arr] 50));by_cases h0:1<=id
 ·skip
  cases h1:okCode item with
  | true =>
   rw[h1] at HK;by_cases h2:0<=fr
   ·skip
    by_cases h3:fr<un
    ·skip
     by_cases h4:un<=4001
     ·skip
      by_cases h5:1<=qty
      ·skip
       by_cases h6:qty<=1073741824
       ·skip
        have E:=Lib.hid (show lotOk ⟨id,item,fr,un,qty,arr⟩=true from lotOk_iff.2 ⟨h0,h1,h2,h3,h4,h5,h6⟩);clear h1;go_enter Tryz.func168,Tryz.ntmps168;go_wp2_with (go_at_call 69;refine (HK.out _).mono ?_;rintro e w8 ⟨rfl,rfl⟩);go_ret;exact⟨by rw[<- HQ.out,E.out];first|rfl|simp[*],HB.out⟩
       ·have E:=Lib.hid (show lotOk ⟨id,item,fr,un,qty,arr⟩=false from Bool.eq_false_iff.2 fun h=>by have h9:=lotOk_iff.1 h;simp only at h9;omega);clear h1;go_enter Tryz.func168,Tryz.ntmps168;go_wp2_with (go_at_call 69;refine (HK.out _).mono ?_;rintro e w8 ⟨rfl,rfl⟩);go_ret;exact⟨by rw[<- HQ.out,E.out];first|rfl|simp[*],HB.out⟩
      ·have E:=Lib.hid (show lotOk ⟨id,item,fr,un,qty,arr⟩=false from Bool.eq_false_iff.2 fun h=>by have h9:=lotOk_iff.1 h;simp only at h9;omega);clear h1;go_enter Tryz.func168,Tryz.ntmps168;go_wp2_with (go_at_call 69;refine (HK.out _).mono ?_;rintro e w8 ⟨rfl,rfl⟩);go_ret;exact⟨by rw[<- HQ.out,E.out];first|rfl|simp[*],HB.out⟩
     ·have E:=Lib.hid (show lotOk ⟨id,item,fr,un,qty,arr⟩=false from Bool.eq_false_iff.2 fun h=>by have h9:=lotOk_iff.1 h;simp only at h9;omega);clear h1;go_enter Tryz.func168,Tryz.ntmps168;go_wp2_with (go_at_call 69;refine (HK.out _).mono ?_;rintro e w8 ⟨rfl,rfl⟩);go_ret;exact⟨by rw[<- HQ.out,E.out];first|rfl|simp[*],HB.out⟩
    ·have E:=Lib.hid (show lotOk ⟨id,item,fr,un,qty,arr⟩=false from Bool.eq_false_iff.2 fun h=>by have h9:=lotOk_iff.1 h;simp only at h9;omega);clear h1;go_enter Tryz.func168,Tryz.ntmps168;go_wp2_with (go_at_call 69;refine (HK.out _).mono ?_;rintro e w8 ⟨rfl,rfl⟩);go_ret;exact⟨by rw[<- HQ.out,E.out];first|rfl|simp[*],HB.out⟩
   ·have E:=Lib.hid (show lotOk ⟨id,item,fr,un,qty,arr⟩=false from Bool.eq_false_iff.2 fun h=>by have h9:=lotOk_iff.1 h;simp only at h9;omega);clear h1;go_enter Tryz.func168,Tryz.ntmps168;go_wp2_with (go_at_call 69;refine (HK.out _).mono ?_;rintro e w8 ⟨rfl,rfl⟩);go_ret;exact⟨by rw[<- HQ.out,E.out];first|rfl|simp[*],HB.out⟩
  | false =>
   rw[h1] at HK;have E:=Lib.hid (show lotOk ⟨id,item,fr,un,qty,arr⟩=false from Bool.eq_false_iff.2 fun h=>by have h9:=lotOk_iff.1 h;simp only at h9;rw[h1] at h9;cases h9.2.1);clear h1;go_enter Tryz.func168,Tryz.ntmps168;go_wp2_with (go_at_call 69;refine (HK.out _).mono ?_;rintro e w8 ⟨rfl,rfl⟩);go_ret;exact⟨by rw[<- HQ.out,E.out];first|rfl|simp[*],HB.out⟩
 ·have E:=Lib.hid (show lotOk ⟨id,item,fr,un,qty,arr⟩=false from Bool.eq_false_iff.2 fun h=>by have h9:=lotOk_iff.1 h;simp only at h9;omega);go_enter Tryz.func168,Tryz.ntmps168;go_wp2_with (go_at_call 69;refine (HK.out _).mono ?_;rintro e w8 ⟨rfl,rfl⟩);go_ret;exact⟨by rw[<- HQ.out,E.out];first|rfl|simp[*],HB.out⟩
set_option maxHeartbeats 2000000 in
theorem rwantRight_any (x:WantV) (hx:x.item.length<=9223372036854775807) (w:World):Calls Tryz.prog 169 #[x.val] w fun e w'=>e=.returned (.bool (wantOk x))/\Below w.heap.size w w':=by
 generalize hr:wantOk x=r;have HQ:=Lib.hid hr;clear hr;obtain⟨item,day,qty⟩:=x;have HK:=Lib.hid (fun W=>rCode_any item hx W);clear hx;unfold WantV.val encStr;simp only;have HB:=Lib.hid ((Below.refl w.heap.size w).alloc (Nat.le_refl _) (.cells #[.string ⟨item.toArray⟩,.int .i64 day,.int .i64 qty] 71))
 cases h0:okCode item with
 | true =>
  rw[h0] at HK;by_cases h1:0<=day
  ·skip
   by_cases h2:day<=4000
   ·skip
    by_cases h3:1<=qty
    ·skip
     by_cases h4:qty<=1125899906842624
     ·skip
      have E:=Lib.hid (show wantOk ⟨item,day,qty⟩=true from wantOk_iff.2 ⟨h0,h1,h2,h3,h4⟩);clear h0;go_enter Tryz.func169,Tryz.ntmps169;go_wp2_with (go_at_call 69;refine (HK.out _).mono ?_;rintro e w8 ⟨rfl,rfl⟩);go_ret;exact⟨by rw[<- HQ.out,E.out];first|rfl|simp[*],HB.out⟩
     ·have E:=Lib.hid (show wantOk ⟨item,day,qty⟩=false from Bool.eq_false_iff.2 fun h=>by have h9:=wantOk_iff.1 h;simp only at h9;omega);clear h0;go_enter Tryz.func169,Tryz.ntmps169;go_wp2_with (go_at_call 69;refine (HK.out _).mono ?_;rintro e w8 ⟨rfl,rfl⟩);go_ret;exact⟨by rw[<- HQ.out,E.out];first|rfl|simp[*],HB.out⟩
    ·have E:=Lib.hid (show wantOk ⟨item,day,qty⟩=false from Bool.eq_false_iff.2 fun h=>by have h9:=wantOk_iff.1 h;simp only at h9;omega);clear h0;go_enter Tryz.func169,Tryz.ntmps169;go_wp2_with (go_at_call 69;refine (HK.out _).mono ?_;rintro e w8 ⟨rfl,rfl⟩);go_ret;exact⟨by rw[<- HQ.out,E.out];first|rfl|simp[*],HB.out⟩
   ·have E:=Lib.hid (show wantOk ⟨item,day,qty⟩=false from Bool.eq_false_iff.2 fun h=>by have h9:=wantOk_iff.1 h;simp only at h9;omega);clear h0;go_enter Tryz.func169,Tryz.ntmps169;go_wp2_with (go_at_call 69;refine (HK.out _).mono ?_;rintro e w8 ⟨rfl,rfl⟩);go_ret;exact⟨by rw[<- HQ.out,E.out];first|rfl|simp[*],HB.out⟩
  ·have E:=Lib.hid (show wantOk ⟨item,day,qty⟩=false from Bool.eq_false_iff.2 fun h=>by have h9:=wantOk_iff.1 h;simp only at h9;omega);clear h0;go_enter Tryz.func169,Tryz.ntmps169;go_wp2_with (go_at_call 69;refine (HK.out _).mono ?_;rintro e w8 ⟨rfl,rfl⟩);go_ret;exact⟨by rw[<- HQ.out,E.out];first|rfl|simp[*],HB.out⟩
 | false =>
  rw[h0] at HK;have E:=Lib.hid (show wantOk ⟨item,day,qty⟩=false from Bool.eq_false_iff.2 fun h=>by have h9:=wantOk_iff.1 h;simp only at h9;rw[h0] at h9;cases h9.1);clear h0;go_enter Tryz.func169,Tryz.ntmps169;go_wp2_with (go_at_call 69;refine (HK.out _).mono ?_;rintro e w8 ⟨rfl,rfl⟩);go_ret;exact⟨by rw[<- HQ.out,E.out];first|rfl|simp[*],HB.out⟩
set_option maxHeartbeats 2000000 in
theorem rlotCompare_any (a b:LotV) (w:World):Calls Tryz.prog 143 #[a.val,b.val] w fun e w'=>e=.returned (.int .i64 (cmpL a b))/\Below w.heap.size w w':=by
 generalize hr:cmpL a b=r;have HQ:=Lib.hid hr;clear hr;have HB:=Lib.hid (fun (i1 f1 u1 q1 i2 f2 u2 q2:Int) (n1 n2:List UInt8) (r1 r2:Bool)=>((Below.refl w.heap.size w).alloc (Nat.le_refl _) (.cells #[.int .i64 i1,.string ⟨n1.toArray⟩,.int .i64 f1,.int .i64 u1,.int .i64 q1,.bool r1] 50)).alloc (by rw[World.size_alloc];omega) (.cells #[.int .i64 i2,.string ⟨n2.toArray⟩,.int .i64 f2,.int .i64 u2,.int .i64 q2,.bool r2] 50));obtain⟨i1,n1,f1,u1,q1,r1⟩:=a;obtain⟨i2,n2,f2,u2,q2,r2⟩:=b;unfold LotV.val encStr;simp only;by_cases h0:u1<u2
 ·have E:=Lib.hid (show cmpL ⟨i1,n1,f1,u1,q1,r1⟩ ⟨i2,n2,f2,u2,q2,r2⟩=-1 by unfold cmpL orI cmpI;simp only;have:=h0;repeat (first|omega|split));go_enter Tryz.func143,Tryz.ntmps143;go_wp2_with (fail);go_ret;exact⟨by rw[<- HQ.out,E.out];first|rfl|simp[*],HB.out _ _ _ _ _ _ _ _ _ _ _ _⟩
 ·skip
  by_cases h1:u2<u1
  ·have E:=Lib.hid (show cmpL ⟨i1,n1,f1,u1,q1,r1⟩ ⟨i2,n2,f2,u2,q2,r2⟩=1 by unfold cmpL orI cmpI;simp only;have:=h1;repeat (first|omega|split));go_enter Tryz.func143,Tryz.ntmps143;go_wp2_with (fail);go_ret;exact⟨by rw[<- HQ.out,E.out];first|rfl|simp[*],HB.out _ _ _ _ _ _ _ _ _ _ _ _⟩
  ·skip
   by_cases h2:i1<i2
   ·have E:=Lib.hid (show cmpL ⟨i1,n1,f1,u1,q1,r1⟩ ⟨i2,n2,f2,u2,q2,r2⟩=-1 by unfold cmpL orI cmpI;simp only;have:=h2;repeat (first|omega|split));go_enter Tryz.func143,Tryz.ntmps143;go_wp2_with (fail);go_ret;exact⟨by rw[<- HQ.out,E.out];first|rfl|simp[*],HB.out _ _ _ _ _ _ _ _ _ _ _ _⟩
   ·skip
    by_cases h3:i2<i1
    ·have E:=Lib.hid (show cmpL ⟨i1,n1,f1,u1,q1,r1⟩ ⟨i2,n2,f2,u2,q2,r2⟩=1 by unfold cmpL orI cmpI;simp only;have:=h3;repeat (first|omega|split));go_enter Tryz.func143,Tryz.ntmps143;go_wp2_with (fail);go_ret;exact⟨by rw[<- HQ.out,E.out];first|rfl|simp[*],HB.out _ _ _ _ _ _ _ _ _ _ _ _⟩
    ·skip
     have E:=Lib.hid (show cmpL ⟨i1,n1,f1,u1,q1,r1⟩ ⟨i2,n2,f2,u2,q2,r2⟩=0 by unfold cmpL orI cmpI;simp[*]);go_enter Tryz.func143,Tryz.ntmps143;go_wp2_with (fail);go_ret;exact⟨by rw[<- HQ.out,E.out];first|rfl|simp[*],HB.out _ _ _ _ _ _ _ _ _ _ _ _⟩
def serveB (x:LotV) (y:WantV):Bool:=decide (x.item=y.item) && hasW x.fr x.un y.day
set_option maxHeartbeats 2000000 in
theorem rServes_any (x:LotV) (y:WantV) (w:World):Calls Tryz.prog 142 #[x.val,y.val] w fun e w'=>e=.returned (.bool (serveB x y))/\Below w.heap.size w w':=by
 generalize hr:serveB x y=r;have HQ:=Lib.hid hr;clear hr;obtain⟨id,item,fr,un,qty,arr⟩:=x;obtain⟨item2,day,qty2⟩:=y;have HR:=Lib.hid (fun W=>rwinHas_any fr un day W);unfold LotV.val WantV.val encStr;simp only;have HB:=Lib.hid (((Below.refl w.heap.size w).alloc (Nat.le_refl _) (.cells #[.int .i64 id,.string ⟨item.toArray⟩,.int .i64 fr,.int .i64 un,.int .i64 qty,.bool arr] 50)).alloc (by rw[World.size_alloc];omega) (.cells #[.string ⟨item2.toArray⟩,.int .i64 day,.int .i64 qty2] 71));by_cases h0:item=item2
 ·have E:=Lib.hid (show serveB ⟨id,item,fr,un,qty,arr⟩ ⟨item2,day,qty2⟩=hasW fr un day by unfold serveB;simp[h0]);subst h0;generalize hasW fr un day=bb at HR E;go_enter Tryz.func142,Tryz.ntmps142;go_wp2_with (go_at_call 170;refine (HR.out _).mono ?_;rintro e w9 ⟨rfl,hb9⟩;have B9:=Lib.hid (HB.out.trans (hb9.mono (by simp;omega))));go_ret;exact⟨by rw[<- HQ.out,E.out];first|rfl|simp[*],B9.out⟩
 ·have E:=Lib.hid (show serveB ⟨id,item,fr,un,qty,arr⟩ ⟨item2,day,qty2⟩=false by unfold serveB;simp[h0]);go_enter Tryz.func142,Tryz.ntmps142;go_wp2_with (fail);go_ret;exact⟨by rw[<- HQ.out,E.out];first|rfl|simp[*],HB.out⟩
end Go.Proofs.YtgplnekpgdhcpaaGreat
