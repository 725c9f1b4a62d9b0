/- rank.Right, storemanref09.Right: walks. (Printed by gen/rright.py.) slices.DeleteFunc at lines, by promise.One$1: its walk. (Printed by gen/delk.py.) Laws on slices of bytes: converted to a string, compared by bytealg.Compare. Steps of a region that draws its order, each by one law: a call of a function, an operation that runs to a value. -/
import Derived.Test.YtgplnekpgdhcpaaGreatKMap
import Derived.Test.YtgplnekpgdhcpaaGreatQLine
import Derived.Test.YtgplnekpgdhcpaaGreatQLineOk
import Derived.Test.YtgplnekpgdhcpaaGreatQWantsN
import Derived.Test.YtgplnekpgdhcpaaGreatKRight
import Derived.Test.YtgplnekpgdhcpaaGreatJPure
import Derived.Lib.Bytealg
import Derived.Lib.Bytes
import Derived.Shelf.Abstract
import Derived.Deep.RegionHeld3
import Derived.Deep.AppendLies
namespace Go.Proofs.YtgplnekpgdhcpaaGreat
open Go.RowKit
set_option maxHeartbeats 4000000 in
theorem rankRight_any (x:LineV) (hx:x.item.length<=9223372036854775807) (hy:x.code.length<=9223372036854775807) (w:World):Calls Tryz.prog 21 #[x.val] w fun e w'=>e = .returned (.bool (lineOk x))/\Below w.heap.size w w':=by
 generalize hr:lineOk x=r
 have HQ:=Lib.hid hr
 clear hr
 obtain⟨id,item,qty,asked,rank,st,day,code⟩:=x
 have HK:=Lib.hid (fun W=>cRight_any item hx W)
 have HL:=Lib.hid (fun W=>cRight_any code hy W)
 clear hx hy
 unfold LineV.val encStr
 simp only
 have HB:=Lib.hid ((Below.refl w.heap.size w).alloc (Nat.le_refl _) (.cells #[.int .i64 id,.string ⟨item.toArray⟩,.int .i64 qty,.int .i64 asked,.int .i64 rank,.int .u8 st,.int .i64 day,.string ⟨code.toArray⟩] 29))
 have HX:Hid (∀ W,Below (w.alloc (.cells #[.int .i64 id,.string ⟨item.toArray⟩,.int .i64 qty,.int .i64 asked,.int .i64 rank,.int .u8 st,.int .i64 day,.string ⟨code.toArray⟩] 29)).heap.size (w.alloc (.cells #[.int .i64 id,.string ⟨item.toArray⟩,.int .i64 qty,.int .i64 asked,.int .i64 rank,.int .u8 st,.int .i64 day,.string ⟨code.toArray⟩] 29)) W->W.cell? ⟨w.heap.size,0,none⟩=some (.int .i64 id)/\W.cell? ⟨w.heap.size,1,none⟩=some (.string ⟨item.toArray⟩)/\W.cell? ⟨w.heap.size,2,none⟩=some (.int .i64 qty)/\W.cell? ⟨w.heap.size,3,none⟩=some (.int .i64 asked)/\W.cell? ⟨w.heap.size,4,none⟩=some (.int .i64 rank)/\W.cell? ⟨w.heap.size,5,none⟩=some (.int .u8 st)/\W.cell? ⟨w.heap.size,6,none⟩=some (.int .i64 day)/\W.cell? ⟨w.heap.size,7,none⟩=some (.string ⟨code.toArray⟩)):=Lib.hid fun W h=>⟨(h.cell (p:=⟨w.heap.size,0,none⟩) (by simp)).trans (by simp),(h.cell (p:=⟨w.heap.size,1,none⟩) (by simp)).trans (by simp),(h.cell (p:=⟨w.heap.size,2,none⟩) (by simp)).trans (by simp),(h.cell (p:=⟨w.heap.size,3,none⟩) (by simp)).trans (by simp),(h.cell (p:=⟨w.heap.size,4,none⟩) (by simp)).trans (by simp),(h.cell (p:=⟨w.heap.size,5,none⟩) (by simp)).trans (by simp),(h.cell (p:=⟨w.heap.size,6,none⟩) (by simp)).trans (by simp),(h.cell (p:=⟨w.heap.size,7,none⟩) (by simp)).trans (by simp)⟩
 by_cases h0:1<=id
 ·cases hk:okCode item with
  | true =>
   rw[hk] at HK
   by_cases h2:1<=qty
   ·by_cases h3:qty<=1073741824
    ·by_cases h4:0<=asked
     ·by_cases h5:asked<=4000
      ·by_cases h6:0<=rank
       ·by_cases h7:rank<=99
        ·by_cases h8:1<=st
         ·by_cases h9:st<=3
          ·by_cases hd:day = -1
           ·by_cases hc:code=[]
            ·by_cases s2:st=2
             ·have E:=Lib.hid (show lineOk ⟨id,item,qty,asked,rank,st,day,code⟩=false by unfold lineOk;simp[h0,hk,h2,h3,h4,h5,h6,h7,hd,hc,s2] <;> omega)
              clear hk
              subst hc
              subst s2
              subst hd
              go_enter Tryz.func21,Tryz.ntmps21
              go_wp2_with (first | (go_at_call 52;refine (HK.out _).mono ?_;rintro e w8 ⟨rfl,hb8⟩;obtain⟨g0,g1,g2,g3,g4,g5,g6,g7⟩:=HX.out w8 hb8;have B8:=Lib.hid (HB.out.trans (hb8.mono (by simp)));have HX8:=Lib.hid (fun W (h:Below w8.heap.size w8 W)=>HX.out W (hb8.trans (h.mono hb8.size)));clear HK) | (go_at_call 52;refine (HL.out _).mono ?_;rintro e w9 ⟨rfl,hb9⟩;obtain⟨k0,k1,k2,k3,k4,k5,k6,k7⟩:=HX8.out w9 hb9;have B9:=Lib.hid (B8.out.trans (hb9.mono B8.out.size))))
              go_ret
              exact⟨by rw[<- HQ.out,E.out];first | rfl | simp[*],B8.out⟩
             ·have E:=Lib.hid (show lineOk ⟨id,item,qty,asked,rank,st,day,code⟩=true by unfold lineOk;simp[h0,hk,h2,h3,h4,h5,h6,h7,h8,h9,hd,hc,s2] <;> omega)
              clear hk
              subst hc
              subst hd
              go_enter Tryz.func21,Tryz.ntmps21
              go_wp2_with (first | (go_at_call 52;refine (HK.out _).mono ?_;rintro e w8 ⟨rfl,hb8⟩;obtain⟨g0,g1,g2,g3,g4,g5,g6,g7⟩:=HX.out w8 hb8;have B8:=Lib.hid (HB.out.trans (hb8.mono (by simp)));have HX8:=Lib.hid (fun W (h:Below w8.heap.size w8 W)=>HX.out W (hb8.trans (h.mono hb8.size)));clear HK) | (go_at_call 52;refine (HL.out _).mono ?_;rintro e w9 ⟨rfl,hb9⟩;obtain⟨k0,k1,k2,k3,k4,k5,k6,k7⟩:=HX8.out w9 hb9;have B9:=Lib.hid (B8.out.trans (hb9.mono B8.out.size))))
              go_ret
              exact⟨by rw[<- HQ.out,E.out];first | rfl | simp[*],B8.out⟩
            ·have E:=Lib.hid (show lineOk ⟨id,item,qty,asked,rank,st,day,code⟩=false by unfold lineOk;simp[h0,hk,h2,h3,h4,h5,h6,h7,h8,h9,hd,hc] <;> omega)
             clear hk
             subst hd
             go_enter Tryz.func21,Tryz.ntmps21
             go_wp2_with (first | (go_at_call 52;refine (HK.out _).mono ?_;rintro e w8 ⟨rfl,hb8⟩;obtain⟨g0,g1,g2,g3,g4,g5,g6,g7⟩:=HX.out w8 hb8;have B8:=Lib.hid (HB.out.trans (hb8.mono (by simp)));have HX8:=Lib.hid (fun W (h:Below w8.heap.size w8 W)=>HX.out W (hb8.trans (h.mono hb8.size)));clear HK) | (go_at_call 52;refine (HL.out _).mono ?_;rintro e w9 ⟨rfl,hb9⟩;obtain⟨k0,k1,k2,k3,k4,k5,k6,k7⟩:=HX8.out w9 hb9;have B9:=Lib.hid (B8.out.trans (hb9.mono B8.out.size))))
             go_ret
             exact⟨by rw[<- HQ.out,E.out];first | rfl | simp[*],B8.out⟩
           ·by_cases d0:0<=day
            ·by_cases d1:day<=4000
             ·cases hq:okCode code with
              | true =>
               rw[hq] at HL
               by_cases s3:st=3
               ·have E:=Lib.hid (show lineOk ⟨id,item,qty,asked,rank,st,day,code⟩=false by unfold lineOk;simp[h0,hk,h2,h3,h4,h5,h6,h7,hd,d0,d1,hq,s3] <;> omega)
                clear hk hq
                subst s3
                go_enter Tryz.func21,Tryz.ntmps21
                go_wp2_with (first | (go_at_call 52;refine (HK.out _).mono ?_;rintro e w8 ⟨rfl,hb8⟩;obtain⟨g0,g1,g2,g3,g4,g5,g6,g7⟩:=HX.out w8 hb8;have B8:=Lib.hid (HB.out.trans (hb8.mono (by simp)));have HX8:=Lib.hid (fun W (h:Below w8.heap.size w8 W)=>HX.out W (hb8.trans (h.mono hb8.size)));clear HK) | (go_at_call 52;refine (HL.out _).mono ?_;rintro e w9 ⟨rfl,hb9⟩;obtain⟨k0,k1,k2,k3,k4,k5,k6,k7⟩:=HX8.out w9 hb9;have B9:=Lib.hid (B8.out.trans (hb9.mono B8.out.size))))
                go_ret
                exact⟨by rw[<- HQ.out,E.out];first | rfl | simp[*],B9.out⟩
               ·have E:=Lib.hid (show lineOk ⟨id,item,qty,asked,rank,st,day,code⟩=true by unfold lineOk;simp[h0,hk,h2,h3,h4,h5,h6,h7,h8,h9,hd,d0,d1,hq,s3] <;> omega)
                clear hk hq
                go_enter Tryz.func21,Tryz.ntmps21
                go_wp2_with (first | (go_at_call 52;refine (HK.out _).mono ?_;rintro e w8 ⟨rfl,hb8⟩;obtain⟨g0,g1,g2,g3,g4,g5,g6,g7⟩:=HX.out w8 hb8;have B8:=Lib.hid (HB.out.trans (hb8.mono (by simp)));have HX8:=Lib.hid (fun W (h:Below w8.heap.size w8 W)=>HX.out W (hb8.trans (h.mono hb8.size)));clear HK) | (go_at_call 52;refine (HL.out _).mono ?_;rintro e w9 ⟨rfl,hb9⟩;obtain⟨k0,k1,k2,k3,k4,k5,k6,k7⟩:=HX8.out w9 hb9;have B9:=Lib.hid (B8.out.trans (hb9.mono B8.out.size))))
                go_ret
                exact⟨by rw[<- HQ.out,E.out];first | rfl | simp[*],B9.out⟩
              | false =>
               rw[hq] at HL
               have E:=Lib.hid (show lineOk ⟨id,item,qty,asked,rank,st,day,code⟩=false by unfold lineOk;simp[h0,hk,h2,h3,h4,h5,h6,h7,h8,h9,hd,d0,d1,hq] <;> omega)
               clear hk hq
               go_enter Tryz.func21,Tryz.ntmps21
               go_wp2_with (first | (go_at_call 52;refine (HK.out _).mono ?_;rintro e w8 ⟨rfl,hb8⟩;obtain⟨g0,g1,g2,g3,g4,g5,g6,g7⟩:=HX.out w8 hb8;have B8:=Lib.hid (HB.out.trans (hb8.mono (by simp)));have HX8:=Lib.hid (fun W (h:Below w8.heap.size w8 W)=>HX.out W (hb8.trans (h.mono hb8.size)));clear HK) | (go_at_call 52;refine (HL.out _).mono ?_;rintro e w9 ⟨rfl,hb9⟩;obtain⟨k0,k1,k2,k3,k4,k5,k6,k7⟩:=HX8.out w9 hb9;have B9:=Lib.hid (B8.out.trans (hb9.mono B8.out.size))))
               go_ret
               exact⟨by rw[<- HQ.out,E.out];first | rfl | simp[*],B9.out⟩
             ·have E:=Lib.hid (show lineOk ⟨id,item,qty,asked,rank,st,day,code⟩=false by unfold lineOk;simp[h0,hk,h2,h3,h4,h5,h6,h7,h8,h9,hd,d0,d1] <;> omega)
              clear hk
              go_enter Tryz.func21,Tryz.ntmps21
              go_wp2_with (first | (go_at_call 52;refine (HK.out _).mono ?_;rintro e w8 ⟨rfl,hb8⟩;obtain⟨g0,g1,g2,g3,g4,g5,g6,g7⟩:=HX.out w8 hb8;have B8:=Lib.hid (HB.out.trans (hb8.mono (by simp)));have HX8:=Lib.hid (fun W (h:Below w8.heap.size w8 W)=>HX.out W (hb8.trans (h.mono hb8.size)));clear HK) | (go_at_call 52;refine (HL.out _).mono ?_;rintro e w9 ⟨rfl,hb9⟩;obtain⟨k0,k1,k2,k3,k4,k5,k6,k7⟩:=HX8.out w9 hb9;have B9:=Lib.hid (B8.out.trans (hb9.mono B8.out.size))))
              go_ret
              exact⟨by rw[<- HQ.out,E.out];first | rfl | simp[*],B8.out⟩
            ·have E:=Lib.hid (show lineOk ⟨id,item,qty,asked,rank,st,day,code⟩=false by unfold lineOk;simp[h0,hk,h2,h3,h4,h5,h6,h7,h8,h9,hd,d0] <;> omega)
             clear hk
             go_enter Tryz.func21,Tryz.ntmps21
             go_wp2_with (first | (go_at_call 52;refine (HK.out _).mono ?_;rintro e w8 ⟨rfl,hb8⟩;obtain⟨g0,g1,g2,g3,g4,g5,g6,g7⟩:=HX.out w8 hb8;have B8:=Lib.hid (HB.out.trans (hb8.mono (by simp)));have HX8:=Lib.hid (fun W (h:Below w8.heap.size w8 W)=>HX.out W (hb8.trans (h.mono hb8.size)));clear HK) | (go_at_call 52;refine (HL.out _).mono ?_;rintro e w9 ⟨rfl,hb9⟩;obtain⟨k0,k1,k2,k3,k4,k5,k6,k7⟩:=HX8.out w9 hb9;have B9:=Lib.hid (B8.out.trans (hb9.mono B8.out.size))))
             go_ret
             exact⟨by rw[<- HQ.out,E.out];first | rfl | simp[*],B8.out⟩
          ·have E:=Lib.hid (show lineOk ⟨id,item,qty,asked,rank,st,day,code⟩=false by unfold lineOk;simp[h0,hk,h2,h3,h4,h5,h6,h7,h8,h9] <;> omega)
           clear hk
           go_enter Tryz.func21,Tryz.ntmps21
           go_wp2_with (first | (go_at_call 52;refine (HK.out _).mono ?_;rintro e w8 ⟨rfl,hb8⟩;obtain⟨g0,g1,g2,g3,g4,g5,g6,g7⟩:=HX.out w8 hb8;have B8:=Lib.hid (HB.out.trans (hb8.mono (by simp)));have HX8:=Lib.hid (fun W (h:Below w8.heap.size w8 W)=>HX.out W (hb8.trans (h.mono hb8.size)));clear HK) | (go_at_call 52;refine (HL.out _).mono ?_;rintro e w9 ⟨rfl,hb9⟩;obtain⟨k0,k1,k2,k3,k4,k5,k6,k7⟩:=HX8.out w9 hb9;have B9:=Lib.hid (B8.out.trans (hb9.mono B8.out.size))))
           go_ret
           exact⟨by rw[<- HQ.out,E.out];first | rfl | simp[*],B8.out⟩
         ·have E:=Lib.hid (show lineOk ⟨id,item,qty,asked,rank,st,day,code⟩=false by unfold lineOk;simp[h0,hk,h2,h3,h4,h5,h6,h7,h8] <;> omega)
          clear hk
          go_enter Tryz.func21,Tryz.ntmps21
          go_wp2_with (first | (go_at_call 52;refine (HK.out _).mono ?_;rintro e w8 ⟨rfl,hb8⟩;obtain⟨g0,g1,g2,g3,g4,g5,g6,g7⟩:=HX.out w8 hb8;have B8:=Lib.hid (HB.out.trans (hb8.mono (by simp)));have HX8:=Lib.hid (fun W (h:Below w8.heap.size w8 W)=>HX.out W (hb8.trans (h.mono hb8.size)));clear HK) | (go_at_call 52;refine (HL.out _).mono ?_;rintro e w9 ⟨rfl,hb9⟩;obtain⟨k0,k1,k2,k3,k4,k5,k6,k7⟩:=HX8.out w9 hb9;have B9:=Lib.hid (B8.out.trans (hb9.mono B8.out.size))))
          go_ret
          exact⟨by rw[<- HQ.out,E.out];first | rfl | simp[*],B8.out⟩
        ·have E:=Lib.hid (show lineOk ⟨id,item,qty,asked,rank,st,day,code⟩=false by unfold lineOk;simp[h0,hk,h2,h3,h4,h5,h6,h7] <;> omega)
         clear hk
         go_enter Tryz.func21,Tryz.ntmps21
         go_wp2_with (first | (go_at_call 52;refine (HK.out _).mono ?_;rintro e w8 ⟨rfl,hb8⟩;obtain⟨g0,g1,g2,g3,g4,g5,g6,g7⟩:=HX.out w8 hb8;have B8:=Lib.hid (HB.out.trans (hb8.mono (by simp)));have HX8:=Lib.hid (fun W (h:Below w8.heap.size w8 W)=>HX.out W (hb8.trans (h.mono hb8.size)));clear HK) | (go_at_call 52;refine (HL.out _).mono ?_;rintro e w9 ⟨rfl,hb9⟩;obtain⟨k0,k1,k2,k3,k4,k5,k6,k7⟩:=HX8.out w9 hb9;have B9:=Lib.hid (B8.out.trans (hb9.mono B8.out.size))))
         go_ret
         exact⟨by rw[<- HQ.out,E.out];first | rfl | simp[*],B8.out⟩
       ·have E:=Lib.hid (show lineOk ⟨id,item,qty,asked,rank,st,day,code⟩=false by unfold lineOk;simp[h0,hk,h2,h3,h4,h5,h6] <;> omega)
        clear hk
        go_enter Tryz.func21,Tryz.ntmps21
        go_wp2_with (first | (go_at_call 52;refine (HK.out _).mono ?_;rintro e w8 ⟨rfl,hb8⟩;obtain⟨g0,g1,g2,g3,g4,g5,g6,g7⟩:=HX.out w8 hb8;have B8:=Lib.hid (HB.out.trans (hb8.mono (by simp)));have HX8:=Lib.hid (fun W (h:Below w8.heap.size w8 W)=>HX.out W (hb8.trans (h.mono hb8.size)));clear HK) | (go_at_call 52;refine (HL.out _).mono ?_;rintro e w9 ⟨rfl,hb9⟩;obtain⟨k0,k1,k2,k3,k4,k5,k6,k7⟩:=HX8.out w9 hb9;have B9:=Lib.hid (B8.out.trans (hb9.mono B8.out.size))))
        go_ret
        exact⟨by rw[<- HQ.out,E.out];first | rfl | simp[*],B8.out⟩
      ·have E:=Lib.hid (show lineOk ⟨id,item,qty,asked,rank,st,day,code⟩=false by unfold lineOk;simp[h0,hk,h2,h3,h4,h5] <;> omega)
       clear hk
       go_enter Tryz.func21,Tryz.ntmps21
       go_wp2_with (first | (go_at_call 52;refine (HK.out _).mono ?_;rintro e w8 ⟨rfl,hb8⟩;obtain⟨g0,g1,g2,g3,g4,g5,g6,g7⟩:=HX.out w8 hb8;have B8:=Lib.hid (HB.out.trans (hb8.mono (by simp)));have HX8:=Lib.hid (fun W (h:Below w8.heap.size w8 W)=>HX.out W (hb8.trans (h.mono hb8.size)));clear HK) | (go_at_call 52;refine (HL.out _).mono ?_;rintro e w9 ⟨rfl,hb9⟩;obtain⟨k0,k1,k2,k3,k4,k5,k6,k7⟩:=HX8.out w9 hb9;have B9:=Lib.hid (B8.out.trans (hb9.mono B8.out.size))))
       go_ret
       exact⟨by rw[<- HQ.out,E.out];first | rfl | simp[*],B8.out⟩
     ·have E:=Lib.hid (show lineOk ⟨id,item,qty,asked,rank,st,day,code⟩=false by unfold lineOk;simp[h0,hk,h2,h3,h4] <;> omega)
      clear hk
      go_enter Tryz.func21,Tryz.ntmps21
      go_wp2_with (first | (go_at_call 52;refine (HK.out _).mono ?_;rintro e w8 ⟨rfl,hb8⟩;obtain⟨g0,g1,g2,g3,g4,g5,g6,g7⟩:=HX.out w8 hb8;have B8:=Lib.hid (HB.out.trans (hb8.mono (by simp)));have HX8:=Lib.hid (fun W (h:Below w8.heap.size w8 W)=>HX.out W (hb8.trans (h.mono hb8.size)));clear HK) | (go_at_call 52;refine (HL.out _).mono ?_;rintro e w9 ⟨rfl,hb9⟩;obtain⟨k0,k1,k2,k3,k4,k5,k6,k7⟩:=HX8.out w9 hb9;have B9:=Lib.hid (B8.out.trans (hb9.mono B8.out.size))))
      go_ret
      exact⟨by rw[<- HQ.out,E.out];first | rfl | simp[*],B8.out⟩
    ·have E:=Lib.hid (show lineOk ⟨id,item,qty,asked,rank,st,day,code⟩=false by unfold lineOk;simp[h0,hk,h2,h3] <;> omega)
     clear hk
     go_enter Tryz.func21,Tryz.ntmps21
     go_wp2_with (first | (go_at_call 52;refine (HK.out _).mono ?_;rintro e w8 ⟨rfl,hb8⟩;obtain⟨g0,g1,g2,g3,g4,g5,g6,g7⟩:=HX.out w8 hb8;have B8:=Lib.hid (HB.out.trans (hb8.mono (by simp)));have HX8:=Lib.hid (fun W (h:Below w8.heap.size w8 W)=>HX.out W (hb8.trans (h.mono hb8.size)));clear HK) | (go_at_call 52;refine (HL.out _).mono ?_;rintro e w9 ⟨rfl,hb9⟩;obtain⟨k0,k1,k2,k3,k4,k5,k6,k7⟩:=HX8.out w9 hb9;have B9:=Lib.hid (B8.out.trans (hb9.mono B8.out.size))))
     go_ret
     exact⟨by rw[<- HQ.out,E.out];first | rfl | simp[*],B8.out⟩
   ·have E:=Lib.hid (show lineOk ⟨id,item,qty,asked,rank,st,day,code⟩=false by unfold lineOk;simp[h0,hk,h2] <;> omega)
    clear hk
    go_enter Tryz.func21,Tryz.ntmps21
    go_wp2_with (first | (go_at_call 52;refine (HK.out _).mono ?_;rintro e w8 ⟨rfl,hb8⟩;obtain⟨g0,g1,g2,g3,g4,g5,g6,g7⟩:=HX.out w8 hb8;have B8:=Lib.hid (HB.out.trans (hb8.mono (by simp)));have HX8:=Lib.hid (fun W (h:Below w8.heap.size w8 W)=>HX.out W (hb8.trans (h.mono hb8.size)));clear HK) | (go_at_call 52;refine (HL.out _).mono ?_;rintro e w9 ⟨rfl,hb9⟩;obtain⟨k0,k1,k2,k3,k4,k5,k6,k7⟩:=HX8.out w9 hb9;have B9:=Lib.hid (B8.out.trans (hb9.mono B8.out.size))))
    go_ret
    exact⟨by rw[<- HQ.out,E.out];first | rfl | simp[*],B8.out⟩
  | false =>
   rw[hk] at HK
   have E:=Lib.hid (show lineOk ⟨id,item,qty,asked,rank,st,day,code⟩=false by unfold lineOk;simp[h0,hk] <;> omega)
   clear hk
   go_enter Tryz.func21,Tryz.ntmps21
   go_wp2_with (first | (go_at_call 52;refine (HK.out _).mono ?_;rintro e w8 ⟨rfl,hb8⟩;obtain⟨g0,g1,g2,g3,g4,g5,g6,g7⟩:=HX.out w8 hb8;have B8:=Lib.hid (HB.out.trans (hb8.mono (by simp)));have HX8:=Lib.hid (fun W (h:Below w8.heap.size w8 W)=>HX.out W (hb8.trans (h.mono hb8.size)));clear HK) | (go_at_call 52;refine (HL.out _).mono ?_;rintro e w9 ⟨rfl,hb9⟩;obtain⟨k0,k1,k2,k3,k4,k5,k6,k7⟩:=HX8.out w9 hb9;have B9:=Lib.hid (B8.out.trans (hb9.mono B8.out.size))))
   go_ret
   exact⟨by rw[<- HQ.out,E.out];first | rfl | simp[*],B8.out⟩
 ·have E:=Lib.hid (show lineOk ⟨id,item,qty,asked,rank,st,day,code⟩=false by unfold lineOk;simp[h0] <;> omega)
  go_enter Tryz.func21,Tryz.ntmps21
  go_wp2_with (first | (go_at_call 52;refine (HK.out _).mono ?_;rintro e w8 ⟨rfl,hb8⟩;obtain⟨g0,g1,g2,g3,g4,g5,g6,g7⟩:=HX.out w8 hb8;have B8:=Lib.hid (HB.out.trans (hb8.mono (by simp)));have HX8:=Lib.hid (fun W (h:Below w8.heap.size w8 W)=>HX.out W (hb8.trans (h.mono hb8.size)));clear HK) | (go_at_call 52;refine (HL.out _).mono ?_;rintro e w9 ⟨rfl,hb9⟩;obtain⟨k0,k1,k2,k3,k4,k5,k6,k7⟩:=HX8.out w9 hb9;have B9:=Lib.hid (B8.out.trans (hb9.mono B8.out.size))))
  go_ret
  exact⟨by rw[<- HQ.out,E.out];first | rfl | simp[*],HB.out⟩
end Go.Proofs.YtgplnekpgdhcpaaGreat
namespace Go.Proofs.YtgplnekpgdhcpaaGreat
open Go.RowKit Go.Sort Go.Lib Go.Shelf
def keepO (id:Int):LineV->Bool:=fun x=>decide (x.id≠id)
theorem del1O (x:LineV) (w:World) (q:Nat) (id:Int) (hq:w.cell? ⟨q,0,none⟩=some (.int .i64 id)) (hql:q < w.heap.size):Calls Tryz.prog 37 #[x.val,.pointer (some ⟨q,0,none⟩)] w fun e w'=>e = .returned (.bool (!(keepO id) x))/\∃ o,w'=w.alloc o:=by
 obtain⟨xid,xitem,xqty,xasked,xrank,xst,xday,xcode⟩:=x
 unfold LineV.val encStr
 simp only
 have hq1:=((below_allocL w (.cells #[.int .i64 xid,.string ⟨xitem.toArray⟩,.int .i64 xqty,.int .i64 xasked,.int .i64 xrank,.int .u8 xst,.int .i64 xday,.string ⟨xcode.toArray⟩] 29)).cell (p:=⟨q,0,none⟩) hql).trans hq
 go_enter Tryz.func37,Tryz.ntmps37
 go_wp2_with (fail)
 go_ret
 exact⟨by unfold keepO;first | rfl | (simp[*];done) | (by_cases h:xid=id <;> simp[h]),_,rfl⟩
set_option maxHeartbeats 4000000 in
set_option maxRecDepth 100000 in
theorem delO_some (base:Nat) (g n c:Nat) (X:List LineV) (w:World) (q:Nat) (id:Int) (hq:w.cell? ⟨q,0,none⟩=some (.int .i64 id)) (hql:q < w.heap.size) (hqg:q≠g) (h:lineE.Own base w (.slice (some ⟨g,0,none⟩) n c) X) (hf:∀ x∈X,okLine x) (hn:n<=100000000) (j0:Nat) (hj0:idxI (fun x:LineV=>!(keepO id) x) X=j0) (hj1:j0 < n) :
  Calls Tryz.prog 35 #[.slice (some ⟨g,0,none⟩) n c,.func (.func 37) #[] #[.pointer (some ⟨q,0,none⟩)]] w fun e w'=>∃ m,e = .returned (.slice (some ⟨g,0,none⟩) m c)/\lineE.Own base w' (.slice (some ⟨g,0,none⟩) n c) (X.filter (keepO id) ++ List.replicate (n - (X.filter (keepO id)).length) default)/\m=(X.filter (keepO id)).length/\OnlyB g w w':=by
 have hx:=(h.cell).1
 obtain⟨-,hle,hmx,-,-,-⟩:=h.cell
 have hlt:=(h.ge g rfl).2
 have hsz:Hid (X.toArray.size=n):=Lib.hid (by simp[hx])
 have HQ:Hid (∀ V,Below w.heap.size w V->V.cell? ⟨q,0,none⟩=some (.int .i64 id)):=Lib.hid fun V hb=>(hb.cell (p:=⟨q,0,none⟩) hql).trans hq
 have HPK:Hid (∀ V,Below w.heap.size w V->lineE.Own base V (.slice (some ⟨g,0,none⟩) n c) X/\RowK encLine 8 V g 0 X.toArray/\OnlyB g w V):=Lib.hid fun V hb=>⟨h.below hb,⟨lineE.len,lineE.one,own_holds (h.below hb),Nat.lt_of_lt_of_le hlt hb.size⟩,⟨hb.os,hb.tape,hb.output,hb.size,fun b _ hbl=>hb.block b hbl⟩⟩
 have HI:Hid (Calls Tryz.prog 61 #[.slice (some ⟨g,0,none⟩) n c,.func (.func 37) #[] #[.pointer (some ⟨q,0,none⟩)]] w fun e w'=>e = .returned (.int .i64 j0)/\Below w.heap.size w w'):=Lib.hid (by
  obtain⟨a',c',e',hin⟩:=h.in_ hf
  injection e' with e1 e2 e3
  subst e1;subst e3
  rw[<- hx] at hin
  have:=indexLine_any ixLine_laid (fun x:LineV=>!(keepO id) x) 37 #[.pointer (some ⟨q,0,none⟩)] (enters_of Tryz.func37 (by kernel_rfl) rfl) w.heap.size _ n c X w hin (Nat.le_refl _) (fun V x hb1 _=>by
   have:=del1O x V q id (HQ.out V hb1) (Nat.lt_of_lt_of_le hql hb1.size)
   simp only[LineV.val] at this
   refine Calls.mono (by simpa using this) ?_
   rintro e w' ⟨rfl,o,rfl⟩
   exact⟨rfl,below_allocL _ _⟩)
  rwa [hj0] at this)
 have HS0:=Lib.hid (idxK_start (p:=(keepO id)) hj0)
 have HX:=Lib.hid hx
 clear hx hj0 h hf
 go_enter Tryz.func35,Tryz.ntmps35
 go_wp2_with (go_at_call 61;refine HI.out.mono ?_;rintro e w9 ⟨rfl,hb9⟩;have P9:=Lib.hid (HPK.out w9 hb9);have Q9:=Lib.hid (⟨HQ.out w9 hb9,hb9.size⟩:_/\_);clear hb9)
 have HS9:Hid (SWK encLine 8 w9 g 0 X.toArray w9):=Lib.hid (SWK.start P9.out.2.1.hH)
 have HO:=Lib.hid P9.out.1
 have R:=Lib.hid P9.out.2.1
 have HW9:=Lib.hid P9.out.2.2
 go_loopw [5,6,7] (fun s5 s6 _ wr=>∃ (i j:Nat) (dk:Array LineV),s5 = .int .i64 i/\s6 = .int .i64 j/\j<=n/\Hid (SWK encLine 8 w9 g 0 dk wr)/\Hid (KeptInv (fun j=>(keepO id) (X.toArray[j]!)) X.toArray j i dk)) (fun _ s6 _ _=>n - (intOf s6).toNat)
 case atStart=>exact⟨j0,j0+1,X.toArray,rfl,by go_num,by omega,HS9,HS0⟩
 case round =>
  clear HS9 HS0
  obtain⟨i,j,dk,rfl,rfl,hj,S,I⟩:=hrel
  have hij:=I.out.lt
  have hds:Hid (dk.size=n):=Lib.hid (I.out.size.trans hsz.out)
  have Ow:Hid (lineE.Own base wr (.slice (some ⟨g,0,none⟩) n c) dk.toList/\OnlyB g w9 wr):=Lib.hid (own_sorted HO.out S.out (by rw[hds.out,HX.out]))
  by_cases hlt2:j < n
  ·obtain⟨g0,g1,g2,g3,g4,g5,g6,g7⟩:=line_own_cells Ow.out.1 hlt2
   have ex:dk.toList.getD j default=X.toArray[j]!:=by
    rw[<- I.out.high j (by omega),getElem!_pos dk j (by have:=hds.out;omega),List.getD_eq_getElem?_getD,List.getElem?_eq_getElem (by rw[Array.length_toList,hds.out];exact hlt2)]
    rfl
   rw[ex] at g0 g1 g2 g3 g4 g5 g6 g7
   have HK:=Lib.hid (fun (ha:(keepO id) (X.toArray[j]!)=true)=>I.out.keep (by rw[hsz.out];exact hlt2) ha)
   have HN:=Lib.hid (fun (ha:(keepO id) (X.toArray[j]!)=false)=>I.out.skip ha)
   clear ex
   generalize X.toArray[j]! = x at g0 g1 g2 g3 g4 g5 g6 g7 HK HN
   obtain⟨bk,hbk⟩:∃ b,b=(keepO id) x:=⟨_,rfl⟩
   have HD0:Hid (∀ V:World,V.cell? ⟨q,0,none⟩=some (.int .i64 id)->q < V.heap.size->Calls Tryz.prog 37 #[x.val,.pointer (some ⟨q,0,none⟩)] V fun e w'=>e = .returned (.bool (!bk))/\∃ o,w'=V.alloc o):=Lib.hid fun V hV hV2=>by rw[hbk];exact del1O x V q id hV hV2
   rw[<- hbk] at HK HN
   clear hbk
   obtain⟨xid,xitem,xqty,xasked,xrank,xst,xday,xcode⟩:=x
   simp only at g0 g1 g2 g3 g4 g5 g6 g7
   unfold encStr at g1 g7
   unfold LineV.val encStr at HD0
   simp only at HD0
   obtain⟨W1,hW1⟩:∃ V,V=wr.alloc (.cells #[.int .i64 xid,.string ⟨xitem.toArray⟩,.int .i64 xqty,.int .i64 xasked,.int .i64 xrank,.int .u8 xst,.int .i64 xday,.string ⟨xcode.toArray⟩] 29):=⟨_,rfl⟩
   obtain⟨p,hp⟩:∃ p,p=wr.heap.size:=⟨_,rfl⟩
   have hp1:W1.heap[p]? = some (lineObj xid xitem xqty xasked xrank xst xday xcode):=by rw[hW1,hp];exact heap_alloc_new _ _
   have S1:Hid (SWK encLine 8 w9 g 0 dk W1):=Lib.hid (by rw[hW1];exact S.out.alloc _)
   have hq1:W1.cell? ⟨q,0,none⟩=some (.int .i64 id):=by
    have h9:q < w9.heap.size:=by have:=Q9.out.2;omega
    have e1:wr.heap[q]? = w9.heap[q]?:=Ow.out.2.block q hqg h9
    have e2:wr.cell? ⟨q,0,none⟩=some (.int .i64 id):=by rw[<- Q9.out.1];unfold World.cell?;rw[e1]
    rw[hW1]
    exact ((below_allocL wr _).cell (p:=⟨q,0,none⟩) (Nat.lt_of_lt_of_le h9 Ow.out.2.size)).trans e2
   have hq2:q < W1.heap.size:=by
    have h9:q < w9.heap.size:=by have:=Q9.out.2;omega
    rw[hW1]
    exact Nat.lt_of_lt_of_le (Nat.lt_of_lt_of_le h9 Ow.out.2.size) (below_allocL wr _).size
   obtain⟨y0,y1,y2,y3,y4,y5,y6,y7⟩:=lineObj_cells hp1
   have HP1:=Lib.hid hp1
   have HW1:=Lib.hid hW1
   have hs1:p < W1.heap.size:=(Array.getElem?_eq_some_iff.1 hp1).1
   have HD1:=Lib.hid (HD0.out W1 hq1 hq2)
   clear hW1 hp1
   cases bk with
   | false =>
    have HN1:=Lib.hid (HN.out rfl)
    go_upto_region 8 with (fail)
    rw[<- HW1.out,<- hp]
    clear hp
    go_wp2_with (go_at_call 37;refine HD1.out.mono ?_;rintro e w8 ⟨rfl,o8,rfl⟩;have S8:=Lib.hid (S1.out.alloc o8);have y8:=fun k=>(below_allocL W1 o8).cell (p:=⟨p,k,none⟩) hs1;have z0:=(y8 0).trans y0;have z1:=(y8 1).trans y1;have z2:=(y8 2).trans y2;have z3:=(y8 3).trans y3;have z4:=(y8 4).trans y4;have z5:=(y8 5).trans y5;have z6:=(y8 6).trans y6;have z7:=(y8 7).trans y7;clear y8 y0 y1 y2 y3 y4 y5 y6 y7)
    go_roundw
    case rel =>
     first | exact⟨i,j+1,dk,rfl,by go_num,by omega,S8,HN1⟩ | (refine⟨_,_,_,_,_,_,_,_,_,_,_,_,_,_,_,_,_,_,_,_,_,_,_,?_,rfl⟩;exact⟨i,j+1,dk,rfl,by go_num,by omega,S8,HN1⟩)
    case measure=>simp[intOf];omega
   | true =>
    have HK1:=Lib.hid (HK.out rfl)
    go_upto_region 8 with (fail)
    rw[<- HW1.out,<- hp]
    clear hp
    go_upto_region 9 with (go_at_call 37;refine HD1.out.mono ?_;rintro e w8 ⟨rfl,o8,rfl⟩;have S8:=Lib.hid (S1.out.alloc o8);have y8:=fun k=>(below_allocL W1 o8).cell (p:=⟨p,k,none⟩) hs1;have z0:=(y8 0).trans y0;have z1:=(y8 1).trans y1;have z2:=(y8 2).trans y2;have z3:=(y8 3).trans y3;have z4:=(y8 4).trans y4;have z5:=(y8 5).trans y5;have z6:=(y8 6).trans y6;have z7:=(y8 7).trans y7;clear y8 y0 y1 y2 y3 y4 y5 y6 y7)
    have S9:=Lib.hid (SWK_set lineE.len R.out.hblk S8.out i (by have:=hds.out;omega) (⟨xid,xitem,xqty,xasked,xrank,xst,xday,xcode⟩:LineV))
    have hc:∀ k,k < 8->(W1.alloc o8).cell? ⟨g,i * 8+k,none⟩=some (encLine dk[i]!)[k]!/\(W1.alloc o8).frozen? ⟨g,i * 8+k,none⟩=false:=fun k hk=>by
     have:=HoldsK.cell (S8.out.holds R.out.hblk R.out.hH (by rw[hds.out,hsz.out])) (i:=i) (c:=k) (by have:=hds.out;omega) hk
     rwa [Nat.zero_add] at this
    obtain⟨c0,f0⟩:=hc 0 (by decide)
    obtain⟨c1,f1⟩:=hc 1 (by decide)
    obtain⟨c2,f2⟩:=hc 2 (by decide)
    obtain⟨c3,f3⟩:=hc 3 (by decide)
    obtain⟨c4,f4⟩:=hc 4 (by decide)
    obtain⟨c5,f5⟩:=hc 5 (by decide)
    obtain⟨c6,f6⟩:=hc 6 (by decide)
    obtain⟨c7,f7⟩:=hc 7 (by decide)
    simp only[Nat.add_zero] at c0 f0
    clear hc
    rw[Nat.zero_add] at S9
    generalize dk[i]! = old at c0 c1 c2 c3 c4 c5 c6 c7
    have hig:(i:Int) < (n:Int):=by omega
    generalize W1.alloc o8=V at *
    go_wp2_with (fail)
    go_roundw
    case rel =>
     first | exact⟨i+1,j+1,_,by go_num,by go_num,by omega,S9,HK1⟩ | (refine⟨_,_,_,_,_,_,_,_,_,_,_,_,_,_,_,_,_,_,_,_,_,_,_,?_,rfl⟩;exact⟨i+1,j+1,_,by go_num,by go_num,by omega,S9,HK1⟩)
    case measure=>simp[intOf];omega
  ·obtain rfl:j=n:=by omega
   have hic:i < c:=by omega
   have hlen:Hid (lay dk i (List.replicate (j - i) default)=(X.filter (keepO id) ++ List.replicate (j - i) default).toArray/\(X.filter (keepO id)).length=i):=Lib.hid (by
    have h1:=I.out
    rw[<- hsz.out] at h1
    have h2:=h1.done default
    have h3:=h1.len
    rw[keptUpTo_filter (keepO id) X.toArray] at h2 h3
    rw[hsz.out] at h2
    exact⟨h2,h3⟩)
   have S10:Hid (SWK encLine 8 w9 g 0 (lay dk i (List.replicate (j - i) default)) (wr.setCells g (0+i * 8) ((List.replicate (j - i) (default:LineV)).flatMap encLine))):=Lib.hid (SWK_lay lineE.len R.out.hblk (List.replicate (j - i) default) dk wr i (by rw[List.length_replicate,hds.out];omega) S.out)
   rw[hlen.out.1,Nat.zero_add] at S10
   have hcl:=fun ty=>run_clear_lines S.out R.out (by rw[hds.out,hsz.out]) i (j - i) (c - i) ty (by omega) (by rw[hds.out];omega)
   generalize wr.setCells g (i * 8) ((List.replicate (j - i) default).flatMap encLine)=W9 at S10 hcl
   have hig:(i:Int)<=(j:Int):=by omega
   have hi0:¬ ((i:Int) < 0):=by omega
   go_wp2_with (fail)
   go_ret
   obtain⟨q1,q2⟩:=own_sorted HO.out S10.out (by have:=hlen.out.2;simp;have:=HX.out;omega)
   exact⟨i,rfl,by rw[hlen.out.2];simpa using q1,hlen.out.2.symm,HW9.out.transL q2⟩
set_option maxHeartbeats 1000000 in
set_option maxRecDepth 100000 in
/-- slices.DeleteFunc at own lines: those that are kept; the slice stays one's own. -/
theorem delO_any (base:Nat) (v:Value) (X:List LineV) (w:World) (q:Nat) (id:Int) (hq:w.cell? ⟨q,0,none⟩=some (.int .i64 id)) (hql:q < w.heap.size) (hqb:q < base) (h:lineE.Own base w v X) (hf:∀ x∈X,okLine x) (hn:X.length<=100000000) (hb:base<=w.heap.size) :
  Calls Tryz.prog 35 #[v,.func (.func 37) #[] #[.pointer (some ⟨q,0,none⟩)]] w fun e w'=>∃ a c,e = .returned (.slice a (X.filter (keepO id)).length c)/\lineE.Own base w' (.slice a (X.filter (keepO id)).length c) (X.filter (keepO id))/\Below base w w':=by
 rcases idxI_formL (fun x:LineV=>!(keepO id) x) X with hi | ⟨j,hj,hi⟩
 ·obtain⟨a,c,rfl,hin⟩:=h.in_ hf
  have HQ:Hid (∀ V,Below w.heap.size w V->V.cell? ⟨q,0,none⟩=some (.int .i64 id)):=Lib.hid fun V hb=>(hb.cell (p:=⟨q,0,none⟩) hql).trans hq
  have HI:Hid (Calls Tryz.prog 61 #[.slice a X.length c,.func (.func 37) #[] #[.pointer (some ⟨q,0,none⟩)]] w fun e w'=>e = .returned (.int .i64 (-1))/\Below w.heap.size w w'):=Lib.hid (by
   have:=indexLine_any ixLine_laid (fun x:LineV=>!(keepO id) x) 37 #[.pointer (some ⟨q,0,none⟩)] (enters_of Tryz.func37 (by kernel_rfl) rfl) w.heap.size _ X.length c X w hin (Nat.le_refl _) (fun V x hb1 _=>by
    have:=del1O x V q id (HQ.out V hb1) (Nat.lt_of_lt_of_le hql hb1.size)
    simp only[LineV.val] at this
    refine Calls.mono (by simpa using this) ?_
    rintro e w' ⟨rfl,o,rfl⟩
    exact⟨rfl,below_allocL _ _⟩)
   rwa [hi] at this)
  have HX:=Lib.hid h
  rw[filterK_all hi]
  clear h hin hi
  go_enter Tryz.func35,Tryz.ntmps35
  go_wp2_with (go_at_call 61;refine HI.out.mono ?_;rintro e w9 ⟨rfl,hb9⟩)
  go_ret
  exact⟨a,c,rfl,HX.out.below hb9,hb9.mono hb⟩
 ·obtain⟨a,c,rfl,hle,hmx,hg⟩:=h.form
  obtain⟨g,rfl⟩:=hg (by omega)
  have hge:=(h.ge g rfl).1
  refine (delO_some base g X.length c X w q id hq hql (by omega) h hf hn j hi hj).mono ?_
  rintro e w' ⟨m,rfl,hown,rfl,ho⟩
  have hfl:(X.filter (keepO id)).length<=X.length:=List.length_filter_le _ _
  exact⟨_,_,rfl,own_take hown,below_only (Below.refl _ _) ho hb hge⟩
end Go.Proofs.YtgplnekpgdhcpaaGreat
namespace Go.Proofs.YtgplnekpgdhcpaaGreat
open Go.RowKit
def bv (x:UInt8):Value:=.int .u8 (x.toNat:Int)
end Go.Proofs.YtgplnekpgdhcpaaGreat
namespace Go.Proofs.YtgplnekpgdhcpaaGreat
open Go.RowKit Go.Shelf
section
variable {P:Program} {ops:Array Oper} {Q:Exit->Act->World->Prop} {md:Region.Mode} {S:World->Prop} {fuel:Nat} {listed:Array Bool} {a:Act} {w:World} {i:Nat} {o:Oper} {rs:List Nat}
theorem run_fn {ev:Operand->Value} {f:FuncId} {x:Operand} {args:Array Operand} {T:Array TypeId} (ho:o.op = .call { callee:=.value x,args:=args,argTypes:=T }) (hx:ev x = .func (.func f) #[] #[]) (he:Enters P f) (w:World) {vs:Array Value} (hv:args.map ev=vs) :
  (execOp ev o).run P w = .ok (.enter f vs) w:=by
 subst hv
 simp[execOp,ho,resolve,Deferred.ofValue,hx,invoke,he _ w]
theorem run_fn1 {ev:Operand->Value} {f:FuncId} {x x0:Operand} {T:Array TypeId} {v0:Value} (ho:o.op = .call { callee:=.value x,args:=#[x0],argTypes:=T }) (hx:ev x = .func (.func f) #[] #[]) (he:Enters P f) (w:World) (h0:ev x0=v0) :
  (execOp ev o).run P w = .ok (.enter f #[v0]) w:=run_fn ho hx he w (by simp[h0])
theorem run_fn2 {ev:Operand->Value} {f:FuncId} {x x0 x1:Operand} {T:Array TypeId} {v0 v1:Value} (ho:o.op = .call { callee:=.value x,args:=#[x0,x1],argTypes:=T }) (hx:ev x = .func (.func f) #[] #[]) (he:Enters P f) (w:World) (h0:ev x0=v0) (h1:ev x1=v1) :
  (execOp ev o).run P w = .ok (.enter f #[v0,v1]) w:=run_fn ho hx he w (by simp[h0,h1])
end
end Go.Proofs.YtgplnekpgdhcpaaGreat
