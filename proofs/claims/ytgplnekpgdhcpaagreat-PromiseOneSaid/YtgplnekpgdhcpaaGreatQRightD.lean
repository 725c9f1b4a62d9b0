/- storemanref09.Right: walks. (Printed by gen/rright.py.) -/
import Derived.Test.YtgplnekpgdhcpaaGreatQWin
import Derived.Test.YtgplnekpgdhcpaaGreatQWant
import Derived.Test.YtgplnekpgdhcpaaGreatQLineOk
namespace Go.Proofs.YtgplnekpgdhcpaaGreat
open Go.RowKit

theorem rCodeB_any (l:List UInt8) (hl:l.length<=9223372036854775807) (w:World):Calls Tryz.prog 69 #[.string ⟨l.toArray⟩] w fun e w'=>e = .returned (.bool (okCode l))/\Below w.heap.size w w':=(rCode_any l hl w).mono fun _ _ h=>⟨h.1,by rw[<- h.2];exact Below.refl _ _⟩
set_option maxHeartbeats 4000000 in
theorem rRight9_any (x:LineV) (hx:x.item.length<=9223372036854775807) (hy:x.code.length<=9223372036854775807) (w:World):Calls Tryz.prog 39 #[x.val] w fun e w'=>e = .returned (.bool (lineOk x))/\Below w.heap.size w w':=by
 generalize hr:lineOk x=r
 have HQ:=Lib.hid hr
 clear hr
 obtain⟨id,item,qty,asked,rank,st,day,code⟩:=x
 have HK:=Lib.hid (fun W=>rCodeB_any item hx W)
 have HL:=Lib.hid (fun W=>rCodeB_any code hy W)
 clear hx hy
 unfold LineV.val encStr
 simp only
 have HB:=Lib.hid ((Below.refl w.heap.size w).alloc (Nat.le_refl _) (.cells #[.int .i64 id,.string ⟨item.toArray⟩,.int .i64 qty,.int .i64 asked,.int .i64 rank,.int .u8 st,.int .i64 day,.string ⟨code.toArray⟩] 29))
 have HX:Hid (∀ W,Below (w.alloc (.cells #[.int .i64 id,.string ⟨item.toArray⟩,.int .i64 qty,.int .i64 asked,.int .i64 rank,.int .u8 st,.int .i64 day,.string ⟨code.toArray⟩] 29)).heap.size (w.alloc (.cells #[.int .i64 id,.string ⟨item.toArray⟩,.int .i64 qty,.int .i64 asked,.int .i64 rank,.int .u8 st,.int .i64 day,.string ⟨code.toArray⟩] 29)) W->W.cell? ⟨w.heap.size,0,none⟩=some (.int .i64 id)/\W.cell? ⟨w.heap.size,1,none⟩=some (.string ⟨item.toArray⟩)/\W.cell? ⟨w.heap.size,2,none⟩=some (.int .i64 qty)/\W.cell? ⟨w.heap.size,3,none⟩=some (.int .i64 asked)/\W.cell? ⟨w.heap.size,4,none⟩=some (.int .i64 rank)/\W.cell? ⟨w.heap.size,5,none⟩=some (.int .u8 st)/\W.cell? ⟨w.heap.size,6,none⟩=some (.int .i64 day)/\W.cell? ⟨w.heap.size,7,none⟩=some (.string ⟨code.toArray⟩)):=Lib.hid fun W h=>⟨(h.cell (p:=⟨w.heap.size,0,none⟩) (by simp)).trans (by simp),(h.cell (p:=⟨w.heap.size,1,none⟩) (by simp)).trans (by simp),(h.cell (p:=⟨w.heap.size,2,none⟩) (by simp)).trans (by simp),(h.cell (p:=⟨w.heap.size,3,none⟩) (by simp)).trans (by simp),(h.cell (p:=⟨w.heap.size,4,none⟩) (by simp)).trans (by simp),(h.cell (p:=⟨w.heap.size,5,none⟩) (by simp)).trans (by simp),(h.cell (p:=⟨w.heap.size,6,none⟩) (by simp)).trans (by simp),(h.cell (p:=⟨w.heap.size,7,none⟩) (by simp)).trans (by simp)⟩
 by_cases h0:1<=id
 ·cases hk:okCode item with
  | true =>
   rw[hk] at HK
   by_cases h2:1<=qty
   ·by_cases h3:qty<=1073741824
    ·by_cases h4:0<=asked
     ·by_cases h5:asked<=4000
      ·by_cases h6:0<=rank
       ·by_cases h7:rank<=99
        ·by_cases hd:day = -1
         ·by_cases hc:code=[]
          ·by_cases s1:st=1
           ·have E:=Lib.hid (show lineOk ⟨id,item,qty,asked,rank,st,day,code⟩=true by unfold lineOk;simp[h0,hk,h2,h3,h4,h5,h6,h7,hd,hc,s1] <;> omega)
            clear hk
            subst hc
            subst s1
            subst hd
            go_enter Tryz.func39,Tryz.ntmps39
            go_wp2_with (first | (go_at_call 69;refine (HK.out _).mono ?_;rintro e w8 ⟨rfl,hb8⟩;obtain⟨g0,g1,g2,g3,g4,g5,g6,g7⟩:=HX.out w8 hb8;have B8:=Lib.hid (HB.out.trans (hb8.mono (by simp)));have HX8:=Lib.hid (fun W (h:Below w8.heap.size w8 W)=>HX.out W (hb8.trans (h.mono hb8.size)));clear HK) | (go_at_call 69;refine (HL.out _).mono ?_;rintro e w9 ⟨rfl,hb9⟩;obtain⟨k0,k1,k2,k3,k4,k5,k6,k7⟩:=HX8.out w9 hb9;have B9:=Lib.hid (B8.out.trans (hb9.mono B8.out.size))))
            go_ret
            exact⟨by rw[<- HQ.out,E.out];first | rfl | simp[*],B8.out⟩
           ·by_cases s2:st=2
            ·have E:=Lib.hid (show lineOk ⟨id,item,qty,asked,rank,st,day,code⟩=false by unfold lineOk;simp[h0,hk,h2,h3,h4,h5,h6,h7,hd,hc,s2] <;> omega)
             clear hk
             subst hc
             subst s2
             subst hd
             go_enter Tryz.func39,Tryz.ntmps39
             go_wp2_with (first | (go_at_call 69;refine (HK.out _).mono ?_;rintro e w8 ⟨rfl,hb8⟩;obtain⟨g0,g1,g2,g3,g4,g5,g6,g7⟩:=HX.out w8 hb8;have B8:=Lib.hid (HB.out.trans (hb8.mono (by simp)));have HX8:=Lib.hid (fun W (h:Below w8.heap.size w8 W)=>HX.out W (hb8.trans (h.mono hb8.size)));clear HK) | (go_at_call 69;refine (HL.out _).mono ?_;rintro e w9 ⟨rfl,hb9⟩;obtain⟨k0,k1,k2,k3,k4,k5,k6,k7⟩:=HX8.out w9 hb9;have B9:=Lib.hid (B8.out.trans (hb9.mono B8.out.size))))
             go_ret
             exact⟨by rw[<- HQ.out,E.out];first | rfl | simp[*],B8.out⟩
            ·by_cases s3:st=3
             ·have E:=Lib.hid (show lineOk ⟨id,item,qty,asked,rank,st,day,code⟩=true by unfold lineOk;simp[h0,hk,h2,h3,h4,h5,h6,h7,hd,hc,s3] <;> omega)
              clear hk
              subst hc
              subst s3
              subst hd
              go_enter Tryz.func39,Tryz.ntmps39
              go_wp2_with (first | (go_at_call 69;refine (HK.out _).mono ?_;rintro e w8 ⟨rfl,hb8⟩;obtain⟨g0,g1,g2,g3,g4,g5,g6,g7⟩:=HX.out w8 hb8;have B8:=Lib.hid (HB.out.trans (hb8.mono (by simp)));have HX8:=Lib.hid (fun W (h:Below w8.heap.size w8 W)=>HX.out W (hb8.trans (h.mono hb8.size)));clear HK) | (go_at_call 69;refine (HL.out _).mono ?_;rintro e w9 ⟨rfl,hb9⟩;obtain⟨k0,k1,k2,k3,k4,k5,k6,k7⟩:=HX8.out w9 hb9;have B9:=Lib.hid (B8.out.trans (hb9.mono B8.out.size))))
              go_ret
              exact⟨by rw[<- HQ.out,E.out];first | rfl | simp[*],B8.out⟩
             ·have E:=Lib.hid (show lineOk ⟨id,item,qty,asked,rank,st,day,code⟩=false by unfold lineOk;simp[h0,hk,h2,h3,h4,h5,h6,h7,hd,hc,s2] <;> omega)
              clear hk
              subst hc
              subst hd
              go_enter Tryz.func39,Tryz.ntmps39
              go_wp2_with (first | (go_at_call 69;refine (HK.out _).mono ?_;rintro e w8 ⟨rfl,hb8⟩;obtain⟨g0,g1,g2,g3,g4,g5,g6,g7⟩:=HX.out w8 hb8;have B8:=Lib.hid (HB.out.trans (hb8.mono (by simp)));have HX8:=Lib.hid (fun W (h:Below w8.heap.size w8 W)=>HX.out W (hb8.trans (h.mono hb8.size)));clear HK) | (go_at_call 69;refine (HL.out _).mono ?_;rintro e w9 ⟨rfl,hb9⟩;obtain⟨k0,k1,k2,k3,k4,k5,k6,k7⟩:=HX8.out w9 hb9;have B9:=Lib.hid (B8.out.trans (hb9.mono B8.out.size))))
              go_ret
              exact⟨by rw[<- HQ.out,E.out];first | rfl | simp[*],B8.out⟩
          ·by_cases s1:st=1
           ·have E:=Lib.hid (show lineOk ⟨id,item,qty,asked,rank,st,day,code⟩=false by unfold lineOk;simp[h0,hk,h2,h3,h4,h5,h6,h7,hd,hc,s1] <;> omega)
            clear hk
            subst s1
            subst hd
            go_enter Tryz.func39,Tryz.ntmps39
            go_wp2_with (first | (go_at_call 69;refine (HK.out _).mono ?_;rintro e w8 ⟨rfl,hb8⟩;obtain⟨g0,g1,g2,g3,g4,g5,g6,g7⟩:=HX.out w8 hb8;have B8:=Lib.hid (HB.out.trans (hb8.mono (by simp)));have HX8:=Lib.hid (fun W (h:Below w8.heap.size w8 W)=>HX.out W (hb8.trans (h.mono hb8.size)));clear HK) | (go_at_call 69;refine (HL.out _).mono ?_;rintro e w9 ⟨rfl,hb9⟩;obtain⟨k0,k1,k2,k3,k4,k5,k6,k7⟩:=HX8.out w9 hb9;have B9:=Lib.hid (B8.out.trans (hb9.mono B8.out.size))))
            go_ret
            exact⟨by rw[<- HQ.out,E.out];first | rfl | simp[*],B8.out⟩
           ·by_cases s2:st=2
            ·have E:=Lib.hid (show lineOk ⟨id,item,qty,asked,rank,st,day,code⟩=false by unfold lineOk;simp[h0,hk,h2,h3,h4,h5,h6,h7,hd,hc,s2] <;> omega)
             clear hk
             subst s2
             subst hd
             go_enter Tryz.func39,Tryz.ntmps39
             go_wp2_with (first | (go_at_call 69;refine (HK.out _).mono ?_;rintro e w8 ⟨rfl,hb8⟩;obtain⟨g0,g1,g2,g3,g4,g5,g6,g7⟩:=HX.out w8 hb8;have B8:=Lib.hid (HB.out.trans (hb8.mono (by simp)));have HX8:=Lib.hid (fun W (h:Below w8.heap.size w8 W)=>HX.out W (hb8.trans (h.mono hb8.size)));clear HK) | (go_at_call 69;refine (HL.out _).mono ?_;rintro e w9 ⟨rfl,hb9⟩;obtain⟨k0,k1,k2,k3,k4,k5,k6,k7⟩:=HX8.out w9 hb9;have B9:=Lib.hid (B8.out.trans (hb9.mono B8.out.size))))
             go_ret
             exact⟨by rw[<- HQ.out,E.out];first | rfl | simp[*],B8.out⟩
            ·by_cases s3:st=3
             ·have E:=Lib.hid (show lineOk ⟨id,item,qty,asked,rank,st,day,code⟩=false by unfold lineOk;simp[h0,hk,h2,h3,h4,h5,h6,h7,hd,hc,s3] <;> omega)
              clear hk
              subst s3
              subst hd
              go_enter Tryz.func39,Tryz.ntmps39
              go_wp2_with (first | (go_at_call 69;refine (HK.out _).mono ?_;rintro e w8 ⟨rfl,hb8⟩;obtain⟨g0,g1,g2,g3,g4,g5,g6,g7⟩:=HX.out w8 hb8;have B8:=Lib.hid (HB.out.trans (hb8.mono (by simp)));have HX8:=Lib.hid (fun W (h:Below w8.heap.size w8 W)=>HX.out W (hb8.trans (h.mono hb8.size)));clear HK) | (go_at_call 69;refine (HL.out _).mono ?_;rintro e w9 ⟨rfl,hb9⟩;obtain⟨k0,k1,k2,k3,k4,k5,k6,k7⟩:=HX8.out w9 hb9;have B9:=Lib.hid (B8.out.trans (hb9.mono B8.out.size))))
              go_ret
              exact⟨by rw[<- HQ.out,E.out];first | rfl | simp[*],B8.out⟩
             ·have E:=Lib.hid (show lineOk ⟨id,item,qty,asked,rank,st,day,code⟩=false by unfold lineOk;simp[h0,hk,h2,h3,h4,h5,h6,h7,hd,hc,s2] <;> omega)
              clear hk
              subst hd
              go_enter Tryz.func39,Tryz.ntmps39
              go_wp2_with (first | (go_at_call 69;refine (HK.out _).mono ?_;rintro e w8 ⟨rfl,hb8⟩;obtain⟨g0,g1,g2,g3,g4,g5,g6,g7⟩:=HX.out w8 hb8;have B8:=Lib.hid (HB.out.trans (hb8.mono (by simp)));have HX8:=Lib.hid (fun W (h:Below w8.heap.size w8 W)=>HX.out W (hb8.trans (h.mono hb8.size)));clear HK) | (go_at_call 69;refine (HL.out _).mono ?_;rintro e w9 ⟨rfl,hb9⟩;obtain⟨k0,k1,k2,k3,k4,k5,k6,k7⟩:=HX8.out w9 hb9;have B9:=Lib.hid (B8.out.trans (hb9.mono B8.out.size))))
              go_ret
              exact⟨by rw[<- HQ.out,E.out];first | rfl | simp[*],B8.out⟩
         ·by_cases d0:0<=day
          ·by_cases d1:day<=4000
           ·cases hq:okCode code with
            | true =>
             rw[hq] at HL
             by_cases s1:st=1
             ·have E:=Lib.hid (show lineOk ⟨id,item,qty,asked,rank,st,day,code⟩=true by unfold lineOk;simp[h0,hk,h2,h3,h4,h5,h6,h7,hd,d0,d1,hq,s1] <;> omega)
              clear hk hq
              subst s1
              go_enter Tryz.func39,Tryz.ntmps39
              go_wp2_with (first | (go_at_call 69;refine (HK.out _).mono ?_;rintro e w8 ⟨rfl,hb8⟩;obtain⟨g0,g1,g2,g3,g4,g5,g6,g7⟩:=HX.out w8 hb8;have B8:=Lib.hid (HB.out.trans (hb8.mono (by simp)));have HX8:=Lib.hid (fun W (h:Below w8.heap.size w8 W)=>HX.out W (hb8.trans (h.mono hb8.size)));clear HK) | (go_at_call 69;refine (HL.out _).mono ?_;rintro e w9 ⟨rfl,hb9⟩;obtain⟨k0,k1,k2,k3,k4,k5,k6,k7⟩:=HX8.out w9 hb9;have B9:=Lib.hid (B8.out.trans (hb9.mono B8.out.size))))
              go_ret
              exact⟨by rw[<- HQ.out,E.out];first | rfl | simp[*],B9.out⟩
             ·by_cases s2:st=2
              ·have E:=Lib.hid (show lineOk ⟨id,item,qty,asked,rank,st,day,code⟩=true by unfold lineOk;simp[h0,hk,h2,h3,h4,h5,h6,h7,hd,d0,d1,hq,s2] <;> omega)
               clear hk hq
               subst s2
               go_enter Tryz.func39,Tryz.ntmps39
               go_wp2_with (first | (go_at_call 69;refine (HK.out _).mono ?_;rintro e w8 ⟨rfl,hb8⟩;obtain⟨g0,g1,g2,g3,g4,g5,g6,g7⟩:=HX.out w8 hb8;have B8:=Lib.hid (HB.out.trans (hb8.mono (by simp)));have HX8:=Lib.hid (fun W (h:Below w8.heap.size w8 W)=>HX.out W (hb8.trans (h.mono hb8.size)));clear HK) | (go_at_call 69;refine (HL.out _).mono ?_;rintro e w9 ⟨rfl,hb9⟩;obtain⟨k0,k1,k2,k3,k4,k5,k6,k7⟩:=HX8.out w9 hb9;have B9:=Lib.hid (B8.out.trans (hb9.mono B8.out.size))))
               go_ret
               exact⟨by rw[<- HQ.out,E.out];first | rfl | simp[*],B9.out⟩
              ·by_cases s3:st=3
               ·have E:=Lib.hid (show lineOk ⟨id,item,qty,asked,rank,st,day,code⟩=false by unfold lineOk;simp[h0,hk,h2,h3,h4,h5,h6,h7,hd,d0,d1,hq,s3] <;> omega)
                clear hk hq
                subst s3
                go_enter Tryz.func39,Tryz.ntmps39
                go_wp2_with (first | (go_at_call 69;refine (HK.out _).mono ?_;rintro e w8 ⟨rfl,hb8⟩;obtain⟨g0,g1,g2,g3,g4,g5,g6,g7⟩:=HX.out w8 hb8;have B8:=Lib.hid (HB.out.trans (hb8.mono (by simp)));have HX8:=Lib.hid (fun W (h:Below w8.heap.size w8 W)=>HX.out W (hb8.trans (h.mono hb8.size)));clear HK) | (go_at_call 69;refine (HL.out _).mono ?_;rintro e w9 ⟨rfl,hb9⟩;obtain⟨k0,k1,k2,k3,k4,k5,k6,k7⟩:=HX8.out w9 hb9;have B9:=Lib.hid (B8.out.trans (hb9.mono B8.out.size))))
                go_ret
                exact⟨by rw[<- HQ.out,E.out];first | rfl | simp[*],B9.out⟩
               ·have E:=Lib.hid (show lineOk ⟨id,item,qty,asked,rank,st,day,code⟩=false by unfold lineOk;simp[h0,hk,h2,h3,h4,h5,h6,h7,hd,d0,d1,hq,s3] <;> omega)
                clear hk hq
                go_enter Tryz.func39,Tryz.ntmps39
                go_wp2_with (first | (go_at_call 69;refine (HK.out _).mono ?_;rintro e w8 ⟨rfl,hb8⟩;obtain⟨g0,g1,g2,g3,g4,g5,g6,g7⟩:=HX.out w8 hb8;have B8:=Lib.hid (HB.out.trans (hb8.mono (by simp)));have HX8:=Lib.hid (fun W (h:Below w8.heap.size w8 W)=>HX.out W (hb8.trans (h.mono hb8.size)));clear HK) | (go_at_call 69;refine (HL.out _).mono ?_;rintro e w9 ⟨rfl,hb9⟩;obtain⟨k0,k1,k2,k3,k4,k5,k6,k7⟩:=HX8.out w9 hb9;have B9:=Lib.hid (B8.out.trans (hb9.mono B8.out.size))))
                go_ret
                exact⟨by rw[<- HQ.out,E.out];first | rfl | simp[*],B9.out⟩
            | false =>
             rw[hq] at HL
             by_cases s1:st=1
             ·have E:=Lib.hid (show lineOk ⟨id,item,qty,asked,rank,st,day,code⟩=false by unfold lineOk;simp[h0,hk,h2,h3,h4,h5,h6,h7,hd,d0,d1,hq,s1] <;> omega)
              clear hk hq
              subst s1
              go_enter Tryz.func39,Tryz.ntmps39
              go_wp2_with (first | (go_at_call 69;refine (HK.out _).mono ?_;rintro e w8 ⟨rfl,hb8⟩;obtain⟨g0,g1,g2,g3,g4,g5,g6,g7⟩:=HX.out w8 hb8;have B8:=Lib.hid (HB.out.trans (hb8.mono (by simp)));have HX8:=Lib.hid (fun W (h:Below w8.heap.size w8 W)=>HX.out W (hb8.trans (h.mono hb8.size)));clear HK) | (go_at_call 69;refine (HL.out _).mono ?_;rintro e w9 ⟨rfl,hb9⟩;obtain⟨k0,k1,k2,k3,k4,k5,k6,k7⟩:=HX8.out w9 hb9;have B9:=Lib.hid (B8.out.trans (hb9.mono B8.out.size))))
              go_ret
              exact⟨by rw[<- HQ.out,E.out];first | rfl | simp[*],B9.out⟩
             ·by_cases s2:st=2
              ·have E:=Lib.hid (show lineOk ⟨id,item,qty,asked,rank,st,day,code⟩=false by unfold lineOk;simp[h0,hk,h2,h3,h4,h5,h6,h7,hd,d0,d1,hq,s2] <;> omega)
               clear hk hq
               subst s2
               go_enter Tryz.func39,Tryz.ntmps39
               go_wp2_with (first | (go_at_call 69;refine (HK.out _).mono ?_;rintro e w8 ⟨rfl,hb8⟩;obtain⟨g0,g1,g2,g3,g4,g5,g6,g7⟩:=HX.out w8 hb8;have B8:=Lib.hid (HB.out.trans (hb8.mono (by simp)));have HX8:=Lib.hid (fun W (h:Below w8.heap.size w8 W)=>HX.out W (hb8.trans (h.mono hb8.size)));clear HK) | (go_at_call 69;refine (HL.out _).mono ?_;rintro e w9 ⟨rfl,hb9⟩;obtain⟨k0,k1,k2,k3,k4,k5,k6,k7⟩:=HX8.out w9 hb9;have B9:=Lib.hid (B8.out.trans (hb9.mono B8.out.size))))
               go_ret
               exact⟨by rw[<- HQ.out,E.out];first | rfl | simp[*],B9.out⟩
              ·by_cases s3:st=3
               ·have E:=Lib.hid (show lineOk ⟨id,item,qty,asked,rank,st,day,code⟩=false by unfold lineOk;simp[h0,hk,h2,h3,h4,h5,h6,h7,hd,d0,d1,hq,s3] <;> omega)
                clear hk hq
                subst s3
                go_enter Tryz.func39,Tryz.ntmps39
                go_wp2_with (first | (go_at_call 69;refine (HK.out _).mono ?_;rintro e w8 ⟨rfl,hb8⟩;obtain⟨g0,g1,g2,g3,g4,g5,g6,g7⟩:=HX.out w8 hb8;have B8:=Lib.hid (HB.out.trans (hb8.mono (by simp)));have HX8:=Lib.hid (fun W (h:Below w8.heap.size w8 W)=>HX.out W (hb8.trans (h.mono hb8.size)));clear HK) | (go_at_call 69;refine (HL.out _).mono ?_;rintro e w9 ⟨rfl,hb9⟩;obtain⟨k0,k1,k2,k3,k4,k5,k6,k7⟩:=HX8.out w9 hb9;have B9:=Lib.hid (B8.out.trans (hb9.mono B8.out.size))))
                go_ret
                exact⟨by rw[<- HQ.out,E.out];first | rfl | simp[*],B9.out⟩
               ·have E:=Lib.hid (show lineOk ⟨id,item,qty,asked,rank,st,day,code⟩=false by unfold lineOk;simp[h0,hk,h2,h3,h4,h5,h6,h7,hd,d0,d1,hq,s3] <;> omega)
                clear hk hq
                go_enter Tryz.func39,Tryz.ntmps39
                go_wp2_with (first | (go_at_call 69;refine (HK.out _).mono ?_;rintro e w8 ⟨rfl,hb8⟩;obtain⟨g0,g1,g2,g3,g4,g5,g6,g7⟩:=HX.out w8 hb8;have B8:=Lib.hid (HB.out.trans (hb8.mono (by simp)));have HX8:=Lib.hid (fun W (h:Below w8.heap.size w8 W)=>HX.out W (hb8.trans (h.mono hb8.size)));clear HK) | (go_at_call 69;refine (HL.out _).mono ?_;rintro e w9 ⟨rfl,hb9⟩;obtain⟨k0,k1,k2,k3,k4,k5,k6,k7⟩:=HX8.out w9 hb9;have B9:=Lib.hid (B8.out.trans (hb9.mono B8.out.size))))
                go_ret
                exact⟨by rw[<- HQ.out,E.out];first | rfl | simp[*],B9.out⟩
           ·by_cases s1:st=1
            ·have E:=Lib.hid (show lineOk ⟨id,item,qty,asked,rank,st,day,code⟩=false by unfold lineOk;simp[h0,hk,h2,h3,h4,h5,h6,h7,hd,d0,d1,s1] <;> omega)
             clear hk
             subst s1
             go_enter Tryz.func39,Tryz.ntmps39
             go_wp2_with (first | (go_at_call 69;refine (HK.out _).mono ?_;rintro e w8 ⟨rfl,hb8⟩;obtain⟨g0,g1,g2,g3,g4,g5,g6,g7⟩:=HX.out w8 hb8;have B8:=Lib.hid (HB.out.trans (hb8.mono (by simp)));have HX8:=Lib.hid (fun W (h:Below w8.heap.size w8 W)=>HX.out W (hb8.trans (h.mono hb8.size)));clear HK) | (go_at_call 69;refine (HL.out _).mono ?_;rintro e w9 ⟨rfl,hb9⟩;obtain⟨k0,k1,k2,k3,k4,k5,k6,k7⟩:=HX8.out w9 hb9;have B9:=Lib.hid (B8.out.trans (hb9.mono B8.out.size))))
             go_ret
             exact⟨by rw[<- HQ.out,E.out];first | rfl | simp[*],B8.out⟩
            ·by_cases s2:st=2
             ·have E:=Lib.hid (show lineOk ⟨id,item,qty,asked,rank,st,day,code⟩=false by unfold lineOk;simp[h0,hk,h2,h3,h4,h5,h6,h7,hd,d0,d1,s2] <;> omega)
              clear hk
              subst s2
              go_enter Tryz.func39,Tryz.ntmps39
              go_wp2_with (first | (go_at_call 69;refine (HK.out _).mono ?_;rintro e w8 ⟨rfl,hb8⟩;obtain⟨g0,g1,g2,g3,g4,g5,g6,g7⟩:=HX.out w8 hb8;have B8:=Lib.hid (HB.out.trans (hb8.mono (by simp)));have HX8:=Lib.hid (fun W (h:Below w8.heap.size w8 W)=>HX.out W (hb8.trans (h.mono hb8.size)));clear HK) | (go_at_call 69;refine (HL.out _).mono ?_;rintro e w9 ⟨rfl,hb9⟩;obtain⟨k0,k1,k2,k3,k4,k5,k6,k7⟩:=HX8.out w9 hb9;have B9:=Lib.hid (B8.out.trans (hb9.mono B8.out.size))))
              go_ret
              exact⟨by rw[<- HQ.out,E.out];first | rfl | simp[*],B8.out⟩
             ·by_cases s3:st=3
              ·have E:=Lib.hid (show lineOk ⟨id,item,qty,asked,rank,st,day,code⟩=false by unfold lineOk;simp[h0,hk,h2,h3,h4,h5,h6,h7,hd,d0,d1,s3] <;> omega)
               clear hk
               subst s3
               go_enter Tryz.func39,Tryz.ntmps39
               go_wp2_with (first | (go_at_call 69;refine (HK.out _).mono ?_;rintro e w8 ⟨rfl,hb8⟩;obtain⟨g0,g1,g2,g3,g4,g5,g6,g7⟩:=HX.out w8 hb8;have B8:=Lib.hid (HB.out.trans (hb8.mono (by simp)));have HX8:=Lib.hid (fun W (h:Below w8.heap.size w8 W)=>HX.out W (hb8.trans (h.mono hb8.size)));clear HK) | (go_at_call 69;refine (HL.out _).mono ?_;rintro e w9 ⟨rfl,hb9⟩;obtain⟨k0,k1,k2,k3,k4,k5,k6,k7⟩:=HX8.out w9 hb9;have B9:=Lib.hid (B8.out.trans (hb9.mono B8.out.size))))
               go_ret
               exact⟨by rw[<- HQ.out,E.out];first | rfl | simp[*],B8.out⟩
              ·have E:=Lib.hid (show lineOk ⟨id,item,qty,asked,rank,st,day,code⟩=false by unfold lineOk;simp[h0,hk,h2,h3,h4,h5,h6,h7,hd,d0,d1,s3] <;> omega)
               clear hk
               go_enter Tryz.func39,Tryz.ntmps39
               go_wp2_with (first | (go_at_call 69;refine (HK.out _).mono ?_;rintro e w8 ⟨rfl,hb8⟩;obtain⟨g0,g1,g2,g3,g4,g5,g6,g7⟩:=HX.out w8 hb8;have B8:=Lib.hid (HB.out.trans (hb8.mono (by simp)));have HX8:=Lib.hid (fun W (h:Below w8.heap.size w8 W)=>HX.out W (hb8.trans (h.mono hb8.size)));clear HK) | (go_at_call 69;refine (HL.out _).mono ?_;rintro e w9 ⟨rfl,hb9⟩;obtain⟨k0,k1,k2,k3,k4,k5,k6,k7⟩:=HX8.out w9 hb9;have B9:=Lib.hid (B8.out.trans (hb9.mono B8.out.size))))
               go_ret
               exact⟨by rw[<- HQ.out,E.out];first | rfl | simp[*],B8.out⟩
          ·by_cases s1:st=1
           ·have E:=Lib.hid (show lineOk ⟨id,item,qty,asked,rank,st,day,code⟩=false by unfold lineOk;simp[h0,hk,h2,h3,h4,h5,h6,h7,hd,d0,s1] <;> omega)
            clear hk
            subst s1
            go_enter Tryz.func39,Tryz.ntmps39
            go_wp2_with (first | (go_at_call 69;refine (HK.out _).mono ?_;rintro e w8 ⟨rfl,hb8⟩;obtain⟨g0,g1,g2,g3,g4,g5,g6,g7⟩:=HX.out w8 hb8;have B8:=Lib.hid (HB.out.trans (hb8.mono (by simp)));have HX8:=Lib.hid (fun W (h:Below w8.heap.size w8 W)=>HX.out W (hb8.trans (h.mono hb8.size)));clear HK) | (go_at_call 69;refine (HL.out _).mono ?_;rintro e w9 ⟨rfl,hb9⟩;obtain⟨k0,k1,k2,k3,k4,k5,k6,k7⟩:=HX8.out w9 hb9;have B9:=Lib.hid (B8.out.trans (hb9.mono B8.out.size))))
            go_ret
            exact⟨by rw[<- HQ.out,E.out];first | rfl | simp[*],B8.out⟩
           ·by_cases s2:st=2
            ·have E:=Lib.hid (show lineOk ⟨id,item,qty,asked,rank,st,day,code⟩=false by unfold lineOk;simp[h0,hk,h2,h3,h4,h5,h6,h7,hd,d0,s2] <;> omega)
             clear hk
             subst s2
             go_enter Tryz.func39,Tryz.ntmps39
             go_wp2_with (first | (go_at_call 69;refine (HK.out _).mono ?_;rintro e w8 ⟨rfl,hb8⟩;obtain⟨g0,g1,g2,g3,g4,g5,g6,g7⟩:=HX.out w8 hb8;have B8:=Lib.hid (HB.out.trans (hb8.mono (by simp)));have HX8:=Lib.hid (fun W (h:Below w8.heap.size w8 W)=>HX.out W (hb8.trans (h.mono hb8.size)));clear HK) | (go_at_call 69;refine (HL.out _).mono ?_;rintro e w9 ⟨rfl,hb9⟩;obtain⟨k0,k1,k2,k3,k4,k5,k6,k7⟩:=HX8.out w9 hb9;have B9:=Lib.hid (B8.out.trans (hb9.mono B8.out.size))))
             go_ret
             exact⟨by rw[<- HQ.out,E.out];first | rfl | simp[*],B8.out⟩
            ·by_cases s3:st=3
             ·have E:=Lib.hid (show lineOk ⟨id,item,qty,asked,rank,st,day,code⟩=false by unfold lineOk;simp[h0,hk,h2,h3,h4,h5,h6,h7,hd,d0,s3] <;> omega)
              clear hk
              subst s3
              go_enter Tryz.func39,Tryz.ntmps39
              go_wp2_with (first | (go_at_call 69;refine (HK.out _).mono ?_;rintro e w8 ⟨rfl,hb8⟩;obtain⟨g0,g1,g2,g3,g4,g5,g6,g7⟩:=HX.out w8 hb8;have B8:=Lib.hid (HB.out.trans (hb8.mono (by simp)));have HX8:=Lib.hid (fun W (h:Below w8.heap.size w8 W)=>HX.out W (hb8.trans (h.mono hb8.size)));clear HK) | (go_at_call 69;refine (HL.out _).mono ?_;rintro e w9 ⟨rfl,hb9⟩;obtain⟨k0,k1,k2,k3,k4,k5,k6,k7⟩:=HX8.out w9 hb9;have B9:=Lib.hid (B8.out.trans (hb9.mono B8.out.size))))
              go_ret
              exact⟨by rw[<- HQ.out,E.out];first | rfl | simp[*],B8.out⟩
             ·have E:=Lib.hid (show lineOk ⟨id,item,qty,asked,rank,st,day,code⟩=false by unfold lineOk;simp[h0,hk,h2,h3,h4,h5,h6,h7,hd,d0,s3] <;> omega)
              clear hk
              go_enter Tryz.func39,Tryz.ntmps39
              go_wp2_with (first | (go_at_call 69;refine (HK.out _).mono ?_;rintro e w8 ⟨rfl,hb8⟩;obtain⟨g0,g1,g2,g3,g4,g5,g6,g7⟩:=HX.out w8 hb8;have B8:=Lib.hid (HB.out.trans (hb8.mono (by simp)));have HX8:=Lib.hid (fun W (h:Below w8.heap.size w8 W)=>HX.out W (hb8.trans (h.mono hb8.size)));clear HK) | (go_at_call 69;refine (HL.out _).mono ?_;rintro e w9 ⟨rfl,hb9⟩;obtain⟨k0,k1,k2,k3,k4,k5,k6,k7⟩:=HX8.out w9 hb9;have B9:=Lib.hid (B8.out.trans (hb9.mono B8.out.size))))
              go_ret
              exact⟨by rw[<- HQ.out,E.out];first | rfl | simp[*],B8.out⟩
        ·have E:=Lib.hid (show lineOk ⟨id,item,qty,asked,rank,st,day,code⟩=false by unfold lineOk;simp[h0,hk,h2,h3,h4,h5,h6,h7] <;> omega)
         clear hk
         go_enter Tryz.func39,Tryz.ntmps39
         go_wp2_with (first | (go_at_call 69;refine (HK.out _).mono ?_;rintro e w8 ⟨rfl,hb8⟩;obtain⟨g0,g1,g2,g3,g4,g5,g6,g7⟩:=HX.out w8 hb8;have B8:=Lib.hid (HB.out.trans (hb8.mono (by simp)));have HX8:=Lib.hid (fun W (h:Below w8.heap.size w8 W)=>HX.out W (hb8.trans (h.mono hb8.size)));clear HK) | (go_at_call 69;refine (HL.out _).mono ?_;rintro e w9 ⟨rfl,hb9⟩;obtain⟨k0,k1,k2,k3,k4,k5,k6,k7⟩:=HX8.out w9 hb9;have B9:=Lib.hid (B8.out.trans (hb9.mono B8.out.size))))
         go_ret
         exact⟨by rw[<- HQ.out,E.out];first | rfl | simp[*],B8.out⟩
       ·have E:=Lib.hid (show lineOk ⟨id,item,qty,asked,rank,st,day,code⟩=false by unfold lineOk;simp[h0,hk,h2,h3,h4,h5,h6] <;> omega)
        clear hk
        go_enter Tryz.func39,Tryz.ntmps39
        go_wp2_with (first | (go_at_call 69;refine (HK.out _).mono ?_;rintro e w8 ⟨rfl,hb8⟩;obtain⟨g0,g1,g2,g3,g4,g5,g6,g7⟩:=HX.out w8 hb8;have B8:=Lib.hid (HB.out.trans (hb8.mono (by simp)));have HX8:=Lib.hid (fun W (h:Below w8.heap.size w8 W)=>HX.out W (hb8.trans (h.mono hb8.size)));clear HK) | (go_at_call 69;refine (HL.out _).mono ?_;rintro e w9 ⟨rfl,hb9⟩;obtain⟨k0,k1,k2,k3,k4,k5,k6,k7⟩:=HX8.out w9 hb9;have B9:=Lib.hid (B8.out.trans (hb9.mono B8.out.size))))
        go_ret
        exact⟨by rw[<- HQ.out,E.out];first | rfl | simp[*],B8.out⟩
      ·have E:=Lib.hid (show lineOk ⟨id,item,qty,asked,rank,st,day,code⟩=false by unfold lineOk;simp[h0,hk,h2,h3,h4,h5] <;> omega)
       clear hk
       go_enter Tryz.func39,Tryz.ntmps39
       go_wp2_with (first | (go_at_call 69;refine (HK.out _).mono ?_;rintro e w8 ⟨rfl,hb8⟩;obtain⟨g0,g1,g2,g3,g4,g5,g6,g7⟩:=HX.out w8 hb8;have B8:=Lib.hid (HB.out.trans (hb8.mono (by simp)));have HX8:=Lib.hid (fun W (h:Below w8.heap.size w8 W)=>HX.out W (hb8.trans (h.mono hb8.size)));clear HK) | (go_at_call 69;refine (HL.out _).mono ?_;rintro e w9 ⟨rfl,hb9⟩;obtain⟨k0,k1,k2,k3,k4,k5,k6,k7⟩:=HX8.out w9 hb9;have B9:=Lib.hid (B8.out.trans (hb9.mono B8.out.size))))
       go_ret
       exact⟨by rw[<- HQ.out,E.out];first | rfl | simp[*],B8.out⟩
     ·have E:=Lib.hid (show lineOk ⟨id,item,qty,asked,rank,st,day,code⟩=false by unfold lineOk;simp[h0,hk,h2,h3,h4] <;> omega)
      clear hk
      go_enter Tryz.func39,Tryz.ntmps39
      go_wp2_with (first | (go_at_call 69;refine (HK.out _).mono ?_;rintro e w8 ⟨rfl,hb8⟩;obtain⟨g0,g1,g2,g3,g4,g5,g6,g7⟩:=HX.out w8 hb8;have B8:=Lib.hid (HB.out.trans (hb8.mono (by simp)));have HX8:=Lib.hid (fun W (h:Below w8.heap.size w8 W)=>HX.out W (hb8.trans (h.mono hb8.size)));clear HK) | (go_at_call 69;refine (HL.out _).mono ?_;rintro e w9 ⟨rfl,hb9⟩;obtain⟨k0,k1,k2,k3,k4,k5,k6,k7⟩:=HX8.out w9 hb9;have B9:=Lib.hid (B8.out.trans (hb9.mono B8.out.size))))
      go_ret
      exact⟨by rw[<- HQ.out,E.out];first | rfl | simp[*],B8.out⟩
    ·have E:=Lib.hid (show lineOk ⟨id,item,qty,asked,rank,st,day,code⟩=false by unfold lineOk;simp[h0,hk,h2,h3] <;> omega)
     clear hk
     go_enter Tryz.func39,Tryz.ntmps39
     go_wp2_with (first | (go_at_call 69;refine (HK.out _).mono ?_;rintro e w8 ⟨rfl,hb8⟩;obtain⟨g0,g1,g2,g3,g4,g5,g6,g7⟩:=HX.out w8 hb8;have B8:=Lib.hid (HB.out.trans (hb8.mono (by simp)));have HX8:=Lib.hid (fun W (h:Below w8.heap.size w8 W)=>HX.out W (hb8.trans (h.mono hb8.size)));clear HK) | (go_at_call 69;refine (HL.out _).mono ?_;rintro e w9 ⟨rfl,hb9⟩;obtain⟨k0,k1,k2,k3,k4,k5,k6,k7⟩:=HX8.out w9 hb9;have B9:=Lib.hid (B8.out.trans (hb9.mono B8.out.size))))
     go_ret
     exact⟨by rw[<- HQ.out,E.out];first | rfl | simp[*],B8.out⟩
   ·have E:=Lib.hid (show lineOk ⟨id,item,qty,asked,rank,st,day,code⟩=false by unfold lineOk;simp[h0,hk,h2] <;> omega)
    clear hk
    go_enter Tryz.func39,Tryz.ntmps39
    go_wp2_with (first | (go_at_call 69;refine (HK.out _).mono ?_;rintro e w8 ⟨rfl,hb8⟩;obtain⟨g0,g1,g2,g3,g4,g5,g6,g7⟩:=HX.out w8 hb8;have B8:=Lib.hid (HB.out.trans (hb8.mono (by simp)));have HX8:=Lib.hid (fun W (h:Below w8.heap.size w8 W)=>HX.out W (hb8.trans (h.mono hb8.size)));clear HK) | (go_at_call 69;refine (HL.out _).mono ?_;rintro e w9 ⟨rfl,hb9⟩;obtain⟨k0,k1,k2,k3,k4,k5,k6,k7⟩:=HX8.out w9 hb9;have B9:=Lib.hid (B8.out.trans (hb9.mono B8.out.size))))
    go_ret
    exact⟨by rw[<- HQ.out,E.out];first | rfl | simp[*],B8.out⟩
  | false =>
   rw[hk] at HK
   have E:=Lib.hid (show lineOk ⟨id,item,qty,asked,rank,st,day,code⟩=false by unfold lineOk;simp[h0,hk] <;> omega)
   clear hk
   go_enter Tryz.func39,Tryz.ntmps39
   go_wp2_with (first | (go_at_call 69;refine (HK.out _).mono ?_;rintro e w8 ⟨rfl,hb8⟩;obtain⟨g0,g1,g2,g3,g4,g5,g6,g7⟩:=HX.out w8 hb8;have B8:=Lib.hid (HB.out.trans (hb8.mono (by simp)));have HX8:=Lib.hid (fun W (h:Below w8.heap.size w8 W)=>HX.out W (hb8.trans (h.mono hb8.size)));clear HK) | (go_at_call 69;refine (HL.out _).mono ?_;rintro e w9 ⟨rfl,hb9⟩;obtain⟨k0,k1,k2,k3,k4,k5,k6,k7⟩:=HX8.out w9 hb9;have B9:=Lib.hid (B8.out.trans (hb9.mono B8.out.size))))
   go_ret
   exact⟨by rw[<- HQ.out,E.out];first | rfl | simp[*],B8.out⟩
 ·have E:=Lib.hid (show lineOk ⟨id,item,qty,asked,rank,st,day,code⟩=false by unfold lineOk;simp[h0] <;> omega)
  go_enter Tryz.func39,Tryz.ntmps39
  go_wp2_with (first | (go_at_call 69;refine (HK.out _).mono ?_;rintro e w8 ⟨rfl,hb8⟩;obtain⟨g0,g1,g2,g3,g4,g5,g6,g7⟩:=HX.out w8 hb8;have B8:=Lib.hid (HB.out.trans (hb8.mono (by simp)));have HX8:=Lib.hid (fun W (h:Below w8.heap.size w8 W)=>HX.out W (hb8.trans (h.mono hb8.size)));clear HK) | (go_at_call 69;refine (HL.out _).mono ?_;rintro e w9 ⟨rfl,hb9⟩;obtain⟨k0,k1,k2,k3,k4,k5,k6,k7⟩:=HX8.out w9 hb9;have B9:=Lib.hid (B8.out.trans (hb9.mono B8.out.size))))
  go_ret
  exact⟨by rw[<- HQ.out,E.out];first | rfl | simp[*],HB.out⟩
end Go.Proofs.YtgplnekpgdhcpaaGreat
