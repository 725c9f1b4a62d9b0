import Derived.Test.YtohlkkannjifmaaGreatDoorORec3
namespace Go.Proofs.YtohlkkannjifmaaGreatDoor
set_option maxHeartbeats 1000000
set_option maxRecDepth 100000
open Go.RowKit
def noneN (kn on nn:Nat):Bool:=decide (kn+on+nn=0)
def rightN (wk pv nx:Int) (kd:Nat) (pg:Int) (kn on nn:Nat) (D O:List (Int×Int)):Bool :=
 if kd=5 then decide (wk=0) && decide (pv=0) && decide (nx=0) && decide (pg=0) && noneN kn on nn && markB D O
 else if wk<1∨pv<0∨0<D.length+O.length then false
 else if kd=1 then decide (nx=0) && pagedB pg && turnedB kn on nn
 else if kd=2 then decide (0<=nx) && pagedB pg && turnedB kn on nn
 else if kd=3∨kd=4 then decide (nx=0) && decide (pg=0) && noneN kn on nn
 else if kd=6 then pagedB pg && decide (0<nx) && decide (nx<8192) && noneN kn on nn
 else false
theorem rightB_eq (r:RecV):rightB r=rightN r.work r.prev r.next r.kind r.page r.key.length r.old.length r.new.length r.dirty r.opn:=rfl
structure RtE (B:Nat) (w:World) (da pa:Option Addr) (kn on nn dc pc:Nat) (D O:List (Int×Int)):Prop where
 d:PI B w da D.length dc D
 p:PI B w pa O.length pc O
 h1:kn<=1000000000
 h2:on<=1000000000
 h3:nn<=1000000000
 h4:B<=w.heap.size
 h5:D.length<=1000000000
 h6:O.length<=1000000000
def RtG (w:World) (bb:Bool) (e:Ending) (w':World):Prop:=e=.returned (.bool bb)/\Below w.heap.size w w'
theorem rt5_work (B:Nat) (ls wk pv nx:Int) (pg:Int) (ka oa na da pa:Option Addr) (kn kc on oc nn nc dc pc:Nat) (D O:List (Int×Int)) (w:World) (H:RtE B w da pa kn on nn dc pc D O) (k0:¬ wk=0) :
  Calls Tryz.prog 86 #[.agg #[.int .i64 ls,.int .i64 wk,.int .i64 pv,.int .i64 nx,.int .u8 ((5:Nat):Int),.int .i64 pg,.slice ka kn kc,.slice oa on oc,.slice na nn nc,.slice da D.length dc,.slice pa O.length pc]] w (RtG w false):=by
 have h1:=H.h1;have h2:=H.h2;have h3:=H.h3;have h5:=H.h5;have h6:=H.h6;have e0:IntKind.i64.wrap ((kn:Int)+on)=(kn:Int)+on:=IntWalk.i64_in _ (by omega);have e1:IntKind.i64.wrap ((kn:Int)+on+nn)=(kn:Int)+on+nn:=IntWalk.i64_in _ (by omega);have e2:(((kn:Int)+on+nn) == 0)=noneN kn on nn:=by
  unfold noneN;rw[Bool.eq_iff_iff];simp;omega
 have e3:IntKind.i64.wrap ((D.length:Int)+O.length)=(D.length:Int)+O.length:=IntWalk.i64_in _ (by omega);have f0:(wk == 0)=false:=by simpa using k0
 have HB0:=φ ((Below.refl w.heap.size w).alloc (Nat.le_refl _) (.cells #[.int .i64 ls,.int .i64 wk,.int .i64 pv,.int .i64 nx,.int .u8 ((5:Nat):Int),.int .i64 pg,.slice ka kn kc,.slice oa on oc,.slice na nn nc,.slice da D.length dc,.slice pa O.length pc] 33));generalize noneN kn on nn=no at *;generalize hm:D.length=m at *;generalize hq:O.length=q at *;clear H hm hq h1 h2 h3 h5 h6;unfold RtG;go_enter Tryz.func86,Tryz.ntmps86;go_wp2_with (fail)
 all_goals
  go_ret;exact⟨by simp,HB0.out⟩
theorem rt5_prev (B:Nat) (ls pv nx:Int) (pg:Int) (ka oa na da pa:Option Addr) (kn kc on oc nn nc dc pc:Nat) (D O:List (Int×Int)) (w:World) (H:RtE B w da pa kn on nn dc pc D O) (k0:¬ pv=0) :
  Calls Tryz.prog 86 #[.agg #[.int .i64 ls,.int .i64 0,.int .i64 pv,.int .i64 nx,.int .u8 ((5:Nat):Int),.int .i64 pg,.slice ka kn kc,.slice oa on oc,.slice na nn nc,.slice da D.length dc,.slice pa O.length pc]] w (RtG w false):=by
 have h1:=H.h1;have h2:=H.h2;have h3:=H.h3;have h5:=H.h5;have h6:=H.h6;have e0:IntKind.i64.wrap ((kn:Int)+on)=(kn:Int)+on:=IntWalk.i64_in _ (by omega);have e1:IntKind.i64.wrap ((kn:Int)+on+nn)=(kn:Int)+on+nn:=IntWalk.i64_in _ (by omega);have e2:(((kn:Int)+on+nn) == 0)=noneN kn on nn:=by
  unfold noneN;rw[Bool.eq_iff_iff];simp;omega
 have e3:IntKind.i64.wrap ((D.length:Int)+O.length)=(D.length:Int)+O.length:=IntWalk.i64_in _ (by omega);have f0:(pv == 0)=false:=by simpa using k0
 have HB0:=φ ((Below.refl w.heap.size w).alloc (Nat.le_refl _) (.cells #[.int .i64 ls,.int .i64 0,.int .i64 pv,.int .i64 nx,.int .u8 ((5:Nat):Int),.int .i64 pg,.slice ka kn kc,.slice oa on oc,.slice na nn nc,.slice da D.length dc,.slice pa O.length pc] 33));generalize noneN kn on nn=no at *;generalize hm:D.length=m at *;generalize hq:O.length=q at *;clear H hm hq h1 h2 h3 h5 h6;unfold RtG;go_enter Tryz.func86,Tryz.ntmps86;go_wp2_with (fail)
 all_goals
  go_ret;exact⟨by simp,HB0.out⟩
theorem rt5_next (B:Nat) (ls nx:Int) (pg:Int) (ka oa na da pa:Option Addr) (kn kc on oc nn nc dc pc:Nat) (D O:List (Int×Int)) (w:World) (H:RtE B w da pa kn on nn dc pc D O) (k0:¬ nx=0) :
  Calls Tryz.prog 86 #[.agg #[.int .i64 ls,.int .i64 0,.int .i64 0,.int .i64 nx,.int .u8 ((5:Nat):Int),.int .i64 pg,.slice ka kn kc,.slice oa on oc,.slice na nn nc,.slice da D.length dc,.slice pa O.length pc]] w (RtG w false):=by
 have h1:=H.h1;have h2:=H.h2;have h3:=H.h3;have h5:=H.h5;have h6:=H.h6;have e0:IntKind.i64.wrap ((kn:Int)+on)=(kn:Int)+on:=IntWalk.i64_in _ (by omega);have e1:IntKind.i64.wrap ((kn:Int)+on+nn)=(kn:Int)+on+nn:=IntWalk.i64_in _ (by omega);have e2:(((kn:Int)+on+nn) == 0)=noneN kn on nn:=by
  unfold noneN;rw[Bool.eq_iff_iff];simp;omega
 have e3:IntKind.i64.wrap ((D.length:Int)+O.length)=(D.length:Int)+O.length:=IntWalk.i64_in _ (by omega);have f0:(nx == 0)=false:=by simpa using k0
 have HB0:=φ ((Below.refl w.heap.size w).alloc (Nat.le_refl _) (.cells #[.int .i64 ls,.int .i64 0,.int .i64 0,.int .i64 nx,.int .u8 ((5:Nat):Int),.int .i64 pg,.slice ka kn kc,.slice oa on oc,.slice na nn nc,.slice da D.length dc,.slice pa O.length pc] 33));generalize noneN kn on nn=no at *;generalize hm:D.length=m at *;generalize hq:O.length=q at *;clear H hm hq h1 h2 h3 h5 h6;unfold RtG;go_enter Tryz.func86,Tryz.ntmps86;go_wp2_with (fail)
 all_goals
  go_ret;exact⟨by simp,HB0.out⟩
theorem rt5_page (B:Nat) (ls  : Int) (pg:Int) (ka oa na da pa:Option Addr) (kn kc on oc nn nc dc pc:Nat) (D O:List (Int×Int)) (w:World) (H:RtE B w da pa kn on nn dc pc D O) (k0:¬ pg=0) :
  Calls Tryz.prog 86 #[.agg #[.int .i64 ls,.int .i64 0,.int .i64 0,.int .i64 0,.int .u8 ((5:Nat):Int),.int .i64 pg,.slice ka kn kc,.slice oa on oc,.slice na nn nc,.slice da D.length dc,.slice pa O.length pc]] w (RtG w false):=by
 have h1:=H.h1;have h2:=H.h2;have h3:=H.h3;have h5:=H.h5;have h6:=H.h6;have e0:IntKind.i64.wrap ((kn:Int)+on)=(kn:Int)+on:=IntWalk.i64_in _ (by omega);have e1:IntKind.i64.wrap ((kn:Int)+on+nn)=(kn:Int)+on+nn:=IntWalk.i64_in _ (by omega);have e2:(((kn:Int)+on+nn) == 0)=noneN kn on nn:=by
  unfold noneN;rw[Bool.eq_iff_iff];simp;omega
 have e3:IntKind.i64.wrap ((D.length:Int)+O.length)=(D.length:Int)+O.length:=IntWalk.i64_in _ (by omega);have f0:(pg == 0)=false:=by simpa using k0
 have HB0:=φ ((Below.refl w.heap.size w).alloc (Nat.le_refl _) (.cells #[.int .i64 ls,.int .i64 0,.int .i64 0,.int .i64 0,.int .u8 ((5:Nat):Int),.int .i64 pg,.slice ka kn kc,.slice oa on oc,.slice na nn nc,.slice da D.length dc,.slice pa O.length pc] 33));generalize noneN kn on nn=no at *;generalize hm:D.length=m at *;generalize hq:O.length=q at *;clear H hm hq h1 h2 h3 h5 h6;unfold RtG;go_enter Tryz.func86,Tryz.ntmps86;go_wp2_with (fail)
 all_goals
  go_ret;exact⟨by simp,HB0.out⟩
theorem rt5_none (B:Nat) (ls  : Int) (ka oa na da pa:Option Addr) (kn kc on oc nn nc dc pc:Nat) (D O:List (Int×Int)) (w:World) (H:RtE B w da pa kn on nn dc pc D O) (k0:noneN kn on nn=false) :
  Calls Tryz.prog 86 #[.agg #[.int .i64 ls,.int .i64 0,.int .i64 0,.int .i64 0,.int .u8 ((5:Nat):Int),.int .i64 0,.slice ka kn kc,.slice oa on oc,.slice na nn nc,.slice da D.length dc,.slice pa O.length pc]] w (RtG w false):=by
 have h1:=H.h1;have h2:=H.h2;have h3:=H.h3;have h5:=H.h5;have h6:=H.h6;have e0:IntKind.i64.wrap ((kn:Int)+on)=(kn:Int)+on:=IntWalk.i64_in _ (by omega);have e1:IntKind.i64.wrap ((kn:Int)+on+nn)=(kn:Int)+on+nn:=IntWalk.i64_in _ (by omega);have e2:(((kn:Int)+on+nn) == 0)=noneN kn on nn:=by
  unfold noneN;rw[Bool.eq_iff_iff];simp;omega
 have e3:IntKind.i64.wrap ((D.length:Int)+O.length)=(D.length:Int)+O.length:=IntWalk.i64_in _ (by omega);rw[k0] at e2;clear k0;have HB0:=φ ((Below.refl w.heap.size w).alloc (Nat.le_refl _) (.cells #[.int .i64 ls,.int .i64 0,.int .i64 0,.int .i64 0,.int .u8 ((5:Nat):Int),.int .i64 0,.slice ka kn kc,.slice oa on oc,.slice na nn nc,.slice da D.length dc,.slice pa O.length pc] 33));generalize noneN kn on nn=no at *;generalize hm:D.length=m at *;generalize hq:O.length=q at *;clear H hm hq h1 h2 h3 h5 h6;unfold RtG;go_enter Tryz.func86,Tryz.ntmps86;go_wp2_with (fail)
 all_goals
  go_ret;exact⟨by simp,HB0.out⟩
theorem rt5_mark (B:Nat) (ls  : Int) (ka oa na da pa:Option Addr) (kn kc on oc nn nc dc pc:Nat) (D O:List (Int×Int)) (w:World) (H:RtE B w da pa kn on nn dc pc D O) (k0:noneN kn on nn=true) :
  Calls Tryz.prog 86 #[.agg #[.int .i64 ls,.int .i64 0,.int .i64 0,.int .i64 0,.int .u8 ((5:Nat):Int),.int .i64 0,.slice ka kn kc,.slice oa on oc,.slice na nn nc,.slice da D.length dc,.slice pa O.length pc]] w (RtG w (markB D O)):=by
 have h1:=H.h1;have h2:=H.h2;have h3:=H.h3;have h5:=H.h5;have h6:=H.h6;have e0:IntKind.i64.wrap ((kn:Int)+on)=(kn:Int)+on:=IntWalk.i64_in _ (by omega);have e1:IntKind.i64.wrap ((kn:Int)+on+nn)=(kn:Int)+on+nn:=IntWalk.i64_in _ (by omega);have e2:(((kn:Int)+on+nn) == 0)=noneN kn on nn:=by
  unfold noneN;rw[Bool.eq_iff_iff];simp;omega
 have e3:IntKind.i64.wrap ((D.length:Int)+O.length)=(D.length:Int)+O.length:=IntWalk.i64_in _ (by omega);rw[k0] at e2;clear k0;have HB0:=φ ((Below.refl w.heap.size w).alloc (Nat.le_refl _) (.cells #[.int .i64 ls,.int .i64 0,.int .i64 0,.int .i64 0,.int .u8 ((5:Nat):Int),.int .i64 0,.slice ka kn kc,.slice oa on oc,.slice na nn nc,.slice da D.length dc,.slice pa O.length pc] 33));have HM:=φ fun W (hW:Below w.heap.size w W)=>marked_any B ls 0 0 0 ((5:Nat):Int) 0 ka oa na da pa kn on nn kc oc nc D.length dc O.length pc D O W (H.d.below (hW.mono H.h4)) (H.p.below (hW.mono H.h4)) (Nat.le_trans H.h4 hW.size)
 generalize markB D O=mk at *;generalize noneN kn on nn=no at *;generalize hm:D.length=m at *;generalize hq:O.length=q at *;clear H hm hq h1 h2 h3 h5 h6;unfold RtG;go_enter Tryz.func86,Tryz.ntmps86;go_wp2_with (go_at_call 132;refine (HM.out _ HB0.out).mono ?_;rintro e w2 ⟨rfl,hb2⟩;have B2:=φ (HB0.out.trans (hb2.mono HB0.out.size));clear hb2)
 all_goals
  go_ret;exact⟨by simp,by first|exact B2.out|exact HB0.out⟩
theorem rt_work (B:Nat) (ls wk pv nx:Int) (kd:Nat) (pg:Int) (ka oa na da pa:Option Addr) (kn kc on oc nn nc dc pc:Nat) (D O:List (Int×Int)) (w:World) (H:RtE B w da pa kn on nn dc pc D O) (k5:¬ kd=5) (k0:wk<1) :
  Calls Tryz.prog 86 #[.agg #[.int .i64 ls,.int .i64 wk,.int .i64 pv,.int .i64 nx,.int .u8 kd,.int .i64 pg,.slice ka kn kc,.slice oa on oc,.slice na nn nc,.slice da D.length dc,.slice pa O.length pc]] w (RtG w false):=by
 have h1:=H.h1;have h2:=H.h2;have h3:=H.h3;have h5:=H.h5;have h6:=H.h6;have e0:IntKind.i64.wrap ((kn:Int)+on)=(kn:Int)+on:=IntWalk.i64_in _ (by omega);have e1:IntKind.i64.wrap ((kn:Int)+on+nn)=(kn:Int)+on+nn:=IntWalk.i64_in _ (by omega);have e2:(((kn:Int)+on+nn) == 0)=noneN kn on nn:=by
  unfold noneN;rw[Bool.eq_iff_iff];simp;omega
 have e3:IntKind.i64.wrap ((D.length:Int)+O.length)=(D.length:Int)+O.length:=IntWalk.i64_in _ (by omega);have f5:((kd:Int) == 5)=false:=by simp;omega
 have f0:decide (wk<1)=true:=decide_eq_true k0;have HB0:=φ ((Below.refl w.heap.size w).alloc (Nat.le_refl _) (.cells #[.int .i64 ls,.int .i64 wk,.int .i64 pv,.int .i64 nx,.int .u8 kd,.int .i64 pg,.slice ka kn kc,.slice oa on oc,.slice na nn nc,.slice da D.length dc,.slice pa O.length pc] 33));generalize noneN kn on nn=no at *;generalize hm:D.length=m at *;generalize hq:O.length=q at *;clear H hm hq h1 h2 h3 h5 h6;unfold RtG;go_enter Tryz.func86,Tryz.ntmps86;go_wp2_with (fail)
 all_goals
  go_ret;exact⟨by simp,HB0.out⟩
theorem rt_prev (B:Nat) (ls wk pv nx:Int) (kd:Nat) (pg:Int) (ka oa na da pa:Option Addr) (kn kc on oc nn nc dc pc:Nat) (D O:List (Int×Int)) (w:World) (H:RtE B w da pa kn on nn dc pc D O) (k5:¬ kd=5) (k0:¬ wk<1) (k1:pv<0) :
  Calls Tryz.prog 86 #[.agg #[.int .i64 ls,.int .i64 wk,.int .i64 pv,.int .i64 nx,.int .u8 kd,.int .i64 pg,.slice ka kn kc,.slice oa on oc,.slice na nn nc,.slice da D.length dc,.slice pa O.length pc]] w (RtG w false):=by
 have h1:=H.h1;have h2:=H.h2;have h3:=H.h3;have h5:=H.h5;have h6:=H.h6;have e0:IntKind.i64.wrap ((kn:Int)+on)=(kn:Int)+on:=IntWalk.i64_in _ (by omega);have e1:IntKind.i64.wrap ((kn:Int)+on+nn)=(kn:Int)+on+nn:=IntWalk.i64_in _ (by omega);have e2:(((kn:Int)+on+nn) == 0)=noneN kn on nn:=by
  unfold noneN;rw[Bool.eq_iff_iff];simp;omega
 have e3:IntKind.i64.wrap ((D.length:Int)+O.length)=(D.length:Int)+O.length:=IntWalk.i64_in _ (by omega);have f5:((kd:Int) == 5)=false:=by simp;omega
 have f0:decide (wk<1)=false:=decide_eq_false k0;have f1:decide (pv<0)=true:=decide_eq_true k1;have HB0:=φ ((Below.refl w.heap.size w).alloc (Nat.le_refl _) (.cells #[.int .i64 ls,.int .i64 wk,.int .i64 pv,.int .i64 nx,.int .u8 kd,.int .i64 pg,.slice ka kn kc,.slice oa on oc,.slice na nn nc,.slice da D.length dc,.slice pa O.length pc] 33));generalize noneN kn on nn=no at *;generalize hm:D.length=m at *;generalize hq:O.length=q at *;clear H hm hq h1 h2 h3 h5 h6;unfold RtG;go_enter Tryz.func86,Tryz.ntmps86;go_wp2_with (fail)
 all_goals
  go_ret;exact⟨by simp,HB0.out⟩
theorem rt_list (B:Nat) (ls wk pv nx:Int) (kd:Nat) (pg:Int) (ka oa na da pa:Option Addr) (kn kc on oc nn nc dc pc:Nat) (D O:List (Int×Int)) (w:World) (H:RtE B w da pa kn on nn dc pc D O) (k5:¬ kd=5) (k0:¬ wk<1) (k1:¬ pv<0) (k2:0<D.length+O.length) :
  Calls Tryz.prog 86 #[.agg #[.int .i64 ls,.int .i64 wk,.int .i64 pv,.int .i64 nx,.int .u8 kd,.int .i64 pg,.slice ka kn kc,.slice oa on oc,.slice na nn nc,.slice da D.length dc,.slice pa O.length pc]] w (RtG w false):=by
 have h1:=H.h1;have h2:=H.h2;have h3:=H.h3;have h5:=H.h5;have h6:=H.h6;have e0:IntKind.i64.wrap ((kn:Int)+on)=(kn:Int)+on:=IntWalk.i64_in _ (by omega);have e1:IntKind.i64.wrap ((kn:Int)+on+nn)=(kn:Int)+on+nn:=IntWalk.i64_in _ (by omega);have e2:(((kn:Int)+on+nn) == 0)=noneN kn on nn:=by
  unfold noneN;rw[Bool.eq_iff_iff];simp;omega
 have e3:IntKind.i64.wrap ((D.length:Int)+O.length)=(D.length:Int)+O.length:=IntWalk.i64_in _ (by omega);have f5:((kd:Int) == 5)=false:=by simp;omega
 have f0:decide (wk<1)=false:=decide_eq_false k0;have f1:decide (pv<0)=false:=decide_eq_false k1;have f2:decide ((D.length:Int)+O.length > 0)=true:=by simp;omega
 have HB0:=φ ((Below.refl w.heap.size w).alloc (Nat.le_refl _) (.cells #[.int .i64 ls,.int .i64 wk,.int .i64 pv,.int .i64 nx,.int .u8 kd,.int .i64 pg,.slice ka kn kc,.slice oa on oc,.slice na nn nc,.slice da D.length dc,.slice pa O.length pc] 33));generalize noneN kn on nn=no at *;generalize hm:D.length=m at *;generalize hq:O.length=q at *;clear H hm hq h1 h2 h3 h5 h6;unfold RtG;go_enter Tryz.func86,Tryz.ntmps86;go_wp2_with (fail)
 all_goals
  go_ret;exact⟨by simp,HB0.out⟩
theorem rt1_next (B:Nat) (ls wk pv nx:Int) (pg:Int) (ka oa na da pa:Option Addr) (kn kc on oc nn nc dc pc:Nat) (D O:List (Int×Int)) (w:World) (H:RtE B w da pa kn on nn dc pc D O) (k0:¬ wk<1) (k1:¬ pv<0) (k2:¬ 0<D.length+O.length) (k3:¬ nx=0) :
  Calls Tryz.prog 86 #[.agg #[.int .i64 ls,.int .i64 wk,.int .i64 pv,.int .i64 nx,.int .u8 ((1:Nat):Int),.int .i64 pg,.slice ka kn kc,.slice oa on oc,.slice na nn nc,.slice da D.length dc,.slice pa O.length pc]] w (RtG w false):=by
 have h1:=H.h1;have h2:=H.h2;have h3:=H.h3;have h5:=H.h5;have h6:=H.h6;have e0:IntKind.i64.wrap ((kn:Int)+on)=(kn:Int)+on:=IntWalk.i64_in _ (by omega);have e1:IntKind.i64.wrap ((kn:Int)+on+nn)=(kn:Int)+on+nn:=IntWalk.i64_in _ (by omega);have e2:(((kn:Int)+on+nn) == 0)=noneN kn on nn:=by
  unfold noneN;rw[Bool.eq_iff_iff];simp;omega
 have e3:IntKind.i64.wrap ((D.length:Int)+O.length)=(D.length:Int)+O.length:=IntWalk.i64_in _ (by omega);have f0:decide (wk<1)=false:=decide_eq_false k0;have f1:decide (pv<0)=false:=decide_eq_false k1;have f2:decide ((D.length:Int)+O.length > 0)=false:=by simp;omega
 have f3:(nx == 0)=false:=by simpa using k3
 have HB0:=φ ((Below.refl w.heap.size w).alloc (Nat.le_refl _) (.cells #[.int .i64 ls,.int .i64 wk,.int .i64 pv,.int .i64 nx,.int .u8 ((1:Nat):Int),.int .i64 pg,.slice ka kn kc,.slice oa on oc,.slice na nn nc,.slice da D.length dc,.slice pa O.length pc] 33));generalize noneN kn on nn=no at *;generalize hm:D.length=m at *;generalize hq:O.length=q at *;clear H hm hq h1 h2 h3 h5 h6;unfold RtG;go_enter Tryz.func86,Tryz.ntmps86;go_wp2_with (fail)
 all_goals
  go_ret;exact⟨by simp,HB0.out⟩
theorem rt1_false (B:Nat) (ls wk pv:Int) (pg:Int) (ka oa na da pa:Option Addr) (kn kc on oc nn nc dc pc:Nat) (D O:List (Int×Int)) (w:World) (H:RtE B w da pa kn on nn dc pc D O) (k0:¬ wk<1) (k1:¬ pv<0) (k2:¬ 0<D.length+O.length) (k4:pagedB pg=false) :
  Calls Tryz.prog 86 #[.agg #[.int .i64 ls,.int .i64 wk,.int .i64 pv,.int .i64 0,.int .u8 ((1:Nat):Int),.int .i64 pg,.slice ka kn kc,.slice oa on oc,.slice na nn nc,.slice da D.length dc,.slice pa O.length pc]] w (RtG w false):=by
 have h1:=H.h1;have h2:=H.h2;have h3:=H.h3;have h5:=H.h5;have h6:=H.h6;have e0:IntKind.i64.wrap ((kn:Int)+on)=(kn:Int)+on:=IntWalk.i64_in _ (by omega);have e1:IntKind.i64.wrap ((kn:Int)+on+nn)=(kn:Int)+on+nn:=IntWalk.i64_in _ (by omega);have e2:(((kn:Int)+on+nn) == 0)=noneN kn on nn:=by
  unfold noneN;rw[Bool.eq_iff_iff];simp;omega
 have e3:IntKind.i64.wrap ((D.length:Int)+O.length)=(D.length:Int)+O.length:=IntWalk.i64_in _ (by omega);have f0:decide (wk<1)=false:=decide_eq_false k0;have f1:decide (pv<0)=false:=decide_eq_false k1;have f2:decide ((D.length:Int)+O.length > 0)=false:=by simp;omega
 have HB0:=φ ((Below.refl w.heap.size w).alloc (Nat.le_refl _) (.cells #[.int .i64 ls,.int .i64 wk,.int .i64 pv,.int .i64 0,.int .u8 ((1:Nat):Int),.int .i64 pg,.slice ka kn kc,.slice oa on oc,.slice na nn nc,.slice da D.length dc,.slice pa O.length pc] 33));have HP:=φ fun W=>paged_any pg W
 have HT:=φ fun W=>rturned_any ka oa na kn kc on oc nn nc W (by omega) (by omega) (by omega)
 generalize turnedB kn on nn=tb at *;rw[k4] at HP;generalize noneN kn on nn=no at *;generalize hm:D.length=m at *;generalize hq:O.length=q at *;clear H hm hq h1 h2 h3 h5 h6;unfold RtG;go_enter Tryz.func86,Tryz.ntmps86;go_wp2_with (first|(go_at_call 133;refine (HP.out _).mono ?_;rintro e w1 ⟨rfl,hw1⟩;replace hw1:=hw1.symm;subst hw1)|(go_at_call 134;refine (HT.out _).mono ?_;rintro e w2 ⟨rfl,hb2⟩;have B2:=φ (HB0.out.trans (hb2.mono HB0.out.size));clear hb2))
 all_goals
  go_ret;exact⟨by simp,by first|exact B2.out|exact HB0.out⟩
theorem rt1_true (B:Nat) (ls wk pv:Int) (pg:Int) (ka oa na da pa:Option Addr) (kn kc on oc nn nc dc pc:Nat) (D O:List (Int×Int)) (w:World) (H:RtE B w da pa kn on nn dc pc D O) (k0:¬ wk<1) (k1:¬ pv<0) (k2:¬ 0<D.length+O.length) (k4:pagedB pg=true) :
  Calls Tryz.prog 86 #[.agg #[.int .i64 ls,.int .i64 wk,.int .i64 pv,.int .i64 0,.int .u8 ((1:Nat):Int),.int .i64 pg,.slice ka kn kc,.slice oa on oc,.slice na nn nc,.slice da D.length dc,.slice pa O.length pc]] w (RtG w (turnedB kn on nn)):=by
 have h1:=H.h1;have h2:=H.h2;have h3:=H.h3;have h5:=H.h5;have h6:=H.h6;have e0:IntKind.i64.wrap ((kn:Int)+on)=(kn:Int)+on:=IntWalk.i64_in _ (by omega);have e1:IntKind.i64.wrap ((kn:Int)+on+nn)=(kn:Int)+on+nn:=IntWalk.i64_in _ (by omega);have e2:(((kn:Int)+on+nn) == 0)=noneN kn on nn:=by
  unfold noneN;rw[Bool.eq_iff_iff];simp;omega
 have e3:IntKind.i64.wrap ((D.length:Int)+O.length)=(D.length:Int)+O.length:=IntWalk.i64_in _ (by omega);have f0:decide (wk<1)=false:=decide_eq_false k0;have f1:decide (pv<0)=false:=decide_eq_false k1;have f2:decide ((D.length:Int)+O.length > 0)=false:=by simp;omega
 have HB0:=φ ((Below.refl w.heap.size w).alloc (Nat.le_refl _) (.cells #[.int .i64 ls,.int .i64 wk,.int .i64 pv,.int .i64 0,.int .u8 ((1:Nat):Int),.int .i64 pg,.slice ka kn kc,.slice oa on oc,.slice na nn nc,.slice da D.length dc,.slice pa O.length pc] 33));have HP:=φ fun W=>paged_any pg W
 have HT:=φ fun W=>rturned_any ka oa na kn kc on oc nn nc W (by omega) (by omega) (by omega)
 generalize turnedB kn on nn=tb at *;rw[k4] at HP;generalize noneN kn on nn=no at *;generalize hm:D.length=m at *;generalize hq:O.length=q at *;clear H hm hq h1 h2 h3 h5 h6;unfold RtG;go_enter Tryz.func86,Tryz.ntmps86;go_wp2_with (first|(go_at_call 133;refine (HP.out _).mono ?_;rintro e w1 ⟨rfl,hw1⟩;replace hw1:=hw1.symm;subst hw1)|(go_at_call 134;refine (HT.out _).mono ?_;rintro e w2 ⟨rfl,hb2⟩;have B2:=φ (HB0.out.trans (hb2.mono HB0.out.size));clear hb2))
 all_goals
  go_ret;exact⟨by simp,by first|exact B2.out|exact HB0.out⟩
theorem rt2_next (B:Nat) (ls wk pv nx:Int) (pg:Int) (ka oa na da pa:Option Addr) (kn kc on oc nn nc dc pc:Nat) (D O:List (Int×Int)) (w:World) (H:RtE B w da pa kn on nn dc pc D O) (k0:¬ wk<1) (k1:¬ pv<0) (k2:¬ 0<D.length+O.length) (k3:¬ 0<=nx) :
  Calls Tryz.prog 86 #[.agg #[.int .i64 ls,.int .i64 wk,.int .i64 pv,.int .i64 nx,.int .u8 ((2:Nat):Int),.int .i64 pg,.slice ka kn kc,.slice oa on oc,.slice na nn nc,.slice da D.length dc,.slice pa O.length pc]] w (RtG w false):=by
 have h1:=H.h1;have h2:=H.h2;have h3:=H.h3;have h5:=H.h5;have h6:=H.h6;have e0:IntKind.i64.wrap ((kn:Int)+on)=(kn:Int)+on:=IntWalk.i64_in _ (by omega);have e1:IntKind.i64.wrap ((kn:Int)+on+nn)=(kn:Int)+on+nn:=IntWalk.i64_in _ (by omega);have e2:(((kn:Int)+on+nn) == 0)=noneN kn on nn:=by
  unfold noneN;rw[Bool.eq_iff_iff];simp;omega
 have e3:IntKind.i64.wrap ((D.length:Int)+O.length)=(D.length:Int)+O.length:=IntWalk.i64_in _ (by omega);have f0:decide (wk<1)=false:=decide_eq_false k0;have f1:decide (pv<0)=false:=decide_eq_false k1;have f2:decide ((D.length:Int)+O.length > 0)=false:=by simp;omega
 have f3:decide (nx ≥ 0)=false:=by simpa using k3
 have HB0:=φ ((Below.refl w.heap.size w).alloc (Nat.le_refl _) (.cells #[.int .i64 ls,.int .i64 wk,.int .i64 pv,.int .i64 nx,.int .u8 ((2:Nat):Int),.int .i64 pg,.slice ka kn kc,.slice oa on oc,.slice na nn nc,.slice da D.length dc,.slice pa O.length pc] 33));generalize noneN kn on nn=no at *;generalize hm:D.length=m at *;generalize hq:O.length=q at *;clear H hm hq h1 h2 h3 h5 h6;unfold RtG;go_enter Tryz.func86,Tryz.ntmps86;go_wp2_with (fail)
 all_goals
  go_ret;exact⟨by simp,HB0.out⟩
theorem rt2_false (B:Nat) (ls wk pv nx:Int) (pg:Int) (ka oa na da pa:Option Addr) (kn kc on oc nn nc dc pc:Nat) (D O:List (Int×Int)) (w:World) (H:RtE B w da pa kn on nn dc pc D O) (k0:¬ wk<1) (k1:¬ pv<0) (k2:¬ 0<D.length+O.length) (k3:0<=nx) (k4:pagedB pg=false) :
  Calls Tryz.prog 86 #[.agg #[.int .i64 ls,.int .i64 wk,.int .i64 pv,.int .i64 nx,.int .u8 ((2:Nat):Int),.int .i64 pg,.slice ka kn kc,.slice oa on oc,.slice na nn nc,.slice da D.length dc,.slice pa O.length pc]] w (RtG w false):=by
 have h1:=H.h1;have h2:=H.h2;have h3:=H.h3;have h5:=H.h5;have h6:=H.h6;have e0:IntKind.i64.wrap ((kn:Int)+on)=(kn:Int)+on:=IntWalk.i64_in _ (by omega);have e1:IntKind.i64.wrap ((kn:Int)+on+nn)=(kn:Int)+on+nn:=IntWalk.i64_in _ (by omega);have e2:(((kn:Int)+on+nn) == 0)=noneN kn on nn:=by
  unfold noneN;rw[Bool.eq_iff_iff];simp;omega
 have e3:IntKind.i64.wrap ((D.length:Int)+O.length)=(D.length:Int)+O.length:=IntWalk.i64_in _ (by omega);have f0:decide (wk<1)=false:=decide_eq_false k0;have f1:decide (pv<0)=false:=decide_eq_false k1;have f2:decide ((D.length:Int)+O.length > 0)=false:=by simp;omega
 have f3:decide (nx ≥ 0)=true:=by simpa using k3
 have HB0:=φ ((Below.refl w.heap.size w).alloc (Nat.le_refl _) (.cells #[.int .i64 ls,.int .i64 wk,.int .i64 pv,.int .i64 nx,.int .u8 ((2:Nat):Int),.int .i64 pg,.slice ka kn kc,.slice oa on oc,.slice na nn nc,.slice da D.length dc,.slice pa O.length pc] 33));have HP:=φ fun W=>paged_any pg W
 have HT:=φ fun W=>rturned_any ka oa na kn kc on oc nn nc W (by omega) (by omega) (by omega)
 generalize turnedB kn on nn=tb at *;rw[k4] at HP;generalize noneN kn on nn=no at *;generalize hm:D.length=m at *;generalize hq:O.length=q at *;clear H hm hq h1 h2 h3 h5 h6;unfold RtG;go_enter Tryz.func86,Tryz.ntmps86;go_wp2_with (first|(go_at_call 133;refine (HP.out _).mono ?_;rintro e w1 ⟨rfl,hw1⟩;replace hw1:=hw1.symm;subst hw1)|(go_at_call 134;refine (HT.out _).mono ?_;rintro e w2 ⟨rfl,hb2⟩;have B2:=φ (HB0.out.trans (hb2.mono HB0.out.size));clear hb2))
 all_goals
  go_ret;exact⟨by simp,by first|exact B2.out|exact HB0.out⟩
theorem rt2_true (B:Nat) (ls wk pv nx:Int) (pg:Int) (ka oa na da pa:Option Addr) (kn kc on oc nn nc dc pc:Nat) (D O:List (Int×Int)) (w:World) (H:RtE B w da pa kn on nn dc pc D O) (k0:¬ wk<1) (k1:¬ pv<0) (k2:¬ 0<D.length+O.length) (k3:0<=nx) (k4:pagedB pg=true) :
  Calls Tryz.prog 86 #[.agg #[.int .i64 ls,.int .i64 wk,.int .i64 pv,.int .i64 nx,.int .u8 ((2:Nat):Int),.int .i64 pg,.slice ka kn kc,.slice oa on oc,.slice na nn nc,.slice da D.length dc,.slice pa O.length pc]] w (RtG w (turnedB kn on nn)):=by
 have h1:=H.h1;have h2:=H.h2;have h3:=H.h3;have h5:=H.h5;have h6:=H.h6;have e0:IntKind.i64.wrap ((kn:Int)+on)=(kn:Int)+on:=IntWalk.i64_in _ (by omega);have e1:IntKind.i64.wrap ((kn:Int)+on+nn)=(kn:Int)+on+nn:=IntWalk.i64_in _ (by omega);have e2:(((kn:Int)+on+nn) == 0)=noneN kn on nn:=by
  unfold noneN;rw[Bool.eq_iff_iff];simp;omega
 have e3:IntKind.i64.wrap ((D.length:Int)+O.length)=(D.length:Int)+O.length:=IntWalk.i64_in _ (by omega);have f0:decide (wk<1)=false:=decide_eq_false k0;have f1:decide (pv<0)=false:=decide_eq_false k1;have f2:decide ((D.length:Int)+O.length > 0)=false:=by simp;omega
 have f3:decide (nx ≥ 0)=true:=by simpa using k3
 have HB0:=φ ((Below.refl w.heap.size w).alloc (Nat.le_refl _) (.cells #[.int .i64 ls,.int .i64 wk,.int .i64 pv,.int .i64 nx,.int .u8 ((2:Nat):Int),.int .i64 pg,.slice ka kn kc,.slice oa on oc,.slice na nn nc,.slice da D.length dc,.slice pa O.length pc] 33));have HP:=φ fun W=>paged_any pg W
 have HT:=φ fun W=>rturned_any ka oa na kn kc on oc nn nc W (by omega) (by omega) (by omega)
 generalize turnedB kn on nn=tb at *;rw[k4] at HP;generalize noneN kn on nn=no at *;generalize hm:D.length=m at *;generalize hq:O.length=q at *;clear H hm hq h1 h2 h3 h5 h6;unfold RtG;go_enter Tryz.func86,Tryz.ntmps86;go_wp2_with (first|(go_at_call 133;refine (HP.out _).mono ?_;rintro e w1 ⟨rfl,hw1⟩;replace hw1:=hw1.symm;subst hw1)|(go_at_call 134;refine (HT.out _).mono ?_;rintro e w2 ⟨rfl,hb2⟩;have B2:=φ (HB0.out.trans (hb2.mono HB0.out.size));clear hb2))
 all_goals
  go_ret;exact⟨by simp,by first|exact B2.out|exact HB0.out⟩
theorem rt3_next (B:Nat) (ls wk pv nx:Int) (pg:Int) (ka oa na da pa:Option Addr) (kn kc on oc nn nc dc pc:Nat) (D O:List (Int×Int)) (w:World) (H:RtE B w da pa kn on nn dc pc D O) (k0:¬ wk<1) (k1:¬ pv<0) (k2:¬ 0<D.length+O.length) (k3:¬ nx=0) :
  Calls Tryz.prog 86 #[.agg #[.int .i64 ls,.int .i64 wk,.int .i64 pv,.int .i64 nx,.int .u8 ((3:Nat):Int),.int .i64 pg,.slice ka kn kc,.slice oa on oc,.slice na nn nc,.slice da D.length dc,.slice pa O.length pc]] w (RtG w false):=by
 have h1:=H.h1;have h2:=H.h2;have h3:=H.h3;have h5:=H.h5;have h6:=H.h6;have e0:IntKind.i64.wrap ((kn:Int)+on)=(kn:Int)+on:=IntWalk.i64_in _ (by omega);have e1:IntKind.i64.wrap ((kn:Int)+on+nn)=(kn:Int)+on+nn:=IntWalk.i64_in _ (by omega);have e2:(((kn:Int)+on+nn) == 0)=noneN kn on nn:=by
  unfold noneN;rw[Bool.eq_iff_iff];simp;omega
 have e3:IntKind.i64.wrap ((D.length:Int)+O.length)=(D.length:Int)+O.length:=IntWalk.i64_in _ (by omega);have f0:decide (wk<1)=false:=decide_eq_false k0;have f1:decide (pv<0)=false:=decide_eq_false k1;have f2:decide ((D.length:Int)+O.length > 0)=false:=by simp;omega
 have f3:(nx == 0)=false:=by simpa using k3
 have HB0:=φ ((Below.refl w.heap.size w).alloc (Nat.le_refl _) (.cells #[.int .i64 ls,.int .i64 wk,.int .i64 pv,.int .i64 nx,.int .u8 ((3:Nat):Int),.int .i64 pg,.slice ka kn kc,.slice oa on oc,.slice na nn nc,.slice da D.length dc,.slice pa O.length pc] 33));generalize noneN kn on nn=no at *;generalize hm:D.length=m at *;generalize hq:O.length=q at *;clear H hm hq h1 h2 h3 h5 h6;unfold RtG;go_enter Tryz.func86,Tryz.ntmps86;go_wp2_with (fail)
 all_goals
  go_ret;exact⟨by simp,HB0.out⟩
theorem rt3_page (B:Nat) (ls wk pv:Int) (pg:Int) (ka oa na da pa:Option Addr) (kn kc on oc nn nc dc pc:Nat) (D O:List (Int×Int)) (w:World) (H:RtE B w da pa kn on nn dc pc D O) (k0:¬ wk<1) (k1:¬ pv<0) (k2:¬ 0<D.length+O.length) (k4:¬ pg=0) :
  Calls Tryz.prog 86 #[.agg #[.int .i64 ls,.int .i64 wk,.int .i64 pv,.int .i64 0,.int .u8 ((3:Nat):Int),.int .i64 pg,.slice ka kn kc,.slice oa on oc,.slice na nn nc,.slice da D.length dc,.slice pa O.length pc]] w (RtG w false):=by
 have h1:=H.h1;have h2:=H.h2;have h3:=H.h3;have h5:=H.h5;have h6:=H.h6;have e0:IntKind.i64.wrap ((kn:Int)+on)=(kn:Int)+on:=IntWalk.i64_in _ (by omega);have e1:IntKind.i64.wrap ((kn:Int)+on+nn)=(kn:Int)+on+nn:=IntWalk.i64_in _ (by omega);have e2:(((kn:Int)+on+nn) == 0)=noneN kn on nn:=by
  unfold noneN;rw[Bool.eq_iff_iff];simp;omega
 have e3:IntKind.i64.wrap ((D.length:Int)+O.length)=(D.length:Int)+O.length:=IntWalk.i64_in _ (by omega);have f0:decide (wk<1)=false:=decide_eq_false k0;have f1:decide (pv<0)=false:=decide_eq_false k1;have f2:decide ((D.length:Int)+O.length > 0)=false:=by simp;omega
 have f4:(pg == 0)=false:=by simpa using k4
 have HB0:=φ ((Below.refl w.heap.size w).alloc (Nat.le_refl _) (.cells #[.int .i64 ls,.int .i64 wk,.int .i64 pv,.int .i64 0,.int .u8 ((3:Nat):Int),.int .i64 pg,.slice ka kn kc,.slice oa on oc,.slice na nn nc,.slice da D.length dc,.slice pa O.length pc] 33));generalize noneN kn on nn=no at *;generalize hm:D.length=m at *;generalize hq:O.length=q at *;clear H hm hq h1 h2 h3 h5 h6;unfold RtG;go_enter Tryz.func86,Tryz.ntmps86;go_wp2_with (fail)
 all_goals
  go_ret;exact⟨by simp,HB0.out⟩
theorem rt3_none (B:Nat) (ls wk pv:Int) (ka oa na da pa:Option Addr) (kn kc on oc nn nc dc pc:Nat) (D O:List (Int×Int)) (w:World) (H:RtE B w da pa kn on nn dc pc D O) (k0:¬ wk<1) (k1:¬ pv<0) (k2:¬ 0<D.length+O.length) :
  Calls Tryz.prog 86 #[.agg #[.int .i64 ls,.int .i64 wk,.int .i64 pv,.int .i64 0,.int .u8 ((3:Nat):Int),.int .i64 0,.slice ka kn kc,.slice oa on oc,.slice na nn nc,.slice da D.length dc,.slice pa O.length pc]] w (RtG w (noneN kn on nn)):=by
 have h1:=H.h1;have h2:=H.h2;have h3:=H.h3;have h5:=H.h5;have h6:=H.h6;have e0:IntKind.i64.wrap ((kn:Int)+on)=(kn:Int)+on:=IntWalk.i64_in _ (by omega);have e1:IntKind.i64.wrap ((kn:Int)+on+nn)=(kn:Int)+on+nn:=IntWalk.i64_in _ (by omega);have e2:(((kn:Int)+on+nn) == 0)=noneN kn on nn:=by
  unfold noneN;rw[Bool.eq_iff_iff];simp;omega
 have e3:IntKind.i64.wrap ((D.length:Int)+O.length)=(D.length:Int)+O.length:=IntWalk.i64_in _ (by omega);have f0:decide (wk<1)=false:=decide_eq_false k0;have f1:decide (pv<0)=false:=decide_eq_false k1;have f2:decide ((D.length:Int)+O.length > 0)=false:=by simp;omega
 have HB0:=φ ((Below.refl w.heap.size w).alloc (Nat.le_refl _) (.cells #[.int .i64 ls,.int .i64 wk,.int .i64 pv,.int .i64 0,.int .u8 ((3:Nat):Int),.int .i64 0,.slice ka kn kc,.slice oa on oc,.slice na nn nc,.slice da D.length dc,.slice pa O.length pc] 33));generalize noneN kn on nn=no at *;generalize hm:D.length=m at *;generalize hq:O.length=q at *;clear H hm hq h1 h2 h3 h5 h6;unfold RtG;go_enter Tryz.func86,Tryz.ntmps86;go_wp2_with (fail)
 all_goals
  go_ret;exact⟨by simp,HB0.out⟩
theorem rt4_next (B:Nat) (ls wk pv nx:Int) (pg:Int) (ka oa na da pa:Option Addr) (kn kc on oc nn nc dc pc:Nat) (D O:List (Int×Int)) (w:World) (H:RtE B w da pa kn on nn dc pc D O) (k0:¬ wk<1) (k1:¬ pv<0) (k2:¬ 0<D.length+O.length) (k3:¬ nx=0) :
  Calls Tryz.prog 86 #[.agg #[.int .i64 ls,.int .i64 wk,.int .i64 pv,.int .i64 nx,.int .u8 ((4:Nat):Int),.int .i64 pg,.slice ka kn kc,.slice oa on oc,.slice na nn nc,.slice da D.length dc,.slice pa O.length pc]] w (RtG w false):=by
 have h1:=H.h1;have h2:=H.h2;have h3:=H.h3;have h5:=H.h5;have h6:=H.h6;have e0:IntKind.i64.wrap ((kn:Int)+on)=(kn:Int)+on:=IntWalk.i64_in _ (by omega);have e1:IntKind.i64.wrap ((kn:Int)+on+nn)=(kn:Int)+on+nn:=IntWalk.i64_in _ (by omega);have e2:(((kn:Int)+on+nn) == 0)=noneN kn on nn:=by
  unfold noneN;rw[Bool.eq_iff_iff];simp;omega
 have e3:IntKind.i64.wrap ((D.length:Int)+O.length)=(D.length:Int)+O.length:=IntWalk.i64_in _ (by omega);have f0:decide (wk<1)=false:=decide_eq_false k0;have f1:decide (pv<0)=false:=decide_eq_false k1;have f2:decide ((D.length:Int)+O.length > 0)=false:=by simp;omega
 have f3:(nx == 0)=false:=by simpa using k3
 have HB0:=φ ((Below.refl w.heap.size w).alloc (Nat.le_refl _) (.cells #[.int .i64 ls,.int .i64 wk,.int .i64 pv,.int .i64 nx,.int .u8 ((4:Nat):Int),.int .i64 pg,.slice ka kn kc,.slice oa on oc,.slice na nn nc,.slice da D.length dc,.slice pa O.length pc] 33));generalize noneN kn on nn=no at *;generalize hm:D.length=m at *;generalize hq:O.length=q at *;clear H hm hq h1 h2 h3 h5 h6;unfold RtG;go_enter Tryz.func86,Tryz.ntmps86;go_wp2_with (fail)
 all_goals
  go_ret;exact⟨by simp,HB0.out⟩
theorem rt4_page (B:Nat) (ls wk pv:Int) (pg:Int) (ka oa na da pa:Option Addr) (kn kc on oc nn nc dc pc:Nat) (D O:List (Int×Int)) (w:World) (H:RtE B w da pa kn on nn dc pc D O) (k0:¬ wk<1) (k1:¬ pv<0) (k2:¬ 0<D.length+O.length) (k4:¬ pg=0) :
  Calls Tryz.prog 86 #[.agg #[.int .i64 ls,.int .i64 wk,.int .i64 pv,.int .i64 0,.int .u8 ((4:Nat):Int),.int .i64 pg,.slice ka kn kc,.slice oa on oc,.slice na nn nc,.slice da D.length dc,.slice pa O.length pc]] w (RtG w false):=by
 have h1:=H.h1;have h2:=H.h2;have h3:=H.h3;have h5:=H.h5;have h6:=H.h6;have e0:IntKind.i64.wrap ((kn:Int)+on)=(kn:Int)+on:=IntWalk.i64_in _ (by omega);have e1:IntKind.i64.wrap ((kn:Int)+on+nn)=(kn:Int)+on+nn:=IntWalk.i64_in _ (by omega);have e2:(((kn:Int)+on+nn) == 0)=noneN kn on nn:=by
  unfold noneN;rw[Bool.eq_iff_iff];simp;omega
 have e3:IntKind.i64.wrap ((D.length:Int)+O.length)=(D.length:Int)+O.length:=IntWalk.i64_in _ (by omega);have f0:decide (wk<1)=false:=decide_eq_false k0;have f1:decide (pv<0)=false:=decide_eq_false k1;have f2:decide ((D.length:Int)+O.length > 0)=false:=by simp;omega
 have f4:(pg == 0)=false:=by simpa using k4
 have HB0:=φ ((Below.refl w.heap.size w).alloc (Nat.le_refl _) (.cells #[.int .i64 ls,.int .i64 wk,.int .i64 pv,.int .i64 0,.int .u8 ((4:Nat):Int),.int .i64 pg,.slice ka kn kc,.slice oa on oc,.slice na nn nc,.slice da D.length dc,.slice pa O.length pc] 33));generalize noneN kn on nn=no at *;generalize hm:D.length=m at *;generalize hq:O.length=q at *;clear H hm hq h1 h2 h3 h5 h6;unfold RtG;go_enter Tryz.func86,Tryz.ntmps86;go_wp2_with (fail)
 all_goals
  go_ret;exact⟨by simp,HB0.out⟩
theorem rt4_none (B:Nat) (ls wk pv:Int) (ka oa na da pa:Option Addr) (kn kc on oc nn nc dc pc:Nat) (D O:List (Int×Int)) (w:World) (H:RtE B w da pa kn on nn dc pc D O) (k0:¬ wk<1) (k1:¬ pv<0) (k2:¬ 0<D.length+O.length) :
  Calls Tryz.prog 86 #[.agg #[.int .i64 ls,.int .i64 wk,.int .i64 pv,.int .i64 0,.int .u8 ((4:Nat):Int),.int .i64 0,.slice ka kn kc,.slice oa on oc,.slice na nn nc,.slice da D.length dc,.slice pa O.length pc]] w (RtG w (noneN kn on nn)):=by
 have h1:=H.h1;have h2:=H.h2;have h3:=H.h3;have h5:=H.h5;have h6:=H.h6;have e0:IntKind.i64.wrap ((kn:Int)+on)=(kn:Int)+on:=IntWalk.i64_in _ (by omega);have e1:IntKind.i64.wrap ((kn:Int)+on+nn)=(kn:Int)+on+nn:=IntWalk.i64_in _ (by omega);have e2:(((kn:Int)+on+nn) == 0)=noneN kn on nn:=by
  unfold noneN;rw[Bool.eq_iff_iff];simp;omega
 have e3:IntKind.i64.wrap ((D.length:Int)+O.length)=(D.length:Int)+O.length:=IntWalk.i64_in _ (by omega);have f0:decide (wk<1)=false:=decide_eq_false k0;have f1:decide (pv<0)=false:=decide_eq_false k1;have f2:decide ((D.length:Int)+O.length > 0)=false:=by simp;omega
 have HB0:=φ ((Below.refl w.heap.size w).alloc (Nat.le_refl _) (.cells #[.int .i64 ls,.int .i64 wk,.int .i64 pv,.int .i64 0,.int .u8 ((4:Nat):Int),.int .i64 0,.slice ka kn kc,.slice oa on oc,.slice na nn nc,.slice da D.length dc,.slice pa O.length pc] 33));generalize noneN kn on nn=no at *;generalize hm:D.length=m at *;generalize hq:O.length=q at *;clear H hm hq h1 h2 h3 h5 h6;unfold RtG;go_enter Tryz.func86,Tryz.ntmps86;go_wp2_with (fail)
 all_goals
  go_ret;exact⟨by simp,HB0.out⟩
theorem rt6_paged (B:Nat) (ls wk pv nx:Int) (pg:Int) (ka oa na da pa:Option Addr) (kn kc on oc nn nc dc pc:Nat) (D O:List (Int×Int)) (w:World) (H:RtE B w da pa kn on nn dc pc D O) (k0:¬ wk<1) (k1:¬ pv<0) (k2:¬ 0<D.length+O.length) (k3:pagedB pg=false) :
  Calls Tryz.prog 86 #[.agg #[.int .i64 ls,.int .i64 wk,.int .i64 pv,.int .i64 nx,.int .u8 ((6:Nat):Int),.int .i64 pg,.slice ka kn kc,.slice oa on oc,.slice na nn nc,.slice da D.length dc,.slice pa O.length pc]] w (RtG w false):=by
 have h1:=H.h1;have h2:=H.h2;have h3:=H.h3;have h5:=H.h5;have h6:=H.h6;have e0:IntKind.i64.wrap ((kn:Int)+on)=(kn:Int)+on:=IntWalk.i64_in _ (by omega);have e1:IntKind.i64.wrap ((kn:Int)+on+nn)=(kn:Int)+on+nn:=IntWalk.i64_in _ (by omega);have e2:(((kn:Int)+on+nn) == 0)=noneN kn on nn:=by
  unfold noneN;rw[Bool.eq_iff_iff];simp;omega
 have e3:IntKind.i64.wrap ((D.length:Int)+O.length)=(D.length:Int)+O.length:=IntWalk.i64_in _ (by omega);have f0:decide (wk<1)=false:=decide_eq_false k0;have f1:decide (pv<0)=false:=decide_eq_false k1;have f2:decide ((D.length:Int)+O.length > 0)=false:=by simp;omega
 have HB0:=φ ((Below.refl w.heap.size w).alloc (Nat.le_refl _) (.cells #[.int .i64 ls,.int .i64 wk,.int .i64 pv,.int .i64 nx,.int .u8 ((6:Nat):Int),.int .i64 pg,.slice ka kn kc,.slice oa on oc,.slice na nn nc,.slice da D.length dc,.slice pa O.length pc] 33));have HP:=φ fun W=>paged_any pg W
 rw[k3] at HP;generalize noneN kn on nn=no at *;generalize hm:D.length=m at *;generalize hq:O.length=q at *;clear H hm hq h1 h2 h3 h5 h6;unfold RtG;go_enter Tryz.func86,Tryz.ntmps86;go_wp2_with (go_at_call 133;refine (HP.out _).mono ?_;rintro e w1 ⟨rfl,hw1⟩;replace hw1:=hw1.symm;subst hw1)
 all_goals
  go_ret;exact⟨by simp,by first|exact B2.out|exact HB0.out⟩
theorem rt6_low (B:Nat) (ls wk pv nx:Int) (pg:Int) (ka oa na da pa:Option Addr) (kn kc on oc nn nc dc pc:Nat) (D O:List (Int×Int)) (w:World) (H:RtE B w da pa kn on nn dc pc D O) (k0:¬ wk<1) (k1:¬ pv<0) (k2:¬ 0<D.length+O.length) (k3:pagedB pg=true) (k4:¬ 0<nx) :
  Calls Tryz.prog 86 #[.agg #[.int .i64 ls,.int .i64 wk,.int .i64 pv,.int .i64 nx,.int .u8 ((6:Nat):Int),.int .i64 pg,.slice ka kn kc,.slice oa on oc,.slice na nn nc,.slice da D.length dc,.slice pa O.length pc]] w (RtG w false):=by
 have h1:=H.h1;have h2:=H.h2;have h3:=H.h3;have h5:=H.h5;have h6:=H.h6;have e0:IntKind.i64.wrap ((kn:Int)+on)=(kn:Int)+on:=IntWalk.i64_in _ (by omega);have e1:IntKind.i64.wrap ((kn:Int)+on+nn)=(kn:Int)+on+nn:=IntWalk.i64_in _ (by omega);have e2:(((kn:Int)+on+nn) == 0)=noneN kn on nn:=by
  unfold noneN;rw[Bool.eq_iff_iff];simp;omega
 have e3:IntKind.i64.wrap ((D.length:Int)+O.length)=(D.length:Int)+O.length:=IntWalk.i64_in _ (by omega);have f0:decide (wk<1)=false:=decide_eq_false k0;have f1:decide (pv<0)=false:=decide_eq_false k1;have f2:decide ((D.length:Int)+O.length > 0)=false:=by simp;omega
 have f4:decide (nx > 0)=false:=by simpa using k4
 have HB0:=φ ((Below.refl w.heap.size w).alloc (Nat.le_refl _) (.cells #[.int .i64 ls,.int .i64 wk,.int .i64 pv,.int .i64 nx,.int .u8 ((6:Nat):Int),.int .i64 pg,.slice ka kn kc,.slice oa on oc,.slice na nn nc,.slice da D.length dc,.slice pa O.length pc] 33));have HP:=φ fun W=>paged_any pg W
 rw[k3] at HP;generalize noneN kn on nn=no at *;generalize hm:D.length=m at *;generalize hq:O.length=q at *;clear H hm hq h1 h2 h3 h5 h6;unfold RtG;go_enter Tryz.func86,Tryz.ntmps86;go_wp2_with (go_at_call 133;refine (HP.out _).mono ?_;rintro e w1 ⟨rfl,hw1⟩;replace hw1:=hw1.symm;subst hw1)
 all_goals
  go_ret;exact⟨by simp,by first|exact B2.out|exact HB0.out⟩
theorem rt6_high (B:Nat) (ls wk pv nx:Int) (pg:Int) (ka oa na da pa:Option Addr) (kn kc on oc nn nc dc pc:Nat) (D O:List (Int×Int)) (w:World) (H:RtE B w da pa kn on nn dc pc D O) (k0:¬ wk<1) (k1:¬ pv<0) (k2:¬ 0<D.length+O.length) (k3:pagedB pg=true) (k4:0<nx) (k5:¬ nx<8192) :
  Calls Tryz.prog 86 #[.agg #[.int .i64 ls,.int .i64 wk,.int .i64 pv,.int .i64 nx,.int .u8 ((6:Nat):Int),.int .i64 pg,.slice ka kn kc,.slice oa on oc,.slice na nn nc,.slice da D.length dc,.slice pa O.length pc]] w (RtG w false):=by
 have h1:=H.h1;have h2:=H.h2;have h3:=H.h3;have h5:=H.h5;have h6:=H.h6;have e0:IntKind.i64.wrap ((kn:Int)+on)=(kn:Int)+on:=IntWalk.i64_in _ (by omega);have e1:IntKind.i64.wrap ((kn:Int)+on+nn)=(kn:Int)+on+nn:=IntWalk.i64_in _ (by omega);have e2:(((kn:Int)+on+nn) == 0)=noneN kn on nn:=by
  unfold noneN;rw[Bool.eq_iff_iff];simp;omega
 have e3:IntKind.i64.wrap ((D.length:Int)+O.length)=(D.length:Int)+O.length:=IntWalk.i64_in _ (by omega);have f0:decide (wk<1)=false:=decide_eq_false k0;have f1:decide (pv<0)=false:=decide_eq_false k1;have f2:decide ((D.length:Int)+O.length > 0)=false:=by simp;omega
 have f4:decide (nx > 0)=true:=by simpa using k4
 have f5:decide (nx<8192)=false:=by simpa using k5
 have HB0:=φ ((Below.refl w.heap.size w).alloc (Nat.le_refl _) (.cells #[.int .i64 ls,.int .i64 wk,.int .i64 pv,.int .i64 nx,.int .u8 ((6:Nat):Int),.int .i64 pg,.slice ka kn kc,.slice oa on oc,.slice na nn nc,.slice da D.length dc,.slice pa O.length pc] 33));have HP:=φ fun W=>paged_any pg W
 rw[k3] at HP;generalize noneN kn on nn=no at *;generalize hm:D.length=m at *;generalize hq:O.length=q at *;clear H hm hq h1 h2 h3 h5 h6;unfold RtG;go_enter Tryz.func86,Tryz.ntmps86;go_wp2_with (go_at_call 133;refine (HP.out _).mono ?_;rintro e w1 ⟨rfl,hw1⟩;replace hw1:=hw1.symm;subst hw1)
 all_goals
  go_ret;exact⟨by simp,by first|exact B2.out|exact HB0.out⟩
theorem rt6_none (B:Nat) (ls wk pv nx:Int) (pg:Int) (ka oa na da pa:Option Addr) (kn kc on oc nn nc dc pc:Nat) (D O:List (Int×Int)) (w:World) (H:RtE B w da pa kn on nn dc pc D O) (k0:¬ wk<1) (k1:¬ pv<0) (k2:¬ 0<D.length+O.length) (k3:pagedB pg=true) (k4:0<nx) (k5:nx<8192) :
  Calls Tryz.prog 86 #[.agg #[.int .i64 ls,.int .i64 wk,.int .i64 pv,.int .i64 nx,.int .u8 ((6:Nat):Int),.int .i64 pg,.slice ka kn kc,.slice oa on oc,.slice na nn nc,.slice da D.length dc,.slice pa O.length pc]] w (RtG w (noneN kn on nn)):=by
 have h1:=H.h1;have h2:=H.h2;have h3:=H.h3;have h5:=H.h5;have h6:=H.h6;have e0:IntKind.i64.wrap ((kn:Int)+on)=(kn:Int)+on:=IntWalk.i64_in _ (by omega);have e1:IntKind.i64.wrap ((kn:Int)+on+nn)=(kn:Int)+on+nn:=IntWalk.i64_in _ (by omega);have e2:(((kn:Int)+on+nn) == 0)=noneN kn on nn:=by
  unfold noneN;rw[Bool.eq_iff_iff];simp;omega
 have e3:IntKind.i64.wrap ((D.length:Int)+O.length)=(D.length:Int)+O.length:=IntWalk.i64_in _ (by omega);have f0:decide (wk<1)=false:=decide_eq_false k0;have f1:decide (pv<0)=false:=decide_eq_false k1;have f2:decide ((D.length:Int)+O.length > 0)=false:=by simp;omega
 have f4:decide (nx > 0)=true:=by simpa using k4
 have f5:decide (nx<8192)=true:=by simpa using k5
 have HB0:=φ ((Below.refl w.heap.size w).alloc (Nat.le_refl _) (.cells #[.int .i64 ls,.int .i64 wk,.int .i64 pv,.int .i64 nx,.int .u8 ((6:Nat):Int),.int .i64 pg,.slice ka kn kc,.slice oa on oc,.slice na nn nc,.slice da D.length dc,.slice pa O.length pc] 33));have HP:=φ fun W=>paged_any pg W
 rw[k3] at HP;generalize noneN kn on nn=no at *;generalize hm:D.length=m at *;generalize hq:O.length=q at *;clear H hm hq h1 h2 h3 h5 h6;unfold RtG;go_enter Tryz.func86,Tryz.ntmps86;go_wp2_with (go_at_call 133;refine (HP.out _).mono ?_;rintro e w1 ⟨rfl,hw1⟩;replace hw1:=hw1.symm;subst hw1)
 all_goals
  go_ret;exact⟨by simp,by first|exact B2.out|exact HB0.out⟩
theorem rt0 (B:Nat) (ls wk pv nx:Int) (kd:Nat) (pg:Int) (ka oa na da pa:Option Addr) (kn kc on oc nn nc dc pc:Nat) (D O:List (Int×Int)) (w:World) (H:RtE B w da pa kn on nn dc pc D O) (k0:¬ wk<1) (k1:¬ pv<0) (k2:¬ 0<D.length+O.length) (k5:¬ kd=5) (g1:¬ kd=1) (g2:¬ kd=2) (g3:¬ kd=3) (g4:¬ kd=4) (g6:¬ kd=6) :
  Calls Tryz.prog 86 #[.agg #[.int .i64 ls,.int .i64 wk,.int .i64 pv,.int .i64 nx,.int .u8 kd,.int .i64 pg,.slice ka kn kc,.slice oa on oc,.slice na nn nc,.slice da D.length dc,.slice pa O.length pc]] w (RtG w false):=by
 have h1:=H.h1;have h2:=H.h2;have h3:=H.h3;have h5:=H.h5;have h6:=H.h6;have e0:IntKind.i64.wrap ((kn:Int)+on)=(kn:Int)+on:=IntWalk.i64_in _ (by omega);have e1:IntKind.i64.wrap ((kn:Int)+on+nn)=(kn:Int)+on+nn:=IntWalk.i64_in _ (by omega);have e2:(((kn:Int)+on+nn) == 0)=noneN kn on nn:=by
  unfold noneN;rw[Bool.eq_iff_iff];simp;omega
 have e3:IntKind.i64.wrap ((D.length:Int)+O.length)=(D.length:Int)+O.length:=IntWalk.i64_in _ (by omega);have f0:decide (wk<1)=false:=decide_eq_false k0;have f1:decide (pv<0)=false:=decide_eq_false k1;have f2:decide ((D.length:Int)+O.length > 0)=false:=by simp;omega
 have f5:((kd:Int) == 5)=false:=by simp;omega
 have g11:((kd:Int) == 1)=false:=by simp;omega
 have g22:((kd:Int) == 2)=false:=by simp;omega
 have g33:((kd:Int) == 3)=false:=by simp;omega
 have g44:((kd:Int) == 4)=false:=by simp;omega
 have g66:((kd:Int) == 6)=false:=by simp;omega
 have HB0:=φ ((Below.refl w.heap.size w).alloc (Nat.le_refl _) (.cells #[.int .i64 ls,.int .i64 wk,.int .i64 pv,.int .i64 nx,.int .u8 kd,.int .i64 pg,.slice ka kn kc,.slice oa on oc,.slice na nn nc,.slice da D.length dc,.slice pa O.length pc] 33));generalize noneN kn on nn=no at *;generalize hm:D.length=m at *;generalize hq:O.length=q at *;clear H hm hq h1 h2 h3 h5 h6;unfold RtG;go_enter Tryz.func86,Tryz.ntmps86;go_wp2_with (fail)
 all_goals
  go_ret;exact⟨by simp,HB0.out⟩
theorem right_any (B:Nat) (r:RecV) (ka oa na da pa:Option Addr) (kc oc nc dc pc:Nat) (w:World) (H:RtE B w da pa r.key.length r.old.length r.new.length dc pc r.dirty r.opn) :
  Calls Tryz.prog 86 #[recV r ka oa na da pa kc oc nc dc pc] w fun e w'=>e=.returned (.bool (rightB r))/\Below w.heap.size w w':=by
 show Calls _ _ _ _ (RtG w (rightB r));rw[rightB_eq];unfold recV;obtain⟨ls,wk,pv,nx,kd,pg,key,old,new,D,O⟩:=r;simp only at H ⊢;unfold rightN;by_cases k5:kd=5
 ·subst k5;rw[if_pos rfl];by_cases w0:wk=0
  ·subst w0;by_cases p0:pv=0
   ·subst p0;by_cases n0:nx=0
    ·subst n0;by_cases g0:pg=0
     ·subst g0
      cases hn:noneN key.length old.length new.length with
      | false=>simpa [hn] using rt5_none B ls ka oa na da pa _ kc _ oc _ nc dc pc D O w H hn
      | true=>simpa [hn] using rt5_mark B ls ka oa na da pa _ kc _ oc _ nc dc pc D O w H hn
     ·simpa [g0] using rt5_page B ls pg ka oa na da pa _ kc _ oc _ nc dc pc D O w H g0
    ·simpa [n0] using rt5_next B ls nx pg ka oa na da pa _ kc _ oc _ nc dc pc D O w H n0
   ·simpa [p0] using rt5_prev B ls pv nx pg ka oa na da pa _ kc _ oc _ nc dc pc D O w H p0
  ·simpa [w0] using rt5_work B ls wk pv nx pg ka oa na da pa _ kc _ oc _ nc dc pc D O w H w0
 rw[if_neg k5];by_cases w0:wk<1
 ·rw[if_pos (.inl w0)];exact rt_work B ls wk pv nx kd pg ka oa na da pa _ kc _ oc _ nc dc pc D O w H k5 w0
 by_cases p0:pv<0
 ·rw[if_pos (.inr (.inl p0))];exact rt_prev B ls wk pv nx kd pg ka oa na da pa _ kc _ oc _ nc dc pc D O w H k5 w0 p0
 by_cases l0:0<D.length+O.length
 ·rw[if_pos (.inr (.inr l0))];exact rt_list B ls wk pv nx kd pg ka oa na da pa _ kc _ oc _ nc dc pc D O w H k5 w0 p0 l0
 rw[if_neg (by omega)]
 by_cases k1:kd=1
 ·subst k1;rw[if_pos rfl];by_cases n0:nx=0
  ·subst n0
   cases hp:pagedB pg with
   | false=>simpa [hp] using rt1_false B ls wk pv pg ka oa na da pa _ kc _ oc _ nc dc pc D O w H w0 p0 l0 hp
   | true=>simpa [hp] using rt1_true B ls wk pv pg ka oa na da pa _ kc _ oc _ nc dc pc D O w H w0 p0 l0 hp
  ·simpa [n0] using rt1_next B ls wk pv nx pg ka oa na da pa _ kc _ oc _ nc dc pc D O w H w0 p0 l0 n0
 rw[if_neg k1];by_cases k2:kd=2
 ·subst k2;rw[if_pos rfl];by_cases n0:0<=nx
  ·cases hp:pagedB pg with
   | false=>simpa [n0,hp] using rt2_false B ls wk pv nx pg ka oa na da pa _ kc _ oc _ nc dc pc D O w H w0 p0 l0 n0 hp
   | true=>simpa [n0,hp] using rt2_true B ls wk pv nx pg ka oa na da pa _ kc _ oc _ nc dc pc D O w H w0 p0 l0 n0 hp
  ·simpa [n0] using rt2_next B ls wk pv nx pg ka oa na da pa _ kc _ oc _ nc dc pc D O w H w0 p0 l0 n0
 rw[if_neg k2];by_cases k3:kd=3
 ·subst k3;rw[if_pos (by omega)];by_cases n0:nx=0
  ·subst n0;by_cases g0:pg=0
   ·subst g0;simpa using rt3_none B ls wk pv ka oa na da pa _ kc _ oc _ nc dc pc D O w H w0 p0 l0
   ·simpa [g0] using rt3_page B ls wk pv pg ka oa na da pa _ kc _ oc _ nc dc pc D O w H w0 p0 l0 g0
  ·simpa [n0] using rt3_next B ls wk pv nx pg ka oa na da pa _ kc _ oc _ nc dc pc D O w H w0 p0 l0 n0
 by_cases k4:kd=4
 ·subst k4;rw[if_pos (by omega)];by_cases n0:nx=0
  ·subst n0;by_cases g0:pg=0
   ·subst g0;simpa using rt4_none B ls wk pv ka oa na da pa _ kc _ oc _ nc dc pc D O w H w0 p0 l0
   ·simpa [g0] using rt4_page B ls wk pv pg ka oa na da pa _ kc _ oc _ nc dc pc D O w H w0 p0 l0 g0
  ·simpa [n0] using rt4_next B ls wk pv nx pg ka oa na da pa _ kc _ oc _ nc dc pc D O w H w0 p0 l0 n0
 rw[if_neg (by omega)];by_cases k6:kd=6
 ·subst k6;rw[if_pos rfl]
  cases hp:pagedB pg with
  | false=>simpa [hp] using rt6_paged B ls wk pv nx pg ka oa na da pa _ kc _ oc _ nc dc pc D O w H w0 p0 l0 hp
  | true =>
   by_cases n0:0<nx
   ·by_cases n1:nx<8192
    ·simpa [hp,n0,n1] using rt6_none B ls wk pv nx pg ka oa na da pa _ kc _ oc _ nc dc pc D O w H w0 p0 l0 hp n0 n1
    ·simpa [hp,n0,n1] using rt6_high B ls wk pv nx pg ka oa na da pa _ kc _ oc _ nc dc pc D O w H w0 p0 l0 hp n0 n1
   ·simpa [hp,n0] using rt6_low B ls wk pv nx pg ka oa na da pa _ kc _ oc _ nc dc pc D O w H w0 p0 l0 hp n0
 rw[if_neg k6];exact rt0 B ls wk pv nx kd pg ka oa na da pa _ kc _ oc _ nc dc pc D O w H w0 p0 l0 k5 k1 k2 k3 k4 k6
end Go.Proofs.YtohlkkannjifmaaGreatDoor
