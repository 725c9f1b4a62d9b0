/- twin.State: its walk. -/
import Derived.Test.YtgplnekpgdhcpaaGreatQMeet
import Derived.Lib.SliceRun
import Derived.Lib.Walk
import Derived.Test.YtgplnekpgdhcpaaGreatKRight
import Derived.Test.YtgplnekpgdhcpaaGreatSteps
namespace Go.Proofs.YtgplnekpgdhcpaaGreat
open Go.RowKit Go.Sort Go.Lib Go.Shelf
theorem step_call {P:Program} {w:World} {ops:Array Oper} {o:Oper} {a:Act} {K:Act->World->Prop} {Q:Exit->Act->World->Prop} {Z:Prop} {f:FuncId} {args:Array Value} (hgd:o.guard=none) (hrun:(execOp a.eval o).run P w = .ok (.enter f args) w)
  (h:Calls P f args w fun e w'=>∃ v,e = .returned v/\K (a.put o.dst v) w'):if Region.wanted o (yielded ops a.tmps)=true then Oper.wp P o a w K Q else Z:=by
 have hw:Region.wanted o (yielded ops a.tmps)=true:=by simp[Region.wanted,hgd]
 rw[if_pos hw]
 unfold Oper.wp
 rw[hrun]
 refine Calls.mono h ?_
 rintro e w' ⟨v,rfl,h'⟩
 exact h'
structure StIn (B:Nat) (w:World) (a1:Option Addr) (n1 c1:Nat) (X1:List It) (a2:Option Addr) (n2 c2:Nat) (X2:List LotV) (a3:Option Addr) (n3 c3:Nat) (X3:List LineV):Prop where
 items:RI B w a1 n1 c1 X1
 lots:lotE.In B w a2 n2 c2 X2
 lines:lineE.In B w a3 n3 c3 X3
 nI:n1<=100000000
 nL:n2<=100000000
 nN:n3<=100000000
 sz:∀ x∈X1,x.ps.length * 24<=140737488355328/\x.os.length * 16<=140737488355328
theorem StIn.below {B:Nat} {w w':World} {a1:Option Addr} {n1 c1:Nat} {X1:List It} {a2:Option Addr} {n2 c2:Nat} {X2:List LotV} {a3:Option Addr} {n3 c3:Nat} {X3:List LineV} (h:StIn B w a1 n1 c1 X1 a2 n2 c2 X2 a3 n3 c3 X3) (hb:Below B w w'):StIn B w' a1 n1 c1 X1 a2 n2 c2 X2 a3 n3 c3 X3:=⟨h.items.below hb,h.lots.below hb,h.lines.below hb,h.nI,h.nL,h.nN,h.sz⟩
end Go.Proofs.YtgplnekpgdhcpaaGreat
