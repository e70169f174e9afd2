/- Calls computed by the kernel. No condition. -/
import Derived.Test.YtfedhegpmfkfoaaGreatDoorH13
set_option maxRecDepth 100000
namespace Go.Ab
open Go Go.Proofs
theorem Ybf(a:AB):(DN 3000 Qg (CQ WV) 40).pc RF.f (RF.xs.map .d) a=some RF.v:=by kernel_rfl
theorem Ybg(a:AB):(DN 3000 Qg (CQ WW) 40).pc RG.f (RG.xs.map .d) a=some RG.v:=by kernel_rfl
theorem Ybh(a:AB):(DN 3000 Qg (CQ WX) 40).pc RH.f (RH.xs.map .d) a=some RH.v:=by kernel_rfl
theorem Ybi(a:AB):(DN 3000 Qg (CQ WA) 40).pc RI.f (RI.xs.map .d) a=some RI.v:=by kernel_rfl
theorem Ybj(a:AB):(DN 3000 Qg (CQ WB) 40).pc RL.f (RL.xs.map .d) a=some RL.v:=by kernel_rfl
end Go.Ab
