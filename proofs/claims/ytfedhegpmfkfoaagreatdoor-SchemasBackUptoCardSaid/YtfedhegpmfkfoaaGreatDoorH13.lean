/- Calls computed by the kernel. No condition. -/
import Derived.Test.YtfedhegpmfkfoaaGreatDoorH12
set_option maxRecDepth 100000
namespace Go.Ab
open Go Go.Proofs
theorem Ybb(a:AB):(DN 3000 Qg (CQ WR) 40).pc RY.f (RY.xs.map .d) a=some RY.v:=by kernel_rfl
theorem Ybc(a:AB):(DN 3000 Qg (CQ WS) 40).pc RZ.f (RZ.xs.map .d) a=some RZ.v:=by kernel_rfl
theorem Ybd(a:AB):(DN 3000 Qg (CQ WT) 40).pc RD.f (RD.xs.map .d) a=some RD.v:=by kernel_rfl
theorem Ybe(a:AB):(DN 3000 Qg (CQ WU) 40).pc RE.f (RE.xs.map .d) a=some RE.v:=by kernel_rfl
end Go.Ab
