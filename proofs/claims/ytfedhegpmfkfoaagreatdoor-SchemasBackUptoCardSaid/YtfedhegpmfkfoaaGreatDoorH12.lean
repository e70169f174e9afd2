/- Calls computed by the kernel. No condition. -/
import Derived.Test.YtfedhegpmfkfoaaGreatDoorH11
set_option maxRecDepth 100000
namespace Go.Ab
open Go Go.Proofs
theorem Yj1(a:AB):(DN 3000 Qg (CQ XW) 40).pc Sl.f (Sl.xs.map .d) a=some Sl.v:=by kernel_rfl
theorem Yj2(a:AB):(DN 3000 Qg (CQ XX) 40).pc Sr.f (Sr.xs.map .d) a=some Sr.v:=by kernel_rfl
theorem Ya2(a:AB):(DN 3000 Qg (CQ WH) 40).pc RM.f (RM.xs.map .d) a=some RM.v:=by kernel_rfl
theorem Ya3(a:AB):(DN 3000 Qg (CQ WI) 40).pc RN.f (RN.xs.map .d) a=some RN.v:=by kernel_rfl
theorem Ya4(a:AB):(DN 3000 Qg (CQ WJ) 40).pc RP.f (RP.xs.map .d) a=some RP.v:=by kernel_rfl
theorem Ya5(a:AB):(DN 3000 Qg (CQ WK) 40).pc RR.f (RR.xs.map .d) a=some RR.v:=by kernel_rfl
theorem Ya6(a:AB):(DN 3000 Qg (CQ WL) 40).pc RS.f (RS.xs.map .d) a=some RS.v:=by kernel_rfl
theorem Ya7(a:AB):(DN 3000 Qg (CQ WM) 40).pc RT.f (RT.xs.map .d) a=some RT.v:=by kernel_rfl
theorem Ya8(a:AB):(DN 3000 Qg (CQ WN) 40).pc RU.f (RU.xs.map .d) a=some RU.v:=by kernel_rfl
theorem Ya9(a:AB):(DN 3000 Qg (CQ WO) 40).pc RW.f (RW.xs.map .d) a=some RW.v:=by kernel_rfl
theorem Yba(a:AB):(DN 3000 Qg (CQ WQ) 40).pc RX.f (RX.xs.map .d) a=some RX.v:=by kernel_rfl
end Go.Ab
