/- Texts of this claim joined by a program, part 15 of 20; the last is: The law's own examples hold (sane). Condition: the program is the seat's; its package variables are laid, its ranges Xea functions known. -/
import Derived.Test.YtolkimpelpnpbaaGreatDoorP10
import Derived.Test.YtolkimpelpnpbaaGreatDoorP11
import Derived.Test.YtolkimpelpnpbaaGreatDoorP12
import Derived.Test.YtolkimpelpnpbaaGreatDoorP13
import Derived.Test.YtolkimpelpnpbaaGreatDoorP14
import Derived.KernelRfl
set_option maxRecDepth 100000
set_option linter.unusedSimpArgs false
set_option linter.unusedVariables false
set_option linter.unusedSectionVars false
set_option linter.defProp false
namespace Go.Proofs.YtolkimpelpnpbaaGreatDoor
open Go Go.Ab Go.Py
theorem X70 (ob:Xb):(fns 3000 W2 (xzE Xsh) 40).pc Xzq.f (Xzq.xs.map .d) ob=some Xzq.v:=by kernel_rfl
end Go.Proofs.YtolkimpelpnpbaaGreatDoor
namespace Go.Proofs.YtolkimpelpnpbaaGreatDoor
open Go Go.Ab Go.Py
theorem X71 (ob:Xb):(fns 3000 W2 (xzE Xsi) 40).pc Xzr.f (Xzr.xs.map .d) ob=some Xzr.v:=by kernel_rfl
end Go.Proofs.YtolkimpelpnpbaaGreatDoor
namespace Go.Proofs.YtolkimpelpnpbaaGreatDoor
open Go Go.Ab Go.Py
theorem X72 (ob:Xb):(fns 3000 W2 (xzE Xsj) 40).pc Xzs.f (Xzs.xs.map .d) ob=some Xzs.v:=by kernel_rfl
end Go.Proofs.YtolkimpelpnpbaaGreatDoor
namespace Go.Proofs.YtolkimpelpnpbaaGreatDoor
open Go Go.Ab Go.Py
theorem X73 (ob:Xb):(fns 3000 W2 (xzE Xsk) 40).pc Xzt.f (Xzt.xs.map .d) ob=some Xzt.v:=by kernel_rfl
end Go.Proofs.YtolkimpelpnpbaaGreatDoor
namespace Go.Proofs.YtolkimpelpnpbaaGreatDoor
open Go Go.Ab Go.Py
theorem X74 (ob:Xb):(fns 3000 W2 (xzE Xsl) 40).pc Xzu.f (Xzu.xs.map .d) ob=some Xzu.v:=by kernel_rfl
end Go.Proofs.YtolkimpelpnpbaaGreatDoor
namespace Go.Proofs.YtolkimpelpnpbaaGreatDoor
open Go Go.Ab Go.Py
theorem X75 (ob:Xb):(fns 3000 W2 (xzE Xsm) 40).pc Xzv.f (Xzv.xs.map .d) ob=some Xzv.v:=by kernel_rfl
end Go.Proofs.YtolkimpelpnpbaaGreatDoor
namespace Go.Proofs.YtolkimpelpnpbaaGreatDoor
open Go Go.Ab Go.Lx Go.Py
theorem Yad (ob:Xb):(fns 3000 W2 (xzE Yba) 40).pc 8 [] ob=some (.d (.bool true)):=by kernel_rfl
section
variable {P:Prg} (hP:P.p=Tryz.prog) (hI:IvlZ P) (hL:LoopZ P)
include hP hI hL
theorem X78:(xzE X77).ok P:=Yll hP hI hL
theorem X8a:(xzE X79).ok P:=Xw hP hI hL (l:=X77) (e:=Ym3) (X78 hP hI hL) Yfo
theorem X8c:(xzE X8b).ok P:=Xw hP hI hL (l:=X79) (e:=Ym4) (X8a hP hI hL) Yfp
theorem X8e:(xzE X8d).ok P:=Xw hP hI hL (l:=X8b) (e:=Ym5) (X8c hP hI hL) Yfq
theorem X8g:(xzE X8f).ok P:=Xw hP hI hL (l:=X8d) (e:=Ym6) (X8e hP hI hL) Yfr
theorem X8i:(xzE X8h).ok P:=Xw hP hI hL (l:=X8f) (e:=Ym7) (X8g hP hI hL) Yfs
theorem X8k:(xzE X8j).ok P:=Xw hP hI hL (l:=X8h) (e:=Ym8) (X8i hP hI hL) Yft
theorem X8m:(xzE X8l).ok P:=Xw hP hI hL (l:=X8j) (e:=Ym9) (X8k hP hI hL) Yfu
theorem X8o:(xzE X8n).ok P:=Xw hP hI hL (l:=X8l) (e:=Yna) (X8m hP hI hL) Yfv
theorem X8q:(xzE X8p).ok P:=Xw hP hI hL (l:=X8n) (e:=Ynb) (X8o hP hI hL) Yfw
theorem Xzw:(xzE Xr1).ok P:=Xw hP hI hL (l:=X8p) (e:=Ync) (X8q hP hI hL) Yfx
theorem Xzx:(xzE Xr2).ok P:=Xw hP hI hL (l:=Xr1) (e:=Xza) (Xzw hP hI hL) X7k
theorem Xzy:(xzE Xr3).ok P:=Xw hP hI hL (l:=Xr2) (e:=Xzb) (Xzx hP hI hL) X7l
theorem Xzz:(xzE Xr4).ok P:=Xw hP hI hL (l:=Xr3) (e:=Xzc) (Xzy hP hI hL) X7m
theorem Xz0:(xzE Xr5).ok P:=Xw hP hI hL (l:=Xr4) (e:=Xzd) (Xzz hP hI hL) X7n
theorem Xz1:(xzE Xr6).ok P:=Xw hP hI hL (l:=Xr5) (e:=Xze) (Xz0 hP hI hL) X7o
theorem Xz2:(xzE Xr7).ok P:=Xw hP hI hL (l:=Xr6) (e:=Xzf) (Xz1 hP hI hL) X7p
theorem Xz3:(xzE Xr8).ok P:=Xw hP hI hL (l:=Xr7) (e:=Xzg) (Xz2 hP hI hL) X7q
theorem Xz4:(xzE Xr9).ok P:=Xw hP hI hL (l:=Xr8) (e:=Xzh) (Xz3 hP hI hL) X7r
theorem Xz5:(xzE Xsa).ok P:=Xw hP hI hL (l:=Xr9) (e:=Xzi) (Xz4 hP hI hL) X7s
theorem Xz6:(xzE Xsb).ok P:=Xw hP hI hL (l:=Xsa) (e:=Xzj) (Xz5 hP hI hL) X7t
theorem Xz7:(xzE Xsc).ok P:=Xw hP hI hL (l:=Xsb) (e:=Xzk) (Xz6 hP hI hL) X7u
theorem Xz8:(xzE Xsd).ok P:=Xw hP hI hL (l:=Xsc) (e:=Xzl) (Xz7 hP hI hL) X7v
theorem Xz9:(xzE Xse).ok P:=Xw hP hI hL (l:=Xsd) (e:=Xzm) (Xz8 hP hI hL) X7w
theorem X0a:(xzE Xsf).ok P:=Xw hP hI hL (l:=Xse) (e:=Xzn) (Xz9 hP hI hL) X7x
theorem X0b:(xzE Xsg).ok P:=Xw hP hI hL (l:=Xsf) (e:=Xzo) (X0a hP hI hL) X7y
theorem X0c:(xzE Xsh).ok P:=Xw hP hI hL (l:=Xsg) (e:=Xzp) (X0b hP hI hL) X7z
theorem X0d:(xzE Xsi).ok P:=Xw hP hI hL (l:=Xsh) (e:=Xzq) (X0c hP hI hL) X70
theorem X0e:(xzE Xsj).ok P:=Xw hP hI hL (l:=Xsi) (e:=Xzr) (X0d hP hI hL) X71
theorem X0f:(xzE Xsk).ok P:=Xw hP hI hL (l:=Xsj) (e:=Xzs) (X0e hP hI hL) X72
theorem X0g:(xzE Xsl).ok P:=Xw hP hI hL (l:=Xsk) (e:=Xzt) (X0f hP hI hL) X73
theorem X0h:(xzE Xsm).ok P:=Xw hP hI hL (l:=Xsl) (e:=Xzu) (X0g hP hI hL) X74
theorem X0i:(xzE Yba).ok P:=Xw hP hI hL (l:=Xsm) (e:=Xzv) (X0h hP hI hL) X75
theorem Ymt {ob:Xb}{K:V->Prop}(h:K (.d (.bool true))):PCall P 8 [] ob K:=by
 have h1:=(Xdu (P:=P) (L:=3000) (F:=W2) (by rw[hP]; exact mixed) (by rw[hP]; exact Xi9) (Xc4 hP hI hL) (X0i hP hI hL) (Xtd hP hI hL) 40).pc _ _ ob _ (Yad ob);refine h1.mono fun v e=>?_;subst e; exact h
end
end Go.Proofs.YtolkimpelpnpbaaGreatDoor
