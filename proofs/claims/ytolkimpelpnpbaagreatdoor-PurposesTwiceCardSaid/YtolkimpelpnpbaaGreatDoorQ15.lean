/- Texts of this claim joined by a program, part 15 of 16; the last is: The law's own examples hold (sane). Condition: the program is the seat's; its package variables are laid, its ranges Xib functions known. -/
import Derived.Test.YtolkimpelpnpbaaGreatDoorQ10
import Derived.Test.YtolkimpelpnpbaaGreatDoorQ11
import Derived.Test.YtolkimpelpnpbaaGreatDoorQ12
import Derived.Test.YtolkimpelpnpbaaGreatDoorQ13
import Derived.Test.YtolkimpelpnpbaaGreatDoorQ14
import Derived.KernelRfl
set_option maxRecDepth 100000
set_option linter.unusedSimpArgs false
set_option linter.unusedVariables false
set_option linter.unusedSectionVars false
set_option linter.defProp false
namespace Go.Proofs.YtolkimpelpnpbaaGreatDoor
open Go Go.Ab Go.Py
theorem Y50 (ob:Xa):(fns 3000 Vs (xzE Y43) 40).pc Y5e.f (Y5e.xs.map .d) ob=some Y5e.v:=by kernel_rfl
end Go.Proofs.YtolkimpelpnpbaaGreatDoor
namespace Go.Proofs.YtolkimpelpnpbaaGreatDoor
open Go Go.Ab Go.Py
theorem Y51 (ob:Xa):(fns 3000 Vs (xzE Y44) 40).pc Y5f.f (Y5f.xs.map .d) ob=some Y5f.v:=by kernel_rfl
end Go.Proofs.YtolkimpelpnpbaaGreatDoor
namespace Go.Proofs.YtolkimpelpnpbaaGreatDoor
open Go Go.Ab Go.Py
theorem Y52 (ob:Xa):(fns 3000 Vs (xzE Y45) 40).pc Y5g.f (Y5g.xs.map .d) ob=some Y5g.v:=by kernel_rfl
end Go.Proofs.YtolkimpelpnpbaaGreatDoor
namespace Go.Proofs.YtolkimpelpnpbaaGreatDoor
open Go Go.Ab Go.Py
theorem Y53 (ob:Xa):(fns 3000 Vs (xzE Y46) 40).pc Y5h.f (Y5h.xs.map .d) ob=some Y5h.v:=by kernel_rfl
end Go.Proofs.YtolkimpelpnpbaaGreatDoor
namespace Go.Proofs.YtolkimpelpnpbaaGreatDoor
open Go Go.Ab Go.Py
theorem Y54 (ob:Xa):(fns 3000 Vs (xzE Y47) 40).pc Y5i.f (Y5i.xs.map .d) ob=some Y5i.v:=by kernel_rfl
end Go.Proofs.YtolkimpelpnpbaaGreatDoor
namespace Go.Proofs.YtolkimpelpnpbaaGreatDoor
open Go Go.Ab Go.Py
theorem Y55 (ob:Xa):(fns 3000 Vs (xzE Y48) 40).pc Y5j.f (Y5j.xs.map .d) ob=some Y5j.v:=by kernel_rfl
end Go.Proofs.YtolkimpelpnpbaaGreatDoor
namespace Go.Proofs.YtolkimpelpnpbaaGreatDoor
open Go Go.Ab Go.Lx Go.Py
theorem Xy5 (ob:Xa):(fns 3000 Vs (xzE Y56) 40).pc 8 [] ob=some (.d (.bool true)):=by kernel_rfl
section
variable {P:Prg} (hP:P.p=Tryz.prog) (hI:IvlZ P) (hL:LoopZ P)
include hP hI hL
theorem Xw8:(xzE Xw7).ok P:=X8g hP hI hL
theorem Xxa:(xzE Xw9).ok P:=Ye hP hI hL (l:=Xw7) (e:=X9t) (Xw8 hP hI hL) X2u
theorem Xxc:(xzE Xxb).ok P:=Ye hP hI hL (l:=Xw9) (e:=X9u) (Xxa hP hI hL) X2v
theorem Xxe:(xzE Xxd).ok P:=Ye hP hI hL (l:=Xxb) (e:=X9v) (Xxc hP hI hL) X2w
theorem Xxg:(xzE Xxf).ok P:=Ye hP hI hL (l:=Xxd) (e:=X9w) (Xxe hP hI hL) X2x
theorem Xxi:(xzE Xxh).ok P:=Ye hP hI hL (l:=Xxf) (e:=X9x) (Xxg hP hI hL) X2y
theorem Xxk:(xzE Xxj).ok P:=Ye hP hI hL (l:=Xxh) (e:=X9y) (Xxi hP hI hL) X2z
theorem Xxm:(xzE Xxl).ok P:=Ye hP hI hL (l:=Xxj) (e:=X9z) (Xxk hP hI hL) X20
theorem Xxo:(xzE Xxn).ok P:=Ye hP hI hL (l:=Xxl) (e:=X90) (Xxm hP hI hL) X21
theorem Xxq:(xzE Xxp).ok P:=Ye hP hI hL (l:=Xxn) (e:=X91) (Xxo hP hI hL) X22
theorem Xra:(xzE Xlg).ok P:=Ye hP hI hL (l:=Xxp) (e:=X92) (Xxq hP hI hL) X23
theorem Xrb:(xzE Xlh).ok P:=Ye hP hI hL (l:=Xlg) (e:=Xqz) (Xra hP hI hL) Xwv
theorem Xrc:(xzE Xli).ok P:=Ye hP hI hL (l:=Xlh) (e:=Xq0) (Xrb hP hI hL) Xww
theorem Xrd:(xzE Xlj).ok P:=Ye hP hI hL (l:=Xli) (e:=Xq1) (Xrc hP hI hL) Xwx
theorem Xre:(xzE Xlk).ok P:=Ye hP hI hL (l:=Xlj) (e:=Xq2) (Xrd hP hI hL) Xwy
theorem Xrf:(xzE Xll).ok P:=Ye hP hI hL (l:=Xlk) (e:=Xq3) (Xre hP hI hL) Xwz
theorem Xrg:(xzE Xlm).ok P:=Ye hP hI hL (l:=Xll) (e:=Xq4) (Xrf hP hI hL) Xw0
theorem Xrh:(xzE Xln).ok P:=Ye hP hI hL (l:=Xlm) (e:=Xq5) (Xrg hP hI hL) Xw1
theorem Xri:(xzE Xlo).ok P:=Ye hP hI hL (l:=Xln) (e:=Xq6) (Xrh hP hI hL) Xw2
theorem Xrj:(xzE Xlp).ok P:=Ye hP hI hL (l:=Xlo) (e:=Xq7) (Xri hP hI hL) Xw3
theorem Xrk:(xzE Xlq).ok P:=Ye hP hI hL (l:=Xlp) (e:=Xq8) (Xrj hP hI hL) Xw4
theorem Xrl:(xzE Xzs).ok P:=Ye hP hI hL (l:=Xlq) (e:=Xq9) (Xrk hP hI hL) Xw5
theorem Y5k:(xzE Y4z).ok P:=Ye hP hI hL (l:=Xzs) (e:=Y49) (Xrl hP hI hL) Y5v
theorem Y5l:(xzE Y40).ok P:=Ye hP hI hL (l:=Y4z) (e:=Y5a) (Y5k hP hI hL) Y5w
theorem Y5m:(xzE Y41).ok P:=Ye hP hI hL (l:=Y40) (e:=Y5b) (Y5l hP hI hL) Y5x
theorem Y5n:(xzE Y42).ok P:=Ye hP hI hL (l:=Y41) (e:=Y5c) (Y5m hP hI hL) Y5y
theorem Y5o:(xzE Y43).ok P:=Ye hP hI hL (l:=Y42) (e:=Y5d) (Y5n hP hI hL) Y5z
theorem Y5p:(xzE Y44).ok P:=Ye hP hI hL (l:=Y43) (e:=Y5e) (Y5o hP hI hL) Y50
theorem Y5q:(xzE Y45).ok P:=Ye hP hI hL (l:=Y44) (e:=Y5f) (Y5p hP hI hL) Y51
theorem Y5r:(xzE Y46).ok P:=Ye hP hI hL (l:=Y45) (e:=Y5g) (Y5q hP hI hL) Y52
theorem Y5s:(xzE Y47).ok P:=Ye hP hI hL (l:=Y46) (e:=Y5h) (Y5r hP hI hL) Y53
theorem Y5t:(xzE Y48).ok P:=Ye hP hI hL (l:=Y47) (e:=Y5i) (Y5s hP hI hL) Y54
theorem Y5u:(xzE Y56).ok P:=Ye hP hI hL (l:=Y48) (e:=Y5j) (Y5t hP hI hL) Y55
theorem c_sane {ob:Xa}{K:V->Prop}(h:K (.d (.bool true))):PCall P 8 [] ob K:=by
 have h1:=(Xbl (P:=P) (L:=3000) (F:=Vs) (by rw[hP]; exact Xx) (by rw[hP]; exact Xfd) (Xaz hP hI hL) (Y5u hP hI hL) (Xmg hP hI hL) 40).pc _ _ ob _ (Xy5 ob)
 refine h1.mono fun v e=>?_
 subst e; exact h
end
end Go.Proofs.YtolkimpelpnpbaaGreatDoor
