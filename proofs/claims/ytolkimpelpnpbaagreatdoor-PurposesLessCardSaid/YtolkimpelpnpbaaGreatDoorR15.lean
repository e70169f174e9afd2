/- Texts of this claim joined by a program, part 15 of 16; the last is: The law's own examples hold (sane). Condition: the program is the seat's; its package variables are laid, its ranges Xga functions known. -/
import Derived.Test.YtolkimpelpnpbaaGreatDoorR10
import Derived.Test.YtolkimpelpnpbaaGreatDoorR11
import Derived.Test.YtolkimpelpnpbaaGreatDoorR12
import Derived.Test.YtolkimpelpnpbaaGreatDoorR13
import Derived.Test.YtolkimpelpnpbaaGreatDoorR14
import Derived.KernelRfl
set_option maxRecDepth 100000
set_option linter.unusedSimpArgs false
set_option linter.unusedVariables false
set_option linter.unusedSectionVars false
set_option linter.defProp false
namespace Go.Proofs.YtolkimpelpnpbaaGreatDoor
open Go Go.Ab Go.Py
theorem X0d (ob:Xb):(fns 3000 Wf (xzE Xnj) 40).pc Xtm.f (Xtm.xs.map .d) ob=some Xtm.v:=by kernel_rfl
end Go.Proofs.YtolkimpelpnpbaaGreatDoor
namespace Go.Proofs.YtolkimpelpnpbaaGreatDoor
open Go Go.Ab Go.Py
theorem X0e (ob:Xb):(fns 3000 Wf (xzE Xnk) 40).pc Xtn.f (Xtn.xs.map .d) ob=some Xtn.v:=by kernel_rfl
end Go.Proofs.YtolkimpelpnpbaaGreatDoor
namespace Go.Proofs.YtolkimpelpnpbaaGreatDoor
open Go Go.Ab Go.Py
theorem X0f (ob:Xb):(fns 3000 Wf (xzE Xnl) 40).pc Xto.f (Xto.xs.map .d) ob=some Xto.v:=by kernel_rfl
end Go.Proofs.YtolkimpelpnpbaaGreatDoor
namespace Go.Proofs.YtolkimpelpnpbaaGreatDoor
open Go Go.Ab Go.Py
theorem X0g (ob:Xb):(fns 3000 Wf (xzE Xnm) 40).pc Xtp.f (Xtp.xs.map .d) ob=some Xtp.v:=by kernel_rfl
end Go.Proofs.YtolkimpelpnpbaaGreatDoor
namespace Go.Proofs.YtolkimpelpnpbaaGreatDoor
open Go Go.Ab Go.Py
theorem X0h (ob:Xb):(fns 3000 Wf (xzE Xnn) 40).pc Xtq.f (Xtq.xs.map .d) ob=some Xtq.v:=by kernel_rfl
end Go.Proofs.YtolkimpelpnpbaaGreatDoor
namespace Go.Proofs.YtolkimpelpnpbaaGreatDoor
open Go Go.Ab Go.Py
theorem X0i (ob:Xb):(fns 3000 Wf (xzE Xno) 40).pc Xtr.f (Xtr.xs.map .d) ob=some Xtr.v:=by kernel_rfl
end Go.Proofs.YtolkimpelpnpbaaGreatDoor
namespace Go.Proofs.YtolkimpelpnpbaaGreatDoor
open Go Go.Ab Go.Lx Go.Py
theorem X2j (ob:Xb):(fns 3000 Wf (xzE X28) 40).pc 8 [] ob=some (.d (.bool true)):=by kernel_rfl
section
variable {P:Prg} (hP:P.p=Tryz.prog) (hI:IvlZ P) (hL:LoopZ P)
include hP hI hL
theorem X0l:(xzE X0k).ok P:=Yb0 hP hI hL
theorem X0n:(xzE X0m).ok P:=Xw hP hI hL (l:=X0k) (e:=Ydg) (X0l hP hI hL) X6f
theorem X0p:(xzE X0o).ok P:=Xw hP hI hL (l:=X0m) (e:=Ydh) (X0n hP hI hL) X6g
theorem X0r:(xzE X0q).ok P:=Xw hP hI hL (l:=X0o) (e:=Ydi) (X0p hP hI hL) X6h
theorem X0t:(xzE X0s).ok P:=Xw hP hI hL (l:=X0q) (e:=Ydj) (X0r hP hI hL) X6i
theorem X0v:(xzE X0u).ok P:=Xw hP hI hL (l:=X0s) (e:=Ydk) (X0t hP hI hL) X6j
theorem X0x:(xzE X0w).ok P:=Xw hP hI hL (l:=X0u) (e:=Ydl) (X0v hP hI hL) X6k
theorem X0z:(xzE X0y).ok P:=Xw hP hI hL (l:=X0w) (e:=Ydm) (X0x hP hI hL) X6l
theorem X01:(xzE X00).ok P:=Xw hP hI hL (l:=X0y) (e:=Ydn) (X0z hP hI hL) X6m
theorem X03:(xzE X02).ok P:=Xw hP hI hL (l:=X00) (e:=Ydo) (X01 hP hI hL) X6n
theorem Xts:(xzE Xm3).ok P:=Xw hP hI hL (l:=X02) (e:=Ydp) (X03 hP hI hL) X6o
theorem Xtt:(xzE Xm4).ok P:=Xw hP hI hL (l:=Xm3) (e:=Xs6) (Xts hP hI hL) Xzx
theorem Xtu:(xzE Xm5).ok P:=Xw hP hI hL (l:=Xm4) (e:=Xs7) (Xtt hP hI hL) Xzy
theorem Xtv:(xzE Xm6).ok P:=Xw hP hI hL (l:=Xm5) (e:=Xs8) (Xtu hP hI hL) Xzz
theorem Xtw:(xzE Xm7).ok P:=Xw hP hI hL (l:=Xm6) (e:=Xs9) (Xtv hP hI hL) Xz0
theorem Xtx:(xzE Xm8).ok P:=Xw hP hI hL (l:=Xm7) (e:=Xta) (Xtw hP hI hL) Xz1
theorem Xty:(xzE Xm9).ok P:=Xw hP hI hL (l:=Xm8) (e:=Xtb) (Xtx hP hI hL) Xz2
theorem Xtz:(xzE Xna).ok P:=Xw hP hI hL (l:=Xm9) (e:=Xtc) (Xty hP hI hL) Xz3
theorem Xt0:(xzE Xnb).ok P:=Xw hP hI hL (l:=Xna) (e:=Xtd) (Xtz hP hI hL) Xz4
theorem Xt1:(xzE Xnc).ok P:=Xw hP hI hL (l:=Xnb) (e:=Xte) (Xt0 hP hI hL) Xz5
theorem Xt2:(xzE Xnd).ok P:=Xw hP hI hL (l:=Xnc) (e:=Xtf) (Xt1 hP hI hL) Xz6
theorem Xt3:(xzE Xne).ok P:=Xw hP hI hL (l:=Xnd) (e:=Xtg) (Xt2 hP hI hL) Xz7
theorem Xt4:(xzE Xnf).ok P:=Xw hP hI hL (l:=Xne) (e:=Xth) (Xt3 hP hI hL) Xz8
theorem Xt5:(xzE Xng).ok P:=Xw hP hI hL (l:=Xnf) (e:=Xti) (Xt4 hP hI hL) Xz9
theorem Xt6:(xzE Xnh).ok P:=Xw hP hI hL (l:=Xng) (e:=Xtj) (Xt5 hP hI hL) X0a
theorem Xt7:(xzE Xni).ok P:=Xw hP hI hL (l:=Xnh) (e:=Xtk) (Xt6 hP hI hL) X0b
theorem Xt8:(xzE Xnj).ok P:=Xw hP hI hL (l:=Xni) (e:=Xtl) (Xt7 hP hI hL) X0c
theorem Xt9:(xzE Xnk).ok P:=Xw hP hI hL (l:=Xnj) (e:=Xtm) (Xt8 hP hI hL) X0d
theorem Xua:(xzE Xnl).ok P:=Xw hP hI hL (l:=Xnk) (e:=Xtn) (Xt9 hP hI hL) X0e
theorem Xub:(xzE Xnm).ok P:=Xw hP hI hL (l:=Xnl) (e:=Xto) (Xua hP hI hL) X0f
theorem Xuc:(xzE Xnn).ok P:=Xw hP hI hL (l:=Xnm) (e:=Xtp) (Xub hP hI hL) X0g
theorem Xud:(xzE Xno).ok P:=Xw hP hI hL (l:=Xnn) (e:=Xtq) (Xuc hP hI hL) X0h
theorem Xue:(xzE X28).ok P:=Xw hP hI hL (l:=Xno) (e:=Xtr) (Xud hP hI hL) X0i
theorem c_sane {ob:Xb}{K:V->Prop}(h:K (.d (.bool true))):PCall P 8 [] ob K:=by
 have h1:=(Xb1 (P:=P) (L:=3000) (F:=Wf) (by rw[hP]; exact mixed) (by rw[hP]; exact Xgg) (Xbd hP hI hL) (Xue hP hI hL) (Xoc hP hI hL) 40).pc _ _ ob _ (X2j ob)
 refine h1.mono fun v e=>?_
 subst e; exact h
end
end Go.Proofs.YtolkimpelpnpbaaGreatDoor
