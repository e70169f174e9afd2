/- Texts of this claim joined by a program, part 15 of 20; the last is: The law's own examples hold (sane). Condition: the program is the seat's; its package variables are laid, its ranges Xdj functions known. -/
import Derived.Test.YtolkimpelpnpbaaGreatDoorO10
import Derived.Test.YtolkimpelpnpbaaGreatDoorO11
import Derived.Test.YtolkimpelpnpbaaGreatDoorO12
import Derived.Test.YtolkimpelpnpbaaGreatDoorO13
import Derived.Test.YtolkimpelpnpbaaGreatDoorO14
import Derived.KernelRfl
set_option maxRecDepth 100000
set_option linter.unusedSimpArgs false
set_option linter.unusedVariables false
set_option linter.unusedSectionVars false
set_option linter.defProp false
namespace Go.Proofs.YtolkimpelpnpbaaGreatDoor
open Go Go.Ab Go.Py
theorem X3a (ob:Xb):(fns 3000 Wp (xzE Xpp) 40).pc Xv1.f (Xv1.xs.map .d) ob=some Xv1.v:=by kernel_rfl
end Go.Proofs.YtolkimpelpnpbaaGreatDoor
namespace Go.Proofs.YtolkimpelpnpbaaGreatDoor
open Go Go.Ab Go.Py
theorem X3b (ob:Xb):(fns 3000 Wp (xzE Xpq) 40).pc Xv2.f (Xv2.xs.map .d) ob=some Xv2.v:=by kernel_rfl
end Go.Proofs.YtolkimpelpnpbaaGreatDoor
namespace Go.Proofs.YtolkimpelpnpbaaGreatDoor
open Go Go.Ab Go.Py
theorem X3c (ob:Xb):(fns 3000 Wp (xzE Xpr) 40).pc Xv3.f (Xv3.xs.map .d) ob=some Xv3.v:=by kernel_rfl
end Go.Proofs.YtolkimpelpnpbaaGreatDoor
namespace Go.Proofs.YtolkimpelpnpbaaGreatDoor
open Go Go.Ab Go.Py
theorem X3d (ob:Xb):(fns 3000 Wp (xzE Xps) 40).pc Xv4.f (Xv4.xs.map .d) ob=some Xv4.v:=by kernel_rfl
end Go.Proofs.YtolkimpelpnpbaaGreatDoor
namespace Go.Proofs.YtolkimpelpnpbaaGreatDoor
open Go Go.Ab Go.Py
theorem X3e (ob:Xb):(fns 3000 Wp (xzE Xpt) 40).pc Xv5.f (Xv5.xs.map .d) ob=some Xv5.v:=by kernel_rfl
end Go.Proofs.YtolkimpelpnpbaaGreatDoor
namespace Go.Proofs.YtolkimpelpnpbaaGreatDoor
open Go Go.Ab Go.Py
theorem X3f (ob:Xb):(fns 3000 Wp (xzE Xpu) 40).pc Xv6.f (Xv6.xs.map .d) ob=some Xv6.v:=by kernel_rfl
end Go.Proofs.YtolkimpelpnpbaaGreatDoor
namespace Go.Proofs.YtolkimpelpnpbaaGreatDoor
open Go Go.Ab Go.Lx Go.Py
theorem X5r (ob:Xb):(fns 3000 Wp (xzE X6l) 40).pc 8 [] ob=some (.d (.bool true)):=by kernel_rfl
section
variable {P:Prg} (hP:P.p=Tryz.prog) (hI:IvlZ P) (hL:LoopZ P)
include hP hI hL
theorem X3i:(xzE X3h).ok P:=Yfx hP hI hL
theorem X3k:(xzE X3j).ok P:=Xw hP hI hL (l:=X3h) (e:=Yhb) (X3i hP hI hL) X97
theorem X3m:(xzE X3l).ok P:=Xw hP hI hL (l:=X3j) (e:=Yhc) (X3k hP hI hL) X98
theorem X3o:(xzE X3n).ok P:=Xw hP hI hL (l:=X3l) (e:=Yhd) (X3m hP hI hL) X99
theorem X3q:(xzE X3p).ok P:=Xw hP hI hL (l:=X3n) (e:=Yhe) (X3o hP hI hL) Yaa
theorem X3s:(xzE X3r).ok P:=Xw hP hI hL (l:=X3p) (e:=Yhf) (X3q hP hI hL) Yab
theorem X3u:(xzE X3t).ok P:=Xw hP hI hL (l:=X3r) (e:=Yhg) (X3s hP hI hL) Yac
theorem X3w:(xzE X3v).ok P:=Xw hP hI hL (l:=X3t) (e:=Yhh) (X3u hP hI hL) Yad
theorem X3y:(xzE X3x).ok P:=Xw hP hI hL (l:=X3v) (e:=Yhi) (X3w hP hI hL) Yae
theorem X30:(xzE X3z).ok P:=Xw hP hI hL (l:=X3x) (e:=Yhj) (X3y hP hI hL) Yaf
theorem Xv7:(xzE Xo9).ok P:=Xw hP hI hL (l:=X3z) (e:=Yhk) (X30 hP hI hL) Yag
theorem Xv8:(xzE Xpa).ok P:=Xw hP hI hL (l:=Xo9) (e:=Xvl) (Xv7 hP hI hL) X2u
theorem Xv9:(xzE Xpb).ok P:=Xw hP hI hL (l:=Xpa) (e:=Xvm) (Xv8 hP hI hL) X2v
theorem Xwa:(xzE Xpc).ok P:=Xw hP hI hL (l:=Xpb) (e:=Xvn) (Xv9 hP hI hL) X2w
theorem Xwb:(xzE Xpd).ok P:=Xw hP hI hL (l:=Xpc) (e:=Xvo) (Xwa hP hI hL) X2x
theorem Xwc:(xzE Xpe).ok P:=Xw hP hI hL (l:=Xpd) (e:=Xvp) (Xwb hP hI hL) X2y
theorem Xwd:(xzE Xpf).ok P:=Xw hP hI hL (l:=Xpe) (e:=Xvq) (Xwc hP hI hL) X2z
theorem Xwe:(xzE Xpg).ok P:=Xw hP hI hL (l:=Xpf) (e:=Xvr) (Xwd hP hI hL) X20
theorem Xwf:(xzE Xph).ok P:=Xw hP hI hL (l:=Xpg) (e:=Xvs) (Xwe hP hI hL) X21
theorem Xwg:(xzE Xpi).ok P:=Xw hP hI hL (l:=Xph) (e:=Xvt) (Xwf hP hI hL) X22
theorem Xwh:(xzE Xpj).ok P:=Xw hP hI hL (l:=Xpi) (e:=Xvu) (Xwg hP hI hL) X23
theorem Xwi:(xzE Xpk).ok P:=Xw hP hI hL (l:=Xpj) (e:=Xvv) (Xwh hP hI hL) X24
theorem Xwj:(xzE Xpl).ok P:=Xw hP hI hL (l:=Xpk) (e:=Xvw) (Xwi hP hI hL) X25
theorem Xwk:(xzE Xpm).ok P:=Xw hP hI hL (l:=Xpl) (e:=Xvx) (Xwj hP hI hL) X26
theorem Xwl:(xzE Xpn).ok P:=Xw hP hI hL (l:=Xpm) (e:=Xvy) (Xwk hP hI hL) X27
theorem Xwm:(xzE Xpo).ok P:=Xw hP hI hL (l:=Xpn) (e:=Xvz) (Xwl hP hI hL) X28
theorem Xwn:(xzE Xpp).ok P:=Xw hP hI hL (l:=Xpo) (e:=Xv0) (Xwm hP hI hL) X29
theorem Xwo:(xzE Xpq).ok P:=Xw hP hI hL (l:=Xpp) (e:=Xv1) (Xwn hP hI hL) X3a
theorem Xwp:(xzE Xpr).ok P:=Xw hP hI hL (l:=Xpq) (e:=Xv2) (Xwo hP hI hL) X3b
theorem Xwq:(xzE Xps).ok P:=Xw hP hI hL (l:=Xpr) (e:=Xv3) (Xwp hP hI hL) X3c
theorem Xwr:(xzE Xpt).ok P:=Xw hP hI hL (l:=Xps) (e:=Xv4) (Xwq hP hI hL) X3d
theorem Xws:(xzE Xpu).ok P:=Xw hP hI hL (l:=Xpt) (e:=Xv5) (Xwr hP hI hL) X3e
theorem Xwt:(xzE X6l).ok P:=Xw hP hI hL (l:=Xpu) (e:=Xv6) (Xws hP hI hL) X3f
theorem Yg0 {ob:Xb}{K:V->Prop}(h:K (.d (.bool true))):PCall P 8 [] ob K:=by
 have h1:=(Xc6 (P:=P) (L:=3000) (F:=Wp) (by rw[hP]; exact mixed) (by rw[hP]; exact Xh2) (Xcd hP hI hL) (Xwt hP hI hL) (Xqh hP hI hL) 40).pc _ _ ob _ (X5r ob);refine h1.mono fun v e=>?_;subst e; exact h
end
end Go.Proofs.YtolkimpelpnpbaaGreatDoor
