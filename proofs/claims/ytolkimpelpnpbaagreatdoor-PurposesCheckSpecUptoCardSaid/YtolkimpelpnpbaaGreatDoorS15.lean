/- Texts of this claim joined by a program, part 15 of 20; the last is: The law's own examples hold (sane). Condition: the program is the seat's; its package variables are laid, its ranges Xgv functions known. -/
import Derived.Test.YtolkimpelpnpbaaGreatDoorS10
import Derived.Test.YtolkimpelpnpbaaGreatDoorS11
import Derived.Test.YtolkimpelpnpbaaGreatDoorS12
import Derived.Test.YtolkimpelpnpbaaGreatDoorS13
import Derived.Test.YtolkimpelpnpbaaGreatDoorS14
import Derived.KernelRfl
set_option maxRecDepth 100000
set_option linter.unusedSimpArgs false
set_option linter.unusedVariables false
set_option linter.unusedSectionVars false
set_option linter.defProp false
namespace Go.Proofs.YtolkimpelpnpbaaGreatDoor
open Go Go.Ab Go.Py
theorem X2o (ob:Xa):(fns 3000 Wl (xzE Xor) 40).pc Xuy.f (Xuy.xs.map .d) ob=some Xuy.v:=by kernel_rfl
end Go.Proofs.YtolkimpelpnpbaaGreatDoor
namespace Go.Proofs.YtolkimpelpnpbaaGreatDoor
open Go Go.Ab Go.Py
theorem X2p (ob:Xa):(fns 3000 Wl (xzE Xos) 40).pc Xuz.f (Xuz.xs.map .d) ob=some Xuz.v:=by kernel_rfl
end Go.Proofs.YtolkimpelpnpbaaGreatDoor
namespace Go.Proofs.YtolkimpelpnpbaaGreatDoor
open Go Go.Ab Go.Py
theorem X2q (ob:Xa):(fns 3000 Wl (xzE Xot) 40).pc Xu0.f (Xu0.xs.map .d) ob=some Xu0.v:=by kernel_rfl
end Go.Proofs.YtolkimpelpnpbaaGreatDoor
namespace Go.Proofs.YtolkimpelpnpbaaGreatDoor
open Go Go.Ab Go.Py
theorem X2r (ob:Xa):(fns 3000 Wl (xzE Xou) 40).pc Xu1.f (Xu1.xs.map .d) ob=some Xu1.v:=by kernel_rfl
end Go.Proofs.YtolkimpelpnpbaaGreatDoor
namespace Go.Proofs.YtolkimpelpnpbaaGreatDoor
open Go Go.Ab Go.Py
theorem X2s (ob:Xa):(fns 3000 Wl (xzE Xov) 40).pc Xu2.f (Xu2.xs.map .d) ob=some Xu2.v:=by kernel_rfl
end Go.Proofs.YtolkimpelpnpbaaGreatDoor
namespace Go.Proofs.YtolkimpelpnpbaaGreatDoor
open Go Go.Ab Go.Py
theorem X2t (ob:Xa):(fns 3000 Wl (xzE Xow) 40).pc Xu3.f (Xu3.xs.map .d) ob=some Xu3.v:=by kernel_rfl
end Go.Proofs.YtolkimpelpnpbaaGreatDoor
namespace Go.Proofs.YtolkimpelpnpbaaGreatDoor
open Go Go.Ab Go.Lx Go.Py
theorem X4x (ob:Xa):(fns 3000 Wl (xzE X5r) 40).pc 8 [] ob=some (.d (.bool true)):=by kernel_rfl
section
variable {P:Prg} (hP:P.p=Tryz.prog) (hI:IvlZ P) (hL:LoopZ P)
include hP hI hL
theorem X2w:(xzE X2v).ok P:=Ye0 hP hI hL
theorem X2y:(xzE X2x).ok P:=Xu hP hI hL (l:=X2v) (e:=Ygh) (X2w hP hI hL) X88
theorem X20:(xzE X2z).ok P:=Xu hP hI hL (l:=X2x) (e:=Ygi) (X2y hP hI hL) X89
theorem X22:(xzE X21).ok P:=Xu hP hI hL (l:=X2z) (e:=Ygj) (X20 hP hI hL) X9a
theorem X24:(xzE X23).ok P:=Xu hP hI hL (l:=X21) (e:=Ygk) (X22 hP hI hL) X9b
theorem X26:(xzE X25).ok P:=Xu hP hI hL (l:=X23) (e:=Ygl) (X24 hP hI hL) X9c
theorem X28:(xzE X27).ok P:=Xu hP hI hL (l:=X25) (e:=Ygm) (X26 hP hI hL) X9d
theorem X3a:(xzE X29).ok P:=Xu hP hI hL (l:=X27) (e:=Ygn) (X28 hP hI hL) X9e
theorem X3c:(xzE X3b).ok P:=Xu hP hI hL (l:=X29) (e:=Ygo) (X3a hP hI hL) X9f
theorem X3e:(xzE X3d).ok P:=Xu hP hI hL (l:=X3b) (e:=Ygp) (X3c hP hI hL) X9g
theorem Xu4:(xzE Xob).ok P:=Xu hP hI hL (l:=X3d) (e:=Ygq) (X3e hP hI hL) X9h
theorem Xu5:(xzE Xoc).ok P:=Xu hP hI hL (l:=Xob) (e:=Xui) (Xu4 hP hI hL) X18
theorem Xu6:(xzE Xod).ok P:=Xu hP hI hL (l:=Xoc) (e:=Xuj) (Xu5 hP hI hL) X19
theorem Xu7:(xzE Xoe).ok P:=Xu hP hI hL (l:=Xod) (e:=Xuk) (Xu6 hP hI hL) X2a
theorem Xu8:(xzE Xof).ok P:=Xu hP hI hL (l:=Xoe) (e:=Xul) (Xu7 hP hI hL) X2b
theorem Xu9:(xzE Xog).ok P:=Xu hP hI hL (l:=Xof) (e:=Xum) (Xu8 hP hI hL) X2c
theorem Xva:(xzE Xoh).ok P:=Xu hP hI hL (l:=Xog) (e:=Xun) (Xu9 hP hI hL) X2d
theorem Xvb:(xzE Xoi).ok P:=Xu hP hI hL (l:=Xoh) (e:=Xuo) (Xva hP hI hL) X2e
theorem Xvc:(xzE Xoj).ok P:=Xu hP hI hL (l:=Xoi) (e:=Xup) (Xvb hP hI hL) X2f
theorem Xvd:(xzE Xok).ok P:=Xu hP hI hL (l:=Xoj) (e:=Xuq) (Xvc hP hI hL) X2g
theorem Xve:(xzE Xol).ok P:=Xu hP hI hL (l:=Xok) (e:=Xur) (Xvd hP hI hL) X2h
theorem Xvf:(xzE Xom).ok P:=Xu hP hI hL (l:=Xol) (e:=Xus) (Xve hP hI hL) X2i
theorem Xvg:(xzE Xon).ok P:=Xu hP hI hL (l:=Xom) (e:=Xut) (Xvf hP hI hL) X2j
theorem Xvh:(xzE Xoo).ok P:=Xu hP hI hL (l:=Xon) (e:=Xuu) (Xvg hP hI hL) X2k
theorem Xvi:(xzE Xop).ok P:=Xu hP hI hL (l:=Xoo) (e:=Xuv) (Xvh hP hI hL) X2l
theorem Xvj:(xzE Xoq).ok P:=Xu hP hI hL (l:=Xop) (e:=Xuw) (Xvi hP hI hL) X2m
theorem Xvk:(xzE Xor).ok P:=Xu hP hI hL (l:=Xoq) (e:=Xux) (Xvj hP hI hL) X2n
theorem Xvl:(xzE Xos).ok P:=Xu hP hI hL (l:=Xor) (e:=Xuy) (Xvk hP hI hL) X2o
theorem Xvm:(xzE Xot).ok P:=Xu hP hI hL (l:=Xos) (e:=Xuz) (Xvl hP hI hL) X2p
theorem Xvn:(xzE Xou).ok P:=Xu hP hI hL (l:=Xot) (e:=Xu0) (Xvm hP hI hL) X2q
theorem Xvo:(xzE Xov).ok P:=Xu hP hI hL (l:=Xou) (e:=Xu1) (Xvn hP hI hL) X2r
theorem Xvp:(xzE Xow).ok P:=Xu hP hI hL (l:=Xov) (e:=Xu2) (Xvo hP hI hL) X2s
theorem Xvq:(xzE X5r).ok P:=Xu hP hI hL (l:=Xow) (e:=Xu3) (Xvp hP hI hL) X2t
theorem Yf7 {ob:Xa}{K:V->Prop}(h:K (.d (.bool true))):PCall P 8 [] ob K:=by
 have h1:=(Xcf (P:=P) (L:=3000) (F:=Wl) (by rw[hP]; exact mixed) (by rw[hP]; exact Xg3) (Xbs hP hI hL) (Xvq hP hI hL) (Xpi hP hI hL) 40).pc _ _ ob _ (X4x ob)
 refine h1.mono fun v e=>?_
 subst e; exact h
end
end Go.Proofs.YtolkimpelpnpbaaGreatDoor
