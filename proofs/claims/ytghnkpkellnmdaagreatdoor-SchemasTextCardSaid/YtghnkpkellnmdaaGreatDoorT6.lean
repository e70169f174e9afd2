/- Joined texts, part 6 of 13. Contract: names.numberPurpose. Condition: the program is the seat's. -/
import Derived.Test.YtghnkpkellnmdaaGreatDoorT3
import Derived.Test.YtghnkpkellnmdaaGreatDoorT4
import Derived.Test.YtghnkpkellnmdaaGreatDoorT5
import Derived.Test.YtghnkpkellnmdaaGreatDoorProg
import Derived.KernelRfl
import Derived.Shelf.Strings.Builder1
import Derived.Shelf.Strconv.Itoa0
import Derived.Shelf.Strconv.Itoa1
import Derived.Shelf.LaysM
import Derived.Shelf.Strconv.Itoa2
import Derived.Shelf.Strconv.Itoa3
import Derived.Shelf.Strings.Search1
import Derived.Shelf.Strings.Search2
import Derived.Shelf.Strings.Search3
import Derived.Shelf.Strings.Shaped
set_option maxRecDepth 100000
set_option linter.unusedSimpArgs false
set_option linter.unusedVariables false
set_option linter.unusedSectionVars false
set_option linter.defProp false
namespace Go.Ab
open Go Go.Proofs
open Go.Proofs.Tryz (prog)
variable {P:BE}(hP:P.p=prog)
section
attribute [local simp] CZ CF
attribute [local simp ↓] ql qn qo qi qh qj qk qm wg zy we wh wc zt zu zr zx zw qq qp qy qz zn zb qx qr zo qw qv qt zd zi zf zj zl zm wo wj wq wp qb qa qd qc qe qg qf zq zp
section
variable {P:BE} (hPp:P.p=prog) (hI:Ez P) {ts:List Ay} {en:Int} {s:Bm} (hs:JO s) {K:BQ->AE->Prop}
include hPp hI hs
theorem Zba(h:PS K en (PA s ts)):Aa P 21 [.ptr 4 []] (GW en ts s) K:=by
 refine Ae hPp AT Z0p.1 Z0p.2 A6.nil λ_ c=>?_;simp[Zu7,hI.AX,hI.AO,hI.As,hI.AQ,hI.A8];refine N9 hPp (S:=Zn s) (by simp) (by simp) _ 16 (PS.bind h (λts' e h=>?_) (λa ts' b h=>?_))
 ·simp;exact Xt (h s) (by simp) (by simp[AF])
 simp[hI.AX,hI.AO,hI.As,hI.AQ,hI.A8];refine W1 hPp (S:=Zn s) (by simp) (by simp) _ (PS.bind h (λts' e h=>?_) (λa ts' b h=>?_))
 ·simp;exact Xt (h s) (by simp) (by simp[AF])
 simp[hI.AX,hI.AO,hI.As,hI.AQ,hI.A8];refine Z3 hPp (S:=Zn s) (by simp) (by simp) (PS.bind h (λts' e h=>?_) (λa ts' b h=>?_))
 ·simp;exact Xt (h s) (by simp) (by simp[AF])
 simp[hI.AX,hI.AO,hI.As,hI.AQ,hI.A8];refine Z2 hPp (S:=Zn s) (by simp) (by simp) _ _ (PS.bind h (λts' e h=>?_) (λa ts' b h=>?_))
 ·simp;exact Xt (h s) (by simp) (by simp[AF])
 cases a
 ·skip
  simp only[BY,CR,CP,Yc,Zi]at h;simp[hI.AX,hI.AO,hI.As,hI.AQ,hI.A8,yK];refine Y1 hPp (S:=Zn s) (by simp) (by simp) _ (PS.bind h (λts' e h=>?_) (λa ts' b h=>?_))
  ·simp;exact Xt (h s) (by simp) (by simp[AF])
  simp[hI.AX,hI.AO,hI.As,hI.AQ,hI.A8];refine⟨by have:=hs.Ac;omega,?_⟩;exact Xt h (by simp) (by simp[AF,CK.enc])
 ·skip
  simp only[BY,CR,CP,Yc,Zi]at h;simp[hI.AX,hI.AO,hI.As,hI.AQ,hI.A8];refine Wd hPp (S:=Zn s) (by simp) (by simp) _ _ (PS.bind h (λts' e h=>?_) (λa ts' b h=>?_))
  ·simp;exact Xt (h s) (by simp) (by simp[AF])
  simp[hI.AX,hI.AO,hI.As,hI.AQ,hI.A8];refine Z3 hPp (S:=Zn s) (by simp) (by simp) (PS.bind h (λts' e h=>?_) (λa ts' b h=>?_))
  ·simp;exact Xt (h s) (by simp) (by simp[AF])
  simp[hI.AX,hI.AO,hI.As,hI.AQ,hI.A8,yK];refine Y1 hPp (S:=Zn s) (by simp) (by simp) _ (PS.bind h (λts' e h=>?_) (λa ts' b h=>?_))
  ·simp;exact Xt (h s) (by simp) (by simp[AF])
  simp[hI.AX,hI.AO,hI.As,hI.AQ,hI.A8];refine⟨by have:=hs.Ac;omega,?_⟩;exact Xt h (by simp) (by simp[AF,CK.enc])
end
end
def Y9w:Nat:=0x1aff7820610bf041054267007088002204040
def r8:Nat:=0x105513806107cb3c3ed1321ef00d0076f4137ae703614d0bb7080f306aaa015613f0ea28f15207928f12209d28f0571340041b628fafa28f12c09d28f86500028f255b0700002b00100e5ef02c40205e00406107cb3c02a0f102902208804526ec2b0990570262cf0250460240429908eb0550427d3064021ae7021b3c0570201cb01f0d204601d04296b00701da70
def Y57:S:=zS [(zS [] Y9w)] r8
def ir6:E5:=.pre (.rg [] [.op (some 2) (.alloc 30 (.agg [.Ah,.Ah,.Ah,.Ah,.Ah,.Ah])),
 .op (some 3) (.alloc 3 (.int .i64 0)),
 .op (some 4) (.alloc 31 (.int .i64 0))] [0,2,3,4] [])
 (.pre (.rg [] [.op (some 10) (.c (.mv (.t 0))),
  .op (some 11) (.Bd 12 [(.t 10)]),
  .op (some 9) (.c (.mv (.t 11))),
  .op (some 12) (.c (.ext (.t 9) 0)),
  .op (some 13) (.c (.ext (.t 9) 1)),
  .op (some 14) (.c (.ext (.t 9) 2)),
  .op (some 5) (.c (.mv (.t 12))),
  .op none (.st 1 (.t 3) (.t 13)),
  .op none (.st 1 (.t 4) (.t 14))] [0,2,3,4,5] [])
 (.pre (.seq (.rg [] [.op (some 15) (.c (.ld 1 false (.t 4))),
  .op (some 16) (.c (.Bl .neq (.t 15) (.int .i64 0)))] [0,2,3,4,5,16] [])
 (.cond (.t 16) (.seq (.Gs 6 (.Ba 0 (.op (some 17) (.c (.ld 6 true (.t 2))))
  (.br (.cons 1 (.op (some 18) (.c (.ld 1 false (.t 3)))) (.br (.cons 2 (.op (some 19) (.c (.ld 1 false (.t 4)))) (.Ba 3 (.op none (.st 6 (.t 2) (.t 17)))
  (.Ba 4 (.op none (.st 1 (.t 3) (.t 18)))
  (.Ba 5 (.op none (.st 1 (.t 4) (.t 19)))
  (.done))))
  (.cons 3 (.op none (.st 6 (.t 2) (.t 17))) (.br (.cons 2 (.op (some 19) (.c (.ld 1 false (.t 4)))) (.Ba 4 (.op none (.st 1 (.t 3) (.t 18)))
  (.Ba 5 (.op none (.st 1 (.t 4) (.t 19)))
  (.done)))
  (.cons 4 (.op none (.st 1 (.t 3) (.t 18))) (.br (.cons 2 (.op (some 19) (.c (.ld 1 false (.t 4)))) (.Ba 5 (.op none (.st 1 (.t 4) (.t 19)))
  (.done))
  (.nil)))
  (.nil))))
  (.nil))))
  (.cons 2 (.op (some 19) (.c (.ld 1 false (.t 4)))) (.br (.cons 1 (.op (some 18) (.c (.ld 1 false (.t 3)))) (.Ba 3 (.op none (.st 6 (.t 2) (.t 17)))
  (.Ba 4 (.op none (.st 1 (.t 3) (.t 18)))
  (.Ba 5 (.op none (.st 1 (.t 4) (.t 19)))
  (.done))))
  (.cons 3 (.op none (.st 6 (.t 2) (.t 17))) (.br (.cons 1 (.op (some 18) (.c (.ld 1 false (.t 3)))) (.Ba 4 (.op none (.st 1 (.t 3) (.t 18)))
  (.Ba 5 (.op none (.st 1 (.t 4) (.t 19)))
  (.done)))
  (.nil)))
  (.nil))))
  (.cons 3 (.op none (.st 6 (.t 2) (.t 17))) (.br (.cons 1 (.op (some 18) (.c (.ld 1 false (.t 3)))) (.br (.cons 2 (.op (some 19) (.c (.ld 1 false (.t 4)))) (.Ba 4 (.op none (.st 1 (.t 3) (.t 18)))
  (.Ba 5 (.op none (.st 1 (.t 4) (.t 19)))
  (.done)))
  (.cons 4 (.op none (.st 1 (.t 3) (.t 18))) (.br (.cons 2 (.op (some 19) (.c (.ld 1 false (.t 4)))) (.Ba 5 (.op none (.st 1 (.t 4) (.t 19)))
  (.done))
  (.nil)))
  (.nil))))
  (.cons 2 (.op (some 19) (.c (.ld 1 false (.t 4)))) (.br (.cons 1 (.op (some 18) (.c (.ld 1 false (.t 3)))) (.Ba 4 (.op none (.st 1 (.t 3) (.t 18)))
  (.Ba 5 (.op none (.st 1 (.t 4) (.t 19)))
  (.done)))
  (.nil)))
  (.nil))))
  (.nil)))))) [2,3,4] [])
 (.ret)) (.skip)))
 (.Eu [.op (some 20) (.c (.El 19 [] [(.t 2),(.t 3),(.t 4)]))] [0,2,3,4,5,20] 20
 (.seq (.rg [] [.op (some 21) (.IZ none),
  .op none (.DP (.AV []) (.t 21) (.AV [105,115,115,117,101,114]) (.fn 20)),
  .op none (.DP (.AV []) (.t 21) (.AV [117,110,105,116]) (.fn 21)),
  .op none (.DP (.AV []) (.t 21) (.AV [115,99,104,101,109,97]) (.fn 22)),
  .op none (.DP (.AV []) (.t 21) (.AV [100,101,114,105,118,101]) (.fn 23)),
  .op none (.DP (.AV []) (.t 21) (.AV [99,111,110,118,101,114,116]) (.fn 24)),
  .op none (.DP (.AV []) (.t 21) (.AV [112,117,114,112,111,115,101]) (.fn 25)),
  .op (some 22) (.c (.mv (.t 21))),
  .op (some 6) (.c (.mv (.t 22)))] [0,2,3,4,5,6] [2,3,4])
 (.seq (.rg [] [.op (some 23) (.c (.mv (.t 5))),
  .op (some 24) (.c (.mv (.t 0))),
  .op (some 25) (.c (.DO (.t 24))),
  .op (some 26) (.c (.Fs [.Ah,.int .i64 0,.agg [.Ah,.Ah,.Ah,.Ah,.Ah,.Ah]] [(0,(.t 23)),(1,(.t 25))])),
  .op (some 27) (.box 65 (.t 26)),
  .op (some 7) (.KZ (.t 27) (.t 27) [(9,1,[2,0]),(94,5,[2,1]),(72,6,[2,2]),(77,5,[2,3]),(80,5,[2,4]),(83,3,[2,5])])] [2,3,4,6,7] [2,3,4])
 (.seq (.block 0 (.loop [2,3,4,6,7] Y57))
 (.seq (.rg [] [.op (some 60) (.c (.mv (.t 7))),
  .op (some 61) (.c (.DT (.t 60))),
  .op (some 62) (.c (.Bs 2 2 (.t 61))),
  .op (some 63) (.KW 6 true (.t 62)),
  .op none (.st 6 (.t 2) (.t 63)),
  .op none (.st 1 (.t 3) (.int .i64 0)),
  .op none (.st 1 (.t 4) (.int .i64 0))] [2,3,4] [2,3,4])
 (.ret))))))))
def ok6:Rc prog 6 1 ir6 [.c 2 6 true,.c 3 1 false,.c 4 1 false]=true:=by kernel_rfl
def Y9o:Nat:=0x10450b8c5b35f02d08a874282c22012ad3c5b883000c22ad003004d65d0f204e13212105b003045c5b883000c2201204d1321210380010b105c65d0f204e04007e7d5069036020b02
def Ypb:Nat:=0x10b8237c7326802d08a00ca93099ba64ae48dc73883ba60e340e030530a9373a00e07f05b06e011c73883ba64ae04d00e07f0380100b105c00ca93065049adc04855500d0ceb02
def oo:Nat:=0x10b83ed02bb387e512800a0b829700a0d519e6690090c7008091a43008b6d0040c7
def oq:Nat:=0x10b505f0380ee0060ba07ec4d91600519e56c0582040421737381520e827305b122004a87b6103132b107004
def Ypc:Nat:=0x100006402a004
def ot:Nat:=0x10de02d0ee12c02e148bf43d21169e90d702f0ca005060
def oj:Nat:=0x118a02a0ee02900943c18602859e0290ca
def ou:Nat:=0x111b0afc7801025402d0b901706d0196c4065ba1a0e09b0afc781e300f0b9ba158d14403008f01706d0196c410300600e01a9f70060f6c781e300f0b9ba1a0e08f24700e01d09c01709100504e0160bd04d0150bd0030560ba048514a7e9ad0c805500204506f002
def oy:Nat:=0x190a02619905b08a7d622000f01d0740b87e8892a649271f00139bc0244be
def o9:Nat:=0x1055b16021022004192bb90e00110d70210ffb1601f27301437149501e071177b79045269003055c20002186554110acf028070
def nZ:Nat:=0x11733e4b7901c3bc01d0d9
def nc:Nat:=0x117301a01bae17e23b200703e03c0035547f90482413e732b
def ng:Nat:=0x117348500702f0163bc0170d9
def nh:Nat:=0x1173acd3700131550d70140ff
def mr:Nat:=0x117301904e02f0113bc895
def mu:Nat:=0x1173010002bfc248aa92fda481368ee00f32b
def mw:Nat:=0x105551400d39c01300602f00c3bc00d0d9
def tt:Nat:=0x1b7d00a236669b7355608cabe00520e094158
def Zoc:S:=zS [(zS [(zS [(zS [(zS [(zS [(zS [(zS [(zS [(zS [(zS [(zS [(zS [] Ypc),(zS [(zS [(zS [] Y9o),(zS [(zS [] Ypb)] oo)] oq)] ot)] oj)] ou)] oy)] o9)] nZ)] nc)] ng)] nh)] mr)] mu)] mw)] tt
def Ypd:Nat:=0x1040137c3a0dd13208c8650f315202812629500fad20033b9c1712204613408d0e808ca9a11b02fc52
def pD:Nat:=0x1bca0c236b02d0d9
def pE:Nat:=0x11739cf8920290275ad02500401a0d70280011441d9040b2d0267950263f3
def pF:Nat:=0x1173023024ae19ca2971480180d702100101974d37b3c500844a84f79501f3f3
def pG:Nat:=0x117301c34a2db5391869b50150d737a01774d04088c02f0187950183f3
def Ype:Nat:=0x10030b83ed015b380169d53fc
def pH:Nat:=0x118a0140ee01300988c3d252c0120d70130ca
def pI:Nat:=0x190a01036bb0e
def pJ:Nat:=0x17a3076b8a90c003368b0aba2
def pK:Nat:=0x19ac060016518006c39
def tu:Nat:=0x1b7dbab050076951
def Zod:S:=zS [(zS [(zS [(zS [(zS [(zS [] Ype),(zS [(zS [(zS [(zS [(zS [] Ypd)] pD)] pE)] pF)] pG)] pH)] pI)] pJ)] pK)] tu
def Ypf:Nat:=0x104002802b05602a0d002908c7b482e01012630600f0260430034e0c17a3b0d002208c02120e021c52
def pL:Nat:=0x1bca05a00e0d701f0d9
def pM:Nat:=0x117301c34a0020d05395ad9b501c0d737a01d74d11b02f0187950183f3
def oW:Nat:=0x190a01536b0160d9
def oX:Nat:=0x1173a0f3700121550d70130ff
def oY:Nat:=0x17a32cd02f0103bcb0e
def oZ:Nat:=0x17a3076b9e90c003211b0aba2
def oc:Nat:=0x19ac05601220700e1cb007c39
def tv:Nat:=0x1b7dbabab4951
def Zoe:S:=zS [(zS [(zS [(zS [(zS [(zS [(zS [(zS [(zS [] Ypf)] pL)] pM)] oW)] oX)] oY)] oZ)] oc)] tv
def Ypg:Nat:=0x104002b11605602d07d0bf0c208c99054096914400f0290434e118e01204805ca4102688f02508c02420e024c52
def od:Nat:=0x1bca09e00e0d70220d9
def og:Nat:=0x117336a01f36b0200d9
def oh:Nat:=0x1173ace8f63443b217f0032c473a24100001c32b
def oi:Nat:=0x117308e0db20d0193bc01a0d9
def pQ:Nat:=0x11739ee3707a58160120d20d71ca01f74d040c500137950133f3
def pR:Nat:=0x190a01036bb0e
def pT:Nat:=0x17a3002be690c1470030550c8ba2
def pU:Nat:=0x19ac0609710100127bb007c39
def dA:Nat:=0x18a5297958046062861951
def Zof:S:=zS [(zS [(zS [(zS [(zS [(zS [(zS [(zS [(zS [(zS [] Ypg)] od)] og)] oh)] oi)] pQ)] pR)] pT)] pU)] dA
def oM:S2:=zL [12] [] Y9w
def Y02:=(by cbv:oM=_)
def Yot:S2:=zL [12] [oM] r8
def Ynp:=(show Yot=_ from (λa=>(by cbv:zL [12] [a] r8=_)) oM)
def c0:Lb:=.pre (.rg [.op (some 2) (.alloc 30 (.agg [.Ah,.Ah,.Ah,.Ah,.Ah,.Ah])),.op (some 3) (.alloc 3 (.int .i64 0)),.op (some 4) (.alloc 31 (.int .i64 0))] [(0,(.a (.t 0))),(2,(.a (.t 2))),(3,(.a (.t 3))),(4,(.a (.t 4)))] [])
 (.pre (.rg [.An [] (.u (.ext (.t 0) 0) (.call 12 (.cons (.a (.t 0)) .nil))),.An [] (.u (.ext (.t 0) 2) (.call 12 (.cons (.a (.t 0)) .nil))),.An [] (.u (.ext (.t 0) 1) (.call 12 (.cons (.a (.t 0)) .nil))),.lt 13 [] (.u (.ext (.t 0) 1) (.call 12 (.cons (.a (.t 0)) .nil))),.op none (.st 1 (.t 3) (.t 13)),.lt 14 [] (.u (.ext (.t 0) 2) (.call 12 (.cons (.a (.t 0)) .nil))),.op none (.st 1 (.t 4) (.t 14))] [(0,(.a (.t 0))),(2,(.a (.t 2))),(3,(.a (.t 3))),(4,(.a (.t 4))),(5,(.u (.ext (.t 0) 0) (.call 12 (.cons (.a (.t 0)) .nil))))] [])
 (.pre (.seq (.rg [] [(0,(.a (.t 0))),(2,(.a (.t 2))),(3,(.a (.t 3))),(4,(.a (.t 4))),(5,(.a (.t 5))),(16,(.b (.Bl .neq (.t 0) (.t 1)) (.u (.ld 1 false (.t 0)) (.a (.t 4))) (.a (.int .i64 0))))] [])
 (.cond (.t 16) (.seq (.Gs (.Ba 0 (.op (some 17) (.c (.ld 6 true (.t 2))))
  (.br (.cons 1 (.op (some 18) (.c (.ld 1 false (.t 3)))) (.br (.cons 2 (.op (some 19) (.c (.ld 1 false (.t 4)))) (.Ba 3 (.op none (.st 6 (.t 2) (.t 17)))
  (.Ba 4 (.op none (.st 1 (.t 3) (.t 18)))
  (.Ba 5 (.op none (.st 1 (.t 4) (.t 19)))
  (.done))))
  (.cons 3 (.op none (.st 6 (.t 2) (.t 17))) (.br (.cons 2 (.op (some 19) (.c (.ld 1 false (.t 4)))) (.Ba 4 (.op none (.st 1 (.t 3) (.t 18)))
  (.Ba 5 (.op none (.st 1 (.t 4) (.t 19)))
  (.done)))
  (.cons 4 (.op none (.st 1 (.t 3) (.t 18))) (.br (.cons 2 (.op (some 19) (.c (.ld 1 false (.t 4)))) (.Ba 5 (.op none (.st 1 (.t 4) (.t 19)))
  (.done))
  (.nil)))
  (.nil))))
  (.nil))))
  (.cons 2 (.op (some 19) (.c (.ld 1 false (.t 4)))) (.br (.cons 1 (.op (some 18) (.c (.ld 1 false (.t 3)))) (.Ba 3 (.op none (.st 6 (.t 2) (.t 17)))
  (.Ba 4 (.op none (.st 1 (.t 3) (.t 18)))
  (.Ba 5 (.op none (.st 1 (.t 4) (.t 19)))
  (.done))))
  (.cons 3 (.op none (.st 6 (.t 2) (.t 17))) (.br (.cons 1 (.op (some 18) (.c (.ld 1 false (.t 3)))) (.Ba 4 (.op none (.st 1 (.t 3) (.t 18)))
  (.Ba 5 (.op none (.st 1 (.t 4) (.t 19)))
  (.done)))
  (.nil)))
  (.nil))))
  (.cons 3 (.op none (.st 6 (.t 2) (.t 17))) (.br (.cons 1 (.op (some 18) (.c (.ld 1 false (.t 3)))) (.br (.cons 2 (.op (some 19) (.c (.ld 1 false (.t 4)))) (.Ba 4 (.op none (.st 1 (.t 3) (.t 18)))
  (.Ba 5 (.op none (.st 1 (.t 4) (.t 19)))
  (.done)))
  (.cons 4 (.op none (.st 1 (.t 3) (.t 18))) (.br (.cons 2 (.op (some 19) (.c (.ld 1 false (.t 4)))) (.Ba 5 (.op none (.st 1 (.t 4) (.t 19)))
  (.done))
  (.nil)))
  (.nil))))
  (.cons 2 (.op (some 19) (.c (.ld 1 false (.t 4)))) (.br (.cons 1 (.op (some 18) (.c (.ld 1 false (.t 3)))) (.Ba 4 (.op none (.st 1 (.t 3) (.t 18)))
  (.Ba 5 (.op none (.st 1 (.t 4) (.t 19)))
  (.done)))
  (.nil)))
  (.nil))))
  (.nil)))))) [2,3,4] [])
 (.ret)) (.skip)))
 (.Eu [.op (some 20) (.c (.El 19 [] [(.t 2),(.t 3),(.t 4)]))] [(0,(.a (.t 0))),(2,(.a (.t 2))),(3,(.a (.t 3))),(4,(.a (.t 4))),(5,(.a (.t 5))),(20,(.a (.t 20)))] 20
 (.seq (.rg [.op (some 21) (.IZ none),.op none (.DP (.AV []) (.t 21) (.AV [105,115,115,117,101,114]) (.fn 20)),.op none (.DP (.AV []) (.t 21) (.AV [117,110,105,116]) (.fn 21)),.op none (.DP (.AV []) (.t 21) (.AV [115,99,104,101,109,97]) (.fn 22)),.op none (.DP (.AV []) (.t 21) (.AV [100,101,114,105,118,101]) (.fn 23)),.op none (.DP (.AV []) (.t 21) (.AV [99,111,110,118,101,114,116]) (.fn 24)),.op none (.DP (.AV []) (.t 21) (.AV [112,117,114,112,111,115,101]) (.fn 25))] [(0,(.a (.t 0))),(2,(.a (.t 2))),(3,(.a (.t 3))),(4,(.a (.t 4))),(5,(.a (.t 5))),(6,(.a (.t 21)))] [2,3,4])
 (.seq (.rg [.An [] (.u (.DO (.t 0)) (.a (.t 0))),.lt 25 [] (.u (.DO (.t 0)) (.a (.t 0))),.lt 23 [] (.a (.t 5)),.op (some 26) (.c (.Fs [.Ah,(.int .i64 0),(.agg [.Ah,.Ah,.Ah,.Ah,.Ah,.Ah])] [(0,(.t 23)),(1,(.t 25))])),.op (some 27) (.box 65 (.t 26)),.op (some 7) (.KZ (.t 27) (.t 27) [(9,1,[2,0]),(94,5,[2,1]),(72,6,[2,2]),(77,5,[2,3]),(80,5,[2,4]),(83,3,[2,5])])] [(2,(.a (.t 2))),(3,(.a (.t 3))),(4,(.a (.t 4))),(6,(.a (.t 6))),(7,(.a (.t 7)))] [2,3,4])
 (.seq (.block 0 (.loop [2,3,4,6,7] Yot))
 (.seq (.rg [.An [] (.u (.Bs 2 2 (.t 0)) (.u (.DT (.t 0)) (.a (.t 7)))),.lt 62 [] (.u (.Bs 2 2 (.t 0)) (.u (.DT (.t 0)) (.a (.t 7)))),.op (some 63) (.KW 6 true (.t 62)),.op none (.st 6 (.t 2) (.t 63)),.op none (.st 1 (.t 3) (.int .i64 0)),.op none (.st 1 (.t 4) (.int .i64 0))] [(2,(.a (.t 2))),(3,(.a (.t 3))),(4,(.a (.t 4)))] [2,3,4])
 (.ret))))))))
def lf6:ir6.Af [12]=some c0:=by kernel_rfl
def jc:S2:=.Gs (.Ba 0 (.op (some 53) (.c (.Bs 4 4 (.t 2))))
 (.Ba 2 (.op (some 55) (.c (.mv (.t 0))))
 (.br (.cons 1 (.op (some 54) (.c (.ld 1 false (.t 53)))) (.Ba 3 (.op (some 56) (.call 75 [(.t 55)]))
 (.Ba 4 (.op (some 57) (.Gk 11 [.agg [.AV [],.agg [.int .i64 0,.int .i64 0,.int .i64 0,.AV [],.int .i64 0,.Ah],.agg (List.replicate 4 (.int .i64 0))]] [(0,(.t 56))]))
 (.Ba 5 (.op (some 58) (.Dl 158 11 120 (.t 54) (.t 57)))
 (.Ba 6 (.op (some 59) (.c (.Bs 4 4 (.t 2))))
 (.Ba 7 (.op none (.st 1 (.t 59) (.t 58)))
 (.done))))))
 (.cons 3 (.op (some 56) (.call 75 [(.t 55)])) (.br (.cons 1 (.op (some 54) (.c (.ld 1 false (.t 53)))) (.Ba 4 (.op (some 57) (.Gk 11 [.agg [.AV [],.agg [.int .i64 0,.int .i64 0,.int .i64 0,.AV [],.int .i64 0,.Ah],.agg (List.replicate 4 (.int .i64 0))]] [(0,(.t 56))]))
 (.Ba 5 (.op (some 58) (.Dl 158 11 120 (.t 54) (.t 57)))
 (.Ba 6 (.op (some 59) (.c (.Bs 4 4 (.t 2))))
 (.Ba 7 (.op none (.st 1 (.t 59) (.t 58)))
 (.done)))))
 (.cons 4 (.op (some 57) (.Gk 11 [.agg [.AV [],.agg [.int .i64 0,.int .i64 0,.int .i64 0,.AV [],.int .i64 0,.Ah],.agg (List.replicate 4 (.int .i64 0))]] [(0,(.t 56))])) (.br (.cons 1 (.op (some 54) (.c (.ld 1 false (.t 53)))) (.Ba 5 (.op (some 58) (.Dl 158 11 120 (.t 54) (.t 57)))
 (.Ba 6 (.op (some 59) (.c (.Bs 4 4 (.t 2))))
 (.Ba 7 (.op none (.st 1 (.t 59) (.t 58)))
 (.done))))
 (.nil)))
 (.nil))))
 (.nil)))))) [0,2] []
def jd:S2:=zL [] [] Ypb
def Yr5:=(by cbv:jd=_)
def je:S2:=zL [] [jd] oo
def yL:=(show je=_ from (λa=>(by cbv:zL [] [a] oo=_)) jd)
def jf:S2:=zL [] [jc,je] oq
def yM:=(show jf=_ from (λ(a b:S2)=>(by cbv:zL [] [a,b] oq=_)) jc je)
def jg:S2:=zL [] [] Ypc
def yN:=(by cbv:jg=_)
def kA:S2:=zL [] [jf] ot
def Yr6:=(show kA=_ from (λa=>(by cbv:zL [] [a] ot=_)) jf)
def jb:S2:=zL [] [jg,kA] oj
def Yr4:=(show jb=_ from (λ(a b:S2)=>(by cbv:zL [] [a,b] oj=_)) jg kA)
def kB:S2:=zL [] [jb] ou
def Yr7:=(show kB=_ from (λa=>(by cbv:zL [] [a] ou=_)) jb)
def kC:S2:=zL [] [kB] oy
def Yr8:=(show kC=_ from (λa=>(by cbv:zL [] [a] oy=_)) kB)
def kD:S2:=zL [] [kC] o9
def Yr9:=(show kD=_ from (λa=>(by cbv:zL [] [a] o9=_)) kC)
def iW:S2:=zL [] [kD] nZ
def Yjj:=(show iW=_ from (λa=>(by cbv:zL [] [a] nZ=_)) kD)
def iX:S2:=zL [] [iW] nc
def Yjk:=(show iX=_ from (λa=>(by cbv:zL [] [a] nc=_)) iW)
def iY:S2:=zL [] [iX] ng
def Yjl:=(show iY=_ from (λa=>(by cbv:zL [] [a] ng=_)) iX)
def iZ:S2:=zL [] [iY] nh
def Yjm:=(show iZ=_ from (λa=>(by cbv:zL [] [a] nh=_)) iY)
def ia:S2:=zL [] [iZ] mr
def Yjn:=(show ia=_ from (λa=>(by cbv:zL [] [a] mr=_)) iZ)
def ib:S2:=zL [] [ia] mu
def Yjo:=(show ib=_ from (λa=>(by cbv:zL [] [a] mu=_)) ia)
def ic:S2:=zL [] [ib] mw
def Yjp:=(show ic=_ from (λa=>(by cbv:zL [] [a] mw=_)) ib)
def Zqt:S2:=zL [] [ic] tt
def Zu8:=(show Zqt=_ from (λa=>(by cbv:zL [] [a] tt=_)) ic)
def Z0q:w_P prog 22 1 Zoc [] [] Zqt:=w_p (by kernel_rfl)
def kE:S2:=zL [] [] Ypd
def Ysb:=(by cbv:kE=_)
def kF:S2:=zL [] [kE] pD
def Ysc:=(show kF=_ from (λa=>(by cbv:zL [] [a] pD=_)) kE)
def kG:S2:=zL [] [kF] pE
def Ysd:=(show kG=_ from (λa=>(by cbv:zL [] [a] pE=_)) kF)
def kH:S2:=zL [] [kG] pF
def Yse:=(show kH=_ from (λa=>(by cbv:zL [] [a] pF=_)) kG)
def kI:S2:=zL [] [kH] pG
def Ysf:=(show kI=_ from (λa=>(by cbv:zL [] [a] pG=_)) kH)
def kJ:S2:=zL [] [] Ype
def yO:=(by cbv:kJ=_)
def kK:S2:=zL [] [kJ,kI] pH
def Ysg:=(show kK=_ from (λ(a b:S2)=>(by cbv:zL [] [a,b] pH=_)) kJ kI)
def kL:S2:=zL [] [kK] pI
def Ysh:=(show kL=_ from (λa=>(by cbv:zL [] [a] pI=_)) kK)
def kM:S2:=zL [] [kL] pJ
def Ysi:=(show kM=_ from (λa=>(by cbv:zL [] [a] pJ=_)) kL)
def kN:S2:=zL [] [kM] pK
def Ysj:=(show kN=_ from (λa=>(by cbv:zL [] [a] pK=_)) kM)
def Zqu:S2:=zL [] [kN] tu
def Zu9:=(show Zqu=_ from (λa=>(by cbv:zL [] [a] tu=_)) kN)
def Z0r:w_P prog 23 1 Zod [] [] Zqu:=w_p (by kernel_rfl)
def kO:S2:=zL [] [] Ypf
def Ysk:=(by cbv:kO=_)
def kP:S2:=zL [] [kO] pL
def Ysl:=(show kP=_ from (λa=>(by cbv:zL [] [a] pL=_)) kO)
def kQ:S2:=zL [] [kP] pM
def Ysm:=(show kQ=_ from (λa=>(by cbv:zL [] [a] pM=_)) kP)
def kR:S2:=zL [] [kQ] oW
def Ysn:=(show kR=_ from (λa=>(by cbv:zL [] [a] oW=_)) kQ)
def kS:S2:=zL [] [kR] oX
def Yso:=(show kS=_ from (λa=>(by cbv:zL [] [a] oX=_)) kR)
def kT:S2:=zL [] [kS] oY
def Ysp:=(show kT=_ from (λa=>(by cbv:zL [] [a] oY=_)) kS)
def kU:S2:=zL [] [kT] oZ
def Ysq:=(show kU=_ from (λa=>(by cbv:zL [] [a] oZ=_)) kT)
def kV:S2:=zL [] [kU] oc
def Ysr:=(show kV=_ from (λa=>(by cbv:zL [] [a] oc=_)) kU)
def Zqv:S2:=zL [] [kV] tv
def Zva:=(show Zqv=_ from (λa=>(by cbv:zL [] [a] tv=_)) kV)
def Z0s:w_P prog 24 1 Zoe [] [] Zqv:=w_p (by kernel_rfl)
def kW:S2:=zL [] [] Ypg
def Yss:=(by cbv:kW=_)
def kX:S2:=zL [] [kW] od
def Yst:=(show kX=_ from (λa=>(by cbv:zL [] [a] od=_)) kW)
def kY:S2:=zL [] [kX] og
def Ysu:=(show kY=_ from (λa=>(by cbv:zL [] [a] og=_)) kX)
def kZ:S2:=zL [] [kY] oh
def Ysv:=(show kZ=_ from (λa=>(by cbv:zL [] [a] oh=_)) kY)
def j0:S2:=zL [] [kZ] oi
def Ysw:=(show j0=_ from (λa=>(by cbv:zL [] [a] oi=_)) kZ)
def j1:S2:=zL [] [j0] pQ
def Ysx:=(show j1=_ from (λa=>(by cbv:zL [] [a] pQ=_)) j0)
def j2:S2:=zL [] [j1] pR
def Ysy:=(show j2=_ from (λa=>(by cbv:zL [] [a] pR=_)) j1)
def j3:S2:=zL [] [j2] pT
def Ysz:=(show j3=_ from (λa=>(by cbv:zL [] [a] pT=_)) j2)
def j4:S2:=zL [] [j3] pU
def Ys0:=(show j4=_ from (λa=>(by cbv:zL [] [a] pU=_)) j3)
def Zqw:S2:=zL [] [j4] dA
def Zvb:=(show Zqw=_ from (λa=>(by cbv:zL [] [a] dA=_)) j4)
def Z0t:w_P prog 25 1 Zof [] [] Zqw:=w_p (by kernel_rfl)
section
attribute [local simp] CZ CF
attribute [local simp ↓] ql qn qo qi qh qj qk qm wg zy we wh wc zt zu zr zx zw qq qp qy qz zn zb qx qr zo qw qv qt zd zi zf zj zl zm wo wj wq wp qb qa qd qc qe qg qf zq zp
section
variable {P:BE} (hPp:P.p=prog) (hI:Ez P) {ts:List Ay} {en:Int} {s:Bm} (hs:JO s) {K:BQ->AE->Prop}
include hPp hI hs
theorem Yif(h:PS K en (Jc s ts)):Aa P 24 [.ptr 4 []] (GW en ts s) K:=by
 refine Ae hPp AT Z0s.1 Z0s.2 A6.nil λ_ c=>?_;simp[Zva,hI.AX,hI.AO,hI.As,hI.AQ,hI.A8];refine N9 hPp (S:=Zn s) (by simp) (by simp) _ 16 (PS.bind h (λts' e h=>?_) (λa ts' b h=>?_))
 ·simp;exact Xt (h s) (by simp) (by simp[AF])
 simp[hI.AX,hI.AO,hI.As,hI.AQ,hI.A8,Ysr];refine W1 hPp (S:=Zn s) (by simp) (by simp) _ (PS.bind h (λts' e h=>?_) (λa ts' b h=>?_))
 ·simp;exact Xt (h s) (by simp) (by simp[AF])
 simp[hI.AX,hI.AO,hI.As,hI.AQ,hI.A8,Ysq];refine Z3 hPp (S:=Zn s) (by simp) (by simp) (PS.bind h (λts' e h=>?_) (λa ts' b h=>?_))
 ·simp;exact Xt (h s) (by simp) (by simp[AF])
 simp[hI.AX,hI.AO,hI.As,hI.AQ,hI.A8,Ysp];refine W1 hPp (S:=Zn s) (by simp) (by simp) _ (PS.bind h (λts' e h=>?_) (λa ts' b h=>?_))
 ·simp;exact Xt (h s) (by simp) (by simp[AF])
 simp[hI.AX,hI.AO,hI.As,hI.AQ,hI.A8,Yso];refine Z3 hPp (S:=Zn s) (by simp) (by simp) (PS.bind h (λts' e h=>?_) (λa ts' b h=>?_))
 ·simp;exact Xt (h s) (by simp) (by simp[AF])
 simp[hI.AX,hI.AO,hI.As,hI.AQ,hI.A8,Ysn];refine Y1 hPp (S:=Zn s) (by simp) (by simp) _ (PS.bind h (λts' e h=>?_) (λa ts' b h=>?_))
 ·simp;exact Xt (h s) (by simp) (by simp[AF])
 simp[hI.AX,hI.AO,hI.As,hI.AQ,hI.A8,Ysm];refine Tc hPp (ts:=ts') (en:=en) (S:=Zn s) (by simp) _ 12 (by simp) ?_;simp;refine Yzy hPp (S:=Zn s) (by simp) (by simp) (enc:=DE.enc) (by simp) (Xq 1 []) I4 11 (by decide) _ _ [] _ [.ptr 4 []] [] (J1 hPp).2.2.1 (J1 hPp).2.2.2.2.2.2.1 14 (by simp) (λts o K h=>?_) (λts o K h=>?_) (PS.bind h (λts' e h=>?_) (λa ts' b h=>?_))
 ·exact TP hPp (S:=Zn s) (p:=4) (ts:=ts) (en:=en) (t:=[]) (by simp) (by simp) (by simp) (by simp) (by simpa using h)
 ·exact Za8 hPp (S:=Zn s) (by simp) (p:=4) (ts:=ts) (en:=en) (by simp) hI h
 ·simp;exact Xt (h s) (by simp) (by simp[AF])
 simp[hI.AX,hI.AO,hI.As,hI.AQ,hI.A8,Ysl];refine Y1 hPp (S:=Zn s) (by simp) (by simp) _ (PS.bind h (λts' e h=>?_) (λa ts' b h=>?_))
 ·simp;exact Xt (h s) (by simp) (by simp[AF])
 simp[hI.AX,hI.AO,hI.As,hI.AQ,hI.A8,Ysk];refine⟨by have:=hs.AJ;omega,?_⟩;exact Xt (s:={s with AJ:=s.AJ++[⟨_,_,_⟩] }) h (by simp) (by simp[AF];rfl)
end
attribute [local simp] CZ CF
attribute [local simp ↓] ql qn qo qi qh qj qk qm wg zy we wh wc zt zu zr zx zw qq qp qy qz zn zb qx qr zo qw qv qt zd zi zf zj zl zm wo wj wq wp qb qa qd qc qe qg qf zq zp
section
variable {P:BE} (hPp:P.p=prog) (hI:Ez P) {ts:List Ay} {en:Int} {s:Bm} (hs:JO s) {K:BQ->AE->Prop}
include hPp hI hs
theorem Yik(h:PS K en (Jt s ts)):Aa P 25 [.ptr 4 []] (GW en ts s) K:=by
 refine Ae hPp AT Z0t.1 Z0t.2 A6.nil λ_ c=>?_;simp[Zvb,hI.AX,hI.AO,hI.As,hI.AQ,hI.A8];refine N9 hPp (S:=Zn s) (by simp) (by simp) _ 8 (PS.bind h (λts' e h=>?_) (λa ts' b h=>?_))
 ·simp;exact Xt (h s) (by simp) (by simp[AF])
 simp[hI.AX,hI.AO,hI.As,hI.AQ,hI.A8,Ys0];refine W1 hPp (S:=Zn s) (by simp) (by simp) _ (PS.bind h (λts' e h=>?_) (λa ts' b h=>?_))
 ·simp;exact Xt (h s) (by simp) (by simp[AF])
 simp[hI.AX,hI.AO,hI.As,hI.AQ,hI.A8,Ysz];refine Z3 hPp (S:=Zn s) (by simp) (by simp) (PS.bind h (λts' e h=>?_) (λa ts' b h=>?_))
 ·simp;exact Xt (h s) (by simp) (by simp[AF])
 simp[hI.AX,hI.AO,hI.As,hI.AQ,hI.A8,Ysy];refine Y1 hPp (S:=Zn s) (by simp) (by simp) _ (PS.bind h (λts' e h=>?_) (λa ts' b h=>?_))
 ·simp;exact Xt (h s) (by simp) (by simp[AF])
 simp[hI.AX,hI.AO,hI.As,hI.AQ,hI.A8,Ysx];refine Tc hPp (ts:=ts') (en:=en) (S:=Zn s) (by simp) _ 12 (by simp) ?_;simp;refine Yz0 hPp (S:=Zn s) (by simp) (by simp) (enc:=Fz.enc) (by simp) (Xq 1 [109,97,121]) K6 32 (by decide) _ _ [] _ [.ptr 4 []] [] (J1 hPp).2.2.1 (J1 hPp).2.2.2.2.2.2.2 14 (by simp) (λts o K h=>?_) (λts o K h=>?_) (PS.bind h (λts' e h=>?_) (λa ts' b h=>?_))
 ·exact TP hPp (S:=Zn s) (p:=4) (ts:=ts) (en:=en) (t:=[109,97,121]) (by simp) (by simp) (by simp) (by simp) (by simpa using h)
 ·exact Znh hPp (S:=Zn s) (by simp) (p:=4) (ts:=ts) (en:=en) (by simp) h
 ·simp;exact Xt (h s) (by simp) (by simp[AF])
 simp[hI.AX,hI.AO,hI.As,hI.AQ,hI.A8,Ysw];refine W1 hPp (S:=Zn s) (by simp) (by simp) _ (PS.bind h (λts' e h=>?_) (λa ts' b h=>?_))
 ·simp;exact Xt (h s) (by simp) (by simp[AF])
 simp[hI.AX,hI.AO,hI.As,hI.AQ,hI.A8,Ysv];refine Wd hPp (S:=Zn s) (by simp) (by simp) _ _ (PS.bind h (λts' e h=>?_) (λa ts' b h=>?_))
 ·simp;exact Xt (h s) (by simp) (by simp[AF])
 simp[hI.AX,hI.AO,hI.As,hI.AQ,hI.A8,Ysu];refine Y1 hPp (S:=Zn s) (by simp) (by simp) _ (PS.bind h (λts' e h=>?_) (λa ts' b h=>?_))
 ·simp;exact Xt (h s) (by simp) (by simp[AF])
 simp[hI.AX,hI.AO,hI.As,hI.AQ,hI.A8,Yst];refine Y1 hPp (S:=Zn s) (by simp) (by simp) _ (PS.bind h (λts' e h=>?_) (λa ts' b h=>?_))
 ·simp;exact Xt (h s) (by simp) (by simp[AF])
 simp[hI.AX,hI.AO,hI.As,hI.AQ,hI.A8,Yss];refine⟨by have:=hs.AI;omega,?_⟩;exact Xt (s:={s with AI:=s.AI++[⟨_,_,_⟩] }) h (by simp) (by simp[AF];rfl)
end
attribute [local simp] CZ CF
attribute [local simp ↓] ql qn qo qi qh qj qk qm wg zy we wh wc zt zu zr zx zw qq qp qy qz zn zb qx qr zo qw qv qt zd zi zf zj zl zm wo wj wq wp qb qa qd qc qe qg qf zq zp
section
variable {P:BE} (hPp:P.p=prog) (hI:Ez P) {ts:List Ay} {en:Int} {s:Bm} (hs:JO s) {K:BQ->AE->Prop}
include hPp hI hs
theorem Za9(h:PS K en (O9 s ts)):Aa P 23 [.ptr 4 []] (GW en ts s) K:=by
 refine Ae hPp AT Z0r.1 Z0r.2 A6.nil λ_ d=>?_;simp[Zu9,hI.AX,hI.AO,hI.As,hI.AQ,hI.A8];refine N9 hPp (S:=Zn s) (by simp) (by simp) _ 16 (PS.bind h (λts' e h=>?_) (λa ts' b h=>?_))
 ·simp;exact Xt (h s) (by simp) (by simp[AF])
 simp[hI.AX,hI.AO,hI.As,hI.AQ,hI.A8,Ysj];refine W1 hPp (S:=Zn s) (by simp) (by simp) _ (PS.bind h (λts' e h=>?_) (λa ts' b h=>?_))
 ·simp;exact Xt (h s) (by simp) (by simp[AF])
 simp[hI.AX,hI.AO,hI.As,hI.AQ,hI.A8,Ysi];refine Z3 hPp (S:=Zn s) (by simp) (by simp) (PS.bind h (λts' e h=>?_) (λa ts' b h=>?_))
 ·simp;exact Xt (h s) (by simp) (by simp[AF])
 simp[hI.AX,hI.AO,hI.As,hI.AQ,hI.A8,Ysh];refine Y1 hPp (S:=Zn s) (by simp) (by simp) _ (PS.bind h (λts' e h=>?_) (λa ts' b h=>?_))
 ·simp;exact Xt (h s) (by simp) (by simp[AF])
 simp[hI.AX,hI.AO,hI.As,hI.AQ,hI.A8,Ysg];refine Mu hPp (S:=Zn s) (ts:=ts') (en:=en) (by simp) (by simp) _ _ ?_;cases c:Xq 1 [102,114,111,109] ts' with
 |false=>
  simp only[Ex,c,BY,CR]at h;simp[yO];refine U5 hPp (S:=Zn s) (ts:=ts') (en:=en) (by simp) (by simp) _ ?_;simp;exact Xt (h s) (by simp) (by simp[AF])
 |true=>
  simp only[Ex,c,CP]at h;simp[yO,Ysf];refine Tc hPp (ts:=ts') (en:=en) (S:=Zn s) (by simp) _ 12 (by simp) ?_;simp;refine Yzx hPp (S:=Zn s) (by simp) (by simp) (enc:=DC.enc) (by simp) (Xq 1 [102,114,111,109]) Hk 3 (by decide) _ _ [] _ [.ptr 4 []] [] (J1 hPp).2.2.1 (J1 hPp).2.2.2.1 14 (by simp) (λts o K h=>?_) (λts o K h=>?_) (PS.bind h (λts' e h=>?_) (λa ts' b h=>?_))
  ·exact TP hPp (S:=Zn s) (p:=4) (ts:=ts) (en:=en) (t:=[102,114,111,109]) (by simp) (by simp) (by simp) (by simp) (by simpa using h)
  ·exact Za6 hPp (S:=Zn s) (by simp) (p:=4) (ts:=ts) (en:=en) (by simp) h
  ·simp;exact Xt (h s) (by simp) (by simp[AF])
  simp[hI.AX,hI.AO,hI.As,hI.AQ,hI.A8,Yse];refine Tc hPp (ts:=ts') (en:=en) (S:=Zn s) (by simp) _ 14 (by simp) ?_;simp;refine Yzw hPp (S:=Zn s) (by simp) (by simp) (enc:=DJ.enc) (by simp) (Xq 1 [119,104,101,114,101]) Kw 8 (by decide) _ _ [] _ [.ptr 4 []] [] (J1 hPp).2.2.1 (J1 hPp).2.2.2.2.1 16 (by simp) (λts o K h=>?_) (λts o K h=>?_) (PS.bind h (λts' e h=>?_) (λa ts' b h=>?_))
  ·exact TP hPp (S:=Zn s) (p:=4) (ts:=ts) (en:=en) (t:=[119,104,101,114,101]) (by simp) (by simp) (by simp) (by simp) (by simpa using h)
  ·exact Yz3 hPp (S:=Zn s) (by simp) (p:=4) (ts:=ts) (en:=en) (by simp) hI h
  ·simp;exact Xt (h s) (by simp) (by simp[AF])
  simp[hI.AX,hI.AO,hI.As,hI.AQ,hI.A8,Ysd];refine Tc hPp (ts:=ts') (en:=en) (S:=Zn s) (by simp) _ 16 (by simp) ?_;simp;refine Yz1 hPp (S:=Zn s) (by simp) (by simp) (enc:=DK.enc) (by simp) (Xq 1 [115,101,116]) K7 11 (by decide) _ _ [] _ [.ptr 4 []] [] (J1 hPp).2.2.1 (J1 hPp).2.2.2.2.2.1 18 (by simp) (λts o K h=>?_) (λts o K h=>?_) (PS.bind h (λts' e h=>?_) (λa ts' b h=>?_))
  ·exact TP hPp (S:=Zn s) (p:=4) (ts:=ts) (en:=en) (t:=[115,101,116]) (by simp) (by simp) (by simp) (by simp) (by simpa using h)
  ·exact Zni hPp (S:=Zn s) (by simp) (p:=4) (ts:=ts) (en:=en) (by simp) hI h
  ·simp;exact Xt (h s) (by simp) (by simp[AF])
  simp[hI.AX,hI.AO,hI.As,hI.AQ,hI.A8,Ysc];refine Y1 hPp (S:=Zn s) (by simp) (by simp) _ (PS.bind h (λts' e h=>?_) (λa ts' b h=>?_))
  ·simp;exact Xt (h s) (by simp) (by simp[AF])
  simp[hI.AX,hI.AO,hI.As,hI.AQ,hI.A8,Ysb];refine⟨by have:=hs.AP;omega,?_⟩;exact Xt (s:={s with AP:=s.AP++[⟨_,_,_,_⟩] }) h (by simp) (by simp[AF];rfl)
end
attribute [local simp] CZ CF
attribute [local simp ↓] ql qn qo qi qh qj qk qm wg zy we wh wc zt zu zr zx zw qq qp qy qz zn zb qx qr zo qw qv qt zd zi zf zj zl zm wo wj wq wp qb qa qd qc qe qg qf zq zp
def Y2q{e f:Type}{c:List Ay->Bool}{a b:M e}{g:e->M f}{d:List Ay}(h:c d=true):(Ex c a b >>= g) d=(a >>= g) d:=by simp only[Xh,Ex,h,CP]
def Y2p{e f:Type}{c:List Ay->Bool}{a b:M e}{g:e->M f}{d:List Ay}(h:c d=false):(Ex c a b >>= g) d=(b >>= g) d:=by simp_all[Xh,Ex,CR,BY]
def Rs{e g:Type}{m:M e}{f:e->M g}{d ts':List Ay}{b:g}(h:(m >>= f) d=.ok b ts'):∃a c,m d=.ok a c/\f a c=.ok b ts':=by
 grind[Xh]
def X5n{f:Field}{g ts':List Ay}(h:Mr g=.ok f ts'):∃a b c d,f.AQ=[a,b,c,d]:=by
 obtain⟨_,_,_,h⟩:=Rs h;obtain⟨_,_,_,h⟩:=Rs h;obtain⟨_,_,_,h⟩:=Rs h;obtain⟨_,_,_,h⟩:=Rs h;obtain⟨w,_,e,h⟩:=Rs h;obtain⟨_,_,_,h⟩:=Rs h;cases h;exact eA e
def Xu5{f:Field}{g ts':List Ay}(h:Mr g=.ok f ts'):f.enc.shape=.node [.leaf,.node [.leaf,.leaf,.leaf,.leaf,.leaf,.leaf],.node [.leaf,.leaf,.leaf,.leaf]]:=by
 obtain⟨a,b,c,d,e⟩:=X5n h;simp[Field.enc,e]
def Xrd(d:Bx):d.enc.shape=.node [.leaf,.leaf,.leaf,.leaf]:=by simp[Bx.enc]
section
variable {P:BE} (hPp:P.p=prog) (hI:Ez P) {ts:List Ay} {en:Int} {s:Bm} (hs:JO s) {K:BQ->AE->Prop}
include hPp hI hs
theorem Ynm(h:PS K en (PG s ts)):Aa P 22 [.ptr 4 []] (GW en ts s) K:=by
 refine Ae hPp AT Z0q.1 Z0q.2 A6.nil λ_ H=>?_;simp[Zu8,hI.AX,hI.AO,hI.As,hI.AQ,hI.A8];refine N9 hPp (S:=Zn s) (by simp) (by simp) _ 16 (PS.bind h (λts' e h=>?_) (λa ts' b h=>?_))
 ·simp;exact Xt (h s) (by simp) (by simp[AF])
 simp[hI.AX,hI.AO,hI.As,hI.AQ,hI.A8,Yjp];refine W1 hPp (S:=Zn s) (by simp) (by simp) _ (PS.bind h (λts' e h=>?_) (λa ts' b h=>?_))
 ·simp;exact Xt (h s) (by simp) (by simp[AF])
 simp[hI.AX,hI.AO,hI.As,hI.AQ,hI.A8,Yjo];refine Z3 hPp (S:=Zn s) (by simp) (by simp) (PS.bind h (λts' e h=>?_) (λa ts' b h=>?_))
 ·simp;exact Xt (h s) (by simp) (by simp[AF])
 simp[hI.AX,hI.AO,hI.As,hI.AQ,hI.A8,Yjn];refine W1 hPp (S:=Zn s) (by simp) (by simp) _ (PS.bind h (λts' e h=>?_) (λa ts' b h=>?_))
 ·simp;exact Xt (h s) (by simp) (by simp[AF])
 simp[hI.AX,hI.AO,hI.As,hI.AQ,hI.A8,Yjm];refine Z3 hPp (S:=Zn s) (by simp) (by simp) (PS.bind h (λts' e h=>?_) (λa ts' b h=>?_))
 ·simp;exact Xt (h s) (by simp) (by simp[AF])
 simp[hI.AX,hI.AO,hI.As,hI.AQ,hI.A8,Yjl];refine W1 hPp (S:=Zn s) (by simp) (by simp) _ (PS.bind h (λts' e h=>?_) (λa ts' b h=>?_))
 ·simp;exact Xt (h s) (by simp) (by simp[AF])
 simp[hI.AX,hI.AO,hI.As,hI.AQ,hI.A8,Yjk];refine Wd hPp (S:=Zn s) (by simp) (by simp) _ _ (PS.bind h (λts' e h=>?_) (λa ts' b h=>?_))
 ·simp;exact Xt (h s) (by simp) (by simp[AF])
 simp[hI.AX,hI.AO,hI.As,hI.AQ,hI.A8,Yjj];refine W1 hPp (S:=Zn s) (by simp) (by simp) _ (PS.bind h (λts' e h=>?_) (λa ts' b h=>?_))
 ·simp;exact Xt (h s) (by simp) (by simp[AF])
 simp[hI.AX,hI.AO,hI.As,hI.AQ,hI.A8,Yr9];refine Xtr hPp (S:=Zn s) (by simp) (by simp) hI (PS.bind h (λts' e h=>?_) (λa ts' b h=>?_))
 ·exact Xt (h s) (by simp) (by simp[AF])
 obtain⟨z,F,G,w4,rfl⟩:=eA b;simp[Yr8];refine Y1 hPp (S:=Zn s) (by simp) (by simp) _ (PS.bind h (λts' e h=>?_) (λa ts' b h=>?_))
 ·simp;exact Xt (h s) (by simp) (by simp[AF])
 simp[hI.AX,hI.AO,hI.As,hI.AQ,hI.A8,Yr7];have CG:∀(ts':List Ay)(e:Int),(∀s,K (.panic (.d (HN en ts' e))) (GW en ts' s))->∀(o p q r:Ob),Yh 11 (K (.panic (.d (HN en ts' e)))) [.d (HN en ts' e)] ((14,o)::(13,p)::(12,q)::(11,r)::GW en ts' s):=λts' e h o p q r=>Xt (h s) (by simp) (by simp[AF]);refine Aw.go (ι:=Be×List Ay) (λ_=>[(0,.ptr 4 []),(2,.ptr 11 [])])
  (λj=>(14,.BO 162 4 (j.1.AU.map Bx.enc))::(13,.BO 158 11 (j.1.AL.map Field.enc))::(12,.box 158 (.d (Field.enc ⟨[115,101,108,102],.Cz,[z,F,G,w4]⟩)))::(11,.box 72 (.agg [.d (.AV j.1.name),.d (.AV j.1.Dy),.d (iD 0),.d (iD j.1.BL),.sl 13 j.1.AL.length,.sl 14 j.1.AU.length]))::GW en j.2 s)
  (λj=>1<=j.1.AL.length/\j.1.AL.length<=12/\j.1.AU.length<=8/\PS K en ((I5 (22-(j.1.AL.length+j.1.AU.length)) j.1 >>= λx=>pure {s with AB:=s.AB++[x] }) j.2)) (λj=>20-(j.1.AL.length+j.1.AU.length)) (⟨_,_,_,[⟨_,_,_⟩],[]⟩,_) ⟨by simp,by simp,by simp,h⟩ (by simp) (by simp[Field.enc,B6.enc]) ?_
 clear h;rintro⟨x,y⟩ ⟨c,u,t,h⟩ R m w J g;dsimp only at c u t h m;obtain⟨n,v⟩:∃n,22-(x.AL.length+x.AU.length)=n+1:=⟨21-(x.AL.length+x.AU.length),by omega⟩
 rw[v,I5,Yc]at h;simp[Yr4];refine Z2 hPp (S:=Zn s) (by simp) (by simp) _ _ (PS.bind h (λts' e h=>?_) (λa ts' b h=>?_))
 ·refine g _ _ _ ?_;exact CG _ _ h _ _ _ _
 cases a with
 |true=>
  simp[yN];refine w _ _ _ ?_;simp;exact⟨by have:=hs.AB;omega,Xt (s:={s with AB:=s.AB++[x] }) h (by simp) (by simp[AF];rfl)⟩
 |false=>
  simp only[BY,CR]at h;simp[yN,Yr6];refine Mu hPp (S:=Zn s) (ts:=ts') (en:=en) (by simp) (by simp) _ _ ?_;cases i:Xq 1 [102,105,101,108,100] ts' with
  |true=>
   rw[Y2q i,Yc]at h;simp[yM];refine N9 hPp (S:=Zn s) (by simp) (by simp) _ 12 (PS.bind h (λts' e h=>?_) (λa ts' b h=>?_))
   ·refine g _ _ _ ?_;exact CG _ _ h _ _ _ _
   have l:x.AL.length<12:=by
    simp only[V1]at b;split at b
    ·cases b
    ·omega
   rw[Yc]at h;simp[jc];refine⟨?_,?_⟩
   all_goals
    refine Yzu hPp (S:=Zn s) (by simp) (by simp) hI (PS.bind h (λts' e h=>?_) (λa ts' b h=>?_))
    ·refine g _ _ _ ?_;exact CG _ _ h _ _ _ _
    have f:=Xu5 b;simp[f];refine⟨by omega,?_⟩;refine m [] ({x with AL:=x.AL++[a] },ts') _ _ ⟨by first|exact c|simp,by simp;omega,by omega,?_⟩ (by simp;omega) (by simp) (by simp ) (by simp ) (by simp[Zp]);simp;rw[show 22-(x.AL.length+1+x.AU.length)=n by omega];exact h
  |false=>
   rw[Y2p i]at h;simp[yM];refine Mu hPp (S:=Zn s) (ts:=ts') (en:=en) (by simp) (by simp) _ _ ?_;cases k:Xq 1 [100,101,112,101,110,100] ts' with
   |false=>
    rw[Y2p k]at h;simp[yL];refine U5 hPp (S:=Zn s) (ts:=ts') (en:=en) (by simp) (by simp) _ ?_;refine g _ _ _ ?_;exact CG _ _ h _ _ _ _
   |true=>
    rw[Y2q k,Yc]at h;simp[yL];refine N9 hPp (S:=Zn s) (by simp) (by simp) _ 8 (PS.bind h (λts' e h=>?_) (λa ts' b h=>?_))
    ·refine g _ _ _ ?_;exact CG _ _ h _ _ _ _
    have l:x.AU.length<8:=by
     simp only[V1]at b;split at b
     ·cases b
     ·omega
    rw[Yc]at h;simp[Yr5];refine⟨?_,?_⟩
    all_goals
     refine Ynk hPp (S:=Zn s) (by simp) (by simp) (PS.bind h (λts' e h=>?_) (λa ts' b h=>?_))
     ·refine g _ _ _ ?_;exact CG _ _ h _ _ _ _
     have f:=Xrd a;simp[f];refine⟨by omega,?_⟩;refine m [] ({x with AU:=x.AU++[a] },ts') _ _ ⟨by first|exact c|simp,by omega,by simp;omega,?_⟩ (by simp;omega) (by simp) (by simp ) (by simp ) (by simp[Zp]);simp;rw[show 22-(x.AL.length+(x.AU.length+1))=n by omega];exact h
end
end
def R.Ng{a:Type}:R a->List Ay
|.ok _ r=>r
|.B0 r _=>r
def R.Mb{a:Type}:R a->Prop
|.ok _ r=>r=[]
|.B0 r _=>r=[]
def R.map{b:Type}(g:Ay->Ay):R b->R b
|.ok a r=>.ok a (r.map g)
|.B0 r e=>.B0 (r.map g) e
def Ja{f:Type}(m:M f)(d b:List Ay):Prop:=match m (d++b) with
|.ok a r=>(∃c,r=c++b/\m d=.ok a c)\/(r.length<b.length/\(m d).Mb)
|.B0 r e=>(∃c,c≠[]/\r=c++b/\m d=.B0 c e)\/(r.length<=b.length/\(m d).Mb)
def Mv(g:Ay->Ay):Prop:=∀t,(g t).kind=t.kind/\(g t).text=t.text/\(g t).n=t.n
structure Bb{α:Type}(m:M α):Prop where
 MY:∀ts,(m ts).Ng <:+ ts
 P8:∀pre post,Ja m pre post
 mv:∀g,Mv g->∀ts,m (ts.map g)=(m ts).map g
def Qj{c:Type}(m:M c):Prop:=∀b a r,m b=.ok a r->r.length<b.length
section
variable {α β:Type}
theorem Bb.ok{m:M α}(h:Bb m){b r:List Ay}{a:α}(e:m b=.ok a r):r <:+ b:=by have:=h.MY b;rw[e]at this;exact this
theorem Bb.er{m:M α}(h:Bb m){a r:List Ay}{b:Int}(e:m a=.B0 r b):r <:+ a:=by have:=h.MY a;rw[e]at this;exact this
theorem Bb.FT{m:M α}(h:Bb m):(m []).Mb:=by
 have:=h.MY [];cases e:m []with
 |ok a r=>rw[e]at this;exact List.suffix_nil.1 this
 |B0 r x=>rw[e]at this;exact List.suffix_nil.1 this
def Bb.pure(a:α):Bb (pure a:M α):=⟨λd=>Kl,λb c=>.inl ⟨b,rfl,rfl⟩,λ_ _ _=>rfl⟩
theorem Bb.fail(e:Int):Bb (fail e:M α):=by
 refine⟨λc=>Kl,λa b=>?_,λ_ _ _=>rfl⟩;simp only[Ja,Go.Ab.fail];cases a with
 |nil=>exact .inr ⟨by simp,rfl⟩
 |cons x p=>simp
def Bb.bind{m:M α}{f:α->M β}(l:Bb m)(i:∀a,Bb (f a)):Bb (m >>= f):=by
 refine⟨λj=>?_,λh c=>?_,λg q j=>?_⟩
 ·rw[Xh];have d:=l.MY j;cases e:m j with
  |ok a r=>rw[e]at d;exact((i a).MY r).trans d
  |B0 r x=>rw[e]at d;exact d
 ·have d:=l.P8 h c;unfold Ja at d⊢;rw[Xh];cases e:m (h++c) with
  |ok a r=>
   rw[e]at d;simp only at d⊢;rcases d with⟨n,rfl,k⟩|⟨k,t⟩
   ·have u:=(i a).P8 n c;simp_all[Ja,Xh]
   ·have p:((m >>= f) h).Mb:=by
     grind[Xh,ok,R.Mb,FT]
    cases o:f a r with
    |ok b s=>exact .inr ⟨Nat.lt_of_le_of_lt ((i a).ok o).length_le k,p⟩
    |B0 s x=>exact .inr ⟨Nat.le_of_lt (Nat.lt_of_le_of_lt ((i a).er o).length_le k),p⟩
  |B0 r x=>
   grind[Xh,ok,R.Mb,FT]
 ·rw[Xh,Xh,l.mv g q j];cases m j with
  |ok a r=>exact(i a).mv g q r
  |B0 r x=>rfl
def Bb.ite{c:Prop}[Decidable c]{a b:M α}(d:Bb a)(e:Bb b):Bb (if c then a else b):=by split<;>assumption
def ZE{g:Ay->Ay}(b:Mv g)(k:Int)(t:B)(a:List Ay):Xq k t (a.map g)=Xq k t a:=by
 cases a with
 |nil=>rfl
 |cons x r=>simp only[Dj,Xq,(b x).1,(b x).2.1]
def Qj.bind{m:M α}{f:α->M β}(d:Qj m)(c:∀a,Bb (f a)):Qj (m >>= f):=λi b r h=>by
 rw[Xh]at h;cases e:m i with
 |ok a g=>rw[e]at h;exact Nat.lt_of_le_of_lt ((c a).ok h).length_le (d _ _ _ e)
 |B0 g x=>rw[e]at h;cases h
def Kf{m:M α}{f:α->M β}(d:Bb m)(c:∀a,Qj (f a)):Qj (m >>= f):=λi b r h=>by
 rw[Xh]at h;cases e:m i with
 |ok a g=>rw[e]at h;exact O5 (c a _ _ _ h) (d.ok e).length_le
 |B0 g x=>rw[e]at h;cases h
def WN{k:Int}{t:B}{a b:M α}(h:Bb a)(m:Qj a)(e:Bb b):Bb (λd=>if Xq k t d then a d else b d):=by
 refine⟨λd=>?_,λj c=>?_,λg i d=>?_⟩
 ·split
  ·exact h.MY d
  ·exact e.MY d
 ·cases j with
  |nil=>
   have n:=e.P8 [] c;have l:Xq k t []=false:=rfl;simp only[Ja,Gx,l,BY,CR]at n⊢;split
   ·rename_i x y z f;split at f
    ·exact .inr ⟨m _ _ _ f,e.FT⟩
    simp_all
   ·rename_i x y z f;split at f
    ·exact .inr ⟨(h.er f).length_le,e.FT⟩
    simp_all
  |cons x p=>
   have l:Xq k t (x::p++c)=Xq k t (x::p):=rfl;have o:=h.P8 (x::p) c;have q:=e.P8 (x::p) c;grind[Xq,Ja]
 ·simp only[ZE i];split
  ·exact h.mv g i d
  ·exact e.mv g i d
def Qy{k:Int}{t:B}{f:Ay->α}(l:∀g,Mv g->∀x,f (g x)=f x):Bb (λb=>if Xq k t b then .ok (f (b.headD default)) b.tail else .B0 b 100:M α)/\Qj (λb=>if Xq k t b then .ok (f (b.headD default)) b.tail else .B0 b 100:M α):=by
 have e:Qj (λb=>if Xq k t b then .ok (f (b.headD default)) b.tail else .B0 b 100:M α):=λb a r h=>by
  cases b<;>grind[Xq]
 refine⟨⟨λb=>?_,λd c=>?_,λg i b=>?_⟩,e⟩
 ·split
  ·exact List.tail_suffix _
  ·exact Kl
 ·cases d with
  |nil=>
   cases j:Xq k t c with
   |true=>
    have:c≠[]:=by grind[Xq]
    simp only[Ja,Gx,j,CP];grind[List.length_pos_iff,Xq,R.Mb]
   |false=>
    simp_all[Ja,Xq,R.Mb]
  |cons x p=>
   grind[Xq,Ja]
 ·simp only[ZE i];cases b<;>grind[Xq,R.map]
end
def nC:Yu=λa=>if Xq 1 [] a then .ok (a.headD default).text a.tail else .B0 a 100:=by
 funext a;split<;>simp_all[Yu,Xh,JA,Xq]
def Yid(t:B):Zc t=λa=>if Xq 1 t a then .ok () a.tail else .B0 a 100:=by
 funext a;split<;>simp_all[Zc,Xh,JA,Xq]
def Yg6(t:B):Ym t=λa=>if Xq 3 t a then .ok () a.tail else .B0 a 100:=by
 funext a;split<;>simp_all[Ym,Xh,JA,Xq]
def Xm:Bb Yu:=by rw[nC];exact(Qy (f:=λx=>x.text) λg a x=>(a x).2.1).1
def Yas:Qj Yu:=by rw[nC];exact(Qy (f:=λx=>x.text) λg a x=>(a x).2.1).2
def Xs(t:B):Bb (Zc t):=by rw[Yid];exact(Qy (f:=λ_=>()) λg a x=>rfl).1
def Zl(t:B):Qj (Zc t):=by rw[Yid];exact(Qy (f:=λ_=>()) λg a x=>rfl).2
def Xi(t:B):Bb (Ym t):=by rw[Yg6];exact(Qy (f:=λ_=>()) λg a x=>rfl).1
def XR(t:B):Qj (Ym t):=by rw[Yg6];exact(Qy (f:=λ_=>()) λg a x=>rfl).2
def Xw(k:Int)(t:B):Bb (X8 k t):=by
 refine⟨λe=>?_,λb a=>?_,λg c e=>?_⟩
 ·simp only[X8];split
  ·exact List.tail_suffix _
  ·exact Kl
 ·cases b with
  |nil=>
   cases d:Xq k t a with
   |true=>
    have:a≠[]:=by grind[Xq]
    simp only[Ja,X8,Gx,d,CP];grind[List.length_pos_iff,Xq,R.Mb]
   |false=>
    simp_all[Ja,X8,Xq]
  |cons x p=>
   grind[Xq,Ja,X8]
 ·simp only[X8,ZE c];split<;>simp_all[Xq,R.map]
theorem eb(b a:Int):Yi b a []=.B0 [] 100:=by simp[Yi,Xq]
theorem Jp(b a:Int)(x:Ay)(p:List Ay):Yi b a (x::p)=if Xq 2 [] [x]&&decide (b<=x.n)&&decide (x.n<=a) then .ok x.n p else .B0 (x::p) 100:=by
 rfl
def Ya(f e:Int):Bb (Yi f e):=by
 refine⟨λd=>?_,λb a=>?_,λg c d=>?_⟩
 ·simp only[Yi];split
  ·exact List.tail_suffix _
  ·exact Kl
 ·cases b with
  |nil=>
   cases a with
   |nil=>exact .inr ⟨B9 _,rfl⟩
   |cons y q=>
    simp only[Ja,Gx,eb,Jp];split
    ·rename_i h;split at h
     ·cases h;exact .inr ⟨by simp,rfl⟩
     ·cases h
    ·rename_i h;split at h
     ·cases h
     ·cases h;exact .inr ⟨B9 _,rfl⟩
  |cons x p=>
   grind[Ja,Jp]
 ·cases d with
  |nil=>simp[eb,R.map]
  |cons x p=>
   have:=ZE c 2 [] [x];simp at this;simp only[Dj,Jp,this,(c x).2.2];split<;>simp[R.map]
def Xu2(c b:Int):Qj (Yi c b):=λd a r h=>by
 cases d<;>grind[eb,Jp]
def Yr(a b:Nat):Bb (V1 a b):=by
 by_cases h:a=b
 ·have:V1 a b=fail 2:=by grind[V1,fail]
  rw[this];exact .fail 2
 ·have:V1 a b=pure ():=by funext c;simp[V1,h]
  rw[this];exact .pure ()
def Bb.Ex{f:Type}{k:Int}{t:B}{a b:M f}(c:Bb a)(e:Qj a)(d:Bb b):Bb (Ex (Xq k t) a b):=WN c e d
def Yq{e:Type}{k:Int}{t:B}{c:M e}(g:Bb c)(f:Qj c):∀n,Bb (X9 (Xq k t) c n)
|0=>by
 have:X9 (Xq k t) c 0=λd=>if Xq k t d then .B0 d 2 else .ok [] d:=rfl;have:=WN (k:=k) (t:=t) (a:=(fail 2:M (List e))) (b:=pure []) (.fail 2) (λ_ _ _ h=>by cases h) (.pure []);exact this
|n+1=>by
 have:X9 (Xq k t) c (n+1)=λd=>if Xq k t d then (c >>= λa=>X9 (Xq k t) c n >>= λl=>pure (a::l):M (List e)) d else (pure []:M (List e)) d:=rfl;exact WN (g.bind λa=>(Yq g f n).bind λl=>.pure _) (f.bind λa=>(Yq g f n).bind λl=>.pure _) (.pure _)
def Vl:Bb OP:=Xm.bind λ_=>(Xi _).bind λ_=>Xm.bind λ_=>.pure _
def Wt:Bb Hq:=WN ((Ya _ _).bind λ_=>.pure _) ((Xu2 _ _).bind λ_=>.pure _) (Vl.bind λ_=>.pure _)
def XW:Bb Hk:=(Xs _).bind λ_=>Xm.bind λ_=>Xm.bind λ_=>(Xw _ _).bind λ_=>.ite (Vl.bind λ_=>(Xi _).bind λ_=>.pure _) ((Xi _).bind λ_=>.pure _)
def XP:Qj Hk:=(Zl _).bind λ_=>Xm.bind λ_=>Xm.bind λ_=>(Xw _ _).bind λ_=>.ite (Vl.bind λ_=>(Xi _).bind λ_=>.pure _) ((Xi _).bind λ_=>.pure _)
def ji:Bb QB:=(Xw _ _).bind λ_=>.ite (.pure _) ((Xw _ _).bind λ_=>.ite ((Xw _ _).bind λ_=>.pure _) ((Xi _).bind λ_=>(Xi _).bind λ_=>.pure _))
def XI:Bb Kw:=(Xs _).bind λ_=>Wt.bind λ_=>ji.bind λ_=>Wt.bind λ_=>(Xi _).bind λ_=>.pure _
def XH:Qj Kw:=(Zl _).bind λ_=>Wt.bind λ_=>ji.bind λ_=>Wt.bind λ_=>(Xi _).bind λ_=>.pure _
def YO:Bb K7:=(Xs _).bind λ_=>Xm.bind λ_=>(Xi _).bind λ_=>Wt.bind λ_=>(Xi _).bind λ_=>.pure _
def YG:Qj K7:=(Zl _).bind λ_=>Xm.bind λ_=>(Xi _).bind λ_=>Wt.bind λ_=>(Xi _).bind λ_=>.pure _
def eZ:Bb PY:=(Xw _ _).bind λ_=>.ite (Ya _ _) ((Xw _ _).bind λ_=>.ite ((Ya _ _).bind λ_=>.pure _) (.pure _))
def fR:Bb I4:=Xm.bind λ_=>(Xi _).bind λ_=>Xm.bind λ_=>eZ.bind λ_=>(Xi _).bind λ_=>.pure _
def fN:Qj I4:=Yas.bind λ_=>(Xi _).bind λ_=>Xm.bind λ_=>eZ.bind λ_=>(Xi _).bind λ_=>.pure _
def gZ:Bb K6:=(Xs _).bind λ_=>Vl.bind λ_=>(Xi _).bind λ_=>.pure _
def fp:Qj K6:=(Zl _).bind λ_=>Vl.bind λ_=>(Xi _).bind λ_=>.pure _
def Ji:∀n,Bb (GQ n)
|0=>.pure _
|n+1=>(Ya _ _).bind λ_=>(Ji n).bind λ_=>.pure _
def Uv(n:Nat):Bb (Qq n):=Xm.bind λ_=>(Yq ((Xi _).bind λ_=>Xm) ((XR _).bind λ_=>Xm) _).bind λ_=>.pure _
def fQ:Bb Ky:=(Xw _ _).bind λ_=>.ite ((Ya _ _).bind λ_=>(Xs _).bind λ_=>(Ya _ _).bind λ_=>(Xw _ _).bind λ_=>.ite (Xm.bind λ_=>.pure _) (.pure _)) ((Xw _ _).bind λ_=>.ite (.pure _) ((Xw _ _).bind λ_=>.ite (.pure _) ((Xw _ _).bind λ_=>.ite ((Uv _).bind λ_=>.pure _) (.fail _))))
def Xle:Bb Mr:=(Xs _).bind λ_=>Xm.bind λ_=>(Xi _).bind λ_=>fQ.bind λ_=>(Ji 4).bind λ_=>(Xi _).bind λ_=>.pure _
def X5i:Qj Mr:=(Zl _).bind λ_=>Xm.bind λ_=>(Xi _).bind λ_=>fQ.bind λ_=>(Ji 4).bind λ_=>(Xi _).bind λ_=>.pure _
def Xiq:Bb PD:=(Xs _).bind λ_=>(Uv _).bind λ_=>(Xs _).bind λ_=>Xm.bind λ_=>(Xi _).bind λ_=>.pure _
def Xu1:Qj PD:=(Zl _).bind λ_=>(Uv _).bind λ_=>(Xs _).bind λ_=>Xm.bind λ_=>(Xi _).bind λ_=>.pure _
def TN:∀n s,Bb (I5 n s)
|0,_=>.fail _
|n+1,s=>(Xw _ _).bind λ_=>.ite (.pure _) (Bb.Ex ((Yr _ _).bind λ_=>Xle.bind λ_=>TN n _) (Kf (Yr _ _) λ_=>X5i.bind λ_=>TN n _)
 (Bb.Ex ((Yr _ _).bind λ_=>Xiq.bind λ_=>TN n _) (Kf (Yr _ _) λ_=>Xu1.bind λ_=>TN n _) (.fail _)))
def Ybb(s:Bm):Bb (PF s)/\Qj (PF s):=⟨(Yr _ _).bind λ_=>(Xs _).bind λ_=>Xm.bind λ_=>(Xi _).bind λ_=>.pure _,Kf (Yr _ _) λ_=>(Zl _).bind λ_=>Xm.bind λ_=>(Xi _).bind λ_=>.pure _⟩
def Xlg(s:Bm):∀_:Unit,Bb (do let a <-Yu;let b <-X8 3 [61];if b then do {let n <-Yi 2 1000;let o <-Yu;Ym [59];pure {s with Ac:=s.Ac++[⟨a,some (n,o)⟩] } } else do {Ym [59];pure {s with Ac:=s.Ac++[⟨a,none⟩] } }:M Bm):=λ_=>Xm.bind λ_=>(Xw _ _).bind λ_=>.ite ((Ya _ _).bind λ_=>Xm.bind λ_=>(Xi _).bind λ_=>.pure _) ((Xi _).bind λ_=>.pure _)
def Yvw(s:Bm):Bb (PA s)/\Qj (PA s):=⟨(Yr _ _).bind λ_=>(Xs _).bind (Xlg s),Kf (Yr _ _) λ_=>(Zl _).bind (Xlg s)⟩
def Xfw(s:Bm):∀_:Unit,Bb (do let a <-Yu;Zc [98,121];let b <-Yu;Zc [118,101,114,115,105,111,110];let v <-Yi 1 255;Zc [115,101,108,102];let w <-Uj;Ym [123];let x <-I5 21 ⟨a,b,v,[⟨[115,101,108,102],.Cz,w⟩],[]⟩;pure {s with AB:=s.AB++[x] }:M Bm):=λ_=>Xm.bind λ_=>(Xs _).bind λ_=>Xm.bind λ_=>(Xs _).bind λ_=>(Ya _ _).bind λ_=>(Xs _).bind λ_=>(Ji 4).bind λ_=>(Xi _).bind λ_=>(TN _ _).bind λ_=>.pure _
def Ybc(s:Bm):Bb (PG s)/\Qj (PG s):=⟨(Yr _ _).bind λ_=>(Xs _).bind (Xfw s),Kf (Yr _ _) λ_=>(Zl _).bind (Xfw s)⟩
def Xlf(s:Bm):∀_:Unit,Bb (do let a <-Yu;Ym [123];Ex (Xq 1 [102,114,111,109]) (do {let f <-X9 (Xq 1 [102,114,111,109]) Hk 3;let w <-X9 (Xq 1 [119,104,101,114,101]) Kw 8;let t <-X9 (Xq 1 [115,101,116]) K7 11;Ym [125];pure {s with AP:=s.AP++[⟨a,f,w,t⟩] } }) (fail 100):M Bm):=λ_=>Xm.bind λ_=>(Xi _).bind λ_=>by
 refine Bb.Ex ?_ ?_ (.fail _)
 ·exact(Yq XW XP _).bind λ_=>(Yq XI XH _).bind λ_=>(Yq YO YG _).bind λ_=>(Xi _).bind λ_=>.pure _
 ·exact Kf (Yq XW XP _) λ_=>Kf (Yq XI XH _) λ_=>Kf (Yq YO YG _) λ_=>(XR _).bind λ_=>.pure _
def Yvv(s:Bm):Bb (O9 s)/\Qj (O9 s):=⟨(Yr _ _).bind λ_=>(Xs _).bind (Xlf s),Kf (Yr _ _) λ_=>(Zl _).bind (Xlf s)⟩
def z7(s:Bm):∀_:Unit,Bb (do let a <-Yu;Zc [116,111];let b <-Yu;Ym [123];let l <-X9 (Xq 1 []) I4 11;Ym [125];pure {s with AJ:=s.AJ++[⟨a,b,l⟩] }:M Bm):=λ_=>Xm.bind λ_=>(Xs _).bind λ_=>Xm.bind λ_=>(Xi _).bind λ_=>(Yq fR fN _).bind λ_=>(Xi _).bind λ_=>.pure _
def X5t(s:Bm):Bb (Jc s)/\Qj (Jc s):=⟨(Yr _ _).bind λ_=>(Xs _).bind (z7 s),Kf (Yr _ _) λ_=>(Zl _).bind (z7 s)⟩
def z8(s:Bm):∀_:Unit,Bb (do let a <-Yu;Ym [123];let l <-X9 (Xq 1 [109,97,121]) K6 32;Zc [109,111,115,116];let n <-Yi 0 32;Ym [59];Ym [125];pure {s with AI:=s.AI++[⟨a,l,n⟩] }:M Bm):=λ_=>Xm.bind λ_=>(Xi _).bind λ_=>(Yq gZ fp _).bind λ_=>(Xs _).bind λ_=>(Ya _ _).bind λ_=>(Xi _).bind λ_=>(Xi _).bind λ_=>.pure _
def X5u(s:Bm):Bb (Jt s)/\Qj (Jt s):=⟨(Yr _ _).bind λ_=>(Xs _).bind (z8 s),Kf (Yr _ _) λ_=>(Zl _).bind (z8 s)⟩
def GO(t:B)(s:Bm):M Bm:=
 if t=[105,115,115,117,101,114] then PF s
 else if t=[117,110,105,116] then PA s
 else if t=[115,99,104,101,109,97] then PG s
 else if t=[100,101,114,105,118,101] then O9 s
 else if t=[99,111,110,118,101,114,116] then Jc s
 else if t=[112,117,114,112,111,115,101] then Jt s
 else fail 100
def Rx(t:B)(s:Bm):Bb (GO t s)/\Qj (GO t s):=by
 unfold GO;split
 ·exact Ybb s
 split
 ·exact Yvw s
 split
 ·exact Ybc s
 split
 ·exact Yvv s
 split
 ·exact X5t s
 split
 ·exact X5u s
 ·exact⟨.fail _,λ_ _ _ h=>by cases h⟩
def D6(s:Bm):M Bm:=λa=>match a with
|[]=>.B0 [] 100
|x::r=>if x.kind=1 then GO x.text s (x::r) else .B0 (x::r) 100
def YF(s:Bm):Qj (D6 s):=λb a r h=>by
 cases b with
 |nil=>cases h
 |cons x p=>
  simp only[D6]at h;split at h
  ·exact(Rx _ _).2 _ _ _ h
  ·cases h
def wP(s:Bm):Bb (D6 s):=by
 refine⟨λf=>?_,λd b=>?_,λg c f=>?_⟩
 ·cases f with
  |nil=>exact Kl
  |cons x p=>
   simp only[D6];split
   ·exact(Rx _ _).1.MY _
   ·exact Kl
 ·cases d with
  |nil=>
   have h:(D6 s b).Ng <:+ b:=by
    cases b with
    |nil=>exact Kl
    |cons x p=>
     simp only[D6];split
     ·exact(Rx _ _).1.MY _
     ·exact Kl
   simp only[Ja,Gx];cases e:D6 s b with
   |ok a r=>exact .inr ⟨YF s _ _ _ e,rfl⟩
   |B0 r x=>rw[e]at h;exact .inr ⟨h.length_le,rfl⟩
  |cons x p=>
   by_cases i:x.kind=1
   ·have:=(Rx x.text s).1.P8 (x::p) b;simp_all[Ja,D6]
   simp_all[Ja,D6]
 ·cases f with
  |nil=>rfl
  |cons x p=>
   simp only[D6,Dj,(c x).1,(c x).2.1];split
   ·have:=(Rx x.text s).1.mv g c (x::p);simpa using this
   ·rfl
def Y0:Nat->Bm->M Bm
|0,s=>λa=>match a with
 |[]=>.ok s []
 |x::r=>.B0 (x::r) 0
|n+1,s=>λa=>match a with
 |[]=>.ok s []
 |x::r=>(D6 s >>= Y0 n) (x::r)
def ed(n:Nat)(s:Bm):Y0 n s []=.ok s []:=by cases n<;>rfl
def Zx(n:Nat)(s:Bm)(x:Ay)(r:List Ay):Y0 (n+1) s (x::r)=(D6 s >>= Y0 n) (x::r):=rfl
def Ul:∀n s,Bb (Y0 n s)
|0,s=>by
 refine⟨λd=>?_,λc b=>?_,λg h d=>?_⟩
 ·cases d<;>exact Kl
 ·cases c with
  |nil=>
   cases b with
   |nil=>exact .inl ⟨[],rfl,rfl⟩
   |cons x p=>exact .inr ⟨B9 _,rfl⟩
  |cons x p=>exact .inl ⟨x::p,by simp,rfl,rfl⟩
 ·cases d<;>rfl
|n+1,s=>by
 have f:Bb (D6 s >>= Y0 n):=(wP s).bind (Ul n);have i:Qj (D6 s >>= Y0 n):=(YF s).bind (Ul n);refine⟨λd=>?_,λc b=>?_,λg h d=>?_⟩
 ·cases d with
  |nil=>exact Kl
  |cons x p=>exact f.MY (x::p)
 ·cases c with
  |nil=>
   cases b with
   |nil=>exact .inl ⟨[],rfl,rfl⟩
   |cons x p=>
    simp only[Ja,Gx,Zx];cases e:(D6 s >>= Y0 n) (x::p) with
    |ok a r=>exact .inr ⟨i _ _ _ e,rfl⟩
    |B0 r y=>exact .inr ⟨(f.er e).length_le,rfl⟩
  |cons x p=>
   have:=f.P8 (x::p) b;simp_all[Ja,Zx]
 ·cases d with
  |nil=>rfl
  |cons x p=>
   have:=f.mv g h (x::p);simp_all[Zx]
theorem Xjk:∀(n:Nat)(s:Bm)(c:List Ay),c.length<=n->Y0 n s c=Y0 c.length s c:=by
 have f:∀(n:Nat)(s:Bm)(c:List Ay),c.length<=n->Y0 n s c=Y0 (n+1) s c:=by
  intro n;induction n with
  |zero=>intro s c h;cases c with
   |nil=>rfl
   |cons x r=>simp at h
  |succ n g=>
   intro s c h;cases c with
   |nil=>rfl
   |cons x r=>
    rw[Zx,Zx,Xh,Xh];cases e:D6 s (x::r) with
    |B0 a b=>rfl
    |ok a i=>
     have:=YF s _ _ _ e;grind
 intro n s c h;obtain⟨d,rfl⟩:=Nat.exists_eq_add_of_le h;induction d<;>grind
abbrev Hi:Bm:=⟨[],[],[],[],[],[]⟩
def Vp(a:List Ay):R Bm:=Y0 a.length Hi a
section
variable {α β:Type}
def Zy9{c:Prop}[Decidable c](a b:M α)(f:α->M β):((if c then a else b) >>= f)=if c then a >>= f else b >>= f:=by split<;>rfl
def Zy8{c:List Ay->Bool}(a b:M α)(f:α->M β):((Ex c a b) >>= f)=Ex c (a >>= f) (b >>= f):=by
 funext d;simp only[Xh,Ex];cases c d<;>rfl
def Zh1(e:Int)(f:α->M β):((fail e:M α) >>= f)=fail e:=rfl
def HQ(n m:Nat)(b:M α)(g:α->Bm):M Bm:=V1 n m >>= λ_=>b >>= λa=>pure (g a)
def Vx{n m:Nat}{c:M α}{g:α->Bm}{e r:List Ay}{s:Bm}(h:HQ n m c g e=.ok s r):n≠m/\∃a,c e=.ok a r/\s=g a:=by
 simp only[HQ,Xh,V1]at h;by_cases d:n=m
 ·simp[d]at h
 ·simp only[d,CR]at h;cases f:c e with
  |ok a i=>simp only[f,Yy7,R.ok.injEq]at h;exact⟨d,a,by rw[h.2],h.1.symm⟩
  |B0 a b=>simp[f]at h
end
def Rq:M B:=do
 Zc [105,115,115,117,101,114]
 let a <-Yu
 Ym [59]
 pure a
def fV(s:Bm):PF s=HQ s.AR.length 8 Rq λa=>{s with AR:=s.AR++[a] }:=by
 simp only[PF,HQ,Rq,Yc,Zi]
def PB:M CK:=do
 Zc [117,110,105,116]
 let a <-Yu;let b <-X8 3 [61]
 if b then do
  let n <-Yi 2 1000;let o <-Yu
  Ym [59]
  pure ⟨a,some (n,o)⟩
 else do
  Ym [59]
  pure ⟨a,none⟩
def dj(s:Bm):PA s=HQ s.Ac.length 16 PB λa=>{s with Ac:=s.Ac++[a] }:=by
 simp only[PA,HQ,PB,Yc,Zi,Zy9]
def Ry:M Be:=do
 Zc [115,99,104,101,109,97]
 let a <-Yu
 Zc [98,121]
 let b <-Yu
 Zc [118,101,114,115,105,111,110]
 let v <-Yi 1 255
 Zc [115,101,108,102]
 let w <-Uj
 Ym [123]
 I5 21 ⟨a,b,v,[⟨[115,101,108,102],.Cz,w⟩],[]⟩
def fj(s:Bm):PG s=HQ s.AB.length 16 Ry λa=>{s with AB:=s.AB++[a] }:=by
 simp only[PG,HQ,Ry,Yc,Zi]
def Rh:M Cv:=do
 Zc [100,101,114,105,118,101]
 let a <-Yu
 Ym [123]
 Ex (Xq 1 [102,114,111,109]) (do
  let f <-X9 (Xq 1 [102,114,111,109]) Hk 3;let w <-X9 (Xq 1 [119,104,101,114,101]) Kw 8;let t <-X9 (Xq 1 [115,101,116]) K7 11
  Ym [125]
  pure ⟨a,f,w,t⟩) (fail 100)
def dh(s:Bm):O9 s=HQ s.AP.length 16 Rh λa=>{s with AP:=s.AP++[a] }:=by
 simp only[O9,HQ,Rh,Yc,Zi,Zy8,Zh1]
def Rl:M Bh:=do
 Zc [99,111,110,118,101,114,116]
 let a <-Yu
 Zc [116,111]
 let b <-Yu
 Ym [123]
 let l <-X9 (Xq 1 []) I4 11
 Ym [125]
 pure ⟨a,b,l⟩
def eS(s:Bm):Jc s=HQ s.AJ.length 16 Rl λa=>{s with AJ:=s.AJ++[a] }:=by
 simp only[Jc,HQ,Rl,Yc,Zi]
def Ro:M Bi:=do
 Zc [112,117,114,112,111,115,101]
 let a <-Yu
 Ym [123]
 let l <-X9 (Xq 1 [109,97,121]) K6 32
 Zc [109,111,115,116]
 let n <-Yi 0 32
 Ym [59]
 Ym [125]
 pure ⟨a,l,n⟩
def ee(s:Bm):Jt s=HQ s.AI.length 8 Ro λa=>{s with AI:=s.AI++[a] }:=by
 simp only[Jt,HQ,Ro,Yc,Zi]
def X5c{t:B}{s d:Bm}{e r:List Ay}(h:GO t s e=.ok d r):
 (s.AR.length≠8/\∃a,d={s with AR:=s.AR++[a] })\/(s.Ac.length≠16/\∃a,d={s with Ac:=s.Ac++[a] })\/(s.AB.length≠16/\∃a,d={s with AB:=s.AB++[a] })\/
 (s.AP.length≠16/\∃a,d={s with AP:=s.AP++[a] })\/(s.AJ.length≠16/\∃a,d={s with AJ:=s.AJ++[a] })\/(s.AI.length≠8/\∃a,d={s with AI:=s.AI++[a] }):=by
 unfold GO at h;split at h
 ·rw[fV]at h;obtain⟨b,a,_,c⟩:=Vx h;exact .inl ⟨b,a,c⟩
 split at h
 ·rw[dj]at h;obtain⟨b,a,_,c⟩:=Vx h;exact .inr (.inl ⟨b,a,c⟩)
 split at h
 ·rw[fj]at h;obtain⟨b,a,_,c⟩:=Vx h;exact .inr (.inr (.inl ⟨b,a,c⟩))
 split at h
 ·rw[dh]at h;obtain⟨b,a,_,c⟩:=Vx h;exact .inr (.inr (.inr (.inl ⟨b,a,c⟩)))
 split at h
 ·rw[eS]at h;obtain⟨b,a,_,c⟩:=Vx h;exact .inr (.inr (.inr (.inr (.inl ⟨b,a,c⟩))))
 split at h
 ·rw[ee]at h;obtain⟨b,a,_,c⟩:=Vx h;exact .inr (.inr (.inr (.inr (.inr ⟨b,a,c⟩))))
 ·cases h
def xJ{t:B}{s c:Bm}{e r:List Ay}(d:JO s)(h:GO t s e=.ok c r):JO c:=by
 obtain⟨f,g,i,j,k,l⟩:=d;rcases X5c h with⟨b,a,rfl⟩|⟨b,a,rfl⟩|⟨b,a,rfl⟩|⟨b,a,rfl⟩|⟨b,a,rfl⟩|⟨b,a,rfl⟩<;>refine⟨?_,?_,?_,?_,?_,?_⟩<;>simp<;>omega
def Znv:JO Hi:=⟨by simp,by simp,by simp,by simp,by simp,by simp⟩
def OT{i n:Nat}(h:i<n)(a:n<=1000000):IntKind.i64.wrap ((i:Int)+1)=(i:Int)+1:=w_i _ (by omega)
def Gh(f:Nat->Int):List D:=(List.range 256).map λi=>.int .i64 (f i)
def EE(f:Nat->Int):D:=.agg (Gh f)
def QG(f:Nat->Int)(n:Nat)(v:Int)(i:Nat):Int:=if i=n then v else f i
def Wo{f g:Nat->Int}(h:∀i,i<256->f i=g i):EE f=EE g:=by
 simp_all[EE,Gh,List.map_congr_left]
@[simp]def tbl_kids(f:Nat->Int):V.Bk (.d (EE f))=some ((Gh f).map .d):=by simp only[EE,V.Bk]
@[simp]def tbl_getE(f:Nat->Int){n:Nat}(h:n<(Gh f).length):(Gh f)[n]=.int .i64 (f n):=by simp[Gh]
@[simp]theorem Xjy(f:Nat->Int):(Gh f).length=256:=by simp[Gh]
@[simp]def allD_set(l:List D)(n:Nat)(x:D):Cb ((l.map V.d).set n (.d x))=some (l.set n x):=by rw[<-Il,Cd]
@[simp]def tblL_set(f:Nat->Int)(n:Nat)(v:Int):(Gh f).set n (.int .i64 v)=Gh (QG f n v):=by
 apply Sz;intro i;by_cases b:n=i
 ·subst b;by_cases a:n<256
  ·simp[List.getElem?_set,a,QG]
  ·simp[List.getElem?_set,a]
 ·by_cases a:i<256<;>simp_all[List.getElem?_set,QG,Ne.symm]
@[simp]def Yt7(f:Nat->Int):D.agg (Gh f)=EE f:=rfl
def Yze{l:List D}{n:Nat}(h:∀x∈l,x.sz=n):DZ l=l.length*n:=FE l h
theorem ik(f:Nat->Int):∀x∈Gh f,x.sz=1:=by
 simp[Gh,E2]
@[simp]def Zaw(f:Nat->Int):(EE f).sz=256:=by simp only[EE,D.sz,Yze (ik f),Xjy]
@[simp]def tbl_size'(f:Nat->Int):(EE f).shape.size=256:=by rw[D4,Zaw]
@[simp]def tbl_agg(f:Nat->Int):V.isAgg (.d (EE f))=true:=rfl
@[simp]def tbl_dagg(f:Nat->Int):(EE f).isAgg=true:=rfl
@[simp]def tbl_ok(f:Nat->Int):(∀a,a∈Gh f->a.shape.size=1)=True:=
 eq_true λx b=>by grind[D4,ik]
def Yl9(n:Nat)(x:D):List.replicate n x=(List.range n).map λ_=>x:=by
 rw[List.map_const',List.length_range]
def eQ:∀s:List UInt8,BK s=s.map λb=>.int .u8 b.toNat
|[]=>rfl
|b::r=>by simp[BK,eQ r]
def Xtv:List.replicate 256 (D.int .i64 0)=Gh λ_=>0:=Yl9 256 _
def Sd(k i:Nat):Int:=if 65<=i/\i<65+k\/97<=i/\i<97+k then 2 else 0
def Se(k i:Nat):Int:=if 48<=i/\i<48+k then 3 else Sd 26 i
def MZ:List UInt8:=[32,9,10,13]
def Sf(k i:Nat):Int:=if i∈(MZ.take k).map UInt8.toNat then 1 else Se 10 i
def VL(k i:Nat):Int:=if i∈(Di.take k).map UInt8.toNat then 4 else Sf 4 i
def Gd:Nat->Int:=VL 15
def xm{l:List UInt8}{k i:Nat}(h:k<l.length):(i∈(l.take (k+1)).map UInt8.toNat)↔(i=(l[k]?.getD 0).toNat\/i∈(l.take k).map UInt8.toNat):=by
 rw[List.take_add_one,Mh,FM,EW h];grind
def Znt:D:=EE Gd
include hP
theorem X4z{q:AE}{K:V->Prop}(h:K (.d Znt)):AW P 48 [] q K:=by
 refine AK hP AT (ds:=[]) Z08.1 Z08.2 A6.nil ?_;simp only[Zrc,Xtv];rw[show D.agg (Gh λ_=>0)=EE λ_=>0 from rfl,show EE (λ_=>0)=EE (Sd 0) from Wo λi _=>by simp[Sd]];simp;refine Aw.go (ι:=Nat) (λk=>[(0,.ptr 0 []),(7,.d (.int .i64 k))]) (λk=>[(0,.box 119 (.d (EE (Sd k))))]) (λk=>k<=26) (λk=>26-k) 0 (by omega) (by simp) (by simp) ?_;intro k o R g f _ _;by_cases a:k<26
 ·have p:IntKind.i64.wrap (65+(k:Int))=65+(k:Int):=w_i _ (by omega);have r:IntKind.i64.wrap (97+(k:Int))=97+(k:Int):=w_i _ (by omega);have l:=OT a (by omega);simp[zE,p,r,l,show(k:Int)<26 by omega,show ¬(26:Int)<=k by omega,show(0:Int)<=65+k by omega,show(0:Int)<=97+k by omega,show 65+(k:Int)<256 by omega,show 97+(k:Int)<256 by omega,show(65+(k:Int)).toNat=65+k by omega,show(97+(k:Int)).toNat=97+k by omega,show 65+k<256 by omega,show 97+k<256 by omega];refine g [] (k+1) _ _ ?_ ?_ ?_ ?_ ?_ ?_
  ·omega
  ·omega
  ·simp
  ·simp;refine Wo λi _=>?_;grind[QG,Sd]
  ·simp
  ·simp
 ·have b:k=26:=by omega
  subst b;simp[zE];refine f _ _ _ ?_;simp;clear g f;rw[show EE (Sd 26)=EE (Se 0) from Wo λi _=>by simp[Se];omega];refine Aw.go (ι:=Nat) (λk=>[(0,.ptr 0 []),(17,.d (.int .i64 k))]) (λk=>[(0,.box 119 (.d (EE (Se k))))]) (λk=>k<=10) (λk=>10-k) 0 (by omega) (by simp) (by simp) ?_;intro k o R g f _ _;by_cases a:k<10
  ·have p:IntKind.i64.wrap (48+(k:Int))=48+(k:Int):=w_i _ (by omega);have l:=OT a (by omega);simp[zD,p,l,show(k:Int)<10 by omega,show(0:Int)<=48+k by omega,show 48+(k:Int)<256 by omega,show(48+(k:Int)).toNat=48+k by omega,show 48+k<256 by omega];refine g [] (k+1) _ _ ?_ ?_ ?_ ?_ ?_ ?_
   ·omega
   ·omega
   ·simp
   ·simp;refine Wo λi _=>?_;grind[QG,Se]
   ·simp
   ·simp
  ·have b:k=10:=by omega
   subst b;simp[zD];refine f _ _ _ ?_;simp;clear g f;rw[show EE (Se 10)=EE (Sf 0) from Wo λi _=>by simp[Sf]];show Aw _ _ _ [_,(25,V.d (D.AH 1 (BK MZ))),_,_] _;refine Aw.go (ι:=Nat) (λk=>[(0,.ptr 0 []),(25,.d (.AH 1 (BK MZ))),(26,.d (.int .i64 4)),(27,.d (.int .i64 k))]) (λk=>[(1,.Ar),(0,.box 119 (.d (EE (Sf k))))]) (λk=>k<=4) (λk=>4-k) 0 (by omega) (by simp ) (by simp) ?_;intro k o R g f _ _;by_cases a:k<4
   ·have l:=OT a (by omega);have m:(BK MZ)[k]?.getD default=.int .u8 (MZ[k]?.getD 0).toNat:=by
     rw[eQ];simp[show k<MZ.length from a]
    have e:(BK MZ).length=4:=rfl;have n:=(MZ[k]?.getD 0).toNat_lt;generalize j:MZ[k]?.getD 0=c at *;simp[zC,l,m,e,show(k:Int)<4 by omega,n,show((c.toNat:Int)<256) by omega];refine g [] (k+1) _ _ ?_ ?_ ?_ ?_ ?_ ?_
    ·omega
    ·omega
    ·simp
    ·simp;refine Wo λi _=>?_;simp only[QG,Sf,xm (show k<MZ.length from a),j];grind
    ·simp
    ·simp
   ·have b:k=4:=by omega
    subst b;simp[zC];refine f _ _ _ ?_;simp;clear g f;rw[show EE (Sf 4)=EE (VL 0) from Wo λi _=>by simp[VL]];show Aw _ _ _ [_,(35,V.d (D.AH 1 (BK Di))),_,_] _;refine Aw.go (ι:=Nat) (λk=>[(0,.ptr 0 []),(35,.d (.AH 1 (BK Di))),(36,.d (.int .i64 15)),(37,.d (.int .i64 k))]) (λk=>[(2,.Ar),(1,.Ar),(0,.box 119 (.d (EE (VL k))))]) (λk=>k<=15) (λk=>15-k) 0 (by omega) (by simp ) (by simp) ?_;intro k o R g f _ _;by_cases a:k<15
    ·have l:=OT a (by omega);have m:(BK Di)[k]?.getD default=.int .u8 (Di[k]?.getD 0).toNat:=by
      rw[eQ];simp[show k<Di.length from a]
     have e:(BK Di).length=15:=rfl;have n:=(Di[k]?.getD 0).toNat_lt;generalize j:Di[k]?.getD 0=c at *;simp[zB,l,m,e,show(k:Int)<15 by omega,n,show((c.toNat:Int)<256) by omega];refine g [] (k+1) _ _ ?_ ?_ ?_ ?_ ?_ ?_
     ·omega
     ·omega
     ·simp
     ·simp;refine Wo λi _=>?_;simp only[QG,VL,xm (show k<Di.length from a),j];grind
     ·simp
     ·simp
    ·have b:k=15:=by omega
     subst b;simp[zB];refine f _ _ _ ?_;simp;refine⟨rfl,?_⟩;exact h
omit hP
@[simp]def idxPV_tbl(f:Nat->Int)(a:IntKind)(i:Int):M1 (.d (.CD (EE f))) (.d (.int a i))=.d (.CD ((Gh f).getD i.toNat default)):=by simp only[EE,M1]
@[simp]def idxPS_tbl(b:AE)(f:Nat->Int)(a:IntKind)(i:Int):Pe b 256 1 (.d (.CD (EE f))) (.d (.int a i))=(0<=i/\i<256):=by
 grind[EE,Yvx,Xjy,ik]
def Xk5:∀n,n<256->(Gd n=2↔W7 n=true):=by decide +kernel
def fL:∀n,n<256->(Gd n=3↔Lg n=true):=by decide +kernel
def Yac:∀n,n<256->(Gd n=1↔R4 n=true):=by decide +kernel
def Ykv:∀n,n<256->(Gd n=4↔Ic n=true):=by decide +kernel
def Yab:∀n,n<256->0<=Gd n/\Gd n<=4:=by decide +kernel
abbrev JK(s:List UInt8)(i:Int)(l:List D):D:=.agg [.AV s,.int .i64 i,EE Gd,.AH 4 l]
abbrev LX(s:List UInt8)(i:Int)(y n:Nat):V:=.agg [.d (.AV s),.d (.int .i64 i),.d (EE Gd),.sl y n]
include hP
theorem Yup(c:UInt8)(s:List UInt8)(i:Int)(l:List D){b:AE}{K:V->Prop}(h:K (.d (.bool (Wy c)))):AW P 132 [.d (.int .u8 c.toNat),.d (.CD (.CD (JK s i l)))] b K:=by
 refine AK hP AT (ds:=[.int .u8 c.toNat,.CD (.CD (JK s i l))]) Zjw.1 Zjw.2 A6.nil ?_;have a:=c.toNat_lt;simp[Zb9,a,show(c.toNat:Int)<256 by omega];refine(DH K ?_).mp h;congr 2;rw[E3];simp_all[Xk5,fL,Wy,OO]
theorem X9z(c:UInt8)(s:List UInt8)(i:Int)(l:List D){b:AE}{K:V->Prop}(h:K (.d (.bool (Yj c)))):AW P 134 [.d (.int .u8 c.toNat),.d (.CD (.CD (JK s i l)))] b K:=by
 refine AK hP AT (ds:=[.int .u8 c.toNat,.CD (.CD (JK s i l))]) Zjy.1 Zjy.2 A6.nil ?_;have a:=c.toNat_lt;simp[Zcb,a,show(c.toNat:Int)<256 by omega];refine(DH K ?_).mp h;congr 2;rw[E3];simp_all[fL,Yj]
theorem Yuw(c:UInt8){e:AE}{K:V->Prop}(h:K (.d (.bool (Gy c)))):AW P 136 [.d (.int .u8 c.toNat)] e K:=by
 refine AK hP AT (ds:=[.int .u8 c.toNat]) Zj0.1 Zj0.2 A6.nil ?_;simp[Zcd];refine(DH K ?_).mp h;congr 2;rw[E3];simp[Gy];constructor
 ·intro a b;exact a (by rw[<-UInt8.ofNat_toNat (x:=c),show c.toNat=10 by omega];rfl)
 ·intro a b;subst b;exact a rfl
theorem Yki(s t:List UInt8){b:AE}{K:V->Prop}(h:K (.d (.bool (t.isPrefixOf s)))):AW P 135 [.d (.AV s),.d (.AV t)] b K:=by
 have a:∀{K:V->Prop},K (.d (.bool (t.isPrefixOf s)))->AW P 198 [.d (.AV s),.d (.AV t)] [] K:=λ{K} h=>by
  refine AK hP AT (ds:=[.AV s,.AV t]) Zli.1 Zli.2 A6.nil ?_;simp[Zc0];refine(DH K ?_).mp h;congr 2;rw[E3];simp only[List.isPrefixOf_iff_prefix,List.prefix_iff_eq_take];grind
 refine AK hP AT (ds:=[.AV s,.AV t]) Zjz.1 Zjz.2 A6.nil ?_;simp[Zcc];exact a (by simpa using h)
theorem rV(s:List UInt8)(i:Nat)(F:i<=s.length)(t:s.length<=1000000)(l:List D)(f:Nat)(e b:List D)(p:UInt8->Bool)(o:Xd P.p f=true)
 (r:∀(c:UInt8)(K:V->Prop),K (.d (.bool (p c)))->AW P f (e.map .d++.d (.int .u8 c.toNat)::b.map .d) [] K)
 {u:AE} {K:V->Prop} (h:K (.d (.AV ((s.drop i).takeWhile p)))):AW P 131 [.d (.CD (JK s i l)),.d (.fn f e b)] u K:=by
 refine AK hP AT (ds:=[.CD (JK s i l),.fn f e b]) Zjv.1 Zjv.2 A6.nil ?_;simp[Zb8];refine Aw.go (ι:=Nat) (λj=>[(0,.d (.CD (JK s i l))),(1,.d (.fn f e b)),(5,.d (.int .i64 j))]) (λ_=>[]) (λj=>i<=j/\j<=s.length/\j+tw p s j=i+tw p s i) (λj=>s.length-j) i ⟨by omega,by omega,rfl⟩ rfl rfl ?_;rintro j ⟨g,k,q⟩ R w v _ _;have y:tw p s j=0->∀x,R (H8.exit 0) [(0,.d (.CD (JK s i l))),(1,.d (.fn f e b)),(5,.d (.int .i64 j)),(26,x)] []:=λz x=>by
  refine v _ _ _ ?_;simp[g,k];refine(DH K ?_).mp h;grind[List.drop_take,Z9,tw]
 simp[Yi8];by_cases a:j<s.length
 ·have m:=OT a t;simp[a,m,o];refine⟨AW.Cc (r s[j] _ ?_),λh=>absurd h (by omega)⟩;by_cases n:p s[j]=true
  ·simp[n];refine w [] (j+1) _ _ ⟨?_,?_,?_⟩ ?_ ?_ ?_ ?_ ?_
   ·omega
   ·omega
   ·grind[qR]
   ·omega
   ·simp
   ·simp
   ·simp
   ·simp
  ·simp[n];grind[Znc]
 ·simp[a];simp_all[Znb]
theorem rU(s:List UInt8)(i n:Nat)(k m e:Int)(t:List UInt8)(a:List D)(p:i+n<=1000000)(f:a.length<=1000000){b:AE}{x y:Nat}(j:AD b x=some (.box 122 (LX s i y a.length)))(l:AD b y=some (.BO 67 4 a))
 {K:BQ->AE->Prop} (h:K (.ret (.BU [])) (AG (AG b y (.BO 67 4 (a++[.agg [.int .i64 k,.AV t,.int .i64 m,.int .i64 i]]))) x (.box 122 (LX s ((i+n:Nat):Int) y (a.length+1))))):
 Aa P 133 [.ptr x [],.d (.agg [.int .i64 k,.AV t,.int .i64 m,.int .i64 e]),.d (.int .i64 n)] b K:=by
 have c:(y==x)=false:=by grind
 refine Ae hP AT Zjx.1 Zjx.2 A6.nil ?_;intro _ o;have g:IntKind.i64.wrap ((i:Int)+n)=(i:Int)+n:=w_i _ (by omega);simp[Zca,j,l,c,g];refine⟨by omega,?_⟩;refine⟨[],by simp,?_,?_⟩<;>simp_all[Ao,BR]
abbrev Mw(ob:AE)(x y:Nat)(s:List UInt8)(ts:List D)(k:Int)(t:List UInt8)(m:Int)(i n:Nat):AE:=
 AG (AG ob y (.BO 67 4 (ts++[.agg [.int .i64 k,.AV t,.int .i64 m,.int .i64 i]]))) x (.box 122 (LX s ((i+n:Nat):Int) y (ts.length+1)))
theorem gN:Xd P.p 132=true/\Xd P.p 134=true/\Xd P.p 136=true:=by
 rw[hP];exact⟨by kernel_rfl,by kernel_rfl,by kernel_rfl⟩
section
variable (s:List UInt8) (i:Nat) (ts:List D) (hs:s.length<=65536) (hi:i<s.length) (hts:ts.length<=1000000) {ob:AE} {x y:Nat} (hx:AD ob x=some (.box 122 (LX s i y ts.length))) (hy:AD ob y=some (.BO 67 4 ts)) {K:BQ->AE->Prop}
include hs hi hts hx hy
omit hs hi hts hy in
theorem Yuq(h:K (.panic (.d (.iface 116 (.int .i64 i)))) ob):Aa P 49 [.ptr x []] ob K:=by
 refine Ae hP AT Z09.1 Z09.2 A6.nil ?_;intro _ a;simp[Zvp,hx];refine⟨[],by simp,?_,?_⟩<;>simp_all
omit hts in
theorem Yuy(h:K (.ret (.BU [])) (AG ob x (.box 122 (LX s ((i+1:Nat):Int) y ts.length)))):Aa P 50 [.ptr x []] ob K:=by
 refine Ae hP AT Z1a.1 Z1a.2 A6.nil ?_;intro _ b;have a:=OT hi (by omega);simp[Zvq,hx,a];refine⟨[],by simp,?_,?_⟩<;>simp_all[Ao]
theorem Y1m(b:32<tw Wy s i->K (.panic (.d (.iface 116 (.int .i64 i)))) ob)(e:tw Wy s i<=32->K (.ret (.BU [])) (Mw ob x y s ts 1 ((s.drop i).takeWhile Wy) 0 i (tw Wy s i))):Aa P 51 [.ptr x []] ob K:=by
 refine Ae hP AT Z1b.1 Z1b.2 A6.nil ?_;intro _ g;simp[Zvr,hx];refine QU (n:=5) (ds:=[.CD (JK s i ts),.fn 132 [] [.CD (.CD (JK s i ts))]]) (by simp[hx,hy]) ?_;refine rV hP s i (by omega) (by omega) ts _ [] _ Wy (gN hP).1 (λc K h=>by simp_all[Yup]) ?_;have a:((s.drop i).takeWhile Wy).length=tw Wy s i:=rfl;simp[a,hx];refine⟨λf=>?_,λf=>?_⟩
 ·refine⟨[],by simp,?_,?_⟩
  ·simp[g]
  ·simpa using b (by omega)
 ·simp[Ys8,a];refine rU hP (y:=y) s i _ 1 0 0 _ ts (by omega) hts (by simp[hx]) (by simp[hy]) ?_;simp[hx,hy];refine⟨[],by simp,?_,?_⟩
  ·simp_all[Ao,BR]
  ·simpa[Mw]using e (by omega)
theorem X90(hd:Yj (s[i]?.getD 0)=true)(L:I8 ((s.drop i).takeWhile Yj)=none->K (.panic (.d (.iface 116 (.int .i64 i)))) ob)
 (h2:∀m,I8 ((s.drop i).takeWhile Yj)=some m->K (.ret (.BU [])) (Mw ob x y s ts 2 [] m i (tw Yj s i))):Aa P 52 [.ptr x []] ob K:=by
 refine Ae hP AT Z1c.1 Z1c.2 A6.nil ?_;intro _ J;have W:=UZ Yj s i (by omega);simp[Zvs];refine QU (n:=5) (ds:=[.CD (JK s i ts),.fn 134 [] [.CD (.CD (JK s i ts))]]) (by simp[hx,hy]) ?_;refine rV hP s i (by omega) (by omega) ts _ [] _ Yj (gN hP).2.1 (λc K h=>by simp_all[X9z]) ?_;have U:((s.drop i).takeWhile Yj).length=tw Yj s i:=rfl;have g:∀k,k<tw Yj s i->Lg (((s.drop i).takeWhile Yj)[k]?.getD 0).toNat=true:=λk H=>by
  grind[Yj,List.getElem_mem,List.getElem?_eq_getElem,You]
 have j:0<tw Yj s i:=by simp_all[qR]
 generalize ht:(s.drop i).takeWhile Yj=t at *;rw[<-U]at g j;simp;refine Aw.go (ι:=Nat×Int) (λk=>[(1,.ptr (AA ob) []),(2,.d (.AV t)),(3,.d (.int .i64 k.2)),(9,.d (.int .i64 t.length)),(10,.d (.int .i64 k.1))]) (λ_=>(AA ob,.box 118 (.ptr x []))::ob)
  (λk=>k.1<=t.length/\0<=k.2/\k.2<=1099511627776/\Q2 0 t=Q2 k.2 (t.drop k.1)/\(2<=k.1->t.headD 0≠48)) (λk=>t.length-k.1) (0,0) ⟨by simp,by simp,by simp,by simp,by simp⟩ rfl rfl ?_
 rintro⟨k,n⟩ ⟨H,Y,Z,b,k4⟩ R rn re _ rp;simp only at H Y Z b k4;simp[Ys9];by_cases a:k<t.length
 ·have O:=g k a;rw[X58 a]at b;generalize Q:t[k]?.getD 0=c at *;have G:t[k]=c:=by grind
  simp[Lg]at O;have T:=c.toNat_lt;have X:IntKind.i64.wrap (IntKind.i64.wrap (10*n)+IntKind.i64.wrap (IntKind.u8.wrap (c.toNat-48)))=10*n+(c.toNat-48):=by
   grind[IntWalk.u8_in,w_i]
  have v:=OT a (by omega);have l:I8 t=none->R (H8.panic (V.d (D.iface 116 (D.int IntKind.i64 i)))) [] ((AA ob,.box 118 (.ptr x []))::ob):=λu=>by
   refine rp _ _ _ ?_;refine⟨[],by simp,?_,?_⟩
   ·simp[J]
   ·simpa using L u
  have F:(t[0]?.getD 0)=t.headD 0:=by cases t<;>rfl
  have f:0<k->t[0]?.getD 0=48->I8 t=none:=λk0 e=>by
   rw[F]at e;unfold I8;grind
  simp[a,X,hx];refine⟨⟨λ_ _=>j,λe=>l ?_,λp w=>?_⟩,λe=>absurd e (by omega)⟩
  ·rcases e with e|⟨p,w⟩
   ·rw[Bv e]at b;simp[I8,b]
   ·refine f p ?_;have o:(t[0]?.getD 0).toNat=48:=by omega
    generalize t[0]?.getD 0=z at o;rw[<-UInt8.ofNat_toNat (x:=z),o];rfl
  ·rw[A5 (by omega)]at b;simp[Yta,v];refine rn [] (k+1,10*n+(c.toNat-48)) _ _ ⟨?_,?_,?_,?_,?_⟩ ?_ ?_ ?_ ?_ ?_
   ·omega
   ·omega
   ·exact p
   ·exact b
   ·intro N o;have r:0<k:=by omega
    refine w r ?_;rw[F,o];rfl
   ·omega
   ·simp
   ·simp
   ·simp 
   ·simp[Xn _ J,hx]
 ·have q:k=t.length:=by omega
  subst q;simp;refine re _ _ _ ?_;simp ;refine rU hP (y:=y) s i _ 2 n 0 _ ts (by omega) hts (by simp[hx]) (by simp[hy]) ?_;simp[hx,hy];refine⟨[],by simp,?_,?_⟩
  ·simp_all[Ao,BR]
  ·have hn:I8 t=some n:=by
    simp[Q2]at b;simp only[I8,b];grind
   simp_all[Mw]
theorem Yux(j:Ep (s[i]?.getD 0)=true)(o:s[i]?.getD 0=47/\(s.drop (i+1)).head? = some 47->K (.ret (.BU [])) (AG ob x (.box 122 (LX s ((i+tw Gy s i:Nat):Int) y ts.length))))
 (p:¬(s[i]?.getD 0=47/\(s.drop (i+1)).head? = some 47)->K (.ret (.BU [])) (Mw ob x y s ts 3 [s[i]?.getD 0] 0 i 1)):Aa P 53 [.ptr x []] ob K:=by
 refine Ae hP AT Z1d.1 Z1d.2 A6.nil ?_;intro _ r;have k:=OT hi (by omega);have g:=UZ Gy s i (by omega);simp[Zvt,hx,k,show i<=s.length by omega];refine AW.data (ds:=[.AV (s.drop i),.AV [47,47]]) rfl (Yki hP _ _ ?_);have a:([47,47]:List UInt8).isPrefixOf (s.drop i)=decide (s[i]?.getD 0=47/\(s.drop (i+1)).head? = some 47):=by
  rw[TJ hi];cases q:s.drop (i+1)<;>grind
 rw[a];simp ;refine⟨λl m=>?_,λe=>⟨by omega,?_⟩⟩
 ·refine QU (n:=5) (ds:=[.CD (JK s i ts),.fn 136 [] []]) (by simp[hx,hy]) ?_;refine rV hP s i (by omega) (by omega) ts _ [] [] Gy (gN hP).2.2 (λc K h=>by simp_all[Yuw]) ?_;have f:((s.drop i).takeWhile Gy).length=tw Gy s i:=rfl;have d:IntKind.i64.wrap ((i:Int)+tw Gy s i)=(i:Int)+tw Gy s i:=w_i _ (by omega);simp[f,d];refine⟨[],by simp,?_,?_⟩<;>simp_all[Ao,Xrz]
 ·have b:(s.take (i+1)).drop i=[s[i]?.getD 0]:=by
   grind[List.drop_take,Nat.add_sub_cancel_left,TJ]
  rw[b];refine rU hP (y:=y) s i 1 3 0 0 _ ts (by omega) hts hx hy ?_;refine⟨[],by simp,?_,?_⟩<;>simp_all[Ao,BR,Xrz,Mw]
end
omit hP
section
variable {P:BE} (hPp:P.p=prog)
include hPp
theorem Y1o{d:AE}{a b c:Nat}{K:AE->Prop}(h:K d):CL P 47 [.ptr a [],.ptr b [],.ptr c []] d none K:=by
 refine CL.ER λ_ e=>?_;refine Uk hPp AT Zuq Zqg Zqd A6.nil ?_;simp[oD,oC,Znn];refine⟨[],by simp,?_,?_⟩<;>simp_all
theorem Y1p{e:AE}{a b c:Nat}{i:Int}{K:AE->Prop}{va vb vc:V}{Ea Eb Ec:Nat}(k:AD e a=some (.box Ea va))(l:AD e b=some (.box Eb vb))(m:AD e c=some (.box Ec vc))(o:va.shape=.leaf)(p:vb.shape=.leaf)(q:vc.shape=.leaf)
 (f:(a==b)=false) (g:(a==c)=false) (j:(b==c)=false) (h:K (AG (AG (AG e a (.box Ea (.d .Ah))) b (.box Eb (.d (.int .i64 i)))) c (.box Ec (.d (.int .i64 90))))):CL P 47 [.ptr a [],.ptr b [],.ptr c []] e (some (.d (.iface 116 (.int .i64 i)))) K:=by
 refine CL.ER λ_ n=>?_;refine Uk hPp AT Zuq Zqg Zqd A6.nil ?_;simp[oD,oC,Znn,Ys7,k,l,m,f,g,j,o,p,q];refine⟨[],by simp,?_,?_⟩
 ·rw[Xl (by simp)];exact Ao _ _ _ _ _ (Ao _ _ _ _ _ (Ao _ _ _ _ _ (n _) (by simp)) (by simp)) (by simp)
 simp_all
theorem Yks:Xd P.p 47=true/\Xd P.p 49=true/\Xd P.p 50=true/\Xd P.p 51=true/\Xd P.p 52=true/\Xd P.p 53=true:=by
 rw[hPp];exact⟨by kernel_rfl,by kernel_rfl,by kernel_rfl,by kernel_rfl,by kernel_rfl,by kernel_rfl⟩
omit hPp in
theorem Yhq(f g:Nat->Int):(EE f).shape=(EE g).shape:=by
 simp[EE,Gh,D.shape,D.Bz,List.map_map,Function.comp_def]
theorem Y1i(s:List UInt8){ob:AE}{K:V->Prop}(h:K (NK s)):AW P 12 [.d (.AV s)] ob K:=by
 refine Vy hPp AT (ds:=[.AV s]) Z0h Zw9 A6.nil ?_;obtain⟨d0,d1,d2,d3,d4,d5⟩:=Yks hPp;simp only[Zqj,Xtv,Yt7];simp[d0];refine⟨λhl=>?_,λhl=>?_⟩
 ·grind[NK]
 ·have W:¬65536<s.length:=by omega
  simp only[NK,W,CR]at h;refine X4z hPp ?_;simp[Znt];refine⟨Yhq _ _,?_⟩;refine Aw.go (ι:=Nat×List Ay) (λ_=>[(0,.d (.AV s)),(2,.ptr 0 []),(3,.ptr 1 []),(4,.ptr 2 []),(5,.ptr 3 []),(6,.ptr 5 [])])
   (λk=>[(5,.box 123 (.agg [.fn 49 [.ptr 3 []] [],.fn 50 [.ptr 3 []] [],.fn 51 [.ptr 3 []] [],.fn 52 [.ptr 3 []] [],.fn 53 [.ptr 3 []] []])),
    (4,.BO 67 4 (k.2.map Ay.enc)),(3,.box 122 (LX s k.1 4 k.2.length)),(2,.box 31 (.d (.int .i64 0))),(1,.box 3 (.d (.int .i64 0))),(0,.box 46 (.d .Ah))])
   (λk=>k.1<=s.length/\k.2.length<=k.1/\Jl s 0=MC k.2 (Jl (s.drop k.1) k.1)) (λk=>s.length-k.1) (0,[]) ⟨by simp,by simp,by simp[Yj3]⟩ rfl (by simp) ?_
  rintro⟨i,a⟩ ⟨hi,ho,b⟩ R rn re _ rp;simp only at hi ho b;have O:∀j l G,j<=s.length->l.length<=j->Jl s 0=MC l (Jl (s.drop j) j)->i<j->G=[(5,.box 123 (.agg [.fn 49 [.ptr 3 []] [],.fn 50 [.ptr 3 []] [],.fn 51 [.ptr 3 []] [],.fn 52 [.ptr 3 []] [],.fn 53 [.ptr 3 []] []])),
   (4,.BO 67 4 (l.map Ay.enc)),(3,.box 122 (LX s j 4 l.length)),(2,.box 31 (.d (.int .i64 0))),(1,.box 3 (.d (.int .i64 0))),(0,.box 46 (.d .Ah))]->R .normal [(0,.d (.AV s)),(2,.ptr 0 []),(3,.ptr 1 []),(4,.ptr 2 []),(5,.ptr 3 []),(6,.ptr 5 [])] G:=λj l G h1 h2 h3 h4 T=>
   rn [] (j,l) _ _ ⟨h1,h2,h3⟩ (by omega) rfl (by rw[T];simp ) (by simp ) (by simp )
  clear rn;by_cases f:i<s.length
  ·rw[Ywm f]at b;generalize J:s[i]?.getD 0=c at *;have r:s[i]=c:=by rw[<-J];simp[f]
   have g:=c.toNat_lt;have u:(a.map Ay.enc).length<=1000000:=by simp;omega
   have H:Jl s 0=.B0 i->R (.panic (.d (.iface 116 (.int .i64 i)))) [(2,.ptr 0 []),(3,.ptr 1 []),(4,.ptr 2 [])] [(5,.box 123 (.agg [.fn 49 [.ptr 3 []] [],.fn 50 [.ptr 3 []] [],.fn 51 [.ptr 3 []] [],.fn 52 [.ptr 3 []] [],.fn 53 [.ptr 3 []] []])),
    (4,.BO 67 4 (a.map Ay.enc)),(3,.box 122 (LX s i 4 a.length)),(2,.box 31 (.d (.int .i64 0))),(1,.box 3 (.d (.int .i64 0))),(0,.box 46 (.d .Ah))]:=λhr=>by
    refine rp _ _ _ ?_;simp;refine Y1p hPp (Ea:=46) (Eb:=3) (Ec:=31) (va:=.d .Ah) (vb:=.d (.int .i64 0)) (vc:=.d (.int .i64 0)) (by simp) (by simp) (by simp) (by simp) (by simp) (by simp) rfl rfl rfl ?_;simp;rw[hr]at h;exact h
   have hx:∀(o5:Ob),AD [(5,o5),(4,Ob.BO 67 4 (a.map Ay.enc)),(3,Ob.box 122 (LX s i 4 (a.map Ay.enc).length)),(2,.box 31 (.d (.int .i64 0))),(1,.box 3 (.d (.int .i64 0))),(0,.box 46 (.d .Ah))] 3=some (.box 122 (LX s i 4 (a.map Ay.enc).length)):=λ_=>by simp
   have ab:=Yab c.toNat g;have aa:∀m:Nat,Gd c.toNat=m->(Gd c.toNat).toNat=m:=λm e=>by omega
   have Y:=Yac c.toNat g;have Z:=Xk5 c.toNat g;have g3:=fL c.toNat g;have g4:=Ykv c.toNat g;have x:Gd c.toNat≠4->¬(c=47/\(s.drop (i+1)).head? = some 47):=λX h=>by
    obtain⟨rfl,_⟩:=h;exact X (by decide +kernel)
   have w:∀m:Int,Gd c.toNat=m->(Kq c=decide (m=1))/\(Wh c=decide (m=2))/\(Yj c=decide (m=3))/\(Ep c=decide (m=4)):=λm e=>by
    rw[e]at Y Z g3 g4;refine⟨?_,?_,?_,?_⟩<;>rw[E3,D2]
    ·exact Y.symm
    ·exact Z.symm
    ·exact g3.symm
    ·exact g4.symm
   have v:∀p:UInt8->Bool,p c=true->tw p s i=((s.drop (i+1)).takeWhile p).length+1/\(s.drop i).takeWhile p=c::(s.drop (i+1)).takeWhile p:=λp L=>by
    simp_all[Yzh,TJ,Mk,Bv]
   rcases (by omega:Gd c.toNat=0\/Gd c.toNat=1\/Gd c.toNat=2\/Gd c.toNat=3\/Gd c.toNat=4) with e|e|e|e|e
   ·obtain⟨n,q,z,F⟩:=w 0 e;simp only[ET,n,q,z,F,x (by rw[e];decide),CR,MC]at b;simp[Rr,f,r,g,show(c.toNat:Int)<256 by omega,e,d1];refine Yuq hPp s i (a.map Ay.enc) (y:=4) (by simp) ?_;exact H (by simpa using b)
   ·obtain⟨n,q,z,F⟩:=w 1 e;simp[ET,n]at b;simp[Rr,f,r,g,show(c.toNat:Int)<256 by omega,e,d2];refine Yuy hPp s i (a.map Ay.enc) (by omega) f (y:=4) (by simp) (by simp) ?_;refine O (i+1) a _ (by omega) (by omega) b (by omega) (by simp)
   ·obtain⟨n,q,z,F⟩:=w 2 e;have L:Wy c=true:=by
     simp_all[W7,Wh,Wy,OO]
    obtain⟨t1,Q⟩:=v Wy L;have N:=UZ Wy s i (by omega);have n:Kq c=false:=by simpa using n
    have q:Wh c=true:=by simpa using q
    simp only[ET,n,q,x (by rw[e];decide),BY,CR,CP]at b;simp[Rr,f,r,g,show(c.toNat:Int)<256 by omega,e,d3];refine Y1m hPp s i (a.map Ay.enc) (by omega) f u (y:=4) (by simp) (by simp) (λo=>?_) (λo=>?_)
    ·rw[A5 (by omega)]at b;exact H (by simpa[MC]using b)
    ·simp[Mw];rw[Bv (by omega)]at b;simp only[gK]at b;have t:i+((s.drop (i+1)).takeWhile Wy).length+1=i+tw Wy s i:=by omega
     rw[t]at b;refine O (i+tw Wy s i) (a++[⟨1,c::(s.drop (i+1)).takeWhile Wy,0,i⟩]) _ (by omega) (by simp;omega) b (by omega) ?_;simp[Ay.enc,Q]
   ·obtain⟨n,q,z,F⟩:=w 3 e;have L:Yj c=true:=by simpa using z
    obtain⟨t1,Q⟩:=v Yj L;have N:=UZ Yj s i (by omega);have n:Kq c=false:=by simpa using n
    have q:Wh c=false:=by simpa using q
    simp only[ET,n,q,L,x (by rw[e];decide),BY,CR,CP]at b;simp[Rr,f,r,g,show(c.toNat:Int)<256 by omega,e,d4];refine X90 hPp s i (a.map Ay.enc) (by omega) f u (y:=4) (by simp) (by simp) (by rw[J];exact L) (λo=>?_) (λm o=>?_)
    ·rw[Q]at o;rw[o]at b;exact H (by simpa[MC]using b)
    ·simp[Mw];rw[Q]at o;rw[o]at b;simp only[gK]at b;have t:i+((s.drop (i+1)).takeWhile Yj).length+1=i+tw Yj s i:=by omega
     rw[t]at b;refine O (i+tw Yj s i) (a++[⟨2,[],m,i⟩]) _ (by omega) (by simp;omega) b (by omega) ?_;simp[Ay.enc]
   ·obtain⟨n,q,z,F⟩:=w 4 e;simp[Rr,f,r,g,show(c.toNat:Int)<256 by omega,e,d5];refine Yux hPp s i (a.map Ay.enc) (by omega) f u (y:=4) (by simp) (by simp) (by rw[J];simpa using F) (λo=>?_) (λo=>?_)
    ·rw[J]at o;obtain⟨rfl,T⟩:=o;obtain⟨t1,Q⟩:=v Gy rfl;have N:=UZ Gy s i (by omega);simp only[ET,n,T,and_self,CP,D2,show ¬((4:Int)=1) by decide,CR]at b;have t:i+((s.drop (i+1)).takeWhile Gy).length+1=i+tw Gy s i:=by omega
     rw[t]at b;refine O (i+tw Gy s i) a _ (by omega) (by omega) b (by omega) ?_;simp
    ·rw[J]at o;simp only[ET,n,q,z,F,o,CR,D2,show ¬((4:Int)=1) by decide,show ¬((4:Int)=2) by decide,show ¬((4:Int)=3) by decide,CP,gK]at b;simp[Mw];refine O (i+1) (a++[⟨3,[c],0,i⟩]) _ (by omega) (by simp;omega) b (by omega) ?_;simp[Ay.enc,J]
  ·have U:i=s.length:=by omega
   subst U;simp[Rr];refine re _ _ _ ?_;simp;refine Y1o hPp ?_;rw[Yl2 (B9 _)]at b;simp_all[MC,SP,BB]
end
def Bm.enc(s:Bm):D:=.agg [.AH 1 (s.AR.map D.AV),.AH 5 (s.Ac.map CK.enc),.AH 6 (s.AB.map Be.enc),.AH 5 (s.AP.map Cv.enc),.AH 5 (s.AJ.map Bh.enc),.AH 3 (s.AI.map Bi.enc)]
def Zan(b:Int):R Bm->V
|.ok s _=>.BU [.d s.enc,.d (.int .i64 0),.d (.int .i64 0)]
|.B0 a e=>.BU [.d Ri,.d (.int .i64 (VF b a)),.d (.int .i64 (OH a e))]
def T2(s:B):V:=if s.length > 65536 then .BU [.d Ri,.d (.int .i64 0),.d (.int .i64 2)] else match Jl s 0 with
|.B0 e=>.BU [.d Ri,.d (.int .i64 e),.d (.int .i64 90)]
|.ok l=>Zan s.length (Vp l)
section
attribute [local simp] CZ CF
section
variable {P:BE} (hPp:P.p=prog) (hI:Ez P)
include hPp
theorem Y1x{d:AE}{a b c:Nat}{K:AE->Prop}(h:K d):CL P 19 [.ptr a [],.ptr b [],.ptr c []] d none K:=by
 refine CL.ER λ_ e=>?_;refine Uk hPp AT Zuo Zqe Zqb A6.nil ?_;simp[nz,ny,Znk];refine⟨[],by simp,?_,?_⟩
 ·simp[e]
 ·simpa using h
theorem Y1y{a:Int}{b:List Ay}{s:Bm}{i e:Int}{K:AE->Prop}(h:K (AG (AG (AG (GW a b s) 0 (.box 30 (.d Ri))) 1 (.box 3 (.d (.int .i64 i)))) 2 (.box 31 (.d (.int .i64 e))))):CL P 19 [.ptr 0 [],.ptr 1 [],.ptr 2 []] (GW a b s) (some (.d (.iface 59 (.agg [.int .i64 i,.int .i64 e])))) K:=by
 refine CL.ER λ_ c=>?_;refine Uk hPp AT Zuo Zqe Zqb A6.nil ?_;simp[nz,ny,Znk,Yr2];refine⟨[],by simp,?_,?_⟩
 ·simp[AF,Zp]
 ·simpa[AF]using h
theorem Yn1:Xd P.p 19=true/\Xd P.p 20=true/\Xd P.p 21=true/\Xd P.p 22=true/\Xd P.p 23=true/\Xd P.p 24=true/\Xd P.p 25=true:=by
 rw[hPp];exact⟨by kernel_rfl,by kernel_rfl,by kernel_rfl,by kernel_rfl,by kernel_rfl,by kernel_rfl,by kernel_rfl⟩
def ri:Ab.Fn:=⟨λa=>match a with|[.d (.AV _)]=>True|_=>False,λa=>match a with|[.d (.AV s)]=>NK s|_=>.any⟩
omit hPp in
@[simp]theorem fnLex_val(s:B):ri.val [.d (.AV s)]=NK s:=rfl
omit hPp in
@[simp]theorem fnLex_pre(s:B):ri.pre [.d (.AV s)]=True:=rfl
theorem Zna:Mc P 12 ri:=λb h c K a=>by
 match b,h with
 |[.d (.AV s)],_=>exact Y1i hPp s a
include hI
theorem Y1z(t:B){x:Bm}(c:JO x)(i:Int)(k:List Ay):((if t=[105,115,115,117,101,114] then some (V.fn 20 [] []) else if t=[117,110,105,116] then some (V.fn 21 [] []) else if t=[115,99,104,101,109,97] then some (V.fn 22 [] []) else if t=[100,101,114,105,118,101] then some (V.fn 23 [] []) else if t=[99,111,110,118,101,114,116] then some (V.fn 24 [] []) else if t=[112,117,114,112,111,115,101] then some (V.fn 25 [] []) else none)=none/\GO t x=fail 100)\/∃f,(if t=[105,115,115,117,101,114] then some (V.fn 20 [] []) else if t=[117,110,105,116] then some (V.fn 21 [] []) else if t=[115,99,104,101,109,97] then some (V.fn 22 [] []) else if t=[100,101,114,105,118,101] then some (V.fn 23 [] []) else if t=[99,111,110,118,101,114,116] then some (V.fn 24 [] []) else if t=[112,117,114,112,111,115,101] then some (V.fn 25 [] []) else none)=some (V.fn f [] [])/\Xd P.p f=true/\∀K,PS K i (GO t x k)->Aa P f [.ptr 4 []] (GW i k x) K:=by
 obtain⟨s,l,m,n,o,q,r⟩:=Yn1 hPp;unfold GO;by_cases a:t=[105,115,115,117,101,114]
 ·simp only[a,CP,CR];refine .inr ⟨_,rfl,l,λK h=>?_⟩;exact Ynl hPp hI c h
 by_cases b:t=[117,110,105,116]
 ·simp only[a,b,CP,CR];refine .inr ⟨_,rfl,m,λK h=>?_⟩;exact Zba hPp hI c h
 by_cases d:t=[115,99,104,101,109,97]
 ·simp only[a,b,d,CP,CR];refine .inr ⟨_,rfl,n,λK h=>?_⟩;exact Ynm hPp hI c h
 by_cases e:t=[100,101,114,105,118,101]
 ·simp only[a,b,d,e,CP,CR];refine .inr ⟨_,rfl,o,λK h=>?_⟩;exact Za9 hPp hI c h
 by_cases g:t=[99,111,110,118,101,114,116]
 ·simp only[a,b,d,e,g,CP,CR];refine .inr ⟨_,rfl,q,λK h=>?_⟩;exact Yif hPp hI c h
 by_cases j:t=[112,117,114,112,111,115,101]
 ·simp only[a,b,d,e,g,j,CP,CR];refine .inr ⟨_,rfl,r,λK h=>?_⟩;exact Yik hPp hI c h
 ·simp only[a,b,d,e,g,j,CR];exact .inl ⟨trivial,trivial⟩
theorem Yue(s:B){y:AE}{K:V->Prop}(h:K (T2 s)):AW P 6 [.d (.AV s)] y K:=by
 refine Vy hPp AT (ds:=[.AV s]) ok6 lf6 (A6.cons (Zna hPp) A6.nil) ?_;obtain⟨n,G,H,J,L,N,O⟩:=Yn1 hPp;by_cases b:65536<s.length
 ·simp only[T2,gt_iff_lt,b,CP]at h;simp[c0,n,NK,b];exact h
 ·simp only[T2,gt_iff_lt,b,CR]at h;cases i:Jl s 0 with
  |B0 e=>
   simp only[i]at h;simp[c0,n,NK,b,i,SP];exact h
  |ok l=>
   simp only[i]at h;simp[c0,n,NK,b,i,SP,BB];refine Aw.go (ι:=Bm×List Ay) (λ_=>[(2,.ptr 0 []),(3,.ptr 1 []),(4,.ptr 2 []),(6,.mp 3),(7,.ptr 4 [])])
    (λj=>GW s.length j.2 j.1) (λj=>JO j.1/\Y0 j.2.length j.1 j.2=Vp l) (λj=>j.2.length) (Hi,l) ⟨Znv,rfl⟩ (by simp) (by simp) ?_
   rintro⟨x,q⟩ ⟨o,a⟩ R u z T F;dsimp only at o a u;cases q with
   |nil=>
    rw[ed]at a;rw[<-a]at h;simp[Ynp];refine z _ _ _ ?_;simp;refine Y1x hPp ?_;simp;exact h
   |cons t r=>
    have c:∀(ts':List Ay)(e:Int)(p:Bm),Vp l=.B0 ts' e->R (.panic (.d (HN s.length ts' e))) [(2,.ptr 0 []),(3,.ptr 1 []),(4,.ptr 2 [])] (GW s.length ts' p):=λts' e p i=>by
     refine F _ _ _ ?_;simp;refine Y1y hPp ?_;simp;rw[i]at h;exact h
    rw[Ip,Zx,Xh]at a;simp[Ynp,Ay.enc];have g:=Y1z hPp hI t.text o s.length (t::r);generalize (if t.text=[105,115,115,117,101,114] then _ else _:Option V)=Q at g⊢;rcases g with⟨rfl,g⟩|⟨f,rfl,w,g⟩
    ·simp;refine U5 hPp (S:=Zn x) (ts:=t::r) (en:=s.length) (by simp) (by simp) _ ?_;simp;refine c _ _ _ ?_;rw[<-a];simp only[D6,g,fail,ite_self]
    ·by_cases k:t.kind=1
     ·simp[k,Y02,w];refine g _ ?_;simp only[D6,k,CP]at a;cases m:GO t.text x (t::r) with
      |B0 ts' e=>
       simp only[m]at a;intro p;exact c _ _ _ a.symm
      |ok v ts'=>
       simp only[m]at a;have b:=(Rx _ _).2 _ _ _ m;refine u [] (v,ts') _ _ ⟨xJ o m,?_⟩ b (by simp) (by simp[AF]) (by simp[AF]) (by simp[AF,Zp]);simp only[Ip]at b;rw[<-Xjk r.length v ts' (by omega)];exact a
     ·simp[k];refine U5 hPp (S:=Zn x) (ts:=t::r) (en:=s.length) (by simp) (by simp) _ ?_;simp;refine c _ _ _ ?_;rw[<-a];simp only[D6,k,CR]
end
end
open Go.RowKit in
set_option maxHeartbeats 1000000 in
def NX(b:Nat)(w:World)(f:w.cell? ⟨b,0,none⟩=some (.pointer (some ⟨b,0,none⟩))):
 Calls prog 139 #[.pointer (some ⟨b,0,none⟩)] w λe d=>e=.returned (.tuple #[])/\d=w:=by
 have a:(prog.info? 127).map (·.size)=some 2:=by kernel_rfl
 obtain⟨j,c,_⟩:=Hg.1 a
 go_enter Tryz.func139,Tryz.ntmps139
 go_wp2
 rw[Lib.run_neq_ptr_same w _ Tryz.underlying124 c]
 go_wp2
 go_end0
 exact⟨rfl,rfl⟩
open Go.RowKit in
set_option maxHeartbeats 1000000 in
def LD(b:Nat)(w:World)(k:w.cell? ⟨b,0,none⟩=some (.pointer none))(a:w.shape? b=some (127,2))(h:w.frozen? ⟨b,0,none⟩=false):
 Calls prog 139 #[.pointer (some ⟨b,0,none⟩)] w λe i=>e=.returned (.tuple #[])/\i=w.setCell ⟨b,0,none⟩ (.pointer (some ⟨b,0,none⟩)):=by
 have f:(prog.info? 127).map (·.size)=some 2:=by kernel_rfl
 have g:liesAt prog prog.depth 127 (2 / prog.cellsOf 127) 0 127 1=true:=by kernel_rfl
 obtain⟨j,d,c⟩:=Hg.1 f
 go_enter Tryz.func139,Tryz.ntmps139
 go_wp2
 rw[Lib.run_to_unsafe w ⟨b,0,none⟩ Tryz.underlying124 Tryz.underlying295 d (by rw[c];decide) a (Nat.zero_lt_succ 1)];simp only[Result.andThen];rw[Oper.upon_value]
 go_wp2
 rw[run_callFunc_extern Tryz.func200 (by kernel_rfl) (by kernel_rfl) (by kernel_rfl) (e:=Extern.AbiNoEscape.same) (by kernel_rfl)];rw[Lib.run_noEscape];simp
 go_wp2
 rw[Lib.run_from_unsafe w ⟨b,0,none⟩ Tryz.underlying295 Tryz.underlying124 d a g];simp
 go_wp2
 go_end0
 exact⟨rfl,rfl⟩
def Ce:∀t:List UInt8,(BK t).length=t.length
|[]=>rfl
|_::r=>by simp[BK,Ce r]
def Dp:∀s t:List UInt8,BK (s++t)=BK s++BK t
|[],_=>rfl
|_::r,t=>by simp[BK,Dp r t]
def FG{b:AE}(a:Nat->Bool)(k:Nat)(h:AN a b=true):AN a (AG b k .Ar)=true:=by
 induction b with
 |nil=>rfl
 |cons e r c=>
  obtain⟨j,o⟩:=e;simp only[AG];split
  ·cases o<;>simp_all[AN]
  ·cases o<;>simp_all[AN]
include hP
theorem VI{j:AE}{x:Nat}(i:AD j x=some (.box 127 (.d (.agg [.CV,.Ah])))){K:BQ->AE->Prop}(h:K (.ret (.BU [])) (AG j x (.box 127 (.agg [.ptr x [],.d .Ah])))):Aa P 139 [.ptr x []] j K:=by
 refine⟨λw k l c N p=>?_⟩;obtain⟨b,L,n,a,r⟩:=c.Ba x _ i;obtain⟨F,G,rfl,rfl,H,J,rfl,rfl,rfl⟩:=r;simp only[V.BT,↓reduceCtorEq,false_or]at p;obtain⟨u,Q,rfl,s,rfl⟩:=p;have g:(V.ptr x []).A1 w k u:=s.elim (λh=>.inr (.inl h)) (λh=>.inr (.inr h));obtain⟨z,O,m,q⟩:=B2 c i g;rw[n]at m;obtain⟨rfl,rfl⟩:=m;have o:Sh.off (V.d (.agg [.CV,.Ah])).shape []=0:=rfl;subst q;rw[hP];have f:(V.agg [.ptr x [],.d .Ah]).Au w k [.pointer (some ⟨b,0,none⟩),.slice none 0 0]:=by
  grind[V.Au,Cg,D.A1]
 obtain⟨y,v⟩:=EG (t':=.agg [.ptr x [],.d .Ah]) c i n a rfl f;refine(LD b w (by simp[World.cell?,a]) (by simp[World.shape?,a]) (by simp[World.frozen?,a])).mono ?_;rintro e T ⟨rfl,rfl⟩;have t:w.setCell ⟨b,0,none⟩ (.pointer (some ⟨b,0,none⟩))=w.setRow b [.pointer (some ⟨b,0,none⟩),.slice none 0 0].toArray:=by
  simp only[World.setCell,World.setRow];congr 1;grind
 rw[t];exact⟨_,_,k,h,CY.2 ⟨[],rfl,rfl⟩,v,y⟩
theorem Oh{g:AE}{x:Nat}{v:V}(n:AD g x=some (.box 127 (.agg [.ptr x [],v]))){K:BQ->AE->Prop}(h:K (.ret (.BU [])) g):Aa P 139 [.ptr x []] g K:=by
 refine⟨λw o i d G m=>?_⟩;obtain⟨b,z,k,F,a⟩:=d.Ba x _ n;obtain⟨t,y,rfl,a,_⟩:=a;rcases a with⟨p,s,c,rfl⟩|⟨c,_⟩
 ·rw[k]at c;obtain⟨rfl,rfl⟩:=c;simp only[V.BT,↓reduceCtorEq,false_or]at m;obtain⟨u,H,rfl,r,rfl⟩:=m;have f:(V.ptr x []).A1 w o u:=r.elim (λh=>.inr (.inl h)) (λh=>.inr (.inr h));obtain⟨p,s,j,q⟩:=B2 d n f;rw[k]at j;obtain⟨rfl,rfl⟩:=j;have l:Sh.off (V.agg [.ptr x [],v]).shape []=0:=rfl;subst q;rw[hP];refine(NX b w (by simp_all[World.cell?])).mono ?_;rintro e J ⟨rfl,rfl⟩;exact⟨_,_,o,h,CY.2 ⟨[],rfl,rfl⟩,d,.refl _ _⟩
 simp_all
theorem tQ{a:AE}{x y:Nat}{c:Int}{l:List D}(e:AD a x=some (.box 127 (.agg [.ptr x [],.sl y l.length])))(f:AD a y=some (.BO 5 1 l))(g:l.length<=100000000){K:BQ->AE->Prop}(h:K (.ret (.d .CO)) (AG (AG a y (.BO 5 1 (l++[.int .u8 c]))) x (.box 127 (.agg [.ptr x [],.sl y (l.length+1)])))):Aa P 55 [.ptr x [],.d (.int .u8 c)] a K:=by
 have b:(y==x)=false:=by grind
 refine Ae hP AT uw.1 uw.2 A6.nil ?_;intro _ i;simp[dH];refine Oh hP e ?_;simp[e,f,b];refine⟨by omega,[],by simp,?_,?_⟩<;>simp_all[Ao,BR]
theorem VJ{a:AE}{x y:Nat}{t:List UInt8}{l:List D}(c:AD a x=some (.box 127 (.agg [.ptr x [],.sl y l.length])))(e:AD a y=some (.BO 5 1 l))(f:l.length+t.length<=100000000){K:BQ->AE->Prop}(h:K (.ret (.BU [.d (.int .i64 t.length),.d .CO])) (AG (AG a y (.BO 5 1 (l++BK t))) x (.box 127 (.agg [.ptr x [],.sl y (l.length+t.length)])))):Aa P 56 [.ptr x [],.d (.AV t)] a K:=by
 have b:(y==x)=false:=by grind
 refine Ae hP AT VU.1 VU.2 A6.nil ?_;intro _ g;simp[Sp];refine Oh hP c ?_;simp[c,e,b,Ce];refine⟨by omega,[],by simp,?_,?_⟩<;>simp_all[Ao,BR]
theorem Oi{a:AE}{x:Nat}{t:List UInt8}(b:AD a x=some (.box 127 (.d (.agg [.CV,.Ah]))))(c:t.length<=100000000){K:BQ->AE->Prop}(h:K (.ret (.BU [.d (.int .i64 t.length),.d .CO])) ((AA a,.BO 5 1 (BK t))::(AG a x (.box 127 (.agg [.ptr x [],.sl (AA a) t.length]))))):Aa P 56 [.ptr x [],.d (.AV t)] a K:=by
 refine Ae hP AT VU.1 VU.2 A6.nil ?_;intro _ e;simp[Sp];refine VI hP b ?_;simp[b,Ce];have f:AF (AA a) [AA a] (AA a)=false:=by simp[AF]
 refine⟨by omega,[AA a],by simp,?_,?_⟩<;>simp_all[AA,Ao]
theorem VH{a:AE}{x:Nat}(b:AD a x=some (.box 127 (.d (.agg [.CV,.Ah])))){K:BQ->AE->Prop}(h:K (.ret (.d (.AV []))) a):Aa P 58 [.ptr x []] a K:=by
 refine Ae hP AT VV.1 VV.2 A6.nil ?_;intro _ c;simp[Sq,b];refine⟨[],by simp,?_,?_⟩<;>simp_all
theorem tO{b:AE}{x y:Nat}{t:List UInt8}(i:AD b x=some (.box 127 (.agg [.ptr x [],.sl y t.length])))(j:AD b y=some (.BO 5 1 (BK t)))(k:t≠[])(l:t.length<=100000000){K:BQ->AE->Prop}(h:K (.ret (.d (.AV t))) (AG b y .Ar)):Aa P 58 [.ptr x []] b K:=by
 refine Ae hP AT VV.1 VV.2 A6.nil ?_;intro _ m;have f:BK t≠[]:=by cases t<;>simp_all[BK]
 simp[Sq,i,j,Ce,f];have e:∃E z a,(5=E/\1=z/\BK t=a)/\t.length=a.length:=⟨_,_,_,⟨rfl,rfl,rfl⟩,(Ce t).symm⟩
 have c:∃E g a,(5=E/\1=g/\BK t=a)/\¬g=0/\t.length=a.length/\¬a=[]:=⟨_,_,_,⟨rfl,rfl,rfl⟩,by decide,(Ce t).symm,f⟩
 first|refine⟨e,c,e,c,by omega,t,rfl,[],by simp,?_,?_⟩|refine⟨c,by omega,t,rfl,[],by simp,?_,?_⟩
 ·simp_all[FG]
 ·simpa using h
omit hP
end Go.Ab
namespace Go.Proofs
open Go.Shelf
open Go.Proofs.Tryz (prog)
def Rc9:Go.Shelf.Ren:=⟨λ| 171=>57|243=>140|246=>201|283=>245|284=>246|285=>247|286=>248|129=>262|317=>261|318=>263|319=>264|320=>265|337=>268|338=>269|n=>n,λ| 3=>3|9=>9|2=>2|4=>4|171=>347|0=>0|53=>348|37=>125|5=>5|173=>351|212=>363|51=>313|20=>20|213=>364|46=>338|232=>52|233=>354|n=>n,λ| 17=>7|18=>8|19=>9|n=>n⟩
def Rda:Go.Proofs.LaysM.n171 prog Rc9:={
 mixed:=by kernel_rfl
 f129:=Tryz.func262.trans (DH some (by kernel_rfl))
 f171:=Tryz.func57.trans (DH some (by kernel_rfl))
 f243:=Tryz.func140.trans (DH some (by kernel_rfl))
 f246:=Tryz.func201.trans (DH some (by kernel_rfl))
 f283:=Tryz.func245.trans (DH some (by kernel_rfl))
 f284:=Tryz.func246.trans (DH some (by kernel_rfl))
 f285:=Tryz.func247.trans (DH some (by kernel_rfl))
 f286:=Tryz.func248.trans (DH some (by kernel_rfl))
 f317:=Tryz.func261.trans (DH some (by kernel_rfl))
 f318:=Tryz.func263.trans (DH some (by kernel_rfl))
 f319:=Tryz.func264.trans (DH some (by kernel_rfl))
 f320:=Tryz.func265.trans (DH some (by kernel_rfl))
 f337:=Tryz.func268.trans (DH some (by kernel_rfl))
 f338:=Tryz.func269.trans (DH some (by kernel_rfl))
 t0:=Tryz.underlying0
 a0:=Tryz.isAgg0
 z0:=Tryz.sizeOf0
 v0:=Tryz.zeroValue0
 t2:=Tryz.underlying2
 a2:=Tryz.isAgg2
 z2:=Tryz.sizeOf2
 v2:=Tryz.zeroValue2
 t3:=Tryz.underlying3
 a3:=Tryz.isAgg3
 z3:=Tryz.sizeOf3
 v3:=Tryz.zeroValue3
 t4:=Tryz.underlying4
 a4:=Tryz.isAgg4
 z4:=Tryz.sizeOf4
 v4:=Tryz.zeroValue4
 t5:=Tryz.underlying5
 a5:=Tryz.isAgg5
 z5:=Tryz.sizeOf5
 v5:=Tryz.zeroValue5
 t9:=Tryz.underlying9
 a9:=Tryz.isAgg9
 z9:=Tryz.sizeOf9
 v9:=Tryz.zeroValue9
 t20:=Tryz.underlying20
 a20:=Tryz.isAgg20
 z20:=Tryz.sizeOf20
 v20:=Tryz.zeroValue20
 t37:=Tryz.underlying125
 a37:=Tryz.isAgg125
 z37:=Tryz.sizeOf125
 v37:=Tryz.zeroValue125
 t46:=Tryz.underlying338
 a46:=Tryz.isAgg338
 z46:=Tryz.sizeOf338
 v46:=Tryz.zeroValue338
 t51:=Tryz.underlying313
 a51:=Tryz.isAgg313
 z51:=Tryz.sizeOf313
 v51:=Tryz.zeroValue313
 t53:=Tryz.underlying348
 a53:=Tryz.isAgg348
 z53:=Tryz.sizeOf348
 v53:=Tryz.zeroValue348
 t171:=Tryz.underlying347
 a171:=Tryz.isAgg347
 z171:=Tryz.sizeOf347
 v171:=Tryz.zeroValue347
 t173:=Tryz.underlying351
 a173:=Tryz.isAgg351
 z173:=Tryz.sizeOf351
 v173:=Tryz.zeroValue351
 t212:=Tryz.underlying363
 a212:=Tryz.isAgg363
 z212:=Tryz.sizeOf363
 v212:=Tryz.zeroValue363
 t213:=Tryz.underlying364
 a213:=Tryz.isAgg364
 z213:=Tryz.sizeOf364
 t232:=Tryz.underlying52
 a232:=Tryz.isAgg52
 z232:=Tryz.sizeOf52
 v232:=Tryz.zeroValue52
 t233:=Tryz.underlying354
 a233:=Tryz.isAgg354
 z233:=Tryz.sizeOf354
 v233:=Tryz.zeroValue354
 g17:=by kernel_rfl
 g18:=by kernel_rfl
 g19:=by kernel_rfl
 i0:=by kernel_rfl
 i2:=by kernel_rfl
 i3:=by kernel_rfl
 i4:=by kernel_rfl
 i5:=by kernel_rfl
 i9:=by kernel_rfl
 i20:=by kernel_rfl
 i37:=by kernel_rfl
 i46:=by kernel_rfl
 i51:=by kernel_rfl
 i53:=by kernel_rfl
 i171:=by kernel_rfl
 i173:=by kernel_rfl
 i212:=by kernel_rfl
 i232:=by kernel_rfl
 i233:=by kernel_rfl
 m17:=by kernel_rfl
 m18:=by kernel_rfl
 m19:=by kernel_rfl}
open Go.RowKit Go.Sort Go.Lib in
def Tryz.strconv_Itoa(n:Int)(b:-9223372036854775808<=n)(c:n<=9223372036854775807)(w:World)(a:Lib.TabIs prog w "internal/strconv.uint64pow10" .u64 Lib.pow10Tab):
 Calls prog 57 #[.int .i64 n] w λe f=>e=.returned (.string ⟨(Lib.itoa n).toArray⟩)/\∃k d,f=grow (w.drewN k) d:=Any.strconv_Itoa Rda n b c w a
def Rdb:Go.Shelf.Ren:=⟨λ| 144=>138|143=>199|219=>244|217=>257|225=>258|224=>259|267=>260|266=>266|314=>267|n=>n,λ| 9=>9|4=>4|3=>3|5=>5|46=>338|146=>367|51=>313|n=>n,λ| 1=>6|n=>n⟩
def Rdc:Go.Proofs.Lays.n144 prog Rdb:={
 mixed:=by kernel_rfl
 f143:=Tryz.func199.trans (DH some (by kernel_rfl))
 f144:=Tryz.func138.trans (DH some (by kernel_rfl))
 f217:=Tryz.func257.trans (DH some (by kernel_rfl))
 f219:=Tryz.func244.trans (DH some (by kernel_rfl))
 f224:=Tryz.func259.trans (DH some (by kernel_rfl))
 f225:=Tryz.func258.trans (DH some (by kernel_rfl))
 f266:=Tryz.func266.trans (DH some (by kernel_rfl))
 f267:=Tryz.func260.trans (DH some (by kernel_rfl))
 f314:=Tryz.func267.trans (DH some (by kernel_rfl))
 t3:=Tryz.underlying3
 a3:=Tryz.isAgg3
 z3:=Tryz.sizeOf3
 v3:=Tryz.zeroValue3
 t4:=Tryz.underlying4
 a4:=Tryz.isAgg4
 z4:=Tryz.sizeOf4
 v4:=Tryz.zeroValue4
 t5:=Tryz.underlying5
 a5:=Tryz.isAgg5
 z5:=Tryz.sizeOf5
 v5:=Tryz.zeroValue5
 t9:=Tryz.underlying9
 a9:=Tryz.isAgg9
 z9:=Tryz.sizeOf9
 v9:=Tryz.zeroValue9
 t46:=Tryz.underlying338
 a46:=Tryz.isAgg338
 z46:=Tryz.sizeOf338
 v46:=Tryz.zeroValue338
 t51:=Tryz.underlying313
 a51:=Tryz.isAgg313
 z51:=Tryz.sizeOf313
 v51:=Tryz.zeroValue313
 t146:=Tryz.underlying367
 a146:=Tryz.isAgg367
 z146:=Tryz.sizeOf367
 v146:=Tryz.zeroValue367
 g1:=by kernel_rfl}
open Go.RowKit Go.Lib in
def Tryz.strings_Contains_one(s:ByteArray)(c:UInt8)(w:World):
 Calls prog 138 #[.string s,.string ⟨#[c]⟩] w λe a=>e=.returned (.bool (decide (0<=Lib.indexByte s.data.toList c)))/\a=w:=Any.strings_Contains_one Rdc s c w
end Go.Proofs
namespace Go.Ab
open Go Go.Proofs
open Go.Proofs.Tryz (prog)
variable {P:BE}(hP:P.p=prog)
def JF(s:List UInt8)(c:UInt8):Bool:=s.any λb=>b==c
def Sj:Ab.Fn:=⟨λa=>match a with|[.d (.AV _),.d (.AV t)]=>t.length=1|_=>False,λa=>match a with|[.d (.AV s),.d (.AV t)]=>.d (.bool (JF s (t.headD 0)))|_=>.any⟩
@[simp]def fnC_pre(s t:List UInt8):Sj.pre [.d (.AV s),.d (.AV t)]=(t.length=1):=by simp only[Sj]
@[simp]def fnC_val(s t:List UInt8):Sj.val [.d (.AV s),.d (.AV t)]=.d (.bool (JF s (t.headD 0))):=by simp only[Sj]
def Bc(t:Ay):Bool:=
 if t.kind=1 then A9 t.text&&decide (t.n=0)
 else if t.kind=2 then decide (t.text=[])&&decide (0<=t.n)&&decide (t.n<=1099511627776)
 else if t.kind=3 then decide (t.text.length=1)&&Ep (t.text.headD 0)&&decide (t.n=0)
 else false
def Oy(P:BE):Prop:=∃T f,P.g 7=some (.cells (Lib.pow10Tab.map λz=>Value.int .u64 z).toArray T f)
def LK(w:World)(k:Nat)(c:Array Obj):CM w (Go.Sort.grow (w.drewN k) c):=by
 refine⟨by simp[Go.Sort.grow],λb a=>?_,rfl,rfl,rfl,Nat.le_add_right _ _⟩;simp[Go.Sort.grow,O7,a]
def JC(s:List UInt8)(c:UInt8):decide (0<=Lib.indexByte s c)=JF s c:=by
 unfold JF;induction s with
 |nil=>rfl
 |cons b r e=>
  have f:=Lib.indexByte_ge r c;simp only[Lib.indexByte,List.any_cons,<-e];by_cases h:b==c
  ·simp[h]
  ·simp only[h];by_cases a:Lib.indexByte r c=-1
   ·simp[a]
   ·have d:(Lib.indexByte r c==-1)=false:=by simp[a]
    simp only[d,Bool.false_or];have:0<=Lib.indexByte r c:=by omega
    simp[this];omega
def H3(c:UInt8):JF [123,125,40,41,59,44,61,35,47,60,33,45,46,58,43] c=Ep c:=by
 unfold JF Ep Ic Di;congr 1;funext b;rw[E3];simp only[EN,D2,Int.natCast_inj];constructor
 ·intro h;rw[h]
 ·intro h;exact UInt8.toNat_inj.1 h
def tY(s:List UInt8):decide ((s.length:Int)=1)=decide (s.length=1):=by
 rw[E3];simp only[D2];omega
def VP(s:List UInt8):s[0]? = s.head?:=by cases s<;>rfl
include hP
theorem Hx:Mc P 138 Sj:=by
 intro p a m K b;simp only[Sj]at a b;split at a
 ·rename_i s t;simp only at b
  match t,a with
  |[c],_=>
   refine⟨λw q f l k g=>?_⟩;simp only[V.BT,↓reduceCtorEq,false_or,V.isAgg,BY,false_and,V.Au,D.A1,true_and,Mg,Ld]at g;obtain⟨u,o,rfl,h,n,i,rfl,d,rfl⟩:=g;subst h;subst d;rw[hP];refine(Tryz.strings_Contains_one ⟨s.toArray⟩ c w).mono ?_;rintro e j ⟨rfl,rfl⟩;refine⟨_,_,b,rfl,?_,CM.refl j⟩;rw[BW,JC];rfl
 ·cases a
theorem LC(b:Oy P)(n:Int)(s:0<=n)(i:n<=9223372036854775807){q:AE}{K:V->Prop}(h:K (.d (.AV (Lib.itoa n)))):AW P 57 [.d (.int .i64 n)] q K:=by
 refine⟨λw x c o l g=>?_⟩;simp only[V.BT,↓reduceCtorEq,false_or,V.isAgg,BY,false_and,V.Au,D.A1,true_and,Mg,Ld]at g;obtain⟨u,t,rfl,p,rfl⟩:=g;subst p;rw[hP];obtain⟨T,f,b⟩:=b;have j:=(o.EZ 7 _ (by rw[l,b])).1
 have a:Lib.TabIs prog w "internal/strconv.uint64pow10" .u64 Lib.pow10Tab:=by
  have m:prog.globalNamed "internal/strconv.uint64pow10" = some 7:=by kernel_rfl
  simp only[Lib.TabIs,World.var?,m,Dk,j]
 refine(Tryz.strconv_Itoa n (by omega) i w a).mono ?_;rintro e v ⟨rfl,k,r,rfl⟩;exact⟨_,_,h,rfl,CX.2 rfl,LK w k r⟩
theorem IT(t:Ay){j:AE}{K:V->Prop}(h:K (.d (.bool (Bc t)))):AW P 54 [.d t.enc] j K:=by
 refine AK hP AT (ds:=[t.enc]) uv.1 uv.2 (A6.cons (Cw hP) (A6.cons (Hx hP) A6.nil)) ?_;have a:∀x,x=Bc t->K (.d (.bool x)):=λb e=>e▸h;clear h;obtain⟨k,s,n,i⟩:=t;simp[dG,Ay.enc,H3];refine⟨λc=>a _ ?_,λc=>⟨λf=>a _ ?_,λf=>⟨λg=>⟨λl=>by omega,a _ ?_⟩,λg=>a _ ?_⟩⟩⟩
 ·subst c;simp[Bc,Bool.beq_eq_decide_eq]
 ·subst f;simp[Bc]
 ·subst g;simp[Bc,Bool.beq_eq_decide_eq,tY,Ep,VP]
 ·simp[Bc,c,f,g]
omit hP
def SZ(n:Nat):UInt8:=UInt8.ofNat (48+n % 10)
theorem Yt(n:Nat):Lib.decDigits n=(if n<10 then[] else Lib.decDigits (n / 10))++[SZ n]:=by
 rw[Lib.decDigits];split
 next h=>simp[SZ,Nat.mod_eq_of_lt h]
 ·simp[SZ]
theorem YE(n:Nat):(SZ n).toNat=48+n % 10:=by
 have:n % 10<10:=Nat.mod_lt _ (by decide);simp[SZ,UInt8.toNat_ofNat'];omega
def YT(n:Nat):Lib.itoa n=Lib.decDigits n:=by
 unfold Lib.itoa;rw[A5 (by omega)];rfl
def Q5(t:Ay):List UInt8:=if t.kind=2 then Lib.itoa t.n else t.text
def Zb:List Ay->List UInt8
|[]=>[]
|[t]=>Q5 t
|t::r=>Q5 t++32::Zb r
def K3(l:List Ay):V:=if l.all Bc then .BU [.d (.AV (Zb l)),.d (.int .i64 0)] else .BU [.d (.AV []),.d (.int .i64 90)]
def Xlj:∀(l:List Ay)(t:Ay),Zb (l++[t])=if l=[] then Q5 t else Zb l++32::Q5 t
|[],t=>rfl
|[a],t=>by simp[Zb]
|a::b::r,t=>by
 have h:=Xlj (b::r) t;simp only[F1,Zb]at h⊢;rw[h];simp
theorem Jd(n:Nat):(Lib.decDigits n).length<=n+1/\Lib.decDigits n≠[]:=by
 refine⟨?_,by rw[Yt];simp⟩;induction n using Nat.strongRecOn with
 |ind n a=>
  rw[Yt];split
  ·simp
  ·have:=a (n / 10) (by omega);simp;omega
def Xk7:∀(k n:Nat),n<10 ^ (k+1)->(Lib.decDigits n).length<=k+1
|0,n,h=>by rw[Yt,Bv (by omega)];simp
|k+1,n,h=>by
 rw[Yt];split
 ·simp
 ·have:=Xk7 k (n / 10) (by rw[Nat.pow_succ]at h;omega);simp;omega
def Tk{t:Ay}(h:Bc t=true):Q5 t≠[]/\(Q5 t).length<=32:=by
 unfold Bc at h;unfold Q5;split at h
 next e=>rw[A5 (by omega)];simp[A9]at h;refine⟨λe=>?_,by omega⟩;simp[e]at h
 ·split at h
  next e=>rw[Bv e];simp at h;obtain⟨N,a⟩:=RF h.1.2;rw[a,YT];exact⟨(Jd N).2,IE (Xk7 12 N (by omega)) (by decide)⟩
  ·rename_i e;rw[A5 e];split at h
   ·simp at h;refine⟨λe=>?_,by omega⟩;simp[e]at h
   ·cases h
def fE:∀(l:List Ay),(∀t∈l,Bc t=true)->(Zb l).length<=33*l.length
|[],_=>by simp[Zb]
|[t],h=>by have:=Tk (h t (by simp));simp[Zb];omega
|a::b::r,h=>by
 have e:=Tk (h a (by simp));have c:=fE (b::r) (λt d=>h t (by simp[d]));simp only[Zb,Dd,Ip]at c⊢;omega
def Ylr{l:List Ay}(h:∀t∈l,Bc t=true)(c:l≠[]):Zb l≠[]:=by
 match l,c with
 |[t],_=>exact(Tk (h t (by simp))).1
 |a::b::r,_=>simp[Zb]
theorem Xtf{l:List Ay}{k:Nat}(a:k<l.length):l.take (k+1)=l.take k++[l[k]]:=(dZ a).symm
def fW(p:UInt8->Bool)(r:List UInt8):(r.takeWhile p).length<=r.length:=(List.takeWhile_prefix p).length_le
def Ynb{c:UInt8}{r:List UInt8}{n:Nat}(h:ET c r=.skip n):n<=r.length:=by
 unfold ET at h;have:=fW Gy r
 (repeat' split at h)<;>(first|(cases h;omega)|cases h)
def Yzd{c:UInt8}{r:List UInt8}{k m:Int}{t:List UInt8}{n:Nat}(h:ET c r=.JN k t m n):n<=r.length:=by
 unfold ET at h;have a:=fW Wy r;have b:=fW Yj r
 (repeat' split at h)<;>(first|(cases h;omega)|cases h)
theorem Xr8{c:UInt8}{r:List UInt8}{n a:Nat}(h:ET c r=.skip n):Jl (c::r) a=Jl (r.drop n) (a+n+1):=by
 rw[Jl,h]
def gg{c:UInt8}{r:List UInt8}{k m:Int}{t:List UInt8}{n a:Nat}(h:ET c r=.JN k t m n):Jl (c::r) a=OV ⟨k,t,m,a⟩ (Jl (r.drop n) (a+n+1)):=by
 rw[Jl,h]
def Yl1{c:UInt8}{r:List UInt8}{a:Nat}(h:ET c r=.B0):Jl (c::r) a=.B0 a:=by
 rw[Jl,h]
def fG(a:Nat):Jl [] a=.ok []:=by rw[Jl]
def Ywn{M:List UInt8->Nat->Prop}(e:∀a,M [] a)
 (i:∀c r n a,ET c r=.skip n->n<=r.length->M (r.drop n) (a+n+1)->M (c::r) a)
 (j:∀c r k t m n a,ET c r=.JN k t m n->n<=r.length->M (r.drop n) (a+n+1)->M (c::r) a)
 (l:∀c r a,ET c r=.B0->M (c::r) a):∀s a,M s a:=by
 have d:∀N s a,s.length<=N->M s a:=by
  intro N;induction N with
  |zero=>
   intro s a h;have:s=[]:=RE.1 (by omega);subst this;exact e a
  |succ N g=>
   intro s a h;cases s with
   |nil=>exact e a
   |cons c r=>
    simp at h;have f:∀n,(r.drop n).length<=N:=λn=>by simp;omega
    cases b:ET c r with
    |skip n=>exact i c r n a b (Ynb b) (g _ _ (f n))
    |JN k t m n=>exact j c r k t m n a b (Yzd b) (g _ _ (f n))
    |B0=>exact l c r a b
 exact λs a=>d _ s a (B9 _)
def Qv(p:UInt8->Bool){z:UInt8}(a:p z=false):∀(r b:List UInt8),(r++z::b).takeWhile p=r.takeWhile p
|[],b=>by simp[List.takeWhile,a]
|c::r,b=>by
 simp only[F1,Mk,Qv p a r b]
def Xgc(p:UInt8->Bool):∀(r x:List UInt8),(r.takeWhile p).length<r.length->(r++x).takeWhile p=r.takeWhile p
|[],x,h=>by simp at h
|c::r,x,h=>by
 simp only[F1,Mk]at h⊢;split
 next a=>rw[a]at h;simp at h;rw[Xgc p r x h]
 ·rfl
def sH(c:UInt8)(r:List UInt8):Prop:=c=47/\r.head? = some 47
def Zat{c:UInt8}{r a:List UInt8}(h:(r.takeWhile Gy).length<r.length\/¬sH c r):ET c (r++32::a)=ET c r:=by
 have b:(r++32::a).takeWhile Wy=r.takeWhile Wy:=Qv _ (by decide) r a;have d:(r++32::a).takeWhile Yj=r.takeWhile Yj:=Qv _ (by decide) r a;have e:((r++32::a).head? = some 47)=(r.head? = some 47):=by cases r<;>simp
 unfold ET;rw[b,d];simp only[e];rcases h with h|h
 ·rw[Xgc _ _ _ h]
 ·have f:¬(c=47/\r.head? = some 47):=h;simp only[A5 f]
def nm(b:B):Prop:=A9 b=true
def Zq(b a n:Int):Prop:=b<=n/\n<=a
instance (lo hi n:Int):Decidable (Zq lo hi n):=by unfold Zq;exact inferInstance
def Cr.wf:Cr->Prop
|.num n=>Zq 0 1048576 n
|.path a b=>nm a/\nm b
def rq{a:Type}(p:a->Prop):Option a->Prop
|none=>True
|some x=>p x
structure DC.wf(f:DC):Prop where
 name:nm f.name
 kind:nm f.kind
 Bo:rq (λx=>nm x.1/\nm x.2) f.Bo
structure DJ.wf(f:DJ):Prop where
 op:Zq 1 4 f.op
 a:f.a.wf
 b:f.b.wf
structure DK.wf(f:DK):Prop where
 path:nm f.path
 BZ:f.BZ.wf
structure DE.wf(f:DE):Prop where
 B1:nm f.B1
 Aq:nm f.Aq
 shift:Zq (-1048576) 1048576 f.shift
structure Fz.wf(f:Fz):Prop where
 name:nm f.name
 path:nm f.path
def Tm(a:Nat)(l:List B):Prop:=l≠[]/\l.length<=a/\∀x∈l,nm x
def B6.wf:B6->Prop
|.num c b a=>Zq 0 1048576 c/\Zq 0 1048576 b/\rq nm a
|.Hy=>True
|.Cz=>True
|.Dq l=>Tm 16 l
structure Field.wf(f:Field):Prop where
 name:nm f.name
 type:f.type.wf
 JE:f.AQ.length=4
 AQ:∀x∈f.AQ,Zq 0 9 x
structure Bx.wf(f:Bx):Prop where
 names:Tm 11 f.names
 name:nm f.name
structure CK.wf(f:CK):Prop where
 name:nm f.name
 Bo:rq (λx=>Zq 2 1000 x.1/\nm x.2) f.Bo
structure Be.wf(f:Be):Prop where
 name:nm f.name
 Dy:nm f.Dy
 BL:Zq 1 255 f.BL
 LY:∃w r,f.AL=⟨[115,101,108,102],.Cz,w⟩::r
 CB:f.AL.length<=12
 AL:∀x∈f.AL,x.wf
 LQ:f.AU.length<=8
 AU:∀x∈f.AU,x.wf
structure Cv.wf(f:Cv):Prop where
 head:nm f.head
 some_:f.Ad≠[]
 CB:f.Ad.length<=3
 Ad:∀x∈f.Ad,x.wf
 LQ:f.AY.length<=8
 AY:∀x∈f.AY,x.wf
 Om:f.BC.length<=11
 BC:∀x∈f.BC,x.wf
structure Bh.wf(f:Bh):Prop where
 Aq:nm f.Aq
 B1:nm f.B1
 CB:f.Ag.length<=11
 Ag:∀x∈f.Ag,x.wf
structure Bi.wf(f:Bi):Prop where
 name:nm f.name
 CB:f.CC.length<=32
 CC:∀x∈f.CC,x.wf
 most:Zq 0 32 f.most
structure Bm.wf(s:Bm):Prop where
 CB:JO s
 AR:∀x∈s.AR,nm x
 Ac:∀x∈s.Ac,x.wf
 AB:∀x∈s.AB,x.wf
 AP:∀x∈s.AP,x.wf
 AJ:∀x∈s.AJ,x.wf
 AI:∀x∈s.AI,x.wf
def Xx{c:Type}(m:M c)(p:c->Prop):Prop:=∀b a r,(∀t∈b,Bc t=true)->m b=.ok a r->p a
section
variable {α β:Type} {p:α->Prop} {q:β->Prop}
def Xx.pure{a:α}(h:p a):Xx (pure a:M α) p:=λ_ _ _ _ e=>by cases e;exact h
theorem Xx.fail(e:Int):Xx (fail e:M α) p:=λ_ _ _ _ e=>by cases e
def Xx.bind{m:M α}{f:α->M β}(g:Bb m)(i:Xx m p)(d:∀a,p a->Xx (f a) q):Xx (m >>= f) q:=λk b r c h=>by
 rw[Xh]at h;cases e:m k with
 |B0 a b=>rw[e]at h;cases h
 |ok a l=>
  rw[e]at h;exact d a (i _ _ _ c e) _ _ _ (λt j=>c t ((g.ok e).mem j)) h
def Xx.ite{c:Prop}[Decidable c]{a b:M α}(d:Xx a p)(e:Xx b p):Xx (if c then a else b) p:=by split<;>assumption
def Xx.Ex{c:List Ay->Bool}{a b:M α}(e:Xx a p)(f:Xx b p):Xx (Ex c a b) p:=λg x r d h=>by
 simp only[Go.Ab.Ex]at h;split at h
 ·exact e _ _ _ d h
 ·exact f _ _ _ d h
def Xx.any{m:M α}:Xx m λ_=>True:=λ_ _ _ _ _=>trivial
end
def Wa:Xx Yu nm:=λd a r c h=>by
 rw[nC]at h;cases d with
 |nil=>simp[Xq]at h
 |cons x p=>
  simp only at h;split at h
  next b=>cases h;have:=c x (by simp);simp[Xq]at b;simp[Bc,b]at this;exact this.1
  ·cases h
def Ui(c b:Int):Xx (Yi c b) (Zq c b):=λd a r _ h=>Xlu h
def Yrh(n m:Nat):Xx (V1 n m) λ_=>n≠m:=λb a r _ h=>by
 grind[V1]
def PR{d:Type}{p:d->Prop}{k:Int}{t:B}{b:M d}(g:Bb b)(e:Qj b)(h:Xx b p):∀n,Xx (X9 (Xq k t) b n) λl=>l.length<=n/\∀x∈l,p x
|0=>λi a r f c=>by
 grind[X9]
|n+1=>λi a r f c=>by
 simp only[X9]at c;split at c
 ·exact(h.bind g λa m=>(PR g e h n).bind (Yq g e n) λl j=>Xx.pure (p:=λl:List d=>l.length<=n+1/\∀x∈l,p x) (a:=a::l) ⟨by simp;exact j.1,by simp_all⟩) i a r f c
 ·cases c;simp
def qP:Xx OP λx=>nm x.1/\nm x.2:=Wa.bind Xm λ_ a=>Xx.any.bind (Xi _) λ_ _=>Wa.bind Xm λ_ b=>.pure ⟨a,b⟩
def qQ:Xx Hq Cr.wf:=λc a r b h=>by
 simp only[Hq]at h;split at h
 ·exact((Ui 0 1048576).bind (Ya _ _) λn d=>Xx.pure (p:=Cr.wf) (a:=.num n) d) c a r b h
 ·exact(qP.bind Vl λx e=>Xx.pure (p:=Cr.wf) (a:=.path x.1 x.2) e) c a r b h
def Za3:Xx Hk DC.wf:=Xx.any.bind (Xs _) λ_ _=>Wa.bind Xm λ_ a=>Wa.bind Xm λ_ b=>Xx.any.bind (Xw _ _) λ_ _=>.ite (qP.bind Vl λ_ c=>Xx.any.bind (Xi _) λ_ _=>.pure ⟨a,b,c⟩) (Xx.any.bind (Xi _) λ_ _=>.pure ⟨a,b,trivial⟩)
def Z2j:Xx QB (Zq 1 4):=Xx.any.bind (Xw _ _) λ_ _=>.ite (.pure (by decide)) (Xx.any.bind (Xw _ _) λ_ _=>.ite (Xx.any.bind (Xw _ _) λ_ _=>.pure (by split<;>decide)) (Xx.any.bind (Xi _) λ_ _=>Xx.any.bind (Xi _) λ_ _=>.pure (by decide)))
def Yzt:Xx Kw DJ.wf:=Xx.any.bind (Xs _) λ_ _=>qQ.bind Wt λ_ a=>Z2j.bind ji λ_ b=>qQ.bind Wt λ_ c=>Xx.any.bind (Xi _) λ_ _=>.pure ⟨b,a,c⟩
def Znf:Xx K7 DK.wf:=Xx.any.bind (Xs _) λ_ _=>Wa.bind Xm λ_ a=>Xx.any.bind (Xi _) λ_ _=>qQ.bind Wt λ_ b=>Xx.any.bind (Xi _) λ_ _=>.pure ⟨a,b⟩
def Yzq:Xx PY (Zq (-1048576) 1048576):=Xx.any.bind (Xw _ _) λ_ _=>.ite (λc a r b h=>by have:=Ui _ _ _ _ _ b h;grind[Zq])
 (Xx.any.bind (Xw _ _) λ_ _=>.ite ((Ui 0 1048576).bind (Ya _ _) λ_ h=>.pure (by grind[Zq])) (.pure (by decide)))
def Za5:Xx I4 DE.wf:=Wa.bind Xm λ_ a=>Xx.any.bind (Xi _) λ_ _=>Wa.bind Xm λ_ b=>Yzq.bind eZ λ_ c=>Xx.any.bind (Xi _) λ_ _=>.pure ⟨a,b,c⟩
def Znd:Xx K6 Fz.wf:=Xx.any.bind (Xs _) λ_ _=>qP.bind Vl λ_ a=>Xx.any.bind (Xi _) λ_ _=>.pure ⟨a.1,a.2⟩
def sB:∀n,Xx (GQ n) λl=>l.length=n/\∀x∈l,Zq 0 9 x
|0=>.pure (by simp)
|n+1=>(Ui 0 9).bind (Ya _ _) λa c=>(sB n).bind (Ji n) λl b=>.pure ⟨by simp[b.1],by simp_all⟩
def xX(n:Nat)(d:1<=n):Xx (Qq n) (Tm n):=Wa.bind Xm λa b=>(PR (p:=nm) ((Xi _).bind λ_=>Xm) ((XR _).bind λ_=>Xm) (Xx.any.bind (Xi _) λ_ _=>Wa) (n-1)).bind (Yq ((Xi _).bind λ_=>Xm) ((XR _).bind λ_=>Xm) _) λl c=>.pure ⟨by simp,by simp;omega,by simp_all⟩
def Za4:Xx Ky B6.wf:=Xx.any.bind (Xw _ _) λ_ _=>.ite
 ((Ui 0 1048576).bind (Ya _ _) λ_ a=>Xx.any.bind (Xs _) λ_ _=>(Ui 0 1048576).bind (Ya _ _) λ_ b=>Xx.any.bind (Xw _ _) λ_ _=>.ite (Wa.bind Xm λ_ c=>.pure ⟨a,b,c⟩) (.pure ⟨a,b,trivial⟩))
 (Xx.any.bind (Xw _ _) λ_ _=>.ite (.pure trivial) (Xx.any.bind (Xw _ _) λ_ _=>.ite (.pure trivial) (Xx.any.bind (Xw _ _) λ_ _=>.ite ((xX 16 (by decide)).bind (Uv _) λ_ h=>.pure h) (.fail _))))
def Yzl:Xx Mr Field.wf:=Xx.any.bind (Xs _) λ_ _=>Wa.bind Xm λ_ b=>Xx.any.bind (Xi _) λ_ _=>Za4.bind fQ λ_ c=>(sB 4).bind (Ji 4) λ_ a=>Xx.any.bind (Xi _) λ_ _=>.pure ⟨b,c,a.1,a.2⟩
def Yng:Xx PD Bx.wf:=Xx.any.bind (Xs _) λ_ _=>(xX 11 (by decide)).bind (Uv _) λ_ a=>Xx.any.bind (Xs _) λ_ _=>Wa.bind Xm λ_ b=>Xx.any.bind (Xi _) λ_ _=>.pure ⟨a,b⟩
def qO:∀n s,s.wf->Xx (I5 n s) Be.wf
|0,_,_=>.fail _
|n+1,s,e=>Xx.any.bind (Xw _ _) λ_ _=>.ite (.pure e) (.Ex
 ((Yrh _ _).bind (Yr _ _) λ_ l=>Yzl.bind Xle λf k=>qO n _ (by
  obtain⟨a,b,c,⟨w,r,d⟩,g,h,i,j⟩:=e;refine⟨a,b,c,⟨w,r++[f],by simp[d]⟩,by simp;omega,?_,i,j⟩;grind))
 (.Ex ((Yrh _ _).bind (Yr _ _) λ_ l=>Yng.bind Xiq λf k=>qO n _ (by
  obtain⟨a,b,c,d,g,h,i,j⟩:=e;refine⟨a,b,c,d,g,h,by simp;omega,?_⟩;grind)) (.fail _)))
def Yyu:nm [115,101,108,102]:=by unfold nm;decide
def Yh4:Xx Rq nm:=Xx.any.bind (Xs _) λ_ _=>Wa.bind Xm λ_ h=>Xx.any.bind (Xi _) λ_ _=>.pure h
def Yzs:Xx PB CK.wf:=Xx.any.bind (Xs _) λ_ _=>Wa.bind Xm λ_ a=>Xx.any.bind (Xw _ _) λ_ _=>.ite ((Ui 2 1000).bind (Ya _ _) λ_ b=>Wa.bind Xm λ_ c=>Xx.any.bind (Xi _) λ_ _=>.pure ⟨a,b,c⟩) (Xx.any.bind (Xi _) λ_ _=>.pure ⟨a,trivial⟩)
def Yh7:Xx Ry Be.wf:=Xx.any.bind (Xs _) λ_ _=>Wa.bind Xm λ_ b=>Xx.any.bind (Xs _) λ_ _=>Wa.bind Xm λ_ c=>Xx.any.bind (Xs _) λ_ _=>(Ui 1 255).bind (Ya _ _) λ_ d=>Xx.any.bind (Xs _) λ_ _=>(sB 4).bind (Ji 4) λw a=>Xx.any.bind (Xi _) λ_ _=>
 qO _ _ ⟨b,c,d,⟨w,[],rfl⟩,by simp,by
  intro x e;rw[O6.1 e];exact⟨Yyu,trivial,a.1,a.2⟩,by simp,by simp⟩
def Yzp:Xx Rh Cv.wf:=Xx.any.bind (Xs _) λ_ _=>Wa.bind Xm λ_ n=>Xx.any.bind (Xi _) λ_ _=>λj a r k h=>by
 simp only[Ex]at h;split at h
 ·rename_i o;have q:∀l r,X9 (Xq 1 [102,114,111,109]) Hk 3 j=.ok l r->l≠[]:=by
   intro l r c e;subst e;simp only[X9,o,CP]at c;rw[Xh]at c;cases d:Hk j with
   |B0 a b=>rw[d]at c;cases c
   |ok f i=>
    rw[d]at c;simp only[Xh]at c;split at c<;>simp_all
  rw[Xh]at h;cases d:X9 (Xq 1 [102,114,111,109]) Hk 3 j with
  |B0 a b=>rw[d]at h;cases h
  |ok l i=>
   rw[d]at h;have c:=PR XW XP Za3 3 j l i k d;exact((PR XI XH Yzt 8).bind (Yq XI XH 8) λw m=>(PR YO YG Znf 11).bind (Yq YO YG 11) λt g=>Xx.any.bind (Xi _) λ_ _=>Xx.pure (p:=Cv.wf) ⟨n,q l i d,c.1,c.2,m.1,m.2,g.1,g.2⟩) i a r (λt g=>k t (((Yq XW XP 3).ok d).mem g)) h
 ·cases h
def X62:Xx Rl Bh.wf:=Xx.any.bind (Xs _) λ_ _=>Wa.bind Xm λ_ b=>Xx.any.bind (Xs _) λ_ _=>Wa.bind Xm λ_ c=>Xx.any.bind (Xi _) λ_ _=>(PR fR fN Za5 11).bind (Yq fR fN 11) λ_ a=>Xx.any.bind (Xi _) λ_ _=>.pure ⟨b,c,a.1,a.2⟩
def X63:Xx Ro Bi.wf:=Xx.any.bind (Xs _) λ_ _=>Wa.bind Xm λ_ b=>Xx.any.bind (Xi _) λ_ _=>(PR gZ fp Znd 32).bind (Yq gZ fp 32) λ_ a=>Xx.any.bind (Xs _) λ_ _=>(Ui 0 32).bind (Ya _ _) λ_ c=>Xx.any.bind (Xi _) λ_ _=>Xx.any.bind (Xi _) λ_ _=>.pure ⟨b,a.1,a.2,c⟩
def SW{b:Type}{p:b->Prop}{l:List b}{a:b}(h:∀x∈l,p x)(c:p a):∀x∈l++[a],p x:=λx d=>by
 grind
def Za2{t:B}{s:Bm}(b:s.wf):Xx (GO t s) Bm.wf:=λg f r e h=>by
 have c:=xJ b.CB h;unfold GO at h;split at h
 ·rw[fV]at h;obtain⟨_,a,d,rfl⟩:=Vx h;exact⟨c,SW b.AR (Yh4 _ _ _ e d),b.Ac,b.AB,b.AP,b.AJ,b.AI⟩
 split at h
 ·rw[dj]at h;obtain⟨_,a,d,rfl⟩:=Vx h;exact⟨c,b.AR,SW b.Ac (Yzs _ _ _ e d),b.AB,b.AP,b.AJ,b.AI⟩
 split at h
 ·rw[fj]at h;obtain⟨_,a,d,rfl⟩:=Vx h;exact⟨c,b.AR,b.Ac,SW b.AB (Yh7 _ _ _ e d),b.AP,b.AJ,b.AI⟩
 split at h
 ·rw[dh]at h;obtain⟨_,a,d,rfl⟩:=Vx h;exact⟨c,b.AR,b.Ac,b.AB,SW b.AP (Yzp _ _ _ e d),b.AJ,b.AI⟩
 split at h
 ·rw[eS]at h;obtain⟨_,a,d,rfl⟩:=Vx h;exact⟨c,b.AR,b.Ac,b.AB,b.AP,SW b.AJ (X62 _ _ _ e d),b.AI⟩
 split at h
 ·rw[ee]at h;obtain⟨_,a,d,rfl⟩:=Vx h;exact⟨c,b.AR,b.Ac,b.AB,b.AP,b.AJ,SW b.AI (X63 _ _ _ e d)⟩
 ·cases h
def Yh5:∀n s,s.wf->Xx (Y0 n s) Bm.wf
|n,s,g=>λk x r c h=>by
 match n,k,h,c with
 |n,[],h,_=>simp_all[ed]
 |0,t::p,h,_=>cases h
 |n+1,t::p,h,c=>
  rw[Zx,Xh]at h;cases e:D6 s (t::p) with
  |B0 a b=>rw[e]at h;cases h
  |ok j f=>
   rw[e]at h;have d:∀t∈f,Bc t=true:=λu i=>c u (((wP s).ok e).mem i);simp only[D6]at e;split at e
   ·exact Yh5 n j (Za2 g _ _ _ c e) f x r d h
   ·cases e
def wf0:Hi.wf:=⟨Znv,by simp,by simp,by simp,by simp,by simp,by simp⟩
def ZF{l r:List Ay}{x:Bm}(a:∀t∈l,Bc t=true)(h:Vp l=.ok x r):x.wf:=Yh5 _ _ wf0 _ _ _ a h
def Lo:Xf->List Nat->List V->Xf
|sl,p::a,v::b=>Lo ((p,v)::sl) a b
|sl,_,_=>sl
def Oq(id n:Nat)(d:Hc)(c:AE)(K:AE->Prop):Option Ob->Prop
|some (.lp b _ a)=>Yh n K [] (AG c id (.lp b d a))
|_=>False
def VX(id n:Nat)(K:BQ->AE->Prop):Z5
|.normal,_,a=>Oq id n .ready a (K (.ret (.d (.bool true)))) (AD a id)
|.ret,_,a=>Oq id n .ret a (K (.ret (.d (.bool false)))) (AD a id)
|.exit m,_,a=>Oq id n (.exit m) a (K (.ret (.d (.bool false)))) (AD a id)
|.panic _,_,_=>False
def u4(P:BE)(y:S)(id n:Nat)(K:BQ->AE->Prop)(d:Xf)(c:AE):Option Ob->Prop
|some (.lp b .ready a)=>EX P y (VX id n K) d (AG c id (.lp b .busy a))
|_=>False
def u3(P:BE)(y:S)(id n:Nat)(K:BQ->AE->Prop):Z5
|.normal,b,a=>u4 P y id n K b a (AD a id)
|_,_,_=>False
section
variable {w:World} {ρ:BF}
def Yb6{a:Xf}{t:Array Value}(h:∀p∈a,p.2.A1 w ρ (t.getD p.1 undef))(k:Nat):(BG a k).A1 w ρ (t.getD k undef):=by
 grind[Yl7,Nv]
def Xqq:∀(a:List Nat)(b:List V)(f:List Value)(d:Xf)(t:Array Value),V.BT w ρ b f->b.length=a.length->(∀p∈a,p<t.size)->(∀k,(BG d k).A1 w ρ (t.getD k undef))->
 ∀k,(BG (Lo d a b) k).A1 w ρ (((a.zip f).foldl (λ(t:Array Value) (x:Nat×Value)=>t.setIfInBounds x.1 x.2) t).getD k undef)
|[],b,f,d,t,l,c,_,h,k=>by
 cases b with
 |nil=>exact h k
 |cons v r=>simp at c
|p::a,[],f,d,t,l,c,_,h,k=>by simp at c
|p::a,v::b,f,d,t,l,c,s,h,k=>by
 obtain⟨u,m,rfl,n,o⟩:=l;refine Xqq a b m _ _ o (by simpa using c) (λq y=>by simp_all) (λj=>?_) k;have i:=s p (by simp);simp only[BG];split
 next e=>subst e;have g:v.A1 w ρ u:=n;simpa[i]using g
 simp_all
theorem Xrp:∀(l:List (Nat×Value)) (t:Array Value),(l.foldl (λ(t:Array Value) (x:Nat×Value)=>t.setIfInBounds x.1 x.2) t).size=t.size
|[],_=>rfl
|x::r,t=>by simp;rw[Xrp r];simp
end
def DI.of{P:BE}(hm:P.p.follows .mixedOrders=true){id ai:Nat}{ps:List Nat}{x y:S}{Z:Xf}{ob:AE}{vs:List V}{K:BQ->AE->Prop}(hL:PH P ai ps x y)(hl:AD ob id=some (.lp ai .ready Z))(ad:vs.length=ps.length)
 (h:EX P x (u3 P y id (AA ob) K) (Lo Z ps vs) ob):DI P id vs ob K:=by
 refine⟨λw J G b hO hg hr hb=>?_⟩;obtain⟨b',fn,tm,dd,qs,ca,cb,g1,g2,g3,g4⟩:=hO.Ba _ _ hl;rw[hb]at g1;cases g1;rw[hg]at g3;have hc:=(hL qs tm.size ca cb).1 g3;simp only[BX,EN,Fl,D2]at hc;obtain⟨⟨⟨⟨⟨aq,ap⟩,aj⟩,ak⟩,an⟩,ao⟩:=hc;have ay:G.length=ps.length:=by grind[Zy]
 let aa:Array Value:=(qs.zip G.toArray).foldl (λtmps (x:Nat×Value)=>tmps.setIfInBounds x.1 x.2) tm;have av:aa=(ps.zip G).foldl (λ(t:Array Value) (x:Nat×Value)=>t.setIfInBounds x.1 x.2) tm:=by
  simp only[aa,<-Array.foldl_toList,Array.toList_zip,aq]
 have ac:(Instr.getLoop b).run P.p w=.ok {state:=.ready,pending:=none,fn:=fn,tmps:=tm,params:=qs,assign:=ca,body:=cb,defers:=dd} w:=by
  simp[Instr.getLoop,getObj,Sem.run,g2,Hc.st,Hc.D0]
 refine⟨fn,aa,ca,cb,?_,?_⟩
 ·have au:G.toArray.size=qs.size:=by
   grind
  simp only[Instr.yield,Cm,ac,Ch];rw[A5 (by simp[au])];grind[Sem.run_pure]
 ·refine roundIn_of_wpIn (F:=Fence.wide) trivial ?_;let c:EH:=⟨w,FW J,tm.size,[],P.g,J.m,[(.hd true id,.func (.yield b) #[] #[])],false⟩
  have m:De c J.xo J (Lo Z ps vs) ob {tmps:=aa,defers:=[] } w:=by
   refine⟨⟨B9 _,λ_ _ _=>rfl,λb h=>.inr h,rfl,rfl,rfl,λid o h=>⟨o,h,.refl o⟩,λp hp=>?_,B9 _⟩,hO,λk=>?_,?_,Fa.nil,rfl,hg⟩
   ·simp only[c,O6]at hp;subst hp;exact Mq.2 (.inl ⟨b,hb,rfl⟩)
   ·rw[av];exact Xqq ps vs G Z tm hr ad ap (Yb6 g4) k
   grind[Xrp]
  have a5:∀kp i o,J.m i=some o->AF (AA ob) kp i=false:=λkp i o h0=>by
   obtain⟨x,hx⟩:=hO.Ev i o h0;grind[AA,Ys,AF]
  -- the loop's s,wherever the round stands
  have s:∀{q:World}{a:BF}{z:Xf}{f:AE}{X:Act}{tg:Nat}{st st':Hc}{sk:Xf},De c J.xo a z f X q->AD f id=some (.lp tg st sk)->
   ∃r:Loop,(Instr.getLoop b).run P.p q=.ok r q/\r.state=st.st/\(setObj b (.loop {r with state:=st'.st,pending:=st'.D0})).run P.p q=.ok () (Et q b (.loop {r with state:=st'.st,pending:=st'.D0}))/\r.pending=st.D0/\
    De c J.xo a z (AG f id (.lp tg st' sk)) X (Et q b (.loop {r with state:=st'.st,pending:=st'.D0})):=by
   intro q a z f X tg st st' sk l Y;obtain⟨b2,T,W,Q,U,N,O,k1,k2,k3,k4⟩:=l.om.Ba _ _ Y;have hx:=l.BA.ext (.hd true id,.func (.yield b) #[] #[]) (by simp[c]);rw[Mq]at hx;rcases hx with⟨b3,hx,e⟩|⟨hx,_⟩
   ·rw[k1]at hx;cases hx;simp only[LM,Value.func.injEq,Go.Fn.yield.injEq,Ld]at e;subst e;refine⟨{state:=st.st,pending:=st.D0,fn:=T,tmps:=W,params:=U,assign:=N,body:=O,defers:=Q},by simp[Instr.getLoop,getObj,Sem.run,k2],rfl,XM q k2 rfl,rfl,?_⟩;have af:D5 (Et q b (.loop {state:=st'.st,pending:=st'.D0,fn:=T,tmps:=W,params:=U,assign:=N,body:=O,defers:=Q})) a id (.lp tg st' sk):=by
     refine⟨b,T,W,Q,U,N,O,k1,XQ q _ (Xu k2),k3,λp hp=>?_⟩;have t1:Tr q a (Et q b (.loop {state:=st'.st,pending:=st'.D0,fn:=T,tmps:=W,params:=U,assign:=N,body:=O,defers:=Q})) a:=by
      refine⟨by simp[U2,B9],λj hj _=>Wn q _ (λe=>hj ?_),λ_ h=>.inl h,rfl,rfl,λ_ o h=>⟨o,h,.refl o⟩,rfl,rfl,rfl,B9 _⟩;subst e;exact⟨id,_,k1,rfl⟩
     grind[HD]
    obtain⟨t1,o1⟩:=yD (o:=.loop {state:=st'.st,pending:=st'.D0,fn:=T,tmps:=W,params:=U,assign:=N,body:=O,defers:=Q}) l.om Y k1 (Xu k2) (x:=.lp tg st' sk) af;exact⟨l.BA.tr t1,o1,l.sm.tr t1,l.size,l.df.tr t1,t1.xo.trans l.xo,t1.gl.trans l.gl⟩
   simp_all
  have tr:∀{q:World}{a:BF}{z:Xf}{f:AE}{X:Act},De c J.xo a z f X q->∀kp,Tr w J q (a.Cs (AF (AA ob) kp)):=λ{q a z f X} l kp=>by
   refine⟨l.BA.size,λb h1 h2=>l.BA.keep b h2 h1,λb h1=>(l.BA.DY b (Vc h1)).symm,?_,?_,λid o h1=>?_,l.BA.tape,l.BA.os,l.BA.C3,l.BA.drawn⟩
   ·show a.xo=J.xo;rw[l.xo]
   ·show a.gl=J.gl;rw[l.gl,hg]
   ·obtain⟨o',h3,h4⟩:=l.BA.same id o h1;simp_all[BF.Cs]
  have CG:∀{q:World}{a:BF}{z:Xf}{f:AE}{X:Act}{st:Hc}{H:Option Code}{v:Bool},De c J.xo a z f X q->st.st=(if H.isNone then .ready else .done)->st.D0=H->H.isNone=v->Oq id (AA ob) st f (K (.ret (.d (.bool v)))) (AD f id)->
   ∃u w4,(Instr.endRound b H).run P.p q=.ok u w4/\∃ah ag ab,K ah ag/\Un w4 ab (.returned u) ah/\OM w4 ab ag/\Tr w J w4 ab:=by
   intro q a z f X st H v l a0 az hv hk;unfold Oq at hk;split at hk
   next tg a8 sk Y=>obtain⟨r,q1,_,q3,_,m2⟩:=s (st':=st) l Y;obtain⟨kp,_,k2,k3⟩:=hk;refine⟨.bool v,_,?_,_,_,_,k3,BW.2 rfl,m2.om.Cs k2,tr m2 kp⟩;simp_all[Instr.endRound,Cm,Ch,DD]
   ·cases hk
  refine wpIn_mono (Y4 (rd:=some b) hm (c:=c) rfl ca x _ _ _ J _ w aj (.inl an) h m) ?_;rintro e a1 w1 ⟨ae,a6,a2,ax,L,he,m1⟩;cases ae with
  |exit n=>cases L
  |ret=>cases L
  |panic v=>cases L
  |normal=>
   cases e<;>simp only[EF]at he;simp only[u3]at L;unfold u4 at L;split at L
   ·rename_i tg sk al;obtain⟨r,q1,q2,q3,q4,m2⟩:=s (st':=.busy) m1 al;refine⟨_,?_,wpIn_mono (Y4 (rd:=some b) hm (c:=c) rfl cb y _ _ _ ax a1 _ ak (.inl ao) L m2) ?_⟩
    ·simp only[Instr.beginRound,Cm,q1,Ch];have aw:(setObj b (.loop {r with state:=.busy})).run P.p w1=.ok () (Et w1 b (.loop {r with state:=.busy,pending:=none})):=by
      have:(Loop.mk .busy r.pending r.fn r.tmps r.params r.assign r.body r.defers)=Loop.mk .busy none r.fn r.tmps r.params r.assign r.body r.defers:=by rw[q4];rfl
      rw[this];exact q3
     rw[aw,q2];rfl
    ·rintro e a3 w3 ⟨ae,a7,a4,a9,L,he,m3⟩;cases ae with
     |normal=>cases e<;>simp only[EF]at he;exact CG (st:=.ready) m3 rfl rfl rfl L
     |ret=>cases e<;>simp only[EF]at he;exact CG (st:=.ret) m3 rfl rfl rfl L
     |exit n=>cases e<;>simp only[EF]at he;subst he;exact CG (st:=.exit _) m3 rfl rfl rfl L
     |panic v=>cases L
   ·cases L
def Rz(n:Nat)(b:List RV)(K:BQ->AE->Prop):Z5
|.panic _,_,_=>False
|e,c,a=>KF n b K e c a
section
variable {n k:Nat} {sl:Xf} {ob:AE} {v:V}
@[simp]def callNR_r(b:List RV)(a:BQ->AE->Prop):Rz n b a .ret sl ob=Q8 sl ob b λc=>Yh n (a (.ret (J7 c))) c ob:=by simp only[Rz,KF]
@[simp]def callNR_p(b:List RV)(a:BQ->AE->Prop):Rz n b a (.panic v) sl ob=False:=by simp only[Rz]
end
section
theorem Xql{P:BE}(hm:P.p.follows .mixedOrders=true){f:Nat}{s:S}{rs:List RV}{q:List V}{H:AE}{K:BQ->AE->Prop}(F:Lr P.p f q.length s rs=true)
 (h:EX P s (Rz (AA H) rs K) (Eh 0 q) H):Aa P f q H K:=by
 unfold Lr at F;split at F
 ·rename_i fn hf;split at F
  ·rename_i O hb;simp only[BX,D2]at F;obtain⟨⟨hn,z⟩,Z⟩:=F;refine⟨λw u j hO hg hr=>callsIn_wide.1 (callsIn_of_wp_marks (n:=0) hf hb trivial ?_)⟩;let c:EH:=⟨w,FW u,fn.ntmps,[],P.g,u.m,[],true⟩
   have ac:j.length=q.length:=by grind[Zy]
   have m:De c u.xo u (Eh 0 q) H {tmps:=j.toArray++Array.replicate (fn.ntmps-j.toArray.size) undef,defers:=[] } w:=by
    refine⟨⟨B9 _,λ_ _ _=>rfl,λb h=>.inr h,rfl,rfl,rfl,λid o h=>⟨o,h,.refl o⟩,(λp hp=>by cases hp),B9 _⟩,hO,?_,?_,Fa.nil,rfl,hg⟩
    ·refine Rk hr 0 _ (λi hi=>?_);simp[O7,hi]
    ·simp[c];omega
   refine wpIn_mono (Y4 (rd:=none) hm rfl O s _ _ _ u _ w z (.inr ⟨rfl,rfl⟩) h m) ?_;rintro e Y J ⟨ae,ab,k,d,N,he,a⟩;have ad:∀G id o,u.m id=some o->AF (AA H) G id=false:=λG id o h0=>by
    obtain⟨x,hx⟩:=hO.Ev id o h0;simp_all
   have y:Q8 ab k rs (λq=>Yh (AA H) (K (.ret (J7 q))) q k)->LeavesInM Fence.wide 0 P.p fn Y.tmps (λe J=>∃W k d,K W k/\Un J d e W/\OM J d k/\Tr w u J d) Y.defers .returning J:=by
    intro N;obtain⟨ms,q1,_,q3,q4⟩:=a.df;have q1:Y.defers=ms.map KX:=by rw[q1];simp[c]
    rw[q1];refine dx ms J q3 (λr hr=>(q4 r hr).2.1) (λX sm hs=>?_);have aa:∀b o,d.gl b=some o->X.heap[b]? = J.heap[b]?:=λb o hb=>hs b (λhm=>by
     have L:=(hO.EZ b o (by rw[hg,<-show d.gl=P.g from a.gl];exact hb)).1;grind)
    have U:=OM.same sm a.om aa;have tr:∀{l:BF},Tr X d X l->∀G,Tr w u X (l.Cs (AF (AA H) G)):=λ{l} t G=>by
     refine⟨by rw[sm.size];exact a.BA.size,λb z Z=>(hs b (λhm=>by grind)).trans (a.BA.keep b Z z),λb z=>?_,?_,?_,λid o z=>?_,sm.tape.trans a.BA.tape,sm.os.trans a.BA.os,sm.C3.trans a.BA.C3,by rw[sm.drawn];exact a.BA.drawn⟩
     ·rcases t.DY b (Vc z) with L|L
      ·exact(a.BA.DY b L).symm
      ·exact .inr (IE (by rw[sm.size];exact a.BA.size) L)
     ·show l.xo=u.xo;rw[t.xo,a.xo]
     ·show l.gl=u.gl;rw[t.gl,a.gl,hg]
     ·obtain⟨o1,L,h4⟩:=a.BA.same id o z;obtain⟨o2,h5,h6⟩:=t.same id o1 L;exact⟨o2,by simp_all[BF.Cs],h4.trans h6⟩
    obtain⟨q,us,hk,Q,T⟩:=U1 (P:=P.p) (fn:=fn) (SM.same sm a.sm) U Z N;obtain⟨G,k1,k2,k3⟩:=hk;exact⟨L8 us,T,.ret (J7 q),_,_,k3,TC (fh k1 Q),U.Cs k2,tr (Tr.refl _ _) G⟩
   cases ae with
   |normal=>
    cases e<;>simp only[EF]at he;exact y N
   |ret=>
    cases e<;>simp only[EF]at he;exact y N
   |exit n=>cases N
   |panic v=>cases N
  ·simp at F
 ·simp at F
end
section
variable {P:BE} {T:DW} {sl slk:Xf} {ob:AE} {KO PO:V->AE->Prop} {KV:V->Prop}
@[simp]def iwp_rng(x:A):I.wp P sl ob KO PO (.LW x)=NS ob KO (x.ev sl) (AD ob (SK (x.ev sl))):=by simp only[I.wp]
@[simp]def iwp_nxt(x:A):I.wp P sl ob KO PO (.MV x)=OY ob KO (x.ev sl):=by simp only[I.wp]
@[simp]def iwp_ety(x:A):I.wp P sl ob KO PO (.LJ x)=OU ob (λv=>KO v ob) (x.ev sl):=by simp only[I.wp]
@[simp]def iwp_lenM(x:A):I.wp P sl ob KO PO (.FZ x)=Lw ob (λv=>KO v ob) (x.ev sl):=by simp only[I.wp]
@[simp]def iwp_xcall(f:Nat)(l:List A):I.wp P sl ob KO PO (.Ca f l)=C1 P f (l.map (A.ev sl)) ob KO:=by simp only[I.wp]
@[simp]def mpId_mp(id:Nat):SK (.mp id)=id:=rfl
@[simp]def rngK_mp(id:Nat)(a:List (D×V)):NS ob KO (.mp id) (some (.map a))=KO (.hd false (AA ob)) ((AA ob,.it (some id) a.length [])::ob):=by simp only[NS]
@[simp]def nxtK_hd(id:Nat):OY ob KO (.hd false id)=ND ob id KO (AD ob id):=by simp only[OY]
@[simp]def nxtKo_n(id n:Nat)(l:List Nat):ND ob id KO (some (.it none n l))=KO (.BU [.d (.bool false)]) ob:=by simp only[ND]
@[simp]def nxtKo_s(id j n:Nat)(l:List Nat):ND ob id KO (some (.it (some j) n l))=RX ob id j n l KO (AD ob j):=by simp only[ND]
@[simp]def nxtKm_m(id j n:Nat)(seen:List Nat)(a:List (D×V)):RX ob id j n seen KO (some (.map a))=(a.length=n/\((List.range n).all (λi=>seen.contains i)=true->KO (.BU [.d (.bool false)]) ob)/\
 ∀i,i<n->seen.contains i=false->KO (.BU [.d (.bool true),.d (a.getD i default).1,(a.getD i default).2]) (AG ob id (.it (some j) n (seen++[i])))):=by simp only[RX]
@[simp]def entK_hd(id:Nat):OU ob KV (.hd false id)=Rb ob KV (AD ob id):=by simp only[OU]
@[simp]def entKo_s(j n:Nat)(l:List Nat):Rb ob KV (some (.it (some j) n l))=(l≠[]/\Ra (l.getLastD 0) n KV (AD ob j)):=by simp only[Rb]
@[simp]def entKm_m(i n:Nat)(a:List (D×V)):Ra i n KV (some (.map a))=(i<n/\a.length=n/\KV (.BU [.d (a.getD i default).1,(a.getD i default).2])):=by simp only[Ra]
@[simp]def lenMK_mp(id:Nat):Lw ob KV (.mp id)=RU KV (AD ob id):=by simp only[Lw]
@[simp]def lenMo_m(a:List (D×V)):RU KV (some (.map a))=KV (.d (.int .i64 a.length)):=by simp only[RU]
@[simp]def callvK_hd(a:List V)(id:Nat):Up P a ob KO PO (.hd true id)=(UG (AD ob id)/\DI P id a ob (F7 KO PO)):=by simp only[Up]
@[simp]def isLp_s(a:Nat)(b:Hc):UG (some (.lp a b sl))=True:=by simp only[UG]
@[simp]def cwp2_rgf(b:Nat)(c:List Nat)(g:A)(x y:S)(a:List Nat)(Q:Z5):Zh P T (.Ia b c g x y a) Q sl ob=(PH P b c x y/\Nh P b (X0 sl a) ob Q (g.ev sl)):=by simp only[Zh]
@[simp]def rgK_fn(a f:Nat)(c b:List V)(Q:Z5):Nh P a slk ob Q (.fn f c b)=(Xd P.p f=true/\Aa P f (c++[.hd true (AA ob)]++b) ((AA ob,.lp a .ready slk)::ob) (MX Q slk (AA ob))):=by simp only[Nh]
@[simp]def rgQ_r(v:V)(id:Nat)(Q:Z5):MX Q slk id (.ret v) ob=Sm Q slk id ob (AD ob id):=by simp only[MX]
@[simp]def rgE_n(a id:Nat)(Q:Z5):Sm Q slk id ob (some (.lp a .ready sl))=Q .normal slk (AG ob id .Ar):=by simp only[Sm]
variable {K:BQ->AE->Prop}
@[simp]def rdE_s(id n a:Nat)(c b:Hc)(K:AE->Prop):Oq id n c ob K (some (.lp a b slk))=Yh n K [] (AG ob id (.lp a c slk)):=by simp only[Oq]
@[simp]def rdQ_n(id n:Nat):VX id n K .normal sl ob=Oq id n .ready ob (K (.ret (.d (.bool true)))) (AD ob id):=by simp only[VX]
@[simp]def bindS_nil(a:List V):Lo sl [] a=sl:=by simp only[Lo]
@[simp]def bindS_cons(p:Nat)(a:List Nat)(v:V)(b:List V):Lo sl (p::a) (v::b)=Lo ((p,v)::sl) a b:=by simp only[Lo]
end
def VD(P:BE)(T:DW)(y:S2)(id n:Nat)(K:BQ->AE->Prop)(d:Xf)(c:AE):Option Ob->Prop
|some (.lp b .ready a)=>Zh P T y (VX id n K) d (AG c id (.lp b .busy a))
|_=>False
def cJ(P:BE)(T:DW)(y:S2)(id n:Nat)(K:BQ->AE->Prop):Z5
|.normal,b,a=>VD P T y id n K b a (AD a id)
|_,_,_=>False
section
variable {P:BE} {T:DW} {sl slk:Xf} {ob:AE} {K:BQ->AE->Prop}
@[simp]def rdA2_n(y:S2)(id n:Nat):cJ P T y id n K .normal sl ob=VD P T y id n K sl ob (AD ob id):=by simp only[cJ]
@[simp]def rdB2_s(y:S2)(id n a:Nat):VD P T y id n K sl ob (some (.lp a .ready slk))=Zh P T y (VX id n K) sl (AG ob id (.lp a .busy slk)):=by simp only[VD]
end
theorem DI.Af{P:BE}{p:Program}(m:P.p=p)(t:p.follows .mixedOrders=true){T:DW}(q:A6 P T){id b:Nat}{f k d:List Nat}{x y:S}{i j:S2}{slk:Xf}{c:AE}{g:List V}{K:BQ->AE->Prop}(l:PH P b f x y)
 (u:x.Af k=some i) (w:y.Af d=some j) (r:AD c id=some (.lp b .ready slk)) (a:g.length=f.length) (h:Zh P T i (cJ P T j id (AA c) K) (Lo slk f g) c):DI P id g c K:=by
 subst m;refine DI.of t l r a (S.BP q x u (λe s o h=>?_) h);cases e with
 |normal=>
  simp only[cJ]at h;simp only[u3];unfold VD at h;grind[u4,S.BP]
 |exit n=>cases h
 |ret=>cases h
 |panic v=>cases h
def Ik{P:BE}{f E z n:Nat}{ds O:List D}{c:AE}{K:V->AE->Prop}(h:Aa P f (ds.map .d) [] λo b=>o=.ret (.sl 0 n)/\b=[(0,.A0 E z (O.map .d))])(hK:K (.sl (AA c) n) ((AA c,.A0 E z (O.map .d))::c)):C1 P f (ds.map .d) c K:=by
 refine⟨λw y s F hg hr=>?_⟩;let q:BF:=⟨λ_=>none,CS y,y.gl⟩
 have r:∀b,¬FW q b:=λb ⟨_,_,h,_⟩=>by cases h
 have aa:CS q=CS y:=by
  funext b;exact propext ⟨λh=>h.elim (λh=>(r b h).elim) id,λh=>.inr h⟩
 have X:∀b,CS y b->b<w.heap.size:=λb h=>h.elim (λ⟨_,_,a,v⟩=>Q3 F a v) (F.FV b);have T:OM w q []:=⟨λj x G=>(by simp  at G),λj o W=>(by cases W),λi j o p b hi=>(by cases hi),X,λb o g=>⟨(F.EZ b o g).1,by rw[aa];exact(F.EZ b o g).2⟩,λb g=>absurd g (r b),trivial⟩
 have Z:V.BT w q (ds.map .d) s:=by
  simp_all[T0]
 refine(h.run w q s T hg Z).mono λe H ⟨ae,ad,k,⟨e1,e2⟩,L,J,t⟩=>?_;subst e1;subst e2;have m1:∀j p,k.m j=some p->j=0:=λj p W=>by
  obtain⟨x,G⟩:=J.Ev j p W;simp_all[AD]
 have Ba:=J.Ba 0 (.A0 E z (O.map .d)) (by simp );obtain⟨o,Y⟩:∃o,k.m 0=some o:=by
  rcases Ba with⟨a,_⟩|⟨b,ab,Q,sp,a,_⟩<;>exact⟨_,a⟩
 have g:∀b,o.blk? = some b->w.heap.size<=b:=λb g=>(t.DY b ⟨0,o,Y,g⟩).elim (λh=>(r b h).elim) id;have G:CM w H:=⟨t.size,λb g=>t.keep b (r b) g,t.tape,t.os,t.C3,t.drawn⟩
 have U:AD c (AA c)=none:=X1 c;have af:CS k=CS (y.Bp (AA c) o):=by
  funext b;refine propext ⟨λh=>?_,λh=>?_⟩
  ·rcases h with⟨j,p,a,v⟩|a
   ·have e:=m1 j p a;subst e;rw[Y]at a;cases a;exact .inl ⟨AA c,o,Yw,v⟩
   ·rw[t.xo]at a;rcases a with⟨j,p,a,v⟩|a
    ·have:j≠AA c:=λe=>by subst e;rw[F.free U]at a;cases a
     exact .inl ⟨j,p,by grind[BF.Bp],v⟩
    ·exact .inr a
  ·rcases h with⟨j,p,a,v⟩|a
   ·simp only[BF.Bp]at a;split at a
    ·cases a;exact .inl ⟨0,o,Y,v⟩
    ·exact .inr (t.xo▸.inl ⟨j,p,a,v⟩)
   ·exact .inr (t.xo▸.inr a)
 have ac:∀(l:List D)(Q:List Value),Cg H k (l.map .d) Q->Cg H (y.Bp (AA c) o) (l.map .d) Q:=λl=>by
  induction l<;>grind[Cg,V.Au]
 have N:D5 H (y.Bp (AA c) o) (AA c) (.A0 E z (O.map .d)):=by
  grind[D5,Yw]
 cases e with
 |returned u=>
  refine⟨.sl (AA c) n,_,y.Bp (AA c) o,u,hK,rfl,?_,F.Bp G U g N,Qd H G (F.free U) g,G⟩;have a:(V.sl 0 n).A1 H k u:=L;simp_all[Y9,Yw]
 |_=>exact(L:False).elim
def Xqk{P:BE}{p:Program}(k:P.p=p)(o:p.follows .mixedOrders=true){f:Nat}{s:S}{d:List RV}{b:List V}{a:AE}{K:BQ->AE->Prop}{g:List Nat}{e:S2}{T:DW}(m:Lr p f b.length s d=true)(n:s.Af g=some e)(l:A6 P T)
 (h:(∀c,Bu (AF (AA a) c) b=false)->(∀c,AN (AF (AA a) c) a=true)->Zh P T e (Rz (AA a) d K) (Eh 0 b) a):Aa P f b a K:=
 Aa.ER λi j=>by grind[Xql,S.BP]
def Rde{P:BE}{f:Nat}{q:List V}{p:AE}{K:BQ->AE->Prop}(h:Aa P f q p λo b=>K o b\/(o=.ret (.d .Ah)/\∃E z,K (.ret (.sl (AA b) 0)) ((AA b,.A0 E z [])::b))):Aa P f q p K:=
 ⟨λw G g v s x=>(h.run w G g v s x).mono λe c ⟨o,b,l,k,j,m,t⟩=>by
  rcases k with k|⟨rfl,E,z,k⟩
  ·grind
  ·have n:AD b (AA b)=none:=X1 b
   have i:∀b,RO.Cl.blk? = some b->c.heap.size<=b:=λb r=>by simp[RO.blk?]at r
   have F:=Qd c (CM.refl c) (o:=.Cl) (m.free n) i;have y:OM c (l.Bp (AA b) .Cl) ((AA b,.A0 E z [])::b):=m.Bp (CM.refl c) n i (.inl ⟨Yw,rfl⟩);refine⟨_,_,_,k,?_,y,t.trans F⟩;cases e with
   |returned u=>
    have a:(V.d .Ah).A1 c l u:=j;rw[KM]at a;rcases a with⟨a,_⟩|⟨_,a⟩
    ·cases a
    ·simp only[D.A1,Mg,Ld]at a
     exact Y9.2 ⟨.Cl,Yw,rfl,a⟩
   |_=>exact(j:False).elim⟩
def Ur(E z B:Nat):S:=.seq (.rg [] [.op (some 2) (.c (.mv .Ah))] [0] [])
 (.seq (.seq (.rg [] [.op (some 3) (.c (.mv (.t 0))),
  .op (some 4) (.JH true false (.t 3))] [0,4] [])
 (.cond (.t 4) (.seq (.rg [] [.op (some 2) (.c (.mv .Ah))] [2] [])
 (.ret)) (.skip)))
 (.seq (.rg [] [.op (some 5) (.IS E z [] []),
  .op (some 6) (.c (.mv (.t 0))),
  .op (some 7) (.HX E z B (.t 5) (.t 6)),
  .op (some 2) (.c (.mv (.t 7)))] [2] [])
 (.ret)))
def Yn2(E z B:Nat):S2:=.seq (.rg [] [(0,(.a (.t 0)))] [])
 (.seq (.seq (.rg [.lt 3 [] (.a (.t 0)),.op (some 4) (.JH true false (.t 3))] [(0,(.a (.t 0))),(4,(.a (.t 4)))] [])
 (.cond (.t 4) (.seq (.rg [] [(2,(.a .Ah))] [])
 (.ret)) (.skip)))
 (.seq (.rg [.op (some 5) (.IS E z [] []),.lt 6 [] (.a (.t 0)),.op (some 7) (.HX E z B (.t 5) (.t 6))] [(2,(.a (.t 7)))] [])
 (.ret)))
def X49(E z B:Nat):(Ur E z B).Af []=some (Yn2 E z B):=by rfl
def W3{P:BE}{p:Program}(i:P.p=p)(k:p.follows .mixedOrders=true){f E z B:Nat}(j:Xp p f 1 (Ur E z B) [.t 2]=true){b:List D}(n:∀x∈b,x.sz=z)(g:(2*b.length+192)*B<=281474976710656){a:AE}{K:BQ->AE->Prop}(h:K (.ret (.sl (AA a) b.length)) ((AA a,.A0 E z (b.map .d))::a)):Aa P f [.d (.AH z b)] a K:=by
 refine Rde ?_;refine Xv i k j (X49 E z B) A6.nil λ_ c=>?_;simp[Yn2,I.wp,Iy,Od,Kn,RR];constructor
 ·refine⟨g,[AA a],by simp[AF],?_,?_⟩
  ·have m:∀(p:Nat->Bool)(l:List D),Bu p (l.map .d)=false:=λp l=>by induction l<;>simp_all[Bu,V.Bg]
   simp_all[AF]
  simp_all[AF]
 ·intro e
  exact⟨[],by simp,by simpa using c [],.inr ⟨E,z,by simpa[e]using h⟩⟩
def Zww:Xp prog 30 1 (Ur 9 1 16) [.t 2]=true:=by kernel_rfl
def Zwx:Xp prog 31 1 (Ur 94 5 56) [.t 2]=true:=by kernel_rfl
def Zwy:Xp prog 32 1 (Ur 72 6 96) [.t 2]=true:=by kernel_rfl
def Zwz:Xp prog 33 1 (Ur 77 5 96) [.t 2]=true:=by kernel_rfl
def Zw0:Xp prog 34 1 (Ur 80 5 72) [.t 2]=true:=by kernel_rfl
def Zw1:Xp prog 35 1 (Ur 83 3 48) [.t 2]=true:=by kernel_rfl
def Zw2:Xp prog 106 1 (Ur 158 11 120) [.t 2]=true:=by kernel_rfl
def Zw3:Xp prog 107 1 (Ur 162 4 72) [.t 2]=true:=by kernel_rfl
def Zw4:Xp prog 108 1 (Ur 168 8 96) [.t 2]=true:=by kernel_rfl
def Zw5:Xp prog 110 1 (Ur 173 11 120) [.t 2]=true:=by kernel_rfl
def Zdv:Xp prog 111 1 (Ur 177 7 80) [.t 2]=true:=by kernel_rfl
def Zdw:Xp prog 112 1 (Ur 181 5 56) [.t 2]=true:=by kernel_rfl
def Zdx:Xp prog 113 1 (Ur 146 4 48) [.t 2]=true:=by kernel_rfl
structure RC(y:Al)(ob:AE):Prop where
 o4:AD ob 4=some (VY y.AB.length)
 o5:AD ob 5=some (Jm y.AR)
 o6:AD ob 6=some (Jm (y.Ac.map Ax.name))
 o7:AD ob 7=some (Jm (y.AB.map AM.name))
 Sl:y.AB.length≠0->AD ob 12=some (.A0 102 1 (IN y.AB.length))
 om:∀i,i<y.AB.length->AD ob (Qr i)=some (Jm (Es y.AB i))
def Rdf{y:Al}{c b a:Ob}:RC y (Z7 y y.AB.length c b a):=⟨rk,Y2h,Y2i,Y2j,nj,λ_ h=>Ya9 h⟩
def RC.of{y:Al}{c b:AE}(h:RC y c)(a:∀j o,AD c j=some o->(∀E z g,o=.A0 E z g->E=102)->AD b j=some o):RC y b:=
 ⟨a _ _ h.o4 (λ_ _ _ e=>by cases e),a _ _ h.o5 (λ_ _ _ e=>by cases e),a _ _ h.o6 (λ_ _ _ e=>by cases e),a _ _ h.o7 (λ_ _ _ e=>by cases e),λf=>a _ _ (h.Sl f) (λ_ _ _ e=>by cases e;rfl),λi d=>a _ _ (h.om i d) (λ_ _ _ e=>by cases e)⟩
def RC.cons{y:Al}{a:AE}(h:RC y a)(o:Ob):RC y ((AA a,o)::a):=h.of λj x b _=>by
 simp_all
def RC.set{y:Al}{a:AE}(h:RC y a){id E z:Nat}{b vs':List V}(d:AD a id=some (.A0 E z b))(c:E≠102):RC y (AG a id (.A0 E z vs')):=h.of λj x f g=>by
 have:j≠id:=λe=>by grind
 simp_all[Xe,A5]
def Pk(K:BQ->AE->Prop)(b:AE):Prop:=∀a,AD a 1=AD b 1->AD a 2=AD b 2->K (.panic (.d Z4)) a
def Yb{p:Nat->Bool}{v:V}(b:V.Bg p v=false):∀{a:List V}(i:Nat),Bu p a=false->Bu p (a.set i v)=false
|[],_,_=>rfl
|x::r,0,h=>by simp_all
|x::r,i+1,h=>by simp at h;simp[h.1,Yb b i h.2]
def U0(n s:Nat)(h:s<(IN n).length):(IN n)[s]=.mp (Qr s):=by simp[IN]
def Ou(r:CA):V:=.d r.enc
theorem db(a:List AM)(m:CA):OZ a m=(DA (a.map AM.name) m.name).bind λs=>(DA (Es a s) m.path).map λ(f:Nat)=>{m with Am:=s,field:=f}:=by
 grind[OZ,Y2,Es,Int.toNat_natCast]
include hP
theorem X66{a:List D}(c:∀x∈a,x.sz=4)(e:a.length<=1000000){b:AE}{K:V->AE->Prop}(h:K (.sl (AA b) a.length) ((AA b,.A0 146 4 (a.map .d))::b)):C1 P 113 [.d (.AH 4 a)] b K:=
 Ik (ds:=[.AH 4 a]) (W3 hP AT Zdx c (by omega) ⟨rfl,rfl⟩) h
theorem X4o{y:Al}{id m i:Nat}{J:List V}{p:AZ}(hm:p.CC.length<=1000000){a:AE}(hc:RC y a)(L:AD a id=some (.A0 83 3 J))(hl:J.length=m)(hv:J[i]? = some (.d p.enc))(ad:∀p,Bu p J=false)(ai:id≠1/\id≠2){K:BQ->AE->Prop}
 (h1:∀q,Wc y.AB p=some q->K (.ret (.BU [])) (AG a id (.A0 83 3 (J.set i (.d q.enc))))) (h0:Wc y.AB p=none->Pk K a):
 Aa P 40 [.ptr 4 [],.ep id m 3 i 0 []] a K:=by
 refine Aa.G9 ?_;refine Xv hP AT Z01.1 Z01.2 A6.nil λ_ aa=>?_;obtain⟨aj,H⟩:=HF.1 hv;have pe:p.enc=.agg [.AV p.name,.AH 4 (p.CC.map CA.enc),iD p.most]:=rfl;rw[pe]at H;have l:i<m:=by omega
 simp[Zvi,L,hl,l,H];refine X66 hP (by intro x hx;obtain⟨r,_,rfl⟩:=E2.1 hx;rfl) (by simpa using hm) ?_;have ak:=Xk L;have af:AA a≠id:=by omega
 simp[L,hl,l,H];refine⟨⟨_,_,_,⟨rfl,rfl,rfl⟩,by simp⟩,?_⟩;obtain⟨vs',v⟩:∃vs',vs'=J.set i (V.agg [.d (.AV p.name),.sl (AA a) p.CC.length,.d (iD p.most)]):=⟨_,rfl⟩
 rw[<-v];have ah:vs'.length=m:=by simp_all
 have ag:∀h:i<vs'.length,vs'[i]=V.agg [.d (.AV p.name),.sl (AA a) p.CC.length,.d (iD p.most)]:=λh=>by simp[v]
 have Z:=hc.set (vs':=vs') L (by decide);have fs:AA (AG a id (.A0 83 3 vs'))=AA a:=by simp
 have l4:=Xk hc.o4;have nm:∀{n:Nat}{kp:List Nat}{us:List V},AA a<=n->AF n kp (AA a)=false->(∀p,Bu p us=false)->AN (AF n kp) ((AA a,.A0 146 4 us)::AG a id (.A0 83 3 vs'))=true:=λhn hk hu=>by
  simp_all[AN,Kj,Fc,Xz,BV,Yb,V.Bg,Bu]
 refine Aw.go (ι:=List CA) (λd=>[(0,.ptr 4 []),(1,.ep id m 3 i 0 []),(18,.d (.int .i64 p.CC.length)),(19,.d (.int .i64 d.length))])
  (λd=>(AA a,.A0 146 4 ((d++p.CC.drop d.length).map Ou))::AG a id (.A0 83 3 vs')) (λd=>d.length<=p.CC.length/\EL p.CC (OZ y.AB)=Dn (λ_=>OZ y.AB) d (p.CC.drop d.length)) (λd=>p.CC.length-d.length) [] ⟨by simp,rfl⟩ (by simp) (by simp;exact λ_ _=>rfl) ?_
 rintro d ⟨hd,G⟩ R rn re rr rp;have X:((d++p.CC.drop d.length).map Ou).length=p.CC.length:=by simp;omega
 by_cases b:d.length<p.CC.length
 ·have wr:IntKind.i64.wrap ((d.length:Int)+1)=(d.length:Int)+1:=w_i _ (by omega);have U:=Lh Ou b;have ws:=Li Ou b;rw[EV b,Wb]at G;generalize hu:p.CC[d.length]=u at G U;have ue:Ou u=.d (.agg [.AV u.name,.AV u.path,iD u.Am,iD u.field]):=rfl;simp only[ue]at U;generalize T:(d++p.CC.drop d.length).map Ou=us at X U ws;have w:∀us,RC y ((AA a,.A0 146 4 us)::AG a id (.A0 83 3 vs')):=λus=>by
   have:=Z.cons (.A0 146 4 us)
   rwa [fs]at this
  have c4:=λus=>(w us).o4;have pn:OZ y.AB u=none->∀c,(∀p,Bu p c=false)->R (.panic (.d Z4)) [] ((AA a,.A0 146 4 c)::AG a id (.A0 83 3 vs')):=λe c ac=>by
   refine rp _ _ _ ?_;rw[e,Option.bind_none]at G;have ab:=h0 (by rw[Wc,G];rfl);have ha:∀x,x=1\/x=2->AD ((AA a,Ob.A0 146 4 c)::AG a id (.A0 83 3 vs')) x=AD a x:=λx hx=>by
    have e1:AA a≠x:=by omega
    rw[AD,A5 e1,Xe a id x ⟨_,L⟩,A5 (by omega)]
   have z:Xo (AF (AA a) [AA a]) ((AA a,Ob.A0 146 4 c)::AG a id (.A0 83 3 vs'))=(AA a,Ob.A0 146 4 c)::AG a id (.A0 83 3 vs'):=by simp[AF]
   have O:=nm (n:=AA a) (kp:=[AA a]) (us:=c) (B9 _) (by simp[AF]) ac;refine⟨[AA a],by simp,by rw[z];exact O,_,Wk.refl _,[AA a],by simp[BQ.Bg],by rw[z,z];exact O,?_⟩;rw[z,z];exact ab _ (ha 1 (.inl rfl)) (ha 2 (.inr rfl))
  simp[y4,b,c4,L,ah,ag,l,X,U];refine Zt hP (w _).o7 (λs hs=>?_) (λhn=>pn (by rw[db,hn];rfl) _ (by subst T;exact λp=>X7 _ _));have Q:s<y.AB.length:=by simpa using SC hs
  have N:y.AB.length≠0:=by omega
  have Y:=λus=>(w us).Sl N;simp[c4,Y,N,IW,X,U,b,Vm,U0,Q];refine Zt hP ((w _).om s Q) (λf hf=>?_) (λhn=>pn (by grind[db]) _ (λp=>?_))
  ·have w2:=ws {u with Am:=s,field:=f};have hr:OZ y.AB u=some {u with Am:=s,field:=f}:=by grind[db]
   rw[hr,Dk]at G;simp[X,b];refine rn [] (d++[{u with Am:=s,field:=f}]) _ _ ⟨by simp;omega,by grind⟩ (by simp;omega) (by simp[wr]) ?_ ?_ ?_
   ·rw[<-w2];have:¬AA a+1<=AA a:=by omega
    simp 
    all_goals rfl
   ·simp[AF];omega
   ·exact nm (by simp) (by simp ) (λp=>X7 _ _)
  ·exact Yb rfl _ (by subst T;exact X7 _ _)
 ·have F:d.length=p.CC.length:=by omega
  rw[F,GN,Dn]at G;simp[y4,b];refine re _ _ _ ?_;simp;have e:List.drop d.length (p.CC.map Ou)=[]:=Im (by simp[F]);rw[e,HH];have hq:Wc y.AB p=some {p with CC:=d}:=by rw[Wc,G];rfl
  obtain⟨j,t⟩:∃j,j=(AA a,Ob.A0 146 4 (d.map Ou))::AG a id (.A0 83 3 vs'):=⟨_,rfl⟩
  have li:AD j id=some (.A0 83 3 vs'):=by simp_all
  have lf:AD j (AA a)=some (.A0 146 4 (d.map λr=>V.d r.enc)):=by rw[t,AD,Bv rfl];rfl
  have g:Dc 3 j (V.agg [.d (.AV p.name),.sl (AA a) p.CC.length,.d (iD p.most)])=some (.agg [.AV p.name,.AH 4 (d.map CA.enc),iD p.most],AG j (AA a) .Ar):=by
   have hd:∀(x:D)(o:AE),Dc 2 o (.d x)=some (x,o):=λx o=>rfl;show Fm (FX (Dc 2) j _)=_;simp only[FX,hd,I2 (k:=0) CA.enc lf (by decide) F.symm,Jb,Fm]
  have sg:AG j (AA a) .Ar=(AA a,.Ar)::AG a id (.A0 83 3 vs'):=by rw[t];simp 
  have ae:AD (AG j (AA a) .Ar) id=some (.A0 83 3 vs'):=by simp_all
  have W:=QR li (i:=i) (by simp_all) g ae rfl;have CG:AG (AG j (AA a) .Ar) id (.A0 83 3 (vs'.set i (.d (.agg [.AV p.name,.AH 4 (d.map CA.enc),iD p.most]))))=(AA a,.Ar)::AG a id (.A0 83 3 (J.set i (.d ({p with CC:=d}:AZ).enc))):=by
   rw[sg];have:¬AA a=id:=af;simp[this,v];rfl
  rw[CG]at W;rw[<-t];have z:Xo (AF (AA a) [AA a]) j=j:=by rw[t];simp[AF]
  refine⟨[AA a],by simp,by rw[z,t];exact nm (B9 _) (by simp[AF]) (λp=>X7 _ _),_,by rw[z];exact W,[],by simp[BQ.Bg],?_,?_⟩
  ·simp ;exact Xz (Yb rfl _ (ad _)) (aa _)
  ·simp ;exact h1 _ hq
omit hP
end Go.Ab
