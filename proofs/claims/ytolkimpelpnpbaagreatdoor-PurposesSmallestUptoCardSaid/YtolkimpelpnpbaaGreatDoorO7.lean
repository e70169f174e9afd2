/- Texts of this claim joined by a program, part 7 of 20; the last is: The law PurposesSmallest. Condition: the program is the seat's; its package variables are laid, its ranges Xdj functions known; the question has few parts. -/
import Derived.Test.YtolkimpelpnpbaaGreatDoorO4
import Derived.Test.YtolkimpelpnpbaaGreatDoorO5
import Derived.Test.YtolkimpelpnpbaaGreatDoorO6
import Derived.Test.YtolkimpelpnpbaaGreatDoorProg
import Derived.KernelRfl
set_option maxRecDepth 100000
set_option linter.unusedSimpArgs false
set_option linter.unusedVariables false
set_option linter.unusedSectionVars false
set_option linter.defProp false
namespace Go.Proofs.YtolkimpelpnpbaaGreatDoor
open Go Go.Ab
def Yoj:Nat:=0x14601431006ab0f4305109d4c7f99a619591905c9181470450204f11c17b0191f13b0151f161504e342161e121104e340121e88f7e35c4b0945d10e590e05c90d0b0d030c0440050c1e0462
def n12:Nat:=0x17f742ea669cd43a4460143684262037f99a60a590a014309070ce504e759df0562424576a6
def Y3f:S:=zS [(zS [] Yoj)] n12
theorem Ze9:Xj Tryz.prog 12 2 Y3f [.t 4]=true:=by kernel_rfl
def Yov:Nat:=0x1034a22382138bb052b442338ab2244f34c4a22382138bb05294425440227380d28442744030609002644424805ae0426dc064c4a2238213809bb0624440a1e2244454107ae06f723445c034a233822382138bb06214422440d2438bc
def Yb7:S:=zS [] Yov
def Yow:Nat:=0x1034a15381438bba7441638ab1544f34c4a15381438bb051c4418440226380d1b441a440506080019444248fd0419dc064c4a15381480bb061744091e1544454105ae04f716445c034a163815381438bb06144415440d1738bc
def Yb8:S:=zS [] Yow
def Yox:Nat:=0x1034a08380738bb0511440938ab0844f34c4a08380738bb050f440b440225380d0e440d440506ca0c444248cb040cdc064c4a0838073807bb060ad81e0844454103054af709445c034a0980380738bb0607d8440d0a38bc
def Yb9:S:=zS [] Yox
def Yoy:Nat:=0x1034a2c2bbb75442dab2c2cf34c4a2c2bbbae44332c2f2c0324380d0144b644372c483824362c4200fb322c312c063424302c4232a001dc352ccb342c7535f6331e4a4a04301e9e82085c099a05034b0d434a2c2b06bb062e2cdf2c2c4541ce7b5b2c5c034af42bbb062b2c2c0d2ebc
def Yca:S:=zS [] Yoy
def Y3n:FSt:=.pre (.rg [] [.op (some 1) (.box 29 (.t 0)),
   .op (some 2) (.alloc 29 (.agg [.nils,.nils,.nils,.nils,.nils,.nils])),
   .op (some 3) (.alloc 46 (.int .i64 0))] [1,2,3] [])
 (.pre (.rg [] [.op (some 11) (.c (.ld 6 true (.t 1))),
   .op (some 12) (.call 83 [(.t 11)]),
   .op (some 10) (.c (.mv (.t 12))),
   .op (some 13) (.c (.ext (.t 10) 0)),
   .op (some 14) (.c (.ext (.t 10) 1)),
   .op (some 4) (.c (.mv (.t 13))),
   .op (some 5) (.c (.mv (.t 14)))] [1,2,3,4,5] [])
 (.pre (.seq (.rg [] [.op (some 15) (.c (.mv (.t 5)))] [1,2,3,4,15] [])
 (.cond (.t 15) (.seq (.rg [] [.op (some 16) (.c (.ld 6 true (.t 2))),
   .op none (.st 6 (.t 2) (.t 16)),
   .op none (.st 1 (.t 3) (.int .i64 111))] [2,3] [])
 (.ret)) (.skip)))
 (.dfr [.op (some 17) (.c (.mkf 84 [] [(.t 2),(.t 3)]))] [1,2,3,4,17] 17
 (.seq (.rg [0,3,6,9,12,15,1,4,7,10,13,16,2,5,8,11,14,17,18,19] [.op (some 18) (.c (.fldA 0 0 (.t 1))),
   .op (some 21) (.c (.fldA 1 1 (.t 1))),
   .op (some 24) (.c (.fldA 2 2 (.t 1))),
   .op (some 27) (.c (.fldA 3 3 (.t 1))),
   .op (some 30) (.c (.fldA 4 4 (.t 1))),
   .op (some 33) (.c (.fldA 5 5 (.t 1))),
   .op (some 19) (.c (.ld 1 false (.t 18))),
   .op (some 22) (.c (.ld 1 false (.t 21))),
   .op (some 25) (.c (.ld 1 false (.t 24))),
   .op (some 28) (.c (.ld 1 false (.t 27))),
   .op (some 31) (.c (.ld 1 false (.t 30))),
   .op (some 34) (.c (.ld 1 false (.t 33))),
   .op (some 20) (.xcall 85 [(.t 19)]),
   .op (some 23) (.xcall 86 [(.t 22)]),
   .op (some 26) (.xcall 87 [(.t 25)]),
   .op (some 29) (.xcall 88 [(.t 28)]),
   .op (some 32) (.xcall 89 [(.t 31)]),
   .op (some 35) (.xcall 90 [(.t 34)]),
   .op (some 36) (.c (.bld [.nils,.nils,.nils,.nils,.nils,.nils] [(0,(.t 20)),(1,(.t 23)),(2,(.t 26)),(3,(.t 29)),(4,(.t 32)),(5,(.t 35))])),
   .op none (.st 6 (.t 2) (.t 36))] [2,3,4] [2,3])
 (.seq (.rg [] [.op (some 37) (.c (.mv (.t 4))),
   .op (some 38) (.c (.fldA 1 1 (.t 2))),
   .op (some 39) (.c (.ld 1 false (.t 38))),
   .op (some 40) (.call 91 [(.t 37),(.t 39)])] [2,3,4] [2,3])
 (.seq (.seq (.rg [] [.op (some 41) (.c (.fldA 2 2 (.t 2))),
   .op (some 42) (.c (.ld 1 false (.t 41))),
   .op (some 43) (.c (.lenL (.t 42))),
   .op (some 44) (.c (.mv (.int .i64 0)))] [2,3,4,43,44] [2,3])
 (.block 0 (.loop [2,3,4,43,44] Yca)))
 (.seq (.seq (.rg [] [.op (some 61) (.c (.fldA 3 3 (.t 2))),
   .op (some 62) (.c (.ld 1 false (.t 61))),
   .op (some 63) (.c (.lenL (.t 62))),
   .op (some 64) (.c (.mv (.int .i64 0)))] [2,3,4,63,64] [2,3])
 (.block 2 (.loop [2,3,4,63,64] Yb9)))
 (.seq (.seq (.rg [] [.op (some 74) (.c (.fldA 4 4 (.t 2))),
   .op (some 75) (.c (.ld 1 false (.t 74))),
   .op (some 76) (.c (.lenL (.t 75))),
   .op (some 77) (.c (.mv (.int .i64 0)))] [2,3,4,76,77] [2,3])
 (.block 4 (.loop [2,3,4,76,77] Yb8)))
 (.seq (.seq (.rg [] [.op (some 87) (.c (.fldA 5 5 (.t 2))),
   .op (some 88) (.c (.ld 1 false (.t 87))),
   .op (some 89) (.c (.lenL (.t 88))),
   .op (some 90) (.c (.mv (.int .i64 0)))] [2,3,4,89,90] [2,3])
 (.block 6 (.loop [2,3,4,89,90] Yb7)))
 (.seq (.rg [] [.op (some 100) (.ldg 6 true (.t 2)),
   .op none (.st 6 (.t 2) (.t 100)),
   .op none (.st 1 (.t 3) (.int .i64 0))] [2,3] [2,3])
 (.ret)))))))))))
theorem Zfi:Xjh Tryz.prog 45 1 Y3n [.c 2 6 true,.c 3 1 false]=true:=by kernel_rfl
def Y3p:FSt:=.pre (.rg [] [.op (some 2) (.box 32 (.t 0)),
   .op (some 4) (.alloc 42 (.agg [.str [],.int .i64 0,.nils,.agg [.int .i64 0,.int .i64 0,.nils,.agg [.int .i64 0,.agg [.str [],.str [],.int .i64 0,.int .i64 0,.int .i64 0],.agg [.str [],.str [],.int .i64 0,.int .i64 0,.int .i64 0]]]])),
   .op (some 5) (.alloc 3 (.int .i64 0)),
   .op (some 6) (.alloc 46 (.int .i64 0))] [1,2,4,5,6] [])
 (.pre (.rg [] [.op (some 12) (.c (.mv (.t 1))),
   .op (some 13) (.pcall 74 [(.t 12)]),
   .op (some 11) (.c (.mv (.t 13))),
   .op (some 14) (.c (.ext (.t 11) 0)),
   .op (some 15) (.c (.ext (.t 11) 1)),
   .op (some 16) (.c (.ext (.t 11) 2)),
   .op (some 7) (.c (.mv (.t 14))),
   .op none (.st 1 (.t 5) (.t 15)),
   .op none (.st 1 (.t 6) (.t 16))] [1,2,4,5,6,7] [])
 (.pre (.seq (.rg [] [.op (some 17) (.c (.ld 1 false (.t 6))),
   .op (some 18) (.c (.bin .neq (.t 17) (.int .i64 0)))] [1,2,4,5,6,7,18] [])
 (.cond (.t 18) (.seq (.rgT 6 (.one 0 (.op (some 19) (.c (.ld 17 true (.t 4))))
  (.br (.cons 1 (.op (some 20) (.c (.ld 1 false (.t 5)))) (.br (.cons 2 (.op (some 21) (.c (.ld 1 false (.t 6)))) (.one 3 (.op none (.st 17 (.t 4) (.t 19)))
  (.one 4 (.op none (.st 1 (.t 5) (.t 20)))
  (.one 5 (.op none (.st 1 (.t 6) (.t 21)))
  (.done))))
  (.cons 3 (.op none (.st 17 (.t 4) (.t 19))) (.br (.cons 2 (.op (some 21) (.c (.ld 1 false (.t 6)))) (.one 4 (.op none (.st 1 (.t 5) (.t 20)))
  (.one 5 (.op none (.st 1 (.t 6) (.t 21)))
  (.done)))
  (.cons 4 (.op none (.st 1 (.t 5) (.t 20))) (.br (.cons 2 (.op (some 21) (.c (.ld 1 false (.t 6)))) (.one 5 (.op none (.st 1 (.t 6) (.t 21)))
  (.done))
  (.nil)))
  (.nil))))
  (.nil))))
  (.cons 2 (.op (some 21) (.c (.ld 1 false (.t 6)))) (.br (.cons 1 (.op (some 20) (.c (.ld 1 false (.t 5)))) (.one 3 (.op none (.st 17 (.t 4) (.t 19)))
  (.one 4 (.op none (.st 1 (.t 5) (.t 20)))
  (.one 5 (.op none (.st 1 (.t 6) (.t 21)))
  (.done))))
  (.cons 3 (.op none (.st 17 (.t 4) (.t 19))) (.br (.cons 1 (.op (some 20) (.c (.ld 1 false (.t 5)))) (.one 4 (.op none (.st 1 (.t 5) (.t 20)))
  (.one 5 (.op none (.st 1 (.t 6) (.t 21)))
  (.done)))
  (.nil)))
  (.nil))))
  (.cons 3 (.op none (.st 17 (.t 4) (.t 19))) (.br (.cons 1 (.op (some 20) (.c (.ld 1 false (.t 5)))) (.br (.cons 2 (.op (some 21) (.c (.ld 1 false (.t 6)))) (.one 4 (.op none (.st 1 (.t 5) (.t 20)))
  (.one 5 (.op none (.st 1 (.t 6) (.t 21)))
  (.done)))
  (.cons 4 (.op none (.st 1 (.t 5) (.t 20))) (.br (.cons 2 (.op (some 21) (.c (.ld 1 false (.t 6)))) (.one 5 (.op none (.st 1 (.t 6) (.t 21)))
  (.done))
  (.nil)))
  (.nil))))
  (.cons 2 (.op (some 21) (.c (.ld 1 false (.t 6)))) (.br (.cons 1 (.op (some 20) (.c (.ld 1 false (.t 5)))) (.one 4 (.op none (.st 1 (.t 5) (.t 20)))
  (.one 5 (.op none (.st 1 (.t 6) (.t 21)))
  (.done)))
  (.nil)))
  (.nil))))
  (.nil)))))) [4,5,6] [])
 (.ret)) (.skip)))
 (.dfr [.op (some 22) (.c (.mkf 102 [] [(.t 4),(.t 5),(.t 6)]))] [1,2,4,5,6,7,22] 22
 (.seq (.rg [] [.op (some 23) (.c (.mv (.t 7))),
   .op (some 24) (.c (.mv (.t 1))),
   .op (some 25) (.c (.lenS (.t 24))),
   .op (some 26) (.c (.bld [.nils,.int .i64 0,.nilm] [(0,(.t 23)),(1,(.t 25))])),
   .op (some 27) (.box 198 (.t 26)),
   .op (some 8) (.c (.mv (.t 27)))] [2,4,5,6,8] [4,5,6])
 (.seq (.rg [] [.op (some 28) (.c (.mv (.t 8))),
   .op (some 29) (.c (.mv (.t 8))),
   .op (some 30) (.call 103 [(.t 29)]),
   .op (some 31) (.c (.nilc (.t 28))),
   .op (some 32) (.c (.fldA 2 2 (.t 31))),
   .op none (.st 1 (.t 32) (.t 30))] [2,4,5,6,8] [4,5,6])
 (.seq (.rg [] [.op (some 33) (.c (.mv (.t 8))),
   .op (some 34) (.call 104 [(.t 33)]),
   .op (some 9) (.alloc 201 (.agg [.agg [.str [],.int .i64 0,.nils,.agg [.int .i64 0,.int .i64 0,.nils,.agg [.int .i64 0,.agg [.str [],.str [],.int .i64 0,.int .i64 0,.int .i64 0],.agg [.str [],.str [],.int .i64 0,.int .i64 0,.int .i64 0]]]],.str []])),
   .op none (.st 18 (.t 9) (.t 34))] [2,4,5,6,9] [4,5,6])
 (.seq (.rg [] [.op (some 35) (.c (.fldA 0 0 (.t 2))),
   .op (some 36) (.c (.ld 6 true (.t 35))),
   .op (some 37) (.c (.bld [.agg [.nils,.nils,.nils,.nils,.nils,.nils],.nils] [(0,(.t 36))])),
   .op (some 38) (.c (.ld 18 true (.t 9))),
   .op (some 39) (.call 105 [(.t 37),(.t 38)]),
   .op none (.st 17 (.t 4) (.t 39))] [2,4,5,6] [4,5,6])
 (.seq (.seq (.rg [] [.op (some 40) (.c (.ld 7 true (.t 2))),
   .op (some 41) (.ldg 17 true (.t 4)),
   .op (some 42) (.pcall 21 [(.t 40),(.t 41)]),
   .op (some 10) (.c (.mv (.t 42)))] [4,5,6,10] [4,5,6])
 (.seq (.rg [] [.op (some 43) (.c (.mv (.t 10))),
   .op (some 44) (.c (.bin .neq (.t 43) (.int .i64 0)))] [4,5,6,10,44] [4,5,6])
 (.cond (.t 44) (.seq (.rg [] [.op (some 45) (.c (.bld [.str [],.int .i64 0,.nils,.agg [.int .i64 0,.int .i64 0,.nils,.agg [.int .i64 0,.agg [.str [],.str [],.int .i64 0,.int .i64 0,.int .i64 0],.agg [.str [],.str [],.int .i64 0,.int .i64 0,.int .i64 0]]]] [])),
   .op (some 46) (.c (.mv (.t 10))),
   .op none (.st 17 (.t 4) (.t 45)),
   .op none (.st 1 (.t 5) (.int .i64 0)),
   .op none (.st 1 (.t 6) (.t 46))] [4,5,6] [4,5,6])
 (.ret)) (.skip))))
 (.seq (.rg [] [.op (some 47) (.c (.ld 17 true (.t 4))),
   .op none (.st 17 (.t 4) (.t 47)),
   .op none (.st 1 (.t 5) (.int .i64 0)),
   .op none (.st 1 (.t 6) (.int .i64 0))] [4,5,6] [4,5,6])
 (.ret))))))))))
theorem Zfk:Xjh Tryz.prog 47 2 Y3p [.c 4 17 true,.c 5 1 false,.c 6 1 false]=true:=by kernel_rfl
def Yo4:Nat:=0x1a115026c4913016c06011242141f0248144f5915026c524216894813016c060015026c4913016c066c4216894a1242141f92117114e915026c4913016c06011242141f0248117114e915026c4913016c06d07114cd1242141f92144f5915026c524216894813016c060015026c4913016c066c4216894a117114e915026c4913016c06d07114056c4216894a1242141f0255047415207cb9744303858506001228420801
def X6q:List It:=[.op (some 3) (.c (.mv (.t 6)))]
def Yl9:List Nat:=[0,1,2,3]
def n75:Nat:=0x103698b5cc910150345400f590fbbe70e09050f6a6246bbe70d000c5c146645461939052e0109ca090d25821e0a66454619391d1c030b1e084108594d8746ca0e1ce56a41
def Y3t:S:=zS [(zS [] Yo4)] n75
theorem Zfo:Xi3 Tryz.prog 75 3 6 X6q Y3t=true:=by kernel_rfl
def n80:Nat:=0x140282b6c2afd29922005272510380536390f264203669f014612026001244f23fd2292210540409e82889aff4b0d5f1d012f6a108341cc1c1d6c02fd1b19165b17041e83001a011f391c1ca12f18021883404008cc1b012f1502108341cc13146c874812010f834004cc0f14022f10020e8300116acc0f02051403669f3639032e0e4203665f05690d010f83400541406c1205160e0f03072f0b020e8341414001205b09850d830804074f06fd05920405a1041e0841
def Y3y:S:=zS [] n80
theorem Zft:Xj Tryz.prog 80 1 Y3y []=true:=by kernel_rfl
def n97:Nat:=0x19c0168de039c01383a5bde27592701267e2008250900203d2422023e8300203d0023013f391c1c00203d03634b203d21b6203d60ae00203d1f507e19081d0900193d1c1b023d8300193d0440193d1ab6193d475500193d1800177e1108160900113d1513023b8300113d0014013c391c1c00113d03634b113d12b6113d484a00113d10000f090e0c023983000d013a391c1c0363010b81740c201d625e03470a059d4b37391c0b3a96039cb05bde095909034708094936390e0363081f0362434806030614858585a40146283b042e0542858585a44b0a01630689414f68401d1196
def Y38:S:=zS [] n97
theorem Zf3:Xj Tryz.prog 97 1 Y38 [.t 2]=true:=by kernel_rfl
def Za8:Nat:=0x17f550368422e0016036a171eb9037f550368be0030039d411559154a14120d03134f0541115c121e0562464a10f10f60c30e63c305480f8941037f55030dbe0030f159b90c590c7503680b0c03040c6a62465c0aa709ae1409434546393b062e6307710a2508df4904c30163086b414f68be0030401d11b9
def Yh2:S:=zS [] Za8
theorem Yxw:Xj Tryz.prog 101 1 Yh2 [.t 2,.t 3,.t 4]=true:=by kernel_rfl
def Zbh:Nat:=0x10340045b09021a380d414008599c9a0b5542079d41
def Yia:S:=zS [] Zbh
theorem Yx4:Xj Tryz.prog 133 3 Yia []=true:=by kernel_rfl
def Zbi:Nat:=0x140ae5b040328c30140059d40
def Yib:S:=zS [] Zbi
theorem Yx5:Xj Tryz.prog 134 2 Yib []=true:=by kernel_rfl
def Ycy:Nat:=0x1004d874615091e141100390b260f1342b2b270464b0b1200120c8b0812f640
def Ycx:Nat:=0x1698b4d8746045b0f021a380d41400e590e4d02e79eee4b0b047f6260bf0a590a4d02e700090c020a6a62
def Zbu:Nat:=0x108c00116091e080e173b96694d8746a402004d8746300b260d093b58
def Yin:S:=zS [(zS [(zS [] Ycy)] Ycx)] Zbu
theorem Yyh:Xj Tryz.prog 146 4 Yin [.t 8]=true:=by kernel_rfl
def Zb1:Nat:=0x19c010e0204148704485f013b30012f0c02108341cc090b6c8748080a6c9660074609259af6012dc37b1e09cc19010dec550e8341cc665ff50038032e58
def Yiu:S:=zS [] Zb1
theorem Yyo:Xj Tryz.prog 153 1 Yiu [.c 2 4 true]=true:=by kernel_rfl
def Zb3:Nat:=0x19c47f14141404b2fde
def Yiw:S:=zS [] Zb3
theorem Yyq:Xj Tryz.prog 155 1 Yiw [.t 2]=true:=by kernel_rfl
def Yc9:Nat:=0x100ed75632210ab0ff3a1ed756321201d4516003b06001f011e0c490601c91ef64c01caed75637e06641c591ced9a750109091d6400ed099a7501091b001a091e6cca141b2519151e181501cf151d1701160c490601c9161e0a6200ed9a755d139a1411df85665fa436802e1263010f0d06060f7141d110ba10ed7501070e0f0d11bc
def Zb6:Nat:=0x108465c240023a7055e241eb969ed7563fced7563e80d590ef94604c90ca70b6c1d0a590b1eb9460143760034056a41
def Yiz:S:=zS [(zS [] Yc9)] Zb6
theorem Yyt:Xj Tryz.prog 158 2 Yiz [.t 4,.t 5]=true:=by kernel_rfl
def Zca:Nat:=0x19cb0039d4f58d7b62f403c3a1196
def Yi3:S:=zS [] Zca
theorem Yyx:Xj Tryz.prog 163 1 Yi3 [.t 2]=true:=by kernel_rfl
def Zcd:Nat:=0x17f012c2ca7762b2608383a362a280337c301263d2981263d03050587263d2781263d02050587263d25be246b363a3623210335c301fa2281fa03fd01fa2081fa02fd01fa1ebe1d1808343a367a33c301183d1b81183d855501183d1981183d02cb01183d17be161108323a3615130331c3d03d1481113d554ad03d1281113d4a4ad03d10be0f0a080e0c02303a0ed93d0d810a3d7c48d93d0b810a3d8748d93d09c006022f3a0e07eb41054248412941434a76421d11001decd7
def Yi6:S:=zS [] Zcd
theorem Yy0:Xj Tryz.prog 173 2 Yi6 [.t 4]=true:=by kernel_rfl
def Zck:Nat:=0x17f5da7070906ae053b0d03e73b1c1c400541434576422b3b042f96
def Yje:S:=zS [] Zck
theorem Yy7:Xj Tryz.prog 181 2 Yje [.t 4]=true:=by kernel_rfl
def Ydi:Nat:=0x1000c8255051b0dab0c001cdb4c7f99a61a591a0c82550619881a6aa80c824d02061800179a1403cf84714638802e0110ca10182516111e151311033d3a0e144f06cb124f064a4a63121f0ca80c820655060f060414665ff50038072e0eb0010c0a0406b9d10dba9e8255060b0c0d0ebc
def Zcm:Nat:=0x17f0123a776226b08395b210e7cfa2081fa554a01fa1e4c2d1d10031ceb4a1d200941690c825505fc0c82550568690409eb740a200462434a76427d1100283becd7
def Yjg:S:=zS [(zS [] Ydi)] Zcm
theorem Yy9:Xj Tryz.prog 183 2 Yjg [.t 4]=true:=by kernel_rfl
def Ydl:Nat:=0x1000d380c380b809a05070d6e0e38ab0d44000e39db4c7f99a60c6e590c83380c380b809a05080b6e090a6e086e026e030a3b0e096e420b391f076e63636eaa056e036e0b06046e4206391f016e634b6eaa3f443d440b063e444200391f0a04040a39200a920604391e0acb053edc10ed8288ff0c9a4b1045000d380c380b380a089a0508422e3c446c09013a443844013d382408013944423bfb05487e3b446c07422e3c446c09013a443844013d382408742e3b446c493944423bfb054a37443544013c3824060136444238fb870a92045d39dc7c0acb740736dc420a48037f99a634445934380d380c380b380a089a050933447e2ed8324442996531442f4463766530444299650a92766508be652d44002c447e27d82b44b627652a442844630027652944b627650acb0027650740276526440025447e20d824442244108b20652344592065064020652144b620650a920020651f4450447e1bd8fe1d440d8b1b651c44b61b650a92001b651a440019447e14d818441644108b14651744591465054014651544b614650acb0014651344455b12440d0311444f0a851238202462000d380c380b380a089a050810440a0514b2073b0b2e0f4460010d440b440506b9d10e44ba0e380d380c380b809a05080c440d440d7dbc
def Zcq:Nat:=0x17f742ea6690d380c380b809a059a46000d380c380b809a0507e80bd60a44eb04040b38200462c09a0503e90944004906d8f6604481042607383b025d448104261de90944091e4908448104260a383b0563d8f6604481042607383b9207d6046308dc7c04d6016005dc420848037f99a603d64338e3035c447e332c080144362c0c8b333dfe00444700333d372c59333d0640333d352c59333d342cb6333d0304ba333d322c00312c2e2c0c555b302c472f2c04e9f4042c2ceb04042d2010627105852bdf2a4f29fd282606062742291f2542271f24e0234f22fd21a0062042221f1e42201f03852820922620034a2120921f20100f9e82080e06757c0907020010797f99a61d591d55031c7e17081b0900173d1a1802093b0e00173d19b6173d855500173d02634b173d1600157e1008140900103d131102093b0e00103d12b6103d554a00103d02634b103d0f000e0cee0debcb0beb4a0c201362434a7642363911001decd7
def Yjk:S:=zS [(zS [] Ydl)] Zcq
theorem Yzd:Xj Tryz.prog 187 2 Yjk [.t 4]=true:=by kernel_rfl
def Zcx:Nat:=0x1084f09010e14080206635b43b2b270ef6600590a4908c340aadf055f014305f104424a171c002f045b850bc340b089414245b2b270ef665e46281058
def Yjr:S:=zS [] Zcx
theorem Yzk:Xj Tryz.prog 194 1 Yjr [.c 1 14 true]=true:=by kernel_rfl
def Ydr:Nat:=0x10871011d060414490448417b06021a1c6c1b411505455b0119041b1c184f17411605a1161e09417b0643140704146641435e462139082e13b00168120406114f10410fe9101e0841
def Zcy:Nat:=0x1690371450dd0c341400c590c06430b090a096808040ec3024240091e05627102c96641435e462139072e58
def Yjs:S:=zS [(zS [] Ydr)] Zcy
theorem Yzl:Xj Tryz.prog 195 3 Yjs [.c 6 4 true]=true:=by kernel_rfl
def Ydy:Nat:=0x10082bb4b071b6ef11045a1108204034b07196e186e176e166e146e0515c3044345455b156e43104015391e07a81082bb4b08136e0b1e126e116e100314001312391e04a882bb4b07106e02ab0f6e431043a11082bb7b0d6e0c6e0b6e0a6e096e0515c30443001042400a39f6a81082bb4b08086e0b1e076e066e10031400125e41056ef539141312100bbb4b0b046e036e0d0313001204399da8141312100bbb4b0a026e151e105b016e850c02399da81312100c0bbb4b0a006e003d44131e3f443e44471045003c443b44474b103cdc08a8100c0bbb4b083a440c1e113b386aa8bd0cbb4b083944003844111e013144ca3144393825374432dc36443544344433443244051d3b0d590d45424033dc0b417cca82bb4b8e44021e0f31386aa80f82bb7b2f44101e2e442d442c442b442a44051c3b0d590d4542a1074129445929389e82bb4b0a7628441bd8274409011b656826440d7c1b6525442144021c444e1b6524444826fb011b6520444822fb011b65234422440206011b650da2650023dc011b651f441d440206011b65fe1e4447011b6501a26540011b6504a2651a444c2d19440f7c1adcbda39e0882099aff4b114502
def Ydz:Nat:=0x169850818445918389e82bb4b0a17441644154414d61b3b0d044542a1054113445913389e82bb4b0a76124410d8fe11440b7c10650e4210650f44be0e440dd80b420d650c44690ddc0862
def Yd0:Nat:=0x1698b0e9e82bb4b0afe42a19e82bb4b090b440e1e0a4407444709d844474b0d455b064447027ba89e82bb4b0904440344024401d61a3b0d044542a105a8d640380e9e82bb4b0b045b372cee0e00386a62000e9e82bb4b0a362c00352c0e1e012f2cca2f2c3625342c301e332c322c312c302c04193b0d04454240311e0a41
def Ydx:Nat:=0x1698b0c82bb4b082e2c04abf4470343a10c82bb4b082b2a292804183b0d044542a105412759270c82bb4b0926090a4562e5402423222104173b0d044542a105412059200c82bb4b09681f0b854562e5401d1c1b1a04163b0d044542a105411959190c82bb4b09185b180e030c196a62000c82bb4b08170d1e1615470145161eb960
def Zc8:Nat:=0x16982bb4b9a460082bb4b492e424169bbe77e0b64
def Yj1:S:=zS [(zS [(zS [(zS [(zS [] Ydy)] Ydz)] Yd0)] Ydx)] Zc8
theorem Yzu:Xj Tryz.prog 205 5 Yj1 []=true:=by kernel_rfl
def Zde:Nat:=0x17f01120e053b110b1001090f10a30c04273b0d024b283b1c1c06455b0d4701454f0a424501420913050b1e0a417105870409076a4b263b1c0a3a9646024708e0490f830242081f035f48300e053b001c39ec96
def Yj7:S:=zS [] Zde
theorem Yz0:Xj Tryz.prog 227 2 Yj7 [.t 4]=true:=by kernel_rfl
def Zdh:Nat:=0x19c01100205140260485f010d0f6c87480c0e6c960109ca090d25821e0a012dc3000b1e0941039c5d020514472d02075c845f056906ae128308a13d034c45464804171d40054104595c43002f045b85148341624545b224032e58
def Yka:S:=zS [] Zdh
theorem Yz3:Xj Tryz.prog 230 1 Yka [.c 2 5 true]=true:=by kernel_rfl
def Yd4:Nat:=0x100bd0f02601f12ab110020db4c08719907641e0450bd0f02631d091c1b021a0c09635d63481b1e05a8bd0f8887071909061485665fa436380a2e18630117160606074217f6a8bd0f080787071508061413081e85665fa43638a51463d00f0606117141d112ba12bd0f026310110d13bc
def Zdj:Nat:=0x10871742e076469bd0f0260fcbd0f0260e80f5910f9e5719907640e590e02c90d0b0c030c044b0a590b1e0562450143760764
def Ykc:S:=zS [(zS [] Yd4)] Zdj
theorem Yz5:Xj Tryz.prog 233 3 Ykc [.t 6]=true:=by kernel_rfl
def Yd6:Nat:=0x100bd0f02601f12ab110020db4c08719907641e0450bd0f02631d091c1b021a0c09605d60481b1e05a8bd0f8887071909051403669f36390a2e18600117160506074217f6a8bd0f080787071508051413089d669f3639a51460d00f0506117141d112ba12bd0f026310110d13bc
def Zdn:Nat:=0x10871742e076469bd0f0260fcbd0f0260e80f5910f9e5719907640e590e02c90d0b0c030c044b0a590b1e0562450143760764
def Ykg:S:=zS [(zS [] Yd6)] Zdn
theorem Yz9:Xj Tryz.prog 237 3 Ykg [.t 6]=true:=by kernel_rfl
def Zdo:Nat:=0x17f0125a776246b23db303bf0fa2281fa03fd01fa2081fa02fd01fa1ebe1d1808780b7c183d1b81183d855501183d1981183d02cb01183d17be16110815130b7c113d1481113d554ad03d1281113d4a4ad03d10be0f0a080e0c0b7c0a3d0d810a3d7c48d93d0b810a3d8748d93d09c006ee07eb41054248412241434a7642363911003639ecd7
def Ykh:S:=zS [] Zdo
theorem Y0a:Xj Tryz.prog 238 2 Ykh [.t 4]=true:=by kernel_rfl
def Zdq:Nat:=0x17f0117a776161108151302313b0ed03d1481113d7c48d03d1281113d8748d03d10be0f0a080e0c0b7c0a3d0d810a3d554ad93d0b810a3d4a4ad93d09c006ee07eb41054248411441434a76427d11007decd7
def Ykj:S:=zS [] Zdq
theorem Y0c:Xj Tryz.prog 240 2 Ykj [.t 4]=true:=by kernel_rfl
def Yd8:Nat:=0x100171615b0044418ab174638db4c9c99de03d64338171615ce447e372c08065b01440c8b373d0044b6373d05a8373d362c00352c0906361e07a8171615e363342c00332c05061403cf8471463838062e01f4caf43425322c2e1e312c302c2e2c03323b0e8b2f2c60b0cb740b2f1f0b417c072c2c592c171615047c07472d2bee2a4f299204852a200462039c99de285928171615047c07277e6b2621108bfa2559fa24b6fa239200fa22a8fa5800fa20b6fa5c4a00fa1e4c2d1d0d031c4f044a1d200d62001716150403631b04081419041eb2435ff53c3a052e1a5d0117150806177141d118ba181716156016170d19bc
def Zdt:Nat:=0x19c742ede69171615b0fc171615b0e81504144f1392636c200562039c99de12591248117e0c08065b100f8b0c3d0f590c3d0eb60c3d0d92000c3d6348000c3d0b455b0a0d030904084f0792635d200c624299402a3b1196
def Ykm:S:=zS [(zS [] Yd8)] Zdt
theorem Y0f:Xj Tryz.prog 243 1 Ykm [.t 2]=true:=by kernel_rfl
def Zdv:Nat:=0x10871011a44df76194414d8184416440e036c6517444f6c655c4a6c6515444f6c6507926c651344be12440dd811440f44107c0d651044810d6504aa010d650e44810d650792010d650c44be0b4406d80ad8440e03636509444f63655c4a636507444f6365494863650544be0444372c4d440144107c373d024481373d04aa01373d004481373d494801373d362cbe352c302c08342c322c022f3af0303d332c81303d04050587303d312c81303d07050587303d2f2cbe2e2c2908f42b0b7c293d2c2c81293d04fd01293d2a81293d07fd01293d28be27220826240b7c223d2581223db901223d2381223d074101223d21c0221e33a80807040320001f9a1403cf84714638802e0117ca1720251e181e1d191803323b0e1c041b4f1a92030648056047010b191f0d41e5710116df7615100814120e7c103d1381103d5c4a01103d1181103d755c01103d0f000e0c10030d4f04aa0b4f755c0d410a590a7503040901333b0e05600a1f02624604857645241101383811002a3b042fb9
def Yko:S:=zS [] Zdv
theorem Y0h:Xj Tryz.prog 246 3 Yko [.t 6]=true:=by kernel_rfl
def Yec:Nat:=0x10082090304140cab0bf3a1820903047e1312430016003b0543139d4c9c99de1159118209050306100f40014300151d054310f90082090503050ee00d4f0b0963d7d10cba0c820903050a0b0d0dbc
def Zdw:Nat:=0x19c742ede6982090304fc82090304e809590af9434508041e521d0659dfb94099de
def Ykp:S:=zS [(zS [] Yec)] Zdw
theorem Y0i:Xj Tryz.prog 247 1 Ykp [.t 2]=true:=by kernel_rfl
def Zd2:Nat:=0x10843010704f60905b00c0260744f055f4876403239ec96
def Ykv:S:=zS [] Zd2
theorem Y0o:Xj Tryz.prog 254 2 Ykv [.t 3]=true:=by kernel_rfl
def Yed:Nat:=0x1008209ae631f0cab0b0020dba18209ae631ee01d1b06031c02072d090307461c1e054c7f99a61a591a820907ae5d197e1608181702373b0e00163d0740163d0540163d1500147e11081312108b113d0140113d0740113d104c2d0f0d0307101e0c62008209070587070e081e0d4f0b0963d7d10cba0c82090587070a0b0d0dbc
def Zd4:Nat:=0x17f01332ca776322cf408312c09012d3d302c2e2c02373bf02d3d2f2c812d3d02cb012d3d05422d3d2c2cbe2b27082a290d7c273d0142273d2881273d02cb01273d26be2522086824107c223d2381223d02cb01223d2140072d200c0305211e1541698209ae63fc8209ae63e809040842484a092004624602477b2d425f4876a700383aec96
def Ykx:S:=zS [(zS [] Yed)] Zd4
theorem Y0q:Xj Tryz.prog 256 2 Ykx [.t 4]=true:=by kernel_rfl
def Zed:Nat:=0x19c014d2dde403d30012f065bee0bc3414140012130012f065b09030bc3696a41039cb05bde039c635bde085908013d30012f065bf70fc34162065906453c30012f065b05030fc3716a62039c485bde045904453d30012f065b850fc34162400168de
def Yk7:S:=zS [] Zed
theorem Y01:Xj Tryz.prog 267 1 Yk7 [.t 2]=true:=by kernel_rfl
def Zee:Nat:=0x17f010da70c0a0212c3680b10038d0b1e0541460109e008070210380ee7424806010720055f4868a700143aec96
def Yk8:S:=zS [] Zee
theorem Y02:Xj Tryz.prog 268 2 Yk8 [.t 4]=true:=by kernel_rfl
def Zef:Nat:=0x1034025276c26cb120524230212c30122ca2207211d14031f3a0e2042221f1c4f1b921a160406ad1f1542171f1363151f1faa1ecd1f1e189217cd186a06011620964b171615141312bd0f82885c0e9e9a05034b1741480f116c109209050e0a02143b0d0d420f1f87070b1f0c410bcd0c1e4b0a889a05b05569450859080247002f070c03064f05410405601e055f4800143aec58
def Yk9:S:=zS [] Zef
theorem Y03:Xj Tryz.prog 269 2 Yk9 []=true:=by kernel_rfl
def Zel:Nat:=0x1084fae1e04010f834001474140012c30012f4a108340aa41404b2f4241
def Ylf:S:=zS [] Zel
theorem Y09:Xj Tryz.prog 288 1 Ylf [.t 1]=true:=by kernel_rfl
def Yez:Nat:=0x1009ec9190eab0d001adb4c7f99a61859180d4e461713437045020585450204f11c165d181f125d141f151408e342151ebd08e340111e88f7e35c4b0945009ecd460fe00d4541d10eba0e0d4e460c0d0d0fbc
def Zeq:Nat:=0x17f742ea6699ec9fc9ec9e80b590cf9037f99a60a590a014309070ce504e759df0562424576a6
def Ylk:S:=zS [(zS [] Yez)] Zeq
theorem Y1e:Xj Tryz.prog 293 2 Ylk [.t 4]=true:=by kernel_rfl
def Ye4:Nat:=0x1c0495e1209ab080013db4c7fd0a7054541105910080705e70f010b0c0e60019e05e3a1010cf6a80807cd460ae09c41d109ba88494607080d0abc
def Zex:Nat:=0x17f01472da66908495ea4c0495e68715907f9424568a6
def Ylr:S:=zS [(zS [] Ye4)] Zex
theorem Y1l:Xj Tryz.prog 300 2 Ylr [.t 4]=true:=by kernel_rfl
end Go.Proofs.YtolkimpelpnpbaaGreatDoor
namespace Go.Proofs.YtolkimpelpnpbaaGreatDoor
open Go Go.Ab
end Go.Proofs.YtolkimpelpnpbaaGreatDoor
namespace Go.Py
open Go Go.Ab Go.Lx Go.Sx
end Go.Py
namespace Go.Proofs.YtolkimpelpnpbaaGreatDoor
open Go Go.Ab Go.Lx Go.Sx Go.Py
section
variable {P:Prg} (hP:P.p=Tryz.prog)
include hP
end
end Go.Proofs.YtolkimpelpnpbaaGreatDoor
namespace Go.Proofs.YtolkimpelpnpbaaGreatDoor
open Go Go.Ab Go.Lx Go.Sx Go.Py
section
variable {P:Prg} (hP:P.p=Tryz.prog)
include hP
end
end Go.Proofs.YtolkimpelpnpbaaGreatDoor
namespace Go.Py
open Go Go.Ab Go.Lx Go.Sx
end Go.Py
namespace Go.Proofs.YtolkimpelpnpbaaGreatDoor
open Go Go.Ab Go.Lx Go.Sx Go.Py
section
variable {P:Prg} (hP:P.p=Tryz.prog)
include hP
end
end Go.Proofs.YtolkimpelpnpbaaGreatDoor
namespace Go.Proofs.YtolkimpelpnpbaaGreatDoor
open Go Go.Ab Go.Lx Go.Sx
section
variable {P:Prg} (hP:P.p=Tryz.prog)
include hP
end
end Go.Proofs.YtolkimpelpnpbaaGreatDoor
namespace Go.Sx
open Go Go.Ab Go.Lx
end Go.Sx
namespace Go.Proofs.YtolkimpelpnpbaaGreatDoor
open Go Go.Ab Go.Lx Go.Sx
section
variable {P:Prg} (hP:P.p=Tryz.prog)
include hP
end
end Go.Proofs.YtolkimpelpnpbaaGreatDoor
namespace Go.Lx
open Go Go.Ab
def Xho:Int->List UInt8->Option Int
 | n,[]=>some n
 | n,c::r=>if 1099511627776<10*n+(c.toNat-48) then none else Xho (10*n+(c.toNat-48)) r
theorem Xsl {s:List UInt8}{k:Nat}{n:Int}(h:k<s.length):Xho n (s.drop k)=if 1099511627776<10*n+((s[k]?.getD 0).toNat-48) then none else Xho (10*n+((s[k]?.getD 0).toNat-48)) (s.drop (k+1)):=by
 rw[Uaf h];simp[Xho,h]
end Go.Lx
namespace Go.Proofs.YtolkimpelpnpbaaGreatDoor
open Go Go.Ab Go.Lx
section
variable {P:Prg} (hP:P.p=Tryz.prog)
include hP
end
end Go.Proofs.YtolkimpelpnpbaaGreatDoor
namespace Go.Sx
open Go Go.Ab Go.Lx
def fieldsOf (y:RSrc)(v:RVar):List RField:=match y.schemas[v.schema.toNat]? with | some c=>c.fields | none=>[]
end Go.Sx
namespace Go.Sx
open Go Go.Ab Go.Lx
def refP (vs:List RVar)(x:RTerm):Int×Int:=
 if x.var=-1 then (0,0) else match vs[x.var.toNat]? with | some v=>(v.schema,x.field) | none=>(0,0)
end Go.Sx
namespace Go.Proofs.YtolkimpelpnpbaaGreatDoor
open Go Go.Ab Go.Lx Go.Sx
section
variable {P:Prg} (hP:P.p=Tryz.prog)
include hP
end
end Go.Proofs.YtolkimpelpnpbaaGreatDoor
namespace Go.Proofs.YtolkimpelpnpbaaGreatDoor
open Go Go.Ab Go.Lx Go.Sx
section
variable {P:Prg} (hP:P.p=Tryz.prog)
include hP
theorem X9d {t:RTab}(ht:t.src.small)(ho:t.order.length<=9223372036854775807){q:RQ}(hq:q.small){ob:Xb}{K:V->Prop}(h:∀b:Bool,(b=true->q.vars.length<=6)->K (.d (.bool b))):PCall P 9 [.d t.enc,.d q.enc] ob K:=by
 refine Xh hP mixed (ds:=[t.enc,q.enc]) ok9 lf9 TOk.nil ?_;simp[Et9,RTab.enc,RQ.enc,RSrc.enc,Xq,Xea,RForm.enc_eq,RAtom.enc,RTerm.enc];refine Xlr hP ht ho (fun b=>?_);have c2:∀{ob:Xb} {K:V->Prop},(∀b,K (.d (.bool b)))->PCall P 26 [.d q.form.enc] ob K:=fun h=>Xit hP q.form hq.form h;rw[RForm.enc_eq]at c2;simp only[RAtom.enc,RTerm.enc]at c2;cases b with
 | false=>
  simp;exact h false (by simp)
 | true=>
  by_cases hv:q.vars.length<=6
  ·have hv':(q.vars.length:Int)<=6:=by omega
   simp[hv'];refine c2 (fun b=>?_);simp;exact h b (fun _=>hv)
  ·have hv':¬(q.vars.length:Int)<=6:=by omega
   simp[hv'];exact h false (by simp)
end
end Go.Proofs.YtolkimpelpnpbaaGreatDoor
namespace Go.Sx
open Go Go.Ab Go.Lx
mutual
def RForm.tiny:RForm->Prop
 | .mk _ _ k _=>k.length<=1000000/\Xk6 k
def Xk6:List RForm->Prop
 | []=>True
 | f::r=>f.tiny/\Xk6 r
end
theorem X0r {l:List RForm}:Xk6 l↔∀f∈l,f.tiny:=by
 induction l with
 | nil=>simp[Xk6]
 | cons f r ih=>simp[Xk6,ih]
theorem RForm.tiny_eq {f:RForm}(h:f.tiny):f.kids.length<=1000000/\∀k∈f.kids,k.tiny:=by
 cases f; rw[RForm.tiny]at h; exact⟨h.1,X0r.1 h.2⟩
end Go.Sx
namespace Go.Sx
open Go Go.Ab Go.Lx
mutual
def RForm.nm:RForm->Nat
 | .mk _ _ k _=>nmL k+1
def nmL:List RForm->Nat
 | []=>0
 | f::r=>f.nm+nmL r
end
end Go.Sx
namespace Go.Sx
open Go Go.Ab Go.Lx
mutual
theorem Xqy:∀f:RForm,f.nm<=1000000->f.tiny/\f.small
 | .mk op n k a,h=>by
  rw[RForm.nm]at h;obtain⟨h1,h2,h3⟩:=Xkg k (by omega);rw[RForm.tiny,RForm.small];exact⟨⟨by omega,h1⟩,by omega,h2⟩
theorem Xkg:∀l:List RForm,nmL l<=1000000->Xk6 l/\RForm.smalls l/\l.length<=nmL l
 | [],h=>by rw[Xk6,RForm.smalls]; exact⟨trivial,trivial,by simp[nmL]⟩
 | f::r,h=>by
  rw[nmL]at h;obtain⟨h1,h2⟩:=Xqy f (by omega);obtain⟨g1,g2,g3⟩:=Xkg r (by omega);have:1<=f.nm:=by cases f; rw[RForm.nm]; omega
  rw[Xk6,RForm.smalls,nmL];exact⟨⟨h1,g1⟩,⟨h2,g2⟩,by simp only[List.length_cons]; omega⟩
end
theorem Xcy (f:RForm):(V.d f.enc).isAgg=true:=by rw[RForm.enc_eq]; rfl
end Go.Sx
namespace Go.Sx
open Go Go.Ab Go.Lx
theorem Xy9:∀{l:List RForm} {f:RForm},f∈l->f.nm<=nmL l
 | g::r,f,h=>by
  rw[nmL];rcases Uax.1 h with rfl | h
  ·omega
  ·have:=Xy9 h; omega
mutual
theorem X1w:∀f:RForm,f.atoms.length<=f.nm
 | .mk op n k a=>by
  have:=Xcm k;rw[RForm.atoms,RForm.nm,Uar];split
  ·simp only[List.length_singleton]; omega
  ·simp only[List.length_nil]; omega
theorem Xcm:∀l:List RForm,(RForm.atomsL l).length<=nmL l
 | []=>by rw[RForm.atomsL,nmL]; simp
 | f::r=>by
  have:=X1w f; have:=Xcm r;rw[RForm.atomsL,nmL,Uar]; omega
end
theorem Xcl:∀l:List RForm,RForm.atomsL l=l.flatMap RForm.atoms
 | []=>by rw[RForm.atomsL]; rfl
 | f::r=>by rw[RForm.atomsL,Xcl r]; rfl
theorem Ymj {f g:RForm}(h:g∈f.kids):g.nm<f.nm:=by
 cases f;rw[RForm.nm];have:=Xy9 h;simp only[RForm.kids]at this;omega
theorem Xw0 {l:List RForm}(k:Nat):((l.take k).flatMap RForm.atoms).length<=nmL l:=by
 have h:=Xcm l;rw[Xcl]at h;have:(l.take k).flatMap RForm.atoms <+: l.flatMap RForm.atoms:=by
  rw[<-Uao k l,List.flatMap_append];simp
 have:=this.length_le;omega
def Xaq (f:RForm):List RAtom:=if f.op=5 then[f.atom] else[]
theorem atoms_eq (f:RForm):f.atoms=Xaq f++f.kids.flatMap RForm.atoms:=by
 cases f;rw[RForm.atoms,Xcl]; rfl
end Go.Sx
namespace Go.Proofs.YtolkimpelpnpbaaGreatDoor
open Go Go.Ab Go.Lx Go.Sx
section
variable {P:Prg} (hP:P.p=Tryz.prog)
include hP
theorem Xzl:∀(f:RForm),f.nm<=1000000->∀{ob:Xb} {K:V->Prop},K (.d (.list 11 (f.atoms.map RAtom.enc)))->PCall P 63 [.d f.enc] ob K:=fun f hf ob K h=>by
 have ih:∀k∈f.kids,∀{ob:Xb} {K:V->Prop},K (.d (.list 11 (k.atoms.map RAtom.enc)))->PCall P 63 [.d k.enc] ob K:=fun k hk _ _ h=>Xzl k (by have:=Ymj hk; omega) h;have hkl:f.kids.length<=1000000:=by cases f with | mk o n k a=>exact (RForm.tiny_eq (Xqy _ hf).1).1
 refine Xh hP mixed (ds:=[f.enc]) Zfm Zay TOk.nil ?_;have main:ALoop [1,3,4] (Yr P [] Xhg) (Y7 0 (W3 (Yr P [] ((S2.rg [] [(2,E.a (A.t 3))] []).seq S2.ret) (Uv [RV.t 2] K)) (Uv [RV.t 2] K)))
   [(1,V.ptr 0 []),(3,V.sl 1 (Xaq f).length),(4,V.d (D.int IntKind.i64 0))] [(1,Ob.arr 38 11 ((Xaq f).map RAtom.enc)),(0,Ob.box 40 (V.d (D.agg [iD f.op,iD f.n,D.list 14 (List.map RForm.enc f.kids),f.atom.enc])))]:=by
  refine ALoop.go (ι:=Nat) (fun i=>[(1,.ptr 0 []),(3,.sl 1 (Xaq f++(f.kids.take i).flatMap RForm.atoms).length),(4,.d (.int .i64 i))])
   (fun i=>[(1,.arr 38 11 ((Xaq f++(f.kids.take i).flatMap RForm.atoms).map RAtom.enc)),(0,.box 40 (.d (.agg [iD f.op,iD f.n,.list 14 (f.kids.map RForm.enc),f.atom.enc])))])
   (fun i=>i<=f.kids.length) (fun i=>f.kids.length-i) 0 (Ubg _) (by simp) (by simp) ?_
  rintro i hi R rn re rr rp;by_cases hlt:i<f.kids.length
  ·have hwr:IntKind.i64.wrap ((i:Int)+1)=(i:Int)+1:=IntWalk.i64_in _ (by omega);have hsz:(RForm.enc f.kids[i]).shape.size=14:=by rw[RForm.enc_shape]; rfl
   have hnx:Xaq f++(f.kids.take (i+1)).flatMap RForm.atoms=(Xaq f++(f.kids.take i).flatMap RForm.atoms)++f.kids[i].atoms:=by
    rw[Ubj hlt,List.flatMap_append,Uav]; simp
   have hb:=Xw0 (l:=f.kids) i;have hb1:=Xw0 (l:=f.kids) (i+1);simp[Xt6,hlt,hsz,Xcy];refine⟨Xcy _,ih _ (Uba hlt) ?_⟩;have hh:(Xaq f).length<=1:=by unfold Xaq; split<;>simp
   have hnk:nmL f.kids<=1000000:=by cases f with | mk o n k a=>rw[RForm.nm]at hf; simp only[RForm.kids]; omega
   have hlen:=Ua4 List.length hnx;simp only[Uar]at hlen;have e1:(List.take i (List.map (fun a=>a.atoms.length) f.kids)).sum=((f.kids.take i).flatMap RForm.atoms).length:=by
    rw[List.length_flatMap,<-Uap]
   simp;rw[e1];refine⟨by omega,rn [] (i+1) _ _ (by omega) (by omega) ?_ (by rw[hnx]; simp[Xe]) (by simp[Xe]) (by simp[Xe])⟩;rw[hnx];simp[hwr];rw[e1];omega
  ·have:i=f.kids.length:=by omega
   subst this;simp[Xt6];refine re _ _ _ ?_;rw[atoms_eq]at h;simp at h⊢;exact h
 by_cases h5:f.op=5
 ·have hh:Xaq f=[f.atom]:=by simp[Xaq,h5]
  rw[hh,h5]at main;simp[Y2a,Xt7,RForm.enc_eq,h5];exact⟨rfl,main⟩
 ·have hh:Xaq f=[]:=by simp[Xaq,h5]
  rw[hh]at main;simp[Y2a,Xt7,RForm.enc_eq,h5];exact main
termination_by f=>SizeOf.sizeOf f
decreasing_by exact RForm.kid_lt hk
theorem Yfk {q:RQ}(hf:q.form.nm<=1000000){ob:Xb}{K:V->Prop}(h:K (.d (.list 11 (q.form.atoms.map RAtom.enc)))):PCall P 33 [.d q.enc] ob K:=by
 refine Xh hP mixed (ds:=[q.enc]) Zff Zaj TOk.nil ?_;have hsz:q.form.enc.shape.size=14:=by rw[RForm.enc_shape]; rfl
 simp[Y75,RQ.enc,hsz];refine⟨Xcy _,Xzl hP q.form hf ?_⟩;simp;exact h
end
end Go.Proofs.YtolkimpelpnpbaaGreatDoor
namespace Go.Proofs.YtolkimpelpnpbaaGreatDoor
open Go Go.Ab Go.Lx Go.Sx
section
variable {P:Prg} (hP:P.p=Tryz.prog)
include hP
end
end Go.Proofs.YtolkimpelpnpbaaGreatDoor
namespace Go.Py
open Go Go.Ab Go.Lx Go.Sx
end Go.Py
namespace Go.Proofs.YtolkimpelpnpbaaGreatDoor
open Go Go.Ab Go.Lx Go.Sx Go.Py
section
variable {P:Prg} (hP:P.p=Tryz.prog)
include hP
end
end Go.Proofs.YtolkimpelpnpbaaGreatDoor
namespace Go.Py
open Go Go.Ab Go.Lx Go.Sx
def ltP (a b:Int×Int):Bool:=decide (a.1<b.1)||(decide (a.1=b.1)&&decide (a.2<b.2))
abbrev Srt (l:List (Int×Int)):Prop:=l.Pairwise fun a b=>ltP a b=true
end Go.Py
namespace Go.Py
open Go Go.Ab Go.Lx Go.Sx
def Qf {α:Type}:Nat->List α->List (List α)
 | 0,_=>[[]]
 | _+1,[]=>[]
 | k+1,a::l=>(Qf k l).map (a::·)++Qf (k+1) l
def Zw {α:Type}(l:List α):Nat->Nat->List (List α)
 | _,0=>[]
 | n,m+1=>Qf n l++Zw l (n+1) m
def Zx {α:Type}(l:List α):List (List α):=Zw l 0 (l.length+1)
theorem Xcc {α:Type}:∀(k:Nat) (l s:List α),s∈Qf k l->s.Sublist l/\s.length=k
 | 0,l,s,h=>by
  simp only[Qf,Uci]at h;subst h; simp
 | k+1,[],s,h=>by simp[Qf]at h
 | k+1,a::l,s,h=>by
  simp only[Qf,Ubu,Ua5]at h;rcases h with⟨r,hr,rfl⟩ | h
  ·obtain⟨h1,h2⟩:=Xcc k l r hr;exact⟨h1.cons_cons a,by simp[h2]⟩
  ·obtain⟨h1,h2⟩:=Xcc (k+1) l s h;exact⟨h1.cons a,h2⟩
theorem Xq9 {α:Type}{l s:List α}(h:s.Sublist l):s∈Qf s.length l:=by
 induction h with
 | slnil=>simp[Qf]
 | @cons s l a h ih=>
  cases s with
  | nil=>simp[Qf]
  | cons b r=>
   simp only[List.length_cons]at ih⊢;simp only[Qf,Ubu];exact .inr ih
 | @cons_cons s l a h ih=>
  simp only[List.length_cons,Qf,Ubu,Ua5];exact .inl ⟨_,ih,rfl⟩
theorem Xh0 {α:Type}:∀(k:Nat) (l:List α),l.length<k->Qf k l=[]
 | 0,_,h=>by omega
 | k+1,[],_=>rfl
 | k+1,a::l,h=>by
  simp only[List.length_cons]at h;simp[Qf,Xh0 k l (by omega),Xh0 (k+1) l (by omega)]
theorem Xfo {α:Type}{l s:List α}:∀(m n:Nat),s∈Zw l n m↔n<=s.length/\s.length<n+m/\s.Sublist l
 | 0,n=>by
  simp only[Zw,List.not_mem_nil,false_iff];omega
 | m+1,n=>by
  simp only[Zw,Ubu,Xfo m (n+1)];constructor
  ·rintro (h | ⟨h1,h2,h3⟩)
   ·obtain⟨h1,h2⟩:=Xcc n l s h;exact⟨by omega,by omega,h1⟩
   ·exact⟨by omega,by omega,h3⟩
  ·rintro⟨h1,h2,h3⟩;by_cases e:s.length=n
   ·exact .inl (e▸Xq9 h3)
   ·exact .inr ⟨by omega,by omega,h3⟩
theorem Xlo {α:Type}{l s:List α}:s∈Zx l↔s.Sublist l:=by
 unfold Zx;rw[Xfo];constructor
 ·exact fun h=>h.2.2
 ·exact fun h=>⟨Ubg _,by have:=h.length_le; omega,h⟩
theorem Xd0 {α:Type}{p:List α->Bool}{l s:List α}:∀(m n:Nat),(Zw l n m).find? p=some s->p s=true/\s.Sublist l/\∀r,r.Sublist l->n<=r.length->r.length<s.length->p r=false
 | 0,n,h=>by simp[Zw]at h
 | m+1,n,h=>by
  simp only[Zw,List.find?_append]at h;cases h1:(Qf n l).find? p with
  | some t=>
   rw[h1]at h;simp only[Option.some_or,Uaq]at h;subst h;obtain⟨h2,h3⟩:=Xcc n l t (List.mem_of_find?_eq_some h1);exact⟨List.find?_some h1,h2,fun r _ h4 h5=>by omega⟩
  | none=>
   rw[h1]at h;simp only[Option.none_or]at h;obtain⟨h2,h3,h4⟩:=Xd0 m (n+1) h;refine⟨h2,h3,fun r hr h5 h6=>?_⟩;by_cases e:r.length=n
   ·have:=List.find?_eq_none.1 h1 r (e▸Xq9 hr);simpa using this
   ·exact h4 r hr (by omega) h6
theorem Xil {α:Type}{p:List α->Bool}{l s:List α}(h:(Zx l).find? p=some s):p s=true/\s.Sublist l/\∀r,r.Sublist l->r.length<s.length->p r=false:=by
 obtain⟨h1,h2,h3⟩:=Xd0 _ _ h;exact⟨h1,h2,fun r hr hl=>h3 r hr (Ubg _) hl⟩
theorem Xim {α:Type}{p:List α->Bool}{l:List α}(h:(Zx l).find? p=none){r:List α}(hr:r.Sublist l):p r=false:=by
 have:=List.find?_eq_none.1 h r (Xlo.2 hr);simpa using this
def Xgg (p:RPurpose)(q:RQ):Bool:=(Xt q).all (fun f=>decide (f∈p.may.map Go.Py.refP))&&decide (((Xt q).length:Int)<=p.most)
def Xap (p:RPurpose)(q:RQ)(s:List (Int×Int)):Bool:=(rbF (We q s) q.form).2&&Xgg p (q.withF (rbF (We q s) q.form).1)
def Vu (p:RPurpose)(q:RQ):Option (List (Int×Int)):=(Zx (Xt q)).find? (Xap p q)
theorem Xr7 {q:RQ}{a b:List (Int×Int)}(h:∀p,p∈a↔p∈b):X4f q a=X4f q b:=by
 funext t;unfold X4f;split
 ·rw[Ucl]; simp[h]
 ·rfl
theorem Xar {q:RQ}{a b:List (Int×Int)}(h:∀p,p∈a↔p∈b):We q a=We q b:=by
 funext t;unfold We;rw[Xr7 h]
theorem Xj1 (y:RSrc)(s:List (Int×Int))(p:Int×Int):p∈Ur (s.map (Uw y))↔p∈s:=by
 rw[Xxl];constructor
 ·rintro⟨r,hr,rfl⟩;obtain⟨x,hx,rfl⟩:=Ua5.1 hr;rw[X77]; exact hx
 ·exact fun h=>⟨_,Ua5.2 ⟨p,h,rfl⟩,X77 y p⟩
end Go.Py
namespace Go.Proofs.YtolkimpelpnpbaaGreatDoor
open Go Go.Ab
def Y3g:S:=.seq (.rg [] [.op (some 2) (.box 32 (.t 0)),
   .op (some 3) (.box 42 (.t 1)),
   .op (some 4) (.c (.mv (.bool false)))] [2,3] [])
 (.seq (.rg [] [.op (some 5) (.c (.ld 7 true (.t 2))),
   .op (some 6) (.c (.ld 17 true (.t 3))),
   .op (some 7) (.pcall 9 [(.t 5),(.t 6)]),
   .op (some 8) (.c (.mv (.t 7))),
   .gop 8 true (some 9) (.c (.ld 17 true (.t 3))),
   .gop 8 true (some 10) (.pcall 33 [(.t 9)]),
   .gop 8 true (some 11) (.c (.lenL (.t 10))),
   .gop 8 true (some 12) (.c (.bin .leq (.t 11) (.int .i64 5))),
   .op (some 13) (.c (.pick (.t 8) (.t 12) (.bool false))),
   .op (some 4) (.c (.mv (.t 13)))] [4] [])
 (.ret))
theorem Zfa:Xj Tryz.prog 15 2 Y3g [.t 4]=true:=by kernel_rfl
def Yl4:S:=.seq (.rg [] [.op (some 108) (.c (.mv (.t 17))),
   .op (some 109) (.c (.bin .eql (.t 108) (.int .i64 0))),
   .op (some 110) (.c (.mv (.t 109))),
   .gop 110 true (some 111) (.c (.ldd 7 true (.t 2))),
   .gop 110 true (some 112) (.c (.ld 17 true (.t 16))),
   .gop 110 true (some 113) (.pcall 13 [(.t 111),(.t 112)]),
   .gop 110 true (some 114) (.c (.bin .eql (.t 113) (.int .i64 0))),
   .op (some 115) (.c (.pick (.t 110) (.t 114) (.bool false)))] [2,3,5,9,76,77,115] [])
 (.cond (.t 115) (.seq (.rg [] [.op (some 4) (.c (.mv (.bool false)))] [4] [])
 (.ret)) (.skip))
def Yl5:S:=.rg [] [.op (some 96) (.c (.bin .add (.t 82) (.int .i64 1))),
   .op (some 82) (.c (.mv (.t 96)))] [2,3,5,9,12,13,76,77,80,81,82] []
def Yl2:S:=.seq (.rg [] [.op (some 83) (.c (.bin .lss (.t 82) (.t 81)))] [2,3,5,9,12,13,76,77,80,81,82,83] [])
 (.seq (.cond (.t 83) (.skip) (.exit 3))
 (.seq (.block 4 (.seq (.rg [] [.op (some 84) (.c (.mv (.t 82))),
   .op (some 85) (.c (.idxA 4 (.t 80) (.t 82))),
   .op (some 86) (.c (.ldd 4 true (.t 85))),
   .op (some 15) (.alloc 56 (.agg [.str [],.str [],.int .i64 0,.int .i64 0])),
   .op (some 14) (.c (.mv (.t 84))),
   .op none (.st 4 (.t 15) (.t 86))] [2,3,5,9,12,13,14,15,76,77,80,81,82] [])
 (.seq (.rg [] [.op (some 87) (.c (.mv (.t 12))),
   .op (some 88) (.c (.mv (.t 14))),
   .op (some 89) (.c (.bin .shr (.t 87) (.t 88))),
   .op (some 90) (.c (.bin .and (.t 89) (.int .i64 1))),
   .op (some 91) (.c (.bin .eql (.t 90) (.int .i64 1)))] [2,3,5,9,12,13,15,76,77,80,81,82,91] [])
 (.cond (.t 91) (.rg [] [.op (some 92) (.c (.mv (.t 13))),
   .op (some 93) (.c (.ld 4 true (.t 15))),
   .op (some 94) (.bls 4 [.agg [.str [],.str [],.int .i64 0,.int .i64 0]] [(0,(.t 93))]),
   .op (some 95) (.app 56 4 48 (.t 92) (.t 94)),
   .op (some 13) (.c (.mv (.t 95)))] [2,3,5,9,12,13,76,77,80,81,82] []) (.skip)))))
 (Yl5)))
def Yl6:S:=.rg [] [.op (some 116) (.c (.bin .add (.t 77) (.int .i64 1))),
   .op (some 77) (.c (.mv (.t 116)))] [2,3,5,9,76,77] []
def Yl3:S:=.seq (.rg [] [.op (some 78) (.c (.bin .lss (.t 77) (.t 76)))] [2,3,5,9,76,77,78] [])
 (.seq (.cond (.t 78) (.skip) (.exit 1))
 (.seq (.block 2 (.seq (.rg [] [.op (some 79) (.c (.mv (.t 77))),
   .op (some 12) (.c (.mv (.t 79)))] [2,3,5,9,12,76,77] [])
 (.seq (.rg [] [.op (some 13) (.nilo 56 4 .nils)] [2,3,5,9,12,13,76,77] [])
 (.seq (.seq (.rg [] [.op (some 80) (.c (.mv (.t 5))),
   .op (some 81) (.c (.lenL (.t 80))),
   .op (some 82) (.c (.mv (.int .i64 0)))] [2,3,5,9,12,13,76,77,80,81,82] [])
 (.block 3 (.loop [2,3,5,9,12,13,76,77,80,81,82] Yl2)))
 (.seq (.seq (.rg [] [.op (some 97) (.c (.mv (.t 13))),
   .op (some 98) (.c (.lenL (.t 97))),
   .op (some 99) (.c (.mv (.t 9))),
   .op (some 100) (.c (.bin .gtr (.t 98) (.t 99)))] [2,3,5,9,13,76,77,100] [])
 (.cond (.t 100) (.exit 2) (.skip)))
 (.seq (.rg [] [.op (some 102) (.c (.ldd 7 true (.t 2))),
   .op (some 103) (.c (.ldd 17 true (.t 3))),
   .op (some 104) (.c (.mv (.t 13))),
   .op (some 105) (.call 16 [(.t 102),(.t 103),(.t 104)]),
   .op (some 101) (.c (.mv (.t 105))),
   .op (some 106) (.c (.ext (.t 101) 0)),
   .op (some 107) (.c (.ext (.t 101) 1)),
   .op (some 16) (.alloc 42 (.agg [.str [],.int .i64 0,.nils,.agg [.int .i64 0,.int .i64 0,.nils,.agg [.int .i64 0,.agg [.str [],.str [],.int .i64 0,.int .i64 0,.int .i64 0],.agg [.str [],.str [],.int .i64 0,.int .i64 0,.int .i64 0]]]])),
   .op none (.st 17 (.t 16) (.t 106)),
   .op (some 17) (.c (.mv (.t 107)))] [2,3,5,9,16,17,76,77] [])
 (Yl4)))))))
 (Yl6)))
def Yl7:S:=.seq (.seq (.rg [] [.op (some 74) (.c (.mv (.t 5))),
   .op (some 75) (.c (.lenL (.t 74))),
   .op (some 76) (.c (.bin .shl (.int .i64 1) (.t 75))),
   .op (some 77) (.c (.mv (.int .i64 0)))] [2,3,5,9,76,77] [])
 (.block 1 (.loop [2,3,5,9,76,77] Yl3)))
 (.seq (.rg [] [.op (some 4) (.c (.mv (.bool true)))] [4] [])
 (.ret))
def Yl8:S:=.seq (.rg [] [.op (some 62) (.c (.mv (.t 11))),
   .op (some 63) (.c (.bin .neq (.t 62) (.int .i64 0))),
   .op (some 64) (.c (.mv (.t 63))),
   .gop 64 false (some 65) (.c (.ldd 7 true (.t 2))),
   .gop 64 false (some 66) (.c (.ld 17 true (.t 10))),
   .gop 64 false (some 67) (.pcall 13 [(.t 65),(.t 66)]),
   .gop 64 false (some 68) (.c (.bin .neq (.t 67) (.int .i64 0))),
   .op (some 69) (.c (.pick (.t 64) (.bool true) (.t 68)))] [2,3,5,9,69] [])
 (.cond (.t 69) (.seq (.rg [] [.op (some 4) (.c (.mv (.bool false)))] [4] [])
 (.ret)) (.skip))
def ir5:S:=.seq (.rg [] [.op (some 2) (.boxr 32 (.t 0)),
   .op (some 3) (.boxr 42 (.t 1)),
   .op (some 4) (.c (.mv (.bool false)))] [2,3] [])
 (.seq (.seq (.rg [] [.op (some 18) (.pcall 8 []),
   .op (some 19) (.c (.not (.t 18)))] [2,3,19] [])
 (.cond (.t 19) (.seq (.rg [] [.op (some 4) (.c (.mv (.bool false)))] [4] [])
 (.ret)) (.skip)))
 (.seq (.seq (.rg [] [.op (some 20) (.c (.ldd 7 true (.t 2))),
   .op (some 21) (.c (.ldd 17 true (.t 3))),
   .op (some 22) (.pcall 15 [(.t 20),(.t 21)]),
   .op (some 23) (.c (.not (.t 22)))] [2,3,23] [])
 (.cond (.t 23) (.seq (.rg [] [.op (some 4) (.c (.mv (.bool true)))] [4] [])
 (.ret)) (.skip)))
 (.seq (.rg [] [.op (some 25) (.c (.ldd 7 true (.t 2))),
   .op (some 26) (.c (.ldd 17 true (.t 3))),
   .op (some 27) (.pcall 10 [(.t 25),(.t 26)]),
   .op (some 24) (.c (.mv (.t 27))),
   .op (some 28) (.c (.ext (.t 24) 0)),
   .op (some 29) (.c (.ext (.t 24) 1)),
   .op (some 5) (.c (.mv (.t 28))),
   .op (some 6) (.c (.mv (.t 29)))] [2,3,5,6] [])
 (.seq (.rg [] [.op (some 31) (.c (.ldd 7 true (.t 2))),
   .op (some 32) (.c (.ldd 17 true (.t 3))),
   .op (some 33) (.pcall 18 [(.t 31),(.t 32)]),
   .op (some 30) (.c (.mv (.t 33))),
   .op (some 34) (.c (.ext (.t 30) 0)),
   .op (some 35) (.c (.ext (.t 30) 1)),
   .op (some 7) (.c (.mv (.t 34))),
   .op (some 8) (.c (.mv (.t 35)))] [2,3,5,6,7,8] [])
 (.seq (.seq (.rg [] [.op (some 36) (.c (.mv (.t 6))),
   .op (some 37) (.c (.bin .neq (.t 36) (.int .i64 0)))] [2,3,5,6,7,8,37] [])
 (.cond (.t 37) (.seq (.rg [] [.op (some 38) (.c (.mv (.t 8))),
   .op (some 39) (.c (.mv (.t 6))),
   .op (some 40) (.c (.bin .eql (.t 38) (.t 39))),
   .op (some 41) (.c (.mv (.t 40))),
   .gop 41 true (some 42) (.c (.mv (.t 7))),
   .gop 41 true (some 43) (.c (.lenL (.t 42))),
   .gop 41 true (some 44) (.c (.mv (.t 5))),
   .gop 41 true (some 45) (.c (.lenL (.t 44))),
   .gop 41 true (some 46) (.c (.bin .add (.t 43) (.t 45))),
   .gop 41 true (some 47) (.c (.bin .eql (.t 46) (.int .i64 0))),
   .op (some 48) (.c (.pick (.t 41) (.t 47) (.bool false))),
   .op (some 4) (.c (.mv (.t 48)))] [4] [])
 (.ret)) (.skip)))
 (.seq (.rg [] [.op (some 49) (.c (.mv (.t 7))),
   .op (some 50) (.c (.lenL (.t 49))),
   .op (some 51) (.c (.bin .sub (.t 50) (.int .i64 1))),
   .op (some 9) (.c (.mv (.t 51)))] [2,3,5,7,8,9] [])
 (.seq (.seq (.rg [] [.op (some 52) (.c (.mv (.t 8)))] [2,3,5,7,9,52] [])
 (.block 0 (.seq (.rg [] [.op (some 54) (.c (.bin .eql (.t 52) (.int .i64 0))),
   .op (some 53) (.c (.mv (.t 54)))] [2,3,5,7,9,52,53] [])
 (.cond (.t 53) (.seq (.rg [] [.op (some 56) (.c (.ldd 7 true (.t 2))),
   .op (some 57) (.c (.ldd 17 true (.t 3))),
   .op (some 58) (.c (.mv (.t 7))),
   .op (some 59) (.call 16 [(.t 56),(.t 57),(.t 58)]),
   .op (some 55) (.c (.mv (.t 59))),
   .op (some 60) (.c (.ext (.t 55) 0)),
   .op (some 61) (.c (.ext (.t 55) 1)),
   .op (some 10) (.alloc 42 (.agg [.str [],.int .i64 0,.nils,.agg [.int .i64 0,.int .i64 0,.nils,.agg [.int .i64 0,.agg [.str [],.str [],.int .i64 0,.int .i64 0,.int .i64 0],.agg [.str [],.str [],.int .i64 0,.int .i64 0,.int .i64 0]]]])),
   .op none (.st 17 (.t 10) (.t 60)),
   .op (some 11) (.c (.mv (.t 61)))] [2,3,5,9,10,11] [])
 (Yl8)) (.seq (.rg [] [.op (some 71) (.c (.bin .eql (.t 52) (.int .i64 260))),
   .op (some 70) (.c (.mv (.t 71)))] [2,3,5,70] [])
 (.cond (.t 70) (.rg [] [.op (some 72) (.c (.mv (.t 5))),
   .op (some 73) (.c (.lenL (.t 72))),
   .op (some 9) (.c (.mv (.t 73)))] [2,3,5,9] []) (.seq (.rg [] [.op (some 4) (.c (.mv (.bool false)))] [4] [])
 (.ret))))))))
 (Yl7))))))))
theorem ok5:Xj Tryz.prog 5 2 ir5 [.t 4]=true:=by kernel_rfl
def X4m:S:=.seq (.rg [] [.op (some 61) (.c (.mv (.t 15))),
   .op (some 62) (.c (.mv (.t 61))),
   .gop 62 true (some 63) (.c (.ld 3 true (.t 8))),
   .gop 62 true (some 64) (.c (.ld 17 true (.t 14))),
   .gop 62 true (some 65) (.pcall 31 [(.t 63),(.t 64)]),
   .op (some 66) (.c (.pick (.t 62) (.t 65) (.bool false)))] [2,4,5,11,66] [])
 (.cond (.t 66) (.seq (.rg [] [.op (some 67) (.c (.fldA 0 0 (.t 2))),
   .op (some 68) (.c (.ldd 6 true (.t 67))),
   .op (some 69) (.c (.mv (.t 11))),
   .op (some 70) (.call 27 [(.t 68),(.t 69)]),
   .op none (.st 1 (.t 4) (.t 70)),
   .op none (.st 1 (.t 5) (.int .i64 0))] [] [])
 (.ret)) (.skip))
def X4l:S:=.seq (.rg [] [.op (some 39) (.c (.bin .lss (.t 38) (.t 37)))] [2,3,4,5,7,8,10,11,36,37,38,39] [])
 (.seq (.cond (.t 39) (.skip) (.exit 2))
 (.seq (.block 3 (.seq (.rg [] [.op (some 40) (.c (.idxA 1 (.t 36) (.t 38))),
   .op (some 41) (.c (.ld 1 false (.t 40))),
   .op (some 13) (.c (.mv (.t 41)))] [2,3,4,5,7,8,10,11,13,36,37,38] [])
 (.seq (.rg [] [.op (some 42) (.c (.mv (.t 10))),
   .op (some 43) (.c (.ld 1 false (.t 7))),
   .op (some 44) (.c (.mv (.t 13))),
   .op (some 45) (.c (.idxA 2 (.t 43) (.t 44))),
   .op (some 46) (.c (.ld 2 true (.t 45))),
   .op none (.mset (.agg [(.int .i64 0),(.int .i64 0)]) (.t 42) (.t 46) (.bool true))] [2,3,4,5,7,8,10,11,13,36,37,38] [])
 (.rg [] [.op (some 47) (.c (.mv (.t 11))),
   .op (some 48) (.c (.ld 1 false (.t 7))),
   .op (some 49) (.c (.mv (.t 13))),
   .op (some 50) (.c (.idxA 2 (.t 48) (.t 49))),
   .op (some 51) (.c (.ld 2 true (.t 50))),
   .op (some 52) (.bls 2 [.agg [.int .i64 0,.int .i64 0]] [(0,(.t 51))]),
   .op (some 53) (.app 76 2 16 (.t 47) (.t 52)),
   .op (some 11) (.c (.mv (.t 53)))] [2,3,4,5,7,8,10,11,36,37,38] []))))
 (.rg [] [.op (some 54) (.c (.bin .add (.t 38) (.int .i64 1))),
   .op (some 38) (.c (.mv (.t 54)))] [2,3,4,5,7,8,10,11,36,37,38] [])))
def U6:S:=.rg [] [.op (some 9) (.c (.mv (.t 34)))] [2,3,4,5,7,8,9] []
def U7:S:=.block 1 (.seq (.rg [] [.op (some 35) (.mkm none),
   .op (some 10) (.c (.mv (.t 35)))] [2,3,4,5,7,8,9,10] [])
 (.seq (.rg [] [.op (some 11) (.nilo 76 2 .nils)] [2,3,4,5,7,8,9,10,11] [])
 (.seq (.seq (.rg [] [.op (some 36) (.c (.mv (.t 9))),
   .op (some 37) (.c (.lenL (.t 36))),
   .op (some 38) (.c (.mv (.int .i64 0)))] [2,3,4,5,7,8,10,11,36,37,38] [])
 (.block 2 (.loop [2,3,4,5,7,8,10,11,36,37,38] X4l)))
 (.seq (.rg [] [.op (some 56) (.c (.ldd 17 true (.t 3))),
   .op (some 57) (.c (.mv (.t 10))),
   .op (some 58) (.call 34 [(.t 56),(.t 57)]),
   .op (some 55) (.c (.mv (.t 58))),
   .op (some 59) (.c (.ext (.t 55) 0)),
   .op (some 60) (.c (.ext (.t 55) 1)),
   .op (some 14) (.alloc 42 (.agg [.str [],.int .i64 0,.nils,.agg [.int .i64 0,.int .i64 0,.nils,.agg [.int .i64 0,.agg [.str [],.str [],.int .i64 0,.int .i64 0,.int .i64 0],.agg [.str [],.str [],.int .i64 0,.int .i64 0,.int .i64 0]]]])),
   .op none (.st 17 (.t 14) (.t 59)),
   .op (some 15) (.c (.mv (.t 60)))] [2,4,5,8,11,14,15] [])
 (X4m)))))
def X4n:S:=.block 0 (.rgf 18 [34] (.t 33) U6 U7 [2,3,4,5,7,8])
def X4o:S:=.seq (.rg [] [.op none (.st 1 (.t 4) .nils),
   .op none (.st 1 (.t 5) (.int .i64 260))] [4,5] [])
 (.ret)
def X4p:S:=.seq (.seq (.rg [] [.op (some 31) (.c (.ld 1 false (.t 7))),
   .op (some 32) (.c (.lenL (.t 31))),
   .op (some 33) (.call 36 [(.t 32)])] [2,3,4,5,7,8,33] [])
 (X4n))
 (X4o)
def Ymb:S:=.seq (.rg [] [.op (some 2) (.boxr 32 (.t 0)),
   .op (some 3) (.boxr 42 (.t 1)),
   .op (some 4) (.alloc 45 (.nils)),
   .op (some 5) (.alloc 46 (.int .i64 0))] [2,3,4,5] [])
 (.seq (.seq (.rg [] [.op (some 16) (.c (.ldd 7 true (.t 2))),
   .op (some 17) (.c (.ldd 17 true (.t 3))),
   .op (some 18) (.pcall 21 [(.t 16),(.t 17)]),
   .op (some 6) (.c (.mv (.t 18)))] [2,3,4,5,6] [])
 (.seq (.rg [] [.op (some 19) (.c (.mv (.t 6))),
   .op (some 20) (.c (.bin .neq (.t 19) (.int .i64 0)))] [2,3,4,5,6,20] [])
 (.cond (.t 20) (.seq (.rg [] [.op (some 21) (.c (.mv (.t 6))),
   .op none (.st 1 (.t 4) .nils),
   .op none (.st 1 (.t 5) (.t 21))] [4,5] [])
 (.ret)) (.skip))))
 (.seq (.rgT 13 (.one 0 (.op (some 22) (.c (.ldd 17 true (.t 3))))
  (.one 2 (.op (some 24) (.c (.fldA 0 0 (.t 2))))
  (.one 3 (.op (some 25) (.c (.fldA 5 5 (.t 24))))
  (.one 4 (.op (some 26) (.c (.ldd 1 false (.t 25))))
  (.one 5 (.op (some 27) (.c (.fldA 1 1 (.t 3))))
  (.one 6 (.op (some 28) (.c (.ldd 1 false (.t 27))))
  (.one 7 (.op (some 29) (.c (.idxA 3 (.t 26) (.t 28))))
  (.one 8 (.op (some 30) (.c (.ldd 3 true (.t 29))))
  (.br (.cons 1 (.op (some 23) (.pcall 28 [(.t 22)])) (.br (.cons 9 (.op (some 7) (.alloc 66 (.nils))) (.one 10 (.op (some 8) (.alloc 71 (.agg [.str [],.nils,.int .i64 0])))
  (.one 11 (.op none (.st 1 (.t 7) (.t 23)))
  (.one 12 (.op none (.st 3 (.t 8) (.t 30)))
  (.done))))
  (.cons 10 (.op (some 8) (.alloc 71 (.agg [.str [],.nils,.int .i64 0]))) (.one 9 (.op (some 7) (.alloc 66 (.nils)))
  (.one 11 (.op none (.st 1 (.t 7) (.t 23)))
  (.one 12 (.op none (.st 3 (.t 8) (.t 30)))
  (.done))))
  (.nil))))
  (.cons 9 (.op (some 7) (.alloc 66 (.nils))) (.br (.cons 1 (.op (some 23) (.pcall 28 [(.t 22)])) (.one 10 (.op (some 8) (.alloc 71 (.agg [.str [],.nils,.int .i64 0])))
  (.one 11 (.op none (.st 1 (.t 7) (.t 23)))
  (.one 12 (.op none (.st 3 (.t 8) (.t 30)))
  (.done))))
  (.cons 10 (.op (some 8) (.alloc 71 (.agg [.str [],.nils,.int .i64 0]))) (.one 1 (.op (some 23) (.pcall 28 [(.t 22)]))
  (.one 11 (.op none (.st 1 (.t 7) (.t 23)))
  (.one 12 (.op none (.st 3 (.t 8) (.t 30)))
  (.done))))
  (.nil))))
  (.cons 10 (.op (some 8) (.alloc 71 (.agg [.str [],.nils,.int .i64 0]))) (.br (.cons 1 (.op (some 23) (.pcall 28 [(.t 22)])) (.one 9 (.op (some 7) (.alloc 66 (.nils)))
  (.one 11 (.op none (.st 1 (.t 7) (.t 23)))
  (.one 12 (.op none (.st 3 (.t 8) (.t 30)))
  (.done))))
  (.cons 9 (.op (some 7) (.alloc 66 (.nils))) (.one 1 (.op (some 23) (.pcall 28 [(.t 22)]))
  (.one 11 (.op none (.st 1 (.t 7) (.t 23)))
  (.one 12 (.op none (.st 3 (.t 8) (.t 30)))
  (.done))))
  (.nil))))
  (.nil))))))))))))) [2,3,4,5,7,8] [])
 (X4p)))
theorem Y1x:Uc Tryz.prog 18 2 Ymb [.c 4 1 false,.c 5 1 false]=true:=by kernel_rfl
def X4r:S:=.cond (.t 15) (.ret) (.skip)
def X4s:S:=.rg [] [.op (some 16) (.c (.bin .add (.t 9) (.int .i64 1))),
   .op (some 9) (.c (.mv (.t 16)))] [4,8,9] []
def X4q:S:=.seq (.rg [] [.op (some 10) (.c (.bin .lss (.t 9) (.t 8)))] [4,8,9,10] [])
 (.seq (.cond (.t 10) (.skip) (.exit 0))
 (.seq (.block 1 (.seq (.rg [] [.op (some 11) (.c (.mv (.t 9))),
   .op (some 5) (.c (.mv (.t 11)))] [4,5,8,9] [])
 (.seq (.rg [] [.op (some 12) (.c (.ld 1 false (.t 4))),
   .op (some 13) (.c (.mv (.t 5))),
   .op (some 14) (.callv (.t 12) [(.int .i64 0),(.t 13)]),
   .op (some 15) (.c (.not (.t 14)))] [4,8,9,15] [])
 (X4r))))
 (X4s)))
def Ymc:S:=.seq (.rg [] [.op (some 2) (.box 135 (.t 0))] [1,2] [])
 (.seq (.rg [] [.op (some 3) (.alloc 30 (.nils))] [1,2,3] [])
 (.seq (.rg [] [.op (some 4) (.alloc 136 (.nilf))] [1,2,3,4] [])
 (.seq (.rg [] [.op (some 6) (.c (.mkf 68 [] [(.t 2),(.t 3),(.t 1),(.t 4)])),
   .op none (.st 1 (.t 4) (.t 6))] [1,3,4] [])
 (.seq (.rg [] [.op (some 7) (.c (.ld 1 false (.t 1))),
   .op (some 8) (.c (.bin .add (.t 7) (.int .i64 1))),
   .op (some 9) (.mvn (.int .i64 0) (.t 3) [(3,1,[])])] [4,8,9] [])
 (.block 0 (.loop [4,8,9] X4q))))))
theorem Y1y:Xj Tryz.prog 67 2 Ymc []=true:=by kernel_rfl
end Go.Proofs.YtolkimpelpnpbaaGreatDoor
namespace Go.Proofs.YtolkimpelpnpbaaGreatDoor
open Go Go.Ab
def Y4i:S2:=.seq (.rg [.op (some 2) (.box 32 (.t 0)),.op (some 3) (.box 42 (.t 1))] [(2,(.a (.t 2))),(3,(.a (.t 3)))] [])
 (.seq (.rg [.chk [] (.u (.ld 17 true (.t 0)) (.a (.t 3))),.chk [] (.u (.ld 7 true (.t 0)) (.a (.t 2))),.lt 6 [] (.u (.ld 17 true (.t 0)) (.a (.t 3))),.lt 5 [] (.u (.ld 7 true (.t 0)) (.a (.t 2))),.op (some 7) (.pcall 9 [(.t 5),(.t 6)]),.chk [((.a (.t 7)),true)] (.u (.ld 17 true (.t 0)) (.a (.t 3))),.chk [] (.ite (.a (.t 7)) (.a (.bool true)) (.a (.bool true))),.chk [] (.ite (.a (.t 7)) (.a (.bool true)) (.a (.bool true))),.lt 9 [((.a (.t 7)),true)] (.u (.ld 17 true (.t 0)) (.a (.t 3))),.gop [((.a (.t 7)),true)] (some 10) (.pcall 33 [(.t 9)])] [(4,(.ite (.a (.t 7)) (.b (.bin .leq (.t 0) (.t 1)) (.u (.lenL (.t 0)) (.a (.t 10))) (.a (.int .i64 5))) (.a (.bool false))))] [])
 (.ret))
theorem Zab:Y3g.lift []=some Y4i:=by kernel_rfl
def Xxz:S2:=.seq (.rg [.chk [((.b (.bin .eql (.t 0) (.t 1)) (.a (.t 17)) (.a (.int .i64 0))),true)] (.u (.ld 17 true (.t 0)) (.a (.t 16))),.chk [((.b (.bin .eql (.t 0) (.t 1)) (.a (.t 17)) (.a (.int .i64 0))),true)] (.u (.ldd 7 true (.t 0)) (.a (.t 2))),.chk [] (.b (.bin .eql (.t 0) (.t 1)) (.a (.t 17)) (.a (.int .i64 0))),.chk [] (.ite (.b (.bin .eql (.t 0) (.t 1)) (.a (.t 17)) (.a (.int .i64 0))) (.a (.bool true)) (.a (.bool true))),.chk [] (.ite (.b (.bin .eql (.t 0) (.t 1)) (.a (.t 17)) (.a (.int .i64 0))) (.a (.bool true)) (.a (.bool true))),.chk [] (.ite (.b (.bin .eql (.t 0) (.t 1)) (.a (.t 17)) (.a (.int .i64 0))) (.a (.bool true)) (.a (.bool true))),.lt 112 [((.b (.bin .eql (.t 0) (.t 1)) (.a (.t 17)) (.a (.int .i64 0))),true)] (.u (.ld 17 true (.t 0)) (.a (.t 16))),.lt 111 [((.b (.bin .eql (.t 0) (.t 1)) (.a (.t 17)) (.a (.int .i64 0))),true)] (.u (.ldd 7 true (.t 0)) (.a (.t 2))),.gop [((.b (.bin .eql (.t 0) (.t 1)) (.a (.t 17)) (.a (.int .i64 0))),true)] (some 113) (.pcall 13 [(.t 111),(.t 112)])] [(2,(.a (.t 2))),(3,(.a (.t 3))),(5,(.a (.t 5))),(9,(.a (.t 9))),(76,(.a (.t 76))),(77,(.a (.t 77))),(115,(.ite (.b (.bin .eql (.t 0) (.t 1)) (.a (.t 17)) (.a (.int .i64 0))) (.b (.bin .eql (.t 0) (.t 1)) (.a (.t 113)) (.a (.int .i64 0))) (.a (.bool false))))] [])
 (.cond (.t 115) (.seq (.rg [] [(4,(.a (.bool false)))] [])
 (.ret)) (.skip))
def Xx0:S2:=.rg [] [(2,(.a (.t 2))),(3,(.a (.t 3))),(5,(.a (.t 5))),(9,(.a (.t 9))),(12,(.a (.t 12))),(13,(.a (.t 13))),(76,(.a (.t 76))),(77,(.a (.t 77))),(80,(.a (.t 80))),(81,(.a (.t 81))),(82,(.b (.bin .add (.t 0) (.t 1)) (.a (.t 82)) (.a (.int .i64 1))))] []
def Xxx:S2:=.seq (.rg [] [(2,(.a (.t 2))),(3,(.a (.t 3))),(5,(.a (.t 5))),(9,(.a (.t 9))),(12,(.a (.t 12))),(13,(.a (.t 13))),(76,(.a (.t 76))),(77,(.a (.t 77))),(80,(.a (.t 80))),(81,(.a (.t 81))),(82,(.a (.t 82))),(83,(.b (.bin .lss (.t 0) (.t 1)) (.a (.t 82)) (.a (.t 81))))] [])
 (.seq (.cond (.t 83) (.skip) (.exit 3))
 (.seq (.block 4 (.seq (.rg [.chk [] (.u (.ldd 4 true (.t 0)) (.b (.idxA 4 (.t 0) (.t 1)) (.a (.t 80)) (.a (.t 82)))),.lt 86 [] (.u (.ldd 4 true (.t 0)) (.b (.idxA 4 (.t 0) (.t 1)) (.a (.t 80)) (.a (.t 82)))),.op (some 15) (.alloc 56 (.agg [(.str []),(.str []),(.int .i64 0),(.int .i64 0)])),.op none (.st 4 (.t 15) (.t 86))] [(2,(.a (.t 2))),(3,(.a (.t 3))),(5,(.a (.t 5))),(9,(.a (.t 9))),(12,(.a (.t 12))),(13,(.a (.t 13))),(14,(.a (.t 82))),(15,(.a (.t 15))),(76,(.a (.t 76))),(77,(.a (.t 77))),(80,(.a (.t 80))),(81,(.a (.t 81))),(82,(.a (.t 82)))] [])
 (.seq (.rg [] [(2,(.a (.t 2))),(3,(.a (.t 3))),(5,(.a (.t 5))),(9,(.a (.t 9))),(12,(.a (.t 12))),(13,(.a (.t 13))),(15,(.a (.t 15))),(76,(.a (.t 76))),(77,(.a (.t 77))),(80,(.a (.t 80))),(81,(.a (.t 81))),(82,(.a (.t 82))),(91,(.b (.bin .eql (.t 0) (.t 1)) (.b (.bin .and (.t 0) (.t 1)) (.b (.bin .shr (.t 0) (.t 1)) (.a (.t 12)) (.a (.t 14))) (.a (.int .i64 1))) (.a (.int .i64 1))))] [])
 (.cond (.t 91) (.rg [.chk [] (.u (.ld 4 true (.t 0)) (.a (.t 15))),.lt 93 [] (.u (.ld 4 true (.t 0)) (.a (.t 15))),.op (some 94) (.bls 4 [(.agg [(.str []),(.str []),(.int .i64 0),(.int .i64 0)])] [(0,(.t 93))]),.lt 92 [] (.a (.t 13)),.op (some 95) (.app 56 4 48 (.t 92) (.t 94))] [(2,(.a (.t 2))),(3,(.a (.t 3))),(5,(.a (.t 5))),(9,(.a (.t 9))),(12,(.a (.t 12))),(13,(.a (.t 95))),(76,(.a (.t 76))),(77,(.a (.t 77))),(80,(.a (.t 80))),(81,(.a (.t 81))),(82,(.a (.t 82)))] []) (.skip)))))
 (Xx0)))
def Xqo:S2:=.rg [] [(2,(.a (.t 2))),(3,(.a (.t 3))),(5,(.a (.t 5))),(9,(.a (.t 9))),(76,(.a (.t 76))),(77,(.b (.bin .add (.t 0) (.t 1)) (.a (.t 77)) (.a (.int .i64 1))))] []
def Xxy:S2:=.seq (.rg [] [(2,(.a (.t 2))),(3,(.a (.t 3))),(5,(.a (.t 5))),(9,(.a (.t 9))),(76,(.a (.t 76))),(77,(.a (.t 77))),(78,(.b (.bin .lss (.t 0) (.t 1)) (.a (.t 77)) (.a (.t 76))))] [])
 (.seq (.cond (.t 78) (.skip) (.exit 1))
 (.seq (.block 2 (.seq (.rg [] [(2,(.a (.t 2))),(3,(.a (.t 3))),(5,(.a (.t 5))),(9,(.a (.t 9))),(12,(.a (.t 77))),(76,(.a (.t 76))),(77,(.a (.t 77)))] [])
 (.seq (.rg [.op (some 13) (.nilo 56 4 .nils)] [(2,(.a (.t 2))),(3,(.a (.t 3))),(5,(.a (.t 5))),(9,(.a (.t 9))),(12,(.a (.t 12))),(13,(.a (.t 13))),(76,(.a (.t 76))),(77,(.a (.t 77)))] [])
 (.seq (.seq (.rg [] [(2,(.a (.t 2))),(3,(.a (.t 3))),(5,(.a (.t 5))),(9,(.a (.t 9))),(12,(.a (.t 12))),(13,(.a (.t 13))),(76,(.a (.t 76))),(77,(.a (.t 77))),(80,(.a (.t 5))),(81,(.u (.lenL (.t 0)) (.a (.t 5)))),(82,(.a (.int .i64 0)))] [])
 (.block 3 (.loop [2,3,5,9,12,13,76,77,80,81,82] Xxx)))
 (.seq (.seq (.rg [] [(2,(.a (.t 2))),(3,(.a (.t 3))),(5,(.a (.t 5))),(9,(.a (.t 9))),(13,(.a (.t 13))),(76,(.a (.t 76))),(77,(.a (.t 77))),(100,(.b (.bin .gtr (.t 0) (.t 1)) (.u (.lenL (.t 0)) (.a (.t 13))) (.a (.t 9))))] [])
 (.cond (.t 100) (.exit 2) (.skip)))
 (.seq (.rg [.chk [] (.u (.ldd 17 true (.t 0)) (.a (.t 3))),.chk [] (.u (.ldd 7 true (.t 0)) (.a (.t 2))),.lt 104 [] (.a (.t 13)),.lt 103 [] (.u (.ldd 17 true (.t 0)) (.a (.t 3))),.lt 102 [] (.u (.ldd 7 true (.t 0)) (.a (.t 2))),.op (some 105) (.call 16 [(.t 102),(.t 103),(.t 104)]),.chk [] (.u (.ext (.t 0) 1) (.a (.t 105))),.chk [] (.u (.ext (.t 0) 0) (.a (.t 105))),.op (some 16) (.alloc 42 (.agg [(.str []),(.int .i64 0),.nils,(.agg [(.int .i64 0),(.int .i64 0),.nils,(.agg [(.int .i64 0),(.agg [(.str []),(.str []),(.int .i64 0),(.int .i64 0),(.int .i64 0)]),(.agg [(.str []),(.str []),(.int .i64 0),(.int .i64 0),(.int .i64 0)])])])])),.lt 106 [] (.u (.ext (.t 0) 0) (.a (.t 105))),.op none (.st 17 (.t 16) (.t 106))] [(2,(.a (.t 2))),(3,(.a (.t 3))),(5,(.a (.t 5))),(9,(.a (.t 9))),(16,(.a (.t 16))),(17,(.u (.ext (.t 0) 1) (.a (.t 105)))),(76,(.a (.t 76))),(77,(.a (.t 77)))] [])
 (Xxz)))))))
 (Xqo)))
def Xx1:S2:=.seq (.seq (.rg [] [(2,(.a (.t 2))),(3,(.a (.t 3))),(5,(.a (.t 5))),(9,(.a (.t 9))),(76,(.b (.bin .shl (.t 0) (.t 1)) (.a (.int .i64 1)) (.u (.lenL (.t 0)) (.a (.t 5))))),(77,(.a (.int .i64 0)))] [])
 (.block 1 (.loop [2,3,5,9,76,77] Xxy)))
 (.seq (.rg [] [(4,(.a (.bool true)))] [])
 (.ret))
def X62:S2:=.seq (.rg [.chk [((.b (.bin .neq (.t 0) (.t 1)) (.a (.t 11)) (.a (.int .i64 0))),false)] (.u (.ld 17 true (.t 0)) (.a (.t 10))),.chk [((.b (.bin .neq (.t 0) (.t 1)) (.a (.t 11)) (.a (.int .i64 0))),false)] (.u (.ldd 7 true (.t 0)) (.a (.t 2))),.chk [] (.b (.bin .neq (.t 0) (.t 1)) (.a (.t 11)) (.a (.int .i64 0))),.chk [] (.ite (.b (.bin .neq (.t 0) (.t 1)) (.a (.t 11)) (.a (.int .i64 0))) (.a (.bool true)) (.a (.bool true))),.chk [] (.ite (.b (.bin .neq (.t 0) (.t 1)) (.a (.t 11)) (.a (.int .i64 0))) (.a (.bool true)) (.a (.bool true))),.chk [] (.ite (.b (.bin .neq (.t 0) (.t 1)) (.a (.t 11)) (.a (.int .i64 0))) (.a (.bool true)) (.a (.bool true))),.lt 66 [((.b (.bin .neq (.t 0) (.t 1)) (.a (.t 11)) (.a (.int .i64 0))),false)] (.u (.ld 17 true (.t 0)) (.a (.t 10))),.lt 65 [((.b (.bin .neq (.t 0) (.t 1)) (.a (.t 11)) (.a (.int .i64 0))),false)] (.u (.ldd 7 true (.t 0)) (.a (.t 2))),.gop [((.b (.bin .neq (.t 0) (.t 1)) (.a (.t 11)) (.a (.int .i64 0))),false)] (some 67) (.pcall 13 [(.t 65),(.t 66)])] [(2,(.a (.t 2))),(3,(.a (.t 3))),(5,(.a (.t 5))),(9,(.a (.t 9))),(69,(.ite (.b (.bin .neq (.t 0) (.t 1)) (.a (.t 11)) (.a (.int .i64 0))) (.a (.bool true)) (.b (.bin .neq (.t 0) (.t 1)) (.a (.t 67)) (.a (.int .i64 0)))))] [])
 (.cond (.t 69) (.seq (.rg [] [(4,(.a (.bool false)))] [])
 (.ret)) (.skip))
def lt5:S2:=.seq (.rg [.op (some 2) (.boxr 32 (.t 0)),.op (some 3) (.boxr 42 (.t 1))] [(2,(.a (.t 2))),(3,(.a (.t 3)))] [])
 (.seq (.seq (.rg [.op (some 18) (.pcall 8 [])] [(2,(.a (.t 2))),(3,(.a (.t 3))),(19,(.u (.not (.t 0)) (.a (.t 18))))] [])
 (.cond (.t 19) (.seq (.rg [] [(4,(.a (.bool false)))] [])
 (.ret)) (.skip)))
 (.seq (.seq (.rg [.chk [] (.u (.ldd 17 true (.t 0)) (.a (.t 3))),.chk [] (.u (.ldd 7 true (.t 0)) (.a (.t 2))),.lt 21 [] (.u (.ldd 17 true (.t 0)) (.a (.t 3))),.lt 20 [] (.u (.ldd 7 true (.t 0)) (.a (.t 2))),.op (some 22) (.pcall 15 [(.t 20),(.t 21)])] [(2,(.a (.t 2))),(3,(.a (.t 3))),(23,(.u (.not (.t 0)) (.a (.t 22))))] [])
 (.cond (.t 23) (.seq (.rg [] [(4,(.a (.bool true)))] [])
 (.ret)) (.skip)))
 (.seq (.rg [.chk [] (.u (.ldd 17 true (.t 0)) (.a (.t 3))),.chk [] (.u (.ldd 7 true (.t 0)) (.a (.t 2))),.lt 26 [] (.u (.ldd 17 true (.t 0)) (.a (.t 3))),.lt 25 [] (.u (.ldd 7 true (.t 0)) (.a (.t 2))),.op (some 27) (.pcall 10 [(.t 25),(.t 26)])] [(2,(.a (.t 2))),(3,(.a (.t 3))),(5,(.u (.ext (.t 0) 0) (.a (.t 27)))),(6,(.u (.ext (.t 0) 1) (.a (.t 27))))] [])
 (.seq (.rg [.chk [] (.u (.ldd 17 true (.t 0)) (.a (.t 3))),.chk [] (.u (.ldd 7 true (.t 0)) (.a (.t 2))),.lt 32 [] (.u (.ldd 17 true (.t 0)) (.a (.t 3))),.lt 31 [] (.u (.ldd 7 true (.t 0)) (.a (.t 2))),.op (some 33) (.pcall 18 [(.t 31),(.t 32)])] [(2,(.a (.t 2))),(3,(.a (.t 3))),(5,(.a (.t 5))),(6,(.a (.t 6))),(7,(.u (.ext (.t 0) 0) (.a (.t 33)))),(8,(.u (.ext (.t 0) 1) (.a (.t 33))))] [])
 (.seq (.seq (.rg [] [(2,(.a (.t 2))),(3,(.a (.t 3))),(5,(.a (.t 5))),(6,(.a (.t 6))),(7,(.a (.t 7))),(8,(.a (.t 8))),(37,(.b (.bin .neq (.t 0) (.t 1)) (.a (.t 6)) (.a (.int .i64 0))))] [])
 (.cond (.t 37) (.seq (.rg [] [(4,(.ite (.b (.bin .eql (.t 0) (.t 1)) (.a (.t 8)) (.a (.t 6))) (.b (.bin .eql (.t 0) (.t 1)) (.b (.bin .add (.t 0) (.t 1)) (.u (.lenL (.t 0)) (.a (.t 7))) (.u (.lenL (.t 0)) (.a (.t 5)))) (.a (.int .i64 0))) (.a (.bool false))))] [])
 (.ret)) (.skip)))
 (.seq (.rg [] [(2,(.a (.t 2))),(3,(.a (.t 3))),(5,(.a (.t 5))),(7,(.a (.t 7))),(8,(.a (.t 8))),(9,(.b (.bin .sub (.t 0) (.t 1)) (.u (.lenL (.t 0)) (.a (.t 7))) (.a (.int .i64 1))))] [])
 (.seq (.seq (.rg [] [(2,(.a (.t 2))),(3,(.a (.t 3))),(5,(.a (.t 5))),(7,(.a (.t 7))),(9,(.a (.t 9))),(52,(.a (.t 8)))] [])
 (.block 0 (.seq (.rg [] [(2,(.a (.t 2))),(3,(.a (.t 3))),(5,(.a (.t 5))),(7,(.a (.t 7))),(9,(.a (.t 9))),(52,(.a (.t 52))),(53,(.b (.bin .eql (.t 0) (.t 1)) (.a (.t 52)) (.a (.int .i64 0))))] [])
 (.cond (.t 53) (.seq (.rg [.chk [] (.u (.ldd 17 true (.t 0)) (.a (.t 3))),.chk [] (.u (.ldd 7 true (.t 0)) (.a (.t 2))),.lt 58 [] (.a (.t 7)),.lt 57 [] (.u (.ldd 17 true (.t 0)) (.a (.t 3))),.lt 56 [] (.u (.ldd 7 true (.t 0)) (.a (.t 2))),.op (some 59) (.call 16 [(.t 56),(.t 57),(.t 58)]),.chk [] (.u (.ext (.t 0) 1) (.a (.t 59))),.chk [] (.u (.ext (.t 0) 0) (.a (.t 59))),.op (some 10) (.alloc 42 (.agg [(.str []),(.int .i64 0),.nils,(.agg [(.int .i64 0),(.int .i64 0),.nils,(.agg [(.int .i64 0),(.agg [(.str []),(.str []),(.int .i64 0),(.int .i64 0),(.int .i64 0)]),(.agg [(.str []),(.str []),(.int .i64 0),(.int .i64 0),(.int .i64 0)])])])])),.lt 60 [] (.u (.ext (.t 0) 0) (.a (.t 59))),.op none (.st 17 (.t 10) (.t 60))] [(2,(.a (.t 2))),(3,(.a (.t 3))),(5,(.a (.t 5))),(9,(.a (.t 9))),(10,(.a (.t 10))),(11,(.u (.ext (.t 0) 1) (.a (.t 59))))] [])
 (X62)) (.seq (.rg [] [(2,(.a (.t 2))),(3,(.a (.t 3))),(5,(.a (.t 5))),(70,(.b (.bin .eql (.t 0) (.t 1)) (.a (.t 52)) (.a (.int .i64 260))))] [])
 (.cond (.t 70) (.rg [] [(2,(.a (.t 2))),(3,(.a (.t 3))),(5,(.a (.t 5))),(9,(.u (.lenL (.t 0)) (.a (.t 5))))] []) (.seq (.rg [] [(4,(.a (.bool false)))] [])
 (.ret))))))))
 (Xx1))))))))
theorem lf5:ir5.lift []=some lt5:=by kernel_rfl
def Xhj:S2:=.seq (.rg [.chk [((.a (.t 15)),true)] (.u (.ld 17 true (.t 0)) (.a (.t 14))),.chk [((.a (.t 15)),true)] (.u (.ld 3 true (.t 0)) (.a (.t 8))),.chk [] (.ite (.a (.t 15)) (.a (.bool true)) (.a (.bool true))),.chk [] (.ite (.a (.t 15)) (.a (.bool true)) (.a (.bool true))),.chk [] (.ite (.a (.t 15)) (.a (.bool true)) (.a (.bool true))),.lt 64 [((.a (.t 15)),true)] (.u (.ld 17 true (.t 0)) (.a (.t 14))),.lt 63 [((.a (.t 15)),true)] (.u (.ld 3 true (.t 0)) (.a (.t 8))),.gop [((.a (.t 15)),true)] (some 65) (.pcall 31 [(.t 63),(.t 64)])] [(2,(.a (.t 2))),(4,(.a (.t 4))),(5,(.a (.t 5))),(11,(.a (.t 11))),(66,(.ite (.a (.t 15)) (.a (.t 65)) (.a (.bool false))))] [])
 (.cond (.t 66) (.seq (.rg [.chk [] (.u (.ldd 6 true (.t 0)) (.u (.fldA 0 0 (.t 0)) (.a (.t 2)))),.lt 69 [] (.a (.t 11)),.lt 68 [] (.u (.ldd 6 true (.t 0)) (.u (.fldA 0 0 (.t 0)) (.a (.t 2)))),.op (some 70) (.call 27 [(.t 68),(.t 69)]),.op none (.st 1 (.t 4) (.t 70)),.op none (.st 1 (.t 5) (.int .i64 0))] [] [])
 (.ret)) (.skip))
def Xhi:S2:=.seq (.rg [] [(2,(.a (.t 2))),(3,(.a (.t 3))),(4,(.a (.t 4))),(5,(.a (.t 5))),(7,(.a (.t 7))),(8,(.a (.t 8))),(10,(.a (.t 10))),(11,(.a (.t 11))),(36,(.a (.t 36))),(37,(.a (.t 37))),(38,(.a (.t 38))),(39,(.b (.bin .lss (.t 0) (.t 1)) (.a (.t 38)) (.a (.t 37))))] [])
 (.seq (.cond (.t 39) (.skip) (.exit 2))
 (.seq (.block 3 (.seq (.rg [] [(2,(.a (.t 2))),(3,(.a (.t 3))),(4,(.a (.t 4))),(5,(.a (.t 5))),(7,(.a (.t 7))),(8,(.a (.t 8))),(10,(.a (.t 10))),(11,(.a (.t 11))),(13,(.u (.ld 1 false (.t 0)) (.b (.idxA 1 (.t 0) (.t 1)) (.a (.t 36)) (.a (.t 38))))),(36,(.a (.t 36))),(37,(.a (.t 37))),(38,(.a (.t 38)))] [])
 (.seq (.rg [.chk [] (.u (.ld 2 true (.t 0)) (.b (.idxA 2 (.t 0) (.t 1)) (.u (.ld 1 false (.t 0)) (.a (.t 7))) (.a (.t 13)))),.lt 46 [] (.u (.ld 2 true (.t 0)) (.b (.idxA 2 (.t 0) (.t 1)) (.u (.ld 1 false (.t 0)) (.a (.t 7))) (.a (.t 13)))),.lt 42 [] (.a (.t 10)),.op none (.mset (.agg [(.int .i64 0),(.int .i64 0)]) (.t 42) (.t 46) (.bool true))] [(2,(.a (.t 2))),(3,(.a (.t 3))),(4,(.a (.t 4))),(5,(.a (.t 5))),(7,(.a (.t 7))),(8,(.a (.t 8))),(10,(.a (.t 10))),(11,(.a (.t 11))),(13,(.a (.t 13))),(36,(.a (.t 36))),(37,(.a (.t 37))),(38,(.a (.t 38)))] [])
 (.rg [.chk [] (.u (.ld 2 true (.t 0)) (.b (.idxA 2 (.t 0) (.t 1)) (.u (.ld 1 false (.t 0)) (.a (.t 7))) (.a (.t 13)))),.lt 51 [] (.u (.ld 2 true (.t 0)) (.b (.idxA 2 (.t 0) (.t 1)) (.u (.ld 1 false (.t 0)) (.a (.t 7))) (.a (.t 13)))),.op (some 52) (.bls 2 [(.agg [(.int .i64 0),(.int .i64 0)])] [(0,(.t 51))]),.lt 47 [] (.a (.t 11)),.op (some 53) (.app 76 2 16 (.t 47) (.t 52))] [(2,(.a (.t 2))),(3,(.a (.t 3))),(4,(.a (.t 4))),(5,(.a (.t 5))),(7,(.a (.t 7))),(8,(.a (.t 8))),(10,(.a (.t 10))),(11,(.a (.t 53))),(36,(.a (.t 36))),(37,(.a (.t 37))),(38,(.a (.t 38)))] []))))
 (.rg [] [(2,(.a (.t 2))),(3,(.a (.t 3))),(4,(.a (.t 4))),(5,(.a (.t 5))),(7,(.a (.t 7))),(8,(.a (.t 8))),(10,(.a (.t 10))),(11,(.a (.t 11))),(36,(.a (.t 36))),(37,(.a (.t 37))),(38,(.b (.bin .add (.t 0) (.t 1)) (.a (.t 38)) (.a (.int .i64 1))))] [])))
def Xqp:S2:=.rg [] [(2,(.a (.t 2))),(3,(.a (.t 3))),(4,(.a (.t 4))),(5,(.a (.t 5))),(7,(.a (.t 7))),(8,(.a (.t 8))),(9,(.a (.t 34)))] []
theorem X43:U6.lift []=some Xqp:=by kernel_rfl
def Xqq:S2:=.block 1 (.seq (.rg [.op (some 35) (.mkm none)] [(2,(.a (.t 2))),(3,(.a (.t 3))),(4,(.a (.t 4))),(5,(.a (.t 5))),(7,(.a (.t 7))),(8,(.a (.t 8))),(9,(.a (.t 9))),(10,(.a (.t 35)))] [])
 (.seq (.rg [.op (some 11) (.nilo 76 2 .nils)] [(2,(.a (.t 2))),(3,(.a (.t 3))),(4,(.a (.t 4))),(5,(.a (.t 5))),(7,(.a (.t 7))),(8,(.a (.t 8))),(9,(.a (.t 9))),(10,(.a (.t 10))),(11,(.a (.t 11)))] [])
 (.seq (.seq (.rg [] [(2,(.a (.t 2))),(3,(.a (.t 3))),(4,(.a (.t 4))),(5,(.a (.t 5))),(7,(.a (.t 7))),(8,(.a (.t 8))),(10,(.a (.t 10))),(11,(.a (.t 11))),(36,(.a (.t 9))),(37,(.u (.lenL (.t 0)) (.a (.t 9)))),(38,(.a (.int .i64 0)))] [])
 (.block 2 (.loop [2,3,4,5,7,8,10,11,36,37,38] Xhi)))
 (.seq (.rg [.chk [] (.u (.ldd 17 true (.t 0)) (.a (.t 3))),.lt 57 [] (.a (.t 10)),.lt 56 [] (.u (.ldd 17 true (.t 0)) (.a (.t 3))),.op (some 58) (.call 34 [(.t 56),(.t 57)]),.chk [] (.u (.ext (.t 0) 1) (.a (.t 58))),.chk [] (.u (.ext (.t 0) 0) (.a (.t 58))),.op (some 14) (.alloc 42 (.agg [(.str []),(.int .i64 0),.nils,(.agg [(.int .i64 0),(.int .i64 0),.nils,(.agg [(.int .i64 0),(.agg [(.str []),(.str []),(.int .i64 0),(.int .i64 0),(.int .i64 0)]),(.agg [(.str []),(.str []),(.int .i64 0),(.int .i64 0),(.int .i64 0)])])])])),.lt 59 [] (.u (.ext (.t 0) 0) (.a (.t 58))),.op none (.st 17 (.t 14) (.t 59))] [(2,(.a (.t 2))),(4,(.a (.t 4))),(5,(.a (.t 5))),(8,(.a (.t 8))),(11,(.a (.t 11))),(14,(.a (.t 14))),(15,(.u (.ext (.t 0) 1) (.a (.t 58))))] [])
 (Xhj)))))
theorem X44:U7.lift []=some Xqq:=by kernel_rfl
def Xqr:S2:=.block 0 (.rgf 18 [34] (.t 33) U6 U7 [2,3,4,5,7,8])
def Xqs:S2:=.seq (.rg [.op none (.st 1 (.t 4) .nils),.op none (.st 1 (.t 5) (.int .i64 260))] [(4,(.a (.t 4))),(5,(.a (.t 5)))] [])
 (.ret)
def Xhk:S2:=.seq (.seq (.rg [.chk [] (.u (.lenL (.t 0)) (.u (.ld 1 false (.t 0)) (.a (.t 7)))),.lt 32 [] (.u (.lenL (.t 0)) (.u (.ld 1 false (.t 0)) (.a (.t 7)))),.op (some 33) (.call 36 [(.t 32)])] [(2,(.a (.t 2))),(3,(.a (.t 3))),(4,(.a (.t 4))),(5,(.a (.t 5))),(7,(.a (.t 7))),(8,(.a (.t 8))),(33,(.a (.t 33)))] [])
 (Xqr))
 (Xqs)
def Yoe:S2:=.seq (.rg [.op (some 2) (.boxr 32 (.t 0)),.op (some 3) (.boxr 42 (.t 1)),.op (some 4) (.alloc 45 .nils),.op (some 5) (.alloc 46 (.int .i64 0))] [(2,(.a (.t 2))),(3,(.a (.t 3))),(4,(.a (.t 4))),(5,(.a (.t 5)))] [])
 (.seq (.seq (.rg [.chk [] (.u (.ldd 17 true (.t 0)) (.a (.t 3))),.chk [] (.u (.ldd 7 true (.t 0)) (.a (.t 2))),.lt 17 [] (.u (.ldd 17 true (.t 0)) (.a (.t 3))),.lt 16 [] (.u (.ldd 7 true (.t 0)) (.a (.t 2))),.op (some 18) (.pcall 21 [(.t 16),(.t 17)])] [(2,(.a (.t 2))),(3,(.a (.t 3))),(4,(.a (.t 4))),(5,(.a (.t 5))),(6,(.a (.t 18)))] [])
 (.seq (.rg [] [(2,(.a (.t 2))),(3,(.a (.t 3))),(4,(.a (.t 4))),(5,(.a (.t 5))),(6,(.a (.t 6))),(20,(.b (.bin .neq (.t 0) (.t 1)) (.a (.t 6)) (.a (.int .i64 0))))] [])
 (.cond (.t 20) (.seq (.rg [.op none (.st 1 (.t 4) .nils),.lt 21 [] (.a (.t 6)),.op none (.st 1 (.t 5) (.t 21))] [(4,(.a (.t 4))),(5,(.a (.t 5)))] [])
 (.ret)) (.skip))))
 (.seq (.rgT (.one 0 (.op (some 22) (.c (.ldd 17 true (.t 3))))
  (.one 2 (.op (some 24) (.c (.fldA 0 0 (.t 2))))
  (.one 3 (.op (some 25) (.c (.fldA 5 5 (.t 24))))
  (.one 4 (.op (some 26) (.c (.ldd 1 false (.t 25))))
  (.one 5 (.op (some 27) (.c (.fldA 1 1 (.t 3))))
  (.one 6 (.op (some 28) (.c (.ldd 1 false (.t 27))))
  (.one 7 (.op (some 29) (.c (.idxA 3 (.t 26) (.t 28))))
  (.one 8 (.op (some 30) (.c (.ldd 3 true (.t 29))))
  (.br (.cons 1 (.op (some 23) (.pcall 28 [(.t 22)])) (.br (.cons 9 (.op (some 7) (.alloc 66 (.nils))) (.one 10 (.op (some 8) (.alloc 71 (.agg [.str [],.nils,.int .i64 0])))
  (.one 11 (.op none (.st 1 (.t 7) (.t 23)))
  (.one 12 (.op none (.st 3 (.t 8) (.t 30)))
  (.done))))
  (.cons 10 (.op (some 8) (.alloc 71 (.agg [.str [],.nils,.int .i64 0]))) (.one 9 (.op (some 7) (.alloc 66 (.nils)))
  (.one 11 (.op none (.st 1 (.t 7) (.t 23)))
  (.one 12 (.op none (.st 3 (.t 8) (.t 30)))
  (.done))))
  (.nil))))
  (.cons 9 (.op (some 7) (.alloc 66 (.nils))) (.br (.cons 1 (.op (some 23) (.pcall 28 [(.t 22)])) (.one 10 (.op (some 8) (.alloc 71 (.agg [.str [],.nils,.int .i64 0])))
  (.one 11 (.op none (.st 1 (.t 7) (.t 23)))
  (.one 12 (.op none (.st 3 (.t 8) (.t 30)))
  (.done))))
  (.cons 10 (.op (some 8) (.alloc 71 (.agg [.str [],.nils,.int .i64 0]))) (.one 1 (.op (some 23) (.pcall 28 [(.t 22)]))
  (.one 11 (.op none (.st 1 (.t 7) (.t 23)))
  (.one 12 (.op none (.st 3 (.t 8) (.t 30)))
  (.done))))
  (.nil))))
  (.cons 10 (.op (some 8) (.alloc 71 (.agg [.str [],.nils,.int .i64 0]))) (.br (.cons 1 (.op (some 23) (.pcall 28 [(.t 22)])) (.one 9 (.op (some 7) (.alloc 66 (.nils)))
  (.one 11 (.op none (.st 1 (.t 7) (.t 23)))
  (.one 12 (.op none (.st 3 (.t 8) (.t 30)))
  (.done))))
  (.cons 9 (.op (some 7) (.alloc 66 (.nils))) (.one 1 (.op (some 23) (.pcall 28 [(.t 22)]))
  (.one 11 (.op none (.st 1 (.t 7) (.t 23)))
  (.one 12 (.op none (.st 3 (.t 8) (.t 30)))
  (.done))))
  (.nil))))
  (.nil))))))))))))) [2,3,4,5,7,8] [])
 (Xhk)))
theorem Yxa:Ymb.lift []=some Yoe:=by kernel_rfl
def Xhm:S2:=.cond (.t 15) (.ret) (.skip)
def Xqt:S2:=.rg [] [(4,(.a (.t 4))),(8,(.a (.t 8))),(9,(.b (.bin .add (.t 0) (.t 1)) (.a (.t 9)) (.a (.int .i64 1))))] []
def Xhl:S2:=.seq (.rg [] [(4,(.a (.t 4))),(8,(.a (.t 8))),(9,(.a (.t 9))),(10,(.b (.bin .lss (.t 0) (.t 1)) (.a (.t 9)) (.a (.t 8))))] [])
 (.seq (.cond (.t 10) (.skip) (.exit 0))
 (.seq (.block 1 (.seq (.rg [] [(4,(.a (.t 4))),(5,(.a (.t 9))),(8,(.a (.t 8))),(9,(.a (.t 9)))] [])
 (.seq (.rg [.chk [] (.u (.ld 1 false (.t 0)) (.a (.t 4))),.lt 13 [] (.a (.t 5)),.lt 12 [] (.u (.ld 1 false (.t 0)) (.a (.t 4))),.op (some 14) (.callv (.t 12) [(.int .i64 0),(.t 13)])] [(4,(.a (.t 4))),(8,(.a (.t 8))),(9,(.a (.t 9))),(15,(.u (.not (.t 0)) (.a (.t 14))))] [])
 (Xhm))))
 (Xqt)))
def Yof:S2:=.seq (.rg [.op (some 2) (.box 135 (.t 0))] [(1,(.a (.t 1))),(2,(.a (.t 2)))] [])
 (.seq (.rg [.op (some 3) (.alloc 30 .nils)] [(1,(.a (.t 1))),(2,(.a (.t 2))),(3,(.a (.t 3)))] [])
 (.seq (.rg [.op (some 4) (.alloc 136 .nilf)] [(1,(.a (.t 1))),(2,(.a (.t 2))),(3,(.a (.t 3))),(4,(.a (.t 4)))] [])
 (.seq (.rg [.op (some 6) (.c (.mkf 68 [] [(.t 2),(.t 3),(.t 1),(.t 4)])),.op none (.st 1 (.t 4) (.t 6))] [(1,(.a (.t 1))),(3,(.a (.t 3))),(4,(.a (.t 4)))] [])
 (.seq (.rg [.chk [] (.b (.bin .add (.t 0) (.t 1)) (.u (.ld 1 false (.t 0)) (.a (.t 1))) (.a (.int .i64 1))),.lt 8 [] (.b (.bin .add (.t 0) (.t 1)) (.u (.ld 1 false (.t 0)) (.a (.t 1))) (.a (.int .i64 1))),.op (some 9) (.mvn (.int .i64 0) (.t 3) [(3,1,[])])] [(4,(.a (.t 4))),(8,(.a (.t 8))),(9,(.a (.t 9)))] [])
 (.block 0 (.loop [4,8,9] Xhl))))))
theorem Yxb:Ymc.lift []=some Yof:=by kernel_rfl
end Go.Proofs.YtolkimpelpnpbaaGreatDoor
namespace Go.Py
open Go Go.Ab Go.Lx Go.Sx
theorem Ys {ob:Xb}{j k:Nat}{o:Ob}(h:j ≠ k):Xc (setO ob j o) k=Xc ob k:=by
 have e:(j==k)=false:=by simpa using h
 simp[e]
theorem Xau {ob:Xb}{k:Nat}{o:Ob}(h:(Xc ob k).isSome=true):Xc (setO ob k o) k=some o:=by simp[h]
theorem Yt {ob:Xb}{j k:Nat}{o:Ob}(h:j ≠ k):Xc ((j,o)::ob) k=Xc ob k:=by
 have e:(j==k)=false:=by simpa using h
 simp[e]
theorem Yk {ob:Xb}{j:Nat}(hj:(Xc ob j).isSome=true):j<Xa ob:=by
 rcases Uaa j (Xa ob) with h1 | h1
 ·exact h1
 ·rw[X1 ob j h1]at hj; cases hj
def Uq (ob:Xb):List Nat:=ob.map (·.1)
theorem Xsb {ob:Xb}{j:Nat}(h:(Xc ob j).isSome=true):j∈Uq ob:=by
 induction ob with
 | nil=>simp[Xc]at h
 | cons e r ih=>
  obtain⟨i,o⟩:=e;by_cases e:i=j
  ·subst e; simp[Uq]
  ·have:=ih (by simpa[Xc,e]using h);simp[Uq]at this⊢;exact .inr this
theorem Yx (n:Nat):∀(ob:Xb) (l:List Nat),(∀j∈Uq ob,j∈l)->Yv (Xe n l) ob=ob
 | [],_,_=>rfl
 | (i,o)::r,l,h=>by
  have h1:Xe n l i=false:=by simp[Xe]; intro _; exact h i (by simp[Uq])
  simp only[Yv,h1,Uah,Uay];rw[Yx n r l fun j hj=>h j (by simp[Uq]at hj⊢; exact .inr hj)]
theorem Wr {n:Nat}{ob:Xb}{j:Nat}(h:(Xc ob j).isSome=true):Xe n (Uq ob) j=false:=by
 have:=Xsb h;simp[Xe]; intro _; exact this
theorem Xkh {ob:Xb}(ids:Nat->Bool)(k:Nat)(h:Xg ids ob=true):Xg ids (setO ob k .gone)=true:=by
 induction ob with
 | nil=>rfl
 | cons e r ih=>
  obtain⟨i,y⟩:=e;simp only[setO];split
  ·cases y<;>simp_all[Xg]
  ·cases y<;>simp_all[Xg]
theorem U8 {ob:Xb}(ids:Nat->Bool)(k tag:Nat)(st:LSt)(sl:Xf)(h:Xg ids ob=true)(hs:Wc ids sl=true):Xg ids (setO ob k (.lp tag st sl))=true:=by
 induction ob with
 | nil=>rfl
 | cons e r ih=>
  obtain⟨i,y⟩:=e;simp only[setO];split
  ·cases y<;>simp_all[Xg]
  ·cases y<;>simp_all[Xg]
structure LS (lb:Nat)(ob0 ob:Xb)(l0 l:Nat):Prop where
 fr:Xa ob0<=Xa ob
 other:∀j,j<Xa ob0->j ≠ l0->j ≠ lb->Xc ob j=Xc ob0 j
 lt:l=l0\/Xa ob0<=l
 sub:∀j,(Xc ob0 j).isSome=true->(Xc ob j).isSome=true
 men:∀ids,Xg ids ob0=true->(∀j,(Xc ob j).isSome=true->ids j=false)->Xg ids ob=true
theorem LS.refl (lb:Nat)(ob:Xb)(l:Nat):LS lb ob ob l l:=⟨Uak _,fun _ _ _ _=>rfl,.inl rfl,fun _ h=>h,fun _ h _=>h⟩
theorem LS.trans {lb:Nat}{a b c:Xb}{l0 l1 l2:Nat}(h:LS lb a b l0 l1)(h':LS lb b c l1 l2):LS lb a c l0 l2:=by
 refine⟨Ual h.fr h'.fr,fun j h1 h2 h3=>?_,?_,fun j hj=>h'.sub j (h.sub j hj),fun ids h1 h2=>h'.men ids (h.men ids h1 fun j hj=>h2 j (h'.sub j hj)) h2⟩
 ·have hl:j ≠ l1:=by rcases h.lt with e | e<;>omega
  have:=h.fr;rw[h'.other j (by omega) hl h3,h.other j h1 h2 h3]
 ·have:=h.fr;rcases h'.lt with e | e
  ·rw[e]; exact h.lt
  ·exact .inr (by omega)
theorem LS.leave {lb:Nat}{ob0 ob:Xb}{l0 l:Nat}(h:LS lb ob0 ob l0 l)(hno:∀kp,Xg (Xe (Xa ob0) kp) ob0=true){K:Xb->Prop}{vs:List V}(hv:∀ids,V.mens ids vs=false)(hK:K ob):X6 (Xa ob0) K vs ob:=
 ⟨Uq ob,hv _,by rw[Yx _ _ _ fun _ h=>h]; exact h.men _ (hno _) fun j hj=>Wr hj,by rw[Yx _ _ _ fun _ h=>h]; exact hK⟩
theorem LS.up {lb:Nat}{ob0 ob:Xb}{l0 l:Nat}(h:LS lb ob0 ob l0 l)(hno:∀kp,Xg (Xe (Xa ob0) kp) ob0=true):∀kp,Xg (Xe (Xa ob) kp) ob=true:=fun kp=>
 h.men _ (Uu hno h.fr) fun j hj=>by
  have:=Yk hj;simp[Xe]; omega
structure CE where
 (yb lb nb eb lp rb cb fb pb n:Nat)
 (t:RTab) (q:RQ) (p:RPurpose) (fd:D)
def CE.slk (c:CE):Xf:=[(2,.d (.ref c.t.enc)),(3,.d (.ref c.q.enc)),(4,.ptr c.rb []),(5,.ptr c.cb []),(7,.ptr c.fb []),(8,.ptr c.pb [])]
def ixD (xs:List Nat):List D:=xs.map fun i:Nat=>.int .i64 (i:Int)
structure XE (c:CE)(ob:Xb)(l:Nat)(xs:List Nat):Prop where
 hy:Xc ob c.yb=some (.box 135 (.hd true c.lp))
 hl:Xc ob c.lb=some (.box 30 (.sl l xs.length))
 hi:Xc ob l=some (.arr 3 1 (ixD xs))
 hn:Xc ob c.nb=some (.box 3 (.d (.int .i64 c.n)))
 he:Xc ob c.eb=some (.box 136 (.fn 68 [] [.ptr c.yb [],.ptr c.lb [],.ptr c.nb [],.ptr c.eb []]))
 hp:Xc ob c.lp=some (.lp 18 .ready c.slk)
 hr:Xc ob c.rb=some (.box 45 (.d .nils))
 hc:Xc ob c.cb=some (.box 46 (.d (.int .i64 0)))
 hf:Xc ob c.fb=some (.box 66 (.d c.fd))
 hq:Xc ob c.pb=some (.box 71 (.d c.p.enc))
theorem XE.ne {c:CE}{ob:Xb}{l:Nat}{xs:List Nat}(h:XE c ob l xs):l ≠ c.lb/\l ≠ c.yb/\l ≠ c.nb/\l ≠ c.eb/\l ≠ c.lp/\l ≠ c.rb/\l ≠ c.cb/\l ≠ c.fb/\l ≠ c.pb/\c.lb ≠ c.yb/\c.lb ≠ c.nb/\c.lb ≠ c.eb/\c.lb ≠ c.lp/\c.lb ≠ c.rb/\c.lb ≠ c.cb/\c.lb ≠ c.fb/\c.lb ≠ c.pb:=by
 have hi:=h.hi;have hl:=h.hl;refine⟨?_,?_,?_,?_,?_,?_,?_,?_,?_,?_,?_,?_,?_,?_,?_,?_,?_⟩<;>intro e
 ·rw[e,hl]at hi; cases hi
 ·rw[e,h.hy]at hi; cases hi
 ·rw[e,h.hn]at hi; cases hi
 ·rw[e,h.he]at hi; cases hi
 ·rw[e,h.hp]at hi; cases hi
 ·rw[e,h.hr]at hi; cases hi
 ·rw[e,h.hc]at hi; cases hi
 ·rw[e,h.hf]at hi; cases hi
 ·rw[e,h.hq]at hi; cases hi
 ·rw[e,h.hy]at hl; cases hl
 ·rw[e,h.hn]at hl; cases hl
 ·rw[e,h.he]at hl; cases hl
 ·rw[e,h.hp]at hl; cases hl
 ·rw[e,h.hr]at hl; cases hl
 ·rw[e,h.hc]at hl; cases hl
 ·rw[e,h.hf]at hl; cases hl
 ·rw[e,h.hq]at hl; cases hl
theorem XE.of_LS {c:CE}{ob ob':Xb}{l l':Nat}{xs ys:List Nat}(h:XE c ob l xs)(hs:LS c.lb ob ob' l l')(hl:Xc ob' c.lb=some (.box 30 (.sl l' ys.length)))(hi:Xc ob' l'=some (.arr 3 1 (ixD ys))):XE c ob' l' ys:=by
 obtain⟨n0,n1,n2,n3,n4,n5,n6,n7,n8,m1,m2,m3,m4,m5,m6,m7,m8⟩:=h.ne;have key:∀{j:Nat} {o:Ob},Xc ob j=some o->l ≠ j->c.lb ≠ j->Xc ob' j=some o:=fun {j o} hj h1 h2=>by
  rw[hs.other j (Yb hj) (fun e=>h1 e.symm) (fun e=>h2 e.symm)]; exact hj
 exact⟨key h.hy n1 m1,hl,hi,key h.hn n2 m2,key h.he n3 m3,key h.hp n4 m4,key h.hr n5 m5,key h.hc n6 m6,key h.hf n7 m7,key h.hq n8 m8⟩
def Xaz (c:CE)(ob:Xb)(l:Nat)(ys:List Nat):Xb:=setO (setO ob l (.arr 3 1 (ixD ys))) c.lb (.box 30 (.sl l ys.length))
theorem XE.push {c:CE}{ob:Xb}{l:Nat}{xs:List Nat}(h:XE c ob l xs)(ys:List Nat):LS c.lb ob (Xaz c ob l ys) l l/\XE c (Xaz c ob l ys) l ys:=by
 have hne:=h.ne.1;have hl':(Xc ob l).isSome=true:=by rw[h.hi]; rfl
 have hb':(Xc ob c.lb).isSome=true:=by rw[h.hl]; rfl
 have hb2:(Xc (setO ob l (.arr 3 1 (ixD ys))) c.lb).isSome=true:=by rw[Ys hne]; exact hb'
 have e1:Xc (Xaz c ob l ys) c.lb=some (.box 30 (.sl l ys.length)):=Xau hb2;have e2:Xc (Xaz c ob l ys) l=some (.arr 3 1 (ixD ys)):=by
  unfold Xaz;rw[Ys (fun e=>hne e.symm),Xau hl']
 have hs:LS c.lb ob (Xaz c ob l ys) l l:=by
  refine⟨by simp[Xaz],fun j _ h2 h3=>?_,.inl rfl,fun j hj=>?_,fun ids h1 h2=>?_⟩
  ·unfold Xaz;rw[Ys (fun e=>h3 e.symm),Ys (fun e=>h2 e.symm)]
  ·by_cases e:j=c.lb
   ·rw[e,e1]; rfl
   ·by_cases e':j=l
    ·rw[e',e2]; rfl
    ·unfold Xaz;rw[Ys (fun h=>e h.symm),Ys (fun h=>e' h.symm)];exact hj
  ·unfold Xaz;refine Xl _ _ _ _ _ (Yq _ _ _ _ _ _ h1) ?_;simp;exact h2 l (by rw[e2]; rfl)
 exact⟨hs,h.of_LS hs e1 e2⟩
def Xhw (c:CE)(ob:Xb)(l:Nat)(ys:List Nat):Xb:=(Xa ob,.arr 3 1 (ixD ys))::setO (setO ob l .gone) c.lb (.box 30 (.sl (Xa ob) ys.length))
theorem XE.pop {c:CE}{ob:Xb}{l:Nat}{xs:List Nat}(h:XE c ob l xs)(ys:List Nat):LS c.lb ob (Xhw c ob l ys) l (Xa ob)/\XE c (Xhw c ob l ys) (Xa ob) ys:=by
 have hne:=h.ne.1;have hlb:=Yb h.hl;have hll:=Yb h.hi;have hb':(Xc ob c.lb).isSome=true:=by rw[h.hl]; rfl
 have hl':(Xc ob l).isSome=true:=by rw[h.hi]; rfl
 have hb2:(Xc (setO ob l .gone) c.lb).isSome=true:=by rw[Ys hne]; exact hb'
 have e1:Xc (Xhw c ob l ys) c.lb=some (.box 30 (.sl (Xa ob) ys.length)):=by
  unfold Xhw;rw[Yt (by omega),Xau hb2]
 have e2:Xc (Xhw c ob l ys) (Xa ob)=some (.arr 3 1 (ixD ys)):=by unfold Xhw; simp
 have hs:LS c.lb ob (Xhw c ob l ys) l (Xa ob):=by
  refine⟨by simp[Xhw],fun j h1 h2 h3=>?_,.inr (Uak _),fun j hj=>?_,fun ids h1 h2=>?_⟩
  ·unfold Xhw;rw[Yt (by omega),Ys (fun e=>h3 e.symm),Ys (fun e=>h2 e.symm)]
  ·by_cases e:j=c.lb
   ·rw[e,e1]; rfl
   ·by_cases e':j=l
    ·unfold Xhw;rw[e',Yt (by omega),Ys (fun e=>hne e.symm),Xau hl']; rfl
    ·have:=Yk hj;unfold Xhw;rw[Yt (by omega),Ys (fun h=>e h.symm),Ys (fun h=>e' h.symm)];exact hj
  ·unfold Xhw;have:=Xl (k:=c.lb) (ids:=ids) (E:=30) (h:=Xkh ids l h1) (v:=.sl (Xa ob) ys.length) (hv:=by simp; exact h2 _ (by rw[e2]; rfl));simpa[Xg]using this
 exact⟨hs,h.of_LS hs e1 e2⟩
end Go.Py
namespace Go.Py
open Go Go.Ab Go.Lx Go.Sx
def Vq (c:CE)(d:D)(ob:Xb):Xb:=setO (setO (setO ob c.rb (.box 45 (.d d))) c.cb (.box 46 (.d (.int .i64 0)))) c.lp (.lp 18 .ret c.slk)
theorem Xfl {c:CE}{ob0 ob:Xb}{l0 l:Nat}{zs:List Nat}{d:D}(h:LS c.lb ob0 ob l0 l)(hx:XE c ob l zs)(hno:∀kp,Xg (Xe (Xa ob0) kp) ob0=true){K:Xb->Prop}{vs:List V}(hv:∀ids,V.mens ids vs=false)(hK:K (Vq c d ob)):X6 (Xa ob0) K vs (Vq c d ob):=by
 have hs:∀j,(Xc ob j).isSome=true->(Xc (Vq c d ob) j).isSome=true:=fun j hj=>by
  have key:∀{o:Xb} (k:Nat) (x:Ob),(Xc o j).isSome=true->(Xc (setO o k x) j).isSome=true:=fun {o} k x ho=>by
   by_cases e:k=j
   ·subst e; rw[Xau ho]; rfl
   ·rw[Ys e]; exact ho
  exact key _ _ (key _ _ (key _ _ hj))
 refine⟨Uq (Vq c d ob),hv _,?_,by rw[Yx _ _ _ fun _ h=>h]; exact hK⟩;rw[Yx _ _ _ fun _ h=>h];have hk:∀j,(Xc ob j).isSome=true->Xe (Xa ob0) (Uq (Vq c d ob)) j=false:=fun j hj=>Wr (hs j hj);refine U8 _ _ _ _ _ (Xl _ _ _ _ _ (Xl _ _ _ _ _ (h.men _ (hno _) hk) (by simp)) (by simp)) ?_;simp[CE.slk,hk c.rb (by rw[hx.hr]; rfl),hk c.cb (by rw[hx.hc]; rfl),hk c.fb (by rw[hx.hf]; rfl),hk c.pb (by rw[hx.hq]; rfl)]
theorem Xp7 (xs:List Nat)(i:Nat):ixD (xs++[i])=ixD xs++[.int .i64 (i:Int)]:=by simp[ixD]
theorem Ycd {P:Prg}{sl:Xf}{ob:Xb}{KO PO:V->Xb->Prop}(z:Nat)(x h:A):I.wp P sl ob KO PO (.trn z x h)=X51 z ob KO (x.ev sl) (h.ev sl):=by simp only[I.wp]
theorem Yft {ob:Xb}{id n z E sz:Nat}{h:Int}{xs:List D}{K:V->Xb->Prop}(hl:Xc ob id=some (.arr E sz xs)):X51 z ob K (.sl id n) (.d (.int .i64 h))=(sz=z/\n=xs.length/\xs ≠ []/\(0<=h/\h<=n)/\K (.sl (Xa ob) h.toNat) ((Xa ob,.arr E sz (xs.take h.toNat))::setO ob id .gone)):=by
 simp only[X51,hl,Ysy]
def Un (n i:Nat):List Nat:=List.range' i (n-i)
theorem Xw8 {n i:Nat}(h:i<n):Un n i=i::Un n (i+1):=by
 unfold Un;obtain⟨m,hm⟩:∃m,n-i=m+1:=⟨n-i-1,by omega⟩
 have hm2:n-(i+1)=m:=by omega
 rw[hm,hm2,Ubs]
end Go.Py
namespace Go.Proofs.YtolkimpelpnpbaaGreatDoor
open Go Go.Ab Go.Lx Go.Sx Go.Py
section
variable {P:Prg} (hP:P.p=Tryz.prog)
include hP
theorem Xu3:Xm P.p 68=true:=by rw[hP]; kernel_rfl
def Xln (P:Prg)(c:CE)(go:List Nat->Bool)(rD:List Nat->D):Prop:=∀{ob:Xb} {l:Nat} {xs:List Nat} {K:Out->Xb->Prop},XE c ob l xs->(∀i∈xs,i<c.n)->xs.length<=c.n->(∀kp,Xg (Xe (Xa ob) kp) ob=true)->
 (go xs=true->K (.ret (.d (.bool true))) ob)->(go xs=false->K (.ret (.d (.bool false))) (Vq c (rD xs) ob))->AYield P c.lp [.sl l xs.length] ob K
theorem Xot {c:CE}{go:List Nat->Bool}{rD:List Nat->D}(hY:Xln P c go rD)(hn:c.n<=1000):∀(many:Nat) {ob:Xb} {l fm:Nat} {xs:List Nat},XE c ob l xs->(∀i∈xs,i<c.n)->xs.length+many<=c.n->fm<=c.n->∀{K:Out->Xb->Prop},
  ((Qf many (Un c.n fm)).find? (fun s=>!go (xs++s))=none->∀ob' l',LS c.lb ob ob' l l'->XE c ob' l' xs->K (.ret (.d (.bool true))) ob')->
  (∀s,(Qf many (Un c.n fm)).find? (fun s=>!go (xs++s))=some s->∀ob' l',LS c.lb ob ob' l l'->XE c ob' l' (xs++s)->K (.ret (.d (.bool false))) (Vq c (rD (xs++s)) ob'))->
  ACall P 68 [.d (.int .i64 fm),.d (.int .i64 many),.ptr c.yb [],.ptr c.lb [],.ptr c.nb [],.ptr c.eb []] ob K
 | 0,ob,l,fm,xs,hx,hi,hlen,hfm,K,h1,h2=>by
  refine Xn hP mixed Y1w Y4e TOk.nil fun _ hno=>?_;have hp':Yf7 (Xc ob c.lp):=by rw[hx.hp]; simp
  simp[Y2b,hx.hy,hx.hl,hx.hp];refine hY hx hi (by omega) hno (fun g=>?_) (fun g=>?_)
  ·have:=h1 (by simp[Qf,g]) ob l (LS.refl _ _ _) hx;simp;exact (LS.refl c.lb ob l).leave hno (by simp) this
  ·have:=h2 [] (by simp[Qf,g]) ob l (LS.refl _ _ _) (by simpa using hx);rw[Ub4]at this;simp;exact Xfl (LS.refl c.lb ob l) hx hno (by simp) this
 | k+1,ob,l,fm,xs,hx,hi,hlen,hfm,K,h1,h2=>by
  refine Xn hP mixed Y1w Y4e TOk.nil fun _ hno=>?_;have k0:¬(k:Int)+1=0:=by omega
  simp[Y2b,k0];simp[X8q];refine ALoop.go (ι:=Xb×Nat×Nat) (fun x=>[(1,.d (.int .i64 (k+1:Nat))),(3,.ptr c.lb []),(4,.ptr c.nb []),(5,.ptr c.eb []),(9,.d (.int .i64 (x.2.2:Nat)))]) (fun x=>x.1)
   (fun x=>LS c.lb ob x.1 l x.2.1/\XE c x.1 x.2.1 xs/\x.2.2<=c.n/\(Qf (k+1) (Un c.n fm)).find? (fun s=>!go (xs++s))=(Qf (k+1) (Un c.n x.2.2)).find? (fun s=>!go (xs++s)))
   (fun x=>c.n-x.2.2) (ob,l,fm) ⟨LS.refl _ _ _,hx,hfm,rfl⟩ (by simp) (by simp) ?_
  rintro⟨o1,l1,i⟩ ⟨hs,hx1,hin,hf⟩ R rn re rr rp;dsimp only at hs hx1 hin hf rn⊢;have w1:IntKind.i64.wrap ((c.n:Int)-((k:Int)+1))=(c.n:Int)-((k:Int)+1):=IntWalk.i64_in _ (by omega);by_cases hlt:i+(k+1)<=c.n
  ·have g1:(i:Int)<=(c.n:Int)-((k:Int)+1):=by omega
   have hl':(Xc o1 l1).isSome=true:=by rw[hx1.hi]; rfl
   have hb':(Xc o1 c.lb).isSome=true:=by rw[hx1.hl]; rfl
   have hne:=hx1.ne.1;have e1:(l1==c.lb)=false:=by simpa using hne
   simp[Xua,hx1.hn,hx1.hl,hx1.hi,w1,g1,e1,hb'];have hixl:(ixD xs).length=xs.length:=by simp[ixD]
   obtain⟨hs1,hx2⟩:=hx1.push (xs++[i]);have hpe:setO (setO o1 l1 (.arr 3 1 (ixD xs++[D.int IntKind.i64 i]))) c.lb (.box 30 (V.sl l1 (xs.length+1)))=Xaz c o1 l1 (xs++[i]):=by
    unfold Xaz; rw[Xp7]; simp
   rw[hixl,hpe];have wk:IntKind.i64.wrap (k:Int)=(k:Int):=IntWalk.i64_in _ (by omega);have wi:IntKind.i64.wrap ((i:Int)+1)=((i+1:Nat):Int):=by rw[IntWalk.i64_in _ (by omega)]; push_cast; rfl
   rw[wk,wi];generalize Xaz c o1 l1 (xs++[i])=o2 at hs1 hx2⊢;simp[hx2.he,Xu3 hP];refine⟨by omega,?_⟩;have hcons:Un c.n i=i::Un c.n (i+1):=Xw8 (by omega);have hfa:(Qf (k+1) (Un c.n i)).find? (fun s=>!go (xs++s))=((((Qf k (Un c.n (i+1))).find? (fun s=>!go ((xs++[i])++s))).map (i::·)).or ((Qf (k+1) (Un c.n (i+1))).find? (fun s=>!go (xs++s)))):=by
    rw[hcons,Qf,List.find?_append,List.find?_map];congr 2;simp[Function.comp_def]
   refine Xot hY hn k (fm:=i+1) hx2 (fun j hj=>?_) (by simp; omega) (by omega) (fun hnone ob' l' hs2 hx3=>?_) (fun s hsome ob' l' hs2 hx3=>?_)
   ·rcases Ubu.1 hj with hj | hj
    ·exact hi j hj
    ·rw[Uci.1 hj]; omega
   ·rw[hnone]at hfa;simp only[Option.map_none,Option.none_or]at hfa;have hne3:=hx3.ne.1;have e3:(l'==c.lb)=false:=by simpa using hne3
    have l'':(Xc ob' l').isSome=true:=by rw[hx3.hi]; rfl
    have b'':(Xc ob' c.lb).isSome=true:=by rw[hx3.hl]; rfl
    obtain⟨hs3,hx4⟩:=hx3.pop xs;have wx:IntKind.i64.wrap (xs.length:Int)=(xs.length:Int):=IntWalk.i64_in _ (by omega);simp[Xub];have hixl2:(ixD (xs++[i])).length=xs.length+1:=by simp[ixD]
    have htk:(ixD (xs++[i])).take xs.length=ixD xs:=by
     have:(ixD xs).length=xs.length:=by simp[ixD]
     rw[Xp7,<-this]; simp
    have hnil:ixD (xs++[i]) ≠ []:=by simp[ixD]
    have e4:(Xa ob'==c.lb)=false:=by have:=Yb hx3.hl; simp; omega
    have b4:(Xc (setO ob' l' .gone) c.lb)=some (.box 30 (.sl l' (xs++[i]).length)):=by rw[Ys hne3]; exact hx3.hl
    simp[X8o,hx3.hl,hx3.hi,e3,b'',wx,Ycd,Yft hx3.hi,hixl2,htk,hnil,e4,b4];refine⟨by omega,?_⟩;have wi':IntKind.i64.wrap ((i:Int)+1)=(i:Int)+1:=IntWalk.i64_in _ (by omega);simp[X8p,wi'];have hs':=((hs.trans hs1).trans hs2).trans hs3;have hk:∀{j:Nat},(Xc (Xhw c ob' l' xs) j).isSome=true->Xe (Xa o1) (Uq (Xhw c ob' l' xs)) j=false:=fun h=>Wr h;refine rn (Uq (Xhw c ob' l' xs)) (Xhw c ob' l' xs,Xa ob',i+1) _ _ ⟨hs',hx4,by simp only; omega,hf.trans hfa⟩ (by simp only; omega) (by simp) (Yx _ _ _ fun _ h=>h) ?_ ?_
    ·simp[hk (by rw[hx4.hl]; rfl:(Xc (Xhw c ob' l' xs) c.lb).isSome=true),hk (by rw[hx4.hn]; rfl:(Xc (Xhw c ob' l' xs) c.nb).isSome=true),hk (by rw[hx4.he]; rfl:(Xc (Xhw c ob' l' xs) c.eb).isSome=true)]
    ·exact hs'.men _ (Uu hno hs.fr) fun j hj=>hk hj
   ·rw[hsome]at hfa;simp only[Option.map_some,Option.some_or]at hfa;simp[Xub];refine rr _ _ ?_;simp;have e:xs++(i::s)=xs++[i]++s:=by simp
    have:=h2 (i::s) (hf.trans hfa) ob' l' ((hs.trans hs1).trans hs2) (by rw[e]; exact hx3);rw[<-e]at hx3;exact Xfl ((hs.trans hs1).trans hs2) hx3 hno (by simp) this
  ·have g1:¬(i:Int)<=(c.n:Int)-((k:Int)+1):=by omega
   simp[Xua,hx1.hn,w1,g1];refine re _ _ _ ?_;simp;have hnone:(Qf (k+1) (Un c.n i)).find? (fun s=>!go (xs++s))=none:=by
    rw[Xh0 _ _ (by simp[Un]; omega)]; rfl
   exact hs.leave hno (by simp) (h1 (hf.trans hnone) o1 l1 hs hx1)
end
end Go.Proofs.YtolkimpelpnpbaaGreatDoor
namespace Go.Py
open Go Go.Ab Go.Lx Go.Sx
theorem Xuq {l:List (Int×Int)}{p:Int×Int->Bool}{k:Nat}(hk:k<l.length):(l.take (k+1)).all p=((l.take k).all p&&p l[k]):=by
 rw[Ubj hk,Uch]; simp
def Xcr (y:RSrc)(q:RQ):Int:=if Yi y q then (match y.purposes[q.purpose.toNat]? with | some p=>if Xgg p q then 0 else 260 | none=>260) else 210
theorem Zo {y:RSrc}{q:RQ}(hc:Yi y q=true):∃(n:Nat) (hn:n<y.purposes.length),q.purpose=n/\Xcr y q=if Xgg y.purposes[n] q then 0 else 260:=by
 have h:=hc;simp only[Yi,Uai]at h;have h1:=h.1.1.1.2;have h2:=h.1.1.2;refine⟨q.purpose.toNat,?_,?_,?_⟩
 ·cases hp:y.purposes[q.purpose.toNat]? with
  | none=>rw[hp]at h2; cases h2
  | some p=>exact (Uan.1 hp).1
 ·have:0<=q.purpose:=by simpa using h1
  omega
 ·unfold Xcr;rw[Uby hc];split
  ·rename_i p hp;obtain⟨hl,rfl⟩:=Uan.1 hp;rfl
  ·rename_i hp;rw[hp]at h2; cases h2
end Go.Py
namespace Go.Proofs.YtolkimpelpnpbaaGreatDoor
open Go Go.Ab Go.Lx Go.Sx Go.Py
section
variable {P:Prg} (hP:P.p=Tryz.prog)
include hP
theorem X17:Xm P.p 62=true:=by rw[hP]; kernel_rfl
theorem X8v {p:Int×Int}{r:RRef}{ob:Xb}{i E:Nat}(hi:Xc ob i=some (.box E (.d (fD p)))){K:Out->Xb->Prop}(h:K (.ret (.d (.bool (decide (Go.Py.refP r=p))))) ob):ACall P 62 [.d r.enc,.ptr i []] ob K:=by
 refine Xn hP mixed Y61 Zax TOk.nil fun _ hno=>?_;have hi':(Xc ob i).isSome=true:=by rw[hi]; rfl
 have il:=Yb hi;have e0:(Xa ob==i)=false:=by simp; omega
 have e:decide (Go.Py.refP r=p)=if r.schema=p.1 then decide (r.field=p.2) else false:=by
  unfold Go.Py.refP;rw[Ucl];obtain⟨p1,p2⟩:=p;by_cases h1:r.schema=p1<;>simp[h1]
 rw[e]at h;have fin:∀(b:Bool) (o:Ob),K (.ret (.d (.bool b))) ob->X6 (Xa ob) (K (.ret (.d (.bool b)))) [.d (.bool b)] ((Xa ob,o)::ob):=fun b o h=>⟨[],by simp,by simp[Xe]; exact hno _,by simpa[Xe]using h⟩;by_cases h1:r.schema=p.1
 ·simp[Y19,RRef.enc,hi,hi',fD,e0,h1]at h⊢;exact fin _ _ h
 ·simp[Y19,RRef.enc,hi,hi',fD,e0,h1]at h⊢;exact fin _ _ h
theorem Xrk {l:List RRef}(hl:l.length<=9223372036854775807){p:Int×Int}{ob:Xb}{i E:Nat}(hi:Xc ob i=some (.box E (.d (fD p)))){K:Out->Xb->Prop}(h:K (.ret (.d (.bool (decide (p∈l.map Go.Py.refP))))) ob):ACall P 61 [.d (.list 4 (l.map RRef.enc)),.fn 62 [] [.ptr i []]] ob K:=by
 refine Xn hP mixed Y60 Zaw TOk.nil fun _ hno=>?_;have il:=Yb hi;have fin:∀(v:V),V.mens (Xe (Xa ob) []) [v]=false->K (.ret v) ob->X6 (Xa ob) (K (.ret v)) [v] ob:=fun v h1 h=>⟨[],h1,by simp[Xe]; exact hno _,by simpa[Xe]using h⟩;simp[Y8g];have idx:∀{K:Out->Xb->Prop},(∀z:Int,(0<=z↔p∈l.map Go.Py.refP)->K (.ret (.d (.int .i64 z))) ob)->ACall P 118 [.d (.list 4 (l.map RRef.enc)),.fn 62 [] [.ptr i []]] ob K:=by
  intro K h;refine Xn hP mixed Ypy Yv3 TOk.nil fun _ hno=>?_;have fin:∀(v:V),V.mens (Xe (Xa ob) []) [v]=false->K (.ret v) ob->X6 (Xa ob) (K (.ret v)) [v] ob:=fun v h1 h=>⟨[],h1,by simp[Xe]; exact hno _,by simpa[Xe]using h⟩;simp[Ys3];refine ALoop.upto l.length (fun k=>[(0,.d (.list 4 (l.map RRef.enc))),(1,.fn 62 [] [.ptr i []]),(7,.d (.int .i64 l.length)),(8,.d (.int .i64 k))])
   (fun _=>ob) (fun k=>∀j,(hj:j<l.length)->j<k->Go.Py.refP l[j] ≠ p) (fun j _ h=>absurd h (by omega)) (by simp) (by simp) ?_ ?_
  ·intro k hk hI R rn re rr rp;have wr:IntKind.i64.wrap ((k:Int)+1)=(k:Int)+1:=IntWalk.i64_in _ (by omega);simp[Xod,hk,X17 hP];refine⟨⟨rfl,rfl⟩,X8v hP hi ?_⟩;by_cases e:Go.Py.refP l[k]=p
   ·simp[Xoe,e];refine rr _ _ ?_;simp;refine fin _ (by simp) (h k ⟨fun _=>?_,fun _=>by omega⟩);exact Ua5.2 ⟨_,Uba hk,e⟩
   ·simp[Xoe,X08,e,wr];refine rn [] _ _ (fun j hj h1=>?_) (by simp) (by simp[Xe]) (by simp[Xe]; omega) (hno _);by_cases e2:j=k
    ·subst e2; exact e
    ·exact hI j hj (by omega)
  ·intro hI R re rr rp;simp[Xod];refine re _ _ _ ?_;simp;refine fin _ (by simp) (h (-1) ⟨fun h=>by omega,fun h=>?_⟩);obtain⟨s,hs,e⟩:=Ua5.1 h;obtain⟨j,hj,rfl⟩:=Ub5.1 hs;exact (hI j hj hj e).elim
 refine idx fun z hz=>?_;have e:decide (p∈l.map Go.Py.refP)=decide (0<=z):=by rw[Ucl]; simp only[Ubp]; exact hz.symm
 rw[e]at h;simp;exact fin _ (by simp) h
theorem X6g (hL:Qs P){p:RPurpose}(hp:p.may.length<=9223372036854775807){q:RQ}(hq:q.small)(hl:q.form.atoms.length<=1000){ob:Xb}{K:V->Prop}(h:K (.d (.bool (Xgg p q)))):PCall P 31 [.d p.enc,.d q.enc] ob K:=by
 refine Xh hP mixed (ds:=[p.enc,q.enc]) Y6n Zai TOk.nil ?_;have qs:q.enc.shape.size=17:=by rw[RQ.enc,D.shape]; simp[D.shapes]
 have hpe:p.enc=.agg [.str p.name,.list 4 (p.may.map RRef.enc),iD p.most]:=rfl;rw[hpe];simp[Y74,qs];refine⟨rfl,Xls hP hL hq hl (fun d hd=>?_)⟩;have hal:=Uj q;unfold Xgg at h;generalize Xt q=fs at hd hal h;have hlen:Vy (.d d)=.d (.int .i64 fs.length)/\∀ob,Ue ob (.d d):=by
  rcases hd with rfl | ⟨e,rfl⟩
  ·simp
  ·simp[e]
 refine⟨hlen.2 _,?_⟩;rw[hlen.1];refine ALoop.upto fs.length (fun k=>[(2,.ptr 0 []),(5,.d d),(10,.d d),(11,.d (.int .i64 fs.length)),(12,.d (.int .i64 k))])
  (fun _=>[(1,.box 42 (.d q.enc)),(0,.box 71 (.d (.agg [.str p.name,.list 4 (p.may.map RRef.enc),iD p.most])))]) (fun k=>(fs.take k).all (fun f=>decide (f∈p.may.map Go.Py.refP))=true) (by simp) (by simp) (by simp) ?_ ?_
 ·intro k hk hI R rn re rr rp;have wr:IntKind.i64.wrap ((k:Int)+1)=(k:Int)+1:=IntWalk.i64_in _ (by omega);obtain rfl:d=.list 2 (fs.map fD):=by
   rcases hd with rfl | ⟨e,rfl⟩
   ·rfl
   ·rw[e]at hk; simp at hk
  have hst:=Xuq (p:=fun f=>decide (f∈p.may.map Go.Py.refP)) hk;rw[hI,Uct]at hst;simp[Xtu,hk];refine⟨⟨rfl,rfl⟩,rfl,Xrk hP (l:=p.may) hp (p:=fs[k]) (E:=76) rfl ?_⟩;by_cases e:fs[k]∈p.may.map Go.Py.refP
  ·rw[show decide (fs[k]∈p.may.map Go.Py.refP)=true by simpa using e]at hst⊢;simp[Xtv,X8j,wr];refine rn [] _ _ hst (by simp) (by simp[Xe]) (by simp[Xe]) (by simp[Xe])
  ·have hf:decide (fs[k]∈p.may.map Go.Py.refP)=false:=by simpa using e
   rw[hf];simp[Xtv];refine rr _ _ ?_;simp;have hall:fs.all (fun f=>decide (f∈p.may.map Go.Py.refP))=false:=by
    rw[List.all_eq_false];exact⟨_,Uba hk,by simpa using e⟩
   rw[hall]at h;exact h
 ·intro hI R re rr rp;simp[Xtu];refine re _ _ _ ?_;rw[Ucq]at hI;rw[hI,Uct]at h;simp;refine⟨⟨hlen.2 _,by rw[hlen.1]; simp⟩,?_⟩;rw[hlen.1];simp;exact h
end
end Go.Proofs.YtolkimpelpnpbaaGreatDoor
namespace Go.Proofs.YtolkimpelpnpbaaGreatDoor
open Go Go.Ab Go.Lx Go.Sx Go.Py
section
variable {P:Prg} (hP:P.p=Tryz.prog)
include hP
theorem Xo5 (hL:Qs P){t:RTab}(hy:t.src.small){q:RQ}(hq:q.small){ob:Xb}{K:V->Prop}(h:K (.d (.int .i64 (Xcr t.src q)))):PCall P 13 [.d t.enc,.d q.enc] ob K:=by
 refine Xh hP mixed (ds:=[t.enc,q.enc]) Y6g Zaa TOk.nil ?_;have hts:t.enc.shape.size=7:=rfl;have qs:q.enc.shape.size=17:=by rw[RQ.enc,D.shape]; simp[D.shapes]
 have tz:t.enc.sz=7:=rfl;have qz:q.enc.sz=17:=by rw[<-D.size_shape]; exact qs
 simp[Y7x,hts,qs,tz,qz];refine⟨rfl,rfl,rfl,rfl,Xf2 hP hy hq ?_⟩;cases hc:Yi t.src q with
 | false=>
  have e:Xcr t.src q=210:=by unfold Xcr; rw[Ubo (by simp[hc])]
  rw[e]at h;simp[Vj,hc];exact h
 | true=>
  obtain⟨n,hn,e1,e2⟩:=Zo hc;obtain⟨_,al,_⟩:=Z7 hc;rw[e2]at h;have n0:¬(n:Int)<0:=by omega
  have hte:t.enc=.agg [t.src.enc,Xea t.order]:=rfl;have hqe:q.enc=.agg [.str q.name,iD q.purpose,.list 4 (q.vars.map RVar.enc),q.form.enc]:=rfl;have pz:∀p:RPurpose,p.enc.shape.size=3:=fun _=>rfl;have hq':D.agg [.str q.name,iD n,.list 4 (q.vars.map RVar.enc),q.form.enc]=q.enc:=by rw[hqe,e1]
  simp[Vj,hc,hte,hqe,RSrc.enc,e1,n0,hn];refine⟨⟨rfl,rfl⟩,?_⟩;rw[hq'];refine X6g hP hL (hy.may _ (Uba hn)) hq (by omega) ?_;cases g:Xgg t.src.purposes[n] q with
  | false=>rw[g]at h; simp at h⊢; exact h
  | true=>rw[g]at h; simp at h⊢; exact h
end
end Go.Proofs.YtolkimpelpnpbaaGreatDoor
namespace Go.Ab
open Go
theorem ACall.giv {P:Prg}{f:Nat}{vs:List V}{ob ob':Xb}{l:List D}{K:Out->Xb->Prop}(h0:V.givs ob vs=some (l,ob'))(h:ACall P f (l.map .d) ob' K):ACall P f vs ob K:=
 ⟨fun w ρ args hO hg hr=>by
  obtain⟨ρ',t,o',r'⟩:=U4 vs args hO hr h0;exact (h.run w ρ' args o' (t.gl.trans hg) r').mono fun _ _ ⟨out,ob1,ρ1,k,hr,ho,t1⟩=>⟨out,ob1,ρ1,k,hr,ho,t.trans t1⟩⟩
end Go.Ab
namespace Go.Py
open Go Go.Ab Go.Lx Go.Sx
def Qd (fs:List (Int×Int))(xs:List Nat):List (Int×Int):=xs.map fun i=>fs.getD i (0,0)
def Xeb (l:List (Int×Int)):List (Int×Int):=l.foldl Xli []
theorem Xe5 (l:List (Int×Int))(p:Int×Int):Xeb (l++[p])=Xli (Xeb l) p:=by unfold Xeb; rw[Ucr]; rfl
theorem Xxk (l:List (Int×Int))(p:Int×Int):p∈Xeb l↔p∈l:=by
 have key:∀(l fs:List (Int×Int)),p∈l.foldl Xli fs↔p∈fs\/p∈l:=by
  intro l;induction l with
  | nil=>simp
  | cons a r ih=>
   intro fs;rw[List.foldl_cons,ih,Xfu,Uax,or_assoc]
 unfold Xeb;rw[key]; simp
theorem Xr6 (q:RQ)(l:List (Int×Int)):We q (Xeb l)=We q l:=Xar (Xxk l)
theorem Xzy {fs:List (Int×Int)}{xs:List Nat}{k:Nat}(hk:k<xs.length):Qd fs (xs.take (k+1))=Qd fs (xs.take k)++[fs.getD xs[k] (0,0)]:=by
 unfold Qd;rw[Ubj hk,Uca]; rfl
theorem Qi (ob:Xb)(l:Nat)(h:(Xc ob l).isSome=true){o o':Ob}:Xc ((Xa ob+1,o)::(Xa ob,o')::ob) l=Xc ob l:=by
 have:=Yk h;rw[Yt (by omega),Yt (by omega)]
theorem Xdr {i j:Nat}(h:i ≠ j)(a b:Ob):∀ob:Xb,setO (setO ob i a) j b=setO (setO ob j b) i a
 | []=>rfl
 | (k,o)::r=>by
  by_cases e1:k=i
  ·subst e1; simp[setO,h]
  ·by_cases e2:k=j
   ·subst e2; simp[setO,e1]
   ·simp[setO,e1,e2,Xdr h a b r]
end Go.Py
namespace Go.Proofs.YtolkimpelpnpbaaGreatDoor
open Go Go.Ab Go.Lx Go.Sx Go.Py
section
variable {P:Prg} (hP:P.p=Tryz.prog)
include hP
abbrev X8s (P:Prg):Prop:=W5 P 18 [34] U6 U7
theorem Yfz (hLF:Qs P)(hL:X8s P){c:CE}{fs:List (Int×Int)}(hc:Yi c.t.src c.q=true)(hy:c.t.src.small)(hq:c.q.small)(hp:c.p.may.length<=9223372036854775807)(hfs:fs=Xt c.q)(hcn:c.n=fs.length)(hfd:c.fd=.list 2 (fs.map fD)\/fs=[]/\c.fd=.nils) :
  Xln P c (fun xs=>!Xap c.p c.q (Qd fs xs)) (fun xs=>.list 4 (((Qd fs xs).map (Uw c.t.src)).map RRef.enc)):=by
 intro ob l xs K hx hi hlen hno h1 h2;refine AYield.lift (slk:=c.slk) hP mixed TOk.nil hL X43 X44 hx.hp rfl ?_;obtain⟨n0,n1,n2,n3,n4,n5,n6,n7,n8,m1,m2,m3,m4,m5,m6,m7,m8⟩:=hx.ne;have hp':(Xc ob c.lp).isSome=true:=by rw[hx.hp]; rfl
 obtain⟨_,al0,_⟩:=Z7 hc;have al:=Uj c.q;rw[<-hfs]at al;have el:(l==c.lp)=false:=by simpa using n4
 have qs:c.q.enc.shape.size=17:=by rw[RQ.enc,D.shape]; simp[D.shapes]
 simp[Xqp,Xqq,CE.slk,hx.hp];have hl':(Xc ob l).isSome=true:=by rw[hx.hi]; rfl
 have hr':(Xc ob c.rb).isSome=true:=by rw[hx.hr]; rfl
 have hc':(Xc ob c.cb).isSome=true:=by rw[hx.hc]; rfl
 have hf':(Xc ob c.fb).isSome=true:=by rw[hx.hf]; rfl
 have hq':(Xc ob c.pb).isSome=true:=by rw[hx.hq]; rfl
 have ixl:(ixD xs).length=xs.length:=by simp[ixD]
 have l1:=Yb hx.hi;have e2:(c.lp==c.rb)=false:=by simp; intro e; have:=hx.hp; rw[e,hx.hr]at this; cases this
 have e3:(c.lp==c.cb)=false:=by simp; intro e; have:=hx.hp; rw[e,hx.hc]at this; cases this
 have e4:(c.lp==c.fb)=false:=by simp; intro e; have:=hx.hp; rw[e,hx.hf]at this; cases this
 have e5:(c.lp==c.pb)=false:=by simp; intro e; have:=hx.hp; rw[e,hx.hq]at this; cases this
 have e6:(c.lp==l)=false:=by simp; exact fun e=>n4 e.symm
 have hback:setO (setO ob c.lp (.lp 18 .busy c.slk)) c.lp (.lp 18 .ready c.slk)=ob:=by
  rw[Xca]; exact Xzz _ _ _ hx.hp
 have g1:Xc (setO ob c.lp (.lp 18 .busy c.slk)) l=some (.arr 3 1 (ixD xs)):=by simp[e6]; exact hx.hi
 have g2:Xc (setO ob c.lp (.lp 18 .busy c.slk)) c.fb=some (.box 66 (.d c.fd)):=by simp[e4]; exact hx.hf
 have g3:Xc (setO ob c.lp (.lp 18 .busy c.slk)) c.pb=some (.box 71 (.d c.p.enc)):=by simp[e5]; exact hx.hq
 have g4:Xc (setO ob c.lp (.lp 18 .busy c.slk)) c.rb=some (.box 45 (.d .nils)):=by simp[e2]; exact hx.hr
 have g5:Xc (setO ob c.lp (.lp 18 .busy c.slk)) c.cb=some (.box 46 (.d (.int .i64 0))):=by simp[e3]; exact hx.hc
 have g6:Xc (setO ob c.lp (.lp 18 .busy c.slk)) c.lp=some (.lp 18 .busy c.slk):=by simp[hp']
 have g7:Xa (setO ob c.lp (.lp 18 .busy c.slk))=Xa ob:=by simp
 have g8:∀kp,Xg (Xe (Xa ob) kp) (setO ob c.lp (.lp 18 .busy c.slk))=true:=fun kp=>U8 _ _ _ _ _ (hno kp) (by simp[CE.slk,hr',hc',hf',hq']);rw[<-show c.slk=[(2,V.d c.t.enc.ref),(3,V.d c.q.enc.ref),(4,V.ptr c.rb []),(5,V.ptr c.cb []),(7,V.ptr c.fb []),(8,V.ptr c.pb [])] from rfl];generalize hob1:setO ob c.lp (.lp 18 .busy c.slk)=ob1 at hback g1 g2 g3 g4 g5 g6 g7 g8⊢;have j1:(Xc ob1 l).isSome=true:=by rw[g1]; rfl
 have j2:(Xc ob1 c.fb).isSome=true:=by rw[g2]; rfl
 have j3:(Xc ob1 c.pb).isSome=true:=by rw[g3]; rfl
 have j4:(Xc ob1 c.rb).isSome=true:=by rw[g4]; rfl
 have j5:(Xc ob1 c.cb).isSome=true:=by rw[g5]; rfl
 have j6:(Xc ob1 c.lp).isSome=true:=by rw[g6]; rfl
 rw[<-g7]at g8⊢;have k1:=Yk j1;have k2:=Yk j2;have k3:=Yk j3;have k4:=Yk j4;have k5:=Yk j5;have k6:=Yk j6;refine⟨.inl ⟨_,_,_,by rw[Qi ob1 l j1]; exact g1,ixl.symm⟩,?_⟩;refine ALoop.upto xs.length (fun k=>[(2,V.d c.t.enc.ref),(3,V.d c.q.enc.ref),(4,V.ptr c.rb []),(5,V.ptr c.cb []),(7,V.ptr c.fb []),(8,V.ptr c.pb []),(10,V.mp (Xa ob1)),(11,V.sl (Xa ob1+1) k),(36,V.sl l xs.length),(37,V.d (D.int IntKind.i64 xs.length)),(38,V.d (D.int IntKind.i64 k))])
  (fun k=>(Xa ob1+1,.arr 76 2 ((Qd fs (xs.take k)).map fD))::(Xa ob1,.map ((Xeb (Qd fs (xs.take k))).map V8))::ob1) (fun _=>True) trivial (by simp) (by simp[Qd,Xeb]) ?_ ?_
 ·intro k hk _ R rn re rr rp;have wr:IntKind.i64.wrap ((k:Int)+1)=(k:Int)+1:=IntWalk.i64_in _ (by omega);have hik:xs[k]<fs.length:=by rw[<-hcn]; exact hi _ (Uba hk)
  have hfd':c.fd=.list 2 (fs.map fD):=by
   rcases hfd with h | ⟨e,_⟩
   ·exact h
   ·rw[e]at hik; simp at hik
  rw[hfd']at g2;have hst:=Xzy (fs:=fs) hk;have hge:fs.getD xs[k] (0,0)=fs[xs[k]]:=by simp[List.getD,hik]
  rw[hge]at hst;have hix:∀h,(ixD xs)[k]'h=.int .i64 (xs[k]:Nat):=fun h=>by simp[ixD]
  simp[Xhi,hk,j1,j2,g1,g2,hix,hik,wr,ixl];have hsl:(Qd fs (xs.take k)).length=k:=by simp[Qd]; omega
  refine⟨⟨rfl,rfl⟩,Xb4 _ _,⟨rfl,rfl⟩,rfl,hsl.symm,by rw[hsl]; omega,?_⟩;rw[Xh5,hsl];refine rn [] _ _ trivial (by simp) ?_ ?_ ?_
  ·rw[hst,Xe5]; simp[Xe]
  ·simp[Xe]; omega
  ·rw[hst,Xe5]; simp[Xe];exact⟨Xcz _ _,Xp 2 g8⟩
 ·intro _ R re rr rp;simp[Xhi];refine re _ _ _ ?_;simp[qs];have hck:=Xu8 hc;refine⟨⟨by rw[<-D.size_shape]; exact qs,rfl⟩,Xig hP (Xhr _ _ _ _ _ hck) (fs:=Xeb (Qd fs xs)) (by simp) (fun d hd=>?_)⟩;rw[Xr6]at hd⊢;have hds:d.shape=qSh:=by rw[<-Jo hd]; simp[RQ.enc,RQ.withF,D.shape,D.shapes]
  have qz:qSh.size=17:=rfl;have qsh:c.q.enc.shape=qSh:=by simp[RQ.enc,D.shape,D.shapes]
  have hda:(V.d d).isAgg=true:=by
   have:=hd.same.2;cases d<;>first | rfl | (exfalso; revert this; simp[RQ.enc,D.isAgg])
  have hdm:(match V.d d with | V.d (D.agg xs)=>true | V.agg xs=>true | x=>false)=true:=by
   cases d<;>first | rfl | (revert hda; simp[V.isAgg])
  have dz:d.sz=17:=by rw[<-D.size_shape,hds]; rfl
  have fin:∀(x y z:Ob),K (.ret (.d (.bool true))) ob->X6 (Xa ob1) (K (.ret (.d (.bool true)))) [] ((Xa ob1+2,x)::(Xa ob1+1,y)::(Xa ob1,z)::setO ob1 c.lp (.lp 18 .ready c.slk)):=fun x y z hK=>by
   rw[hback,g7];exact⟨[],by simp,by simp[Xe]; exact hno _,by simpa[Xe]using hK⟩
  simp[hds,qz,qsh];cases hr:(rbF (We c.q (Qd fs xs)) c.q.form).2 with
  | false=>
   have hg:Xap c.p c.q (Qd fs xs)=false:=by unfold Xap; rw[hr,Bool.false_and]
   have hK:=h1 (by simp[hg]);simp[Xhj,hds,qz,qsh,dz,hdm,g6];exact fin _ _ _ hK
  | true=>
   have hc2:=Xf8 hc hr;obtain⟨_,al2,_⟩:=Z7 hc2;have hg:Xap c.p c.q (Qd fs xs)=Xgg c.p (c.q.withF (rbF (We c.q (Qd fs xs)) c.q.form).1):=by unfold Xap; rw[hr,Uct]
   have hq2:(c.q.withF (rbF (We c.q (Qd fs xs)) c.q.form).1).small:=⟨hq.vars,J0 _ _ hq.form⟩
   simp[Xhj,hds,qz,qsh,dz,hdm,g3,j3];refine⟨hdm,⟨rfl,rfl⟩,hdm,⟨rfl,rfl⟩,PCall.le (xs:=[c.p.enc,d]) (ys:=[c.p.enc,(c.q.withF (rbF (We c.q (Qd fs xs)) c.q.form).1).enc]) (D.les.cons (D.le.refl _) (D.les.cons hd D.les.nil)) (X6g hP hLF hp hq2 (by omega) ?_)⟩;rw[<-hg];cases hf:Xap c.p c.q (Qd fs xs) with
   | false=>
    have hK:=h1 (by simp[hf]);simp[g6];exact fin _ _ _ hK
   | true=>
    have hK:=h2 (by simp[hf]);have hte:c.t.enc=.agg [c.t.src.enc,Xea c.t.order]:=rfl;have ssz:c.t.src.enc.sz=6:=rfl;have hsl:(Qd fs xs).length=xs.length:=by simp[Qd]
    have hin:∀p∈Qd fs xs,inR c.t.src p:=fun p hp=>by
     unfold Qd at hp;obtain⟨i,him,rfl⟩:=Ua5.1 hp;have hil:i<fs.length:=by rw[<-hcn]; exact hi i him
     refine Xo2 hc _ ?_;rw[<-hfs];simp[List.getD,hil]
    have hstop:setO (setO (setO ob1 c.rb (.box 45 (.d (.list 4 (((Qd fs xs).map (Uw c.t.src)).map RRef.enc))))) c.cb (.box 46 (.d (.int .i64 0)))) c.lp (.lp 18 .ret c.slk)=Vq c (.list 4 (((Qd fs xs).map (Uw c.t.src)).map RRef.enc)) ob:=by
     have f2:c.lp ≠ c.rb:=by simpa using e2
     have f3:c.lp ≠ c.cb:=by simpa using e3
     unfold Vq;rw[<-hob1,Xdr f2,Xdr f3,Xca]
    have jn:∀(x y:Ob),Xc (setO (setO ob1 c.rb x) c.cb y) c.lp=some (.lp 18 .busy c.slk):=fun x y=>by
     rw[Ys (by intro e; have:=hx.hp; rw[<-e,hx.hc]at this; cases this),Ys (by intro e; have:=hx.hp; rw[<-e,hx.hr]at this; cases this)];exact g6
    have jc:∀(x:Ob),Xc (setO ob1 c.rb x) c.cb=some (.box 46 (.d (.int .i64 0))):=fun x=>by
     by_cases e:c.rb=c.cb
     ·have:=g4; rw[e,g5]at this; cases this
     ·rw[Ys e]; exact g5
    simp[hte,ssz];refine⟨rfl,ACall.giv (l:=[c.t.src.enc,.list 2 ((Qd fs xs).map fD)]) (ob':=(Xa ob1+2,.box 42 (.d d))::(Xa ob1+1,.gone)::(Xa ob1,.map ((Xeb (Qd fs xs)).map V8))::ob1) (by simp[hsl]) (PCall.acall (X6i hP hy (l:=Qd fs xs) (by rw[hsl]; omega) hin (.inl rfl) ?_))⟩;simp[g4,j4,j5,j6,jc,jn];rw[<-List.map_map,hstop,g7];simp only at hK;generalize hS:Vq c (.list 4 (((Qd fs xs).map (Uw c.t.src)).map RRef.enc)) ob=S at hK⊢;have hSf:Xa S=Xa ob:=by rw[<-hS]; simp[Vq]
    have hSn:∀kp,Xg (Xe (Xa ob) kp) S=true:=fun kp=>by
     rw[<-hS];exact U8 _ _ _ _ _ (Xl _ _ _ _ _ (Xl _ _ _ _ _ (hno kp) (by simp)) (by simp)) (by simp[CE.slk,hr',hc',hf',hq'])
    rw[<-hSf]at hSn⊢;exact⟨[],by simp,by simp[Xe]; exact hSn _,by simpa[Xe]using hK⟩
end
end Go.Proofs.YtolkimpelpnpbaaGreatDoor
namespace Go.Py
open Go Go.Ab Go.Lx Go.Sx
structure KP (ob ob':Xb):Prop where
 fr:Xa ob<=Xa ob'
 other:∀j,j<Xa ob->Xc ob' j=Xc ob j
 men:∀ids,Xg ids ob=true->(∀j,(Xc ob' j).isSome=true->ids j=false)->Xg ids ob'=true
structure XE0 (c:CE)(ob:Xb):Prop where
 hn:Xc ob c.nb=some (.box 3 (.d (.int .i64 c.n)))
 hp:Xc ob c.lp=some (.lp 18 .ready c.slk)
 hr:Xc ob c.rb=some (.box 45 (.d .nils))
 hc:Xc ob c.cb=some (.box 46 (.d (.int .i64 0)))
 hf:Xc ob c.fb=some (.box 66 (.d c.fd))
 hq:Xc ob c.pb=some (.box 71 (.d c.p.enc))
def CE.at3 (c:CE)(z:Nat):CE:={ c with yb:=z,lb:=z+1,eb:=z+2 }
def Xbw (c:CE)(ob:Xb):Xb:=
 (Xa ob+3,.arr 3 1 [])::(Xa ob+2,.box 136 (.fn 68 [] [.ptr (Xa ob) [],.ptr (Xa ob+1) [],.ptr c.nb [],.ptr (Xa ob+2) []]))::(Xa ob+1,.box 30 (.sl (Xa ob+3) 0))::(Xa ob,.box 135 (.hd true c.lp))::ob
theorem Xcb {c:CE}{ob:Xb}{j:Nat}(hj:j<Xa ob):Xc (Xbw c ob) j=Xc ob j:=by
 unfold Xbw;rw[Yt (by omega),Yt (by omega),Yt (by omega),Yt (by omega)]
theorem Yrw {c:CE}{ob:Xb}(h:XE0 c ob):XE (c.at3 (Xa ob)) (Xbw c ob) (Xa ob+3) []:=by
 have key:∀{j:Nat} {o:Ob},Xc ob j=some o->Xc (Xbw c ob) j=some o:=fun hj=>by rw[Xcb (Yb hj)]; exact hj
 refine⟨?_,?_,?_,key h.hn,?_,key h.hp,key h.hr,key h.hc,key h.hf,key h.hq⟩
 ·simp[Xbw,CE.at3]
 ·simp[Xbw,CE.at3]
 ·simp[Xbw,ixD]
 ·simp[Xbw,CE.at3]
theorem X8c {c:CE}{ob ob':Xb}{l:Nat}(h0:XE0 c ob)(h:LS (Xa ob+1) (Xbw c ob) ob' (Xa ob+3) l):KP ob ob':=by
 have hf:Xa (Xbw c ob)=Xa ob+4:=by
  have e1:¬Xa ob+1<=Xa ob:=by omega
  simp[Xbw]
 refine⟨by have:=h.fr; omega,fun j hj=>?_,fun ids h1 h2=>h.men ids ?_ h2⟩
 ·rw[h.other j (by omega) (by omega) (by omega),Xcb hj]
 ·have k:∀j,(Xc (Xbw c ob) j).isSome=true->ids j=false:=fun j hj=>h2 j (h.sub j hj);have k0:=k (Xa ob) (by simp[Xbw]);have k1:=k (Xa ob+1) (by simp[Xbw]);have k2:=k (Xa ob+2) (by simp[Xbw]);have k3:=k (Xa ob+3) (by simp[Xbw]);have k4:=k c.nb (by rw[Xcb (Yb h0.hn),h0.hn]; rfl);have k5:=k c.lp (by rw[Xcb (Yb h0.hp),h0.hp]; rfl);simp[Xbw,Xg,k0,k1,k2,k3,k4,k5,h1]
theorem KP.leave {ob0 ob:Xb}(h:KP ob0 ob)(hno:∀kp,Xg (Xe (Xa ob0) kp) ob0=true){K:Xb->Prop}{vs:List V}(hv:∀ids,V.mens ids vs=false)(hK:K ob):X6 (Xa ob0) K vs ob:=
 ⟨Uq ob,hv _,by rw[Yx _ _ _ fun _ h=>h]; exact h.men _ (hno _) fun j hj=>Wr hj,by rw[Yx _ _ _ fun _ h=>h]; exact hK⟩
theorem XE0.of_KP {c:CE}{ob ob':Xb}(h:XE0 c ob)(hk:KP ob ob'):XE0 c ob':=by
 have key:∀{j:Nat} {o:Ob},Xc ob j=some o->Xc ob' j=some o:=fun hj=>by rw[hk.other _ (Yb hj)]; exact hj
 exact⟨key h.hn,key h.hp,key h.hr,key h.hc,key h.hf,key h.hq⟩
theorem Xn9 {c:CE}{ob0 ob:Xb}{d:D}(h:KP ob0 ob)(hx:XE0 c ob)(hno:∀kp,Xg (Xe (Xa ob0) kp) ob0=true){K:Xb->Prop}{vs:List V}(hv:∀ids,V.mens ids vs=false)(hK:K (Vq c d ob)):X6 (Xa ob0) K vs (Vq c d ob):=by
 have hs:∀j,(Xc ob j).isSome=true->(Xc (Vq c d ob) j).isSome=true:=fun j hj=>by
  have key:∀{o:Xb} (k:Nat) (x:Ob),(Xc o j).isSome=true->(Xc (setO o k x) j).isSome=true:=fun {o} k x ho=>by
   by_cases e:k=j
   ·subst e; rw[Xau ho]; rfl
   ·rw[Ys e]; exact ho
  exact key _ _ (key _ _ (key _ _ hj))
 refine⟨Uq (Vq c d ob),hv _,?_,by rw[Yx _ _ _ fun _ h=>h]; exact hK⟩;rw[Yx _ _ _ fun _ h=>h];have hk:∀j,(Xc ob j).isSome=true->Xe (Xa ob0) (Uq (Vq c d ob)) j=false:=fun j hj=>Wr (hs j hj);refine U8 _ _ _ _ _ (Xl _ _ _ _ _ (Xl _ _ _ _ _ (h.men _ (hno _) hk) (by simp)) (by simp)) ?_;simp[CE.slk,hk c.rb (by rw[hx.hr]; rfl),hk c.cb (by rw[hx.hc]; rfl),hk c.fb (by rw[hx.hf]; rfl),hk c.pb (by rw[hx.hq]; rfl)]
end Go.Py
namespace Go.Proofs.YtolkimpelpnpbaaGreatDoor
open Go Go.Ab Go.Lx Go.Sx Go.Py
section
variable {P:Prg} (hP:P.p=Tryz.prog)
include hP
theorem Xrm {c:CE}{go:List Nat->Bool}{rD:List Nat->D}(hY:∀z,Xln P (c.at3 z) go rD)(hn:c.n<=1000){ob:Xb}(hx:XE0 c ob){K:Out->Xb->Prop}
  (h1:(Zx (Un c.n 0)).find? (fun s=>!go s)=none->∀ob',KP ob ob'->K (.ret (.tup [])) ob')
  (h2:∀s,(Zx (Un c.n 0)).find? (fun s=>!go s)=some s->∀ob',KP ob ob'->K (.ret (.tup [])) (Vq c (rD s) ob')) :
  ACall P 67 [.hd true c.lp,.ptr c.nb []] ob K:=by
 refine Xn hP mixed Y1y Yxb TOk.nil fun _ hno=>?_;have hn':(Xc ob c.nb).isSome=true:=by rw[hx.hn]; rfl
 have wn:IntKind.i64.wrap ((c.n:Int)+1)=(c.n:Int)+1:=IntWalk.i64_in _ (by omega);have hlen:(Un c.n 0).length=c.n:=by simp[Un]
 have hall:Zx (Un c.n 0)=Zw (Un c.n 0) 0 (c.n+1):=by unfold Zx; rw[hlen]
 rw[hall]at h1 h2;simp[Yof,hx.hn,hn',wn];rw[<-show Xbw c ob=(Xa ob+3,.arr 3 1 [])::(Xa ob+2,.box 136 (.fn 68 [] [.ptr (Xa ob) [],.ptr (Xa ob+1) [],.ptr c.nb [],.ptr (Xa ob+2) []]))::(Xa ob+1,.box 30 (.sl (Xa ob+3) 0))::(Xa ob,.box 135 (.hd true c.lp))::ob from rfl];refine ALoop.go (ι:=Xb×Nat×Nat) (fun x=>[(4,.ptr (Xa ob+2) []),(8,.d (.int .i64 ((c.n:Int)+1))),(9,.d (.int .i64 (x.2.2:Nat)))]) (fun x=>x.1)
  (fun x=>LS (Xa ob+1) (Xbw c ob) x.1 (Xa ob+3) x.2.1/\XE (c.at3 (Xa ob)) x.1 x.2.1 []/\x.2.2<=c.n+1/\(Zw (Un c.n 0) 0 (c.n+1)).find? (fun s=>!go s)=(Zw (Un c.n 0) x.2.2 (c.n+1-x.2.2)).find? (fun s=>!go s))
  (fun x=>c.n+1-x.2.2) (Xbw c ob,Xa ob+3,0) ⟨LS.refl _ _ _,Yrw hx,Ubg _,rfl⟩ (by simp) rfl ?_
 rintro⟨o1,l1,k⟩ ⟨hs,hx1,hk,hf⟩ R rn re rr rp;dsimp only at hs hx1 hk hf rn⊢;have hsn:∀kp,Xg (Xe (Xa (Xbw c ob)) kp) (Xbw c ob)=true:=fun kp=>by
  have hf4:Xa (Xbw c ob)=Xa ob+4:=by simp[Xbw]
  have b1:=Yb hx.hn;have b2:=Yb hx.hp;have hu:=Xp (l:=kp) 4 hno;rw[hf4];have q0:Xe (Xa ob+4) kp (Xa ob)=false:=V5 _ _ _ (by omega);have q1:Xe (Xa ob+4) kp (Xa ob+1)=false:=V5 _ _ _ (by omega);have q2:Xe (Xa ob+4) kp (Xa ob+2)=false:=V5 _ _ _ (by omega);have q3:Xe (Xa ob+4) kp (Xa ob+3)=false:=V5 _ _ _ (by omega);have q4:Xe (Xa ob+4) kp c.nb=false:=V5 _ _ _ (by omega);have q5:Xe (Xa ob+4) kp c.lp=false:=V5 _ _ _ (by omega);simp[Xbw,Xg,q0,q1,q2,q3,q4,q5,hu]
 by_cases hlt:k<c.n+1
 ·have g1:(k:Int)<(c.n:Int)+1:=by omega
  have he':Xc o1 (Xa ob+2)=some (.box 136 (.fn 68 [] [.ptr (Xa ob) [],.ptr (Xa ob+1) [],.ptr c.nb [],.ptr (Xa ob+2) []])):=hx1.he;obtain⟨m,hm⟩:∃m,c.n+1-k=m+1:=⟨c.n-k,by omega⟩
  have hm2:c.n+1-(k+1)=m:=by omega
  have hfa:(Zw (Un c.n 0) k (c.n+1-k)).find? (fun s=>!go s)=((Qf k (Un c.n 0)).find? (fun s=>!go s)).or ((Zw (Un c.n 0) (k+1) m).find? (fun s=>!go s)):=by
   rw[hm,Zw,List.find?_append]
  have hxn:XE0 c o1:=⟨hx1.hn,hx1.hp,hx1.hr,hx1.hc,hx1.hf,hx1.hq⟩
  simp[Xhl,g1,he',Xu3 hP];refine Xot hP (c:=c.at3 (Xa ob)) (hY _) hn k (fm:=0) hx1 (fun i hi=>by cases hi) (by simpa[CE.at3]using (by omega:k<=c.n)) (Ubg _) (fun hnone o2 l2 hs2 hx2=>?_) (fun s hsome o2 l2 hs2 hx2=>?_)
  ·have hnone':(Qf k (Un c.n 0)).find? (fun s=>!go s)=none:=by simpa[CE.at3]using hnone
   rw[hnone',Option.none_or]at hfa;have wk:IntKind.i64.wrap ((k:Int)+1)=(k:Int)+1:=IntWalk.i64_in _ (by omega);simp[Xhm];simp[Xqt,wk];have hs':=hs.trans hs2;have hkk:∀{j:Nat},(Xc o2 j).isSome=true->Xe (Xa o1) (Uq o2) j=false:=fun h=>Wr h;refine rn (Uq o2) (o2,l2,k+1) _ _ ⟨hs',hx2,by simp only; omega,by rw[hf,hfa]; simp only[hm2]⟩ (by simp only; omega) (by simp) (Yx _ _ _ fun _ h=>h) ?_ ?_
   ·have:=hkk (j:=Xa ob+2) (by have:=hx2.he; simp only[CE.at3]at this; rw[this]; rfl);simp[this]
   ·exact hs'.men _ (Uu hsn hs.fr) fun j hj=>hkk hj
  ·have hsome':(Qf k (Un c.n 0)).find? (fun s=>!go s)=some s:=by simpa[CE.at3]using hsome
   rw[hsome',Option.some_or]at hfa;simp[Xhm];refine rr _ _ ?_;simp;have hkp:=X8c hx (hs.trans hs2);have hK:=h2 s (hf.trans hfa) o2 hkp;have hS:Vq (c.at3 (Xa ob)) (rD ([]++s)) o2=Vq c (rD s) o2:=rfl;exact Xn9 hkp (hx.of_KP hkp) hno (by simp) hK
 ·have g1:¬(k:Int)<(c.n:Int)+1:=by omega
  have hk0:k=c.n+1:=by omega
  subst hk0;rw[Nat.sub_self]at hf;simp[Xhl,g1];refine re _ _ _ ?_;simp;have hkp:=X8c hx hs;exact hkp.leave hno (by simp) (h1 (hf.trans rfl) o1 hkp)
end
end Go.Proofs.YtolkimpelpnpbaaGreatDoor
namespace Go.Ab
open Go
theorem Xzn {w:World}{ρ ρ':Env}(e:own ρ=own ρ'){l:List D}{u:Value}(h:(Wf (l.map V.d)).rep w ρ u):(Wf (l.map V.d)).rep w ρ' u:=by
 have one:∀(d:D) (u:Value),(V.d d).rep w ρ u->(V.d d).rep w ρ' u:=fun d u h=>by
  simp only[V.rep,V.repC]at h⊢;rw[<-e]; exact h
 match l with
 | []=>
  simp only[Ubm,Wf,V.rep,V.repC,V.reps]at h⊢;exact h
 | [x]=>exact one x u h
 | x::y::r=>
  simp only[Uam,Wf,V.rep,V.repC]at h⊢;have key:∀{us:List Value},V.reps w ρ ((x::y::r).map V.d) us->V.reps w ρ' ((x::y::r).map V.d) us:=fun {us} h=>by
   rw[Xbj]at h⊢;rw[<-e]; exact h
  rcases h with h | ⟨h,ds,h1,us,h2,h3⟩ | ⟨h,us,h2,h3⟩
  ·exact .inl h
  ·exact .inr (.inl ⟨h,ds,h1,us,h2,key h3⟩)
  ·exact .inr (.inr ⟨h,us,h2,key h3⟩)
theorem PCall.of_gl {P Q:Prg}(hp:Q.p=P.p)(hg:Q.g.g=P.g.g){f:Nat}{ds:List D}{ob:Xb}{K:V->Prop}(h:PCall Q f (ds.map .d) [] fun v=>(∃l:List D,v=Wf (l.map V.d))/\K v):PCall P f (ds.map .d) ob K:=by
 refine⟨fun w ρ args hO hgl hr=>?_⟩;let ρ0:Env:=⟨fun _=>none,own ρ,Q.g⟩
 have hno:∀b,¬Xbr ρ0 b:=fun b ⟨_,_,h,_⟩=>by cases h
 have ow0:own ρ0=own ρ:=by
  funext b;exact propext ⟨fun h=>h.elim (fun h=>(hno b h).elim) id,fun h=>.inr h⟩
 have hlt:∀b,own ρ b->b<w.heap.size:=fun b h=>h.elim (fun ⟨_,_,h1,h2⟩=>Wl hO h1 h2) (hO.xlt b);have hO0:OM w ρ0 []:=⟨fun j x hx=>(by simp[Xc]at hx),fun j o hj=>(by cases hj),fun i j o p b hi=>(by cases hi),hlt,fun b o hb=>by
  have hb':ρ.gl.g b=some o:=by
   have:Q.g.g b=some o:=hb;rw[hgl,<-hg]; exact this
  exact⟨(hO.glb b o hb').1,by rw[ow0]; exact (hO.glb b o hb').2⟩,fun b hb=>absurd hb (hno b),trivial⟩
 have hr0:V.reps w ρ0 (ds.map .d) args:=by
  rw[Xbj]at hr⊢;rw[ow0]; exact hr
 have:=h.run w ρ0 args hO0 rfl hr0;rw[hp]at this;refine this.mono fun e w' ⟨v,u,⟨⟨l,hv⟩,hk⟩,he,hrep,hx⟩=>⟨v,u,hk,he,?_,hx⟩;subst hv;exact Xzn ow0 hrep
theorem Xn4 {P:Prg}{p:Program}(hP:P.p=p)(hm:p.follows .mixedOrders=true){f:Nat}{s:S}{rs:List RV}{ds:List D}{ob0:Xb}{K:V->Prop}{fs:List Nat}{s2:S2}{T:Tab}(hc:Uc p f ds.length s rs=true)(hl:s.lift fs=some s2)(hT:TOk P T)
  (h:Yr P T s2 (Uv rs K) (Vr 0 (ds.map .d)) []):PCall P f (ds.map .d) ob0 K:=by
 subst hP;exact V1 hm hc (S.lift_sound hT s hl (fun _ _ _ h=>h) h)
end Go.Ab
namespace Go.Py
open Go Go.Ab Go.Lx Go.Sx
theorem Xh1 {α β:Type}(f:α->β):∀(k:Nat) (l:List α),Qf k (l.map f)=(Qf k l).map (List.map f)
 | 0,l=>by simp[Qf]
 | k+1,[]=>by simp[Qf]
 | k+1,a::l=>by
  simp only[Uam,Qf,Xh1 f k l,Xh1 f (k+1) l,Uca,List.map_map];rfl
theorem Xfn {α β:Type}(f:α->β)(l:List α):∀(m n:Nat),Zw (l.map f) n m=(Zw l n m).map (List.map f)
 | 0,n=>by simp[Zw]
 | m+1,n=>by simp[Zw,Xh1,Xfn f l m (n+1)]
theorem Yat (fs:List (Int×Int)):(Un fs.length 0).map (fun i=>fs.getD i (0,0))=fs:=by
 apply List.ext_getElem
 ·simp[Un]
 ·intro i h1 h2;simp[Un,List.getD,h2]
theorem Xlw (p:RPurpose)(q:RQ):Vu p q=((Zx (Un (Xt q).length 0)).find? (fun s=>!(!Xap p q (Qd (Xt q) s)))).map (Qd (Xt q)):=by
 have h:Zx (Xt q)=(Zx (Un (Xt q).length 0)).map (Qd (Xt q)):=by
  have hl:(Un (Xt q).length 0).length=(Xt q).length:=by simp[Un]
  unfold Zx;rw[hl]
  conv=>lhs; rw[<-Yat (Xt q)]
  rw[Xfn];congr 1;simp[Un]
 unfold Vu;rw[h,List.find?_map];congr 2;funext s;simp
end Go.Py
namespace Go.Proofs.YtolkimpelpnpbaaGreatDoor
open Go Go.Ab Go.Lx Go.Sx Go.Py
set_option maxHeartbeats 2000000
section
variable {P:Prg} (hP:P.p=Tryz.prog)
include hP
theorem X9r:Xm P.p 67=true:=by rw[hP]; kernel_rfl
def Zb (y:RSrc)(q:RQ):List RRef×Int:=if Yi y q then (match y.purposes[q.purpose.toNat]? with
 | some p=>(match Vu p q with | some s=>(s.map (Uw y),0) | none=>([],260))
 | none=>([],260)) else ([],210)
theorem Xuw (hLF:Qs P)(hL:X8s P){t:RTab}(hy:t.src.small){q:RQ}(hq:q.small){K:V->Prop}(h:∀d:D,(d=.list 4 ((Zb t.src q).1.map RRef.enc)\/(Zb t.src q).1=[]/\d=.nils)->K (.tup [.d d,.d (.int .i64 (Zb t.src q).2)])):PCall P 18 [.d t.enc,.d q.enc] [] K:=by
 have hts:t.enc.shape.size=7:=rfl;have qs:q.enc.shape.size=17:=by rw[RQ.enc,D.shape]; simp[D.shapes]
 have tz:t.enc.sz=7:=rfl;have qz:q.enc.sz=17:=by rw[<-D.size_shape]; exact qs
 refine Xn4 hP mixed (ds:=[t.enc,q.enc]) Y1x Yxa TOk.nil ?_;simp[Yoe,hts,qs,tz,qz];refine⟨rfl,rfl,rfl,rfl,Xf2 hP hy hq ?_⟩;cases hc:Yi t.src q with
 | false=>
  have e:Zb t.src q=([],210):=by unfold Zb; rw[Ubo (by simp[hc])]
  rw[e]at h;have:=h .nils (.inr ⟨rfl,rfl⟩);simp[Vj,hc];exact this
 | true=>
  obtain⟨n,hn,e1,_⟩:=Zo hc;obtain⟨_,al0,_⟩:=Z7 hc;have al:=Uj q;have n0:¬(n:Int)<0:=by omega
  have hr:Zb t.src q=(match Vu t.src.purposes[n] q with | some s=>(s.map (Uw t.src),0) | none=>([],260)):=by
   unfold Zb;rw[Uby hc,e1];simp only[Int.toNat_natCast,Ubf hn]
  rw[hr]at h;have hp:=hy.may _ (Uba hn);have fin:∀(fb pb:Nat) (ob:Xb) (d:D),(d=.list 2 ((Xt q).map fD)\/Xt q=[]/\d=.nils)->Xa ob=4->Xc ob fb=some (.box 66 (.d d))->Xc ob pb=some (.box 71 (.d t.src.purposes[n].enc))->Xc ob 0=some (.box 45 (.d .nils))->Xc ob 1=some (.box 46 (.d (.int .i64 0)))->
    Yr P [] Xhk (Uv [RV.c 4 1 false,RV.c 5 1 false] K) [(2,V.d t.enc.ref),(3,V.d q.enc.ref),(4,V.ptr 0 []),(5,V.ptr 1 []),(7,V.ptr fb []),(8,V.ptr pb [])] ob:=by
   intro fb pb ob d hd hf4 hfb hpb hrb hcb;have hlen:Vy (.d d)=.d (.int .i64 (Xt q).length)/\∀ob,Ue ob (.d d):=by
    rcases hd with rfl | ⟨e,rfl⟩
    ·simp
    ·simp[e]
   have hdz:d.shape.size=1/\(match V.d d with | V.d (D.agg xs)=>true | V.agg xs=>true | x=>false)=false:=by
    rcases hd with rfl | ⟨_,rfl⟩<;>simp[D.shape]
   simp[Xhk,hfb];refine⟨⟨hdz,hlen.2 _⟩,?_⟩;rw[hlen.1];refine Xn hP mixed Y6p Zal TOk.nil fun _ hno=>?_;simp[Y77];have q4:Xe 4 [4] 4=false:=by simp[Xe]
   refine⟨[4],by simp[hf4,q4],?_,?_⟩
   ·have:=noMenO_mono (p:=Xe 4 [4]) (q:=Xe 4 []) (fun j hj=>by simp[Xe]at hj⊢; omega) ob (by have:=hno []; rwa [hf4]at this);rw[hf4]at hno;have hd4:=Xev ob [4];rw[hf4]at hd4;simp[hf4,q4,hd4,this]
   ·have hd4:=Xev ob [4];rw[hf4]at hd4;simp[hf4,q4,hd4];simp[Xqr,X9r hP,hf4];refine⟨hL,?_⟩;have b1:=Yb hfb;have b2:=Yb hpb;have hx0:XE0 ⟨0,0,4,0,5,0,1,fb,pb,(Xt q).length,t,q,t.src.purposes[n],d⟩ ((5,.lp 18 .ready [(2,V.d t.enc.ref),(3,V.d q.enc.ref),(4,V.ptr 0 []),(5,V.ptr 1 []),(7,V.ptr fb []),(8,V.ptr pb [])])::(4,.box 3 (.d (.int .i64 (Xt q).length)))::ob):=by
     refine⟨by simp,by simp[CE.slk],by simpa using hrb,by simpa using hcb,?_,?_⟩
     ·rw[Yt (by simp only; omega),Yt (by simp only; omega)]; exact hfb
     ·rw[Yt (by simp only; omega),Yt (by simp only; omega)]; exact hpb
    have hfd:=Xlw t.src.purposes[n] q;refine Xrm hP (c:=⟨0,0,4,0,5,0,1,fb,pb,(Xt q).length,t,q,t.src.purposes[n],d⟩) (go:=fun xs=>!Xap t.src.purposes[n] q (Qd (Xt q) xs)) (rD:=fun xs=>.list 4 (((Qd (Xt q) xs).map (Uw t.src)).map RRef.enc))
     (fun z=>Yfz hP hLF hL (c:=CE.at3 ⟨0,0,4,0,5,0,1,fb,pb,(Xt q).length,t,q,t.src.purposes[n],d⟩ z) (fs:=Xt q) hc hy hq hp rfl rfl hd) (by simp only; omega) hx0 (fun hnone ob' hk=>?_) (fun s hsome ob' hk=>?_)
    ·have hx:=hx0.of_KP hk;have k1:=hx.hp;have k2:=hx.hr;have k3:=hx.hc;simp only at hnone k1 k2 k3;rw[hnone]at hfd;rw[show Vu t.src.purposes[n] q=none from hfd]at h;have hF:=h .nils (.inr ⟨rfl,rfl⟩);have i1:(Xc ob' 5).isSome=true:=by rw[k1]; rfl
     have i2:(Xc ob' 0).isSome=true:=by rw[k2]; rfl
     have i3:(Xc ob' 1).isSome=true:=by rw[k3]; rfl
     simp[k1,Xqs,k2,k3,i1,i2,i3];exact hF
    ·have hx:=hx0.of_KP hk;have k1:=hx.hp;have k2:=hx.hr;have k3:=hx.hc;simp only at hsome k1 k2 k3;rw[hsome]at hfd;rw[show Vu t.src.purposes[n] q=some (Qd (Xt q) s) from hfd]at h;have hF:=h _ (.inl rfl);have i1:(Xc ob' 5).isSome=true:=by rw[k1]; rfl
     have i2:(Xc ob' 0).isSome=true:=by rw[k2]; rfl
     have i3:(Xc ob' 1).isSome=true:=by rw[k3]; rfl
     simp[Vq,k1,k2,k3,i1,i2,i3,CE.slk]at hF⊢;exact hF
  have hte:t.enc=.agg [t.src.enc,Xea t.order]:=rfl;have hqe:q.enc=.agg [.str q.name,iD q.purpose,.list 4 (q.vars.map RVar.enc),q.form.enc]:=rfl;have hq':D.agg [.str q.name,iD n,.list 4 (q.vars.map RVar.enc),q.form.enc]=q.enc:=by rw[hqe,e1]
  have ht':D.agg [D.agg [Xq t.src.issuers,D.list 5 (List.map RUnit.enc t.src.units),D.list 6 (List.map RSchema.enc t.src.schemas),D.list 5 (List.map RRule.enc t.src.rules),D.list 5 (List.map RConvert.enc t.src.converts),D.list 3 (List.map RPurpose.enc t.src.purposes)],Xea t.order]=t.enc:=rfl;have cA:∀{ob:Xb} {K:V->Prop},(∀d:D,(d=.list 2 ((Xt q).map fD)\/Xt q=[]/\d=.nils)->K (.d d))->PCall P 28 [.d q.enc] ob K:=fun h=>Xls hP hLF hq (by omega) h;have sD:∀d:D,(d=.list 2 ((Xt q).map fD)\/Xt q=[]/\d=.nils)->(V.d d).shape=Sh.leaf/\(V.d d).sto=true:=fun d hd=>by
   rcases hd with rfl | ⟨_,rfl⟩<;>simp[D.shape,V.sto]
  simp[Vj,hc,hte,hqe,RSrc.enc,e1,n0,hn];rw[hq',ht']
  repeat' with_reducible refine And.intro ?_ ?_
  all_goals first | rfl | (refine cA (fun d hd=>?_)) | skip
  all_goals (try (obtain⟨s1,s2⟩:=sD d hd))
  all_goals repeat' with_reducible refine And.intro ?_ ?_
  all_goals first | rfl | exact s1 | exact s2 | exact fin 2 3 _ d hd rfl rfl rfl rfl rfl | exact fin 3 2 _ d hd rfl rfl rfl rfl rfl | skip
end
end Go.Proofs.YtolkimpelpnpbaaGreatDoor
namespace Go.Proofs.YtolkimpelpnpbaaGreatDoor
open Go Go.Ab Go.Lx Go.Sx Go.Py
def X61 (p:Program)(tag:Nat)(qs:Array Nat)(N:Nat)(ca cb:Code):Prop:=
 (tag=204/\((qs.toList==[7])&&[7].all (fun k=>decide (k<N))&&S.chk p N ca ir204900&&S.chk p N cb ir204901&&ir204900.noR&&ir204901.noR)=true)\/
 (tag=18/\((qs.toList==[34])&&[34].all (fun k=>decide (k<N))&&S.chk p N ca U6&&S.chk p N cb U7&&U6.noR&&U7.noR)=true)
theorem Ym0 (p:Program)(g:Nat->Option Obj):Qs ⟨p,⟨g,X61 p⟩⟩:=fun qs N ca cb=>by
 show X61 p _ qs N ca cb↔_;unfold X61;exact⟨fun h=>by
  rcases h with⟨_,h⟩ | ⟨e,_⟩
  ·exact h
  ·exact absurd e (by decide),fun h=>.inl ⟨rfl,h⟩⟩
theorem Ymz (p:Program)(g:Nat->Option Obj):X8s ⟨p,⟨g,X61 p⟩⟩:=fun qs N ca cb=>by
 show X61 p _ qs N ca cb↔_;unfold X61;exact⟨fun h=>by
  rcases h with⟨e,_⟩ | ⟨_,h⟩
  ·exact absurd e (by decide)
  ·exact h,fun h=>.inr ⟨rfl,h⟩⟩
section
variable {P:Prg} (hP:P.p=Tryz.prog)
include hP
theorem X10 {t:RTab}(hy:t.src.small){q:RQ}(hq:q.small){ob:Xb}{K:V->Prop}(h:∀d:D,(d=.list 4 ((Zb t.src q).1.map RRef.enc)\/(Zb t.src q).1=[]/\d=.nils)->K (.tup [.d d,.d (.int .i64 (Zb t.src q).2)])):PCall P 18 [.d t.enc,.d q.enc] ob K:=
 PCall.of_gl (P:=P) (Q:=⟨P.p,⟨P.g.g,X61 P.p⟩⟩) (ds:=[t.enc,q.enc]) rfl rfl (Xuw (P:=⟨P.p,⟨P.g.g,X61 P.p⟩⟩) hP (Ym0 _ _) (Ymz _ _) hy hq fun d hd=>⟨⟨[d,.int .i64 (Zb t.src q).2],rfl⟩,h d hd⟩)
theorem X9e {t:RTab}(ht:t.src.small)(ho:t.order.length<=9223372036854775807){q:RQ}(hq:q.small)(hnm:q.form.nm<=1000000){ob:Xb}{K:V->Prop}(h:∀b:Bool,(b=true->q.vars.length<=6/\q.form.atoms.length<=5)->K (.d (.bool b))):PCall P 15 [.d t.enc,.d q.enc] ob K:=by
 refine Xh hP mixed (ds:=[t.enc,q.enc]) Zfa Zab TOk.nil ?_;have hts:t.enc.shape.size=7:=rfl;have qs:q.enc.shape.size=17:=by rw[RQ.enc,D.shape]; simp[D.shapes]
 have tz:t.enc.sz=7:=rfl;have qz:q.enc.sz=17:=by rw[<-D.size_shape]; exact qs
 simp[Y4i,hts,qs,tz,qz];refine⟨rfl,rfl,rfl,rfl,X9d hP ht ho hq (fun few hfew=>?_)⟩;cases few with
 | false=>
  have:=h false (by simp);simp;exact this
 | true=>
  simp[hts,qs,tz,qz];refine⟨rfl,Yfk hP hnm ?_⟩;by_cases h5:q.form.atoms.length<=5
  ·have hF:=h true (fun _=>⟨hfew rfl,h5⟩);have h5':(q.form.atoms.length:Int)<=5:=by omega
   simp[h5'];exact hF
  ·have hF:=h false (by simp);have h5':¬(q.form.atoms.length:Int)<=5:=by omega
   simp[h5'];exact hF
end
end Go.Proofs.YtolkimpelpnpbaaGreatDoor
namespace Go.Proofs.YtolkimpelpnpbaaGreatDoor
open Go Go.Ab
def Yor:Nat:=0x14655032906ab284305299d4c7f99a6342c5934055504332c2e2c4203450204f11c322cb001312c302c0433242f2c42311ff4b0012c2c2b042e242a422c1f05329d4a3020052d6a4a2b20828806047c07ae000b45d127592705550426230d0325042442489205241e0562
def n20:Nat:=0x17f742ea669055503a4465503684262037f99a62259225503217e1b082009001b3d1f1d02260e001b3d1e010e4b1b3d8555001b3d1c010e4b1b3d02cb001b3d1a00197e120818150c8b123d1759123d16b6123d554a00123d1459123d13b6123d4a4a00123d1100107e0b080f9e8b0b3d0eb60b3d7c48000b3d0cb60b3d8748000b3d0a0009070ce5eb410642484007201d62434a76422a11002aecd7
def Y3h:S:=zS [(zS [] Yor)] n20
theorem Zfc:Xj Tryz.prog 20 2 Y3h [.t 4]=true:=by kernel_rfl
def Yos:Nat:=0x14655032806ab274305289d4c7f99a6342c5934055504332c09322cf402260e312c01f0302c2f2c0e32242e2c42301f2c2c01f02b2a0e2d2429422b1f05319d4a2f20052c6a4a2a200c828806047c07ae000c45d126592605550425220d0324042342489205231e0562
def n38:Nat:=0x17f742ea669055503a4465503684262037f99a62159215503207e19081f1c0c8b193d1e59193d1db6193d554a00193d1b59193d1ab6193d4a4a00193d1800177e12081614437045020585704502058543f11c00123d15010b4b123d855500123d13010b4b123d02cb00123d1100107e0b080f9e8b0b3d0eb60b3d7c48000b3d0cb60b3d8748000b3d0a0009070ce5eb410642484007201c62434a764228110028ecd7
def Y3l:S:=zS [(zS [] Yos)] n38
theorem Zfg:Xj Tryz.prog 38 2 Y3l [.t 4]=true:=by kernel_rfl
end Go.Proofs.YtolkimpelpnpbaaGreatDoor
namespace Go.Proofs.YtolkimpelpnpbaaGreatDoor
open Go Go.Ab
end Go.Proofs.YtolkimpelpnpbaaGreatDoor
namespace Go.Sx
open Go Go.Ab Go.Lx
end Go.Sx
namespace Go.Proofs.YtolkimpelpnpbaaGreatDoor
open Go Go.Ab Go.Lx Go.Sx
section
variable {P:Prg} (hP:P.p=Tryz.prog)
include hP
end
end Go.Proofs.YtolkimpelpnpbaaGreatDoor
namespace Go.Proofs.YtolkimpelpnpbaaGreatDoor
open Go Go.Ab
end Go.Proofs.YtolkimpelpnpbaaGreatDoor
namespace Go.Proofs.YtolkimpelpnpbaaGreatDoor
open Go Go.Ab
end Go.Proofs.YtolkimpelpnpbaaGreatDoor
namespace Go.Py
open Go Go.Ab Go.Lx Go.Sx
theorem RQ.enc_sh (q:RQ):q.enc.shape=qSh:=by simp[RQ.enc,D.shape,D.shapes]
theorem X6x {d:D}{q:RQ}(h:D.le d q.enc):d.shape=qSh:=by rw[<-Jo h,RQ.enc_sh]
theorem X6w {d:D}{q:RQ}(h:D.le d q.enc):(V.d d).isAgg=true:=by
 have:=h.same.2;cases d<;>first | rfl | (exfalso; revert this; simp[RQ.enc,D.isAgg])
end Go.Py
namespace Go.Proofs.YtolkimpelpnpbaaGreatDoor
open Go Go.Ab Go.Lx Go.Sx Go.Py
section
variable {P:Prg} (hP:P.p=Tryz.prog) (hsane:∀{ob:Xb} {K:V->Prop},K (.d (.bool true))->PCall P 8 [] ob K)
include hP hsane
end
end Go.Proofs.YtolkimpelpnpbaaGreatDoor
namespace Go.Py
open Go Go.Ab Go.Lx Go.Sx
def Wi {α:Type}(p:Nat->Bool):List α->Nat->List α
 | [],_=>[]
 | a::r,i=>if p i then a::Wi p r (i+1) else Wi p r (i+1)
theorem Xbh {α:Type}(p:Nat->Bool):∀(a b:List α) (i:Nat),Wi p (a++b) i=Wi p a i++Wi p b (i+a.length)
 | [],b,i=>by simp[Wi]
 | x::a,b,i=>by
  simp only[List.cons_append,Wi,Xbh p a b (i+1),List.length_cons];rw[show i+1+a.length=i+(a.length+1) by omega];split<;>simp
theorem Xso {α:Type}(p:Nat->Bool)(l:List α)(k:Nat)(hk:k<l.length):Wi p (l.take (k+1)) 0=Wi p (l.take k) 0++(if p k then[l[k]] else[]):=by
 rw[Ubj hk,Xbh];have:(l.take k).length=k:=by simp; omega
 rw[this,Ub6,Wi,Wi]
theorem Xkx {α β:Type}(f:α->β)(p:Nat->Bool):∀(l:List α) (i:Nat),Wi p (l.map f) i=(Wi p l i).map f
 | [],_=>rfl
 | a::r,i=>by
  simp only[Uam,Wi,Xkx f p r (i+1)];split<;>simp
theorem Jy {α:Type}(p:Nat->Bool):∀(l:List α) (i:Nat),(Wi p l i).Sublist l
 | [],_=>by simp[Wi]
 | a::r,i=>by
  simp only[Wi];split
  ·exact (Jy p r (i+1)).cons_cons a
  ·exact (Jy p r (i+1)).cons a
def Xte (m:Nat)(i:Nat):Bool:=Xf0 BinOp.and IntKind.i64 ((m:Int).fdiv (2 ^ min i IntKind.i64.bits)) 1==1
end Go.Py
namespace Go.Proofs.YtolkimpelpnpbaaGreatDoor
open Go Go.Ab Go.Lx Go.Sx Go.Py
section
variable {P:Prg} (hP:P.p=Tryz.prog) (hsane:∀{ob:Xb} {K:V->Prop},K (.d (.bool true))->PCall P 8 [] ob K)
include hP hsane
theorem Jv (hL:Qs P){t:RTab}(hy:t.src.small)(ho:t.order.length<=9223372036854775807){q:RQ}(hq:q.small)(hnm:q.form.nm<=1000000){ob:Xb}{K:V->Prop}(h:K (.d (.bool true))):PCall P 5 [.d t.enc,.d q.enc] ob K:=by
 have hts:t.enc.shape.size=7:=rfl;have hqs:q.enc.shape.size=17:=by rw[RQ.enc_sh]; rfl
 have tz:t.enc.sz=7:=rfl;have qz:q.enc.sz=17:=by rw[<-D.size_shape,RQ.enc_sh]; rfl
 have hqz:qSh.size=17:=rfl;have zs:qSh=zQD.shape:=rfl;refine Xh hP mixed (ds:=[t.enc,q.enc]) ok5 lf5 TOk.nil ?_;simp[lt5,hts,hqs,tz,qz];refine hsane ?_;simp[hts,hqs,tz,qz];refine⟨rfl,rfl,rfl,rfl,X9e hP hy ho hq hnm (fun few hfew=>?_)⟩;cases few with
 | false=>simp; exact h
 | true=>
  obtain⟨hvl,ha5⟩:=hfew rfl;have al:=Uj q;simp[hts,hqs,tz,qz];refine⟨rfl,rfl,rfl,rfl,X1z hP hL hy hq (fun d1 h1=>?_)⟩;simp[hts,hqs,tz,qz];refine⟨rfl,rfl,rfl,rfl,X10 hP hy hq (fun d2 h2=>?_)⟩;cases hc:Yi t.src q with
  | false=>
   have a1:Ui t.src q=([],210):=by unfold Ui; rw[Ubo (by simp[hc])]
   have a2:Zb t.src q=([],210):=by unfold Zb; rw[Ubo (by simp[hc])]
   rw[a1]at h1⊢;rw[a2]at h2⊢;have l1:Vy (.d d1)=.d (.int .i64 0)/\∀ob,Ue ob (.d d1):=by
    rcases h1 with rfl | ⟨_,rfl⟩<;>simp
   have l2:Vy (.d d2)=.d (.int .i64 0)/\∀ob,Ue ob (.d d2):=by
    rcases h2 with rfl | ⟨_,rfl⟩<;>simp
   have w0:IntKind.i64.wrap 0=0:=rfl;simp[l1.1,l2.1,l1.2,l2.2,w0];exact h
  | true=>
   obtain⟨n,hn,e1,_⟩:=Zo hc;have a1:Ui t.src q=((Xt q).map (Uw t.src),0):=by unfold Ui; rw[Uby hc]
   have a2:Zb t.src q=(match Vu t.src.purposes[n] q with | some s=>(s.map (Uw t.src),0) | none=>([],260)):=by
    unfold Zb;rw[Uby hc,e1];simp only[Int.toNat_natCast,Ubf hn]<;>(generalize Vu t.src.purposes[n] q=z;cases z<;>rfl)
   rw[a1]at h1⊢;rw[a2]at h2⊢;simp only at h1;have hfl:(Xt q).length<=10:=by omega
   have l1:Vy (.d d1)=.d (.int .i64 (Xt q).length)/\∀ob,Ue ob (.d d1):=by
    rcases h1 with rfl | ⟨e,rfl⟩
    ·simp
    ·have:Xt q=[]:=by simpa using e
     simp[this]
   have loop:∀(most:Int) (ob':Xb),(∀ids,Xg ids ob'=true)->(∀s,s.Sublist (Xt q)->(s.length:Int)<=most->Xap t.src.purposes[n] q s=false)->
     Yr P [] Xx1 (Uv [RV.t 4] K) [(2,.d (.ref t.enc)),(3,.d (.ref q.enc)),(5,.d d1),(9,.d (.int .i64 most))] ob':=by
    intro most ob' hm hmin;simp[Xx1,l1.1,l1.2];obtain⟨M,hM,hM2⟩:∃M:Nat,IntKind.i64.wrap (2 ^ min (Xt q).length IntKind.i64.bits)=(M:Int)/\M<=1024:=by
     have hb:min (Xt q).length IntKind.i64.bits=(Xt q).length:=Ua8 (by simp[IntKind.bits]; omega);have h2:(2:Nat) ^ (Xt q).length<=2 ^ 10:=Nat.pow_le_pow_right (by decide) hfl;have h3:((2:Int) ^ (Xt q).length)=((2 ^ (Xt q).length:Nat):Int):=by push_cast; rfl
     rw[hb,h3];generalize (2:Nat) ^ (Xt q).length=Z at h2;exact⟨Z,IntWalk.i64_in _ (by omega),h2⟩
    rw[hM];have rs:∀r:RRef,r.enc.shape.size=4:=fun _=>rfl;have rz:∀r:RRef,r.enc.sz=4:=fun _=>rfl;generalize hB:(Xt q).map (Uw t.src)=B at h1;have hBl:B.length=(Xt q).length:=by rw[<-hB]; simp
    refine ALoop.upto M (fun k=>[(2,.d (.ref t.enc)),(3,.d (.ref q.enc)),(5,.d d1),(9,.d (.int .i64 most)),(76,.d (.int .i64 M)),(77,.d (.int .i64 k))]) (fun _=>ob') (fun _=>True) trivial (by simp) (by simp) ?_ ?_
    ·intro k hk _ R rn re rr rp;have wr:IntKind.i64.wrap ((k:Int)+1)=(k:Int)+1:=IntWalk.i64_in _ (by omega);simp[Xxy,hk,l1.1,l1.2];refine ALoop.upto B.length (fun i=>[(2,.d (.ref t.enc)),(3,.d (.ref q.enc)),(5,.d d1),(9,.d (.int .i64 most)),(12,.d (.int .i64 k)),(13,.sl (Xa ob') (Wi (Xte k) (B.take i) 0).length),(76,.d (.int .i64 M)),(77,.d (.int .i64 k)),(80,.d d1),(81,.d (.int .i64 B.length)),(82,.d (.int .i64 i))])
      (fun i=>(Xa ob',.arr 56 4 ((Wi (Xte k) (B.take i) 0).map RRef.enc))::ob') (fun _=>True) trivial (by simp[Wi,hBl]) (by simp[Wi]) ?_ ?_
     ·intro i hi _ R2 rn2 re2 rr2 rp2;have wi:IntKind.i64.wrap ((i:Int)+1)=(i:Int)+1:=IntWalk.i64_in _ (by omega);have hd1:d1=.list 4 (B.map RRef.enc):=by
       rcases h1 with h1 | ⟨e,_⟩
       ·exact h1
       ·rw[e]at hi; simp at hi
      have hst:=Xso (Xte k) B i hi;rw[hd1]at rn2⊢;have hpl:(Wi (Xte k) (B.take i) 0).length<=10:=by
       have h1:=(Jy (Xte k) (B.take i) 0).length_le;simp only[Ua7]at h1;omega
      have hbp:Xte k i=(Xf0 BinOp.and IntKind.i64 ((k:Int).fdiv (2 ^ min i IntKind.i64.bits)) 1==1):=rfl;simp[Xxx,hi,rs,rz];refine⟨rfl,rfl,fun hbit=>⟨rfl,rfl,by omega,?_⟩,fun hbit=>?_⟩
      ·have hbt:Xte k i=true:=by rw[hbp]; simpa using hbit
       rw[hbt,Uby rfl]at hst;simp[Xx0,wi];refine rn2 [] _ _ trivial (by rw[hst]; simp) (by rw[hst]; simp[Xe]) (by simp[Xe]) ?_;simp[Xe]; exact hm _
      ·have hbf:Xte k i=false:=by rw[hbp]; simpa using hbit
       rw[hbf,Ubo (by simp),Ub4]at hst;simp[Xx0,wi];refine rn2 [] _ _ trivial (by rw[hst]; simp) (by rw[hst]; simp[Xe]) (by simp[Xe]) ?_;simp[Xe]; exact hm _
     ·intro _ R2 re2 rr2 rp2;simp[Xxx];refine re2 _ _ _ ?_;simp[hts,hqs,tz,qz,wr];have hsel:Wi (Xte k) B 0=(Wi (Xte k) (Xt q) 0).map (Uw t.src):=by rw[<-hB,Xkx]
      have hsub:=Jy (Xte k) (Xt q) 0;rw[hsel];generalize Wi (Xte k) (Xt q) 0=sel at hsub⊢;have hsl:=hsub.length_le;refine⟨fun _=>?_,fun hle=>?_⟩
      ·simp[Xqo,wr];refine rn [] _ _ trivial (by simp) (by simp[Xe]) (by simp[Xe]) ?_;exact hm _
      ·refine⟨rfl,rfl,rfl,rfl,ACall.giv (l:=[t.enc,q.enc,.list 4 ((sel.map (Uw t.src)).map RRef.enc)]) (ob':=(Xa ob',.gone)::ob') (by simp) (PCall.acall (Xiu hP hy hq (l:=sel.map (Uw t.src)) (by simp; omega) (fun d hd=>?_)))⟩;rw[zo];have hs:=X6x hd;have hag:=X6w hd;have hmd:(match V.d d with | V.d (D.agg xs)=>true | V.agg xs=>true | x=>false)=true:=by
        cases d<;>first | rfl | (revert hag; simp[V.isAgg])
       have dz:d.sz=17:=by rw[<-D.size_shape,hs]; rfl
       have hk2:We q (Ur (sel.map (Uw t.src)))=We q sel:=Xar (Xj1 t.src sel);have hmn:=hmin sel hsub (by simpa using hle);have step:∀x:Ob,R AExit.normal [(2,V.d t.enc.ref),(3,V.d q.enc.ref),(5,V.d d1),(9,V.d (D.int IntKind.i64 most)),(76,V.d (D.int IntKind.i64 M)),(77,V.d (D.int IntKind.i64 ((k:Int)+1)))] ((Xa ob'+1,x)::(Xa ob',.gone)::ob'):=fun x=>
        rn [] _ _ trivial (by simp) (by simp[Xe]) (by simp[Xe]) (hm _)
       cases hr:(rbF (We q sel) q.form).2 with
       | false=>
        have hw:Yu t.src q (sel.map (Uw t.src))=(zQ,260):=by unfold Yu; rw[Uby hc,hk2,Ubo (by simp[hr])]
        simp[hw,hs,hqz,hmd,dz,Xxz,Xqo,wr];exact step _
       | true=>
        have hw:Yu t.src q (sel.map (Uw t.src))=(q.withF (rbF (We q sel) q.form).1,0):=by unfold Yu; rw[Uby hc,hk2,Uby hr]
        rw[hw]at hd⊢;have hc':=Xf8 hc hr;have hq':(q.withF (rbF (We q sel) q.form).1).small:=⟨hq.vars,J0 _ _ hq.form⟩
        have hfit:Xgg t.src.purposes[n] (q.withF (rbF (We q sel) q.form).1)=false:=by
         unfold Xap at hmn;rw[hr,Uct]at hmn;exact hmn
        have hcp:Xcr t.src (q.withF (rbF (We q sel) q.form).1)=260:=by
         obtain⟨n',hn',e1',e2'⟩:=Zo hc';have:n'=n:=by
          have:(n':Int)=n:=by rw[<-e1',<-e1]; rfl
          omega
         subst this;rw[e2',hfit]; rfl
        simp[hs,hqz,hmd,dz,Xxz];refine⟨hmd,⟨rfl,rfl⟩,hmd,⟨rfl,rfl⟩,PCall.le (xs:=[t.enc,d]) (ys:=[t.enc,(q.withF (rbF (We q sel) q.form).1).enc]) (D.les.cons (D.le.refl _) (D.les.cons hd D.les.nil)) (Xo5 hP hL hy hq' ?_)⟩;rw[hcp];simp[Xqo,wr];exact step _
    ·intro _ R re rr rp;simp[Xxy];refine re _ _ _ ?_;simp;exact h
   cases hcf:Vu t.src.purposes[n] q with
   | none=>
    rw[hcf]at h2;have l2:Vy (.d d2)=.d (.int .i64 0)/\∀ob,Ue ob (.d d2):=by
     rcases h2 with rfl | ⟨_,rfl⟩<;>simp
    have wm:IntKind.i64.wrap (-1)=-1:=rfl;simp[l1.1,l1.2,l2.1,l2.2,wm];exact loop _ [] (fun _=>rfl) (fun s hs _=>Xim hcf hs)
   | some s=>
    rw[hcf]at h2;obtain⟨f1,f2,f3⟩:=Xil hcf;have hsl:=f2.length_le;have l2:Vy (.d d2)=.d (.int .i64 s.length)/\∀ob,Ue ob (.d d2):=by
     rcases h2 with rfl | ⟨e,rfl⟩
     ·simp
     ·have:s=[]:=by simpa using e
      simp[this]
    have wm:IntKind.i64.wrap ((s.length:Int)-1)=(s.length:Int)-1:=IntWalk.i64_in _ (by omega);simp[l1.1,l1.2,l2.1,l2.2,wm,hts,hqs,tz,qz];have hd2:D.le d2 (.list 4 ((s.map (Uw t.src)).map RRef.enc)):=by
     rcases h2 with rfl | ⟨e,rfl⟩
     ·exact D.le.refl _
     ·have:s=[]:=by simpa using e
      rw[this]; exact D.le.nil _
    refine⟨rfl,rfl,rfl,rfl,PCall.acall (PCall.le (xs:=[t.enc,q.enc,d2]) (ys:=[t.enc,q.enc,.list 4 ((s.map (Uw t.src)).map RRef.enc)]) (D.les.cons (D.le.refl _) (D.les.cons (D.le.refl _) (D.les.cons hd2 D.les.nil))) (Xiu hP hy hq (l:=s.map (Uw t.src)) (by simp; omega) (fun d hd=>?_)))⟩;rw[zo];have hs:=X6x hd;have hag:=X6w hd;have hmd:(match V.d d with | V.d (D.agg xs)=>true | V.agg xs=>true | x=>false)=true:=by
     cases d<;>first | rfl | (revert hag; simp[V.isAgg])
    have dz:d.sz=17:=by rw[<-D.size_shape,hs]; rfl
    have hk2:We q (Ur (s.map (Uw t.src)))=We q s:=Xar (Xj1 t.src s);have hr:(rbF (We q s) q.form).2=true:=by
     unfold Xap at f1;simp only[Uai]at f1;exact f1.1
    have hw:Yu t.src q (s.map (Uw t.src))=(q.withF (rbF (We q s) q.form).1,0):=by unfold Yu; rw[Uby hc,hk2,Uby hr]
    rw[hw]at hd⊢;have hc':=Xf8 hc hr;have hq':(q.withF (rbF (We q s) q.form).1).small:=⟨hq.vars,J0 _ _ hq.form⟩
    have hfit:Xgg t.src.purposes[n] (q.withF (rbF (We q s) q.form).1)=true:=by
     unfold Xap at f1;simp only[Uai]at f1;exact f1.2
    have hcp:Xcr t.src (q.withF (rbF (We q s) q.form).1)=0:=by
     obtain⟨n',hn',e1',e2'⟩:=Zo hc';have:n'=n:=by
      have:(n':Int)=n:=by rw[<-e1',<-e1]; rfl
      omega
     subst this;rw[e2',hfit]; rfl
    simp[hs,hqz,hmd,dz,X62];refine⟨hmd,⟨rfl,rfl⟩,hmd,⟨rfl,rfl⟩,PCall.le (xs:=[t.enc,d]) (ys:=[t.enc,(q.withF (rbF (We q s) q.form).1).enc]) (D.les.cons (D.le.refl _) (D.les.cons hd D.les.nil)) (Xo5 hP hL hy hq' ?_)⟩;rw[hcp];simp;exact loop _ [(0,.box 42 (.d d))] (fun _=>rfl) (fun s' hs' hle=>f3 s' hs' (by omega))
end
end Go.Proofs.YtolkimpelpnpbaaGreatDoor
