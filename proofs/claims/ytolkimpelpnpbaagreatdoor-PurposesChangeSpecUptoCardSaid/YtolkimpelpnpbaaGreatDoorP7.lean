/- Texts of this claim joined by a program, part 7 of 20; the last is: Contract: a round of Change: one list of fields left out. Condition: the program is the seat's; its range Xea lists is known. -/
import Derived.Test.YtolkimpelpnpbaaGreatDoorP4
import Derived.Test.YtolkimpelpnpbaaGreatDoorP5
import Derived.Test.YtolkimpelpnpbaaGreatDoorP6
import Derived.Test.YtolkimpelpnpbaaGreatDoorProg
import Derived.KernelRfl
set_option maxRecDepth 100000
set_option linter.unusedSimpArgs false
set_option linter.unusedVariables false
set_option linter.unusedSectionVars false
set_option linter.defProp false
namespace Go.Proofs.YtolkimpelpnpbaaGreatDoor
open Go Go.Ab
def Ybx:Nat:=0x148d8a131630901082d6038b90c58c527d1403390170f159d0130f15f7acb0043e726e5c800434843f38266c20d0054adb3a79fcd3
def n12:Nat:=0x12d3e273f8
def Y1x:S:=zS [(zS [] Ybx)] n12
theorem Zfw:Xi Tryz.prog 12 2 Y1x [.t 4]=true:=by kernel_rfl
def Yva:Nat:=0x12253e3381917023298370a523e338168102515f02718b65956f0a71490260f500255f026d8e3532d922037f25b3701de9eb08c43ca036eb220797022175024373
def Yhs:S:=zS [] Yva
def Yvb:Nat:=0x1225ce0070087044016298419a52ce038152001815f02618b43201a60d0580190f5408004019d8e7b201408a22033c14e4191de64b46da03016038ce0070117044015175017373
def Yht:S:=zS [] Yvb
def Yvc:Nat:=0x1225d07381260009298547a52d073813ca00b15f02518b9de60d0b400c0f55a13ccd8ed07007220c7d051044a156d3a0300908a03821a2200070b317500a373
def Yhu:S:=zS [] Yvc
def Yvd:Nat:=0x122502c02b38144602d0a40f8a5202c02b070274a6b10a78d03815721304413204c5d41440420000de6780060340241130420320ad0010cc1350bf13f00500403513455413a25f01e1310080750095bfaee12e02ca9c2201010aa0f81de0c60078d0a03ad922002b0f8bba0c4
def Yhv:S:=zS [] Yvd
def Zb2:FSt:=.pre (.rg [] [.op (some 1) (.box 29 (.t 0)),
   .op (some 2) (.alloc 29 (.agg [.nils,.nils,.nils,.nils,.nils,.nils])),
   .op (some 3) (.alloc 46 (.int .i64 0))] [1,2,3] [])
 (.pre (.rg [] [.op (some 11) (.c (.ld 6 true (.t 1))),
   .op (some 12) (.call 83 [(.t 11)]),
   .op (some 10) (.c (.mv (.t 12))),
   .op (some 13) (.c (.ext (.t 10) 0)),
   .op (some 14) (.c (.ext (.t 10) 1)),
   .op (some 4) (.c (.mv (.t 13))),
   .op (some 5) (.c (.mv (.t 14)))] [1,2,3,4,5] [])
 (.pre (.seq (.rg [] [.op (some 15) (.c (.mv (.t 5)))] [1,2,3,4,15] [])
 (.cond (.t 15) (.seq (.rg [] [.op (some 16) (.c (.ld 6 true (.t 2))),
   .op none (.st 6 (.t 2) (.t 16)),
   .op none (.st 1 (.t 3) (.int .i64 111))] [2,3] [])
 (.ret)) (.skip)))
 (.dfr [.op (some 17) (.c (.mkf 84 [] [(.t 2),(.t 3)]))] [1,2,3,4,17] 17
 (.seq (.rg [0,3,6,9,12,15,1,4,7,10,13,16,2,5,8,11,14,17,18,19] [.op (some 18) (.c (.fldA 0 0 (.t 1))),
   .op (some 21) (.c (.fldA 1 1 (.t 1))),
   .op (some 24) (.c (.fldA 2 2 (.t 1))),
   .op (some 27) (.c (.fldA 3 3 (.t 1))),
   .op (some 30) (.c (.fldA 4 4 (.t 1))),
   .op (some 33) (.c (.fldA 5 5 (.t 1))),
   .op (some 19) (.c (.ld 1 false (.t 18))),
   .op (some 22) (.c (.ld 1 false (.t 21))),
   .op (some 25) (.c (.ld 1 false (.t 24))),
   .op (some 28) (.c (.ld 1 false (.t 27))),
   .op (some 31) (.c (.ld 1 false (.t 30))),
   .op (some 34) (.c (.ld 1 false (.t 33))),
   .op (some 20) (.xcall 85 [(.t 19)]),
   .op (some 23) (.xcall 86 [(.t 22)]),
   .op (some 26) (.xcall 87 [(.t 25)]),
   .op (some 29) (.xcall 88 [(.t 28)]),
   .op (some 32) (.xcall 89 [(.t 31)]),
   .op (some 35) (.xcall 90 [(.t 34)]),
   .op (some 36) (.c (.bld [.nils,.nils,.nils,.nils,.nils,.nils] [(0,(.t 20)),(1,(.t 23)),(2,(.t 26)),(3,(.t 29)),(4,(.t 32)),(5,(.t 35))])),
   .op none (.st 6 (.t 2) (.t 36))] [2,3,4] [2,3])
 (.seq (.rg [] [.op (some 37) (.c (.mv (.t 4))),
   .op (some 38) (.c (.fldA 1 1 (.t 2))),
   .op (some 39) (.c (.ld 1 false (.t 38))),
   .op (some 40) (.call 91 [(.t 37),(.t 39)])] [2,3,4] [2,3])
 (.seq (.seq (.rg [] [.op (some 41) (.c (.fldA 2 2 (.t 2))),
   .op (some 42) (.c (.ld 1 false (.t 41))),
   .op (some 43) (.c (.lenL (.t 42))),
   .op (some 44) (.c (.mv (.int .i64 0)))] [2,3,4,43,44] [2,3])
 (.block 0 (.loop [2,3,4,43,44] Yhv)))
 (.seq (.seq (.rg [] [.op (some 61) (.c (.fldA 3 3 (.t 2))),
   .op (some 62) (.c (.ld 1 false (.t 61))),
   .op (some 63) (.c (.lenL (.t 62))),
   .op (some 64) (.c (.mv (.int .i64 0)))] [2,3,4,63,64] [2,3])
 (.block 2 (.loop [2,3,4,63,64] Yhu)))
 (.seq (.seq (.rg [] [.op (some 74) (.c (.fldA 4 4 (.t 2))),
   .op (some 75) (.c (.ld 1 false (.t 74))),
   .op (some 76) (.c (.lenL (.t 75))),
   .op (some 77) (.c (.mv (.int .i64 0)))] [2,3,4,76,77] [2,3])
 (.block 4 (.loop [2,3,4,76,77] Yht)))
 (.seq (.seq (.rg [] [.op (some 87) (.c (.fldA 5 5 (.t 2))),
   .op (some 88) (.c (.ld 1 false (.t 87))),
   .op (some 89) (.c (.lenL (.t 88))),
   .op (some 90) (.c (.mv (.int .i64 0)))] [2,3,4,89,90] [2,3])
 (.block 6 (.loop [2,3,4,89,90] Yhs)))
 (.seq (.rg [] [.op (some 100) (.ldg 6 true (.t 2)),
   .op none (.st 6 (.t 2) (.t 100)),
   .op none (.st 1 (.t 3) (.int .i64 0))] [2,3] [2,3])
 (.ret)))))))))))
theorem Zp0:Xkv Tryz.prog 45 1 Zb2 [.c 2 6 true,.c 3 1 false]=true:=by kernel_rfl
def Zb4:FSt:=.pre (.rg [] [.op (some 2) (.box 32 (.t 0)),
   .op (some 4) (.alloc 42 (.agg [.str [],.int .i64 0,.nils,.agg [.int .i64 0,.int .i64 0,.nils,.agg [.int .i64 0,.agg [.str [],.str [],.int .i64 0,.int .i64 0,.int .i64 0],.agg [.str [],.str [],.int .i64 0,.int .i64 0,.int .i64 0]]]])),
   .op (some 5) (.alloc 3 (.int .i64 0)),
   .op (some 6) (.alloc 46 (.int .i64 0))] [1,2,4,5,6] [])
 (.pre (.rg [] [.op (some 12) (.c (.mv (.t 1))),
   .op (some 13) (.pcall 74 [(.t 12)]),
   .op (some 11) (.c (.mv (.t 13))),
   .op (some 14) (.c (.ext (.t 11) 0)),
   .op (some 15) (.c (.ext (.t 11) 1)),
   .op (some 16) (.c (.ext (.t 11) 2)),
   .op (some 7) (.c (.mv (.t 14))),
   .op none (.st 1 (.t 5) (.t 15)),
   .op none (.st 1 (.t 6) (.t 16))] [1,2,4,5,6,7] [])
 (.pre (.seq (.rg [] [.op (some 17) (.c (.ld 1 false (.t 6))),
   .op (some 18) (.c (.bin .neq (.t 17) (.int .i64 0)))] [1,2,4,5,6,7,18] [])
 (.cond (.t 18) (.seq (.rgT 6 (.one 0 (.op (some 19) (.c (.ld 17 true (.t 4))))
  (.br (.cons 1 (.op (some 20) (.c (.ld 1 false (.t 5)))) (.br (.cons 2 (.op (some 21) (.c (.ld 1 false (.t 6)))) (.one 3 (.op none (.st 17 (.t 4) (.t 19)))
  (.one 4 (.op none (.st 1 (.t 5) (.t 20)))
  (.one 5 (.op none (.st 1 (.t 6) (.t 21)))
  (.done))))
  (.cons 3 (.op none (.st 17 (.t 4) (.t 19))) (.br (.cons 2 (.op (some 21) (.c (.ld 1 false (.t 6)))) (.one 4 (.op none (.st 1 (.t 5) (.t 20)))
  (.one 5 (.op none (.st 1 (.t 6) (.t 21)))
  (.done)))
  (.cons 4 (.op none (.st 1 (.t 5) (.t 20))) (.br (.cons 2 (.op (some 21) (.c (.ld 1 false (.t 6)))) (.one 5 (.op none (.st 1 (.t 6) (.t 21)))
  (.done))
  (.nil)))
  (.nil))))
  (.nil))))
  (.cons 2 (.op (some 21) (.c (.ld 1 false (.t 6)))) (.br (.cons 1 (.op (some 20) (.c (.ld 1 false (.t 5)))) (.one 3 (.op none (.st 17 (.t 4) (.t 19)))
  (.one 4 (.op none (.st 1 (.t 5) (.t 20)))
  (.one 5 (.op none (.st 1 (.t 6) (.t 21)))
  (.done))))
  (.cons 3 (.op none (.st 17 (.t 4) (.t 19))) (.br (.cons 1 (.op (some 20) (.c (.ld 1 false (.t 5)))) (.one 4 (.op none (.st 1 (.t 5) (.t 20)))
  (.one 5 (.op none (.st 1 (.t 6) (.t 21)))
  (.done)))
  (.nil)))
  (.nil))))
  (.cons 3 (.op none (.st 17 (.t 4) (.t 19))) (.br (.cons 1 (.op (some 20) (.c (.ld 1 false (.t 5)))) (.br (.cons 2 (.op (some 21) (.c (.ld 1 false (.t 6)))) (.one 4 (.op none (.st 1 (.t 5) (.t 20)))
  (.one 5 (.op none (.st 1 (.t 6) (.t 21)))
  (.done)))
  (.cons 4 (.op none (.st 1 (.t 5) (.t 20))) (.br (.cons 2 (.op (some 21) (.c (.ld 1 false (.t 6)))) (.one 5 (.op none (.st 1 (.t 6) (.t 21)))
  (.done))
  (.nil)))
  (.nil))))
  (.cons 2 (.op (some 21) (.c (.ld 1 false (.t 6)))) (.br (.cons 1 (.op (some 20) (.c (.ld 1 false (.t 5)))) (.one 4 (.op none (.st 1 (.t 5) (.t 20)))
  (.one 5 (.op none (.st 1 (.t 6) (.t 21)))
  (.done)))
  (.nil)))
  (.nil))))
  (.nil)))))) [4,5,6] [])
 (.ret)) (.skip)))
 (.dfr [.op (some 22) (.c (.mkf 102 [] [(.t 4),(.t 5),(.t 6)]))] [1,2,4,5,6,7,22] 22
 (.seq (.rg [] [.op (some 23) (.c (.mv (.t 7))),
   .op (some 24) (.c (.mv (.t 1))),
   .op (some 25) (.c (.lenS (.t 24))),
   .op (some 26) (.c (.bld [.nils,.int .i64 0,.nilm] [(0,(.t 23)),(1,(.t 25))])),
   .op (some 27) (.box 198 (.t 26)),
   .op (some 8) (.c (.mv (.t 27)))] [2,4,5,6,8] [4,5,6])
 (.seq (.rg [] [.op (some 28) (.c (.mv (.t 8))),
   .op (some 29) (.c (.mv (.t 8))),
   .op (some 30) (.call 103 [(.t 29)]),
   .op (some 31) (.c (.nilc (.t 28))),
   .op (some 32) (.c (.fldA 2 2 (.t 31))),
   .op none (.st 1 (.t 32) (.t 30))] [2,4,5,6,8] [4,5,6])
 (.seq (.rg [] [.op (some 33) (.c (.mv (.t 8))),
   .op (some 34) (.call 104 [(.t 33)]),
   .op (some 9) (.alloc 201 (.agg [.agg [.str [],.int .i64 0,.nils,.agg [.int .i64 0,.int .i64 0,.nils,.agg [.int .i64 0,.agg [.str [],.str [],.int .i64 0,.int .i64 0,.int .i64 0],.agg [.str [],.str [],.int .i64 0,.int .i64 0,.int .i64 0]]]],.str []])),
   .op none (.st 18 (.t 9) (.t 34))] [2,4,5,6,9] [4,5,6])
 (.seq (.rg [] [.op (some 35) (.c (.fldA 0 0 (.t 2))),
   .op (some 36) (.c (.ld 6 true (.t 35))),
   .op (some 37) (.c (.bld [.agg [.nils,.nils,.nils,.nils,.nils,.nils],.nils] [(0,(.t 36))])),
   .op (some 38) (.c (.ld 18 true (.t 9))),
   .op (some 39) (.call 105 [(.t 37),(.t 38)]),
   .op none (.st 17 (.t 4) (.t 39))] [2,4,5,6] [4,5,6])
 (.seq (.seq (.rg [] [.op (some 40) (.c (.ld 7 true (.t 2))),
   .op (some 41) (.ldg 17 true (.t 4)),
   .op (some 42) (.pcall 21 [(.t 40),(.t 41)]),
   .op (some 10) (.c (.mv (.t 42)))] [4,5,6,10] [4,5,6])
 (.seq (.rg [] [.op (some 43) (.c (.mv (.t 10))),
   .op (some 44) (.c (.bin .neq (.t 43) (.int .i64 0)))] [4,5,6,10,44] [4,5,6])
 (.cond (.t 44) (.seq (.rg [] [.op (some 45) (.c (.bld [.str [],.int .i64 0,.nils,.agg [.int .i64 0,.int .i64 0,.nils,.agg [.int .i64 0,.agg [.str [],.str [],.int .i64 0,.int .i64 0,.int .i64 0],.agg [.str [],.str [],.int .i64 0,.int .i64 0,.int .i64 0]]]] [])),
   .op (some 46) (.c (.mv (.t 10))),
   .op none (.st 17 (.t 4) (.t 45)),
   .op none (.st 1 (.t 5) (.int .i64 0)),
   .op none (.st 1 (.t 6) (.t 46))] [4,5,6] [4,5,6])
 (.ret)) (.skip))))
 (.seq (.rg [] [.op (some 47) (.c (.ld 17 true (.t 4))),
   .op none (.st 17 (.t 4) (.t 47)),
   .op none (.st 1 (.t 5) (.int .i64 0)),
   .op none (.st 1 (.t 6) (.int .i64 0))] [4,5,6] [4,5,6])
 (.ret))))))))))
theorem Zp2:Xkv Tryz.prog 47 2 Zb4 [.c 4 17 true,.c 5 1 false,.c 6 1 false]=true:=by kernel_rfl
def Yvi:Nat:=0x111d98e86e4819a83d12c43b45d127f01336622673c006081ce686e085de386e481de38040b286e0859a83d12c43b45d127f01336622673c006081ce6de38047dcce686e00204d05e55202006109a06e75c242226012bbd133
def Ybg:List It:=[.op (some 3) (.c (.mv (.t 6)))]
def Yr7:List Nat:=[0,1,2,3]
def n75:Nat:=0x100326f9910100156420405bc54500e1db00fd9400d00000cb6728f938005206009e1347328f9383fe00300b2ea3802000b490fb360e8
def Zcd:S:=zS [(zS [] Yvi)] n75
theorem Zqb:Xkg Tryz.prog 75 3 6 Ybg Zcd=true:=by kernel_rfl
def n80:Nat:=0x18ce02b08102a1a60290853fa7700101763e400f0260420037dfde16880231a6022085021de401e2f601c01da393deba001710b1a046f01f41511d02f018a8a6790152f601301441644a42d00f01461e0102da1a0e11146e02a3b003110447a8008122801600e2750078bedf00061a6de9
def Zci:S:=zS [] n80
theorem Zqg:Xi Tryz.prog 80 1 Zci []=true:=by kernel_rfl
def n97:Nat:=0x1d9735936c8cd00102607a26d025149dd300203e1a01862df00103f415000186602afc0a918642005d18633201eaa700801d1492352a800203d1a02351b523501ad63048375dc9a17016c692e700203b1a00f927200103c4150000f960249a0a90f9d25a760091f72aa1a015703a4150610b500b07306e7cd01d17f60000a087bc103703901c00b03a06b00334d36cd884930493e4107006816d6c006b4129cd5b61d005042d4506e1715b0732
def Zcs:S:=zS [] n97
theorem Zqq:Xi Tryz.prog 97 1 Zcs [.t 2]=true:=by kernel_rfl
def Zlm:Nat:=0x105829417d02e0000168b70172ca0d7294065da10880ac591047dd26af01107543f16964394c00f06c0cdc550cda1b26a09a0d729400dda108804f09a32c37406500b1233cc53507500a0871db3010090431a47b325e08bda30aa0490040cd497008794405da145a01109a
def Ynt:S:=zS [] Zlm
theorem Y5m:Xi Tryz.prog 101 1 Ynt [.t 2,.t 3,.t 4]=true:=by kernel_rfl
def Zlt:Nat:=0x11f017b0094183800ab0f000b04d04298d
def Yn3:S:=zS [] Zlt
theorem Y5w:Xi Tryz.prog 133 3 Yn3 []=true:=by kernel_rfl
def Zlu:Nat:=0x126b0790f7c472240871f0
def Yn4:S:=zS [] Zlu
theorem Y5x:Xi Tryz.prog 134 2 Yn4 []=true:=by kernel_rfl
def Yij:Nat:=0x1b8e0e2a734e3db6702
def Yii:Nat:=0x179b
def Zl6:Nat:=0x18d100bac5606
def Yog:S:=zS [(zS [(zS [] Yij)] Yii)] Zl6
theorem Y59:Xi Tryz.prog 146 4 Yog [.t 8]=true:=by kernel_rfl
def Zmd:Nat:=0x111a00ed006ea00c2f600900b41600882006b06c8620095c3c59d6f0aa0090d66ca0df69c3552ec
def Yon:S:=zS [] Zmd
theorem Y6g:Xi Tryz.prog 153 1 Yon [.c 2 4 true]=true:=by kernel_rfl
def Zmf:Nat:=0x196d04124fc63
def Yop:S:=zS [] Zmf
theorem Y6i:Xi Tryz.prog 155 1 Yop [.t 2]=true:=by kernel_rfl
def Yiu:Nat:=0x1a3c0b5a460b587e0f0973e281f81718b3
def Zmi:Nat:=0x179a
def Yos:S:=zS [(zS [] Yiu)] Zmi
theorem Y6l:Xi Tryz.prog 158 2 Yos [.t 4,.t 5]=true:=by kernel_rfl
def Zmm:Nat:=0x18b445e192
def Yow:S:=zS [] Zmm
theorem Y6p:Xi Tryz.prog 163 1 Yow [.t 2]=true:=by kernel_rfl
def Zmp:Nat:=0x10b00f81a502b0262e05d7ab20030375e335702986ad0d35702786a439b6d0a88480365d79370030355e3a954ef0345d70840030335e389a3000325d72e70030315e389b56b81854358b8964ba219cc072802904112e0740b780e
def Yoz:S:=zS [] Zmp
theorem Y6s:Xi Tryz.prog 173 2 Yoz [.t 4]=true:=by kernel_rfl
def Zmw:Nat:=0x1a5014603b1140eba5502bd42
def Yo7:S:=zS [] Zmw
theorem Y6z:Xi Tryz.prog 181 2 Yo7 [.t 4]=true:=by kernel_rfl
def Yi3:Nat:=0x1000d0f7a57823022d28ec1a91bf01907c01a7791a90081bf8787c81ac03808a2060100b4010018b1c2082e701100303d03a161ae70bf64500694dc7464c1a90061bf75f5902e9b7f364d2ec361311bf00bc41
def Zmy:Nat:=0x10b00231a531916b7f90211076e92b23d210901d16001c5ff8176b9d0f0ead0fbeb97bbcc4e218f1e20869dc
def Yo9:S:=zS [(zS [] Yi3)] Zmy
theorem Y61:Xi Tryz.prog 183 2 Yo9 [.t 4]=true:=by kernel_rfl
def Yi6:Nat:=0x1000dc065d07200e29800d0f200e0392d29891c80912487e66aa0722a646b77b07200300a33762a04200b03950207208b08b4cac3266818440604200603914207208b04e4ca83c4de18403e0fd000b6a00a0c300a0390204a5006c294730bf00503e0cc0100f636a00507000c0f004e0102059ff41a00804202e03c1c41049f203816303d5d41330390fd03b0dea1b07a03b1c44c402e03c1c41049f203816303d5d400845c03b93c0390fd03b0de9f396003516303c5d40b50360fd0380de0644a505e0080390cc06100a0bf527c46aeb04c1d3034126034a0a20b41a00903312b02e0b30320f5c775ac02f2b8c770300f5c774a50744430a805a02d0f202c12b0270b302b21302705a02a8f42b863c05a0292130275c50bf63c05a37902705a0260f202512b0200b337f370251965cab9652969650212130205c523796501f0f201e12b01b94901d17506f28001c21328000a23728001a0f201912b014d2346d2518630171268631988630152130145c50bf27205a5e11c33f2114c6600a09001214702417f9ff41a7ed0445004a66d2b963ca2d75ba00b60d2b14f83f3a0a7e66d11751750860c4
def Zm2:Nat:=0x12d3dc00070eadc00073b10ee250c4000b14709a05d41a9780090f24710b313406c91421a03b57391401d0ba6d314e8df91400a03803b00508b0b313406c91421a03b0859f61370080cc2a32c94200cc33504c1d30030ee04366700307512b130be51441ec25207935c04884713204f25229625213504f252c582527e4c9200012910196205211304810a4260e40040f8c4002d02001017fc1602b0aa7cf1a67ce17102704202901fe1c0240db023aae1a60210ad7acd50c2b27894f0280200850260202253580859112a713195806722120a05d01007e1c6dff20101c8ea00801b14919f01a0180024441be19f019d1485619f96319f1f401507a3a70141491390130110024441be1390129bf6bd139963858c5f00d98f00b5ff7cd01356a3e480e
def Ypd:S:=zS [(zS [] Yi6)] Zm2
theorem Y65:Xi Tryz.prog 187 2 Ypd [.t 4]=true:=by kernel_rfl
def Zm9:Nat:=0x13711041610081e508b0520430a2ca98df95f0c80aa005c98c13369e200902bb0400f15b0a30
def Ypk:S:=zS [] Zm9
theorem Y7c:Xi Tryz.prog 194 1 Ypk [.c 1 14 true]=true:=by kernel_rfl
def Yjc:Nat:=0x11e08ba20204927f08d0f01f301caf7041525b8101965f01804b53401640126e3060f0043014a1ea5e3f1d2fc8a3d5c5a0102ea
def Zna:Nat:=0x126f9a71570110cd24f32c006aec2a600906522700e0cd2b604014e4622190c5a5e2e9053
def Ypl:S:=zS [(zS [] Yjc)] Zna
theorem Y7d:Xi Tryz.prog 195 3 Ypl [.c 6 4 true]=true:=by kernel_rfl
def Yjj:Nat:=0x1000b84cea08801004511d01007d0f72570190720180727db01607201492cc5c004043172052015072b1804001503994e01054651f0721a3012072bd016001400011676d2b9b8401077b316072b1804311d01007dd2ac9f989c7900a07262a005c5c00415e010042ac303928701054616b0721a3749cc416001425400009ac3209f0395a4aa010600b4066688e8254c29c155a4aa010600abef1c923e00107209000c2aac151160102c210600ac0e0004de49b83c03e4ee01020503c04403b4ee04e01003c55908d0102c210600803a16801e01103b0cc5210bd00c1060080390f20380442080015ac0b45ac03925c9600320cc819035044721b5103211b01d19944e0450420400330cc7d30610b454609515f01e00f0310cc52100f07dd2ab9b368b2f7d559791702a11b01c19944e04555ec2a0291260290387a307465901b0b356f104280ab0ba52807b802115f52005028037f04c0264be28049404c0224be28043c02215f0b528000dc9e2df79c28063101d15f0b52800796091a1280001c9e0fc280004c9e2ab1096fa00f06101a0cc97000816c9b80112e2
def Yjk:Nat:=0x10680900080181260180387a333c46d4190140ee01b99f0131263937a30743f20109492600e001005aaf105a00f1aa9de0b36875af3a906800d559071
def Yjl:Nat:=0x126f00e7a307955e48a0091fa277b354ee9b24eeaeec494ee05dcc748a3761d115f1630ee01a876c560ee04043e48a00bc970d91be0ccb7e00e7a39be27700110a0b410a03602513fbb71306781130040196e7042040031473041
def Yji:Nat:=0x126f6719d40040a40e404862111d67100802b3e102881599f8cdc720262a6969a2a3b891200401799fb9f020c72b9198b969a2a01d2a801a00401699f603019c727d8018abc00c0197be6710080173a8acb1a104526e09a06c
def Znk:Nat:=0x1068b840ea54604902e042240545611063
def Ypu:S:=zS [(zS [(zS [(zS [(zS [] Yjj)] Yjk)] Yjl)] Yji)] Znk
theorem Y7m:Xi Tryz.prog 205 5 Ypu []=true:=by kernel_rfl
def Znp:Nat:=0x1b195c103b01100b1cf00900f23047002719900204e35a1910061c300d1a1045b5f8300090130051a38418320090aa00204e02603b01c57b06b4a89b40492112b68160031eb0305c103b3020391cb
def Yp3:S:=zS [] Znp
theorem Y7v:Xi Tryz.prog 227 2 Yp3 [.t 4]=true:=by kernel_rfl
def Zns:Nat:=0x111a010cb843023a41652b08106b3afe1301e1f1d6f1a3dac06981415b26c075d7a067899273cba02f17b090014d750a20242ec
def Yp6:S:=zS [] Zns
theorem Y7y:Xi Tryz.prog 230 1 Yp6 [.c 2 5 true]=true:=by kernel_rfl
def Yjp:Nat:=0x1bb028506908b8e01177b120b5f32e110d1717761179dfd4c7a82e1347171744
def Znu:Nat:=0x1778
def Yp8:S:=zS [(zS [] Yjp)] Znu
theorem Y70:Xi Tryz.prog 233 3 Yp8 [.t 6]=true:=by kernel_rfl
def Yjr:Nat:=0x1d3892406c7461dbe02a5b2d710d2b477600522a0080efa377a82d73472b4744
def Zny:Nat:=0x1778
def Yqc:S:=zS [(zS [] Yjr)] Zny
theorem Y74:Xi Tryz.prog 237 3 Yqc [.t 6]=true:=by kernel_rfl
def Znz:Nat:=0x1cd884802310303037ca95df30e0df1d593e40e23e416e
def Yqd:S:=zS [] Znz
theorem Y75:Xi Tryz.prog 238 2 Yqd [.t 4]=true:=by kernel_rfl
def Zn1:Nat:=0x1e0785100203137c6c39c458a8255b67115db5a613aa6e0143510860e208616e
def Yqf:S:=zS [] Zn1
theorem Y77:Xi Tryz.prog 240 2 Yqf [.t 4]=true:=by kernel_rfl
def Yjt:Nat:=0x10001f90010c30440180a4017046038d030030ee0430381f906c00212b1327710017dab0921303714b08d2719be1ee03694e1f906708b13f0001300054b70062060e40b40e4034025120531802ae4d5406f10a06c0f10bf7a4b457d3061007b291f97a015b02b0d9bf79af02a9e34f3028b261f97a0027d1d02602125110e02504f10e0246750232375d308d10e8b5da8a213d210901d1145131d281700d17f1f96b401b00400801401910bd7b68601ab0a01701515401748b0180a69f006c01601700d0190c4
def Zn4:Nat:=0x19671f9c861f9c5d01520204b01308508b0810201694f35158fc0118bf77101016db6304f15c00e0a97c623715ccf83fb1c388aa2c9ad08b0698a4d78b70192
def Yqi:S:=zS [(zS [] Yjt)] Zn4
theorem Y8a:Xi Tryz.prog 243 1 Yqi [.t 2]=true:=by kernel_rfl
def Zn6:Nat:=0x11e02ab2836fa014d2346d1078630171488634c608105a01514801447208508105a0131aa0121750b32603ca3055af0101485af80a5af00e14800d47208530a05a00c1aa1fa0060b3c7d5b581f00914881f4c608b47214881f96108b1b01aa446132a9a6a9305271002a0e80ab09a0e04914acb40a813511300813f12061e543223130d1900422ecacd190c9a69c8d0a810102984202b0e03a60f80733a600413d3a602a0733a600713d3a60280a802702200876f0e037e02507337e09a001e340073899a40caafa03308d1dc0f744901f7c81ac03808a206c3d01702063b0183181c1003d5401c4c18c70850a704cbcb1a100b59d00dcec0162830153a71dd107e1e80fe01cb08581f71602ad91d00b1f51a600d0411e1bf9104033337bcb00a55b297b9c024cb6b2c469
def Yqk:S:=zS [] Zn6
theorem Y8c:Xi Tryz.prog 246 3 Yqk [.t 6]=true:=by kernel_rfl
def Yjx:Nat:=0x100069fe2616c00305e02e116a003d40136a63fc4340a799d6bc3d4d5143419ec83a9616c19e8b2
def Zn7:Nat:=0x196769f0ea69f7c51081781fbcf03b401d42bdb3
def Yql:S:=zS [(zS [] Yjx)] Zn7
theorem Y8d:Xi Tryz.prog 247 1 Yql [.t 2]=true:=by kernel_rfl
def Zod:Nat:=0x1a93158a7b3941cb
def Yqr:S:=zS [] Zod
theorem Y8j:Xi Tryz.prog 254 2 Yqr [.t 3]=true:=by kernel_rfl
def Yjy:Nat:=0x1000cd701f8754c248e4340640db0db3b500600301c26c02d00900386201c29504a1c68ec16c0c957301968236798203b1be12137912119884aa171162510f92240f937945010900f90636800c17f16c0c91c000e177a964341c08b2
def Zof:Nat:=0x10b01301a5e1b104c8e10198237c24a10ad3e3d702d8f999c0a802b0270083e12ee2d51e3afe0732d53d78f20a85551a8024305e343d79a404045b0209a297e015240cd70eacd70d1a2c08544018f4a82a502d04239808724c03a1cb
def Yqt:S:=zS [(zS [] Yjy)] Zof
theorem Y8l:Xi Tryz.prog 256 2 Yqt [.t 4]=true:=by kernel_rfl
def Zoo:Nat:=0x1ba836c0408380d93e63220212450090032bb0680e800334d36c68d08b36c38013383808c00f8d707100604f9a703c2452e300f3dd0db06b3f90ab04c36c83e38683809000f8d70710fc2f2
def Yq3:S:=zS [] Zoo
theorem Y8w:Xi Tryz.prog 267 1 Yq3 [.t 2]=true:=by kernel_rfl
def Zop:Nat:=0x10b000d08736499206500b1600891a31028b6b7b0071bd43e0eb89e0b53910051eb06508727203a1cb
def Yq4:S:=zS [] Zop
theorem Y8x:Xi Tryz.prog 268 2 Yq4 [.t 4]=true:=by kernel_rfl
def Zoq:Nat:=0x11f06620810260bf2283b823b5e30220b40220078ed38b01f17c020d508ac08501a0161050b9d33af308b0150760c801e0b201f01e0180850170b28eec3e01657e04e6ed10f36a0752f15bf04e53404c00f0110810100851db00e00a3011994b01c02a9b600b233a2b51c50010709184f71514008120a76af2d806c29505f1b6983920
def Yq5:S:=zS [] Zoq
theorem Y8y:Xi Tryz.prog 269 2 Yq5 []=true:=by kernel_rfl
def Zow:Nat:=0x1d1793405e2110fc04832202c1620470100910400c824f5d6b72
def Yrf:S:=zS [] Zow
theorem Y88:Xi Tryz.prog 288 1 Yrf [.t 1]=true:=by kernel_rfl
def Ykk:Nat:=0x17b731f0451405cc069417069cd4008592008595
def Zo1:Nat:=0x14fb
def Yrk:S:=zS [(zS [] Ykk)] Zo1
theorem Y9d:Xi Tryz.prog 293 2 Yrk [.t 4]=true:=by kernel_rfl
def Ykp:Nat:=0x172617e5f0569356008a542d709b005759
def Zo8:Nat:=0x174d
def Yrr:S:=zS [(zS [] Ykp)] Zo8
theorem Y9k:Xi Tryz.prog 300 2 Yrr [.t 4]=true:=by kernel_rfl
end Go.Proofs.YtolkimpelpnpbaaGreatDoor
namespace Go.Proofs.YtolkimpelpnpbaaGreatDoor
open Go Go.Ab
def Xn9:S2:=zL [] [] Ybx
def Xwo:=(by cbv:Xn9=_)
def Zc1:S2:=zL [] [Xn9] n12
def Zhg:=(show Zc1=_ from (fun (a:S2)=>(by cbv:zL [] [a] n12=_)) Xn9)
theorem Zj7:Y1x.lift []=some Zc1:=by kernel_rfl
end Go.Proofs.YtolkimpelpnpbaaGreatDoor
namespace Go.Py
open Go Go.Ab Go.Lx Go.Sx
def Ya1 (a b:RRef):Bool:=decide (a.schema<b.schema)||decide (a.schema=b.schema)&&decide (a.field<b.field)
theorem X31 (r s:RRef):r.enc.eqb s.enc=true↔r=s:=by
 obtain⟨a,b,c,d⟩:=r;obtain⟨e,f,g,i⟩:=s;simp[RRef.enc,D.eqb,D.eqbs]
end Go.Py
namespace Go.Proofs.YtolkimpelpnpbaaGreatDoor
open Go Go.Ab Go.Lx Go.Sx Go.Py
section
variable {P:Prg} (hP:P.p=Tryz.prog)
include hP
theorem Xtw (a b:RRef){ob:Xb}{K:V->Prop}(h:K (.d (.bool (Ya1 a b)))):PCall P 117 [.d a.enc,.d b.enc] ob K:=by
 refine Xg hP mixed (ds:=[a.enc,b.enc]) Y5v Y28 TOk.nil ?_;unfold Ya1 at h;by_cases h1:a.schema<b.schema
 ·simp[Yds,RRef.enc,h1]at h⊢; exact h
 ·by_cases h2:a.schema=b.schema
  ·simp[Yds,RRef.enc,h1,h2]at h⊢; exact h
  ·simp[Yds,RRef.enc,h1,h2]at h⊢; exact h
theorem Xuq {a b:List RRef}(ha:a.length<=100000)(hb:b.length<=100000){x y:D}(hx:x=.list 4 (a.map RRef.enc)\/a=[]/\x=.nils)(hy:y=.list 4 (b.map RRef.enc)\/b=[]/\y=.nils){ob:Xb}{K:V->Prop}(h:∀z:Bool,(z=true↔a=b)->K (.d (.bool z))):PCall P 12 [.d x,.d y] ob K:=by
 refine Xg hP mixed (ds:=[x,y]) Zfw Zj7 TOk.nil ?_;have lenA:U8 (.d x)=.d (.int .i64 a.length)/\∀ob,Qz ob (.d x):=by
  rcases hx with rfl | ⟨e,rfl⟩
  ·simp
  ·simp[e]
 have lenB:U8 (.d y)=.d (.int .i64 b.length)/\∀ob,Qz ob (.d y):=by
  rcases hy with rfl | ⟨e,rfl⟩
  ·simp
  ·simp[e]
 simp[Zhg];refine⟨⟨lenA.2 _,lenB.2 _,by rw[lenA.1,lenB.1]; simp⟩,?_⟩;rw[lenA.1,lenB.1];simp;by_cases hl:a.length=b.length
 ·simp[hl];refine ALoop.upto a.length (fun k=>[(0,.d x),(1,.d y),(5,.d (.int .i64 k))])
   (fun _=>[]) (fun k=>a.take k=b.take k) (by simp) (by simp) rfl ?_ ?_
  ·intro k hk hI R rn re rr rp;have wr:IntKind.i64.wrap ((k:Int)+1)=(k:Int)+1:=IntWalk.i64_in _ (by omega);obtain rfl:x=.list 4 (a.map RRef.enc):=by
    rcases hx with rfl | ⟨e,rfl⟩
    ·rfl
    ·rw[e]at hk; simp at hk
   obtain rfl:y=.list 4 (b.map RRef.enc):=by
    rcases hy with rfl | ⟨e,rfl⟩
    ·rfl
    ·rw[e]at hl; simp at hl; rw[hl]at hk; simp at hk
   have hkb:k<b.length:=by omega
   simp[Xwo,hk,hkb];refine⟨⟨⟨rfl,rfl⟩,⟨rfl,rfl⟩,rfl,rfl⟩,fun e=>?_,fun e=>?_⟩
   ·refine rr _ _ ?_;simp;refine h false (by
     simp only[Uah,false_iff];intro e2;have:a[k]=b[k]:=by simp only[e2]
     rw[(X31 _ _).2 this]at e;cases e)
   ·have e2:=(X31 _ _).1 e;simp[wr];refine rn [] _ _ ?_ (by simp) (by simp) (by simp[Xc]) (by simp[Xc]);rw[Ubj hk,Ubj hkb,hI,e2]
  ·intro hI R re rr rp;have e:a=b:=by rw[Ucq,hl,Ucq]at hI; exact hI
   have h:=h true (by simp[e]);simp[Xwo,lenA.1];refine⟨lenA.2 _,?_⟩;refine re _ _ _ ?_;simp;exact h
 ·have h:=h false (by simp; intro e; exact hl (by rw[e]));have hl':¬(a.length:Int)=b.length:=by omega
  simp[hl'];exact h
end
end Go.Proofs.YtolkimpelpnpbaaGreatDoor
namespace Go.Proofs.YtolkimpelpnpbaaGreatDoor
open Go Go.Ab Go.Lx Go.Sx Go.Py
section
variable {P:Prg} (hP:P.p=Tryz.prog)
include hP
theorem Xqf {t:RTab}{q:RQ}{x:RTerm}{p:Int×Int}(hx:Yg q x=some p)(hin:inR t.src p){ob:Xb}{K:V->Prop}(h:K (.d (Y0 t.src p).enc)):PCall P 60 [.d t.enc,.d q.enc,.d x.enc] ob K:=by
 refine Xg hP mixed (ds:=[t.enc,q.enc,x.enc]) Zp7 Zk8 TOk.nil ?_;obtain⟨y,od⟩:=t;obtain⟨s,hs,g,e1,e2,hg⟩:=hin;simp only at hs hg h;have hv:∃(i:Nat) (hi:i<q.vars.length),x.var=i/\q.vars[i].schema=s/\x.field=g:=by
  unfold Yg at hx;split at hx
  ·cases hx
  rename_i h0;obtain⟨v,hv,rfl⟩:=Ubr.1 hx;obtain⟨hl,rfl⟩:=Uan.1 hv;exact⟨x.var.toNat,hl,by omega,e1,e2⟩
 obtain⟨i,hi,v1,v2,v3⟩:=hv;have hr:(Y0 y p).enc=.agg [.str y.schemas[s].name,.str y.schemas[s].fields[g].name,iD s,iD g]:=by
  unfold Y0;rw[e1,e2];simp only[Int.toNat_natCast,Ubf hs,Ubf hg];rfl
 rw[hr]at h;have i0:¬(i:Int)<0:=by omega
 have s0:¬(s:Int)<0:=by omega
 have g0:¬(g:Int)<0:=by omega
 have hve:q.vars[i].enc=.agg [.str q.vars[i].name,.str q.vars[i].kind,iD q.vars[i].schema,.bool q.vars[i].other]:=rfl;simp[Zic,RTab.enc,RQ.enc,RTerm.enc,RSrc.enc,v1,v2,v3,hi,hs,hg,i0,s0,g0,hve,RSchema.enc];have hfe:y.schemas[s].fields[g].enc=.agg [.str y.schemas[s].fields[g].name,y.schemas[s].fields[g].type.enc,.agg [iD y.schemas[s].fields[g].w0,iD y.schemas[s].fields[g].w1,iD y.schemas[s].fields[g].w2,iD y.schemas[s].fields[g].w3]]:=rfl;rw[hfe];simp;exact h
end
end Go.Proofs.YtolkimpelpnpbaaGreatDoor
namespace Go.Py
open Go Go.Ab Go.Lx Go.Sx
def Jf:List RRef->RRef->Nat
 | [],_=>0
 | a::l,r=>if Ya1 a r then Jf l r+1 else 0
theorem X04:∀{l:List RRef} {r:RRef} {k:Nat},k<Jf l r->∃hk:k<l.length,Ya1 l[k] r=true
 | [],r,k,h=>by simp[Jf]at h
 | a::l,r,k,h=>by
  unfold Jf at h;split at h
  ·rename_i ha;cases k with
   | zero=>exact⟨by simp,ha⟩
   | succ k=>
    obtain⟨h1,h2⟩:=X04 (l:=l) (r:=r) (k:=k) (by omega);exact⟨by simp only[List.length_cons]; omega,by simpa using h2⟩
  ·omega
theorem Xny:∀(l:List RRef) (r:RRef),Jf l r<=l.length/\∀hk:Jf l r<l.length,Ya1 l[Jf l r] r=false
 | [],r=>by simp[Jf]
 | a::l,r=>by
  obtain⟨h1,h2⟩:=Xny l r;by_cases ha:Ya1 a r=true
  ·have e:Jf (a::l) r=Jf l r+1:=by rw[Jf,Uby ha]
   refine⟨by rw[e]; simp only[List.length_cons]; omega,fun hk=>?_⟩;simp only[e,List.getElem_cons_succ];exact h2 _
  ·have e:Jf (a::l) r=0:=by rw[Jf,Ubo ha]
   refine⟨by rw[e]; omega,fun hk=>?_⟩;simp only[e,List.getElem_cons_zero];simpa using ha
def X5m (l:List RRef)(r:RRef):List RRef:=if inP l r then l else l.take (Jf l r)++r::l.drop (Jf l r)
end Go.Py
namespace Go.Proofs.YtolkimpelpnpbaaGreatDoor
open Go Go.Ab Go.Lx Go.Sx Go.Py
section
variable {P:Prg} (hP:P.p=Tryz.prog)
include hP
theorem Xtx {l:List RRef}(hl:l.length<=100000)(r:RRef){ob:Xb}{K:V->Prop}(h:K (.d (.list 4 ((X5m l r).map RRef.enc)))):PCall P 59 [.d (.list 4 (l.map RRef.enc)),.d r.enc] ob K:=by
 refine Xg hP mixed (ds:=[.list 4 (l.map RRef.enc),r.enc]) Zp6 Zk7 TOk.nil ?_;have rs:∀s:RRef,s.enc.shape.size=4:=fun s=>rfl;have rz:∀s:RRef,s.enc.sz=4:=fun s=>rfl;simp[Zib,rs,rz];refine⟨rfl,Y07 hP (by omega) (.inl rfl) r ?_⟩;unfold X5m at h;cases hi:inP l r with
 | true=>
  rw[hi,Uby rfl]at h;simp;exact h
 | false=>
  rw[hi,Ubo (by simp)]at h;simp;obtain⟨hn,hat⟩:=Xny l r;refine ALoop.upto (Jf l r) (fun k=>[(0,.d (.list 4 (l.map RRef.enc))),(3,.ptr 0 []),(5,.d (.int .i64 k))])
   (fun _=>[(0,.box 56 (.d r.enc))]) (fun _=>True) trivial (by simp) (by simp) ?_ ?_
  ·intro k hk _ R rn re rr rp;have wr:IntKind.i64.wrap ((k:Int)+1)=(k:Int)+1:=IntWalk.i64_in _ (by omega);obtain⟨hkl,hb⟩:=X04 hk;simp[Xm4,hkl,rs,rz];refine⟨rfl,rfl,rfl,rfl,Xtw hP _ _ ?_⟩;rw[hb];simp[wr];refine rn [] _ _ trivial (by simp) (by simp[Xc]) (by simp[Xc]) (by simp[Xc])
  ·intro _ R re rr rp;by_cases hk:Jf l r<l.length
   ·simp[Xm4,hk,rs,rz];refine⟨rfl,rfl,rfl,rfl,Xtw hP _ _ ?_⟩;rw[hat hk];simp;refine re _ _ _ ?_;simp[rs,rz];have ht:List.take l.length (l.map RRef.enc)=l.map RRef.enc:=Ubk (by simp);have e0:min (Jf l r) l.length+1+(l.length-Jf l r)=min (Jf l r) l.length+(1+(l.length-Jf l r)):=by omega
    simp only[Uca,Uap,Uam,List.map_drop]at h
    repeat' with_reducible refine And.intro ?_ ?_
    all_goals first | rfl | omega | skip
    all_goals (rw[Uby e0,ht]; simp; exact h)
   ·simp[Xm4,hk,rs,rz];refine re _ _ _ ?_;simp[rs,rz];have ht:List.take l.length (l.map RRef.enc)=l.map RRef.enc:=Ubk (by simp);have e0:min (Jf l r) l.length+1+(l.length-Jf l r)=min (Jf l r) l.length+(1+(l.length-Jf l r)):=by omega
    simp only[Uca,Uap,Uam,List.map_drop]at h
    repeat' with_reducible refine And.intro ?_ ?_
    all_goals first | rfl | omega | skip
    all_goals (rw[Uby e0,ht]; simp; exact h)
end
end Go.Proofs.YtolkimpelpnpbaaGreatDoor
namespace Go.Proofs.YtolkimpelpnpbaaGreatDoor
open Go Go.Ab Go.Lx Go.Sx
section
variable {P:Prg} (hP:P.p=Tryz.prog)
include hP
theorem Xvt {l:List RVar}(hl:l.length<=9223372036854775807)(n:B){ob:Xb}{K:V->Prop}(h:K (.d (.int .i64 (Xt RVar.name l n 0)))):PCall P 114 [.d (.list 4 (l.map RVar.enc)),.d (.str n)] ob K:=by
 have wr:∀{k n:Nat},k<n->n<=9223372036854775807->IntKind.i64.wrap ((k:Int)+1)=(k:Int)+1:=fun h1 h2=>IntWalk.i64_in _ (by omega);refine Xg hP mixed (ds:=[.list 4 (l.map RVar.enc),.str n]) Y5s Y25 TOk.nil ?_;simp[Yzq];refine ALoop.go (ι:=Nat) (fun k=>[(0,.d (.list 4 (l.map RVar.enc))),(1,.d (.str n)),(5,.d (.int .i64 k))]) (fun _=>[]) (fun k=>k<=l.length/\∀i (h:i<l.length),i<k->(RVar.name l[i]) ≠ n) (fun k=>l.length-k) 0 ⟨Ubg _,fun i _ h=>by omega⟩ (by simp) (by simp) ?_;rintro k ⟨hk,hn⟩ R rn re rr rp;by_cases hlt:k<l.length
 ·simp[Xqt,hlt,RVar.enc];refine⟨fun e=>rr _ _ ?_,fun e=>rn [] (k+1) _ _ ⟨by omega,fun i hi hj=>?_⟩ (by omega) (by simp[wr hlt hl]) (by simp[Xc]) (by simp[Xc]) (by simp[Xc])⟩
  ·simp;rw[Wn RVar.name n l k hlt hn e]at h;exact h
  ·rcases Uaa i k with h1 | h1
   ·exact hn i hi h1
   ·have:i=k:=by omega
    subst this; exact e
 ·have:k=l.length:=by omega
  subst this;simp[Xqt,RVar.enc];refine re _ _ _ ?_;simp;rw[Y7 RVar.name n l (fun i hi=>hn i hi hi)]at h;exact h
theorem X96 {y:RSrc}(hl:y.schemas.length<=9223372036854775807)(n:B){ob:Xb}{K:V->Prop}(h:K (.d (.int .i64 (Xt RSchema.name y.schemas n 0)))):PCall P 115 [.d y.enc,.d (.str n)] ob K:=by
 have wr:∀{k n:Nat},k<n->n<=9223372036854775807->IntKind.i64.wrap ((k:Int)+1)=(k:Int)+1:=fun h1 h2=>IntWalk.i64_in _ (by omega);refine Xg hP mixed (ds:=[y.enc,.str n]) Y5t Y26 TOk.nil ?_;simp[Yzr,RSrc.enc];refine ALoop.go (ι:=Nat) (fun k=>[(1,.d (.str n)),(2,.ptr 0 []),(5,.d (.int .i64 k))]) (fun _=>[(0,.box 29 (.d y.enc))]) (fun k=>k<=y.schemas.length/\∀i (h:i<y.schemas.length),i<k->(RSchema.name y.schemas[i]) ≠ n) (fun k=>y.schemas.length-k) 0 ⟨Ubg _,fun i _ h=>by omega⟩ (by simp) (by simp[RSrc.enc]) ?_;rintro k ⟨hk,hn⟩ R rn re rr rp;by_cases hlt:k<y.schemas.length
 ·simp[Xqu,hlt,RSchema.enc,RSrc.enc];refine⟨fun e=>rr _ _ ?_,fun e=>rn [] (k+1) _ _ ⟨by omega,fun i hi hj=>?_⟩ (by omega) (by simp[wr hlt hl]) (by simp[Xc,RSrc.enc]) (by simp[Xc]) (by simp[Xc])⟩
  ·simp;rw[Wn RSchema.name n y.schemas k hlt hn e]at h;exact h
  ·rcases Uaa i k with h1 | h1
   ·exact hn i hi h1
   ·have:i=k:=by omega
    subst this; exact e
 ·have:k=y.schemas.length:=by omega
  subst this;simp[Xqu,RSchema.enc,RSrc.enc];refine re _ _ _ ?_;simp;rw[Y7 RSchema.name n y.schemas (fun i hi=>hn i hi hi)]at h;exact h
theorem X3y {y:RSrc}(hl:y.purposes.length<=9223372036854775807)(n:B){ob:Xb}{K:V->Prop}(h:K (.d (.int .i64 (Xt RPurpose.name y.purposes n 0)))):PCall P 57 [.d y.enc,.d (.str n)] ob K:=by
 have wr:∀{k n:Nat},k<n->n<=9223372036854775807->IntKind.i64.wrap ((k:Int)+1)=(k:Int)+1:=fun h1 h2=>IntWalk.i64_in _ (by omega);refine Xg hP mixed (ds:=[y.enc,.str n]) Zp4 Zk5 TOk.nil ?_;simp[Zia,RSrc.enc];refine ALoop.go (ι:=Nat) (fun k=>[(1,.d (.str n)),(2,.ptr 0 []),(5,.d (.int .i64 k))]) (fun _=>[(0,.box 29 (.d y.enc))]) (fun k=>k<=y.purposes.length/\∀i (h:i<y.purposes.length),i<k->(RPurpose.name y.purposes[i]) ≠ n) (fun k=>y.purposes.length-k) 0 ⟨Ubg _,fun i _ h=>by omega⟩ (by simp) (by simp[RSrc.enc]) ?_;rintro k ⟨hk,hn⟩ R rn re rr rp;by_cases hlt:k<y.purposes.length
 ·simp[Xxn,hlt,RPurpose.enc,RSrc.enc];refine⟨fun e=>rr _ _ ?_,fun e=>rn [] (k+1) _ _ ⟨by omega,fun i hi hj=>?_⟩ (by omega) (by simp[wr hlt hl]) (by simp[Xc,RSrc.enc]) (by simp[Xc]) (by simp[Xc])⟩
  ·simp;rw[Wn RPurpose.name n y.purposes k hlt hn e]at h;exact h
  ·rcases Uaa i k with h1 | h1
   ·exact hn i hi h1
   ·have:i=k:=by omega
    subst this; exact e
 ·have:k=y.purposes.length:=by omega
  subst this;simp[Xxn,RPurpose.enc,RSrc.enc];refine re _ _ _ ?_;simp;rw[Y7 RPurpose.name n y.purposes (fun i hi=>hn i hi hi)]at h;exact h
theorem Yk8 {y:RSrc}{s:Nat}(hs:s<y.schemas.length)(hl:y.schemas[s].fields.length<=9223372036854775807)(n:B){ob:Xb}{K:V->Prop}(h:K (.d (.int .i64 (Xt RField.name y.schemas[s].fields n 0)))):PCall P 280 [.d y.enc,.d (.int .i64 s),.d (.str n)] ob K:=by
 have wr:∀{k n:Nat},k<n->n<=9223372036854775807->IntKind.i64.wrap ((k:Int)+1)=(k:Int)+1:=fun h1 h2=>IntWalk.i64_in _ (by omega);refine Xg hP mixed (ds:=[y.enc,.int .i64 s,.str n]) Y82 Y4a TOk.nil ?_;simp[Y0i,RSrc.enc,hs];refine ALoop.go (ι:=Nat) (fun k=>[(1,.d (.int .i64 s)),(2,.d (.str n)),(3,.ptr 0 []),(7,.d (.int .i64 k))]) (fun _=>[(0,.box 29 (.d y.enc))]) (fun k=>k<=y.schemas[s].fields.length/\∀i (h:i<y.schemas[s].fields.length),i<k->(RField.name y.schemas[s].fields[i]) ≠ n) (fun k=>y.schemas[s].fields.length-k) 0 ⟨Ubg _,fun i _ h=>by omega⟩ (by simp) (by simp[RSrc.enc]) ?_;rintro k ⟨hk,hn⟩ R rn re rr rp;by_cases hlt:k<y.schemas[s].fields.length
 ·simp[Xq8,hlt,RField.enc,RSchema.enc,RSrc.enc,hs];refine⟨fun e=>rr _ _ ?_,fun e=>rn [] (k+1) _ _ ⟨by omega,fun i hi hj=>?_⟩ (by omega) (by simp[wr hlt hl]) (by simp[Xc,RSrc.enc,hs]) (by simp[Xc]) (by simp[Xc])⟩
  ·simp;rw[Wn RField.name n y.schemas[s].fields k hlt hn e]at h;exact h
  ·rcases Uaa i k with h1 | h1
   ·exact hn i hi h1
   ·have:i=k:=by omega
    subst this; exact e
 ·have:k=y.schemas[s].fields.length:=by omega
  subst this;simp[Xq8,RField.enc,RSchema.enc,RSrc.enc,hs];refine re _ _ _ ?_;simp;rw[Y7 RField.name n y.schemas[s].fields (fun i hi=>hn i hi hi)]at h;exact h
end
end Go.Proofs.YtolkimpelpnpbaaGreatDoor
namespace Go.Sx
open Go Go.Ab Go.Lx
theorem Xbn {n:Nat}{t:RType}(h:Vi n t=true):-1<=t.unit/\(t.unit=-1\/t.unit<n):=by
 unfold Vi at h;split at h
 ·simp only[Q9,Ubp]at h; omega
 split at h
 ·simp only[Xaa,Ubp]at h; omega
 split at h
 ·simp only[Xab,Ubp]at h; omega
 split at h
 ·simp only[V3,Uai,Ubp]at h; omega
 ·cases h
theorem Xgi {n:Nat}{t:RType}(h:Vi n t=true):(t.kind=1\/t.kind=2\/t.kind=3\/t.kind=4)/\(t.kind ≠ 1->t.unit=-1):=by
 unfold Vi at h;split at h
 ·rename_i e; exact⟨.inl e,fun c=>absurd e c⟩
 split at h
 ·rename_i e; simp only[Xaa,Ubp]at h; exact⟨.inr (.inl e),fun _=>h.2.2.1⟩
 split at h
 ·rename_i e; simp only[Xab,Ubp]at h; exact⟨.inr (.inr (.inl e)),fun _=>h.2.2.1⟩
 split at h
 ·rename_i e; simp only[V3,Uai,Ubp]at h; exact⟨.inr (.inr (.inr e)),fun _=>h.1.2.2.1⟩
 ·cases h
end Go.Sx
namespace Go.Proofs.YtolkimpelpnpbaaGreatDoor
open Go Go.Ab Go.Lx Go.Sx
section
variable {P:Prg} (hP:P.p=Tryz.prog)
include hP
theorem Yxs {y:RSrc}{i:Nat}(hi:i<y.units.length){ob:Xb}{K:V->Prop}(h:K (.d (.bool (Xjc y y.units[i])))):PCall P 314 [.d y.enc,.d (.int .i64 i)] ob K:=by
 refine Xg hP mixed (ds:=[y.enc,.int .i64 i]) Y9s Y4j TOk.nil ?_;obtain⟨u,hu⟩:∃u,u=y.units[i]:=⟨_,rfl⟩
 rw[<-hu]at h;have hge:(y.units.map RUnit.enc)[i]?.getD default=u.enc:=by simp[hi,hu]
 obtain⟨n,o,f,b,s⟩:=u;simp only[Xjc]at h;simp only[RUnit.enc]at hge;by_cases h1:1<=s
 ·by_cases h2:s<=1099511627776
  ·by_cases h3:0<=b
   ·obtain⟨j,rfl⟩:∃j:Nat,b=j:=⟨b.toNat,by omega⟩
    by_cases h4:j<y.units.length
    ·by_cases h5:y.units[j].scale=1
     ·simp[Xug,RSrc.enc,Xo,RUnit.enc,hi,<-hu,h1,h2,h4,h5]at h⊢; exact h
     ·have h5':(y.units[j].scale==1)=false:=by simpa using h5
      simp[Xug,RSrc.enc,Xo,RUnit.enc,hi,<-hu,h1,h2,h4,h5,h5']at h⊢; exact h
    ·simp[Xug,RSrc.enc,Xo,RUnit.enc,hi,<-hu,h1,h2,h4]at h⊢; exact h
   ·simp[Xug,RSrc.enc,Xo,RUnit.enc,hi,<-hu,h1,h2,h3]at h⊢; exact h
  ·simp[Xug,RSrc.enc,Xo,RUnit.enc,hi,<-hu,h1,h2]at h⊢; exact h
 ·simp[Xug,RSrc.enc,Xo,RUnit.enc,hi,<-hu,h1]at h⊢; exact h
theorem Xqe {l:List B}(hl:l.length<=1000000){ob:Xb}{K:V->Prop}(h:K (.d (.bool (decide l.Nodup)))):PCall P 325 [.d (Xo l)] ob K:=by
 have wr:∀{k n:Nat},k<n->n<=1000000->IntKind.i64.wrap ((k:Int)+1)=(k:Int)+1:=fun h1 h2=>IntWalk.i64_in _ (by omega);refine Xg hP mixed (ds:=[Xo l]) Y9v Y4s TOk.nil ?_;simp[Y0u,Xo];refine ALoop.go (ι:=Nat) (fun i=>[(0,.d (.list 1 (l.map D.str))),(3,.d (.int .i64 i))]) (fun _=>[]) (fun i=>i<=l.length/\(l.take i).Nodup) (fun i=>l.length-i) 0 ⟨Ubg _,by simp⟩ (by simp) (by simp) ?_;rintro i ⟨hi,hnd⟩ R rn re rr rp;by_cases hlt:i<l.length
 ·simp[Xre,hlt];refine ALoop.go (ι:=Nat) (fun j=>[(0,.d (.list 1 (l.map D.str))),(3,.d (.int .i64 i)),(4,.d (.int .i64 j))]) (fun _=>[]) (fun j=>j<=i/\∀m (hm:m<l.length),m<j->l[m] ≠ l[i]) (fun j=>i-j) 0 ⟨Ubg _,fun m _ hm=>by omega⟩ (by simp) (by simp) ?_;rintro j ⟨hj,hne⟩ R' rn' re' rr' rp';by_cases hjl:j<i
  ·have hjl':j<l.length:=by omega
   simp[Xrd,hjl,hjl',hlt];refine⟨fun e=>rr' _ _ ?_,fun e=>rn' [] (j+1) _ _ ⟨by omega,fun m hm hmj=>?_⟩ (by omega) (by simp[wr hjl (by omega)]) (by simp[Xc]) (by simp[Xc]) (by simp[Xc])⟩
   ·simp;refine rr _ _ ?_;simp;have:¬l.Nodup:=fun hn=>by
     have:=(List.nodup_iff_pairwise_ne.1 hn)
     have:=List.pairwise_iff_getElem.1 this j i hjl' hlt hjl;exact this e
    rw[Ucp this]at h;exact h
   ·rcases Uaa m j with h1 | h1
    ·exact hne m hm h1
    ·have:m=j:=by omega
     subst this; exact e
  ·have hji:j=i:=by omega
   subst hji;simp[Xrd];refine re' _ _ _ ?_;simp;refine rn [] (j+1) _ _ ⟨by omega,?_⟩ (by omega) (by simp[wr hlt hl]) (by simp[Xc]) (by simp[Xc]) (by simp[Xc]);rw[Ubj hlt,Uco];refine⟨hnd,by simp,fun a ha b hb=>?_⟩;rw[Uci]at hb;subst hb;obtain⟨m,hm,rfl⟩:=Ub5.1 ha;simp at hm;rw[List.getElem_take];exact hne m (by omega) (by omega)
 ·have hil:i=l.length:=by omega
  subst hil;simp[Xre];refine re _ _ _ ?_;simp;rw[Ucq]at hnd;rw[Ucr hnd]at h;exact h
theorem Xqg {a b:List B}(ha:a.length<=9223372036854775807){ob:Xb}{K:V->Prop}(h:K (.d (.bool (decide (a=b))))):PCall P 315 [.d (Xo a),.d (Xo b)] ob K:=by
 have wr:∀{k n:Nat},k<n->n<=9223372036854775807->IntKind.i64.wrap ((k:Int)+1)=(k:Int)+1:=fun h1 h2=>IntWalk.i64_in _ (by omega);refine Xg hP mixed (ds:=[Xo a,Xo b]) Y9t Y4k TOk.nil ?_;by_cases hl:a.length=b.length
 ·simp[Yl9,Xo,hl];refine ALoop.go (ι:=Nat) (fun k=>[(0,.d (.list 1 (a.map D.str))),(1,.d (.list 1 (b.map D.str))),(5,.d (.int .i64 k))]) (fun _=>[]) (fun k=>k<=b.length/\a.take k=b.take k) (fun k=>b.length-k) 0 ⟨Ubg _,by simp⟩ (by simp) (by simp) ?_;rintro k ⟨hk,he⟩ R rn re rr rp;by_cases hlt:k<b.length
  ·have hlt':k<a.length:=by omega
   simp[Xq9,hlt,hlt'];refine⟨fun e=>rr _ _ ?_,fun e=>rn [] (k+1) _ _ ⟨by omega,?_⟩ (by omega) (by simp[wr hlt (by omega)]) (by simp[Xc]) (by simp[Xc]) (by simp[Xc])⟩
   ·simp;have ne:a ≠ b:=fun h=>by subst h; exact e rfl
    rw[Ucp ne]at h;exact h
   ·rw[Ubj hlt',Ubj hlt,he,e]
  ·have:k=b.length:=by omega
   subst this;simp[Xq9,hl];refine re _ _ _ ?_;simp;have e:a=b:=by rw[<-hl,Ucq,hl,Ucq]at he; exact he
   rw[Ucr e]at h;exact h
 ·have hl':¬(a.length:Int)=b.length:=by omega
  have e:a ≠ b:=fun e=>hl (by rw[e]);rw[Ucp e]at h;simp[Yl9,Xo,hl];exact⟨fun _=>h,fun h=>(hl' h).elim⟩
theorem Yxp {y:RSrc}(t:RType)(hn:t.names.length<=9223372036854775807){ob:Xb}{K:V->Prop}(h:K (.d (.bool (Vi y.units.length t)))):PCall P 313 [.d y.enc,.d t.enc] ob K:=by
 refine Xg hP mixed (ds:=[y.enc,t.enc]) Y9r Y4i TOk.nil ?_;have e:∀b,b=Vi y.units.length t->K (.d (.bool b)):=fun b e=>e▸h;obtain⟨k,lo,hi,f,u,ns⟩:=t;simp only at hn;unfold Vi at e;simp only at e;by_cases h1:k=1
 ·simp only[h1,Ubb]at e;simp[Xuf,RSrc.enc,Xo,RType.enc,h1];refine e _ ?_;rw[Ucl];simp[Q9,and_assoc]
 by_cases h2:k=2
 ·simp only[h1,h2,Ubb,Uay]at e;simp[Xuf,RSrc.enc,Xo,RType.enc,h1,h2];refine e _ ?_;rw[Ucl];simp[Xaa,and_assoc]
 by_cases h3:k=3
 ·simp only[h1,h2,h3,Ubb,Uay]at e;simp[Xuf,RSrc.enc,Xo,RType.enc,h1,h2,h3];refine e _ ?_;rw[Ucl];simp[Xab,and_assoc]
 by_cases h4:k=4
 ·simp only[h1,h2,h3,h4,Ubb,Uay]at e;have hw:IntKind.i64.wrap ((ns.length:Int)-1)=(ns.length:Int)-1:=IntWalk.i64_in _ (by omega);by_cases c:lo=0/\hi=(ns.length:Int)-1/\u=-1/\1<=(ns.length:Int)/\(ns.length:Int)<=16
  ·obtain⟨c1,c2,c3,c4,c5⟩:=c;subst c1; subst c2; subst c3;simp[Xuf,RSrc.enc,Xo,RType.enc,h1,h2,h3,h4,hw,c4,c5];refine Xqe hP (l:=ns) (by omega) ?_;simp;refine e _ ?_;have c4':1<=ns.length:=by omega
   have c5':ns.length<=16:=by omega
   simp[V3,c4',c5']
  ·have hk:V3 ⟨4,lo,hi,f,u,ns⟩=false:=by
    simp only[V3,Ucn,Ucc];left;intro c';exact c ⟨c'.1,c'.2.1,c'.2.2.1,by omega,by omega⟩
   rw[hk]at e;simp[Xuf,RSrc.enc,Xo,RType.enc,h1,h2,h3,h4,hw];have hX:(decide (lo=0)&&decide (hi=(ns.length:Int)-1)&&decide (u=-1)&&decide (1<=(ns.length:Int))&&decide ((ns.length:Int)<=16))=false:=by
    rw[Ucm];intro hx;simp only[Uai,Ubp]at hx;exact c ⟨hx.1.1.1.1,hx.1.1.1.2,hx.1.1.2,hx.1.2,hx.2⟩
   refine⟨fun c1 c2 c3 c4 c5=>absurd ⟨c1,c2,c3,c4,c5⟩ c,fun _=>?_⟩;rw[hX];simp;exact e _ rfl
 ·simp only[h1,h2,h3,h4,Uay]at e;simp[Xuf,RSrc.enc,Xo,RType.enc,h1,h2,h3,h4];exact e _ rfl
theorem Yk7 {y:RSrc}(s f:Int){ob:Xb}{K:V->Prop}(h:K (.d (.bool (Z6 y s f).isSome))):PCall P 312 [.d y.enc,.d (.int .i64 s),.d (.int .i64 f)] ob K:=by
 refine Xg hP mixed (ds:=[y.enc,.int .i64 s,.int .i64 f]) Y9q Y4h TOk.nil ?_;by_cases h1:0<=s
 ·obtain⟨i,rfl⟩:∃i:Nat,s=i:=⟨s.toNat,by omega⟩
  by_cases h2:i<y.schemas.length
  ·by_cases h3:0<=f
   ·obtain⟨j,rfl⟩:∃j:Nat,f=j:=⟨f.toNat,by omega⟩
    have hn1:¬((i:Int)<0\/(j:Int)<0):=by omega
    by_cases h4:j<y.schemas[i].fields.length
    ·simp[Z6,hn1,h2,h4]at h;simp[Xw2,RSrc.enc,RSchema.enc,h2,h4];exact h
    ·simp[Z6,hn1,h2,h4]at h;simp[Xw2,RSrc.enc,RSchema.enc,h2,h4];exact h
   ·have hn1:((i:Int)<0\/f<0):=by omega
    simp[Z6,hn1]at h;simp[Xw2,RSrc.enc,RSchema.enc,h2,h3];exact h
  ·simp[Z6,h2]at h;simp[Xw2,RSrc.enc,RSchema.enc,h2];exact h
 ·have hn1:(s<0\/f<0):=by omega
  simp[Z6,hn1]at h;simp[Xw2,RSrc.enc,RSchema.enc,h1];exact h
theorem Xi1 {y:RSrc}{s f:Nat}(hs:s<y.schemas.length)(hf:f<y.schemas[s].fields.length){ob:Xb}{K:V->Prop}(h:K (.d (y.schemas[s].fields[f].type.enc))):PCall P 283 [.d y.enc,.d (.int .i64 s),.d (.int .i64 f)] ob K:=by
 refine Xg hP mixed (ds:=[y.enc,.int .i64 s,.int .i64 f]) Y85 Y4d TOk.nil ?_;simp[Y0k,RSrc.enc,RSchema.enc,RField.enc,hs,hf];exact⟨⟨by simp[RType.enc,D.sz,Raa],rfl⟩,rfl,rfl,rfl,h⟩
theorem X30 {y:RSrc}(hy:y.small)(r:Int×Int){ob:Xb}{K:V->Prop}(h:K (.d (.bool (Ym y r.1 r.2).isSome))):PCall P 281 [.d y.enc,.d (pRD r)] ob K:=by
 refine Xg hP mixed (ds:=[y.enc,pRD r]) Y83 Y4b TOk.nil ?_;obtain⟨s,f⟩:=r;simp only at h;have hys:y.enc.shape.size=6:=rfl;simp[Y0j,pRD];refine⟨⟨rfl,rfl⟩,Yk7 hP s f ?_⟩;cases hf:Z6 y s f with
 | none=>
  simp only[Ym,hf,Option.isSome_none]at h;simp;exact h
 | some x=>
  have hf':=hf;unfold Z6 at hf';split at hf'
  ·cases hf'
  rename_i hn;obtain⟨c,hc,hx⟩:=Ucw.1 hf';obtain⟨i,rfl⟩:∃i:Nat,s=i:=⟨s.toNat,by omega⟩
  obtain⟨j,rfl⟩:∃j:Nat,f=j:=⟨f.toNat,by omega⟩
  obtain⟨hi,rfl⟩:=Uan.1 hc;obtain⟨hj,rfl⟩:=Uan.1 hx;simp only[Int.toNat_natCast]at hi hj hc hx hf hf';simp only[Int.toNat_natCast,Ym,hf]at h;simp;refine⟨⟨rfl,rfl⟩,Xi1 hP hi hj ?_⟩;obtain⟨t,ht⟩:∃t,t=y.schemas[i].fields[j].type:=⟨_,rfl⟩
  have hnl:t.names.length<=9223372036854775807:=by
   rw[ht];exact (hy.schema _ (Uba hi)).names _ (Uba hj)
  rw[<-ht]at h⊢;have hts:t.enc.shape=.node [.leaf,.leaf,.leaf,.leaf,.leaf,.leaf]:=rfl;have htk:(V.d t.enc).kids=some [.d (iD t.kind),.d (iD t.lo),.d (iD t.hi),.d (.str t.of_),.d (iD t.unit),.d (Xo t.names)]:=rfl;simp[hts,htk];refine⟨rfl,⟨rfl,rfl⟩,rfl,⟨rfl,rfl⟩,Yxp hP t hnl ?_⟩;cases hty:Vi y.units.length t with
  | false=>
   simp only[hty,Bool.false_and,Uah,Uay,Option.isSome_none]at h;simp;exact h
  | true=>
   simp only[hty,Ucv]at h;have hu:=Xbn hty;by_cases h1:t.unit=-1
   ·have h2:decide (t.unit<0)=true:=by simp; omega
    simp only[h2,Bool.true_or,Ubb,Option.isSome_some]at h;simp[h1];exact h
   ·obtain⟨m,hm⟩:∃m:Nat,t.unit=m:=⟨t.unit.toNat,by omega⟩
    have hml:m<y.units.length:=by omega
    have h2:decide (t.unit<0)=false:=by simp; omega
    rw[hm]at h2;simp only[hm,h2,Bool.false_or,Int.toNat_natCast,Ubf hml]at h;have h3:¬(m:Int)=-1:=by omega
    simp[hm,h3];refine⟨⟨rfl,rfl⟩,Yxs hP hml ?_⟩;cases hub:Xjc y y.units[m]with
    | true=>
     simp only[hub,Ubb,Option.isSome_some]at h;simp;exact h
    | false=>
     simp only[hub,Uah,Uay,Option.isSome_none]at h;simp;exact h
theorem Xme {y:RSrc}{t u:RType}(ht:Vi y.units.length t=true)(hu:Vi y.units.length u=true)(hl:t.names.length<=9223372036854775807){ob:Xb}{K:V->Prop}(h:K (.d (.bool (Xuu y t u)))):PCall P 282 [.d y.enc,.d t.enc,.d u.enc] ob K:=by
 refine Xg hP mixed (ds:=[y.enc,t.enc,u.enc]) Y84 Y4c TOk.nil ?_;have h1:=Xbn ht;have h2:=Xbn hu;have k1:=Xgi ht;have k2:=Xgi hu;obtain⟨ka,loa,hia,fa,ua,na⟩:=t;obtain⟨kb,lob,hib,fb,ub,nb⟩:=u;simp only at h1 h2 k1 k2 hl;unfold Xuu at h;simp only at h;by_cases hk:ka=kb
 ·subst hk;simp only[ne_eq,not_true,Uay]at h;by_cases hk1:ka=1
  ·subst hk1;simp only[show ¬(1:Int)=4 by decide,not_true,Uay,false_or]at h;by_cases ha:ua=-1
   ·by_cases hb:ub=-1
    ·subst ha; subst hb;simp at h;simp[Xm2,RType.enc];exact h
    ·subst ha;have hb':¬(-1:Int)=ub:=fun e=>hb e.symm;simp[hb']at h;simp[Xm2,RType.enc,hb];exact h
   ·by_cases hb:ub=-1
    ·subst hb;simp[ha]at h;simp[Xm2,RType.enc,ha];exact h
    ·obtain⟨m,rfl⟩:∃m:Nat,ua=m:=⟨ua.toNat,by omega⟩
     obtain⟨m',rfl⟩:∃m':Nat,ub=m':=⟨ub.toNat,by omega⟩
     have hm:m<y.units.length:=by omega
     have hm':m'<y.units.length:=by omega
     simp[ha,hb,Xm9,hm,hm']at h;simp[Xm2,RType.enc,RSrc.enc,RUnit.enc,ha,hb,hm,hm'];exact h
  ·by_cases hk4:ka=4
   ·subst hk4;simp only[Ubb]at h;simp[Xm2,RType.enc];refine⟨rfl,rfl,rfl,rfl,Xqg hP hl ?_⟩;simp;exact h
   ·have e1:=k1.2 hk1;have e2:=k2.2 hk1;simp only[hk4,hk1,not_false_eq_true,true_or,Ubb,Uay,e1,e2]at h;have hk5:(ka != 4)=true:=by simpa using hk4
    simp[Xm2,RType.enc,hk1,hk4,hk5];simpa using h
 ·simp only[ne_eq,hk,not_false_eq_true,Ubb]at h;simp[Xm2,RType.enc,hk];exact h
end
end Go.Proofs.YtolkimpelpnpbaaGreatDoor
namespace Go.Lx
open Go Go.Ab
def Xit:Int->List UInt8->Option Int
 | n,[]=>some n
 | n,c::r=>if 1099511627776<10*n+(c.toNat-48) then none else Xit (10*n+(c.toNat-48)) r
theorem Xvp {s:List UInt8}{k:Nat}{n:Int}(h:k<s.length):Xit n (s.drop k)=if 1099511627776<10*n+((s[k]?.getD 0).toNat-48) then none else Xit (10*n+((s[k]?.getD 0).toNat-48)) (s.drop (k+1)):=by
 rw[Uaf h];simp[Xit,h]
end Go.Lx
namespace Go.Proofs.YtolkimpelpnpbaaGreatDoor
open Go Go.Ab Go.Lx
section
variable {P:Prg} (hP:P.p=Tryz.prog)
include hP
theorem Ye3:PFn P 55 (fnS Yq):=Ybe fun s ob K h=>by
 refine Xg hP mixed (ds:=[.str s]) Zgj Zk3 (TOk.cons (Xrw hP) (TOk.cons (Ymp hP) TOk.nil)) ?_;have h':∀b,b=Yq s->K (.d (.bool b)):=fun b e=>e▸h;clear h;simp[Zh8];refine⟨fun h1 h2=>by omega,fun hne=>h' _ ?_,fun h1 h2 h3=>?_⟩
 ·rcases hne with h1 | h1
  ·simp[Yq]; omega
  ·simp[Yq,h1]
 ·refine ALoop.go (ι:=Nat) (fun k=>[(0,.d (.str s)),(3,.d (.int .i64 k))]) (fun _=>[]) (fun k=>k<=s.length/\∀i,i<k->Xeb (s[i]?.getD 0).toNat=true) (fun k=>s.length-k) 0 ⟨by omega,by omega⟩ (by simp) rfl ?_;rintro k ⟨hk,hp⟩ R rn re rr _;simp[Yd1];refine⟨fun hlt=>⟨hlt,fun e=>rr _ _ ?_,fun e=>rn [] (k+1) _ _ ⟨by omega,fun i hi=>?_⟩ (by omega) ?_ rfl rfl rfl⟩,fun hge=>re _ _ _ ?_⟩
  ·simp;refine h' _ (Eq.symm ?_);rw[Ucm];intro hn;simp only[Yq,Uai,Xgq,Ub3]at hn;rw[hn.2 k hlt]at e; cases e
  ·by_cases hi':i=k
   ·subst hi'; exact e
   ·exact hp i (by omega)
  ·simp; exact IntWalk.i64_in _ (by omega)
  ·have hk':k=s.length:=by omega
   subst hk';simp;refine h' _ (Eq.symm ?_);simp only[Yq,Uai,Xgq,Ub3];exact⟨⟨by simp; omega,h3⟩,hp⟩
end
end Go.Proofs.YtolkimpelpnpbaaGreatDoor
namespace Go.Sx
open Go Go.Ab Go.Lx
def fieldsOf (y:RSrc)(v:RVar):List RField:=match y.schemas[v.schema.toNat]? with | some c=>c.fields | none=>[]
end Go.Sx
namespace Go.Sx
open Go Go.Ab Go.Lx
def Wq (y:RSrc)(vs:List RVar)(x:RTerm):Bool:=
 if x.var=-1 then decide (x.name=[])&&decide (x.path=[])&&decide (x.field=0)&&decide (0<=x.n)&&decide (x.n<=1048576)
 else if x.var<0 then false
 else match vs[x.var.toNat]? with
  | some v=>decide (v.name=x.name)&&decide (x.n=0)&&Yq x.path&&decide (0<=x.field)&&decide (x.field=Xt RField.name (fieldsOf y v) x.path 0)
  | none=>false
def refP (vs:List RVar)(x:RTerm):Int×Int:=
 if x.var=-1 then (0,0) else match vs[x.var.toNat]? with | some v=>(v.schema,x.field) | none=>(0,0)
theorem Xt7 {y:RSrc}{vs:List RVar}{x:RTerm}(h:Wq y vs x=true)(hn:x.var ≠ -1):∃(i:Nat) (hi:i<vs.length),x.var=i/\vs[i].name=x.name/\x.n=0/\Yq x.path=true/\0<=x.field/\x.field=Xt RField.name (fieldsOf y vs[i]) x.path 0:=by
 unfold Wq at h;rw[Ubo hn]at h;split at h
 ·cases h
 rename_i h0;obtain⟨i,hi⟩:∃i:Nat,x.var=i:=⟨x.var.toNat,by omega⟩
 rw[hi,Int.toNat_natCast]at h;split at h
 ·rename_i v hv;obtain⟨hl,rfl⟩:=Uan.1 hv;simp only[Uai,Ubp]at h;exact⟨i,hl,hi,h.1.1.1.1,h.1.1.1.2,h.1.1.2,h.1.2,h.2⟩
 ·cases h
theorem X47 {y:RSrc}{vs:List RVar}{x:RTerm}(hn:x.var=-1):Wq y vs x=x.isNum:=by
 unfold Wq;rw[Uby hn,RTerm.isNum,Ucl];simp[hn]
theorem Xcz {y:RSrc}{vs:List RVar}{x:RTerm}(hn:x.var=-1):refO y vs x=none:=by
 cases hr:refO y vs x with
 | none=>rfl
 | some r=>
  obtain⟨i,_,_,_,_,_,e,_⟩:=Qb hr;omega
theorem Xfv {vs:List RVar}{y:RSrc}(hv:Z2 y vs=true){i:Nat}(hi:i<vs.length):Xt RVar.name vs vs[i].name 0=i:=by
 have:=Qx hv i hi;simp only[Xbo,Uai,Ubp]at this;exact this.2
theorem X3e {vs:List RVar}{y:RSrc}(hv:Z2 y vs=true){i:Nat}(hi:i<vs.length):Yq vs[i].name=true:=by
 have:=Qx hv i hi;simp only[Xbo,Uai,Ubp]at this;exact this.1.2
theorem Xt1 {vs:List RVar}{y:RSrc}(hv:Z2 y vs=true){i:Nat}(hi:i<vs.length):∃(s:Nat) (hs:s<y.schemas.length),vs[i].schema=s/\fieldsOf y vs[i]=y.schemas[s].fields:=by
 obtain⟨s,hs,e,_⟩:=X5d (Qx hv i hi);exact⟨s,hs,e,by simp[fieldsOf,e,hs]⟩
theorem Qf {y:RSrc}{vs:List RVar}{x:RTerm}(hv:Z2 y vs=true)(hn:x.var ≠ -1):refO y vs x=if Wq y vs x then some (refP vs x) else none:=by
 cases h:Wq y vs x with
 | true=>
  obtain⟨i,hi,e1,e2,e3,e4,e5,e6⟩:=Xt7 h hn;obtain⟨s,hs,f1,f2⟩:=Xt1 hv hi;have hf:=Xfv hv hi;have hnm:=X3e hv hi;have hi0:¬(i:Int)<0:=by omega
  have hf0:¬Xt RField.name y.schemas[s].fields x.path 0<0:=by rw[<-f2,<-e6]; omega
  have hr:refP vs x=(vs[i].schema,x.field):=by simp[refP,hn,e1,hi,show ¬(i:Int)=-1 by omega]
  rw[hr];unfold refO;rw[e2]at hf hnm;rw[f2]at e6;simp[hf,hnm,e4,e3,hi,e1,f1,hs,<-e6];omega
 | false=>
  simp only[Uah,Uay];cases hr:refO y vs x with
  | none=>rfl
  | some r=>
   exfalso;obtain⟨i,hi,s,hs,g,hg,e1,e2,e3,e4,e5,e6,e7⟩:=Qb hr;unfold refO at hr;split at hr
   ·rename_i hc;simp only[Uai,Ubp]at hc;have hf:=Xfv hv hi;rw[e2]at hf;rw[hf]at hr;have hi0:¬(i:Int)<0:=by omega
    obtain⟨s',hs',f1,f2⟩:=Xt1 hv hi;simp only[Int.toNat_natCast,Ubf hi,f1,Ubf hs']at hr;split at hr
    ·cases hr
    split at hr
    ·cases hr
    rename_i g1 g2;have:Wq y vs x=true:=by
     unfold Wq;rw[Ubo hn,Ubo (by omega),e1];simp only[Int.toNat_natCast,Ubf hi,f2,hc.1.2,hc.2,e2,Uai,Ubp];simp only[not_or,Decidable.not_not]at g2;exact⟨⟨⟨⟨trivial,trivial⟩,trivial⟩,by omega⟩,g2.2.symm⟩
    rw[this]at h; cases h
   ·cases hr
theorem Yan {y:RSrc}{vs:List RVar}{x:RTerm}(hv:Z2 y vs=true):Wq y vs x=((refO y vs x).isSome||x.isNum):=by
 by_cases hn:x.var=-1
 ·rw[X47 hn,Xcz hn]; rfl
 ·rw[Qf hv hn];have:x.isNum=false:=by simp[RTerm.isNum,hn]
  rw[this];cases Wq y vs x<;>rfl
theorem Xmp {y:RSrc}(hy:y.small){s f:Int}{t:RType}(h:Ym y s f=some t):∃(i:Nat) (hi:i<y.schemas.length) (j:Nat) (hj:j<y.schemas[i].fields.length),s=i/\f=j/\y.schemas[i].fields[j].type=t/\Vi y.units.length t=true/\t.names.length<=9223372036854775807:=by
 have ht:=Go.Proofs.YtolkimpelpnpbaaGreatDoor.usable_unit h;cases hf:Z6 y s f with
 | none=>simp[Ym,hf]at h
 | some x=>
  simp only[Ym,hf,Option.ite_none_right_eq_some,Uaq]at h;obtain⟨_,rfl⟩:=h;unfold Z6 at hf;split at hf
  ·cases hf
  rename_i hn;obtain⟨c,hc,hx⟩:=Ucw.1 hf;obtain⟨hi,rfl⟩:=Uan.1 hc;obtain⟨hj,rfl⟩:=Uan.1 hx;exact⟨s.toNat,hi,f.toNat,hj,by omega,by omega,rfl,ht,(hy.schema _ (Uba hi)).names _ (Uba hj)⟩
theorem Xqi {y:RSrc}{vs:List RVar}{x:RTerm}(hv:Z2 y vs=true)(hn:x.var ≠ -1)(h:Wq y vs x=true):inR y (refP vs x):=by
 have:=Qf hv hn;rw[h,Uby rfl]at this;exact Jo (Xaw hv).1 this
end Go.Sx
namespace Go.Proofs.YtolkimpelpnpbaaGreatDoor
open Go Go.Ab Go.Lx Go.Sx
section
variable {P:Prg} (hP:P.p=Tryz.prog)
include hP
theorem X3v (s:B){ob:Xb}{K:V->Prop}(h:K (.d (.bool (Yq s)))):PCall P 55 [.d (.str s)] ob K:=(Ye3 hP) _ (by simp) _ _ (by simpa using h)
theorem Yk6 {y:RSrc}(hy:y.small)(r s:Int×Int){ob:Xb}{K:V->Prop}(h:K (.d (.bool (W7 y r.1 r.2 s.1 s.2)))):PCall P 211 [.d y.enc,.d (pRD r),.d (pRD s)] ob K:=by
 refine Xg hP mixed (ds:=[y.enc,pRD r,pRD s]) Y7q Y3u TOk.nil ?_;have hys:y.enc.shape.size=6:=rfl;simp[Yz7,pRD];refine⟨⟨rfl,rfl⟩,X30 hP hy r ?_⟩;cases h1:Ym y r.1 r.2 with
 | none=>
  simp only[W7,h1]at h;simp;exact h
 | some t=>
  simp;refine⟨⟨rfl,rfl⟩,X30 hP hy s ?_⟩;cases h2:Ym y s.1 s.2 with
  | none=>
   simp only[W7,h1,h2]at h;simp;exact h
  | some u=>
   simp only[W7,h1,h2]at h;obtain⟨i,hi,j,hj,e1,e2,e3,b1,b2⟩:=Xmp hy h1;obtain⟨i',hi',j',hj',f1,f2,f3,b3,b4⟩:=Xmp hy h2;simp[e1,e2,f1,f2];refine⟨⟨rfl,rfl⟩,Xi1 hP hi hj ?_⟩;have hts:t.enc.shape=.node [.leaf,.leaf,.leaf,.leaf,.leaf,.leaf]:=rfl;rw[e3];refine Xi1 hP hi' hj' ?_;rw[f3];refine Xme hP b1 b3 b2 ?_;simp;exact h
theorem Y95 {vs:List RVar}(x:RTerm)(hx:x.var=-1\/∃i:Nat,x.var=i/\i<vs.length){ob:Xb}{K:V->Prop}(h:K (.d (pRD (refP vs x)))):PCall P 210 [.d (.list 4 (vs.map RVar.enc)),.d x.enc] ob K:=by
 refine Xg hP mixed (ds:=[.list 4 (vs.map RVar.enc),x.enc]) Y7p Y3t TOk.nil ?_;unfold refP at h;by_cases h1:x.var=-1
 ·simp only[h1,Ubb,pRD]at h;simp[Yl6,RTerm.enc,h1];exact h
 ·obtain⟨i,hi,hl⟩:=hx.resolve_left h1;have h1':¬(i:Int)=-1:=by omega
  simp only[hi,h1',Uay,Int.toNat_natCast,Ubf hl,pRD]at h;simp[Yl6,RTerm.enc,hi,h1',hl,RVar.enc];exact h
theorem Wp {y:RSrc}{r:Int×Int}(hr:inR y r){ob:Xb}{K:V->Prop}(h:K (.d (.bool (decide (Wt y r=1)||decide (Wt y r=2))))):PCall P 212 [.d y.enc,.d (pRD r)] ob K:=by
 refine Xg hP mixed (ds:=[y.enc,pRD r]) Y7r Y3v TOk.nil ?_;obtain⟨s,hs,g,h1,h2,hg⟩:=hr;have e0:¬((s:Int)<0\/(g:Int)<0):=by omega
 simp only[Wt,Z6,h1,h2,e0,Uay,Int.toNat_natCast,Ubf hs,Option.bind_some,Ubf hg]at h;simp[Yz8,pRD,h1,h2,hs,hg,RSrc.enc,RSchema.enc,RField.enc,RType.enc];exact h
theorem Yk9 {y:RSrc}(hy:y.small){vs:List RVar}(hv:Xax y vs)(x:RTerm){ob:Xb}{K:V->Prop}(h:K (.d (.bool (Wq y vs x)))):PCall P 209 [.d y.enc,.d (.list 4 (vs.map RVar.enc)),.d x.enc] ob K:=by
 refine Xg hP mixed (ds:=[y.enc,.list 4 (vs.map RVar.enc),x.enc]) Y7o Y3s TOk.nil ?_;have hys:y.enc.shape.size=6:=rfl;have cN:=X3v hP;obtain⟨nm,pa,va,fi,n⟩:=x;unfold Wq at h;simp only at h;by_cases h1:va=-1
 ·simp only[h1,Ubb]at h;have e:∀b,b=(decide (nm=[])&&decide (pa=[])&&decide (fi=0)&&decide (0<=n)&&decide (n<=1048576))->K (.d (.bool b)):=fun b e=>e▸h;simp[Xjp,RTerm.enc,h1];refine e _ ?_
  all_goals rw[Ucl]
  all_goals simp[and_assoc]
 rw[Ubo h1]at h;by_cases h2:va<0
 ·rw[Uby h2]at h;simp[Xjp,RTerm.enc,h1,h2];exact h
 rw[Ubo h2]at h;obtain⟨i,rfl⟩:∃i:Nat,va=i:=⟨va.toNat,by omega⟩
 rw[Int.toNat_natCast]at h;have hi0:¬(i:Int)<0:=by omega
 by_cases h3:i<vs.length
 ·have h3n:¬vs.length<=i:=by omega
  obtain⟨s,hs1,hs2⟩:=hv _ (Uba h3);have hfo:fieldsOf y vs[i]=y.schemas[s].fields:=by simp[fieldsOf,hs1,hs2]
  simp only[Ubf h3,hfo]at h;by_cases h4:vs[i].name=nm
  ·by_cases h5:n=0
   ·cases h6:Yq pa with
    | true=>
     by_cases h7:0<=fi
     ·simp[h4,h5,h6,h7]at h;simp[Xjp,RTerm.enc,h1,hi0,h3n,h3,h4,h5,h7,RVar.enc];refine cN _ ?_;simp[h6,hs1];refine⟨⟨rfl,rfl⟩,Yk8 hP hs2 ((hy.schema _ (Uba hs2)).fields) pa ?_⟩;simp;exact h
     ·simp[h4,h5,h6,h7]at h;simp[Xjp,RTerm.enc,h1,hi0,h3n,h3,h4,h5,h7,RVar.enc];refine cN _ ?_;simp[h6,hs1];exact h
    | false=>
     simp[h6]at h;simp[Xjp,RTerm.enc,h1,hi0,h3n,h3,h4,h5,RVar.enc];refine cN _ ?_;simp[h6];exact h
   ·simp[h4,h5]at h;have h5':(n != 0)=true:=by simpa using h5
    simp[Xjp,RTerm.enc,h1,hi0,h3n,h3,h4,h5,h5',RVar.enc];exact h
  ·simp[h4]at h;simp[Xjp,RTerm.enc,h1,hi0,h3n,h3,h4,RVar.enc];exact h
 ·have h3':(vs.length:Int)<=i:=by omega
  rw[Ucj (by omega)]at h;simp[Xjp,RTerm.enc,h1,h3,h3',hi0];exact h
set_option maxHeartbeats 1000000 in
theorem Yxq {y:RSrc}(hy:y.small){vs:List RVar}(hv:Z2 y vs=true)(a:RAtom){ob:Xb}{K:V->Prop}(h:K (.d (.bool (Wk y vs a)))):PCall P 116 [.d y.enc,.d (.list 4 (vs.map RVar.enc)),.d a.enc] ob K:=by
 refine Xg hP mixed (ds:=[y.enc,.list 4 (vs.map RVar.enc),a.enc]) Y5u Y27 TOk.nil ?_;have hys:y.enc.shape.size=6:=rfl;have hin:=(Xaw hv).1;have cT:∀x:RTerm,∀{ob:Xb} {K:V->Prop},K (.d (.bool (Wq y vs x)))->PCall P 209 [.d y.enc,.d (.list 4 (vs.map RVar.enc)),.d x.enc] ob K:=fun x _ _ h=>Yk9 hP hy hin x h;have cR:∀x:RTerm,Wq y vs x=true->∀{d:D},x.enc=d->∀{ob:Xb} {K:V->Prop},K (.d (pRD (refP vs x)))->PCall P 210 [.d (.list 4 (vs.map RVar.enc)),.d d] ob K:=by
  intro x hx d hd ob K h;subst hd;refine Y95 hP x ?_ h;by_cases e:x.var=-1
  ·exact .inl e
  ·obtain⟨i,hi,e1,_⟩:=Xt7 hx e;exact .inr ⟨i,e1,hi⟩
 obtain⟨op,ta,tb⟩:=a;unfold Wk at h;simp only[<-Yan hv]at h;by_cases h1:1<=op
 ·by_cases h2:op<=4
  ·have g1:¬op<1:=by omega
   have g2:¬4<op:=by omega
   simp[Ydr,RAtom.enc,RTerm.enc,g1,g2];refine⟨⟨rfl,rfl⟩,cT ta ?_⟩;cases ha:Wq y vs ta with
   | false=>
    simp[ha]at h;simp[g1,g2];exact h
   | true=>
    simp[g1,g2];refine⟨⟨rfl,rfl⟩,cT tb ?_⟩;cases hb:Wq y vs tb with
    | false=>
     simp[hb]at h;simp[g1,g2];exact h
    | true=>
     rw[ha,hb]at h;simp only[h1,h2,Ucu,Ucv,Bool.and_true,Bool.true_or]at h;by_cases va:ta.var=-1
     ·have ra:=Xcz (y:=y) (vs:=vs) va;by_cases vb:tb.var=-1
      ·have rb:=Xcz (y:=y) (vs:=vs) vb;simp[ra,rb]at h;simp[g1,g2,va,vb];exact h
      ·have rb:=Qf hv vb;rw[hb,Uby rfl]at rb;have vb':(tb.var != -1)=true/\(tb.var==-1)=false:=⟨by simpa using vb,by simpa using vb⟩
       have ib:=Xqi hv vb hb;simp[ra,rb,Yde]at h;simp[g1,g2,va,vb,vb'];refine cR ta ha (by simp[RTerm.enc,va]) ?_;simp;refine⟨rfl,cR tb hb (by simp[RTerm.enc,vb]) ?_⟩;by_cases o2:op=2
       ·simp[o2]at h;simp[pRD,o2,va,vb,vb'];refine⟨⟨rfl,rfl⟩,Wp hP ib ?_⟩;simp;exact h
       by_cases o3:op=3
       ·simp[o3]at h;simp[pRD,o3,va,vb,vb'];refine⟨⟨rfl,rfl⟩,Wp hP ib ?_⟩;simp;exact h
       have o2':(op != 2)=true:=by simpa using o2
       have o3':(op != 3)=true:=by simpa using o3
       simp[o2,o3]at h;simp[pRD,o2,o3,o2',o3',va,vb,vb'];exact h
     ·have ra:=Qf hv va;rw[ha,Uby rfl]at ra;have va':(ta.var != -1)=true/\(ta.var==-1)=false:=⟨by simpa using va,by simpa using va⟩
      have ia:=Xqi hv va ha;by_cases vb:tb.var=-1
      ·have rb:=Xcz (y:=y) (vs:=vs) vb;simp[ra,rb,Yde]at h;simp[g1,g2,va,vb,va'];refine cR ta ha (by simp[RTerm.enc,va]) ?_;simp;refine⟨rfl,cR tb hb (by simp[RTerm.enc,vb]) ?_⟩;by_cases o2:op=2
       ·simp[o2]at h;simp[pRD,o2,va,vb,va'];refine⟨⟨rfl,rfl⟩,Wp hP ia ?_⟩;have h':K (.d (.bool (decide (Wt y (refP vs ta)=1)||decide (Wt y (refP vs ta)=2)))):=by simpa using h
        clear h;cases ca:(decide (Wt y (refP vs ta)=1)||decide (Wt y (refP vs ta)=2)) with
        | false=>rw[ca]at h'; simp[va,vb,va']; exact h'
        | true=>rw[ca]at h'; simp[va,vb,va']; exact h'
       by_cases o3:op=3
       ·simp[o3]at h;simp[pRD,o3,va,vb,va'];refine⟨⟨rfl,rfl⟩,Wp hP ia ?_⟩;have h':K (.d (.bool (decide (Wt y (refP vs ta)=1)||decide (Wt y (refP vs ta)=2)))):=by simpa using h
        clear h;cases ca:(decide (Wt y (refP vs ta)=1)||decide (Wt y (refP vs ta)=2)) with
        | false=>rw[ca]at h'; simp[va,vb,va']; exact h'
        | true=>rw[ca]at h'; simp[va,vb,va']; exact h'
       have o2':(op != 2)=true:=by simpa using o2
       have o3':(op != 3)=true:=by simpa using o3
       simp[o2,o3]at h;simp[pRD,o2,o3,o2',o3',va,vb,va'];exact h
      ·have rb:=Qf hv vb;rw[hb,Uby rfl]at rb;have vb':(tb.var != -1)=true/\(tb.var==-1)=false:=⟨by simpa using vb,by simpa using vb⟩
       have ib:=Xqi hv vb hb;simp only[ra,rb,Yde]at h;simp[g1,g2,va,vb,va',vb'];refine cR ta ha (by simp[RTerm.enc,va]) ?_;simp;refine⟨rfl,cR tb hb (by simp[RTerm.enc,vb]) ?_⟩;simp[pRD,va,vb,va',vb'];refine⟨⟨rfl,rfl⟩,Yk6 hP hy (refP vs ta) (refP vs tb) ?_⟩;cases hal:W7 y (refP vs ta).1 (refP vs ta).2 (refP vs tb).1 (refP vs tb).2 with
       | false=>
        simp[hal]at h;simp;exact h
       | true=>
        by_cases o2:op=2
        ·simp only[o2,hal,Ucu,Bool.true_or,Bool.not_true,Bool.false_or,Ucv]at h;simp[o2,va,vb,va',vb'];refine⟨⟨rfl,rfl⟩,Wp hP ia ?_⟩;cases ca:(decide (Wt y (refP vs ta)=1)||decide (Wt y (refP vs ta)=2)) with
         | false=>
          have c1:¬Wt y (refP vs ta)=1:=fun e=>by rw[e]at ca; simp at ca
          have c2:¬Wt y (refP vs ta)=2:=fun e=>by rw[e]at ca; simp at ca
          simp[c1,c2]at h;simp[va,vb,va',vb'];exact h
         | true=>
          simp only[ca,Ucv]at h;simp[va,vb,va',vb'];refine⟨⟨rfl,rfl⟩,Wp hP ib ?_⟩;simp;simpa using h
        by_cases o3:op=3
        ·simp only[o3,hal,Ucu,Bool.or_true,Bool.not_true,Bool.false_or,Ucv]at h;simp[o3,va,vb,va',vb'];refine⟨⟨rfl,rfl⟩,Wp hP ia ?_⟩;cases ca:(decide (Wt y (refP vs ta)=1)||decide (Wt y (refP vs ta)=2)) with
         | false=>
          have c1:¬Wt y (refP vs ta)=1:=fun e=>by rw[e]at ca; simp at ca
          have c2:¬Wt y (refP vs ta)=2:=fun e=>by rw[e]at ca; simp at ca
          simp[c1,c2]at h;simp[va,vb,va',vb'];exact h
         | true=>
          simp only[ca,Ucv]at h;simp[va,vb,va',vb'];refine⟨⟨rfl,rfl⟩,Wp hP ib ?_⟩;simp;simpa using h
        have o2':(op != 2)=true:=by simpa using o2
        have o3':(op != 3)=true:=by simpa using o3
        simp[o2,o3,hal]at h;simp[o2,o3,o2',o3'];exact h
  ·have g1:¬op<1:=by omega
   have g2:4<op:=by omega
   simp[h2]at h;simp[Ydr,RAtom.enc,g1,g2];exact h
 ·have g1:op<1:=by omega
  simp[h1]at h;simp[Ydr,RAtom.enc,g1];exact h
end
end Go.Proofs.YtolkimpelpnpbaaGreatDoor
namespace Go.Proofs.YtolkimpelpnpbaaGreatDoor
open Go Go.Ab Go.Lx Go.Sx
section
variable {P:Prg} (hP:P.p=Tryz.prog)
include hP
theorem Yes {t:RTab}(ht:t.src.small)(ho:t.order.length<=9223372036854775807){q:RQ}(hq:q.small){ob:Xb}{K:V->Prop}(h:∀b:Bool,(b=true->q.vars.length<=6)->K (.d (.bool b))):PCall P 9 [.d t.enc,.d q.enc] ob K:=by
 refine Xg hP mixed (ds:=[t.enc,q.enc]) ok9 lf9 TOk.nil ?_;simp[Et9,RTab.enc,RQ.enc,RSrc.enc,Xo,Xcd,Rc4,RAtom.enc,RTerm.enc];refine Xnb hP ht ho (fun b=>?_);have c2:∀{ob:Xb} {K:V->Prop},(∀b,K (.d (.bool b)))->PCall P 26 [.d q.form.enc] ob K:=fun h=>Xj6 hP q.form hq.form h;rw[Rc4]at c2;simp only[RAtom.enc,RTerm.enc]at c2;cases b with
 | false=>
  simp;exact h false (by simp)
 | true=>
  by_cases hv:q.vars.length<=6
  ·have hv':(q.vars.length:Int)<=6:=by omega
   simp[hv'];refine c2 (fun b=>?_);simp;exact h b (fun _=>hv)
  ·have hv':¬(q.vars.length:Int)<=6:=by omega
   simp[hv'];exact h false (by simp)
end
end Go.Proofs.YtolkimpelpnpbaaGreatDoor
namespace Go.Sx
open Go Go.Ab Go.Lx
mutual
def RForm.dep:RForm->Nat
 | .mk _ _ k _=>Xmy k+1
def Xmy:List RForm->Nat
 | []=>0
 | f::r=>max f.dep (Xmy r)
end
mutual
def RForm.tiny:RForm->Prop
 | .mk _ _ k _=>k.length<=1000000/\Xml k
def Xml:List RForm->Prop
 | []=>True
 | f::r=>f.tiny/\Xml r
end
theorem X48 {l:List RForm}:Xml l↔∀f∈l,f.tiny:=by
 induction l with
 | nil=>simp[Xml]
 | cons f r ih=>simp[Xml,ih]
theorem Rdk {f:RForm}(h:f.tiny):f.kids.length<=1000000/\∀k∈f.kids,k.tiny:=by
 cases f; rw[RForm.tiny]at h; exact⟨h.1,X48.1 h.2⟩
end Go.Sx
namespace Go.Sx
open Go Go.Ab Go.Lx
mutual
def RForm.nm:RForm->Nat
 | .mk _ _ k _=>nmL k+1
def nmL:List RForm->Nat
 | []=>0
 | f::r=>f.nm+nmL r
end
mutual
def Ur (y:RSrc)(vs:List RVar):RForm->Bool
 | .mk op n k a=>
  if op=4 then decide (0<=n)&&decide (n<vs.length)&&decide (k.length=0)&&a.zero
  else if op=5 then decide (n=0)&&decide (k.length=0)&&Wk y vs a
  else (decide (op=1)||decide (op=2)||decide (op=3))&&a.zero&&decide (k.length<=8)&&
   (if op=3 then decide (1<=n)&&decide (n<=k.length) else decide (n=0))&&Qe y vs k
def Qe (y:RSrc)(vs:List RVar):List RForm->Bool
 | []=>true
 | f::r=>Ur y vs f&&Qe y vs r
end
mutual
theorem X3j (y:RSrc)(vs:List RVar):∀(f:RForm) (d:Nat) (c:Nat×Nat),c.1<=32->c.2<=8->
  ((f.okS y vs d c).1=true↔(c.1+f.nm<=32/\d+f.dep<=9/\c.2+f.atoms.length<=8/\Ur y vs f=true))/\((f.okS y vs d c).1=true->(f.okS y vs d c).2=(c.1+f.nm,c.2+f.atoms.length))
 | .mk op n k a,d,c,h1,h2=>by
  have ih:=X3i y vs k (d+1) (c.1+1,c.2);unfold RForm.okS Ur RForm.nm RForm.dep RForm.atoms;by_cases g:32<c.1+1\/8<d\/8<k.length
  ·rw[Uby g];refine⟨⟨fun h=>(by cases h),fun h=>?_⟩,fun h=>(by cases h)⟩;exfalso;obtain⟨a1,a2,a3,a4⟩:=h;rcases g with g | g | g
   ·omega
   ·omega
   ·split at a4
    ·simp only[Uai,Ubp]at a4; omega
    split at a4
    ·simp only[Uai,Ubp]at a4; omega
    ·simp only[Uai,Ubp]at a4; omega
  rw[Ubo g];have hk:k.length<=8:=by omega
  have ih:=ih (by simp only; omega) h2 (by omega);simp only at ih;by_cases o4:op=4
  ·subst o4;have e:∀p,(p=((a.zero&&decide (k.length=0)&&decide (0<=n)&&decide (n<vs.length))))->True:=fun _ _=>trivial;simp only[show ¬((4:Int)=1\/(4:Int)=2) by decide,show ¬(4:Int)=3 by decide,show ¬(4:Int)=5 by decide,Ubb,Uay,List.nil_append,Uai,Ubp];constructor
   ·constructor
    ·rintro⟨⟨⟨b1,b2⟩,b3⟩,b4⟩;have:k=[]:=Uct.1 b2;subst this;simp only[nmL,Xmy,Rdf,List.length_nil];exact⟨by omega,by omega,by omega,⟨⟨b3,b4⟩,trivial⟩,b1⟩
    ·rintro⟨a1,a2,a3,⟨⟨b3,b4⟩,b2⟩,b1⟩;exact⟨⟨⟨b1,b2⟩,b3⟩,b4⟩
   ·rintro⟨⟨⟨b1,b2⟩,b3⟩,b4⟩;have:k=[]:=Uct.1 b2;subst this;simp[nmL,Rdf]
  by_cases o5:op=5
  ·subst o5;simp only[show ¬((5:Int)=1\/(5:Int)=2) by decide,show ¬(5:Int)=3 by decide,show ¬(5:Int)=4 by decide,Ubb,Uay,Uai,Ubp];constructor
   ·constructor
    ·rintro⟨⟨⟨b1,b2⟩,b3⟩,b4⟩;have:k=[]:=Uct.1 b2;subst this;simp only[nmL,Xmy,Rdf,List.length_nil,Ub4,List.length_singleton];exact⟨by omega,by omega,by omega,⟨b1,trivial⟩,b4⟩
    ·rintro⟨a1,a2,a3,⟨b1,b2⟩,b4⟩;have:k=[]:=Uct.1 b2;subst this;simp only[Rdf,Ub4,List.length_singleton]at a3;exact⟨⟨⟨b1,b2⟩,a3⟩,b4⟩
   ·rintro⟨⟨⟨b1,b2⟩,b3⟩,b4⟩;have:k=[]:=Uct.1 b2;subst this;simp[nmL,Rdf]
  simp only[o4,o5,Uay,List.nil_append];by_cases o12:op=1\/op=2
  ·have o3:¬op=3:=by omega
   simp only[o12,o3,Ubb,Uay];have ho:(decide (op=1)||decide (op=2)||decide False)=true:=by rcases o12 with e | e<;>subst e<;>rfl
   cases hz:(a.zero&&decide (n=0)) with
   | true=>
    simp only[Ubb];simp only[Uai,Ubp]at hz;refine⟨⟨fun h=>?_,fun h=>?_⟩,fun h=>?_⟩
    ·obtain⟨a1,a2,a3,a4⟩:=ih.1.1 h;refine⟨by omega,by omega,a3,?_⟩;rw[ho,hz.1,a4];simp[hk,hz.2]
    ·refine ih.1.2 ⟨by omega,by omega,h.2.2.1,?_⟩;have:=h.2.2.2;simp only[Uai]at this;exact this.2
    ·rw[ih.2 h];simp only[Ub0,Ua2];omega
   | false=>
    simp only[Uah,Uay,false_iff,false_implies,Ua2];rintro⟨_,_,_,h⟩;simp only[Uai,Ubp]at h;rw[h.1.1.1.2,Ucr h.1.2]at hz;cases hz
  by_cases o3:op=3
  ·subst o3;simp only[show ¬((3:Int)=1\/(3:Int)=2) by decide,Ubb,Uay];cases hz:(a.zero&&decide (1<=n)&&decide (n<=(k.length:Int))) with
   | true=>
    simp only[Ubb];simp only[Uai,Ubp]at hz;refine⟨⟨fun h=>?_,fun h=>?_⟩,fun h=>?_⟩
    ·obtain⟨a1,a2,a3,a4⟩:=ih.1.1 h;refine⟨by omega,by omega,a3,?_⟩;rw[hz.1.1,a4];simp[hk,hz.2,hz.1.2]
    ·refine ih.1.2 ⟨by omega,by omega,h.2.2.1,?_⟩;have:=h.2.2.2;simp only[Uai]at this;exact this.2
    ·rw[ih.2 h];simp only[Ub0,Ua2];omega
   | false=>
    simp only[Uah,Uay,false_iff,false_implies,Ua2];rintro⟨_,_,_,h⟩;simp only[Uai,Ubp]at h;rw[h.1.1.1.2,Ucr h.1.2.1,Ucr h.1.2.2]at hz;cases hz
  ·simp only[o12,o3,Uay,Uah,false_iff,false_implies,Ua2];rintro⟨_,_,_,h⟩;simp only[Uai,Ucd,Ubp]at h;rcases h.1.1.1.1 with h | h
   ·exact o12 h
   ·exact h
theorem X3i (y:RSrc)(vs:List RVar):∀(l:List RForm) (d:Nat) (c:Nat×Nat),c.1<=32->c.2<=8->d<=9->
  ((Rde y vs l d c).1=true↔(c.1+nmL l<=32/\d+Xmy l<=9/\c.2+(Rdf l).length<=8/\Qe y vs l=true))/\((Rde y vs l d c).1=true->(Rde y vs l d c).2=(c.1+nmL l,c.2+(Rdf l).length))
 | [],d,c,h1,h2,h3=>by
  unfold Rde nmL Xmy Rdf Qe;simp only[List.length_nil,true_iff,Ua2];exact⟨⟨by omega,by omega,by omega⟩,fun _=>rfl⟩
 | f::r,d,c,h1,h2,h3=>by
  have ih1:=X3j y vs f d c h1 h2;have ih2:=X3i y vs r d (f.okS y vs d c).2;unfold Rde nmL Xmy Rdf Qe;rw[Uar];cases hf:(f.okS y vs d c).1 with
  | true=>
   rw[ih1.2 hf]at ih2;have g:=ih1.1.1 hf;have ih2:=ih2 (by simp only; omega) (by simp only; omega) h3;simp only at ih2;simp only[Ubb,ih1.2 hf];refine⟨⟨fun h=>?_,fun h=>?_⟩,fun h=>?_⟩
   ·obtain⟨a1,a2,a3,a4⟩:=ih2.1.1 h;refine⟨by omega,by omega,by omega,by rw[g.2.2.2,a4]; rfl⟩
   ·obtain⟨a1,a2,a3,a4⟩:=h;simp only[Uai]at a4;exact ih2.1.2 ⟨by omega,by omega,by omega,a4.2⟩
   ·rw[ih2.2 h];simp only[Ub0];omega
  | false=>
   simp only[Uah,Uay,false_iff,false_implies,Ua2];rintro⟨a1,a2,a3,a4⟩;simp only[Uai]at a4;have:=ih1.1.2 ⟨by omega,by omega,by omega,a4.1⟩;rw[hf]at this; cases this
end
theorem X3k (y:RSrc)(vs:List RVar)(f:RForm):(f.okS y vs 1 (0,0)).1=(decide (f.nm<=32)&&decide (f.dep<=8)&&decide (f.atoms.length<=8)&&Ur y vs f):=by
 have:=(X3j y vs f 1 (0,0) (by decide) (by decide)).1;rw[Ucl,this];simp only[Uai,Ubp];constructor
 ·rintro⟨a,b,c,d⟩; exact⟨⟨⟨by omega,by omega⟩,by omega⟩,d⟩
 ·rintro⟨⟨⟨a,b⟩,c⟩,d⟩; exact⟨by omega,by omega,by omega,d⟩
mutual
theorem Ya9:∀f:RForm,f.dep<=f.nm
 | .mk op n k a=>by have:=Xni k; rw[RForm.dep,RForm.nm]; omega
theorem Xni:∀l:List RForm,Xmy l<=nmL l
 | []=>by rw[Xmy,nmL]; omega
 | f::r=>by have:=Ya9 f; have:=Xni r; rw[Xmy,nmL]; omega
end
mutual
theorem X1u:∀f:RForm,f.nm<=1000000->f.many=((f.nm:Int),(f.dep:Int))
 | .mk op n k a,h=>by
  rw[RForm.nm]at h;have:=Xtn k 1 0 (by omega) (by omega) (by omega);have hd:=Xni k;rw[RForm.many,RForm.nm,RForm.dep];have e:((Rc8 k).foldl Xir (1,0))=(((1+nmL k:Nat):Int),((max 0 (Xmy k):Nat):Int)):=this;rw[e,Yy6];simp only[Ub0];refine⟨by omega,?_⟩;have:IntKind.i64.wrap (((max 0 (Xmy k):Nat):Int)+1)=((max 0 (Xmy k):Nat):Int)+1:=IntWalk.i64_in _ (by omega);rw[this]; omega
theorem Xtn:∀(l:List RForm) (a b:Nat),1<=a->a+nmL l<=1000001->b<=1000001->(Rc8 l).foldl Xir ((a:Int),(b:Int))=(((a+nmL l:Nat):Int),((max b (Xmy l):Nat):Int))
 | [],a,b,_,_,_=>by rw[Rc8,nmL,Xmy]; simp
 | f::r,a,b,ha,h,hb=>by
  rw[nmL]at h;have h0:1<=f.nm:=by cases f; rw[RForm.nm]; omega
  have hf:f.nm<=1000000:=by omega
  have e:=X1u f hf;have hd:=Ya9 f;have hw:IntKind.i64.wrap ((a:Int)+(f.nm:Int))=(a:Int)+(f.nm:Int):=IntWalk.i64_in _ (by omega);have es:Xir ((a:Int),(b:Int)) f.many=(((a+f.nm:Nat):Int),((max b f.dep:Nat):Int)):=by
   rw[e,Xir,hw];simp only[Ub0];refine⟨by omega,?_⟩;split<;>omega
  rw[Rc8,List.foldl_cons,es,Xtn r (a+f.nm) (max b f.dep) (by omega) (by omega) (by omega),nmL,Xmy];simp only[Ub0];omega
end
end Go.Sx
namespace Go.Sx
open Go Go.Ab Go.Lx
mutual
theorem Xcu:∀f:RForm,f.nm<=1000000->f.tiny/\f.small
 | .mk op n k a,h=>by
  rw[RForm.nm]at h;obtain⟨h1,h2,h3⟩:=Xlw k (by omega);rw[RForm.tiny,RForm.small];exact⟨⟨by omega,h1⟩,by omega,h2⟩
theorem Xlw:∀l:List RForm,nmL l<=1000000->Xml l/\Rc5 l/\l.length<=nmL l
 | [],h=>by rw[Xml,Rc5]; exact⟨trivial,trivial,by simp[nmL]⟩
 | f::r,h=>by
  rw[nmL]at h;obtain⟨h1,h2⟩:=Xcu f (by omega);obtain⟨g1,g2,g3⟩:=Xlw r (by omega);have:1<=f.nm:=by cases f; rw[RForm.nm]; omega
  rw[Xml,Rc5,nmL];exact⟨⟨h1,g1⟩,⟨h2,g2⟩,by simp only[List.length_cons]; omega⟩
end
theorem Wm (f:RForm):(V.d f.enc).isAgg=true:=by rw[Rc4]; rfl
end Go.Sx
namespace Go.Sx
open Go Go.Ab Go.Lx
theorem X5e {y:RSrc}{vs:List RVar}{i:Nat}(hi:i<vs.length)(h:Xbo y vs i vs[i]=false):Z2 y vs=false:=by
 rw[Ucm];intro hv;rw[Qx hv i hi]at h; cases h
theorem Yar {y:RSrc}{vs:List RVar}(h:∀i (hi:i<vs.length),Xbo y vs i vs[i]=true):Z2 y vs=((vs.any fun v=>!v.other)&&decide (vs.length<=3)):=by
 unfold Z2;have:(vs.zipIdx.all fun p=>Xbo y vs p.2 p.1)=true:=by
  rw[Ubt];rintro⟨v,i⟩ hm;rw[List.mem_zipIdx_iff_getElem?]at hm;obtain⟨hi,e⟩:=Uan.1 hm;simp only at e⊢;rw[<-e]; exact h i hi
 rw[this,Bool.and_true];cases vs with
 | nil=>rfl
 | cons v r=>simp[Bool.and_comm]
theorem Xbm {y:RSrc}{vs:List RVar}:∀l:List RForm,Qe y vs l=l.all (Ur y vs)
 | []=>by rw[Qe]; rfl
 | f::r=>by rw[Qe,Xbm r]; rfl
theorem X3f:∀{l:List RForm} {f:RForm},f∈l->f.nm<=nmL l
 | g::r,f,h=>by
  rw[nmL];rcases Uax.1 h with rfl | h
  ·omega
  ·have:=X3f h; omega
mutual
theorem X6l:∀f:RForm,f.atoms.length<=f.nm
 | .mk op n k a=>by
  have:=Xde k;rw[RForm.atoms,RForm.nm,Uar];split
  ·simp only[List.length_singleton]; omega
  ·simp only[List.length_nil]; omega
theorem Xde:∀l:List RForm,(Rdf l).length<=nmL l
 | []=>by rw[Rdf,nmL]; simp
 | f::r=>by
  have:=X6l f; have:=Xde r;rw[Rdf,nmL,Uar]; omega
end
theorem Xdd:∀l:List RForm,Rdf l=l.flatMap RForm.atoms
 | []=>by rw[Rdf]; rfl
 | f::r=>by rw[Rdf,Xdd r]; rfl
theorem Ybj {f g:RForm}(h:g∈f.kids):g.nm<f.nm:=by
 cases f;rw[RForm.nm];have:=X3f h;simp only[RForm.kids]at this;omega
theorem X0r {l:List RForm}(k:Nat):((l.take k).flatMap RForm.atoms).length<=nmL l:=by
 have h:=Xde l;rw[Xdd]at h;have:(l.take k).flatMap RForm.atoms <+: l.flatMap RForm.atoms:=by
  rw[<-Uao k l,List.flatMap_append];simp
 have:=this.length_le;omega
def J7 (f:RForm):List RAtom:=if f.op=5 then[f.atom] else[]
theorem atoms_eq (f:RForm):f.atoms=J7 f++f.kids.flatMap RForm.atoms:=by
 cases f;rw[RForm.atoms,Xdd]; rfl
end Go.Sx
namespace Go.Proofs.YtolkimpelpnpbaaGreatDoor
open Go Go.Ab Go.Lx Go.Sx
section
variable {P:Prg} (hP:P.p=Tryz.prog)
include hP
theorem Xqh {y:RSrc}(hy:y.small){vs:List RVar}(hl:vs.length<=1000000){ob:Xb}{K:V->Prop}(h:K (.d (.bool (Z2 y vs)))):PCall P 56 [.d y.enc,.d (.list 4 (vs.map RVar.enc))] ob K:=by
 refine Xg hP mixed (ds:=[y.enc,.list 4 (vs.map RVar.enc)]) Zp3 Zk4 TOk.nil ?_;have hys:y.enc.shape.size=6:=rfl;have cN:=X3v hP;simp[Zh9];refine ALoop.go (ι:=Nat) (fun i=>[(1,.d (.list 4 (vs.map RVar.enc))),(2,.ptr 0 []),(5,.d (.bool ((vs.take i).any fun v=>!v.other))),(6,.d (.int .i64 i))]) (fun _=>[(0,.box 29 (.d y.enc))]) (fun i=>i<=vs.length/\∀j (hj:j<vs.length),j<i->Xbo y vs j vs[j]=true) (fun i=>vs.length-i) 0 ⟨Ubg _,fun j _ h=>by omega⟩ (by simp) (by simp) ?_;rintro i ⟨hi,hv⟩ R rn re rr rp;by_cases hlt:i<vs.length
 ·have bad:Xbo y vs i vs[i]=false->K (.d (.bool false)):=fun e=>by rw[X5e hlt e]at h; exact h
  obtain⟨v,hve⟩:∃v,v=vs[i]:=⟨_,rfl⟩
  have hge:(vs.map RVar.enc)[i]?.getD default=v.enc:=by simp[hlt,hve]
  have hwr:IntKind.i64.wrap ((i:Int)+1)=(i:Int)+1:=IntWalk.i64_in _ (by omega);rw[<-hve]at bad;simp[Xxm,hlt,<-hve,RVar.enc];refine cN _ ?_;cases c1:Yq v.name with
  | false=>
   simp;refine rr _ _ ?_;simp;exact bad (by simp[Xbo,c1])
  | true=>
   simp;refine Xvt hP (by omega) v.name ?_;by_cases c2:Xt RVar.name vs v.name 0=i
   ·simp[c2];refine cN _ ?_;cases c3:Yq v.kind with
    | false=>
     simp;refine rr _ _ ?_;simp;exact bad (by simp[Xbo,c3])
    | true=>
     by_cases c4:v.schema<0
     ·simp[c4];refine rr _ _ ?_;simp;exact bad (by simp[Xbo]; omega)
     ·simp[c4];refine⟨⟨rfl,rfl⟩,X96 hP hy.schemas v.kind ?_⟩;by_cases c5:Xt RSchema.name y.schemas v.kind 0=v.schema
      ·simp[c4,c5];have hvb:Xbo y vs i v=true:=by simp[Xbo,c1,c2,c3,c5]; omega
       refine rn [] (i+1) _ _ ⟨by omega,fun j hj hji=>?_⟩ (by omega) ?_ (by simp[Xc]) (by simp[Xc]) (by simp[Xc])
       ·rcases Uaa j i with g | g
        ·exact hv j hj g
        ·have:j=i:=by omega
         subst this;rw[<-hve]; exact hvb
       ·rw[Ubj hlt];simp[hwr,<-hve];rw[Ucl]; simp
      ·have c5':(Xt RSchema.name y.schemas v.kind 0 != v.schema)=true:=by simpa using c5
       simp[c4,c5,c5'];refine rr _ _ ?_;simp;exact bad (by simp[Xbo,c5])
   ·have c2':(Xt RVar.name vs v.name 0 != i)=true:=by simpa using c2
    simp[c2,c2'];refine rr _ _ ?_;simp;exact bad (by simp[Xbo,c2])
 ·have hil:i=vs.length:=by omega
  subst hil;simp[Xxm];refine re _ _ _ ?_;have hb:=Yar (fun j hj=>hv j hj hj)
  try rw[Ucq]
  rw[hb]at h;cases ha:(vs.any fun v=>!v.other) with
  | true=>
   rw[ha]at h;have e3:decide ((vs.length:Int)<=3)=decide (vs.length<=3):=by rw[Ucl]; simp; omega
   simp;rw[e3];simpa using h
  | false=>rw[ha]at h; simp; simpa using h
theorem X3w:∀(f:RForm),f.nm<=1000000->∀{ob:Xb} {K:V->Prop},K (.d (.list 11 (f.atoms.map RAtom.enc)))->PCall P 63 [.d f.enc] ob K:=fun f hf ob K h=>by
 have ih:∀k∈f.kids,∀{ob:Xb} {K:V->Prop},K (.d (.list 11 (k.atoms.map RAtom.enc)))->PCall P 63 [.d k.enc] ob K:=fun k hk _ _ h=>X3w k (by have:=Ybj hk; omega) h;have hkl:f.kids.length<=1000000:=by cases f with | mk o n k a=>exact (Rdk (Xcu _ hf).1).1
 refine Xg hP mixed (ds:=[f.enc]) Zp8 Zlb TOk.nil ?_;have main:ALoop [1,3,4] (Yw P [] Xii) (Y3 0 (W3 (Yw P [] ((S2.rg [] [(2,E.a (A.t 3))] []).seq S2.ret) (Ux [RV.t 2] K)) (Ux [RV.t 2] K)))
   [(1,V.ptr 0 []),(3,V.sl 1 (J7 f).length),(4,V.d (D.int IntKind.i64 0))] [(1,Ob.arr 38 11 ((J7 f).map RAtom.enc)),(0,Ob.box 40 (V.d (D.agg [iD f.op,iD f.n,D.list 14 (List.map RForm.enc f.kids),f.atom.enc])))]:=by
  refine ALoop.go (ι:=Nat) (fun i=>[(1,.ptr 0 []),(3,.sl 1 (J7 f++(f.kids.take i).flatMap RForm.atoms).length),(4,.d (.int .i64 i))])
   (fun i=>[(1,.arr 38 11 ((J7 f++(f.kids.take i).flatMap RForm.atoms).map RAtom.enc)),(0,.box 40 (.d (.agg [iD f.op,iD f.n,.list 14 (f.kids.map RForm.enc),f.atom.enc])))])
   (fun i=>i<=f.kids.length) (fun i=>f.kids.length-i) 0 (Ubg _) (by simp) (by simp) ?_
  rintro i hi R rn re rr rp;by_cases hlt:i<f.kids.length
  ·have hwr:IntKind.i64.wrap ((i:Int)+1)=(i:Int)+1:=IntWalk.i64_in _ (by omega);have hsz:(RForm.enc f.kids[i]).shape.size=14:=by rw[RForm.enc_shape]; rfl
   have hnx:J7 f++(f.kids.take (i+1)).flatMap RForm.atoms=(J7 f++(f.kids.take i).flatMap RForm.atoms)++f.kids[i].atoms:=by
    rw[Ubj hlt,List.flatMap_append,Uav]; simp
   have hb:=X0r (l:=f.kids) i;have hb1:=X0r (l:=f.kids) (i+1);simp[Xxp,hlt,hsz,Wm];refine⟨Wm _,ih _ (Uba hlt) ?_⟩;have hh:(J7 f).length<=1:=by unfold J7; split<;>simp
   have hnk:nmL f.kids<=1000000:=by cases f with | mk o n k a=>rw[RForm.nm]at hf; simp only[RForm.kids]; omega
   have hlen:=Ua4 List.length hnx;simp only[Uar]at hlen;have e1:(List.take i (List.map (fun a=>a.atoms.length) f.kids)).sum=((f.kids.take i).flatMap RForm.atoms).length:=by
    rw[List.length_flatMap,<-Uap]
   simp;rw[e1];refine⟨by omega,rn [] (i+1) _ _ (by omega) (by omega) ?_ (by rw[hnx]; simp[Xc]) (by simp[Xc]) (by simp[Xc])⟩;rw[hnx];simp[hwr];rw[e1];omega
  ·have:i=f.kids.length:=by omega
   subst this;simp[Xxp];refine re _ _ _ ?_;rw[atoms_eq]at h;simp at h⊢;exact h
 by_cases h5:f.op=5
 ·have hh:J7 f=[f.atom]:=by simp[J7,h5]
  rw[hh,h5]at main;simp[Zag,Xxq,Rc4,h5];exact⟨rfl,main⟩
 ·have hh:J7 f=[]:=by simp[J7,h5]
  rw[hh]at main;simp[Zag,Xxq,Rc4,h5];exact main
termination_by f=>SizeOf.sizeOf f
decreasing_by exact Rdd hk
theorem Xqd {q:RQ}(hf:q.form.nm<=1000000){ob:Xb}{K:V->Prop}(h:K (.d (.list 11 (q.form.atoms.map RAtom.enc)))):PCall P 33 [.d q.enc] ob K:=by
 refine Xg hP mixed (ds:=[q.enc]) Zpw Zkn TOk.nil ?_;have hsz:q.form.enc.shape.size=14:=by rw[RForm.enc_shape]; rfl
 simp[Zhv,RQ.enc,hsz];refine⟨Wm _,X3w hP q.form hf ?_⟩;simp;exact h
set_option maxHeartbeats 2000000 in
theorem X3z {y:RSrc}(hy:y.small){vs:List RVar}(hv:Z2 y vs=true):∀(f:RForm),f.nm<=1000000->∀{ob:Xb} {K:V->Prop},K (.d (.bool (Ur y vs f)))->PCall P 58 [.d y.enc,.d (.list 4 (vs.map RVar.enc)),.d f.enc] ob K:=fun f hf ob K h=>by
 have ih:∀k∈f.kids,∀{ob:Xb} {K:V->Prop},K (.d (.bool (Ur y vs k)))->PCall P 58 [.d y.enc,.d (.list 4 (vs.map RVar.enc)),.d k.enc] ob K:=fun k hk _ _ h=>X3z hy hv k (by have:=Ybj hk; omega) h;have hkl:f.kids.length<=1000000:=by cases f with | mk o n k a=>exact (Rdk (Xcu _ hf).1).1
 have hvl:=(Xaw hv).2;have hys:y.enc.shape.size=6:=rfl;refine Xg hP mixed (ds:=[y.enc,.list 4 (vs.map RVar.enc),f.enc]) Zp5 Zk6 TOk.nil ?_;obtain⟨op,n,k,a⟩:=f;simp only[RForm.kids]at hkl ih;have henc:RForm.enc (.mk op n k a)=.agg [iD op,iD n,.list 14 (k.map RForm.enc),a.enc]:=Rc4 _;rw[Ur]at h;have hfit:∀a:RAtom,(KT.st [KT.int IntKind.i64,KT.st [KT.str,KT.str,KT.int IntKind.i64,KT.int IntKind.i64,KT.int IntKind.i64],KT.st [KT.str,KT.str,KT.int IntKind.i64,KT.int IntKind.i64,KT.int IntKind.i64]]).fits a.enc=true:=fun _=>rfl;have hagg:∀a:RAtom,(V.d a.enc).isAgg=true:=fun _=>rfl;have hag:(match V.d a.enc with | V.d (D.agg xs)=>true | V.agg xs=>true | x=>false)=true:=rfl;have hzf:(KT.st [KT.int IntKind.i64,KT.st [KT.str,KT.str,KT.int IntKind.i64,KT.int IntKind.i64,KT.int IntKind.i64],KT.st [KT.str,KT.str,KT.int IntKind.i64,KT.int IntKind.i64,KT.int IntKind.i64]]).fits (D.agg [D.int IntKind.i64 0,D.agg [D.str [],D.str [],D.int IntKind.i64 0,D.int IntKind.i64 0,D.int IntKind.i64 0],D.agg [D.str [],D.str [],D.int IntKind.i64 0,D.int IntKind.i64 0,D.int IntKind.i64 0]])=true:=rfl;by_cases o4:op=4
 ·subst o4;simp only[Ubb]at h;by_cases c1:0<=n
  ·by_cases c2:n<(vs.length:Int)
   ·by_cases c3:k=[]
    ·subst c3;simp[c1,c2]at h;simp[Xjq,henc,c1,c2,hfit,hzf,Y6];exact⟨rfl,h⟩
    ·have c3':((k.length:Int)==0)=false:=by simpa using c3
     simp[c1,c2,c3]at h;simp[Xjq,henc,c1,c2,c3,c3'];exact h
   ·simp[c1,c2]at h;simp[Xjq,henc,c1,c2];exact h
  ·simp[c1]at h;simp[Xjq,henc,c1];exact h
 by_cases o5:op=5
 ·subst o5;simp only[o4,Ubb,Uay]at h;by_cases c1:n=0
  ·subst c1;by_cases c3:k=[]
   ·subst c3;simp at h;simp[Xjq,henc];refine⟨rfl,⟨rfl,rfl⟩,rfl,⟨rfl,rfl⟩,Yxq hP hy hv a ?_⟩;simp;exact h
   ·have c3':((k.length:Int)==0)=false:=by simpa using c3
    simp[c3]at h;simp[Xjq,henc,c3,c3'];exact h
  ·simp[c1]at h;simp[Xjq,henc,c1];exact h
 simp only[o4,o5,Uay]at h;have loop:K (.d (.bool (Qe y vs k)))->ALoop [1,3,5,7] (Yw P [] Xih) (Y3 0 (W3 (Yw P [] ((S2.rg [] [(6,E.a (A.bool true))] []).seq S2.ret) (Ux [RV.t 6] K)) (Ux [RV.t 6] K)))
   [(1,V.d (D.list 4 (List.map RVar.enc vs))),(3,V.ptr 0 []),(5,V.ptr 1 []),(7,V.d (D.int IntKind.i64 0))]
   [(1,Ob.box 40 (V.d (D.agg [iD op,iD n,D.list 14 (List.map RForm.enc k),a.enc]))),(0,Ob.box 29 (V.d y.enc))]:=fun h=>by
  refine ALoop.go (ι:=Nat) (fun i=>[(1,.d (.list 4 (vs.map RVar.enc))),(3,.ptr 0 []),(5,.ptr 1 []),(7,.d (.int .i64 i))])
   (fun _=>[(1,.box 40 (.d (.agg [iD op,iD n,.list 14 (k.map RForm.enc),a.enc]))),(0,.box 29 (.d y.enc))])
   (fun i=>i<=k.length/\∀g∈k.take i,Ur y vs g=true) (fun i=>k.length-i) 0 ⟨Ubg _,by simp⟩ (by simp) (by simp) ?_
  rintro i ⟨hi,hg⟩ R rn re rr rp;by_cases hlt:i<k.length
  ·have hwr:IntKind.i64.wrap ((i:Int)+1)=(i:Int)+1:=IntWalk.i64_in _ (by omega);have hsz:(RForm.enc k[i]).shape.size=14:=by rw[RForm.enc_shape]; rfl
   simp[Xxo,hlt,hsz];refine⟨Wm _,⟨rfl,rfl⟩,Wm _,⟨rfl,rfl⟩,ih _ (Uba hlt) ?_⟩;cases hb:Ur y vs k[i]with
   | true=>
    simp;refine rn [] (i+1) _ _ ⟨by omega,fun g hm=>?_⟩ (by omega) (by simp[hwr]) (by simp[Xc]) (by simp[Xc]) (by simp[Xc]);rw[Ubj hlt]at hm;rcases Ubu.1 hm with hm | hm
    ·exact hg g hm
    ·rw[Uci.1 hm]; exact hb
   | false=>
    simp;refine rr _ _ ?_;simp;have e:Qe y vs k=false:=by
     rw[Xbm,Ucm];intro c;rw[Ubt]at c;rw[c _ (Uba hlt)]at hb; cases hb
    rw[e]at h;exact h
  ·have:i=k.length:=by omega
   subst this;simp[Xxo];refine re _ _ _ ?_;simp;have e:Qe y vs k=true:=by
    rw[Xbm,Ubt];rw[Ucq]at hg;exact hg
   rw[e]at h;exact h
 by_cases c0:op=1\/op=2\/op=3
 ·have e1:(decide (op=1)||decide (op=2)||decide (op=3))=true:=by rcases c0 with e | e | e<;>subst e<;>rfl
  have e2:(op != 1&&op != 2&&op != 3)=false:=by rcases c0 with e | e | e<;>subst e<;>rfl
  rw[e1,Ucv]at h;cases cz:a.zero with
  | false=>
   rw[cz]at h;simp at h;rcases c0 with e | e | e<;>subst e<;>simp[Xjq,henc,hfit,hzf,Y6,cz]<;>exact⟨rfl,h⟩
  | true=>
   rw[cz]at h;by_cases c4:k.length<=8
   ·simp only[c4,Ucu,Ucv]at h;have c4':¬(8:Int)<k.length:=by omega
    by_cases c3:op=3
    ·subst c3;simp only[Ubb]at h;by_cases d1:1<=n
     ·by_cases d2:n<=(k.length:Int)
      ·have d1':¬n<1:=by omega
       have d2':¬(k.length:Int)<n:=by omega
       simp only[d1,d2,Ucu,Ucv]at h;simp[Xjq,henc,hfit,hzf,Y6,cz,c4',d1',d2'];exact⟨rfl,loop h⟩
      ·have d1':¬n<1:=by omega
       have d2':(k.length:Int)<n:=by omega
       simp[d1,d2]at h;simp[Xjq,henc,hfit,hzf,Y6,cz,c4',d1',d2'];exact⟨rfl,h⟩
     ·have d1':n<1:=by omega
      simp[d1]at h;simp[Xjq,henc,hfit,hzf,Y6,cz,c4',d1'];exact⟨rfl,h⟩
    ·have c3':(op != 3)=true:=by simpa using c3
     simp only[c3,Uay]at h;by_cases d1:n=0
     ·subst d1;simp only[Ucu,Ucv]at h;have c12:op=1\/op=2:=by omega
      rcases c12 with e | e
      ·subst e;simp[Xjq,henc,hfit,hzf,Y6,cz,c4'];exact⟨rfl,loop h⟩
      ·subst e;simp[Xjq,henc,hfit,hzf,Y6,cz,c4'];exact⟨rfl,loop h⟩
     ·have d1':(n != 0)=true:=by simpa using d1
      simp[d1]at h;have c12:op=1\/op=2:=by omega
      rcases c12 with e | e
      ·subst e;simp[Xjq,henc,hfit,hzf,Y6,cz,c4',d1'];exact⟨rfl,h⟩
      ·subst e;simp[Xjq,henc,hfit,hzf,Y6,cz,c4',d1'];exact⟨rfl,h⟩
   ·have c4':(8:Int)<k.length:=by omega
    simp[c4]at h;rcases c0 with e | e | e<;>subst e<;>simp[Xjq,henc,hfit,hzf,Y6,cz,c4']<;>exact⟨rfl,h⟩
 ·have e1:(decide (op=1)||decide (op=2)||decide (op=3))=false:=by simp; omega
  rw[e1]at h;have n1:¬op=1:=by omega
  have n2:¬op=2:=by omega
  have n3:¬op=3:=by omega
  have m1:(op != 1)=true:=by simpa using n1
  have m2:(op != 2)=true:=by simpa using n2
  have m3:(op != 3)=true:=by simpa using n3
  simp at h;simp[Xjq,henc,o4,o5,n1,n2,n3,m1,m2,m3];exact h
termination_by f=>SizeOf.sizeOf f
decreasing_by exact Rdd hk
end
end Go.Proofs.YtolkimpelpnpbaaGreatDoor
namespace Go.Proofs.YtolkimpelpnpbaaGreatDoor
open Go Go.Ab Go.Lx Go.Sx
section
variable {P:Prg} (hP:P.p=Tryz.prog)
include hP
theorem X3u {t:RTab}(hy:t.src.small){q:RQ}(hf:q.form.nm<=1000000)(hvl:q.vars.length<=1000000){ob:Xb}{K:V->Prop}(h:K (.d (.int .i64 (Z5 t.src q)))):PCall P 29 [.d t.enc,.d q.enc] ob K:=by
 refine Xg hP mixed (ds:=[t.enc,q.enc]) Zpt Zkj TOk.nil ?_;have cN:=X3v hP;obtain⟨y,od⟩:=t;simp only[RTab.enc]at hy h⊢;have bad:Yc y q=false->K (.d (.int .i64 210)):=fun e=>by
  have:Z5 y q=210:=by simp[Z5,e]
  rw[<-this]; exact h
 have hys:y.enc.shape.size=6:=rfl;have hy6:y.enc.shape=.node [.leaf,.leaf,.leaf,.leaf,.leaf,.leaf]:=rfl;obtain⟨x0,x1,x2,x3,x4,hyk,s0,s1,s2,s3,s4⟩:∃x0 x1 x2 x3 x4,(V.d y.enc).kids=some [.d x0,.d x1,.d x2,.d x3,.d x4,.d (.list 3 (y.purposes.map RPurpose.enc))]/\x0.shape=.leaf/\x1.shape=.leaf/\x2.shape=.leaf/\x3.shape=.leaf/\x4.shape=.leaf:=⟨_,_,_,_,_,rfl,rfl,rfl,rfl,rfl,rfl⟩
 have hqe:q.enc=.agg [.str q.name,iD q.purpose,.list 4 (q.vars.map RVar.enc),q.form.enc]:=rfl;have hfs:q.form.enc.shape=Go.Py.fSh:=RForm.enc_shape _;have hqs:q.enc.shape.size=17:=by rw[hqe]; simp[D.shape,D.shapes,hfs]
 have hqk:(V.d q.enc).kids=some [.d (.str q.name),.d (iD q.purpose),.d (.list 4 (q.vars.map RVar.enc)),.d q.form.enc]:=rfl;obtain⟨hft,hfsm⟩:=Xcu q.form hf;have hck:Yc y q=(Yq q.name&&decide (0<=q.purpose)&&(match y.purposes[q.purpose.toNat]? with | some p=>decide (Xt RPurpose.name y.purposes p.name 0=q.purpose)&&Yq p.name | none=>false)&&Z2 y q.vars&&(decide (q.form.nm<=32)&&decide (q.form.dep<=8)&&decide (q.form.atoms.length<=8)&&Ur y q.vars q.form)):=by
  rw[Yc,X3k];cases y.purposes[q.purpose.toNat]?<;>rfl
 simp[Zhr,hqe,hy6,hfs,hyk,s0,s1,s2,s3,s4];refine⟨rfl,cN _ ?_⟩;cases g1:Yq q.name with
 | false=>simp; exact bad (by simp[hck,g1])
 | true=>
  by_cases g2:q.purpose<0
  ·simp[g2]; exact bad (by simp[hck]; omega)
  by_cases g3:(y.purposes.length:Int)<=q.purpose
  ·simp[g2,g3];exact bad (by
    have:y.purposes[q.purpose.toNat]? = none:=Ucj (by omega);simp[hck,this])
  obtain⟨n,hqn,hn⟩:∃n:Nat,q.purpose=n/\n<y.purposes.length:=⟨q.purpose.toNat,by omega,by omega⟩
  have g3':¬y.purposes.length<=n:=by omega
  have g2':¬(n:Int)<0:=by omega
  simp[hqn,g3',g2',hn,RPurpose.enc,s0,s1,s2,s3,s4];rw[hqn]at hck;simp only[g1,Int.toNat_natCast,Ubf hn,Ucv,show decide (0<=(n:Int))=true by simp]at hck;refine⟨rfl,Xqh hP hy hvl ?_⟩;cases g4:Z2 y q.vars with
  | false=>simp; exact bad (by simp[hck,g4])
  | true=>
   simp;refine⟨Wm _,Xyo hP q.form hfsm ?_⟩;rw[Xvk,X1u q.form hf];simp;refine cN _ ?_;cases g5:Yq y.purposes[n].name with
   | false=>simp; exact bad (by simp[hck,g5])
   | true=>
    simp;refine⟨rfl,X3y hP hy.purposes _ ?_⟩;by_cases g6:Xt RPurpose.name y.purposes y.purposes[n].name 0=n
    ·by_cases g7:q.form.nm<=32
     ·by_cases g8:q.form.dep<=8
      ·have g7':¬(32:Int)<q.form.nm:=by omega
       have g8':¬(8:Int)<q.form.dep:=by omega
       simp[g6,g7',g8'];refine Xqd hP (q:=⟨q.name,n,q.vars,q.form⟩) hf ?_;by_cases g9:q.form.atoms.length<=8
       ·have g9':¬(8:Int)<q.form.atoms.length:=by omega
        simp[g9'];refine⟨Wm _,rfl,Wm _,rfl,X3z hP hy g4 q.form hf ?_⟩;cases g10:Ur y q.vars q.form with
        | false=>simp; exact bad (by simp[hck,g10])
        | true=>
         have hc:Yc y q=true:=by simp[hck,g4,g5,g6,g7,g8,g9,g10]
         have e:Z5 y q=0:=by simp[Z5,hc]
         rw[e]at h;simp;exact h
       ·have g9':(8:Int)<q.form.atoms.length:=by omega
        simp[g9'];exact bad (by simp[hck,g9])
      ·have g7':¬(32:Int)<q.form.nm:=by omega
       have g8':(8:Int)<q.form.dep:=by omega
       simp[g6,g7',g8'];exact bad (by simp[hck,g8])
     ·have g7':(32:Int)<q.form.nm:=by omega
      simp[g6,g7'];exact bad (by simp[hck,g7])
    ·have g6':(Xt RPurpose.name y.purposes y.purposes[n].name 0 != n)=true:=by simpa using g6
     simp[g6,g6'];exact bad (by simp[hck,g6])
end
end Go.Proofs.YtolkimpelpnpbaaGreatDoor
namespace Go.Py
open Go Go.Ab Go.Lx Go.Sx
def Xe2 (y:RSrc)(q:RQ)(l:List RRef)(t:RTerm):List RRef:=match Yg q t with | some p=>X5m l (Y0 y p) | none=>l
def Xrs (y:RSrc)(q:RQ)(l:List RAtom):List RRef:=(Vq l).foldl (Xe2 y q) []
theorem Xyc (y:RSrc)(q:RQ)(l:List RAtom)(a:RAtom):Xrs y q (l++[a])=Xe2 y q (Xe2 y q (Xrs y q l) a.a) a.b:=by
 simp[Xrs,Vq,List.flatMap_append,Ucs]
theorem X89 (l:List RRef)(r:RRef):(X5m l r).length<=l.length+1:=by
 have:=(Xny l r).1;unfold X5m;split
 ·omega
 ·simp only[Uar,Ua7,List.length_cons,List.length_drop]; omega
theorem Xs1 (y:RSrc)(q:RQ)(l:List RRef)(t:RTerm):(Xe2 y q l t).length<=l.length+1:=by
 unfold Xe2;split
 ·exact X89 _ _
 ·omega
theorem X6i (y:RSrc)(q:RQ)(l:List RAtom):(Xrs y q l).length<=2*l.length:=by
 have h1:∀(l:List RTerm) (x:List RRef),(l.foldl (Xe2 y q) x).length<=x.length+l.length:=by
  intro l;induction l with
  | nil=>simp
  | cons a r ih=>
   intro x;have:=ih (Xe2 y q x a);have h2:=Xs1 y q x a;simp only[List.foldl_cons,List.length_cons];omega
 have h3:(Vq l).length=2*l.length:=by
  induction l with
  | nil=>rfl
  | cons a r ih=>simp only[Vq,List.flatMap_cons,Uar,List.length_cons,List.length_nil]at ih⊢; omega
 have:=h1 (Vq l) [];simp only[List.length_nil]at this;unfold Xrs; omega
theorem Qw {y:RSrc}{q:RQ}{t:RTerm}(hv:Xax y q.vars)(ht:(refO y q.vars t).isSome=true\/t.isNum=true):(t.var<0/\Yg q t=none)\/∃p,0<=t.var/\Yg q t=some p/\inR y p:=by
 by_cases h0:t.var<0
 ·exact .inl ⟨h0,by unfold Yg; rw[Uby h0]⟩
 rcases ht with ht | ht
 ·obtain⟨r,hr⟩:=Ua3.1 ht;obtain⟨i,hi,s,hs,g,hg,e1,_,e3,e4,e5,e6,_⟩:=Qb hr;have e7:q.vars[t.var.toNat]? = some q.vars[i]:=by
   have:t.var.toNat=i:=by omega
   rw[this]; exact Ubf hi
  have hf:Yg q t=some (q.vars[i].schema,t.field):=by
   unfold Yg; rw[Ubo h0,e7]; rfl
  exact .inr ⟨_,by omega,hf,Xg5 hv (.inl ht) hf⟩
 ·unfold RTerm.isNum at ht;simp only[Uai,Ubp]at ht;omega
end Go.Py
namespace Go.Proofs.YtolkimpelpnpbaaGreatDoor
open Go Go.Ab Go.Lx Go.Sx Go.Py
section
variable {P:Prg} (hP:P.p=Tryz.prog)
include hP
theorem Xmd {t:RTab}{q:RQ}(hc:Yc t.src q=true){ob:Xb}{K:V->Prop}(h:K (.d (.list 4 ((Xrs t.src q q.form.atoms).map RRef.enc)))):PCall P 30 [.d t.enc,.d q.enc] ob K:=by
 refine Xg hP mixed (ds:=[t.enc,q.enc]) Zpu Zkk TOk.nil ?_;have hts:t.enc.shape.size=7:=rfl;have hqs:q.enc.shape.size=17:=by rw[RQ.enc,D.shape]; simp[D.shapes]
 have tz:t.enc.sz=7:=rfl;have qz:q.enc.sz=17:=by rw[<-Ran]; exact hqs
 have hnm:q.form.nm<=1000000:=by
  have h1:=Xkd hc;rw[X3k]at h1;simp only[Uai,Ubp]at h1;omega
 obtain⟨hv,hn,ha⟩:=Zd hc;simp[Zhs,hts,hqs,tz,qz];refine⟨rfl,Xqd hP hnm ?_⟩;generalize q.form.atoms=zs at hn ha h;refine ALoop.upto zs.length (fun k=>[(2,.ptr 0 []),(3,.ptr 1 []),(5,.d (.list 4 ((Xrs t.src q (zs.take k)).map RRef.enc))),(6,.d (.list 11 (zs.map RAtom.enc))),(7,.d (.int .i64 k))])
  (fun _=>[(1,.box 42 (.d q.enc)),(0,.box 32 (.d t.enc))]) (fun _=>True) trivial (by simp[Xrs,Vq]) (by simp) ?_ ?_
 ·intro k hk _ R rn re rr rp;have wr:IntKind.i64.wrap ((k:Int)+1)=(k:Int)+1:=IntWalk.i64_in _ (by omega);have hst:Xrs t.src q (zs.take (k+1))=Xe2 t.src q (Xe2 t.src q (Xrs t.src q (zs.take k)) zs[k].a) zs[k].b:=by rw[Ubj hk,Xyc]
  have hlen:=X6i t.src q (zs.take k);simp only[Ua7]at hlen;have hlen2:=Xs1 t.src q (Xrs t.src q (zs.take k)) zs[k].a;have hat:=ha _ (Uba hk);unfold Wk at hat;simp only[Uai,Ucd]at hat;have ta:=Qw (t:=zs[k].a) hv (by simpa using hat.1.1.1.1.2);have tb:=Qw (t:=zs[k].b) hv (by simpa using hat.1.1.1.2);have hze:zs[k].enc=.agg [iD zs[k].op,zs[k].a.enc,zs[k].b.enc]:=rfl;have hte:∀x:RTerm,x.enc=.agg [.str x.name,.str x.path,iD x.var,iD x.field,iD x.n]:=fun x=>rfl;rw[hst]at rn;generalize Xrs t.src q (zs.take k)=l0 at rn hlen hlen2⊢;have second:∀(l1:List RRef) (tl:Xf),l1.length<=100->Xe2 t.src q l0 zs[k].a=l1->Yw P [] Xh7 (Y3 1 (W3 (Yw P [] Xh6 R) R)) ((2,.ptr 0 [])::(3,.ptr 1 [])::(5,.d (.list 4 (l1.map RRef.enc)))::(6,.d (.list 11 (zs.map RAtom.enc)))::(7,.d (.int .i64 k))::tl) [(1,.box 42 (.d q.enc)),(0,.box 32 (.d t.enc))]:=by
   intro l1 tl hl1 e1;rw[e1]at rn;rcases tb with⟨b0,b1⟩ | ⟨p,b0,b1,b2⟩
   ·have g0:¬0<=zs[k].b.var:=by omega
    have eb:Xe2 t.src q l1 zs[k].b=l1:=by unfold Xe2; rw[b1]
    rw[eb]at rn;simp[Xw1,hk,hze,hte,g0];simp[Xw0,wr];refine rn [] _ _ trivial (by simp) (by simp[Xc]) (by simp[Xc]) (by simp[Xc])
   ·have eb:Xe2 t.src q l1 zs[k].b=X5m l1 (Y0 t.src p):=by unfold Xe2; rw[b1]
    rw[eb]at rn;simp[Xw1,hk,hze,hte,b0,hts,hqs,tz,qz];refine⟨rfl,rfl,rfl,rfl,Xqf hP b1 b2 ?_⟩;refine Xtx hP (by omega) _ ?_;simp[Xw0,wr];refine rn [] _ _ trivial (by simp) (by simp[Xc]) (by simp[Xc]) (by simp[Xc])
  rcases ta with⟨a0,a1⟩ | ⟨p,a0,a1,a2⟩
  ·have g0:¬0<=zs[k].a.var:=by omega
   have ea:Xe2 t.src q l0 zs[k].a=l0:=by unfold Xe2; rw[a1]
   simp[Xm3,hk,hze,hte,g0];exact second l0 _ (by omega) ea
  ·have ea:Xe2 t.src q l0 zs[k].a=X5m l0 (Y0 t.src p):=by unfold Xe2; rw[a1]
   rw[ea]at hlen2;simp[Xm3,hk,hze,hte,a0,hts,hqs,tz,qz];refine⟨rfl,rfl,rfl,rfl,Xqf hP a1 a2 ?_⟩;refine Xtx hP (by omega) _ ?_;exact second _ _ (by omega) ea
 ·intro _ R re rr rp;simp[Xm3];refine re _ _ _ ?_;simp;exact h
end
end Go.Proofs.YtolkimpelpnpbaaGreatDoor
namespace Go.Py
open Go Go.Ab Go.Lx Go.Sx
def ltP (a b:Int×Int):Bool:=decide (a.1<b.1)||(decide (a.1=b.1)&&decide (a.2<b.2))
theorem Xrt (y:RSrc)(a b:Int×Int):Ya1 (Y0 y a) (Y0 y b)=ltP a b:=by
 have h1:=Xb4 y a;have h2:=Xb4 y b;unfold Go.Py.refP at h1 h2;obtain⟨a1,a2⟩:=a;obtain⟨b1,b2⟩:=b;simp only[Ub0]at h1 h2;simp only[Ya1,ltP,h1,h2]
theorem X1s (a:Int×Int):ltP a a=false:=by unfold ltP; simp
theorem Xlq {a b c:Int×Int}(h1:ltP a b=true)(h2:ltP b c=true):ltP a c=true:=by
 unfold ltP at *;simp only[Ucd,Uai,Ubp]at *;omega
theorem Xtm {a b:Int×Int}(h1:ltP a b=true)(h2:ltP b a=true):False:=by
 have:=Xlq h1 h2;rw[X1s]at this; cases this
theorem X1t {a b:Int×Int}(h1:ltP a b=false)(h2:a ≠ b):ltP b a=true:=by
 obtain⟨a1,a2⟩:=a;obtain⟨b1,b2⟩:=b;unfold ltP at *;simp only[Ucd,Uai,Ubp,Ucb,Ucn,Ucc,ne_eq,Ub0]at *;omega
theorem Yux {a b:Int×Int}(h1:leP a b=true)(h2:a ≠ b):ltP a b=true:=by
 obtain⟨a1,a2⟩:=a;obtain⟨b1,b2⟩:=b;unfold ltP leP at *;simp only[Ucd,Uai,Ubp,ne_eq,Ub0]at *;omega
def X03:List (Int×Int)->Int×Int->List (Int×Int)
 | [],p=>[p]
 | a::l,p=>if a=p then a::l else if ltP a p then a::X03 l p else p::a::l
abbrev Srt (l:List (Int×Int)):Prop:=l.Pairwise fun a b=>ltP a b=true
theorem Xhd {p x:Int×Int}:∀{l:List (Int×Int)},x∈X03 l p↔x∈l\/x=p
 | []=>by simp[X03]
 | a::l=>by
  unfold X03;split
  ·rename_i e; subst e;constructor
   ·exact .inl
   ·rintro (h | rfl)
    ·exact h
    ·simp
  ·split
   ·rw[Uax,Xhd,Uax,or_assoc]
   ·simp only[Uax];constructor
    ·rintro (h | h | h)
     ·exact .inr h
     ·exact .inl (.inl h)
     ·exact .inl (.inr h)
    ·rintro ((h | h) | h)
     ·exact .inr (.inl h)
     ·exact .inr (.inr h)
     ·exact .inl h
theorem Xs0 {p:Int×Int}:∀{l:List (Int×Int)},Srt l->Srt (X03 l p)
 | [],_=>by simp[X03,Srt]
 | a::l,h=>by
  have h':=List.pairwise_cons.1 h;unfold X03;split
  ·exact h
  ·rename_i hne;split
   ·rename_i hlt;refine List.pairwise_cons.2 ⟨fun b hb=>?_,Xs0 h'.2⟩;rcases Xhd.1 hb with hb | rfl
    ·exact h'.1 b hb
    ·exact hlt
   ·rename_i hlt;have hpa:=X1t (Ucm.2 hlt) hne;refine List.pairwise_cons.2 ⟨fun b hb=>?_,h⟩;rcases Uax.1 hb with rfl | hb
    ·exact hpa
    ·exact Xlq hpa (h'.1 b hb)
theorem Ygb (y:RSrc)(l:List (Int×Int))(p:Int×Int):inP (l.map (Y0 y)) (Y0 y p)=decide (p∈l):=by
 unfold inP;rw[Xb4,List.map_map];have:(Go.Py.refP∘Y0 y)=id:=by funext a; exact Xb4 y a
 rw[this,List.map_id]
theorem Xlb (y:RSrc)(p:Int×Int):∀{l:List (Int×Int)},Srt l->X5m (l.map (Y0 y)) (Y0 y p)=(X03 l p).map (Y0 y)
 | [],_=>by simp[X5m,inP,X03,Jf]
 | a::l,h=>by
  have h':=List.pairwise_cons.1 h;have ih:=Xlb y p h'.2;unfold X5m at ih⊢;rw[Ygb]at ih⊢;unfold X03;by_cases e:a=p
  ·subst e; simp
  ·rw[Ubo e];by_cases hlt:ltP a p=true
   ·rw[Uby hlt];by_cases hm:p∈l
    ·rw[Uby (by simpa using hm)]at ih;rw[Uby (by simp[hm]),Uam,Uam,<-ih]
    ·rw[Ubo (by simpa using hm)]at ih;have e':¬p=a:=fun h=>e h.symm;rw[Ubo (by simp[hm,e']),Uam,Uam,<-ih];have hn:Jf (Y0 y a::l.map (Y0 y)) (Y0 y p)=Jf (l.map (Y0 y)) (Y0 y p)+1:=by rw[Jf,Xrt,Uby hlt]
     rw[hn]; simp
   ·rw[Ubo hlt];have hpa:=X1t (Ucm.2 hlt) e;have hm:p∉a::l:=by
     intro hm;rcases Uax.1 hm with rfl | hm
     ·exact e rfl
     ·exact Xtm hpa (h'.1 p hm)
    rw[Ubo (by simpa using hm),Uam];have hn:Jf (Y0 y a::l.map (Y0 y)) (Y0 y p)=0:=by rw[Jf,Xrt,Ubo hlt]
    rw[hn]; simp
def Xla (q:RQ)(l:List (Int×Int))(t:RTerm):List (Int×Int):=match Yg q t with | some p=>X03 l p | none=>l
theorem Xj0 (y:RSrc)(q:RQ):∀(ts:List RTerm) (l:List (Int×Int)),Srt l->ts.foldl (Xe2 y q) (l.map (Y0 y))=(ts.foldl (Xla q) l).map (Y0 y)/\Srt (ts.foldl (Xla q) l)
 | [],l,h=>⟨rfl,h⟩
 | t::ts,l,h=>by
  have h2:Xe2 y q (l.map (Y0 y)) t=(Xla q l t).map (Y0 y):=by
   unfold Xe2 Xla;cases Yg q t with
   | some p=>exact Xlb y p h
   | none=>rfl
  have h3:Srt (Xla q l t):=by
   unfold Xla;cases Yg q t with
   | some p=>exact Xs0 h
   | none=>exact h
  rw[List.foldl_cons,List.foldl_cons,h2];exact Xj0 y q ts _ h3
theorem Xsx {q:RQ}{p:Int×Int}:∀(ts:List RTerm) (l m:List (Int×Int)),(p∈l↔p∈m)->(p∈ts.foldl (Xla q) l↔p∈ts.foldl (Uo q) m)
 | [],_,_,h=>h
 | t::ts,l,m,h=>by
  refine Xsx ts _ _ ?_;unfold Xla Uo;cases Yg q t with
  | some x=>simp only[Xhd,Xco,h]
  | none=>exact h
theorem Xul {fs:List (Int×Int)}{p:Int×Int}(h:fs.Nodup):(Xjj fs p).Nodup:=by
 unfold Xjj;split
 ·exact h
 ·rename_i hn;rw[Uco];refine⟨h,by simp,fun a ha b hb=>?_⟩;rw[Uci.1 hb];intro e; subst e; exact hn ha
theorem Xfw {q:RQ}:∀(ts:List RTerm) (m:List (Int×Int)),m.Nodup->(ts.foldl (Uo q) m).Nodup
 | [],_,h=>h
 | t::ts,m,h=>by
  refine Xfw ts _ ?_;unfold Uo;cases Yg q t with
  | some x=>exact Xul h
  | none=>exact h
theorem X42 {l:List (Int×Int)}(h:Srt l):l.Nodup:=h.imp fun {a b} hab e=>by subst e; rw[X1s]at hab; cases hab
theorem Xdc (q:RQ):(X7 q).Nodup:=by
 unfold X7;rw[(List.mergeSort_perm _ _).nodup_iff];exact Xfw _ _ List.nodup_nil
theorem Xyd (q:RQ):Srt (X7 q):=by
 have h1:=List.pairwise_mergeSort Xdy Xdx (fsA q q.form.atoms);have h2:=Xdc q;exact List.Pairwise.imp₂ (fun a b h1 h2=>Yux h1 h2) h1 h2
theorem Xyb (y:RSrc)(q:RQ):Xrs y q q.form.atoms=(X7 q).map (Y0 y):=by
 have h:=Xj0 y q (Vq q.form.atoms) [] List.Pairwise.nil;unfold Xrs;rw[show ([]:List RRef)=([]:List (Int×Int)).map (Y0 y) from rfl,h.1];congr 1;refine List.Perm.eq_of_pairwise (le:=fun a b=>ltP a b=true) (fun a b _ _ h1 h2=>(Xtm h1 h2).elim) h.2 (Xyd q) ?_;refine (List.perm_ext_iff_of_nodup (X42 h.2) (Xdc q)).2 fun p=>?_;rw[Xsx (m:=[]) _ _ Iff.rfl];unfold X7;rw[List.mem_mergeSort];rfl
end Go.Py
namespace Go.Py
open Go Go.Ab Go.Lx Go.Sx
def Uy {α:Type}:Nat->List α->List (List α)
 | 0,_=>[[]]
 | _+1,[]=>[]
 | k+1,a::l=>(Uy k l).map (a::·)++Uy (k+1) l
def Zl {α:Type}(l:List α):Nat->Nat->List (List α)
 | _,0=>[]
 | n,m+1=>Uy n l++Zl l (n+1) m
def W8 {α:Type}(l:List α):List (List α):=Zl l 0 (l.length+1)
theorem Xi8 {α:Type}:∀(k:Nat) (l s:List α),s∈Uy k l->s.Sublist l/\s.length=k
 | 0,l,s,h=>by
  simp only[Uy,Uci]at h;subst h; simp
 | k+1,[],s,h=>by simp[Uy]at h
 | k+1,a::l,s,h=>by
  simp only[Uy,Ubu,Ua5]at h;rcases h with⟨r,hr,rfl⟩ | h
  ·obtain⟨h1,h2⟩:=Xi8 k l r hr;exact⟨h1.cons_cons a,by simp[h2]⟩
  ·obtain⟨h1,h2⟩:=Xi8 (k+1) l s h;exact⟨h1.cons a,h2⟩
theorem Yak {α:Type}{l s:List α}(h:s.Sublist l):s∈Uy s.length l:=by
 induction h with
 | slnil=>simp[Uy]
 | @cons s l a h ih=>
  cases s with
  | nil=>simp[Uy]
  | cons b r=>
   simp only[List.length_cons]at ih⊢;simp only[Uy,Ubu];exact .inr ih
 | @cons_cons s l a h ih=>
  simp only[List.length_cons,Uy,Ubu,Ua5];exact .inl ⟨_,ih,rfl⟩
theorem Xi6 {α:Type}:∀(k:Nat) (l:List α),l.length<k->Uy k l=[]
 | 0,_,h=>by omega
 | k+1,[],_=>rfl
 | k+1,a::l,h=>by
  simp only[List.length_cons]at h;simp[Uy,Xi6 k l (by omega),Xi6 (k+1) l (by omega)]
theorem Xes {α:Type}{p:List α->Bool}{l s:List α}:∀(m n:Nat),(Zl l n m).find? p=some s->p s=true/\s.Sublist l/\∀r,r.Sublist l->n<=r.length->r.length<s.length->p r=false
 | 0,n,h=>by simp[Zl]at h
 | m+1,n,h=>by
  simp only[Zl,List.find?_append]at h;cases h1:(Uy n l).find? p with
  | some t=>
   rw[h1]at h;simp only[Option.some_or,Uaq]at h;subst h;obtain⟨h2,h3⟩:=Xi8 n l t (List.mem_of_find?_eq_some h1);exact⟨List.find?_some h1,h2,fun r _ h4 h5=>by omega⟩
  | none=>
   rw[h1]at h;simp only[Option.none_or]at h;obtain⟨h2,h3,h4⟩:=Xes m (n+1) h;refine⟨h2,h3,fun r hr h5 h6=>?_⟩;by_cases e:r.length=n
   ·have:=List.find?_eq_none.1 h1 r (e▸Yak hr);simpa using this
   ·exact h4 r hr (by omega) h6
theorem Xjy {α:Type}{p:List α->Bool}{l s:List α}(h:(W8 l).find? p=some s):p s=true/\s.Sublist l/\∀r,r.Sublist l->r.length<s.length->p r=false:=by
 obtain⟨h1,h2,h3⟩:=Xes _ _ h;exact⟨h1,h2,fun r hr hl=>h3 r hr (Ubg _) hl⟩
def Xg8 (p:RPurpose)(q:RQ):Bool:=(X7 q).all (fun f=>decide (f∈p.may.map Go.Py.refP))&&decide (((X7 q).length:Int)<=p.most)
def Vt (p:RPurpose)(q:RQ)(s:List (Int×Int)):Bool:=(rbF (Zm q s) q.form).2&&Xg8 p (q.withF (rbF (Zm q s) q.form).1)
def Ud (p:RPurpose)(q:RQ):Option (List (Int×Int)):=(W8 (X7 q)).find? (Vt p q)
theorem Xvb {q:RQ}{a b:List (Int×Int)}(h:∀p,p∈a↔p∈b):Xk6 q a=Xk6 q b:=by
 funext t;unfold Xk6;split
 ·rw[Ucl]; simp[h]
 ·rfl
theorem Xfy {q:RQ}{a b:List (Int×Int)}(h:∀p,p∈a↔p∈b):Zm q a=Zm q b:=by
 funext t;unfold Zm;rw[Xvb h]
theorem X1f (y:RSrc)(s:List (Int×Int))(p:Int×Int):p∈Yn (s.map (Y0 y))↔p∈s:=by
 rw[Xli];constructor
 ·rintro⟨r,hr,rfl⟩;obtain⟨x,hx,rfl⟩:=Ua5.1 hr;rw[Xb4]; exact hx
 ·exact fun h=>⟨_,Ua5.2 ⟨p,h,rfl⟩,Xb4 y p⟩
end Go.Py
namespace Go.Py
open Go Go.Ab Go.Lx Go.Sx
theorem Xjx {l:List (Int×Int)}{p:Int×Int->Bool}{k:Nat}(hk:k<l.length):(l.take (k+1)).all p=((l.take k).all p&&p l[k]):=by
 rw[Ubj hk,Uch]; simp
def Ya7 (y:RSrc)(q:RQ):Int:=if Yc y q then (match y.purposes[q.purpose.toNat]? with | some p=>if Xg8 p q then 0 else 260 | none=>260) else 210
theorem Jy {y:RSrc}{q:RQ}(hc:Yc y q=true):∃(n:Nat) (hn:n<y.purposes.length),q.purpose=n/\Ya7 y q=if Xg8 y.purposes[n] q then 0 else 260:=by
 have h:=hc;simp only[Yc,Uai]at h;have h1:=h.1.1.1.2;have h2:=h.1.1.2;refine⟨q.purpose.toNat,?_,?_,?_⟩
 ·cases hp:y.purposes[q.purpose.toNat]? with
  | none=>rw[hp]at h2; cases h2
  | some p=>exact (Uan.1 hp).1
 ·have:0<=q.purpose:=by simpa using h1
  omega
 ·unfold Ya7;rw[Uby hc];split
  ·rename_i p hp;obtain⟨hl,rfl⟩:=Uan.1 hp;rfl
  ·rename_i hp;rw[hp]at h2; cases h2
end Go.Py
namespace Go.Proofs.YtolkimpelpnpbaaGreatDoor
open Go Go.Ab Go.Lx Go.Sx Go.Py
section
variable {P:Prg} (hP:P.p=Tryz.prog)
include hP
theorem X6w:Xm P.p 62=true:=by rw[hP]; kernel_rfl
theorem Yea {p:Int×Int}{r:RRef}{ob:Xb}{i E:Nat}(hi:Xd ob i=some (.box E (.d (fD p)))){K:Out->Xb->Prop}(h:K (.ret (.d (.bool (decide (Go.Py.refP r=p))))) ob):ACall P 62 [.d r.enc,.ptr i []] ob K:=by
 refine Xn hP mixed Zgl Zla TOk.nil fun _ hno=>?_;have hi':(Xd ob i).isSome=true:=by rw[hi]; rfl
 have il:=Yd hi;have e0:(Xa ob==i)=false:=by simp; omega
 have e:decide (Go.Py.refP r=p)=if r.schema=p.1 then decide (r.field=p.2) else false:=by
  unfold Go.Py.refP;rw[Ucl];obtain⟨p1,p2⟩:=p;by_cases h1:r.schema=p1<;>simp[h1]
 rw[e]at h;have fin:∀(b:Bool) (o:Ob),K (.ret (.d (.bool b))) ob->X8 (Xa ob) (K (.ret (.d (.bool b)))) [.d (.bool b)] ((Xa ob,o)::ob):=fun b o h=>⟨[],by simp,by simp[Xc]; exact hno _,by simpa[Xc]using h⟩;by_cases h1:r.schema=p.1
 ·simp[Zaf,RRef.enc,hi,hi',fD,e0,h1]at h⊢;exact fin _ _ h
 ·simp[Zaf,RRef.enc,hi,hi',fD,e0,h1]at h⊢;exact fin _ _ h
theorem Xui {l:List RRef}(hl:l.length<=9223372036854775807){p:Int×Int}{ob:Xb}{i E:Nat}(hi:Xd ob i=some (.box E (.d (fD p)))){K:Out->Xb->Prop}(h:K (.ret (.d (.bool (decide (p∈l.map Go.Py.refP))))) ob):ACall P 61 [.d (.list 4 (l.map RRef.enc)),.fn 62 [] [.ptr i []]] ob K:=by
 refine Xn hP mixed Zgk Zk9 TOk.nil fun _ hno=>?_;have il:=Yd hi;have fin:∀(v:V),Rb8 (Xc (Xa ob) []) [v]=false->K (.ret v) ob->X8 (Xa ob) (K (.ret v)) [v] ob:=fun v h1 h=>⟨[],h1,by simp[Xc]; exact hno _,by simpa[Xc]using h⟩;simp[Zid];have idx:∀{K:Out->Xb->Prop},(∀z:Int,(0<=z↔p∈l.map Go.Py.refP)->K (.ret (.d (.int .i64 z))) ob)->ACall P 118 [.d (.list 4 (l.map RRef.enc)),.fn 62 [] [.ptr i []]] ob K:=by
  intro K h;refine Xn hP mixed Ywe Y29 TOk.nil fun _ hno=>?_;have fin:∀(v:V),Rb8 (Xc (Xa ob) []) [v]=false->K (.ret v) ob->X8 (Xa ob) (K (.ret v)) [v] ob:=fun v h1 h=>⟨[],h1,by simp[Xc]; exact hno _,by simpa[Xc]using h⟩;simp[Yzs];refine ALoop.upto l.length (fun k=>[(0,.d (.list 4 (l.map RRef.enc))),(1,.fn 62 [] [.ptr i []]),(7,.d (.int .i64 l.length)),(8,.d (.int .i64 k))])
   (fun _=>ob) (fun k=>∀j,(hj:j<l.length)->j<k->Go.Py.refP l[j] ≠ p) (fun j _ h=>absurd h (by omega)) (by simp) (by simp) ?_ ?_
  ·intro k hk hI R rn re rr rp;have wr:IntKind.i64.wrap ((k:Int)+1)=(k:Int)+1:=IntWalk.i64_in _ (by omega);simp[Xqv,hk,X6w hP];refine⟨⟨rfl,rfl⟩,Yea hP hi ?_⟩;by_cases e:Go.Py.refP l[k]=p
   ·simp[Xqw,e];refine rr _ _ ?_;simp;refine fin _ (by simp) (h k ⟨fun _=>?_,fun _=>by omega⟩);exact Ua5.2 ⟨_,Uba hk,e⟩
   ·simp[Xqw,X5q,e,wr];refine rn [] _ _ (fun j hj h1=>?_) (by simp) (by simp[Xc]) (by simp[Xc]; omega) (hno _);by_cases e2:j=k
    ·subst e2; exact e
    ·exact hI j hj (by omega)
  ·intro hI R re rr rp;simp[Xqv];refine re _ _ _ ?_;simp;refine fin _ (by simp) (h (-1) ⟨fun h=>by omega,fun h=>?_⟩);obtain⟨s,hs,e⟩:=Ua5.1 h;obtain⟨j,hj,rfl⟩:=Ub5.1 hs;exact (hI j hj hj e).elim
 refine idx fun z hz=>?_;have e:decide (p∈l.map Go.Py.refP)=decide (0<=z):=by rw[Ucl]; simp only[Ubp]; exact hz.symm
 rw[e]at h;simp;exact fin _ (by simp) h
theorem Ymn (hL:Xa2 P){p:RPurpose}(hp:p.may.length<=9223372036854775807){q:RQ}(hq:q.small)(hl:q.form.atoms.length<=1000){ob:Xb}{K:V->Prop}(h:K (.d (.bool (Xg8 p q)))):PCall P 31 [.d p.enc,.d q.enc] ob K:=by
 refine Xg hP mixed (ds:=[p.enc,q.enc]) Zf4 Zkl TOk.nil ?_;have qs:q.enc.shape.size=17:=by rw[RQ.enc,D.shape]; simp[D.shapes]
 have hpe:p.enc=.agg [.str p.name,.list 4 (p.may.map RRef.enc),iD p.most]:=rfl;rw[hpe];simp[Zht,qs];refine⟨rfl,Xym hP hL hq hl (fun d hd=>?_)⟩;have hal:=W9 q;unfold Xg8 at h;generalize X7 q=fs at hd hal h;have hlen:U8 (.d d)=.d (.int .i64 fs.length)/\∀ob,Qz ob (.d d):=by
  rcases hd with rfl | ⟨e,rfl⟩
  ·simp
  ·simp[e]
 refine⟨hlen.2 _,?_⟩;rw[hlen.1];refine ALoop.upto fs.length (fun k=>[(2,.ptr 0 []),(5,.d d),(10,.d d),(11,.d (.int .i64 fs.length)),(12,.d (.int .i64 k))])
  (fun _=>[(1,.box 42 (.d q.enc)),(0,.box 71 (.d (.agg [.str p.name,.list 4 (p.may.map RRef.enc),iD p.most])))]) (fun k=>(fs.take k).all (fun f=>decide (f∈p.may.map Go.Py.refP))=true) (by simp) (by simp) (by simp) ?_ ?_
 ·intro k hk hI R rn re rr rp;have wr:IntKind.i64.wrap ((k:Int)+1)=(k:Int)+1:=IntWalk.i64_in _ (by omega);obtain rfl:d=.list 2 (fs.map fD):=by
   rcases hd with rfl | ⟨e,rfl⟩
   ·rfl
   ·rw[e]at hk; simp at hk
  have hst:=Xjx (p:=fun f=>decide (f∈p.may.map Go.Py.refP)) hk;rw[hI,Ucv]at hst;simp[Xw3,hk];refine⟨⟨rfl,rfl⟩,rfl,Xui hP (l:=p.may) hp (p:=fs[k]) (E:=76) rfl ?_⟩;by_cases e:fs[k]∈p.may.map Go.Py.refP
  ·rw[show decide (fs[k]∈p.may.map Go.Py.refP)=true by simpa using e]at hst⊢;simp[Xw4,Ydv,wr];refine rn [] _ _ hst (by simp) (by simp[Xc]) (by simp[Xc]) (by simp[Xc])
  ·have hf:decide (fs[k]∈p.may.map Go.Py.refP)=false:=by simpa using e
   rw[hf];simp[Xw4];refine rr _ _ ?_;simp;have hall:fs.all (fun f=>decide (f∈p.may.map Go.Py.refP))=false:=by
    rw[List.all_eq_false];exact⟨_,Uba hk,by simpa using e⟩
   rw[hall]at h;exact h
 ·intro hI R re rr rp;simp[Xw3];refine re _ _ _ ?_;rw[Ucq]at hI;rw[hI,Ucv]at h;simp;refine⟨⟨hlen.2 _,by rw[hlen.1]; simp⟩,?_⟩;rw[hlen.1];simp;exact h
end
end Go.Proofs.YtolkimpelpnpbaaGreatDoor
namespace Go.Proofs.YtolkimpelpnpbaaGreatDoor
open Go Go.Ab Go.Lx Go.Sx Go.Py
section
variable {P:Prg} (hP:P.p=Tryz.prog)
include hP
theorem X95 {t:RTab}{q:RQ}(hc:Yc t.src q=true){n:Nat}(hn:n<t.src.purposes.length)(e1:q.purpose=n)(hm:t.src.purposes[n].may.length<=9223372036854775807){ob:Xb}{K:V->Prop}(h:K (.d (.bool (Xg8 t.src.purposes[n] q)))):PCall P 32 [.d t.enc,.d q.enc] ob K:=by
 refine Xg hP mixed (ds:=[t.enc,q.enc]) Zpv Zkm TOk.nil ?_;have hts:t.enc.shape.size=7:=rfl;have qs:q.enc.shape.size=17:=by rw[RQ.enc,D.shape]; simp[D.shapes]
 have tz:t.enc.sz=7:=rfl;have qz:q.enc.sz=17:=by rw[<-Ran]; exact qs
 have n0:¬(n:Int)<0:=by omega
 have hqe:q.enc=.agg [.str q.name,iD q.purpose,.list 4 (q.vars.map RVar.enc),q.form.enc]:=rfl;have hte:t.enc=.agg [t.src.enc,Xcd t.order]:=rfl;have hq':D.agg [.str q.name,iD n,.list 4 (q.vars.map RVar.enc),q.form.enc]=q.enc:=by rw[hqe,e1]
 have ht':D.agg [D.agg [Xo t.src.issuers,D.list 5 (List.map RUnit.enc t.src.units),D.list 6 (List.map RSchema.enc t.src.schemas),D.list 5 (List.map RRule.enc t.src.rules),D.list 5 (List.map RConvert.enc t.src.converts),D.list 3 (List.map RPurpose.enc t.src.purposes)],Xcd t.order]=t.enc:=rfl;obtain⟨_,al0,_⟩:=Zd hc;have al:=W9 q;simp[Zhu,hts,qs,tz,qz,hte,hqe,RSrc.enc,e1,n0,hn];refine⟨⟨rfl,rfl⟩,rfl,?_⟩;rw[hq',ht'];refine Xmd hP hc ?_;rw[Xyb];unfold Xg8 at h;generalize t.src.purposes[n]=p at hm h⊢;have hpe:p.enc=.agg [.str p.name,.list 4 (p.may.map RRef.enc),iD p.most]:=rfl;rw[hpe];have hin:∀f,inP p.may (Y0 t.src f)=decide (f∈p.may.map Go.Py.refP):=fun f=>by unfold inP; rw[Xb4]
 generalize X7 q=fs at al h⊢;refine ALoop.upto fs.length (fun k=>[(5,.ptr 2 []),(6,.d (.list 4 ((fs.map (Y0 t.src)).map RRef.enc))),(7,.d (.int .i64 k))])
  (fun _=>[(2,.box 71 (.d (.agg [.str p.name,.list 4 (p.may.map RRef.enc),iD p.most]))),(1,.box 42 (.d q.enc)),(0,.box 32 (.d t.enc))]) (fun k=>(fs.take k).all (fun f=>decide (f∈p.may.map Go.Py.refP))=true) (by simp) (by simp) (by simp) ?_ ?_
 ·intro k hk hI R rn re rr rp;have wr:IntKind.i64.wrap ((k:Int)+1)=(k:Int)+1:=IntWalk.i64_in _ (by omega);have hst:=Xjx (p:=fun f=>decide (f∈p.may.map Go.Py.refP)) hk;rw[hI,Ucv]at hst;simp[Xw5,hk];refine⟨⟨rfl,rfl⟩,Y07 hP hm (.inl rfl) _ ?_⟩;rw[hin];by_cases e:fs[k]∈p.may.map Go.Py.refP
  ·rw[show decide (fs[k]∈p.may.map Go.Py.refP)=true by simpa using e]at hst⊢;simp[wr];refine rn [] _ _ hst (by simp) (by simp[Xc]) (by simp[Xc]) (by simp[Xc])
  ·have hf:decide (fs[k]∈p.may.map Go.Py.refP)=false:=by simpa using e
   rw[hf];simp;refine rr _ _ ?_;simp;have hall:fs.all (fun f=>decide (f∈p.may.map Go.Py.refP))=false:=by
    rw[List.all_eq_false];exact⟨_,Uba hk,by simpa using e⟩
   rw[hall]at h;exact h
 ·intro hI R re rr rp;simp[Xw5];refine re _ _ _ ?_;rw[Ucq]at hI;rw[hI,Ucv]at h;simp;exact h
end
end Go.Proofs.YtolkimpelpnpbaaGreatDoor
namespace Go.Proofs.YtolkimpelpnpbaaGreatDoor
open Go Go.Ab
def Yce:Nat:=0x105807c05d4bb25b050025c3c94437f16d2ed104cab2ed1330220fd0249292ed4fe01c0b300e0550004bb25b05001c0b300e055001025c3c94437f16d2ed104cab2ed1330220fd0249292ed7221f100e01d0deaeb2372ed0b54948b6b9130705ec8706101d9f71a204701e147dc3
def Ycf:Nat:=0x1000bd412900c0a4113aec031793
def Ycg:Nat:=0x106f8527ea1681c44a5c7d8f4dab00f9d3183aa20120500d00070f54a53790061260060381a9d4a00900d21a063
def X2x:Nat:=0x12d6131d4a5fe0442778db16816100d06e1207ea04eb0d25c64404455400904c6a913f1305560049022c7bba00c0460f28db1681611572c7bba0500011207ea04eb0d25c64404455400904c6a913f1305568a204706f04900016300e14f0b513214400e06724e00005e51014f1b213a2d737d06e363022b04b1704c0cf8928529d402b00d8d00040f89c64e600b660169
def n35:Nat:=0x10ec0030681540032ab01b1c400a0c86fa0798ad27c26004833c2eb0480160eeca84a50130ee0129f74e60109f70b504c00daf0bf800a15410505200e30700d9f729600e14731e00abd40eabd406500c06305d23906786502902a0814a511d68502a0310ac068dc802800a589b968c102202903a65775b02725b1e91610740260510251041e63b82787e99941e649f1e602206c7c11e60216971e60061b11e6d5d0011e63637c17ab30200976a10d7e943e06f96814f0180c80060bfd5d36314f8c114f40fd1e015045338dc831d0130d90129c62966611b80d707c39225b3001618c114f0ac356dc843d00f0d941b14f29693631ed4a0050743240280aeb9502901ddcb00503b102
def Zby:S:=zS [(zS [(zS [] Ycg),(zS [] Ycf)] X2x),(zS [] Yce)] n35
theorem Zpx:Xi Tryz.prog 35 4 Zby [.c 8 14 true,.t 9]=true:=by kernel_rfl
def n66:Nat:=0x141101314e074012ac1383b680d015c2301bb99415c00606c7c115cd5d00115c3637c115c49fc7000a1604f114f4e664c2f304f09301e002b6f01ddcb005950
def Zcb:S:=zS [] n66
theorem Zp9:Xi Tryz.prog 66 4 Zcb [.t 8]=true:=by kernel_rfl
end Go.Proofs.YtolkimpelpnpbaaGreatDoor
namespace Go.Proofs.YtolkimpelpnpbaaGreatDoor
open Go Go.Ab
def Xot:S2:=zL [] [] Yce
def Xw7:=(by cbv:Xot=_)
def Xou:S2:=zL [] [] Ycf
def Xw8:=(by cbv:Xou=_)
def Xov:S2:=zL [] [] Ycg
def Ydx:=(by cbv:Xov=_)
def Xos:S2:=zL [] [Xov,Xou] X2x
def Xw6:=(show Xos=_ from (fun (a b:S2)=>(by cbv:zL [] [a,b] X2x=_)) Xov Xou)
def Zdj:S2:=zL [] [Xos,Xot] n35
def Y0v:=(show Zdj=_ from (fun (a b:S2)=>(by cbv:zL [] [a,b] n35=_)) Xos Xot)
theorem Zkp:Zby.lift []=some Zdj:=by kernel_rfl
def Zea:S2:=zL [] [] n66
def Zah:=(by cbv:Zea=_)
theorem Zle:Zcb.lift []=some Zea:=by kernel_rfl
end Go.Proofs.YtolkimpelpnpbaaGreatDoor
namespace Go.Py
open Go Go.Ab Go.Lx Go.Sx
def Xx1 (y:RSrc)(q:RQ)(x:RTerm):Prop:=(x.var<0/\Yg q x=none)\/∃p,0<=x.var/\Yg q x=some p/\inR y p
theorem Yga (l:List RRef)(y:RSrc)(p:Int×Int):inP l (Y0 y p)=decide (p∈Yn l):=by
 rw[Ucl,X88,Xb4]; simp
theorem Xuo {y:RSrc}{q:RQ}(hv:Xax y q.vars){a:RAtom}(h:Wk y q.vars a=true):Xx1 y q a.a/\Xx1 y q a.b:=by
 unfold Wk at h;simp only[Uai,Ucd]at h;exact⟨Qw hv (by simpa using h.1.1.1.1.2),Qw hv (by simpa using h.1.1.1.2)⟩
end Go.Py
namespace Go.Proofs.YtolkimpelpnpbaaGreatDoor
open Go Go.Ab Go.Lx Go.Sx Go.Py
set_option maxHeartbeats 2000000
section
variable {P:Prg} (hP:P.p=Tryz.prog)
include hP
theorem Yxr {t:RTab}{q:RQ}{x:RTerm}(hx:Xx1 t.src q x){l:List RRef}(hl:l.length<=100000){ob:Xb}{K:V->Prop}(h:K (.d (.bool (Xk6 q (Yn l) x)))):PCall P 66 [.d t.enc,.d q.enc,.d x.enc,.d (.list 4 (l.map RRef.enc))] ob K:=by
 refine Xg hP mixed (ds:=[t.enc,q.enc,x.enc,.list 4 (l.map RRef.enc)]) Zp9 Zle TOk.nil ?_;have tz:t.enc.sz=7:=rfl;have qz:q.enc.sz=17:=by rw[<-Ran,RQ.enc,D.shape]; simp[D.shapes]
 have hxe:x.enc=.agg [.str x.name,.str x.path,iD x.var,iD x.field,iD x.n]:=rfl;rcases hx with⟨h0,h1⟩ | ⟨p,h0,h1,h2⟩
 ·have g0:¬0<=x.var:=by omega
  have hf:Xk6 q (Yn l) x=false:=by unfold Xk6; rw[h1]
  rw[hf]at h;simp[Zah,hxe,g0];exact h
 ·have hf:Xk6 q (Yn l) x=decide (p∈Yn l):=by unfold Xk6; rw[h1]
  rw[hf]at h;simp[Zah,hxe,h0,tz,qz];rw[<-hxe];refine⟨rfl,rfl,rfl,rfl,Xqf hP h1 h2 ?_⟩;refine Y07 hP (by omega) (.inl rfl) _ ?_;rw[Yga];simp;exact h
theorem X3x {t:RTab}{q:RQ}{l:List RRef}(hl:l.length<=100000):∀(f:RForm),Rdi f->(∀a∈f.atoms,Xx1 t.src q a.a/\Xx1 t.src q a.b)->∀{ob:Xb} {K:V->Prop},
  K (.tup [.d (rbF (Zm q (Yn l)) f).1.enc,.d (.bool (rbF (Zm q (Yn l)) f).2)])->PCall P 35 [.d t.enc,.d q.enc,.d f.enc,.d (.list 4 (l.map RRef.enc))] ob K:=fun f hf hat ob K h=>by
 have ih:∀k∈f.kids,∀{ob:Xb} {K:V->Prop},K (.tup [.d (rbF (Zm q (Yn l)) k).1.enc,.d (.bool (rbF (Zm q (Yn l)) k).2)])->PCall P 35 [.d t.enc,.d q.enc,.d k.enc,.d (.list 4 (l.map RRef.enc))] ob K:=fun k hk _ _ h=>X3x hl k ((Xbd hf).2.2 k hk) (fun a ha=>hat a (by
  rw[atoms_eq,Ubu,List.mem_flatMap];exact .inr ⟨k,hk,ha⟩)) h
 refine Xg hP mixed (ds:=[t.enc,q.enc,f.enc,.list 4 (l.map RRef.enc)]) Zpx Zkp TOk.nil ?_;have tz:t.enc.sz=7:=rfl;have qz:q.enc.sz=17:=by rw[<-Ran,RQ.enc,D.shape]; simp[D.shapes]
 have hE:f.enc=.agg [iD f.op,iD f.n,.list 14 (f.kids.map RForm.enc),f.atom.enc]:=Rc4 f;by_cases h5:f.op=5
 ·have hR:rbF (Zm q (Yn l)) f=(f,!(Xk6 q (Yn l) f.atom.a||Xk6 q (Yn l) f.atom.b)):=by rw[Xf9,Uby h5]; rfl
  have hmem:f.atom∈f.atoms:=by rw[atoms_eq]; simp[J7,h5]
  obtain⟨ta,tb⟩:=hat _ hmem;have hae:f.atom.enc=.agg [iD f.atom.op,f.atom.a.enc,f.atom.b.enc]:=rfl;have ts:∀t:RTerm,t.enc.sz=5:=fun t=>rfl;rw[hR]at h;simp only at h;rw[hE,h5]at h;have ash:f.atom.enc.shape=.node [.leaf,.node [.leaf,.leaf,.leaf,.leaf,.leaf],.node [.leaf,.leaf,.leaf,.leaf,.leaf]]:=rfl;have asz:f.atom.enc.sz=11:=rfl;simp[Y0v,hE,h5,tz,qz,hae,ts];refine⟨rfl,rfl,rfl,rfl,rfl,rfl,Yxr hP ta hl ?_⟩;rw[hae]at h;cases g1:Xk6 q (Yn l) f.atom.a with
  | true=>
   rw[g1]at h;simp[tz,qz,hae,ts,ash]at h⊢
   first | exact h | exact⟨rfl,h⟩ | trace_state
  | false=>
   rw[g1]at h;simp[tz,qz,hae,ts,ash]at h⊢;refine⟨rfl,rfl,rfl,rfl,rfl,rfl,Yxr hP tb hl ?_⟩;simp;exact h
 ·by_cases h4:f.op=4
  ·have hR:rbF (Zm q (Yn l)) f=(f,true):=by rw[Xf9,Ubo h5,Uby h4]
   rw[hR]at h;simp only at h;rw[hE,h4]at h;have ash:f.atom.enc.shape=.node [.leaf,.node [.leaf,.leaf,.leaf,.leaf,.leaf],.node [.leaf,.leaf,.leaf,.leaf,.leaf]]:=rfl;have asz:f.atom.enc.sz=11:=rfl;simp[Y0v,hE,h4,ash,asz];exact h
  ·have hkl:=(Xbd hf).1;have hkn:=(Xbd hf).2.1;have ash:f.atom.enc.shape=.node [.leaf,.node [.leaf,.leaf,.leaf,.leaf,.leaf],.node [.leaf,.leaf,.leaf,.leaf,.leaf]]:=rfl;have asz:f.atom.enc.sz=11:=rfl;have fsh:∀g:RForm,g.enc.shape=fSh:=fun g=>RForm.enc_shape g;have fsz:∀g:RForm,g.enc.sz=14:=fun g=>by rw[<-Ran,fsh]; rfl
   have fs14:fSh.size=14:=rfl;have hR:rbF (Zm q (Yn l)) f=(.mk f.op (if f.op=3 then max (f.n-(f.kids.length-(rbL (Zm q (Yn l)) f.kids).length)) 1 else f.n) (rbL (Zm q (Yn l)) f.kids) f.atom,decide (f.kids.length=0)||decide (0<(rbL (Zm q (Yn l)) f.kids).length)):=by rw[Xf9,Ubo h5,Ubo h4]
   have hll:=Jn (Zm q (Yn l)) f.kids;rw[hR]at h;simp only at h;rw[Rc4,show ∀o n k a,(RForm.mk o n k a).op=o from fun _ _ _ _=>rfl,show ∀o n k a,(RForm.mk o n k a).n=n from fun _ _ _ _=>rfl,show ∀o n k a,(RForm.mk o n k a).kids=k from fun _ _ _ _=>rfl,show ∀o n k a,(RForm.mk o n k a).atom=a from fun _ _ _ _=>rfl]at h;simp[Y0v,hE,h4,h5,ash,asz];let zFD:D:=.agg [.int .i64 0,.int .i64 0,.nils,.agg [.int .i64 0,.agg [.str [],.str [],.int .i64 0,.int .i64 0,.int .i64 0],.agg [.str [],.str [],.int .i64 0,.int .i64 0,.int .i64 0]]];refine ALoop.upto f.kids.length (fun k=>[(3,.d (.list 4 (l.map RRef.enc))),(4,.d (.ref t.enc)),(5,.d (.ref q.enc)),(6,.d (.ref (.agg [iD f.op,iD f.n,.list 14 (f.kids.map RForm.enc),f.atom.enc]))),(8,.ptr 0 []),(10,.ptr 1 []),(11,.d (.int .i64 k))])
    (fun k=>[(2,.arr 40 14 ((rbL (Zm q (Yn l)) (f.kids.take k)).map RForm.enc)),(1,.box 40 (.agg [.d (iD f.op),.d (iD f.n),.sl 2 (rbL (Zm q (Yn l)) (f.kids.take k)).length,.d f.atom.enc])),(0,.box 40 (.d zFD))]) (fun _=>True) trivial (by simp) (by simp[rbL,zFD]) ?_ ?_
   ·intro k hk _ R rn re rr rp;have wr:IntKind.i64.wrap ((k:Int)+1)=(k:Int)+1:=IntWalk.i64_in _ (by omega);have hmem:f.kids[k]∈f.kids:=Uba hk;have hst:=Xty (h:=Zm q (Yn l)) hk;have hrl:(rbL (Zm q (Yn l)) (f.kids.take k)).length<=8:=by
     have:=Jn (Zm q (Yn l)) (f.kids.take k);simp only[Ua7]at this; omega
    rw[hst]at rn;generalize rbL (Zm q (Yn l)) (f.kids.take k)=xs at rn hrl⊢;have cK:=@ih _ hmem;have hagg:∀k:RForm,(match V.d k.enc with | V.d (D.agg xs)=>true | V.agg xs=>true | x=>false)=true:=fun k=>by rw[Rc4]
    simp[Xw6,hk,zFD,fsh,fsz,fs14,tz,qz]
    repeat' with_reducible refine And.intro ?_ ?_
    all_goals first | rfl | exact hagg _ | refine cK ?_
    all_goals simp[fsh,fsz,fs14]
    all_goals try simp[fSh]
    all_goals simp[Ydx]
    all_goals
     cases g:(rbF (Zm q (Yn l)) f.kids[k]).2 with
     | false=>
      rw[g,Ubo (by simp),Ub4]at rn;simp[Xw8,wr];refine rn [] _ _ trivial (by simp) (by simp[Xc,zFD]) (by simp[Xc]) (by simp[Xc,zFD])
     | true=>
      rw[g,Uby rfl]at rn;simp;refine⟨hagg _,by omega,?_⟩;simp[Xw8,wr];refine rn [] _ _ trivial (by simp) (by simp[Xc,zFD]) (by simp[Xc]) (by simp[Xc,zFD])
   ·intro _ R re rr rp;simp[Xw6];refine re _ _ _ ?_;simp[fSh];generalize rbL (Zm q (Yn l)) f.kids=xs at h hll⊢;by_cases h3:f.op=3
    ·have hn:=hkn h3;have w1:IntKind.i64.wrap ((f.kids.length:Int)-(xs.length:Int))=(f.kids.length:Int)-(xs.length:Int):=IntWalk.i64_in _ (by omega);have w2:IntKind.i64.wrap (f.n-((f.kids.length:Int)-(xs.length:Int)))=f.n-((f.kids.length:Int)-(xs.length:Int)):=IntWalk.i64_in _ (by omega);have em:(if f.op=3 then max (f.n-(f.kids.length-xs.length)) 1 else f.n)=if 1<f.n-((f.kids.length:Int)-(xs.length:Int)) then f.n-((f.kids.length:Int)-(xs.length:Int)) else 1:=by rw[Uby h3]; split<;>omega
     rw[em]at h;simp[h3,w1,w2,Xw7]at h⊢;exact⟨fun g=>⟨rfl,rfl,by simpa[g]using h⟩,fun g=>⟨rfl,rfl,by simpa[g]using h⟩⟩
    ·rw[Ubo h3]at h;simp[h3,Xw7]at h⊢;exact⟨fun g=>⟨rfl,rfl,by simpa[g]using h⟩,fun g=>⟨rfl,rfl,by simpa[g]using h⟩⟩
termination_by f=>SizeOf.sizeOf f
decreasing_by exact Rdd hk
end
end Go.Proofs.YtolkimpelpnpbaaGreatDoor
namespace Go.Proofs.YtolkimpelpnpbaaGreatDoor
open Go Go.Ab
def n15:Nat:=0x10b000d1a500c16b31d00b10720300a05e20310402100e2fb0611ba2fb0b4362009869b12d98
def Zbo:S:=zS [] n15
theorem Zpm:Xi Tryz.prog 15 2 Zbo [.t 4]=true:=by kernel_rfl
def n4:Nat:=0x11e05ba2833a99b21fa2500e000905a41b009a3e0094431aa9f6bab11b15f00c8db05a40200405a6870042171aa9a61321330f20440e0271c4e2710080422719be13f30100e1041ba049011035af308d00e51c2c113000012027707a02c007ada03302512902f01e673b4000e4a909525308d1a98bb0f78420000f833a0010280b402802d02502b02901e3e123bd9502a2532408bb8650277ae0092fad050210b402177055501e3b802236500e05d54bad18411dc3814495022fa00820601a0b401a02063b01b3182a80033ce05d54b01c01f00a3bd3416030193330189ed02805201716d78804f0da2049c9ac25c800209854bc74009a0535633300f35f01002cb7e85c7482f940a
def ir4:S:=zS [] n4
theorem ok4:Xi Tryz.prog 4 3 ir4 [.t 6]=true:=by kernel_rfl
def n17:Nat:=0x139e0020651770206b331704808d0060755791610040bf10400e0766575e44ac17701d6b39b90ac3df1ee0c301b2a601c0e85eb1ee0c301aa19009589d050120b401201a02501849b10d22a55600e05d2be8db0bf54b02298300c3bd5e40111770106b30589b909a5bc15496600e1235ad7be15438100d14eabb01dd9502200c03a2b9006333065a0788b2f9029004950
def Zbp:S:=zS [] n17
theorem Zpn:Xi Tryz.prog 17 3 Zbp [.c 6 17 true,.t 7]=true:=by kernel_rfl
def X3a:Nat:=0x10d71097dcd348a59c801b2290001fa08b14f06b27bc8b1b30053ad074a230b3bac15f01fc5505a451497443048497c6575f0cc27b
def X29:Nat:=0x100065c144c2002600003748e65c13533a13f10ae0ecc2ba9ac912014a802a125ec0002a0a1405002eb27a1f0e414a50ca12b5f02b287a14bdf2777bb76f66a2d40270a60273c400c025ac50280c4
def X28:Nat:=0x15e21af83b25b224
def Qm:S:=zS [] X28
def Xp5:Nat:=0x1ae109800b2a4ae84460437629fe1320b413200425c0020f279c0f215f0223362360110220013596b93c418458065cad597bd6836a1af009d4d18b9414a41af0080231a32720242ef06c
def Qn:S:=zS [(zS [] X29),(zS [] X3a)] Xp5
def Yks:Nat:=0x10081af6100689cb4e05fe
def X3b:Nat:=0x1d837dca7106b
def Xp6:Nat:=0x12d68bc1af0072a20242c60044c42781b8
def Y5g:Nat:=0x10680cac2143be2d05914f1330840ce01b9c64030c80b20199c605e0182563e98eb02015100137d04281ca01525081a71a1d33806796601300cb417790673810120aa0bd7c9dfd95e18fa2666923e1cf887003950
def Yr9:S:=zS [(zS [(zS [Qm,Qn] Yks),(zS [] X3b)] Xp6)] Y5g
theorem Y91:Uv Tryz.prog 18 2 Yr9 [.c 4 1 false,.c 5 1 false]=true:=by kernel_rfl
def X3c:Nat:=0x10035ad004
def X3d:Nat:=0x15e20f718580901123c
def Xp7:Nat:=0x12d600f07c0c354c00d065002aed0ba369d3054a0c39d1deb0c3891
def Y5h:Nat:=0x14a40f7bf40f70424e4763bf2d1a0d308d60000605e4ff1b71c88c8007d8f8007edd69267088397cdc00f039920
def Ysa:S:=zS [(zS [(zS [] X3c),(zS [] X3d)] Xp7)] Y5h
theorem Y92:Xi Tryz.prog 67 2 Ysa []=true:=by kernel_rfl
end Go.Proofs.YtolkimpelpnpbaaGreatDoor
namespace Go.Proofs.YtolkimpelpnpbaaGreatDoor
open Go Go.Ab
def Zc2:S2:=zL [] [] n15
def Zhh:=(by cbv:Zc2=_)
theorem Zj8:Zbo.lift []=some Zc2:=by kernel_rfl
def lt4:S2:=zL [] [] n4
def Et4:=(by cbv:lt4=_)
theorem lf4:ir4.lift []=some lt4:=by kernel_rfl
def Zc4:S2:=zL [] [] n17
def Zhj:=(by cbv:Zc4=_)
theorem Zka:Zbp.lift []=some Zc4:=by kernel_rfl
def Xil:S2:=zL [] [] X3a
def Xrg:=(by cbv:Xil=_)
def Xik:S2:=zL [] [] X29
def Xrf:=(by cbv:Xik=_)
def Xtk:S2:=zL [] [] X28
def X51:=(by cbv:Xtk=_)
theorem X9n:Qm.lift []=some Xtk:=by kernel_rfl
def Xtl:S2:=zL [] [Xik,Xil] Xp5
def X52:=(show Xtl=_ from (fun (a b:S2)=>(by cbv:zL [] [a,b] Xp5=_)) Xik Xil)
theorem X9o:Qn.lift []=some Xtl:=by kernel_rfl
def Xim:S2:=.block 0 (.rgf 18 [34] (.t 33) Qm Qn [2,3,4,5,7,8])
def Xin:S2:=zL [] [] X3b
def X53:=(by cbv:Xin=_)
def Xct:S2:=zL [] [Xim,Xin] Xp6
def X54:=(show Xct=_ from (fun (a b:S2)=>(by cbv:zL [] [a,b] Xp6=_)) Xim Xin)
def Yuv:S2:=zL [] [Xct] Y5g
def Y00:=(show Yuv=_ from (fun (a:S2)=>(by cbv:zL [] [a] Y5g=_)) Xct)
theorem Y4u:Yr9.lift []=some Yuv:=by kernel_rfl
def Xip:S2:=zL [] [] X3c
def Xri:=(by cbv:Xip=_)
def Xiq:S2:=zL [] [] X3d
def X55:=(by cbv:Xiq=_)
def Xio:S2:=zL [] [Xip,Xiq] Xp7
def Xrh:=(show Xio=_ from (fun (a b:S2)=>(by cbv:zL [] [a,b] Xp7=_)) Xip Xiq)
def Yuw:S2:=zL [] [Xio] Y5h
def Y01:=(show Yuw=_ from (fun (a:S2)=>(by cbv:zL [] [a] Y5h=_)) Xio)
theorem Y4v:Ysa.lift []=some Yuw:=by kernel_rfl
end Go.Proofs.YtolkimpelpnpbaaGreatDoor
namespace Go.Py
open Go Go.Ab Go.Lx Go.Sx
def Y1 (y:RSrc)(q:RQ)(l:List RRef):D:=if (X5 y q l).2=0 then (X5 y q l).1.enc else zQD
theorem Xqp (y:RSrc)(q:RQ)(l:List RRef):D.le (Y1 y q l) (X5 y q l).1.enc:=by
 unfold Y1;by_cases e:(X5 y q l).2=0
 ·rw[Uby e]; exact D.le.refl _
 ·rw[Ubo e];unfold X5 at e⊢;split
  ·split
   ·simp_all
   ·exact Yav
  ·exact Yav
end Go.Py
namespace Go.Proofs.YtolkimpelpnpbaaGreatDoor
open Go Go.Ab Go.Lx Go.Sx Go.Py
set_option maxHeartbeats 2000000
section
variable {P:Prg} (hP:P.p=Tryz.prog)
include hP
theorem Xee {t:RTab}(hy:t.src.small){q:RQ}(hf:q.form.nm<=1000000)(hvl:q.vars.length<=1000000){l:List RRef}(hl:l.length<=100000){ob:Xb}{K:V->Prop}
  (h:K (.tup [.d (Y1 t.src q l),.d (.int .i64 (X5 t.src q l).2)])):PCall P 17 [.d t.enc,.d q.enc,.d (.list 4 (l.map RRef.enc))] ob K:=by
 refine Xg hP mixed (ds:=[t.enc,q.enc,.list 4 (l.map RRef.enc)]) Zpn Zka TOk.nil ?_;have hts:t.enc.shape.size=7:=rfl;have qs:q.enc.shape.size=17:=by rw[RQ.enc,D.shape]; simp[D.shapes]
 have tz:t.enc.sz=7:=rfl;have qz:q.enc.sz=17:=by rw[<-Ran]; exact qs
 simp[Zhj,hts,qs,tz,qz];refine⟨rfl,rfl,rfl,rfl,X3u hP hy hf hvl ?_⟩;have hzd:zQD.shape.size=17:=rfl;cases hc:Yc t.src q with
 | false=>
  have hw:X5 t.src q l=(zQ,210):=by unfold X5; rw[Ubo (by simp[hc])]
  have hd:Y1 t.src q l=zQD:=by unfold Y1; rw[hw]; rfl
  rw[hd,hw]at h;simp[Z5,hc,hts,qs,tz,qz];exact h
 | true=>
  obtain⟨hv,_,hat⟩:=Zd hc;have hck:(q.form.okS t.src q.vars 1 (0,0)).1=true:=by
   simp only[Yc,Uai]at hc;exact hc.2
  have hfin:=Xcw _ _ _ _ _ hck;have fsh:∀g:RForm,g.enc.shape=fSh:=fun g=>RForm.enc_shape g;have fs14:fSh.size=14:=rfl;have hE:q.enc=.agg [.str q.name,iD q.purpose,.list 4 (q.vars.map RVar.enc),q.form.enc]:=rfl;simp[Z5,hc,hts,qs,tz,qz,hE,fsh,fs14];have hagg:∀k:RForm,(match V.d k.enc with | V.d (D.agg xs)=>true | V.agg xs=>true | x=>false)=true:=fun k=>by rw[Rc4]
  refine⟨hagg _,rfl,hagg _,rfl,?_⟩;rw[<-hE];refine X3x hP hl q.form hfin (fun a ha=>Xuo hv (hat a ha)) ?_;simp[fsh,fs14];cases hr:(rbF (Zm q (Yn l)) q.form).2 with
  | false=>
   have hw:X5 t.src q l=(zQ,260):=by unfold X5; rw[Uby hc,Ubo (by simp[hr])]
   have hd:Y1 t.src q l=zQD:=by unfold Y1; rw[hw]; rfl
   rw[hd,hw]at h;simp;exact h
  | true=>
   have hw:X5 t.src q l=(q.withF (rbF (Zm q (Yn l)) q.form).1,0):=by unfold X5; rw[Uby hc,Uby hr]
   have hd:Y1 t.src q l=(q.withF (rbF (Zm q (Yn l)) q.form).1).enc:=by unfold Y1; rw[hw]; rfl
   rw[hd,hw]at h;simp[fsh,fs14];exact⟨hagg _,h⟩
end
end Go.Proofs.YtolkimpelpnpbaaGreatDoor
namespace Go.Proofs.YtolkimpelpnpbaaGreatDoor
open Go Go.Ab
def Yb0:Nat:=0x1a01ad50870090c7bc20238bb1bf00a024063
def Yb1:Nat:=0x18de2e401941c018043008019793
def X2f:Nat:=0x11df4a40071bf02200002125bc270b401a02202502001b5790653182a80065ee35b1e8012d1a9e714f781112dcf1dc2380165750030150040b40081c918f
def n19:Nat:=0x1d835b959f0681dc2e407f8de2e49fa0072019df5c8934dfd01203a09aa01310030087a1d5bc0062e40651f70a700f7be00620100d0aaabb01ddfd00c03a09a12e0d17d4887003950
def Zbq:S:=zS [(zS [(zS [] Yb0),(zS [] Yb1)] X2f)] n19
theorem Zpp:Xi Tryz.prog 19 2 Zbq [.t 4,.t 5]=true:=by kernel_rfl
def Ych:Nat:=0x10d709b39217a17501e0110c7d360bd396433009038063
def Yci:Nat:=0x1b646a00f80110a402bb1802c793
def X2y:Nat:=0x11df2540bd396058007e501d500203848fdf8a430407d1032031061e3200a2a5e501d500203848fdf80b2e3200a2a5e5059b166e321f1df89f3dbf0320312250ba6650529a60431571600cc0501440f114f104cb11051333104fe03513404855427f04583d37d06e0b583b02f03a04201504c0cfe0301039600778e11402852db6918f
def n37:Nat:=0x105809b4225b900d5190106a00ea0106a00262080040271d00d709b00289c01e3a80740248bcb477f00d033145106e3310b50077c133102010901f0d900f04301f47308db5b1bb01d30200e9fec3d3850255cd01e11c01836500e06f04937d0b583b01903ac06a720b1634b7c9780130f70142ca05d0b12200745b93a8dcb6d209a
def Zbz:S:=zS [(zS [(zS [] Ych),(zS [] Yci)] X2y)] n37
theorem Zf7:Xi Tryz.prog 37 6 Zbz [.t 12,.t 13]=true:=by kernel_rfl
end Go.Proofs.YtolkimpelpnpbaaGreatDoor
namespace Go.Proofs.YtolkimpelpnpbaaGreatDoor
open Go Go.Ab
def Xod:S2:=zL [] [] Yb0
def Xws:=(by cbv:Xod=_)
def Xoe:S2:=zL [] [] Yb1
def Ydt:=(by cbv:Xoe=_)
def Xoc:S2:=zL [] [Xod,Xoe] X2f
def Xwr:=(show Xoc=_ from (fun (a b:S2)=>(by cbv:zL [] [a,b] X2f=_)) Xod Xoe)
def Zc5:S2:=zL [] [Xoc] n19
def Zhk:=(show Zc5=_ from (fun (a:S2)=>(by cbv:zL [] [a] n19=_)) Xoc)
theorem Zkb:Zbq.lift []=some Zc5:=by kernel_rfl
def Xox:S2:=zL [] [] Ych
def Xxa:=(by cbv:Xox=_)
def Xoy:S2:=zL [] [] Yci
def Ydy:=(by cbv:Xoy=_)
def Xow:S2:=zL [] [Xox,Xoy] X2y
def Xw9:=(show Xow=_ from (fun (a b:S2)=>(by cbv:zL [] [a,b] X2y=_)) Xox Xoy)
def Zdl:S2:=zL [] [Xow] n37
def Zad:=(show Zdl=_ from (fun (a:S2)=>(by cbv:zL [] [a] n37=_)) Xow)
theorem Zcy:Zbz.lift []=some Zdl:=by kernel_rfl
end Go.Proofs.YtolkimpelpnpbaaGreatDoor
namespace Go.Ab
open Go
theorem ACall.giv {P:Prg}{f:Nat}{vs:List V}{ob ob':Xb}{l:List D}{K:Out->Xb->Prop}(h0:Rbv ob vs=some (l,ob'))(h:ACall P f (l.map .d) ob' K):ACall P f vs ob K:=
 ⟨fun w ρ args hO hg hr=>by
  obtain⟨ρ',t,o',r'⟩:=Qk vs args hO hr h0;exact (h.run w ρ' args o' (t.gl.trans hg) r').mono fun _ _ ⟨out,ob1,ρ1,k,hr,ho,t1⟩=>⟨out,ob1,ρ1,k,hr,ho,t.trans t1⟩⟩
end Go.Ab
namespace Go.Py
open Go Go.Ab Go.Lx Go.Sx
theorem Yy {ob:Xb}{j k:Nat}{o:Ob}(h:j ≠ k):Xd (setO ob j o) k=Xd ob k:=by
 have e:(j==k)=false:=by simpa using h
 simp[e]
theorem Xbg {ob:Xb}{k:Nat}{o:Ob}(h:(Xd ob k).isSome=true):Xd (setO ob k o) k=some o:=by simp[h]
theorem Yz {ob:Xb}{j k:Nat}{o:Ob}(h:j ≠ k):Xd ((j,o)::ob) k=Xd ob k:=by
 have e:(j==k)=false:=by simpa using h
 simp[e]
theorem Yo {ob:Xb}{j:Nat}(hj:(Xd ob j).isSome=true):j<Xa ob:=by
 rcases Uaa j (Xa ob) with h1 | h1
 ·exact h1
 ·rw[X1 ob j h1]at hj; cases hj
def U6 (ob:Xb):List Nat:=ob.map (·.1)
theorem Xvf {ob:Xb}{j:Nat}(h:(Xd ob j).isSome=true):j∈U6 ob:=by
 induction ob with
 | nil=>simp[Xd]at h
 | cons e r ih=>
  obtain⟨i,o⟩:=e;by_cases e:i=j
  ·subst e; simp[U6]
  ·have:=ih (by simpa[Xd,e]using h);simp[U6]at this⊢;exact .inr this
theorem Y5 (n:Nat):∀(ob:Xb) (l:List Nat),(∀j∈U6 ob,j∈l)->Y2 (Xc n l) ob=ob
 | [],_,_=>rfl
 | (i,o)::r,l,h=>by
  have h1:Xc n l i=false:=by simp[Xc]; intro _; exact h i (by simp[U6])
  simp only[Y2,h1,Uah,Uay];rw[Y5 n r l fun j hj=>h j (by simp[U6]at hj⊢; exact .inr hj)]
theorem W5 {n:Nat}{ob:Xb}{j:Nat}(h:(Xd ob j).isSome=true):Xc n (U6 ob) j=false:=by
 have:=Xvf h;simp[Xc]; intro _; exact this
theorem Xlx {ob:Xb}(ids:Nat->Bool)(k:Nat)(h:Xh ids ob=true):Xh ids (setO ob k .gone)=true:=by
 induction ob with
 | nil=>rfl
 | cons e r ih=>
  obtain⟨i,y⟩:=e;simp only[setO];split
  ·cases y<;>simp_all[Xh]
  ·cases y<;>simp_all[Xh]
theorem Qo {ob:Xb}(ids:Nat->Bool)(k tag:Nat)(st:LSt)(sl:Xf)(h:Xh ids ob=true)(hs:Wo ids sl=true):Xh ids (setO ob k (.lp tag st sl))=true:=by
 induction ob with
 | nil=>rfl
 | cons e r ih=>
  obtain⟨i,y⟩:=e;simp only[setO];split
  ·cases y<;>simp_all[Xh]
  ·cases y<;>simp_all[Xh]
structure LS (lb:Nat)(ob0 ob:Xb)(l0 l:Nat):Prop where
 fr:Xa ob0<=Xa ob
 other:∀j,j<Xa ob0->j ≠ l0->j ≠ lb->Xd ob j=Xd ob0 j
 lt:l=l0\/Xa ob0<=l
 sub:∀j,(Xd ob0 j).isSome=true->(Xd ob j).isSome=true
 men:∀ids,Xh ids ob0=true->(∀j,(Xd ob j).isSome=true->ids j=false)->Xh ids ob=true
theorem LS.refl (lb:Nat)(ob:Xb)(l:Nat):LS lb ob ob l l:=⟨Uak _,fun _ _ _ _=>rfl,.inl rfl,fun _ h=>h,fun _ h _=>h⟩
theorem LS.trans {lb:Nat}{a b c:Xb}{l0 l1 l2:Nat}(h:LS lb a b l0 l1)(h':LS lb b c l1 l2):LS lb a c l0 l2:=by
 refine⟨Ual h.fr h'.fr,fun j h1 h2 h3=>?_,?_,fun j hj=>h'.sub j (h.sub j hj),fun ids h1 h2=>h'.men ids (h.men ids h1 fun j hj=>h2 j (h'.sub j hj)) h2⟩
 ·have hl:j ≠ l1:=by rcases h.lt with e | e<;>omega
  have:=h.fr;rw[h'.other j (by omega) hl h3,h.other j h1 h2 h3]
 ·have:=h.fr;rcases h'.lt with e | e
  ·rw[e]; exact h.lt
  ·exact .inr (by omega)
theorem LS.leave {lb:Nat}{ob0 ob:Xb}{l0 l:Nat}(h:LS lb ob0 ob l0 l)(hno:∀kp,Xh (Xc (Xa ob0) kp) ob0=true){K:Xb->Prop}{vs:List V}(hv:∀ids,Rb8 ids vs=false)(hK:K ob):X8 (Xa ob0) K vs ob:=
 ⟨U6 ob,hv _,by rw[Y5 _ _ _ fun _ h=>h]; exact h.men _ (hno _) fun j hj=>W5 hj,by rw[Y5 _ _ _ fun _ h=>h]; exact hK⟩
theorem LS.up {lb:Nat}{ob0 ob:Xb}{l0 l:Nat}(h:LS lb ob0 ob l0 l)(hno:∀kp,Xh (Xc (Xa ob0) kp) ob0=true):∀kp,Xh (Xc (Xa ob) kp) ob=true:=fun kp=>
 h.men _ (Qa hno h.fr) fun j hj=>by
  have:=Yo hj;simp[Xc]; omega
structure CE where
 (yb lb nb eb lp rb cb fb pb n:Nat)
 (t:RTab) (q:RQ) (p:RPurpose) (fd:D)
def CE.slk (c:CE):Xf:=[(2,.d (.ref c.t.enc)),(3,.d (.ref c.q.enc)),(4,.ptr c.rb []),(5,.ptr c.cb []),(7,.ptr c.fb []),(8,.ptr c.pb [])]
def ixD (xs:List Nat):List D:=xs.map fun i:Nat=>.int .i64 (i:Int)
structure XE (c:CE)(ob:Xb)(l:Nat)(xs:List Nat):Prop where
 hy:Xd ob c.yb=some (.box 135 (.hd true c.lp))
 hl:Xd ob c.lb=some (.box 30 (.sl l xs.length))
 hi:Xd ob l=some (.arr 3 1 (ixD xs))
 hn:Xd ob c.nb=some (.box 3 (.d (.int .i64 c.n)))
 he:Xd ob c.eb=some (.box 136 (.fn 68 [] [.ptr c.yb [],.ptr c.lb [],.ptr c.nb [],.ptr c.eb []]))
 hp:Xd ob c.lp=some (.lp 18 .ready c.slk)
 hr:Xd ob c.rb=some (.box 45 (.d .nils))
 hc:Xd ob c.cb=some (.box 46 (.d (.int .i64 0)))
 hf:Xd ob c.fb=some (.box 66 (.d c.fd))
 hq:Xd ob c.pb=some (.box 71 (.d c.p.enc))
theorem XE.ne {c:CE}{ob:Xb}{l:Nat}{xs:List Nat}(h:XE c ob l xs):l ≠ c.lb/\l ≠ c.yb/\l ≠ c.nb/\l ≠ c.eb/\l ≠ c.lp/\l ≠ c.rb/\l ≠ c.cb/\l ≠ c.fb/\l ≠ c.pb/\c.lb ≠ c.yb/\c.lb ≠ c.nb/\c.lb ≠ c.eb/\c.lb ≠ c.lp/\c.lb ≠ c.rb/\c.lb ≠ c.cb/\c.lb ≠ c.fb/\c.lb ≠ c.pb:=by
 have hi:=h.hi;have hl:=h.hl;refine⟨?_,?_,?_,?_,?_,?_,?_,?_,?_,?_,?_,?_,?_,?_,?_,?_,?_⟩<;>intro e
 ·rw[e,hl]at hi; cases hi
 ·rw[e,h.hy]at hi; cases hi
 ·rw[e,h.hn]at hi; cases hi
 ·rw[e,h.he]at hi; cases hi
 ·rw[e,h.hp]at hi; cases hi
 ·rw[e,h.hr]at hi; cases hi
 ·rw[e,h.hc]at hi; cases hi
 ·rw[e,h.hf]at hi; cases hi
 ·rw[e,h.hq]at hi; cases hi
 ·rw[e,h.hy]at hl; cases hl
 ·rw[e,h.hn]at hl; cases hl
 ·rw[e,h.he]at hl; cases hl
 ·rw[e,h.hp]at hl; cases hl
 ·rw[e,h.hr]at hl; cases hl
 ·rw[e,h.hc]at hl; cases hl
 ·rw[e,h.hf]at hl; cases hl
 ·rw[e,h.hq]at hl; cases hl
theorem XE.of_LS {c:CE}{ob ob':Xb}{l l':Nat}{xs ys:List Nat}(h:XE c ob l xs)(hs:LS c.lb ob ob' l l')(hl:Xd ob' c.lb=some (.box 30 (.sl l' ys.length)))(hi:Xd ob' l'=some (.arr 3 1 (ixD ys))):XE c ob' l' ys:=by
 obtain⟨n0,n1,n2,n3,n4,n5,n6,n7,n8,m1,m2,m3,m4,m5,m6,m7,m8⟩:=h.ne;have key:∀{j:Nat} {o:Ob},Xd ob j=some o->l ≠ j->c.lb ≠ j->Xd ob' j=some o:=fun {j o} hj h1 h2=>by
  rw[hs.other j (Yd hj) (fun e=>h1 e.symm) (fun e=>h2 e.symm)]; exact hj
 exact⟨key h.hy n1 m1,hl,hi,key h.hn n2 m2,key h.he n3 m3,key h.hp n4 m4,key h.hr n5 m5,key h.hc n6 m6,key h.hf n7 m7,key h.hq n8 m8⟩
def Xbl (c:CE)(ob:Xb)(l:Nat)(ys:List Nat):Xb:=setO (setO ob l (.arr 3 1 (ixD ys))) c.lb (.box 30 (.sl l ys.length))
theorem XE.push {c:CE}{ob:Xb}{l:Nat}{xs:List Nat}(h:XE c ob l xs)(ys:List Nat):LS c.lb ob (Xbl c ob l ys) l l/\XE c (Xbl c ob l ys) l ys:=by
 have hne:=h.ne.1;have hl':(Xd ob l).isSome=true:=by rw[h.hi]; rfl
 have hb':(Xd ob c.lb).isSome=true:=by rw[h.hl]; rfl
 have hb2:(Xd (setO ob l (.arr 3 1 (ixD ys))) c.lb).isSome=true:=by rw[Yy hne]; exact hb'
 have e1:Xd (Xbl c ob l ys) c.lb=some (.box 30 (.sl l ys.length)):=Xbg hb2;have e2:Xd (Xbl c ob l ys) l=some (.arr 3 1 (ixD ys)):=by
  unfold Xbl;rw[Yy (fun e=>hne e.symm),Xbg hl']
 have hs:LS c.lb ob (Xbl c ob l ys) l l:=by
  refine⟨by simp[Xbl],fun j _ h2 h3=>?_,.inl rfl,fun j hj=>?_,fun ids h1 h2=>?_⟩
  ·unfold Xbl;rw[Yy (fun e=>h3 e.symm),Yy (fun e=>h2 e.symm)]
  ·by_cases e:j=c.lb
   ·rw[e,e1]; rfl
   ·by_cases e':j=l
    ·rw[e',e2]; rfl
    ·unfold Xbl;rw[Yy (fun h=>e h.symm),Yy (fun h=>e' h.symm)];exact hj
  ·unfold Xbl;refine Xl _ _ _ _ _ (Yx _ _ _ _ _ _ h1) ?_;simp;exact h2 l (by rw[e2]; rfl)
 exact⟨hs,h.of_LS hs e1 e2⟩
def Xi0 (c:CE)(ob:Xb)(l:Nat)(ys:List Nat):Xb:=(Xa ob,.arr 3 1 (ixD ys))::setO (setO ob l .gone) c.lb (.box 30 (.sl (Xa ob) ys.length))
theorem XE.pop {c:CE}{ob:Xb}{l:Nat}{xs:List Nat}(h:XE c ob l xs)(ys:List Nat):LS c.lb ob (Xi0 c ob l ys) l (Xa ob)/\XE c (Xi0 c ob l ys) (Xa ob) ys:=by
 have hne:=h.ne.1;have hlb:=Yd h.hl;have hll:=Yd h.hi;have hb':(Xd ob c.lb).isSome=true:=by rw[h.hl]; rfl
 have hl':(Xd ob l).isSome=true:=by rw[h.hi]; rfl
 have hb2:(Xd (setO ob l .gone) c.lb).isSome=true:=by rw[Yy hne]; exact hb'
 have e1:Xd (Xi0 c ob l ys) c.lb=some (.box 30 (.sl (Xa ob) ys.length)):=by
  unfold Xi0;rw[Yz (by omega),Xbg hb2]
 have e2:Xd (Xi0 c ob l ys) (Xa ob)=some (.arr 3 1 (ixD ys)):=by unfold Xi0; simp
 have hs:LS c.lb ob (Xi0 c ob l ys) l (Xa ob):=by
  refine⟨by simp[Xi0],fun j h1 h2 h3=>?_,.inr (Uak _),fun j hj=>?_,fun ids h1 h2=>?_⟩
  ·unfold Xi0;rw[Yz (by omega),Yy (fun e=>h3 e.symm),Yy (fun e=>h2 e.symm)]
  ·by_cases e:j=c.lb
   ·rw[e,e1]; rfl
   ·by_cases e':j=l
    ·unfold Xi0;rw[e',Yz (by omega),Yy (fun e=>hne e.symm),Xbg hl']; rfl
    ·have:=Yo hj;unfold Xi0;rw[Yz (by omega),Yy (fun h=>e h.symm),Yy (fun h=>e' h.symm)];exact hj
  ·unfold Xi0;have:=Xl (k:=c.lb) (ids:=ids) (E:=30) (h:=Xlx ids l h1) (v:=.sl (Xa ob) ys.length) (hv:=by simp; exact h2 _ (by rw[e2]; rfl));simpa[Xh]using this
 exact⟨hs,h.of_LS hs e1 e2⟩
end Go.Py
namespace Go.Py
open Go Go.Ab Go.Lx Go.Sx
def V9 (c:CE)(d:D)(ob:Xb):Xb:=setO (setO (setO ob c.rb (.box 45 (.d d))) c.cb (.box 46 (.d (.int .i64 0)))) c.lp (.lp 18 .ret c.slk)
theorem Xgg {c:CE}{ob0 ob:Xb}{l0 l:Nat}{zs:List Nat}{d:D}(h:LS c.lb ob0 ob l0 l)(hx:XE c ob l zs)(hno:∀kp,Xh (Xc (Xa ob0) kp) ob0=true){K:Xb->Prop}{vs:List V}(hv:∀ids,Rb8 ids vs=false)(hK:K (V9 c d ob)):X8 (Xa ob0) K vs (V9 c d ob):=by
 have hs:∀j,(Xd ob j).isSome=true->(Xd (V9 c d ob) j).isSome=true:=fun j hj=>by
  have key:∀{o:Xb} (k:Nat) (x:Ob),(Xd o j).isSome=true->(Xd (setO o k x) j).isSome=true:=fun {o} k x ho=>by
   by_cases e:k=j
   ·subst e; rw[Xbg ho]; rfl
   ·rw[Yy e]; exact ho
  exact key _ _ (key _ _ (key _ _ hj))
 refine⟨U6 (V9 c d ob),hv _,?_,by rw[Y5 _ _ _ fun _ h=>h]; exact hK⟩;rw[Y5 _ _ _ fun _ h=>h];have hk:∀j,(Xd ob j).isSome=true->Xc (Xa ob0) (U6 (V9 c d ob)) j=false:=fun j hj=>W5 (hs j hj);refine Qo _ _ _ _ _ (Xl _ _ _ _ _ (Xl _ _ _ _ _ (h.men _ (hno _) hk) (by simp)) (by simp)) ?_;simp[CE.slk,hk c.rb (by rw[hx.hr]; rfl),hk c.cb (by rw[hx.hc]; rfl),hk c.fb (by rw[hx.hf]; rfl),hk c.pb (by rw[hx.hq]; rfl)]
theorem Xs3 (xs:List Nat)(i:Nat):ixD (xs++[i])=ixD xs++[.int .i64 (i:Int)]:=by simp[ixD]
theorem Yhy {P:Prg}{sl:Xf}{ob:Xb}{KO PO:V->Xb->Prop}(z:Nat)(x h:A):I.wp P sl ob KO PO (.trn z x h)=Yao z ob KO (x.ev sl) (h.ev sl):=by simp only[I.wp]
theorem Yli {ob:Xb}{id n z E sz:Nat}{h:Int}{xs:List D}{K:V->Xb->Prop}(hl:Xd ob id=some (.arr E sz xs)):Yao z ob K (.sl id n) (.d (.int .i64 h))=(sz=z/\n=xs.length/\xs ≠ []/\(0<=h/\h<=n)/\K (.sl (Xa ob) h.toNat) ((Xa ob,.arr E sz (xs.take h.toNat))::setO ob id .gone)):=by
 simp only[Yao,hl,Yzj]
def U3 (n i:Nat):List Nat:=List.range' i (n-i)
theorem X00 {n i:Nat}(h:i<n):U3 n i=i::U3 n (i+1):=by
 unfold U3;obtain⟨m,hm⟩:∃m,n-i=m+1:=⟨n-i-1,by omega⟩
 have hm2:n-(i+1)=m:=by omega
 rw[hm,hm2,Ubs]
end Go.Py
namespace Go.Proofs.YtolkimpelpnpbaaGreatDoor
open Go Go.Ab Go.Lx Go.Sx Go.Py
section
variable {P:Prg} (hP:P.p=Tryz.prog)
include hP
theorem Xys:Xm P.p 68=true:=by rw[hP]; kernel_rfl
def Xm7 (P:Prg)(c:CE)(go:List Nat->Bool)(rD:List Nat->D):Prop:=∀{ob:Xb} {l:Nat} {xs:List Nat} {K:Out->Xb->Prop},XE c ob l xs->(∀i∈xs,i<c.n)->xs.length<=c.n->(∀kp,Xh (Xc (Xa ob) kp) ob=true)->
 (go xs=true->K (.ret (.d (.bool true))) ob)->(go xs=false->K (.ret (.d (.bool false))) (V9 c (rD xs) ob))->AYield P c.lp [.sl l xs.length] ob K
theorem Xrj {c:CE}{go:List Nat->Bool}{rD:List Nat->D}(hY:Xm7 P c go rD)(hn:c.n<=1000):∀(many:Nat) {ob:Xb} {l fm:Nat} {xs:List Nat},XE c ob l xs->(∀i∈xs,i<c.n)->xs.length+many<=c.n->fm<=c.n->∀{K:Out->Xb->Prop},
  ((Uy many (U3 c.n fm)).find? (fun s=>!go (xs++s))=none->∀ob' l',LS c.lb ob ob' l l'->XE c ob' l' xs->K (.ret (.d (.bool true))) ob')->
  (∀s,(Uy many (U3 c.n fm)).find? (fun s=>!go (xs++s))=some s->∀ob' l',LS c.lb ob ob' l l'->XE c ob' l' (xs++s)->K (.ret (.d (.bool false))) (V9 c (rD (xs++s)) ob'))->
  ACall P 68 [.d (.int .i64 fm),.d (.int .i64 many),.ptr c.yb [],.ptr c.lb [],.ptr c.nb [],.ptr c.eb []] ob K
 | 0,ob,l,fm,xs,hx,hi,hlen,hfm,K,h1,h2=>by
  refine Xn hP mixed Y90 Zcz TOk.nil fun _ hno=>?_;have hp':Ylv (Xd ob c.lp):=by rw[hx.hp]; simp
  simp[Zai,hx.hy,hx.hl,hx.hp];refine hY hx hi (by omega) hno (fun g=>?_) (fun g=>?_)
  ·have:=h1 (by simp[Uy,g]) ob l (LS.refl _ _ _) hx;simp;exact (LS.refl c.lb ob l).leave hno (by simp) this
  ·have:=h2 [] (by simp[Uy,g]) ob l (LS.refl _ _ _) (by simpa using hx);rw[Ub4]at this;simp;exact Xgg (LS.refl c.lb ob l) hx hno (by simp) this
 | k+1,ob,l,fm,xs,hx,hi,hlen,hfm,K,h1,h2=>by
  refine Xn hP mixed Y90 Zcz TOk.nil fun _ hno=>?_;have k0:¬(k:Int)+1=0:=by omega
  simp[Zai,k0];simp[Yd5];refine ALoop.go (ι:=Xb×Nat×Nat) (fun x=>[(1,.d (.int .i64 (k+1:Nat))),(3,.ptr c.lb []),(4,.ptr c.nb []),(5,.ptr c.eb []),(9,.d (.int .i64 (x.2.2:Nat)))]) (fun x=>x.1)
   (fun x=>LS c.lb ob x.1 l x.2.1/\XE c x.1 x.2.1 xs/\x.2.2<=c.n/\(Uy (k+1) (U3 c.n fm)).find? (fun s=>!go (xs++s))=(Uy (k+1) (U3 c.n x.2.2)).find? (fun s=>!go (xs++s)))
   (fun x=>c.n-x.2.2) (ob,l,fm) ⟨LS.refl _ _ _,hx,hfm,rfl⟩ (by simp) (by simp) ?_
  rintro⟨o1,l1,i⟩ ⟨hs,hx1,hin,hf⟩ R rn re rr rp;dsimp only at hs hx1 hin hf rn⊢;have w1:IntKind.i64.wrap ((c.n:Int)-((k:Int)+1))=(c.n:Int)-((k:Int)+1):=IntWalk.i64_in _ (by omega);by_cases hlt:i+(k+1)<=c.n
  ·have g1:(i:Int)<=(c.n:Int)-((k:Int)+1):=by omega
   have hl':(Xd o1 l1).isSome=true:=by rw[hx1.hi]; rfl
   have hb':(Xd o1 c.lb).isSome=true:=by rw[hx1.hl]; rfl
   have hne:=hx1.ne.1;have e1:(l1==c.lb)=false:=by simpa using hne
   simp[Xxt,hx1.hn,hx1.hl,hx1.hi,w1,g1,e1,hb'];have hixl:(ixD xs).length=xs.length:=by simp[ixD]
   obtain⟨hs1,hx2⟩:=hx1.push (xs++[i]);have hpe:setO (setO o1 l1 (.arr 3 1 (ixD xs++[D.int IntKind.i64 i]))) c.lb (.box 30 (V.sl l1 (xs.length+1)))=Xbl c o1 l1 (xs++[i]):=by
    unfold Xbl; rw[Xs3]; simp
   rw[hixl,hpe];have wk:IntKind.i64.wrap (k:Int)=(k:Int):=IntWalk.i64_in _ (by omega);have wi:IntKind.i64.wrap ((i:Int)+1)=((i+1:Nat):Int):=by rw[IntWalk.i64_in _ (by omega)]; push_cast; rfl
   rw[wk,wi];generalize Xbl c o1 l1 (xs++[i])=o2 at hs1 hx2⊢;simp[hx2.he,Xys hP];refine⟨by omega,?_⟩;have hcons:U3 c.n i=i::U3 c.n (i+1):=X00 (by omega);have hfa:(Uy (k+1) (U3 c.n i)).find? (fun s=>!go (xs++s))=((((Uy k (U3 c.n (i+1))).find? (fun s=>!go ((xs++[i])++s))).map (i::·)).or ((Uy (k+1) (U3 c.n (i+1))).find? (fun s=>!go (xs++s)))):=by
    rw[hcons,Uy,List.find?_append,List.find?_map];congr 2;simp[Function.comp_def]
   refine Xrj hY hn k (fm:=i+1) hx2 (fun j hj=>?_) (by simp; omega) (by omega) (fun hnone ob' l' hs2 hx3=>?_) (fun s hsome ob' l' hs2 hx3=>?_)
   ·rcases Ubu.1 hj with hj | hj
    ·exact hi j hj
    ·rw[Uci.1 hj]; omega
   ·rw[hnone]at hfa;simp only[Option.map_none,Option.none_or]at hfa;have hne3:=hx3.ne.1;have e3:(l'==c.lb)=false:=by simpa using hne3
    have l'':(Xd ob' l').isSome=true:=by rw[hx3.hi]; rfl
    have b'':(Xd ob' c.lb).isSome=true:=by rw[hx3.hl]; rfl
    obtain⟨hs3,hx4⟩:=hx3.pop xs;have wx:IntKind.i64.wrap (xs.length:Int)=(xs.length:Int):=IntWalk.i64_in _ (by omega);simp[Xxu];have hixl2:(ixD (xs++[i])).length=xs.length+1:=by simp[ixD]
    have htk:(ixD (xs++[i])).take xs.length=ixD xs:=by
     have:(ixD xs).length=xs.length:=by simp[ixD]
     rw[Xs3,<-this]; simp
    have hnil:ixD (xs++[i]) ≠ []:=by simp[ixD]
    have e4:(Xa ob'==c.lb)=false:=by have:=Yd hx3.hl; simp; omega
    have b4:(Xd (setO ob' l' .gone) c.lb)=some (.box 30 (.sl l' (xs++[i]).length)):=by rw[Yy hne3]; exact hx3.hl
    simp[Yd3,hx3.hl,hx3.hi,e3,b'',wx,Yhy,Yli hx3.hi,hixl2,htk,hnil,e4,b4];refine⟨by omega,?_⟩;have wi':IntKind.i64.wrap ((i:Int)+1)=(i:Int)+1:=IntWalk.i64_in _ (by omega);simp[Yd4,wi'];have hs':=((hs.trans hs1).trans hs2).trans hs3;have hk:∀{j:Nat},(Xd (Xi0 c ob' l' xs) j).isSome=true->Xc (Xa o1) (U6 (Xi0 c ob' l' xs)) j=false:=fun h=>W5 h;refine rn (U6 (Xi0 c ob' l' xs)) (Xi0 c ob' l' xs,Xa ob',i+1) _ _ ⟨hs',hx4,by simp only; omega,hf.trans hfa⟩ (by simp only; omega) (by simp) (Y5 _ _ _ fun _ h=>h) ?_ ?_
    ·simp[hk (by rw[hx4.hl]; rfl:(Xd (Xi0 c ob' l' xs) c.lb).isSome=true),hk (by rw[hx4.hn]; rfl:(Xd (Xi0 c ob' l' xs) c.nb).isSome=true),hk (by rw[hx4.he]; rfl:(Xd (Xi0 c ob' l' xs) c.eb).isSome=true)]
    ·exact hs'.men _ (Qa hno hs.fr) fun j hj=>hk hj
   ·rw[hsome]at hfa;simp only[Option.map_some,Option.some_or]at hfa;simp[Xxu];refine rr _ _ ?_;simp;have e:xs++(i::s)=xs++[i]++s:=by simp
    have:=h2 (i::s) (hf.trans hfa) ob' l' ((hs.trans hs1).trans hs2) (by rw[e]; exact hx3);rw[<-e]at hx3;exact Xgg ((hs.trans hs1).trans hs2) hx3 hno (by simp) this
  ·have g1:¬(i:Int)<=(c.n:Int)-((k:Int)+1):=by omega
   simp[Xxt,hx1.hn,w1,g1];refine re _ _ _ ?_;simp;have hnone:(Uy (k+1) (U3 c.n i)).find? (fun s=>!go (xs++s))=none:=by
    rw[Xi6 _ _ (by simp[U3]; omega)]; rfl
   exact hs.leave hno (by simp) (h1 (hf.trans hnone) o1 l1 hs hx1)
end
end Go.Proofs.YtolkimpelpnpbaaGreatDoor
namespace Go.Py
open Go Go.Ab Go.Lx Go.Sx
def Qt (fs:List (Int×Int))(xs:List Nat):List (Int×Int):=xs.map fun i=>fs.getD i (0,0)
def Xe3 (l:List (Int×Int)):List (Int×Int):=l.foldl Xjj []
theorem Xf1 (l:List (Int×Int))(p:Int×Int):Xe3 (l++[p])=Xjj (Xe3 l) p:=by unfold Xe3; rw[Ucs]; rfl
theorem X1e (l:List (Int×Int))(p:Int×Int):p∈Xe3 l↔p∈l:=by
 have key:∀(l fs:List (Int×Int)),p∈l.foldl Xjj fs↔p∈fs\/p∈l:=by
  intro l;induction l with
  | nil=>simp
  | cons a r ih=>
   intro fs;rw[List.foldl_cons,ih,Xco,Uax,or_assoc]
 unfold Xe3;rw[key]; simp
theorem Xva (q:RQ)(l:List (Int×Int)):Zm q (Xe3 l)=Zm q l:=Xfy (X1e l)
theorem X4d {fs:List (Int×Int)}{xs:List Nat}{k:Nat}(hk:k<xs.length):Qt fs (xs.take (k+1))=Qt fs (xs.take k)++[fs.getD xs[k] (0,0)]:=by
 unfold Qt;rw[Ubj hk,Uca]; rfl
theorem Q0 (ob:Xb)(l:Nat)(h:(Xd ob l).isSome=true){o o':Ob}:Xd ((Xa ob+1,o)::(Xa ob,o')::ob) l=Xd ob l:=by
 have:=Yo h;rw[Yz (by omega),Yz (by omega)]
theorem Xek {i j:Nat}(h:i ≠ j)(a b:Ob):∀ob:Xb,setO (setO ob i a) j b=setO (setO ob j b) i a
 | []=>rfl
 | (k,o)::r=>by
  by_cases e1:k=i
  ·subst e1; simp[setO,h]
  ·by_cases e2:k=j
   ·subst e2; simp[setO,e1]
   ·simp[setO,e1,e2,Xek h a b r]
end Go.Py
namespace Go.Proofs.YtolkimpelpnpbaaGreatDoor
open Go Go.Ab Go.Lx Go.Sx Go.Py
section
variable {P:Prg} (hP:P.p=Tryz.prog)
include hP
abbrev Yd7 (P:Prg):Prop:=Vm P 18 [34] Qm Qn
theorem Yln (hLF:Xa2 P)(hL:Yd7 P){c:CE}{fs:List (Int×Int)}(hc:Yc c.t.src c.q=true)(hy:c.t.src.small)(hq:c.q.small)(hp:c.p.may.length<=9223372036854775807)(hfs:fs=X7 c.q)(hcn:c.n=fs.length)(hfd:c.fd=.list 2 (fs.map fD)\/fs=[]/\c.fd=.nils) :
  Xm7 P c (fun xs=>!Vt c.p c.q (Qt fs xs)) (fun xs=>.list 4 (((Qt fs xs).map (Y0 c.t.src)).map RRef.enc)):=by
 intro ob l xs K hx hi hlen hno h1 h2;refine AYield.lift (slk:=c.slk) hP mixed TOk.nil hL X9n X9o hx.hp rfl ?_;obtain⟨n0,n1,n2,n3,n4,n5,n6,n7,n8,m1,m2,m3,m4,m5,m6,m7,m8⟩:=hx.ne;have hp':(Xd ob c.lp).isSome=true:=by rw[hx.hp]; rfl
 obtain⟨_,al0,_⟩:=Zd hc;have al:=W9 c.q;rw[<-hfs]at al;have el:(l==c.lp)=false:=by simpa using n4
 have qs:c.q.enc.shape.size=17:=by rw[RQ.enc,D.shape]; simp[D.shapes]
 simp[X51,X52,CE.slk,hx.hp];have hl':(Xd ob l).isSome=true:=by rw[hx.hi]; rfl
 have hr':(Xd ob c.rb).isSome=true:=by rw[hx.hr]; rfl
 have hc':(Xd ob c.cb).isSome=true:=by rw[hx.hc]; rfl
 have hf':(Xd ob c.fb).isSome=true:=by rw[hx.hf]; rfl
 have hq':(Xd ob c.pb).isSome=true:=by rw[hx.hq]; rfl
 have ixl:(ixD xs).length=xs.length:=by simp[ixD]
 have l1:=Yd hx.hi;have e2:(c.lp==c.rb)=false:=by simp; intro e; have:=hx.hp; rw[e,hx.hr]at this; cases this
 have e3:(c.lp==c.cb)=false:=by simp; intro e; have:=hx.hp; rw[e,hx.hc]at this; cases this
 have e4:(c.lp==c.fb)=false:=by simp; intro e; have:=hx.hp; rw[e,hx.hf]at this; cases this
 have e5:(c.lp==c.pb)=false:=by simp; intro e; have:=hx.hp; rw[e,hx.hq]at this; cases this
 have e6:(c.lp==l)=false:=by simp; exact fun e=>n4 e.symm
 have hback:setO (setO ob c.lp (.lp 18 .busy c.slk)) c.lp (.lp 18 .ready c.slk)=ob:=by
  rw[Xc2]; exact X4e _ _ _ hx.hp
 have g1:Xd (setO ob c.lp (.lp 18 .busy c.slk)) l=some (.arr 3 1 (ixD xs)):=by simp[e6]; exact hx.hi
 have g2:Xd (setO ob c.lp (.lp 18 .busy c.slk)) c.fb=some (.box 66 (.d c.fd)):=by simp[e4]; exact hx.hf
 have g3:Xd (setO ob c.lp (.lp 18 .busy c.slk)) c.pb=some (.box 71 (.d c.p.enc)):=by simp[e5]; exact hx.hq
 have g4:Xd (setO ob c.lp (.lp 18 .busy c.slk)) c.rb=some (.box 45 (.d .nils)):=by simp[e2]; exact hx.hr
 have g5:Xd (setO ob c.lp (.lp 18 .busy c.slk)) c.cb=some (.box 46 (.d (.int .i64 0))):=by simp[e3]; exact hx.hc
 have g6:Xd (setO ob c.lp (.lp 18 .busy c.slk)) c.lp=some (.lp 18 .busy c.slk):=by simp[hp']
 have g7:Xa (setO ob c.lp (.lp 18 .busy c.slk))=Xa ob:=by simp
 have g8:∀kp,Xh (Xc (Xa ob) kp) (setO ob c.lp (.lp 18 .busy c.slk))=true:=fun kp=>Qo _ _ _ _ _ (hno kp) (by simp[CE.slk,hr',hc',hf',hq']);rw[<-show c.slk=[(2,V.d c.t.enc.ref),(3,V.d c.q.enc.ref),(4,V.ptr c.rb []),(5,V.ptr c.cb []),(7,V.ptr c.fb []),(8,V.ptr c.pb [])] from rfl];generalize hob1:setO ob c.lp (.lp 18 .busy c.slk)=ob1 at hback g1 g2 g3 g4 g5 g6 g7 g8⊢;have j1:(Xd ob1 l).isSome=true:=by rw[g1]; rfl
 have j2:(Xd ob1 c.fb).isSome=true:=by rw[g2]; rfl
 have j3:(Xd ob1 c.pb).isSome=true:=by rw[g3]; rfl
 have j4:(Xd ob1 c.rb).isSome=true:=by rw[g4]; rfl
 have j5:(Xd ob1 c.cb).isSome=true:=by rw[g5]; rfl
 have j6:(Xd ob1 c.lp).isSome=true:=by rw[g6]; rfl
 rw[<-g7]at g8⊢;have k1:=Yo j1;have k2:=Yo j2;have k3:=Yo j3;have k4:=Yo j4;have k5:=Yo j5;have k6:=Yo j6;refine⟨.inl ⟨_,_,_,by rw[Q0 ob1 l j1]; exact g1,ixl.symm⟩,?_⟩;refine ALoop.upto xs.length (fun k=>[(2,V.d c.t.enc.ref),(3,V.d c.q.enc.ref),(4,V.ptr c.rb []),(5,V.ptr c.cb []),(7,V.ptr c.fb []),(8,V.ptr c.pb []),(10,V.mp (Xa ob1)),(11,V.sl (Xa ob1+1) k),(36,V.sl l xs.length),(37,V.d (D.int IntKind.i64 xs.length)),(38,V.d (D.int IntKind.i64 k))])
  (fun k=>(Xa ob1+1,.arr 76 2 ((Qt fs (xs.take k)).map fD))::(Xa ob1,.map ((Xe3 (Qt fs (xs.take k))).map Uq))::ob1) (fun _=>True) trivial (by simp) (by simp[Qt,Xe3]) ?_ ?_
 ·intro k hk _ R rn re rr rp;have wr:IntKind.i64.wrap ((k:Int)+1)=(k:Int)+1:=IntWalk.i64_in _ (by omega);have hik:xs[k]<fs.length:=by rw[<-hcn]; exact hi _ (Uba hk)
  have hfd':c.fd=.list 2 (fs.map fD):=by
   rcases hfd with h | ⟨e,_⟩
   ·exact h
   ·rw[e]at hik; simp at hik
  rw[hfd']at g2;have hst:=X4d (fs:=fs) hk;have hge:fs.getD xs[k] (0,0)=fs[xs[k]]:=by simp[List.getD,hik]
  rw[hge]at hst;have hix:∀h,(ixD xs)[k]'h=.int .i64 (xs[k]:Nat):=fun h=>by simp[ixD]
  simp[Xrf,hk,j1,j2,g1,g2,hix,hik,wr,ixl];have hsl:(Qt fs (xs.take k)).length=k:=by simp[Qt]; omega
  refine⟨⟨rfl,rfl⟩,Xcs _ _,⟨rfl,rfl⟩,rfl,hsl.symm,by rw[hsl]; omega,?_⟩;rw[Xjd,hsl];refine rn [] _ _ trivial (by simp) ?_ ?_ ?_
  ·rw[hst,Xf1]; simp[Xc]
  ·simp[Xc]; omega
  ·rw[hst,Xf1]; simp[Xc];exact⟨Xdo _ _,Xq 2 g8⟩
 ·intro _ R re rr rp;simp[Xrf];refine re _ _ _ ?_;simp[qs];have hck:=Xkd hc;refine⟨⟨by rw[<-Ran]; exact qs,rfl⟩,Xjs hP (Xcw _ _ _ _ _ hck) (fs:=Xe3 (Qt fs xs)) (by simp) (fun d hd=>?_)⟩;rw[Xva]at hd⊢;have hds:d.shape=qSh:=by rw[<-Xac hd]; simp[RQ.enc,RQ.withF,D.shape,D.shapes]
  have qz:qSh.size=17:=rfl;have qsh:c.q.enc.shape=qSh:=by simp[RQ.enc,D.shape,D.shapes]
  have hda:(V.d d).isAgg=true:=by
   have:=hd.same.2;cases d<;>first | rfl | (exfalso; revert this; simp[RQ.enc,D.isAgg])
  have hdm:(match V.d d with | V.d (D.agg xs)=>true | V.agg xs=>true | x=>false)=true:=by
   cases d<;>first | rfl | (revert hda; simp[V.isAgg])
  have dz:d.sz=17:=by rw[<-Ran,hds]; rfl
  have fin:∀(x y z:Ob),K (.ret (.d (.bool true))) ob->X8 (Xa ob1) (K (.ret (.d (.bool true)))) [] ((Xa ob1+2,x)::(Xa ob1+1,y)::(Xa ob1,z)::setO ob1 c.lp (.lp 18 .ready c.slk)):=fun x y z hK=>by
   rw[hback,g7];exact⟨[],by simp,by simp[Xc]; exact hno _,by simpa[Xc]using hK⟩
  simp[hds,qz,qsh];cases hr:(rbF (Zm c.q (Qt fs xs)) c.q.form).2 with
  | false=>
   have hg:Vt c.p c.q (Qt fs xs)=false:=by unfold Vt; rw[hr,Bool.false_and]
   have hK:=h1 (by simp[hg]);simp[Xrg,hds,qz,qsh,dz,hdm,g6];exact fin _ _ _ hK
  | true=>
   have hc2:=Xrx hc hr;obtain⟨_,al2,_⟩:=Zd hc2;have hg:Vt c.p c.q (Qt fs xs)=Xg8 c.p (c.q.withF (rbF (Zm c.q (Qt fs xs)) c.q.form).1):=by unfold Vt; rw[hr,Ucv]
   have hq2:(c.q.withF (rbF (Zm c.q (Qt fs xs)) c.q.form).1).small:=⟨hq.vars,Xef _ _ hq.form⟩
   simp[Xrg,hds,qz,qsh,dz,hdm,g3,j3];refine⟨hdm,⟨rfl,rfl⟩,hdm,⟨rfl,rfl⟩,PCall.le (xs:=[c.p.enc,d]) (ys:=[c.p.enc,(c.q.withF (rbF (Zm c.q (Qt fs xs)) c.q.form).1).enc]) (Rcy.cons (D.le.refl _) (Rcy.cons hd Rcy.nil)) (Ymn hP hLF hp hq2 (by omega) ?_)⟩;rw[<-hg];cases hf:Vt c.p c.q (Qt fs xs) with
   | false=>
    have hK:=h1 (by simp[hf]);simp[g6];exact fin _ _ _ hK
   | true=>
    have hK:=h2 (by simp[hf]);have hte:c.t.enc=.agg [c.t.src.enc,Xcd c.t.order]:=rfl;have ssz:c.t.src.enc.sz=6:=rfl;have hsl:(Qt fs xs).length=xs.length:=by simp[Qt]
    have hin:∀p∈Qt fs xs,inR c.t.src p:=fun p hp=>by
     unfold Qt at hp;obtain⟨i,him,rfl⟩:=Ua5.1 hp;have hil:i<fs.length:=by rw[<-hcn]; exact hi i him
     refine X6j hc _ ?_;rw[<-hfs];simp[List.getD,hil]
    have hstop:setO (setO (setO ob1 c.rb (.box 45 (.d (.list 4 (((Qt fs xs).map (Y0 c.t.src)).map RRef.enc))))) c.cb (.box 46 (.d (.int .i64 0)))) c.lp (.lp 18 .ret c.slk)=V9 c (.list 4 (((Qt fs xs).map (Y0 c.t.src)).map RRef.enc)) ob:=by
     have f2:c.lp ≠ c.rb:=by simpa using e2
     have f3:c.lp ≠ c.cb:=by simpa using e3
     unfold V9;rw[<-hob1,Xek f2,Xek f3,Xc2]
    have jn:∀(x y:Ob),Xd (setO (setO ob1 c.rb x) c.cb y) c.lp=some (.lp 18 .busy c.slk):=fun x y=>by
     rw[Yy (by intro e; have:=hx.hp; rw[<-e,hx.hc]at this; cases this),Yy (by intro e; have:=hx.hp; rw[<-e,hx.hr]at this; cases this)];exact g6
    have jc:∀(x:Ob),Xd (setO ob1 c.rb x) c.cb=some (.box 46 (.d (.int .i64 0))):=fun x=>by
     by_cases e:c.rb=c.cb
     ·have:=g4; rw[e,g5]at this; cases this
     ·rw[Yy e]; exact g5
    simp[hte,ssz];refine⟨rfl,ACall.giv (l:=[c.t.src.enc,.list 2 ((Qt fs xs).map fD)]) (ob':=(Xa ob1+2,.box 42 (.d d))::(Xa ob1+1,.gone)::(Xa ob1,.map ((Xe3 (Qt fs xs)).map Uq))::ob1) (by simp[hsl]) (Rbz (Yms hP hy (l:=Qt fs xs) (by rw[hsl]; omega) hin (.inl rfl) ?_))⟩;simp[g4,j4,j5,j6,jc,jn];rw[<-List.map_map,hstop,g7];simp only at hK;generalize hS:V9 c (.list 4 (((Qt fs xs).map (Y0 c.t.src)).map RRef.enc)) ob=S at hK⊢;have hSf:Xa S=Xa ob:=by rw[<-hS]; simp[V9]
    have hSn:∀kp,Xh (Xc (Xa ob) kp) S=true:=fun kp=>by
     rw[<-hS];exact Qo _ _ _ _ _ (Xl _ _ _ _ _ (Xl _ _ _ _ _ (hno kp) (by simp)) (by simp)) (by simp[CE.slk,hr',hc',hf',hq'])
    rw[<-hSf]at hSn⊢;exact⟨[],by simp,by simp[Xc]; exact hSn _,by simpa[Xc]using hK⟩
end
end Go.Proofs.YtolkimpelpnpbaaGreatDoor
